/- Gaps of a branch as they were; the reference's decimals and text. -/
import Derived.Test.YtgcodedanljhpaaDoorNC
import Derived.Test.YtgcodedanljhpaaDoorND
import Derived.Test.YtgcodedanljhpaaDoorAcNil
import Derived.Test.YtgcodedanljhpaaDoorLPa
import Derived.Test.YtgcodedanljhpaaDoorLXa
import Derived.Test.YtgcodedanljhpaaDoorMS
import Derived.Test.YtgcodedanljhpaaDoorMH
set_option linter.unusedSimpArgs false
set_option linter.unusedVariables false
section
set_option maxRecDepth 1000000
set_option maxHeartbeats 8000000
namespace Go.Ab
open Go Go.Proofs Go.Sort
theorem bd_NE : type_of% (And.intro @evNext.eq_1 (And.intro @fld (And.intro @nit (And.intro @nxE (And.intro @ghR (And.intro @ovR (And.intro @evBin_seql (And.intro @evBin_sneq (And.intro @str.eq_1 (And.intro @u8.eq_1 (And.intro @encBrs.eq_1 (And.intro @cBr.eq_1 (And.intro @encLdg.eq_1 (And.intro @encKws.eq_1 (And.intro @cKw.eq_1 (And.intro @encEvss.eq_1 (And.intro @encEvs.eq_1 (And.intro @cEv.eq_1 (And.intro @encMks.eq_1 (And.intro @cMk.eq_1 (And.intro @encStrs.eq_1 (And.intro @encFxs.eq_1 (And.intro @cFx.eq_1 (And.intro @cGp.eq_1 (And.intro @tk2 (And.intro @tk3 (And.intro @List.set_cons_succ.{0} (And.intro @List.getElem?_cons_zero.{0} (And.intro @List.getElem?_cons_succ.{0} (@List.length_set.{0})))))))))))))))))))))))))))))) := And.intro @evNext.eq_1 (And.intro @fld (And.intro @nit (And.intro @nxE (And.intro @ghR (And.intro @ovR (And.intro @evBin_seql (And.intro @evBin_sneq (And.intro @str.eq_1 (And.intro @u8.eq_1 (And.intro @encBrs.eq_1 (And.intro @cBr.eq_1 (And.intro @encLdg.eq_1 (And.intro @encKws.eq_1 (And.intro @cKw.eq_1 (And.intro @encEvss.eq_1 (And.intro @encEvs.eq_1 (And.intro @cEv.eq_1 (And.intro @encMks.eq_1 (And.intro @cMk.eq_1 (And.intro @encStrs.eq_1 (And.intro @encFxs.eq_1 (And.intro @cFx.eq_1 (And.intro @cGp.eq_1 (And.intro @tk2 (And.intro @tk3 (And.intro @List.set_cons_succ.{0} (And.intro @List.getElem?_cons_zero.{0} (And.intro @List.getElem?_cons_succ.{0} (@List.length_set.{0})))))))))))))))))))))))))))))
theorem gaps_nil (x : List Fx) (b : Str) (inn : List Int) (hx : x.length ≤ 2^30) (hb : ∀ f ∈ x, f.brs.length ≤ 2^40) (hi : inn.length ≤ 2^40) (σ : Store) (nx : Nat) :
    StSpec cx 30 [.lit (.slice none 0 0), encFxs x, str b, encL inn] σ nx
      (fun r σ' nx' => nx + 1 ≤ nx' ∧ ∃ ver', r = .own nx ver' 0 ((gapsOf x b inn).map cGp).length false ∧ σ' = σ.put nx (.row ver' 3 ((gapsOf x b inn).map cGp) false)) := by
  refine StSpec.nilArg 3 ?_
  refine (m_gaps x b inn hx hb hi (σ.put nx (.row 0 3 [] false)) (nx + 1) nx 0 [] (by simp) (by simp [Store.put])).mono ?_
  rintro r σ' nx' ⟨h1, ver', rfl, rfl⟩
  exact ⟨h1, ver', by simp, by rw [put_put]; simp⟩
theorem m_Then (l : Ldg) (x : List Fx) (b : Str) (n : Int) (hz : LSz l) (hx40 : x.length ≤ 2^40) (hb40 : ∀ f ∈ x, f.brs.length ≤ 2^40) : CallSpec cx 11 [encLdg l, encFxs x, str b, i64 n] (.tup [newGps (mthen l x b n).1, i64 (mthen l x b n).2]) := by
  refine callSpec_of_vc Tryd.func11 rfl (by decide) (by kernel_rfl) (Nat.le_of_ble_eq_true rfl) ?_
  try simp -dsimp (disch := first | omega | decide +kernel) only [↓bp0, bd0, bd_NE, reduceIte, Nat.reduceEqDiff, evStore, Nat.reduceAdd, Nat.reduceMul, Int.reduceEq, Int.reduceLT, Int.reduceLE, Nat.reduceLeDiff, List.reduceReplicate, reduceCtorEq, evRange, Nat.reduceLT, Tryd.f11]
  refine CallQ.imm (m_Check l x hz hx40 hb40) (by rfl) (by rfl) (by first | exact .inl rfl | exact .inr rfl | exact .inr scalB | exact .inr scalI | exact .inr scalT | exact .inr scalM | exact .inr scalMT | exact .inr scalGT) ?_
  cases h0 : decide (mchk l x = 0)
  · simp -dsimp (disch := first | omega | decide +kernel) only [↓bp0, bd0, bd_NE, reduceIte, Nat.reduceEqDiff, evStore, Nat.reduceAdd, Nat.reduceMul, Int.reduceEq, Int.reduceLT, Int.reduceLE, Nat.reduceLeDiff, List.reduceReplicate, reduceCtorEq, evRange, Nat.reduceLT, retQ, resL, finL, newL, flat, tupOf, List.toList_toArray, Tryd.f11, h0, newGps]
    rw [mthen, if_pos (of_decide_eq_false h0)]
    exact ⟨.inr ⟨rfl, 3, rfl⟩, .rfl', trivial⟩
  have h0' := of_decide_eq_true h0
  obtain ⟨hl0, hx30, _⟩ := mchk_zero h0'
  have hok := lok_of hl0
  try simp -dsimp (disch := first | omega | decide +kernel) only [↓bp0, bd0, bd_NE, reduceIte, Nat.reduceEqDiff, evStore, Nat.reduceAdd, Nat.reduceMul, Int.reduceEq, Int.reduceLT, Int.reduceLE, Nat.reduceLeDiff, List.reduceReplicate, reduceCtorEq, evRange, Nat.reduceLT, h0]
  refine CallQ.imm (d_After l b n hz) (by rfl) (by rfl) (by first | exact .inl rfl | exact .inr rfl | exact .inr scalB | exact .inr scalI | exact .inr scalT | exact .inr scalM | exact .inr scalMT | exact .inr scalGT) ?_
  cases h1 : decide ((laft l b n).2 = 0)
  · simp -dsimp (disch := first | omega | decide +kernel) only [↓bp0, bd0, bd_NE, reduceIte, Nat.reduceEqDiff, evStore, Nat.reduceAdd, Nat.reduceMul, Int.reduceEq, Int.reduceLT, Int.reduceLE, Nat.reduceLeDiff, List.reduceReplicate, reduceCtorEq, evRange, Nat.reduceLT, retQ, resL, finL, newL, flat, tupOf, List.toList_toArray, Tryd.f11, h1, newGps, newI]
    rw [mthen, if_neg (by rw [Decidable.not_not]; exact h0'), if_pos (of_decide_eq_false h1)]
    exact ⟨.inr ⟨rfl, 3, rfl⟩, .rfl', trivial⟩
  have h1' := of_decide_eq_true h1
  obtain ⟨_, i, hi, _⟩ := laft_at h1'
  rw [mthen, if_neg (by rw [Decidable.not_not]; exact h0'), if_neg (by rw [Decidable.not_not]; exact h1')]
  have hlen := laft_len (l := l) (b := b) (n := n)
  generalize (laft l b n).1 = inn at hlen ⊢
  have hor := srtB_ref i inn h0'
  have hga := oneA_gaps i inn h0'
  have hol : (oneA i inn x).length ≤ 30 := by rw [oneA, List.length_map]; exact Nat.le_trans (List.length_filter_le _ _) hx30
  rw [hi] at hor hga
  try simp -dsimp (disch := first | omega | decide +kernel) only [↓bp0, bd0, bd_NE, reduceIte, Nat.reduceEqDiff, evStore, Nat.reduceAdd, Nat.reduceMul, Int.reduceEq, Int.reduceLT, Int.reduceLE, Nat.reduceLeDiff, List.reduceReplicate, reduceCtorEq, evRange, Nat.reduceLT, newI, h1]
  refine vc_regJ (fun τ => τ 0 = some (.row 0 3 [[encKws l.known, encBrs l.brs, encEvss l.evs]] false)) [0, 1, 2, 3] [4, 5] (by kernel_rfl) (by kernel_rfl) ?_ ?_
  · exact (by simp -dsimp (disch := first | omega | decide +kernel) only [↓bp0, bd0, bd_NE, reduceIte, Nat.reduceEqDiff, evStore, Nat.reduceAdd, Nat.reduceMul, Int.reduceEq, Int.reduceLT, Int.reduceLE, Nat.reduceLeDiff, List.reduceReplicate, reduceCtorEq, evRange, Nat.reduceLT])
  try simp -dsimp (disch := first | omega | decide +kernel) only [↓bp0, bd0, bd_NE, reduceIte, Nat.reduceEqDiff, evStore, Nat.reduceAdd, Nat.reduceMul, Int.reduceEq, Int.reduceLT, Int.reduceLE, Nat.reduceLeDiff, List.reduceReplicate, reduceCtorEq, evRange, Nat.reduceLT, vcj, implies_true]
  refine ⟨fun τ hτ => by simp -dsimp (disch := first | omega | decide +kernel) only [↓bp0, bd0, bd_NE, reduceIte, Nat.reduceEqDiff, evStore, Nat.reduceAdd, Nat.reduceMul, Int.reduceEq, Int.reduceLT, Int.reduceLE, Nat.reduceLeDiff, List.reduceReplicate, reduceCtorEq, evRange, Nat.reduceLT, hτ], ?_⟩
  try simp -dsimp (disch := first | omega | decide +kernel) only [↓bp0, bd0, bd_NE, reduceIte, Nat.reduceEqDiff, evStore, Nat.reduceAdd, Nat.reduceMul, Int.reduceEq, Int.reduceLT, Int.reduceLE, Nat.reduceLeDiff, List.reduceReplicate, reduceCtorEq, evRange, Nat.reduceLT, vcj, implies_true]
  refine EffQ.inm (gaps_nil x b inn (by omega) hb40 (by omega) _ _) ⟨_, _, _, Nat.le_refl _, 0, rfl, rfl⟩ (by rfl) ?_
  rintro r σ' nx' ⟨hn1, ver', rfl, rfl⟩
  have hn2 : 2 ≤ nx' := hn1
  refine ⟨.inr (by simp -dsimp (disch := first | omega | decide +kernel) only [↓bp0, bd0, bd_NE, reduceIte, Nat.reduceEqDiff, evStore, Nat.reduceAdd, Nat.reduceMul, Int.reduceEq, Int.reduceLT, Int.reduceLE, Nat.reduceLeDiff, List.reduceReplicate, reduceCtorEq, evRange, Nat.reduceLT]), ?_⟩
  try simp -dsimp (disch := first | omega | decide +kernel) only [↓bp0, bd0, bd_NE, reduceIte, Nat.reduceEqDiff, evStore, Nat.reduceAdd, Nat.reduceMul, Int.reduceEq, Int.reduceLT, Int.reduceLE, Nat.reduceLeDiff, List.reduceReplicate, reduceCtorEq, evRange, Nat.reduceLT]
  rw [hga]
  have hrl : (rowsOf (encG l) (oneA i inn x)).length = (oneA i inn x).length := by rw [rowsOf, List.length_map]
  refine EffQ.inm (m_order l hok _ _ 1 ver' (oneA i inn x) false (by omega) (by simp -dsimp (disch := first | omega | decide +kernel) only [↓bp0, bd0, bd_NE, reduceIte, Nat.reduceEqDiff, evStore, Nat.reduceAdd, Nat.reduceMul, Int.reduceEq, Int.reduceLT, Int.reduceLE, Nat.reduceLeDiff, List.reduceReplicate, reduceCtorEq, evRange, Nat.reduceLT])) ⟨_, _, _, Nat.le_refl _, rfl, rfl⟩ (by rw [hrl]; rfl) ?_
  rintro r σ' nx2 ⟨hn3, rfl, rfl⟩
  refine ⟨.inl (by kernel_rfl), ?_⟩
  have hsl : (srtG (oneA i inn x)).length = (oneA i inn x).length := List.length_mergeSort _
  have hr1 : (rowsOf (encG l) (srtG (oneA i inn x))).length = (srtG (oneA i inn x)).length := by rw [rowsOf, List.length_map]
  have hr2 : ((rowsOf (encG l) (srtG (oneA i inn x))).all fun e => e.all flat) = true := by rw [List.all_eq_true]; intro e he; obtain ⟨b, _, rfl⟩ := List.mem_map.1 he; rfl
  have hr3 : (rowsOf (encG l) (srtG (oneA i inn x))).take (srtG (oneA i inn x)).length = rowsOf (encG l) (srtG (oneA i inn x)) := List.take_of_length_le (by omega)
  rw [← hor, newGps, ← toG_enc, ← hsl]
  simp -dsimp (disch := first | omega | decide +kernel) only [↓bp0, bd0, bd_NE, reduceIte, Nat.reduceEqDiff, evStore, Nat.reduceAdd, Nat.reduceMul, Int.reduceEq, Int.reduceLT, Int.reduceLE, Nat.reduceLeDiff, List.reduceReplicate, reduceCtorEq, evRange, Nat.reduceLT, retQ, resL, finL, newL, flat, tupOf, List.toList_toArray, Tryd.f11, hr1, hr2, hr3, List.drop_zero]
  exact ⟨.rfl', .rfl', trivial⟩
end Go.Ab
end

section
/- The reference's decimals and text; the law MissingTells. -/
set_option maxRecDepth 1000000
set_option maxHeartbeats 8000000
namespace Go.Ab
open Go Go.Proofs Go.Sort
theorem cvI8 {σ : Store} {n : Int} : evConv cx σ 3 5 (.lit (.int .i64 n)) = some (.lit (.int .u8 (IntKind.u8.wrap n))) := by rfl
theorem cvB {σ : Store} {id ver off len : Nat} {c : Bool} : evConv cx σ 79 9 (.own id ver off len c) = match σ id with
    | some (.row ver' _ es _) => if ver = ver' ∧ off + len ≤ es.length then (match byteL ((es.drop off).take len) with
      | some ns => some (.lit (.string (bstr ns)))
      | none => none) else none
    | _ => none := by
  have h : bytesT cx 79 9 = true := by kernel_rfl
  simp only [evConv, h, and_true]
  first | rfl | (split <;> rfl)
theorem btT : bytesT cx 79 9 = true := by kernel_rfl
theorem dec_one : ∀ n : Fin 10, bstr [((48 + n.val : Nat) : Int)] = dec n.val := by decide +kernel
theorem dec_two : ∀ n : Fin 100, n.val < 10 ∨ dec (n.val / 10) ++ dec (n.val % 10) = dec n.val := by decide +kernel
end Go.Ab
end
