/- Gaps of a branch as they were; the reference's decimals and text. -/
import Derived.Test.YtgcodedanljhpaaGreatDoorNC
import Derived.Test.YtgcodedanljhpaaGreatDoorND
import Derived.Test.YtgcodedanljhpaaGreatDoorAcNil
import Derived.Test.YtgcodedanljhpaaGreatDoorLPa
import Derived.Test.YtgcodedanljhpaaGreatDoorLXa
import Derived.Test.YtgcodedanljhpaaGreatDoorMS
import Derived.Test.YtgcodedanljhpaaGreatDoorMH
set_option linter.unusedSimpArgs false
set_option linter.unusedVariables false
section
set_option maxRecDepth 1000000
set_option maxHeartbeats 8000000
namespace Go.Ab
open Go Go.Proofs Go.Sort
theorem bd_NE : type_of% (And.intro @evNext.eq_1 (And.intro @fld (And.intro @nit (And.intro @nxE (And.intro @ghR (And.intro @ovR (And.intro @evBin_seql (And.intro @evBin_sneq (And.intro @str.eq_1 (And.intro @u8.eq_1 (And.intro @encBrs.eq_1 (And.intro @cBr.eq_1 (And.intro @encLdg.eq_1 (And.intro @encKws.eq_1 (And.intro @cKw.eq_1 (And.intro @encEvss.eq_1 (And.intro @encEvs.eq_1 (And.intro @cEv.eq_1 (And.intro @encMks.eq_1 (And.intro @cMk.eq_1 (And.intro @encStrs.eq_1 (And.intro @encFxs.eq_1 (And.intro @cFx.eq_1 (And.intro @cGp.eq_1 (And.intro @tk2 (And.intro @tk3 (And.intro @List.set_cons_succ.{0} (And.intro @List.getElem?_cons_zero.{0} (And.intro @List.getElem?_cons_succ.{0} (@List.length_set.{0})))))))))))))))))))))))))))))) := And.intro @evNext.eq_1 (And.intro @fld (And.intro @nit (And.intro @nxE (And.intro @ghR (And.intro @ovR (And.intro @evBin_seql (And.intro @evBin_sneq (And.intro @str.eq_1 (And.intro @u8.eq_1 (And.intro @encBrs.eq_1 (And.intro @cBr.eq_1 (And.intro @encLdg.eq_1 (And.intro @encKws.eq_1 (And.intro @cKw.eq_1 (And.intro @encEvss.eq_1 (And.intro @encEvs.eq_1 (And.intro @cEv.eq_1 (And.intro @encMks.eq_1 (And.intro @cMk.eq_1 (And.intro @encStrs.eq_1 (And.intro @encFxs.eq_1 (And.intro @cFx.eq_1 (And.intro @cGp.eq_1 (And.intro @tk2 (And.intro @tk3 (And.intro @List.set_cons_succ.{0} (And.intro @List.getElem?_cons_zero.{0} (And.intro @List.getElem?_cons_succ.{0} (@List.length_set.{0})))))))))))))))))))))))))))))
theorem gaps_nil (x : List Fx) (b : Str) (inn : List Int) (hx : x.length ≤ 2^30) (hb : ∀ f ∈ x, f.brs.length ≤ 2^40) (hi : inn.length ≤ 2^40) (σ : Store) (nx : Nat) :
    StSpec cx 58 [.lit (.slice none 0 0), encFxs x, str b, encL inn] σ nx
      (fun r σ' nx' => nx + 1 ≤ nx' ∧ ∃ ver', r = .own nx ver' 0 ((gapsOf x b inn).map cGp).length false ∧ σ' = σ.put nx (.row ver' 3 ((gapsOf x b inn).map cGp) false)) := by
  refine StSpec.nilArg 3 ?_
  refine (m_gaps x b inn hx hb hi (σ.put nx (.row 0 3 [] false)) (nx + 1) nx 0 [] (by simp) (by simp [Store.put])).mono ?_
  rintro r σ' nx' ⟨h1, ver', rfl, rfl⟩
  exact ⟨h1, ver', by simp, by rw [put_put]; simp⟩
theorem m_Then (l : Ldg) (x : List Fx) (b : Str) (n : Int) (hz : LSz l) (hx40 : x.length ≤ 2^40) (hb40 : ∀ f ∈ x, f.brs.length ≤ 2^40) : CallSpec cx 13 [encLdg l, encFxs x, str b, i64 n] (.tup [newGps (mthen l x b n).1, i64 (mthen l x b n).2]) := by
  refine callSpec_of_vc Tryz.func13 rfl (by decide) (by kernel_rfl) (Nat.le_of_ble_eq_true rfl) ?_
  try simp -dsimp (disch := first | omega | decide +kernel) only [↓bp0, bd0, bd_NE, reduceIte, Nat.reduceEqDiff, evStore, Nat.reduceAdd, Nat.reduceMul, Int.reduceEq, Int.reduceLT, Int.reduceLE, Nat.reduceLeDiff, List.reduceReplicate, reduceCtorEq, evRange, Nat.reduceLT, Tryz.f13]
  refine CallQ.imm (m_Check l x hz hx40 hb40) (by rfl) (by rfl) (by first | exact .inl rfl | exact .inr rfl | exact .inr scalB | exact .inr scalI | exact .inr scalT | exact .inr scalM | exact .inr scalMT | exact .inr scalGT) ?_
  cases h0 : decide (mchk l x = 0)
  · simp -dsimp (disch := first | omega | decide +kernel) only [↓bp0, bd0, bd_NE, reduceIte, Nat.reduceEqDiff, evStore, Nat.reduceAdd, Nat.reduceMul, Int.reduceEq, Int.reduceLT, Int.reduceLE, Nat.reduceLeDiff, List.reduceReplicate, reduceCtorEq, evRange, Nat.reduceLT, retQ, resL, finL, newL, flat, tupOf, List.toList_toArray, Tryz.f13, h0, newGps]
    rw [mthen, if_pos (of_decide_eq_false h0)]
    exact ⟨.inr ⟨rfl, 3, rfl⟩, .rfl', trivial⟩
  have h0' := of_decide_eq_true h0
  obtain ⟨hl0, hx30, _⟩ := mchk_zero h0'
  have hok := lok_of hl0
  try simp -dsimp (disch := first | omega | decide +kernel) only [↓bp0, bd0, bd_NE, reduceIte, Nat.reduceEqDiff, evStore, Nat.reduceAdd, Nat.reduceMul, Int.reduceEq, Int.reduceLT, Int.reduceLE, Nat.reduceLeDiff, List.reduceReplicate, reduceCtorEq, evRange, Nat.reduceLT, h0]
  refine CallQ.imm (d_After l b n hz) (by rfl) (by rfl) (by first | exact .inl rfl | exact .inr rfl | exact .inr scalB | exact .inr scalI | exact .inr scalT | exact .inr scalM | exact .inr scalMT | exact .inr scalGT) ?_
  cases h1 : decide ((laft l b n).2 = 0)
  · simp -dsimp (disch := first | omega | decide +kernel) only [↓bp0, bd0, bd_NE, reduceIte, Nat.reduceEqDiff, evStore, Nat.reduceAdd, Nat.reduceMul, Int.reduceEq, Int.reduceLT, Int.reduceLE, Nat.reduceLeDiff, List.reduceReplicate, reduceCtorEq, evRange, Nat.reduceLT, retQ, resL, finL, newL, flat, tupOf, List.toList_toArray, Tryz.f13, h1, newGps, newI]
    rw [mthen, if_neg (by rw [Decidable.not_not]; exact h0'), if_pos (of_decide_eq_false h1)]
    exact ⟨.inr ⟨rfl, 3, rfl⟩, .rfl', trivial⟩
  have h1' := of_decide_eq_true h1
  obtain ⟨_, i, hi, _⟩ := laft_at h1'
  rw [mthen, if_neg (by rw [Decidable.not_not]; exact h0'), if_neg (by rw [Decidable.not_not]; exact h1')]
  have hlen := laft_len (l := l) (b := b) (n := n)
  generalize (laft l b n).1 = inn at hlen ⊢
  have hor := srtB_ref i inn h0'
  have hga := oneA_gaps i inn h0'
  have hol : (oneA i inn x).length ≤ 30 := by rw [oneA, List.length_map]; exact Nat.le_trans (List.length_filter_le _ _) hx30
  rw [hi] at hor hga
  try simp -dsimp (disch := first | omega | decide +kernel) only [↓bp0, bd0, bd_NE, reduceIte, Nat.reduceEqDiff, evStore, Nat.reduceAdd, Nat.reduceMul, Int.reduceEq, Int.reduceLT, Int.reduceLE, Nat.reduceLeDiff, List.reduceReplicate, reduceCtorEq, evRange, Nat.reduceLT, newI, h1]
  refine vc_regJ (fun τ => τ 0 = some (.row 0 3 [[encKws l.known, encBrs l.brs, encEvss l.evs]] false)) [0, 1, 2, 3] [4, 5] (by kernel_rfl) (by kernel_rfl) ?_ ?_
  · exact (by simp -dsimp (disch := first | omega | decide +kernel) only [↓bp0, bd0, bd_NE, reduceIte, Nat.reduceEqDiff, evStore, Nat.reduceAdd, Nat.reduceMul, Int.reduceEq, Int.reduceLT, Int.reduceLE, Nat.reduceLeDiff, List.reduceReplicate, reduceCtorEq, evRange, Nat.reduceLT])
  try simp -dsimp (disch := first | omega | decide +kernel) only [↓bp0, bd0, bd_NE, reduceIte, Nat.reduceEqDiff, evStore, Nat.reduceAdd, Nat.reduceMul, Int.reduceEq, Int.reduceLT, Int.reduceLE, Nat.reduceLeDiff, List.reduceReplicate, reduceCtorEq, evRange, Nat.reduceLT, vcj, implies_true]
  refine ⟨fun τ hτ => by simp -dsimp (disch := first | omega | decide +kernel) only [↓bp0, bd0, bd_NE, reduceIte, Nat.reduceEqDiff, evStore, Nat.reduceAdd, Nat.reduceMul, Int.reduceEq, Int.reduceLT, Int.reduceLE, Nat.reduceLeDiff, List.reduceReplicate, reduceCtorEq, evRange, Nat.reduceLT, hτ], ?_⟩
  try simp -dsimp (disch := first | omega | decide +kernel) only [↓bp0, bd0, bd_NE, reduceIte, Nat.reduceEqDiff, evStore, Nat.reduceAdd, Nat.reduceMul, Int.reduceEq, Int.reduceLT, Int.reduceLE, Nat.reduceLeDiff, List.reduceReplicate, reduceCtorEq, evRange, Nat.reduceLT, vcj, implies_true]
  refine EffQ.inm (gaps_nil x b inn (by omega) hb40 (by omega) _ _) ⟨_, _, _, Nat.le_refl _, 0, rfl, rfl⟩ (by rfl) ?_
  rintro r σ' nx' ⟨hn1, ver', rfl, rfl⟩
  have hn2 : 2 ≤ nx' := hn1
  refine ⟨.inr (by simp -dsimp (disch := first | omega | decide +kernel) only [↓bp0, bd0, bd_NE, reduceIte, Nat.reduceEqDiff, evStore, Nat.reduceAdd, Nat.reduceMul, Int.reduceEq, Int.reduceLT, Int.reduceLE, Nat.reduceLeDiff, List.reduceReplicate, reduceCtorEq, evRange, Nat.reduceLT]), ?_⟩
  try simp -dsimp (disch := first | omega | decide +kernel) only [↓bp0, bd0, bd_NE, reduceIte, Nat.reduceEqDiff, evStore, Nat.reduceAdd, Nat.reduceMul, Int.reduceEq, Int.reduceLT, Int.reduceLE, Nat.reduceLeDiff, List.reduceReplicate, reduceCtorEq, evRange, Nat.reduceLT]
  rw [hga]
  have hrl : (rowsOf (encG l) (oneA i inn x)).length = (oneA i inn x).length := by rw [rowsOf, List.length_map]
  refine EffQ.inm (m_order l hok _ _ 1 ver' (oneA i inn x) false (by omega) (by simp -dsimp (disch := first | omega | decide +kernel) only [↓bp0, bd0, bd_NE, reduceIte, Nat.reduceEqDiff, evStore, Nat.reduceAdd, Nat.reduceMul, Int.reduceEq, Int.reduceLT, Int.reduceLE, Nat.reduceLeDiff, List.reduceReplicate, reduceCtorEq, evRange, Nat.reduceLT])) ⟨_, _, _, Nat.le_refl _, rfl, rfl⟩ (by rw [hrl]; rfl) ?_
  rintro r σ' nx2 ⟨hn3, rfl, rfl⟩
  refine ⟨.inl (by kernel_rfl), ?_⟩
  have hsl : (srtG (oneA i inn x)).length = (oneA i inn x).length := List.length_mergeSort _
  have hr1 : (rowsOf (encG l) (srtG (oneA i inn x))).length = (srtG (oneA i inn x)).length := by rw [rowsOf, List.length_map]
  have hr2 : ((rowsOf (encG l) (srtG (oneA i inn x))).all fun e => e.all flat) = true := by rw [List.all_eq_true]; intro e he; obtain ⟨b, _, rfl⟩ := List.mem_map.1 he; rfl
  have hr3 : (rowsOf (encG l) (srtG (oneA i inn x))).take (srtG (oneA i inn x)).length = rowsOf (encG l) (srtG (oneA i inn x)) := List.take_of_length_le (by omega)
  rw [← hor, newGps, ← toG_enc, ← hsl]
  simp -dsimp (disch := first | omega | decide +kernel) only [↓bp0, bd0, bd_NE, reduceIte, Nat.reduceEqDiff, evStore, Nat.reduceAdd, Nat.reduceMul, Int.reduceEq, Int.reduceLT, Int.reduceLE, Nat.reduceLeDiff, List.reduceReplicate, reduceCtorEq, evRange, Nat.reduceLT, retQ, resL, finL, newL, flat, tupOf, List.toList_toArray, Tryz.f13, hr1, hr2, hr3, List.drop_zero]
  exact ⟨.rfl', .rfl', trivial⟩
theorem r_Then (l : Ldg) (x : List Fx) (b : Str) (n : Int) (hz : LSz l) (hn : LNm l) (hx40 : x.length ≤ 2^40) (hb40 : ∀ f ∈ x, f.brs.length ≤ 2^40) : CallSpec cx 14 [encLdg l, encFxs x, str b, i64 n] (.tup [newGps (mthen l x b n).1, i64 (mthen l x b n).2]) := by
  refine callSpec_of_vc Tryz.func14 rfl (by decide) (by kernel_rfl) (Nat.le_of_ble_eq_true rfl) ?_
  try simp -dsimp (disch := first | omega | decide +kernel) only [↓bp0, bd0, bd_NE, reduceIte, Nat.reduceEqDiff, evStore, Nat.reduceAdd, Nat.reduceMul, Int.reduceEq, Int.reduceLT, Int.reduceLE, Nat.reduceLeDiff, List.reduceReplicate, reduceCtorEq, evRange, Nat.reduceLT, Tryz.f14]
  refine CallQ.imm (r_mCheck l x hz hn hx40 hb40) (by rfl) (by rfl) (by first | exact .inl rfl | exact .inr rfl | exact .inr scalB | exact .inr scalI | exact .inr scalT | exact .inr scalM | exact .inr scalMT | exact .inr scalGT) ?_
  cases h0 : decide (mchk l x = 0)
  · try simp -dsimp (disch := first | omega | decide +kernel) only [↓bp0, bd0, bd_NE, reduceIte, Nat.reduceEqDiff, evStore, Nat.reduceAdd, Nat.reduceMul, Int.reduceEq, Int.reduceLT, Int.reduceLE, Nat.reduceLeDiff, List.reduceReplicate, reduceCtorEq, evRange, Nat.reduceLT, h0]
    refine CallQ.imm (r_mCheck l x hz hn hx40 hb40) (by rfl) (by rfl) (by first | exact .inl rfl | exact .inr rfl | exact .inr scalB | exact .inr scalI | exact .inr scalT | exact .inr scalM | exact .inr scalMT | exact .inr scalGT) ?_
    simp -dsimp (disch := first | omega | decide +kernel) only [↓bp0, bd0, bd_NE, reduceIte, Nat.reduceEqDiff, evStore, Nat.reduceAdd, Nat.reduceMul, Int.reduceEq, Int.reduceLT, Int.reduceLE, Nat.reduceLeDiff, List.reduceReplicate, reduceCtorEq, evRange, Nat.reduceLT, retQ, resL, finL, newL, flat, tupOf, List.toList_toArray, Tryz.f14, h0, newGps]
    rw [mthen, if_pos (of_decide_eq_false h0)]
    exact ⟨.inr ⟨rfl, 3, rfl⟩, .rfl', trivial⟩
  have h0' := of_decide_eq_true h0
  have hx30 := (mchk_zero h0').2.1
  try simp -dsimp (disch := first | omega | decide +kernel) only [↓bp0, bd0, bd_NE, reduceIte, Nat.reduceEqDiff, evStore, Nat.reduceAdd, Nat.reduceMul, Int.reduceEq, Int.reduceLT, Int.reduceLE, Nat.reduceLeDiff, List.reduceReplicate, reduceCtorEq, evRange, Nat.reduceLT, h0]
  refine CallQ.imm (r_After l b n hz hn) (by rfl) (by rfl) (by first | exact .inl rfl | exact .inr rfl | exact .inr scalB | exact .inr scalI | exact .inr scalT | exact .inr scalM | exact .inr scalMT | exact .inr scalGT) ?_
  cases h1 : decide ((laft l b n).2 = 0)
  · simp -dsimp (disch := first | omega | decide +kernel) only [↓bp0, bd0, bd_NE, reduceIte, Nat.reduceEqDiff, evStore, Nat.reduceAdd, Nat.reduceMul, Int.reduceEq, Int.reduceLT, Int.reduceLE, Nat.reduceLeDiff, List.reduceReplicate, reduceCtorEq, evRange, Nat.reduceLT, retQ, resL, finL, newL, flat, tupOf, List.toList_toArray, Tryz.f14, h1, newGps, newI]
    rw [mthen, if_neg (by rw [Decidable.not_not]; exact h0'), if_pos (of_decide_eq_false h1)]
    exact ⟨.inr ⟨rfl, 3, rfl⟩, .rfl', trivial⟩
  have h1' := of_decide_eq_true h1
  rw [mthen, if_neg (by rw [Decidable.not_not]; exact h0'), if_neg (by rw [Decidable.not_not]; exact h1')]
  have hlen := laft_len (l := l) (b := b) (n := n)
  generalize (laft l b n).1 = inn at hlen ⊢
  have hso := r_ordered l x [(b, inn)] hx30 (by simp) hb40 (fun p hp => by simp only [List.mem_singleton] at hp; subst hp; simp only; omega)
  simp only [List.map_cons, List.map_nil, encPs, encL, i64] at hso
  try simp -dsimp (disch := first | omega | decide +kernel) only [↓bp0, bd0, bd_NE, reduceIte, Nat.reduceEqDiff, evStore, Nat.reduceAdd, Nat.reduceMul, Int.reduceEq, Int.reduceLT, Int.reduceLE, Nat.reduceLeDiff, List.reduceReplicate, reduceCtorEq, evRange, Nat.reduceLT, newI, h1, PV.cellsP]
  refine CallQ.thaw (hso) (by rfl) (by first | rfl | (simp -dsimp (disch := first | omega | decide +kernel) only [↓bp0, bd0, bd_NE, reduceIte, Nat.reduceEqDiff, evStore, Nat.reduceAdd, Nat.reduceMul, Int.reduceEq, Int.reduceLT, Int.reduceLE, Nat.reduceLeDiff, List.reduceReplicate, reduceCtorEq, evRange, Nat.reduceLT, drcs, drc, flat, List.drop_zero, encStrs]; done)) litGp ?_
  rw [newGps]
  generalize o1 x [(b, inn)] 9 = G
  have hgl : ((G.map cGp).all fun e => e.all flat) = true := by rw [List.all_eq_true]; intro e he; obtain ⟨b, _, rfl⟩ := List.mem_map.1 he; rfl
  have hgt : (G.map cGp).take G.length = G.map cGp := List.take_of_length_le (by simp)
  simp -dsimp (disch := first | omega | decide +kernel) only [↓bp0, bd0, bd_NE, reduceIte, Nat.reduceEqDiff, evStore, Nat.reduceAdd, Nat.reduceMul, Int.reduceEq, Int.reduceLT, Int.reduceLE, Nat.reduceLeDiff, List.reduceReplicate, reduceCtorEq, evRange, Nat.reduceLT, retQ, resL, finL, newL, flat, tupOf, List.toList_toArray, Tryz.f14, List.length_map, hgl, hgt, List.drop_zero]
  exact ⟨.rfl', .rfl', trivial⟩
end Go.Ab
end

section
/- The reference's decimals and text; the law MissingTells. -/
set_option maxRecDepth 1000000
set_option maxHeartbeats 8000000
namespace Go.Ab
open Go Go.Proofs Go.Sort
theorem bd_NF : type_of% (And.intro @evNext.eq_1 (And.intro @fld (And.intro @nit (And.intro @nxE (And.intro @ghR (And.intro @ovR (And.intro @evBin_seql (And.intro @evBin_sneq (And.intro @str.eq_1 (And.intro @u8.eq_1 (And.intro @encBrs.eq_1 (And.intro @cBr.eq_1 (And.intro @encLdg.eq_1 (And.intro @encKws.eq_1 (And.intro @cKw.eq_1 (And.intro @encEvss.eq_1 (And.intro @encEvs.eq_1 (And.intro @cEv.eq_1 (And.intro @encMks.eq_1 (And.intro @cMk.eq_1 (And.intro @encStrs.eq_1 (And.intro @encFxs.eq_1 (And.intro @cFx.eq_1 (And.intro @cGp.eq_1 (And.intro @tk2 (And.intro @tk3 (And.intro @List.set_cons_succ.{0} (And.intro @List.getElem?_cons_zero.{0} (And.intro @List.getElem?_cons_succ.{0} (@List.length_set.{0})))))))))))))))))))))))))))))) := And.intro @evNext.eq_1 (And.intro @fld (And.intro @nit (And.intro @nxE (And.intro @ghR (And.intro @ovR (And.intro @evBin_seql (And.intro @evBin_sneq (And.intro @str.eq_1 (And.intro @u8.eq_1 (And.intro @encBrs.eq_1 (And.intro @cBr.eq_1 (And.intro @encLdg.eq_1 (And.intro @encKws.eq_1 (And.intro @cKw.eq_1 (And.intro @encEvss.eq_1 (And.intro @encEvs.eq_1 (And.intro @cEv.eq_1 (And.intro @encMks.eq_1 (And.intro @cMk.eq_1 (And.intro @encStrs.eq_1 (And.intro @encFxs.eq_1 (And.intro @cFx.eq_1 (And.intro @cGp.eq_1 (And.intro @tk2 (And.intro @tk3 (And.intro @List.set_cons_succ.{0} (And.intro @List.getElem?_cons_zero.{0} (And.intro @List.getElem?_cons_succ.{0} (@List.length_set.{0})))))))))))))))))))))))))))))
theorem cvI8 {σ : Store} {n : Int} : evConv cx σ 3 5 (.lit (.int .i64 n)) = some (.lit (.int .u8 (IntKind.u8.wrap n))) := by rfl
theorem cvB {σ : Store} {id ver off len : Nat} {c : Bool} : evConv cx σ 117 9 (.own id ver off len c) = match σ id with
    | some (.row ver' _ es _) => if ver = ver' ∧ off + len ≤ es.length then (match byteL ((es.drop off).take len) with
      | some ns => some (.lit (.string (bstr ns)))
      | none => none) else none
    | _ => none := by
  have h : bytesT cx 117 9 = true := by kernel_rfl
  simp only [evConv, h, and_true]
  first | rfl | (split <;> rfl)
theorem btT : bytesT cx 117 9 = true := by kernel_rfl
theorem dec_one : ∀ n : Fin 10, bstr [((48 + n.val : Nat) : Int)] = dec n.val := by decide +kernel
theorem dec_two : ∀ n : Fin 100, n.val < 10 ∨ dec (n.val / 10) ++ dec (n.val % 10) = dec n.val := by decide +kernel
theorem r_Dec1 (n : Nat) (h : n < 10) : CallSpec cx 65 [i64 n] (str (dec n)) := by
  have h1 : decide ((n : Int) < 10) = true := decide_eq_true (by omega)
  have hw1 : IntKind.i64.wrap (48 + (n : Int)) = ((48 + n : Nat) : Int) := by rw [IntWalk.i64_in _ (by omega)]; omega
  have hw2 : IntKind.u8.wrap ((48 + n : Nat) : Int) = ((48 + n : Nat) : Int) := IntWalk.u8_in _ (by omega)
  have hE : bstr [((48 + n : Nat) : Int)] = dec n := dec_one ⟨n, h⟩
  refine callSpec_of_vc Tryz.func65 rfl (by decide) (by kernel_rfl) (Nat.le_of_ble_eq_true rfl) ?_
  try simp -dsimp (disch := first | omega | decide +kernel) only [↓bp0, bd0, bd_NF, reduceIte, Nat.reduceEqDiff, evStore, Nat.reduceAdd, Nat.reduceMul, Int.reduceEq, Int.reduceLT, Int.reduceLE, Nat.reduceLeDiff, List.reduceReplicate, reduceCtorEq, evRange, Nat.reduceLT, Tryz.f65, h1]
  simp -dsimp (disch := first | omega | decide +kernel) only [↓bp0, bd0, bd_NF, reduceIte, Nat.reduceEqDiff, evStore, Nat.reduceAdd, Nat.reduceMul, Int.reduceEq, Int.reduceLT, Int.reduceLE, Nat.reduceLeDiff, List.reduceReplicate, reduceCtorEq, evRange, Nat.reduceLT, retQ, resL, finL, newL, flat, tupOf, List.toList_toArray, Tryz.f65, hw1, cvI8, cvB, byteL, List.drop_zero, hw2, hE, PV.cellsP]
  exact leT_one (le1.rfl' (p := str _)) (fun _ h => by cases h)
theorem r_Decimal (n : Nat) (h : n < 100) : CallSpec cx 65 [i64 n] (str (dec n)) := by
  by_cases h10 : n < 10
  · exact r_Dec1 n h10
  have h1 : decide ((n : Int) < 10) = false := decide_eq_false (by omega)
  have hq : IntKind.i64.wrap ((n : Int).tdiv 10) = ((n / 10 : Nat) : Int) := by
    rw [Int.tdiv_eq_ediv_of_nonneg (by omega)]
    have := IntWalk.i64_in ((n : Int) / 10) (by omega)
    rw [this]; omega
  have hr : IntKind.i64.wrap ((n : Int).tmod 10) = ((n % 10 : Nat) : Int) := by
    rw [Int.tmod_eq_emod_of_nonneg (by omega)]
    have := IntWalk.i64_in ((n : Int) % 10) (by omega)
    rw [this]; omega
  have hq2 : IntKind.i64.wrap ((n : Int) / 10) = ((n / 10 : Nat) : Int) := by
    have := IntWalk.i64_in ((n : Int) / 10) (by omega)
    rw [this]; omega
  have hr2 : IntKind.i64.wrap ((n : Int) % 10) = ((n % 10 : Nat) : Int) := by
    have := IntWalk.i64_in ((n : Int) % 10) (by omega)
    rw [this]; omega
  have hE : dec (n / 10) ++ dec (n % 10) = dec n := (dec_two ⟨n, h⟩).resolve_left h10
  have hd1 := dec_size (n / 10) (by omega)
  have hd2 := dec_size (n % 10) (by omega)
  have sA : ∀ {C : Ctx} {t : TypeId} {x y : Operand}, evBin C .add t x y (.lit (.string (dec (n / 10)))) (.lit (.string (dec (n % 10)))) = some (.lit (.string (dec n))) := by rw [← hE]; exact evBin_sadd (by omega)
  refine callSpec_of_vc Tryz.func65 rfl (by decide) (by kernel_rfl) (Nat.le_of_ble_eq_true rfl) ?_
  try simp -dsimp (maxSteps := 9^9) (disch := first | omega | decide +kernel) only [↓bp0, bd0, bd_NF, reduceIte, Nat.reduceEqDiff, evStore, Nat.reduceAdd, Nat.reduceMul, Int.reduceEq, Int.reduceLT, Int.reduceLE, Nat.reduceLeDiff, List.reduceReplicate, reduceCtorEq, evRange, Nat.reduceLT, Tryz.f65, h1, hq, hq2]
  refine CallQ.imm (r_Dec1 (n / 10) (by omega)) (by rfl) (by first | rfl | (simp -dsimp (maxSteps := 9^9) (disch := first | omega | decide +kernel) only [↓bp0, bd0, bd_NF, reduceIte, Nat.reduceEqDiff, evStore, Nat.reduceAdd, Nat.reduceMul, Int.reduceEq, Int.reduceLT, Int.reduceLE, Nat.reduceLeDiff, List.reduceReplicate, reduceCtorEq, evRange, Nat.reduceLT, drcs, drc, flat, hq, hq2]; done) | simp -dsimp [evl, drcs, drc, flat, i64, u32, bl, encL, encB, encLL]) (by first | exact .inl rfl | exact .inr rfl | exact .inr scalB | exact .inr scalI | exact .inr scalT | exact .inr scalM | exact .inr scalMT | exact .inr scalGT) ?_
  try simp -dsimp (maxSteps := 9^9) (disch := first | omega | decide +kernel) only [↓bp0, bd0, bd_NF, reduceIte, Nat.reduceEqDiff, evStore, Nat.reduceAdd, Nat.reduceMul, Int.reduceEq, Int.reduceLT, Int.reduceLE, Nat.reduceLeDiff, List.reduceReplicate, reduceCtorEq, evRange, Nat.reduceLT, hr, hr2]
  refine CallQ.imm (r_Dec1 (n % 10) (by omega)) (by rfl) (by first | rfl | (simp -dsimp (maxSteps := 9^9) (disch := first | omega | decide +kernel) only [↓bp0, bd0, bd_NF, reduceIte, Nat.reduceEqDiff, evStore, Nat.reduceAdd, Nat.reduceMul, Int.reduceEq, Int.reduceLT, Int.reduceLE, Nat.reduceLeDiff, List.reduceReplicate, reduceCtorEq, evRange, Nat.reduceLT, drcs, drc, flat, hr, hr2]; done) | simp -dsimp [evl, drcs, drc, flat, i64, u32, bl, encL, encB, encLL]) (by first | exact .inl rfl | exact .inr rfl | exact .inr scalB | exact .inr scalI | exact .inr scalT | exact .inr scalM | exact .inr scalMT | exact .inr scalGT) ?_
  simp -dsimp (maxSteps := 9^9) (disch := first | omega | decide +kernel) only [↓bp0, bd0, bd_NF, reduceIte, Nat.reduceEqDiff, evStore, Nat.reduceAdd, Nat.reduceMul, Int.reduceEq, Int.reduceLT, Int.reduceLE, Nat.reduceLeDiff, List.reduceReplicate, reduceCtorEq, evRange, Nat.reduceLT, retQ, resL, finL, newL, flat, tupOf, List.toList_toArray, Tryz.f65, sA]
  exact leT_one (le1.rfl' (p := str _)) (fun _ h => by cases h)
theorem r_Text (l : Ldg) (x : List Fx) (hz : LSz l) (hn : LNm l) (hx40 : x.length ≤ 2^40) (hb40 : ∀ f ∈ x, f.brs.length ≤ 2^40) : CallSpec cx 16 [encLdg l, encFxs x] (.tup [str (mtext l x).1, i64 (mtext l x).2]) := by
  refine callSpec_of_vc Tryz.func16 rfl (by decide) (by kernel_rfl) (Nat.le_of_ble_eq_true rfl) ?_
  try simp -dsimp (disch := first | omega | decide +kernel) only [↓bp0, bd0, bd_NF, reduceIte, Nat.reduceEqDiff, evStore, Nat.reduceAdd, Nat.reduceMul, Int.reduceEq, Int.reduceLT, Int.reduceLE, Nat.reduceLeDiff, List.reduceReplicate, reduceCtorEq, evRange, Nat.reduceLT, Tryz.f16]
  refine CallQ.imm (r_mGaps l x hz hn hx40 hb40) (by rfl) (by rfl) (by first | exact .inl rfl | exact .inr rfl | exact .inr scalB | exact .inr scalI | exact .inr scalT | exact .inr scalM | exact .inr scalMT | exact .inr scalGT) ?_
  cases h0 : decide (mchk l x = 0)
  · have h0' := of_decide_eq_false h0
    simp -dsimp (disch := first | omega | decide +kernel) only [↓bp0, bd0, bd_NF, reduceIte, Nat.reduceEqDiff, evStore, Nat.reduceAdd, Nat.reduceMul, Int.reduceEq, Int.reduceLT, Int.reduceLE, Nat.reduceLeDiff, List.reduceReplicate, reduceCtorEq, evRange, Nat.reduceLT, retQ, resL, finL, newL, flat, tupOf, List.toList_toArray, Tryz.f16, newGps, h0]
    rw [mtext, if_pos h0']
    exact ⟨.rfl', .rfl', trivial⟩
  have h0' := of_decide_eq_true h0
  have hGe : refR l x = gapL l x := by rw [gapR_refR, gapR, if_neg (by rw [Decidable.not_not]; exact h0')]
  have hGl : (gapL l x).length ≤ 2^20 := gapL_len h0'
  have hGo : ∀ g ∈ gapL l x, GpOk g := fun g hg => gapL_ok h0' hg
  rw [mtext, if_neg (by rw [Decidable.not_not]; exact h0'), hGe]
  revert hGl hGo
  generalize gapL l x = G
  intro hGl hGo
  try simp -dsimp (disch := first | omega | decide +kernel) only [↓bp0, bd0, bd_NF, reduceIte, Nat.reduceEqDiff, evStore, Nat.reduceAdd, Nat.reduceMul, Int.reduceEq, Int.reduceLT, Int.reduceLE, Nat.reduceLeDiff, List.reduceReplicate, reduceCtorEq, evRange, Nat.reduceLT, newGps, h0]
  refine LoopQ.rule (fun m st => ∃ (i : Nat), i ≤ G.length ∧ m = G.length - i ∧
    st = ⟨mkE [(6, encGps G), (8, str (mlines (G.take i))), (9, i64 i)], mkS [], 1⟩) _ _ (weak_of ?_)
    ⟨0, by omega, rfl, rfl⟩ ?_
  · first | (simp -dsimp (disch := first | omega | decide +kernel) only [↓bp0, bd0, bd_NF, reduceIte, Nat.reduceEqDiff, evStore, Nat.reduceAdd, Nat.reduceMul, Int.reduceEq, Int.reduceLT, Int.reduceLE, Nat.reduceLeDiff, List.reduceReplicate, reduceCtorEq, evRange, Nat.reduceLT, encGps, mlines]; done) | simp -dsimp [evl, putN, i64, u32, bl, encL, encB, encLL, encGps, mlines]
  rintro m st ⟨i, hi, rfl, rfl⟩
  try simp -dsimp (disch := first | omega | decide +kernel) only [↓bp0, bd0, bd_NF, reduceIte, Nat.reduceEqDiff, evStore, Nat.reduceAdd, Nat.reduceMul, Int.reduceEq, Int.reduceLT, Int.reduceLE, Nat.reduceLeDiff, List.reduceReplicate, reduceCtorEq, evRange, Nat.reduceLT, encGps, List.length_map]
  refine onC_nlt (fun h2 => ?_) (fun h2 => ?_)
  · obtain ⟨g, hx, hxm⟩ := get_of_lt h2
    have hg := hGo g hxm
    have htk : mlines (G.take (i + 1)) = mlines (G.take i) ++ mline g := by rw [take_succ hx, mlines_snoc]
    have hs := mlines_size (G.take i) fun q hq => hGo q (List.mem_of_mem_take hq)
    rw [List.length_take] at hs
    have hl := mline_size hg
    obtain ⟨n1, hn1⟩ : ∃ n : Nat, g.wgt = n := ⟨g.wgt.toNat, by have := hg.wgt; omega⟩
    obtain ⟨n2, hn2⟩ : ∃ n : Nat, g.cls = n := ⟨g.cls.toNat, by have := hg.cls; omega⟩
    have hb1 : n1 < 100 := by have := hg.wgt; omega
    have hb2 : n2 < 100 := by have := hg.cls; omega
    have hd1 := dec_size n1 hb1
    have hd2 := dec_size n2 hb2
    have hbr := hg.br
    have e1 : (⟨#[32]⟩ : ByteArray).size = 1 := rfl
    have e2 : (⟨#[10]⟩ : ByteArray).size = 1 := rfl
    have hsz : (mlines (G.take i)).size ≤ 100000000 := by
      have : 50 * min i G.length ≤ 50 * 2^20 := Nat.mul_le_mul_left _ (by omega)
      omega
    have hml : mline g = dec n1 ++ ⟨#[32]⟩ ++ dec n2 ++ ⟨#[32]⟩ ++ g.br ++ ⟨#[10]⟩ := by rw [mline, hn1, hn2]; rfl
    have hfin : mlines (G.take i) ++ dec n1 ++ ⟨#[32]⟩ ++ dec n2 ++ ⟨#[32]⟩ ++ g.br ++ ⟨#[10]⟩ = mlines (G.take (i + 1)) := by rw [htk, hml]; simp only [ByteArray.append_assoc]
    generalize mlines (G.take i) = S at hsz hfin ⊢
    have s0 : ∀ {C : Ctx} {t : TypeId} {x y : Operand}, evBin C .add t x y (.lit (.string S)) (.lit (.string (dec n1))) = some (.lit (.string (S ++ dec n1))) := evBin_sadd (by omega)
    have sA : ∀ {C : Ctx} {t : TypeId} {x y : Operand}, evBin C .add t x y (.lit (.string (S ++ dec n1))) (.lit (.string ⟨#[32]⟩)) = some (.lit (.string (S ++ dec n1 ++ ⟨#[32]⟩))) := evBin_sadd (by simp only [ByteArray.size_append]; omega)
    have sB : ∀ {C : Ctx} {t : TypeId} {x y : Operand}, evBin C .add t x y (.lit (.string (S ++ dec n1 ++ ⟨#[32]⟩))) (.lit (.string (dec n2))) = some (.lit (.string (S ++ dec n1 ++ ⟨#[32]⟩ ++ dec n2))) := evBin_sadd (by simp only [ByteArray.size_append]; omega)
    have sC : ∀ {C : Ctx} {t : TypeId} {x y : Operand}, evBin C .add t x y (.lit (.string (S ++ dec n1 ++ ⟨#[32]⟩ ++ dec n2))) (.lit (.string ⟨#[32]⟩)) = some (.lit (.string (S ++ dec n1 ++ ⟨#[32]⟩ ++ dec n2 ++ ⟨#[32]⟩))) := evBin_sadd (by simp only [ByteArray.size_append]; omega)
    have sD : ∀ {C : Ctx} {t : TypeId} {x y : Operand}, evBin C .add t x y (.lit (.string (S ++ dec n1 ++ ⟨#[32]⟩ ++ dec n2 ++ ⟨#[32]⟩))) (.lit (.string g.br)) = some (.lit (.string (S ++ dec n1 ++ ⟨#[32]⟩ ++ dec n2 ++ ⟨#[32]⟩ ++ g.br))) := evBin_sadd (by simp only [ByteArray.size_append]; omega)
    have sE : ∀ {C : Ctx} {t : TypeId} {x y : Operand}, evBin C .add t x y (.lit (.string (S ++ dec n1 ++ ⟨#[32]⟩ ++ dec n2 ++ ⟨#[32]⟩ ++ g.br))) (.lit (.string ⟨#[10]⟩)) = some (.lit (.string (mlines (G.take (i + 1))))) := by rw [← hfin]; exact evBin_sadd (by simp only [ByteArray.size_append]; omega)
    try simp -dsimp (disch := first | omega | decide +kernel) only [↓bp0, bd0, bd_NF, reduceIte, Nat.reduceEqDiff, evStore, Nat.reduceAdd, Nat.reduceMul, Int.reduceEq, Int.reduceLT, Int.reduceLE, Nat.reduceLeDiff, List.reduceReplicate, reduceCtorEq, evRange, Nat.reduceLT, hx, encGps]
    first | refine vc_text (by kernel_rfl) ?_ | skip
    try simp -dsimp (disch := first | omega | decide +kernel) only [↓bp0, bd0, bd_NF, reduceIte, Nat.reduceEqDiff, evStore, Nat.reduceAdd, Nat.reduceMul, Int.reduceEq, Int.reduceLT, Int.reduceLE, Nat.reduceLeDiff, List.reduceReplicate, reduceCtorEq, evRange, Nat.reduceLT, hx, hn1, hn2, encGps]
    refine CallY.imm (r_Decimal n1 hb1) (by rfl) (by rfl) (by first | exact .inl rfl | exact .inr rfl | exact .inr scalB | exact .inr scalI | exact .inr scalT | exact .inr scalM | exact .inr scalMT | exact .inr scalGT) ?_
    try simp -dsimp (disch := first | omega | decide +kernel) only [↓bp0, bd0, bd_NF, reduceIte, Nat.reduceEqDiff, evStore, Nat.reduceAdd, Nat.reduceMul, Int.reduceEq, Int.reduceLT, Int.reduceLE, Nat.reduceLeDiff, List.reduceReplicate, reduceCtorEq, evRange, Nat.reduceLT, hx, hn1, hn2, s0, sA, encGps]
    refine CallY.imm (r_Decimal n2 hb2) (by rfl) (by rfl) (by first | exact .inl rfl | exact .inr rfl | exact .inr scalB | exact .inr scalI | exact .inr scalT | exact .inr scalM | exact .inr scalMT | exact .inr scalGT) ?_
    try simp -dsimp (disch := first | omega | decide +kernel) only [↓bp0, bd0, bd_NF, reduceIte, Nat.reduceEqDiff, evStore, Nat.reduceAdd, Nat.reduceMul, Int.reduceEq, Int.reduceLT, Int.reduceLE, Nat.reduceLeDiff, List.reduceReplicate, reduceCtorEq, evRange, Nat.reduceLT, hx, hn1, hn2, sB, sC, sD, sE, encGps]
    refine ⟨_, _, ?_, weak_of ?_, i + 1, h2, rfl, rfl⟩
    · omega
    · first | (simp -dsimp (disch := first | omega | decide +kernel) only [↓bp0, bd0, bd_NF, reduceIte, Nat.reduceEqDiff, evStore, Nat.reduceAdd, Nat.reduceMul, Int.reduceEq, Int.reduceLT, Int.reduceLE, Nat.reduceLeDiff, List.reduceReplicate, reduceCtorEq, evRange, Nat.reduceLT, wrapS h2 (show G.length ≤ 9223372036854775807 by omega), encGps]; done) | simp -dsimp [evl, putN, i64, u32, bl, encL, encB, encLL, wrapS h2 (show G.length ≤ 9223372036854775807 by omega), encGps]
  · rw [List.take_of_length_le (by omega)]
    simp -dsimp (disch := first | omega | decide +kernel) only [↓bp0, bd0, bd_NF, reduceIte, Nat.reduceEqDiff, evStore, Nat.reduceAdd, Nat.reduceMul, Int.reduceEq, Int.reduceLT, Int.reduceLE, Nat.reduceLeDiff, List.reduceReplicate, reduceCtorEq, evRange, Nat.reduceLT, retQ, resL, finL, newL, flat, tupOf, List.toList_toArray, Tryz.f16]
    exact ⟨.rfl', .rfl', trivial⟩
end Go.Ab
end
