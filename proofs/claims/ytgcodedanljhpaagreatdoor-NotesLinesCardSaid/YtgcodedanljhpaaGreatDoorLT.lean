/- The references of tables and events. -/
import Derived.Test.YtgcodedanljhpaaGreatDoorLS
set_option linter.unusedSimpArgs false
set_option linter.unusedVariables false
set_option maxRecDepth 100000
set_option maxHeartbeats 8000000
namespace Go.Ab
open Go Go.Proofs
theorem bd_LT : type_of% (And.intro @evNext.eq_1 (And.intro @fld (And.intro @nit (And.intro @nxE (And.intro @ovR (And.intro @evBin_seql (And.intro @evBin_sneq (And.intro @str.eq_1 (And.intro @u8.eq_1 (And.intro @encBrs.eq_1 (And.intro @cBr.eq_1 (And.intro @encLdg.eq_1 (And.intro @encKws.eq_1 (And.intro @cKw.eq_1 (And.intro @encEvss.eq_1 (And.intro @encEvs.eq_1 (And.intro @cEv.eq_1 (And.intro @encMks.eq_1 (And.intro @cMk.eq_1 (And.intro @tk2 (And.intro @tk3 (And.intro @List.set_cons_succ.{0} (And.intro @List.getElem?_cons_zero.{0} (And.intro @List.getElem?_cons_succ.{0} (@List.length_set.{0}))))))))))))))))))))))))) := And.intro @evNext.eq_1 (And.intro @fld (And.intro @nit (And.intro @nxE (And.intro @ovR (And.intro @evBin_seql (And.intro @evBin_sneq (And.intro @str.eq_1 (And.intro @u8.eq_1 (And.intro @encBrs.eq_1 (And.intro @cBr.eq_1 (And.intro @encLdg.eq_1 (And.intro @encKws.eq_1 (And.intro @cKw.eq_1 (And.intro @encEvss.eq_1 (And.intro @encEvs.eq_1 (And.intro @cEv.eq_1 (And.intro @encMks.eq_1 (And.intro @cMk.eq_1 (And.intro @tk2 (And.intro @tk3 (And.intro @List.set_cons_succ.{0} (And.intro @List.getElem?_cons_zero.{0} (And.intro @List.getElem?_cons_succ.{0} (@List.length_set.{0}))))))))))))))))))))))))
theorem r_Fits (l : List Br) (cs : List Int) (hl : l.length ≤ 9223372036854775807) (hcl : cs.length ≤ 9223372036854775807) (hn : ∀ b ∈ l, b.name.size ≤ 2^40) : CallSpec cx 71 [encBrs l, encL cs] (i64 (bfits l cs)) := by
  refine callSpec_of_vc Tryz.func71 rfl (by decide) (by kernel_rfl) (Nat.le_of_ble_eq_true rfl) ?_
  try simp -dsimp (disch := first | omega | decide +kernel) only [↓bp0, bd0, bd_LT, reduceIte, Nat.reduceEqDiff, evStore, Nat.reduceAdd, Nat.reduceMul, Int.reduceEq, Int.reduceLT, Int.reduceLE, Nat.reduceLeDiff, List.reduceReplicate, reduceCtorEq, evRange, Nat.reduceLT, Tryz.f71]
  refine CallQ.imm (r_Check l hl hn) (by rfl) (by rfl) (by first | exact .inl rfl | exact .inr rfl | exact .inr scalB | exact .inr scalI | exact .inr scalT | exact .inr scalM | exact .inr scalMT) ?_
  cases h0 : decide (bchk l = 0)
  · try simp -dsimp (disch := first | omega | decide +kernel) only [↓bp0, bd0, bd_LT, reduceIte, Nat.reduceEqDiff, evStore, Nat.reduceAdd, Nat.reduceMul, Int.reduceEq, Int.reduceLT, Int.reduceLE, Nat.reduceLeDiff, List.reduceReplicate, reduceCtorEq, evRange, Nat.reduceLT, h0]
    refine CallQ.imm (r_Check l hl hn) (by rfl) (by rfl) (by first | exact .inl rfl | exact .inr rfl | exact .inr scalB | exact .inr scalI | exact .inr scalT | exact .inr scalM | exact .inr scalMT) ?_
    simp -dsimp (disch := first | omega | decide +kernel) only [↓bp0, bd0, bd_LT, reduceIte, Nat.reduceEqDiff, evStore, Nat.reduceAdd, Nat.reduceMul, Int.reduceEq, Int.reduceLT, Int.reduceLE, Nat.reduceLeDiff, List.reduceReplicate, reduceCtorEq, evRange, Nat.reduceLT, retQ, resL, finL, newL, flat, tupOf, List.toList_toArray, Tryz.f71, h0]
    refine leT_one (int_eq ?_) (by simp)
    rw [bfits, if_pos (of_decide_eq_false h0)]
  have h0' := of_decide_eq_true h0
  have e1 : bfits l cs = if cs.length ≠ l.length ∨ (cs.any fun n => decide (n < 0) || decide (40 < n)) = true then 2
    else if anyI (fun i b => !fitI l cs i b) l then 16 else 0 := by rw [bfits, if_neg (by rw [Decidable.not_not]; exact h0')]
  cases h1 : decide ((cs.length : Int) = (l.length : Int))
  · have h1' := of_decide_eq_false h1
    simp -dsimp (disch := first | omega | decide +kernel) only [↓bp0, bd0, bd_LT, reduceIte, Nat.reduceEqDiff, evStore, Nat.reduceAdd, Nat.reduceMul, Int.reduceEq, Int.reduceLT, Int.reduceLE, Nat.reduceLeDiff, List.reduceReplicate, reduceCtorEq, evRange, Nat.reduceLT, retQ, resL, finL, newL, flat, tupOf, List.toList_toArray, Tryz.f71, h0, h1]
    refine leT_one (int_eq ?_) (by simp)
    rw [e1, if_pos (.inl (by omega))]
  have h1' : cs.length = l.length := by have := of_decide_eq_true h1; omega
  try simp -dsimp (disch := first | omega | decide +kernel) only [↓bp0, bd0, bd_LT, reduceIte, Nat.reduceEqDiff, evStore, Nat.reduceAdd, Nat.reduceMul, Int.reduceEq, Int.reduceLT, Int.reduceLE, Nat.reduceLeDiff, List.reduceReplicate, reduceCtorEq, evRange, Nat.reduceLT, h0, h1]
  refine LoopQ.rule (fun m st => ∃ i : Nat, i ≤ cs.length ∧ ((cs.take i).any fun n => decide (n < 0) || decide (40 < n)) = false ∧ m = cs.length - i ∧
    st = ⟨mkE [(0, encBrs l), (1, encL cs), (5, i64 i)], mkS [], 0⟩) _ _ (weak_of ?_) ⟨0, by omega, by simp, rfl, rfl⟩ ?_
  · first | (simp -dsimp (disch := first | omega | decide +kernel) only [↓bp0, bd0, bd_LT, reduceIte, Nat.reduceEqDiff, evStore, Nat.reduceAdd, Nat.reduceMul, Int.reduceEq, Int.reduceLT, Int.reduceLE, Nat.reduceLeDiff, List.reduceReplicate, reduceCtorEq, evRange, Nat.reduceLT]; done) | simp -dsimp [evl, putN, i64, u32, bl, encL, encB, encLL]
  rintro m st ⟨i, hi, hpre, rfl, rfl⟩
  try simp -dsimp (disch := first | omega | decide +kernel) only [↓bp0, bd0, bd_LT, reduceIte, Nat.reduceEqDiff, evStore, Nat.reduceAdd, Nat.reduceMul, Int.reduceEq, Int.reduceLT, Int.reduceLE, Nat.reduceLeDiff, List.reduceReplicate, reduceCtorEq, evRange, Nat.reduceLT]
  refine onC_nlt (fun h2 => ?_) (fun h2 => ?_)
  · obtain ⟨n, hx, hxm⟩ := get_of_lt h2
    have hbad : (decide (n < 0) || decide (40 < n)) = true → bfits l cs = 2 := fun h => by
      rw [e1, if_pos (.inr (List.any_eq_true.2 ⟨n, hxm, h⟩))]
    cases h3 : decide (n < 0)
    case true =>
      simp -dsimp (disch := first | omega | decide +kernel) only [↓bp0, bd0, bd_LT, reduceIte, Nat.reduceEqDiff, evStore, Nat.reduceAdd, Nat.reduceMul, Int.reduceEq, Int.reduceLT, Int.reduceLE, Nat.reduceLeDiff, List.reduceReplicate, reduceCtorEq, evRange, Nat.reduceLT, retQ, resL, finL, newL, flat, tupOf, List.toList_toArray, Tryz.f71, hx, h3]
      exact leT_one (int_eq (hbad (by rw [h3]; rfl)).symm) (by simp)
    cases h4 : decide (40 < n)
    case true =>
      simp -dsimp (disch := first | omega | decide +kernel) only [↓bp0, bd0, bd_LT, reduceIte, Nat.reduceEqDiff, evStore, Nat.reduceAdd, Nat.reduceMul, Int.reduceEq, Int.reduceLT, Int.reduceLE, Nat.reduceLeDiff, List.reduceReplicate, reduceCtorEq, evRange, Nat.reduceLT, retQ, resL, finL, newL, flat, tupOf, List.toList_toArray, Tryz.f71, hx, h3, h4]
      exact leT_one (int_eq (hbad (by rw [h4]; simp)).symm) (by simp)
    try simp -dsimp (disch := first | omega | decide +kernel) only [↓bp0, bd0, bd_LT, reduceIte, Nat.reduceEqDiff, evStore, Nat.reduceAdd, Nat.reduceMul, Int.reduceEq, Int.reduceLT, Int.reduceLE, Nat.reduceLeDiff, List.reduceReplicate, reduceCtorEq, evRange, Nat.reduceLT, hx, h3, h4]
    refine ⟨_, _, ?_, weak_of ?_, i + 1, h2, ?_, rfl, rfl⟩
    · omega
    · first | (simp -dsimp (disch := first | omega | decide +kernel) only [↓bp0, bd0, bd_LT, reduceIte, Nat.reduceEqDiff, evStore, Nat.reduceAdd, Nat.reduceMul, Int.reduceEq, Int.reduceLT, Int.reduceLE, Nat.reduceLeDiff, List.reduceReplicate, reduceCtorEq, evRange, Nat.reduceLT, wrapS h2 hcl]; done) | simp -dsimp [evl, putN, i64, u32, bl, encL, encB, encLL, wrapS h2 hcl]
    · rw [take_succ hx, List.any_append, hpre]; simp [of_decide_eq_false h3, of_decide_eq_false h4]
  have hany : (cs.any fun n => decide (n < 0) || decide (40 < n)) = false := by rw [List.take_of_length_le (by omega)] at hpre; exact hpre
  have e2 : bfits l cs = if fitsB l cs then 0 else 16 := by
    rw [e1, if_neg (by rw [not_or, hany]; simp [h1']), fitsB]
    cases anyI (fun i b => !fitI l cs i b) l <;> rfl
  try simp -dsimp (disch := first | omega | decide +kernel) only [↓bp0, bd0, bd_LT, reduceIte, Nat.reduceEqDiff, evStore, Nat.reduceAdd, Nat.reduceMul, Int.reduceEq, Int.reduceLT, Int.reduceLE, Nat.reduceLeDiff, List.reduceReplicate, reduceCtorEq, evRange, Nat.reduceLT]
  refine CallQ.imm (r_views l cs (tok_of h0' h1' hany)) (by rfl) (by rfl) (by first | exact .inl rfl | exact .inr rfl | exact .inr scalB | exact .inr scalI | exact .inr scalT | exact .inr scalM | exact .inr scalMT) ?_
  cases h3 : fitsB l cs
  · simp -dsimp (disch := first | omega | decide +kernel) only [↓bp0, bd0, bd_LT, reduceIte, Nat.reduceEqDiff, evStore, Nat.reduceAdd, Nat.reduceMul, Int.reduceEq, Int.reduceLT, Int.reduceLE, Nat.reduceLeDiff, List.reduceReplicate, reduceCtorEq, evRange, Nat.reduceLT, retQ, resL, finL, newL, flat, tupOf, List.toList_toArray, Tryz.f71, h3, uUn, Option.bind_some]
    refine leT_one (int_eq ?_) (by simp)
    rw [e2, h3]; rfl
  · simp -dsimp (disch := first | omega | decide +kernel) only [↓bp0, bd0, bd_LT, reduceIte, Nat.reduceEqDiff, evStore, Nat.reduceAdd, Nat.reduceMul, Int.reduceEq, Int.reduceLT, Int.reduceLE, Nat.reduceLeDiff, List.reduceReplicate, reduceCtorEq, evRange, Nat.reduceLT, retQ, resL, finL, newL, flat, tupOf, List.toList_toArray, Tryz.f71, h3, uUn, Option.bind_some]
    refine leT_one (int_eq ?_) (by simp)
    rw [e2, h3]; rfl
theorem r_View (l : List Br) (cs : List Int) (n : Str) (hl : l.length ≤ 9223372036854775807) (hcl : cs.length ≤ 9223372036854775807) (hn : ∀ b ∈ l, b.name.size ≤ 2^40) : CallSpec cx 23 [encBrs l, encL cs, str n] (.tup [encMks (bview l cs n).1, i64 (bview l cs n).2]) := by
  refine callSpec_of_vc Tryz.func23 rfl (by decide) (by kernel_rfl) (Nat.le_of_ble_eq_true rfl) ?_
  try simp -dsimp (disch := first | omega | decide +kernel) only [↓bp0, bd0, bd_LT, reduceIte, Nat.reduceEqDiff, evStore, Nat.reduceAdd, Nat.reduceMul, Int.reduceEq, Int.reduceLT, Int.reduceLE, Nat.reduceLeDiff, List.reduceReplicate, reduceCtorEq, evRange, Nat.reduceLT, Tryz.f23]
  refine CallQ.imm (r_Fits l cs hl hcl hn) (by rfl) (by rfl) (by first | exact .inl rfl | exact .inr rfl | exact .inr scalB | exact .inr scalI | exact .inr scalT | exact .inr scalM | exact .inr scalMT) ?_
  cases h0 : decide (bfits l cs = 0)
  · try simp -dsimp (disch := first | omega | decide +kernel) only [↓bp0, bd0, bd_LT, reduceIte, Nat.reduceEqDiff, evStore, Nat.reduceAdd, Nat.reduceMul, Int.reduceEq, Int.reduceLT, Int.reduceLE, Nat.reduceLeDiff, List.reduceReplicate, reduceCtorEq, evRange, Nat.reduceLT, h0]
    refine CallQ.imm (r_Fits l cs hl hcl hn) (by rfl) (by rfl) (by first | exact .inl rfl | exact .inr rfl | exact .inr scalB | exact .inr scalI | exact .inr scalT | exact .inr scalM | exact .inr scalMT) ?_
    simp -dsimp (disch := first | omega | decide +kernel) only [↓bp0, bd0, bd_LT, reduceIte, Nat.reduceEqDiff, evStore, Nat.reduceAdd, Nat.reduceMul, Int.reduceEq, Int.reduceLT, Int.reduceLE, Nat.reduceLeDiff, List.reduceReplicate, reduceCtorEq, evRange, Nat.reduceLT, retQ, resL, finL, newL, flat, tupOf, List.toList_toArray, Tryz.f23, h0]
    rw [bview, if_pos (of_decide_eq_false h0)]
    exact ⟨.inl (.inr (.inr ⟨rfl, rfl⟩)), .rfl', trivial⟩
  have h0' := of_decide_eq_true h0
  have e1 : bview l cs n = if idx l n < 0 then ([], 6) else (vw l cs (idx l n).toNat, 0) := by rw [bview, if_neg (by rw [Decidable.not_not]; exact h0')]
  try simp -dsimp (disch := first | omega | decide +kernel) only [↓bp0, bd0, bd_LT, reduceIte, Nat.reduceEqDiff, evStore, Nat.reduceAdd, Nat.reduceMul, Int.reduceEq, Int.reduceLT, Int.reduceLE, Nat.reduceLeDiff, List.reduceReplicate, reduceCtorEq, evRange, Nat.reduceLT, h0]
  refine CallQ.imm (r_Index l n hl) (by rfl) (by rfl) (by first | exact .inl rfl | exact .inr rfl | exact .inr scalB | exact .inr scalI | exact .inr scalT | exact .inr scalM | exact .inr scalMT) ?_
  cases h1 : decide (idx l n < 0)
  case true =>
    simp -dsimp (disch := first | omega | decide +kernel) only [↓bp0, bd0, bd_LT, reduceIte, Nat.reduceEqDiff, evStore, Nat.reduceAdd, Nat.reduceMul, Int.reduceEq, Int.reduceLT, Int.reduceLE, Nat.reduceLeDiff, List.reduceReplicate, reduceCtorEq, evRange, Nat.reduceLT, retQ, resL, finL, newL, flat, tupOf, List.toList_toArray, Tryz.f23, h1]
    rw [e1, if_pos (of_decide_eq_true h1)]
    exact ⟨.inl (.inr (.inr ⟨rfl, rfl⟩)), .rfl', trivial⟩
  have h1' := of_decide_eq_false h1
  obtain ⟨hi1, hi2⟩ := idx_nat (l := l) (n := n) (by omega)
  have hF : fitsB l cs = true := by
    rw [fitsB, Bool.not_eq_true', anyI_false]
    intro j b hb
    have hv := vok_of h0'
    simp only [fitI, Bool.not_eq_false', Bool.or_eq_true, decide_eq_true_eq]
    by_cases hj : j = 0
    · exact .inl hj
    · exact .inr (hv.fit j b hb (by omega))
  try simp -dsimp (disch := first | omega | decide +kernel) only [↓bp0, bd0, bd_LT, reduceIte, Nat.reduceEqDiff, evStore, Nat.reduceAdd, Nat.reduceMul, Int.reduceEq, Int.reduceLT, Int.reduceLE, Nat.reduceLeDiff, List.reduceReplicate, reduceCtorEq, evRange, Nat.reduceLT, h1]
  refine CallQ.imm (r_views l cs (tok_fits h0')) (by rfl) (by rfl) (by first | exact .inl rfl | exact .inr rfl | exact .inr scalB | exact .inr scalI | exact .inr scalT | exact .inr scalM | exact .inr scalMT) ?_
  have hg : (vws l cs l.length)[(idx l n).toNat]? = some (vw l cs (idx l n).toNat) := vws_vw hi2 (Nat.le_refl _)
  rw [e1, if_neg h1']
  generalize (idx l n).toNat = ii at hi1 hg ⊢
  rw [hi1]
  simp -dsimp (disch := first | omega | decide +kernel) only [↓bp0, bd0, bd_LT, reduceIte, Nat.reduceEqDiff, evStore, Nat.reduceAdd, Nat.reduceMul, Int.reduceEq, Int.reduceLT, Int.reduceLE, Nat.reduceLeDiff, List.reduceReplicate, reduceCtorEq, evRange, Nat.reduceLT, retQ, resL, finL, newL, flat, tupOf, List.toList_toArray, Tryz.f23, hF, newVs, hg, cVs]
  exact ⟨.rfl', .rfl', trivial⟩
theorem r_Class (l : Ldg) (c : Str) (hl : l.known.length ≤ 2^40) : CallSpec cx 26 [encLdg l, str c] (i64 (clsI l.known c)) := by
  refine callSpec_of_vc Tryz.func26 rfl (by decide) (by kernel_rfl) (Nat.le_of_ble_eq_true rfl) ?_
  try simp -dsimp (disch := first | omega | decide +kernel) only [↓bp0, bd0, bd_LT, reduceIte, Nat.reduceEqDiff, evStore, Nat.reduceAdd, Nat.reduceMul, Int.reduceEq, Int.reduceLT, Int.reduceLE, Nat.reduceLeDiff, List.reduceReplicate, reduceCtorEq, evRange, Nat.reduceLT, Tryz.f26]
  refine LoopQ.rule (fun m st => ∃ i : Nat, i ≤ l.known.length ∧ clsOf (l.known.take i) c = none ∧ m = l.known.length - i ∧
    st = ⟨mkE [(1, str c), (2, .ptr 0 0 0 0), (5, i64 i)], mkS [(0, .row 0 3 [[encKws l.known, encBrs l.brs, encEvss l.evs]] false)], 1⟩) _ _ (weak_of ?_) ⟨0, by omega, rfl, rfl, rfl⟩ ?_
  · first | (simp -dsimp (disch := first | omega | decide +kernel) only [↓bp0, bd0, bd_LT, reduceIte, Nat.reduceEqDiff, evStore, Nat.reduceAdd, Nat.reduceMul, Int.reduceEq, Int.reduceLT, Int.reduceLE, Nat.reduceLeDiff, List.reduceReplicate, reduceCtorEq, evRange, Nat.reduceLT]; done) | simp -dsimp [evl, putN, i64, u32, bl, encL, encB, encLL]
  rintro m st ⟨i, hi, hpre, rfl, rfl⟩
  try simp -dsimp (disch := first | omega | decide +kernel) only [↓bp0, bd0, bd_LT, reduceIte, Nat.reduceEqDiff, evStore, Nat.reduceAdd, Nat.reduceMul, Int.reduceEq, Int.reduceLT, Int.reduceLE, Nat.reduceLeDiff, List.reduceReplicate, reduceCtorEq, evRange, Nat.reduceLT]
  refine onC_nlt (fun h2 => ?_) (fun h2 => ?_)
  · obtain ⟨k, hx, hxm⟩ := get_of_lt h2
    have htk := take_succ hx
    have hsn : clsOf (l.known.take (i + 1)) c = if k.chg = c then some k.cls else none := by rw [htk, clsOf_snoc, hpre]
    cases he : decide (k.chg = c)
    · have he' := of_decide_eq_false he
      try simp -dsimp (disch := first | omega | decide +kernel) only [↓bp0, bd0, bd_LT, reduceIte, Nat.reduceEqDiff, evStore, Nat.reduceAdd, Nat.reduceMul, Int.reduceEq, Int.reduceLT, Int.reduceLE, Nat.reduceLeDiff, List.reduceReplicate, reduceCtorEq, evRange, Nat.reduceLT, hx, he]
      refine ⟨_, _, ?_, weak_of ?_, i + 1, h2, by rw [hsn, if_neg he'], rfl, rfl⟩
      · omega
      · first | (simp -dsimp (disch := first | omega | decide +kernel) only [↓bp0, bd0, bd_LT, reduceIte, Nat.reduceEqDiff, evStore, Nat.reduceAdd, Nat.reduceMul, Int.reduceEq, Int.reduceLT, Int.reduceLE, Nat.reduceLeDiff, List.reduceReplicate, reduceCtorEq, evRange, Nat.reduceLT, wrapS h2 (show l.known.length ≤ 9223372036854775807 by omega)]; done) | simp -dsimp [evl, putN, i64, u32, bl, encL, encB, encLL, wrapS h2 (show l.known.length ≤ 9223372036854775807 by omega)]
    · have he' := of_decide_eq_true he
      simp -dsimp (disch := first | omega | decide +kernel) only [↓bp0, bd0, bd_LT, reduceIte, Nat.reduceEqDiff, evStore, Nat.reduceAdd, Nat.reduceMul, Int.reduceEq, Int.reduceLT, Int.reduceLE, Nat.reduceLeDiff, List.reduceReplicate, reduceCtorEq, evRange, Nat.reduceLT, retQ, resL, finL, newL, flat, tupOf, List.toList_toArray, Tryz.f26, hx, he]
      refine leT_one (int_eq ?_) (by simp)
      have : clsOf l.known c = some k.cls := by
        rw [if_pos he'] at hsn
        unfold clsOf at hsn ⊢
        rw [← List.take_append_drop (i + 1) l.known, List.find?_append]
        obtain ⟨q, h1, h3⟩ := Option.map_eq_some_iff.1 hsn
        rw [h1]; simp [h3]
      rw [clsI, this]; rfl
  · rw [List.take_of_length_le (by omega)] at hpre
    simp -dsimp (disch := first | omega | decide +kernel) only [↓bp0, bd0, bd_LT, reduceIte, Nat.reduceEqDiff, evStore, Nat.reduceAdd, Nat.reduceMul, Int.reduceEq, Int.reduceLT, Int.reduceLE, Nat.reduceLeDiff, List.reduceReplicate, reduceCtorEq, evRange, Nat.reduceLT, retQ, resL, finL, newL, flat, tupOf, List.toList_toArray, Tryz.f26]
    refine leT_one (int_eq ?_) (by simp)
    rw [clsI, hpre]; rfl
theorem r_Counts (l : Ldg) (hl : l.evs.length ≤ 2^40) (he : ∀ s ∈ l.evs, s.length ≤ 2^40) : CallSpec cx 24 [encLdg l] (newI (cnts l)) := by
  refine callSpec_of_vc Tryz.func24 rfl (by decide) (by kernel_rfl) (Nat.le_of_ble_eq_true rfl) ?_
  try simp -dsimp (disch := first | omega | decide +kernel) only [↓bp0, bd0, bd_LT, reduceIte, Nat.reduceEqDiff, evStore, Nat.reduceAdd, Nat.reduceMul, Int.reduceEq, Int.reduceLT, Int.reduceLE, Nat.reduceLeDiff, List.reduceReplicate, reduceCtorEq, evRange, Nat.reduceLT, Tryz.f24]
  refine LoopQ.ghost 3 1 (by rfl) ?_
  refine LoopQ.rule (fun m st => ∃ (i id ver nx : Nat), i ≤ l.evs.length ∧ 1 ≤ id ∧ id < nx ∧ m = l.evs.length - i ∧
    st = ⟨mkE [(1, .ptr 0 0 0 0), (3, .own id ver 0 i false), (4, i64 i)], mkS [(0, .row 0 3 [[encKws l.known, encBrs l.brs, encEvss l.evs]] false), (id, .row ver 1 (((cnts l).take i).map fun n => [i64 n]) false)], nx⟩) _ _ (weak_of ?_)
    ⟨0, 1, 0, 2, by omega, by omega, by omega, rfl, rfl⟩ ?_
  · first | (simp -dsimp (disch := first | omega | decide +kernel) only [↓bp0, bd0, bd_LT, reduceIte, Nat.reduceEqDiff, evStore, Nat.reduceAdd, Nat.reduceMul, Int.reduceEq, Int.reduceLT, Int.reduceLE, Nat.reduceLeDiff, List.reduceReplicate, reduceCtorEq, evRange, Nat.reduceLT, ghR, List.take_zero, List.map_nil]; done) | simp -dsimp [evl, putN, i64, u32, bl, encL, encB, encLL, ghR, List.take_zero, List.map_nil]
  rintro m st ⟨i, id, ver, nx, hi, hid1, hid, rfl, rfl⟩
  have hE1_0a : (id = 0) = False := by simp; omega
  have hE1_0b : (0 = id) = False := by simp; omega
  have hE1_1a : (id = nx) = False := by simp; omega
  have hE1_1b : (nx = id) = False := by simp; omega
  have hE1_2a : (nx = 0) = False := by simp; omega
  have hE1_2b : (0 = nx) = False := by simp; omega
  try simp -dsimp (disch := first | omega | decide +kernel) only [↓bp0, bd0, bd_LT, reduceIte, Nat.reduceEqDiff, evStore, Nat.reduceAdd, Nat.reduceMul, Int.reduceEq, Int.reduceLT, Int.reduceLE, Nat.reduceLeDiff, List.reduceReplicate, reduceCtorEq, evRange, Nat.reduceLT, hE1_0a, hE1_0b, hE1_1a, hE1_1b, hE1_2a, hE1_2b]
  refine onC_nlt (fun h2 => ?_) (fun h2 => ?_)
  · obtain ⟨x, hx, hxm⟩ := get_of_lt h2
    have hc : (cnts l)[i]? = some (x.length : Int) := by simp [cnts, hx]
    have hts := take_succ hc
    have hbd : (i + 1) * 8 ≤ 140737488355328 := by omega
    have hlt : ((cnts l).take i).length = i := by rw [List.length_take, cnts_len]; omega
    try simp -dsimp (disch := first | omega | decide +kernel) only [↓bp0, bd0, bd_LT, reduceIte, Nat.reduceEqDiff, evStore, Nat.reduceAdd, Nat.reduceMul, Int.reduceEq, Int.reduceLT, Int.reduceLE, Nat.reduceLeDiff, List.reduceReplicate, reduceCtorEq, evRange, Nat.reduceLT, hx, hE1_0a, hE1_0b, hE1_1a, hE1_1b, hE1_2a, hE1_2b, hbd, hlt]
    refine ⟨_, _, ?_, weak_of ?_, i + 1, id, ver + 1, nx + 1, h2, hid1, by omega, rfl, rfl⟩
    · omega
    · first | (simp -dsimp (disch := first | omega | decide +kernel) only [↓bp0, bd0, bd_LT, reduceIte, Nat.reduceEqDiff, evStore, Nat.reduceAdd, Nat.reduceMul, Int.reduceEq, Int.reduceLT, Int.reduceLE, Nat.reduceLeDiff, List.reduceReplicate, reduceCtorEq, evRange, Nat.reduceLT, hE1_0a, hE1_0b, hE1_1a, hE1_1b, hE1_2a, hE1_2b, wrapS h2 (show l.evs.length ≤ 9223372036854775807 by omega), hts, List.map_append, List.map_cons, List.map_nil]; done) | simp -dsimp [evl, putN, i64, u32, bl, encL, encB, encLL, hE1_0a, hE1_0b, hE1_1a, hE1_1b, hE1_2a, hE1_2b, wrapS h2 (show l.evs.length ≤ 9223372036854775807 by omega), hts, List.map_append, List.map_cons, List.map_nil]
  · have hil : i = l.evs.length := by omega
    subst hil
    have htl : (cnts l).take l.evs.length = cnts l := List.take_of_length_le (by rw [cnts_len]; omega)
    have hT : List.take l.evs.length ((cnts l).map fun n => [PV.lit (.int .i64 n)]) = (cnts l).map fun n => [PV.lit (.int .i64 n)] := List.take_of_length_le (by simp [cnts])
    rw [htl]
    have hcl := cnts_len l
    simp -dsimp (disch := first | omega | decide +kernel) only [↓bp0, bd0, bd_LT, reduceIte, Nat.reduceEqDiff, evStore, Nat.reduceAdd, Nat.reduceMul, Int.reduceEq, Int.reduceLT, Int.reduceLE, Nat.reduceLeDiff, List.reduceReplicate, reduceCtorEq, evRange, Nat.reduceLT, retQ, resL, finL, newL, flat, tupOf, List.toList_toArray, Tryz.f24, hT, hcl, hE1_0a, hE1_0b, hE1_1a, hE1_1b, hE1_2a, hE1_2b]
    exact leT_one .rfl' (by simp)
end Go.Ab
