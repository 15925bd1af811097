/- The reference: After. -/
import Derived.Test.YtgcodedanljhpaaGreatDoorLX
set_option linter.unusedSimpArgs false
set_option linter.unusedVariables false
set_option maxRecDepth 100000
set_option maxHeartbeats 8000000
namespace Go.Ab
open Go Go.Proofs
theorem bd_LXa : type_of% (And.intro @evNext.eq_1 (And.intro @fld (And.intro @nit (And.intro @nxE (And.intro @ovR (And.intro @evBin_seql (And.intro @evBin_sneq (And.intro @str.eq_1 (And.intro @u8.eq_1 (And.intro @encBrs.eq_1 (And.intro @cBr.eq_1 (And.intro @encLdg.eq_1 (And.intro @encKws.eq_1 (And.intro @cKw.eq_1 (And.intro @encEvss.eq_1 (And.intro @encEvs.eq_1 (And.intro @cEv.eq_1 (And.intro @encMks.eq_1 (And.intro @cMk.eq_1 (And.intro @tk2 (And.intro @tk3 (And.intro @List.set_cons_succ.{0} (And.intro @List.getElem?_cons_zero.{0} (And.intro @List.getElem?_cons_succ.{0} (@List.length_set.{0}))))))))))))))))))))))))) := And.intro @evNext.eq_1 (And.intro @fld (And.intro @nit (And.intro @nxE (And.intro @ovR (And.intro @evBin_seql (And.intro @evBin_sneq (And.intro @str.eq_1 (And.intro @u8.eq_1 (And.intro @encBrs.eq_1 (And.intro @cBr.eq_1 (And.intro @encLdg.eq_1 (And.intro @encKws.eq_1 (And.intro @cKw.eq_1 (And.intro @encEvss.eq_1 (And.intro @encEvs.eq_1 (And.intro @cEv.eq_1 (And.intro @encMks.eq_1 (And.intro @cMk.eq_1 (And.intro @tk2 (And.intro @tk3 (And.intro @List.set_cons_succ.{0} (And.intro @List.getElem?_cons_zero.{0} (And.intro @List.getElem?_cons_succ.{0} (@List.length_set.{0}))))))))))))))))))))))))
theorem r_After (l : Ldg) (n : Str) (k : Int) (hz : LSz l) (hn : LNm l) : CallSpec cx 59 [encLdg l, str n, i64 k] (.tup [newI (laft l n k).1, i64 (laft l n k).2]) := by
  refine callSpec_of_vc Tryz.func59 rfl (by decide) (by kernel_rfl) (Nat.le_of_ble_eq_true rfl) ?_
  try simp -dsimp (maxSteps := 2000000) (disch := first | omega | decide +kernel) only [↓bp0, bd0, bd_LXa, aggD, reduceIte, Nat.reduceEqDiff, forget, forget1, evStore, PV.one, Nat.reduceAdd, Nat.reduceMul, Int.reduceEq, Int.reduceLT, Int.reduceLE, Nat.reduceLeDiff, List.reduceReplicate, reduceCtorEq, evRange, Nat.reduceLT, Tryz.f59]
  refine CallQ.imm (r_lView l n hz hn) (by rfl) (by first | rfl | (simp -dsimp (maxSteps := 2000000) (disch := first | omega | decide +kernel) only [↓bp0, bd0, bd_LXa, aggD, reduceIte, Nat.reduceEqDiff, forget, forget1, evStore, PV.one, Nat.reduceAdd, Nat.reduceMul, Int.reduceEq, Int.reduceLT, Int.reduceLE, Nat.reduceLeDiff, List.reduceReplicate, reduceCtorEq, evRange, Nat.reduceLT, drcs, drc, flat]; done) | simp -dsimp [evl, drcs, drc, flat, i64, u32, bl, encL, encB, encLL]) (by first | exact .inl rfl | exact .inr rfl | exact .inr scalB | exact .inr scalI | exact .inr scalT | exact .inr scalM | exact .inr scalMT | exact .inr scalE) ?_
  cases h0 : decide ((lview l n).2 = 0)
  · simp -dsimp (maxSteps := 2000000) (disch := first | omega | decide +kernel) only [↓bp0, bd0, bd_LXa, aggD, reduceIte, Nat.reduceEqDiff, forget, forget1, evStore, PV.one, Nat.reduceAdd, Nat.reduceMul, Int.reduceEq, Int.reduceLT, Int.reduceLE, Nat.reduceLeDiff, List.reduceReplicate, reduceCtorEq, evRange, Nat.reduceLT, retQ, resL, finL, newL, flat, tupOf, List.toList_toArray, Tryz.f59, h0]
    rw [laft, if_pos (of_decide_eq_false h0)]
    exact ⟨.inr ⟨rfl, 1, rfl⟩, .rfl', trivial⟩
  have h0' := of_decide_eq_true h0
  obtain ⟨q1, q2, q3, q4⟩ := fold_pre h0'
  rw [laft, if_neg (by rw [Decidable.not_not]; exact h0')]
  have hsl : (seenE l (lview l n).1).length = (lview l n).1.length := by simp [seenE]
  have htk : ∀ k : Nat, seenE l ((lview l n).1.take k) = (seenE l (lview l n).1).take k := fun k => seenE_take _ _ _
  generalize (lview l n).1.length = len at q4 hsl ⊢
  cases h1 : decide (k < 0)
  case true =>
    simp -dsimp (maxSteps := 2000000) (disch := first | omega | decide +kernel) only [↓bp0, bd0, bd_LXa, aggD, reduceIte, Nat.reduceEqDiff, forget, forget1, evStore, PV.one, Nat.reduceAdd, Nat.reduceMul, Int.reduceEq, Int.reduceLT, Int.reduceLE, Nat.reduceLeDiff, List.reduceReplicate, reduceCtorEq, evRange, Nat.reduceLT, retQ, resL, finL, newL, flat, tupOf, List.toList_toArray, Tryz.f59, h0, h1]
    rw [if_pos (.inl (of_decide_eq_true h1))]
    exact ⟨.inr ⟨rfl, 1, rfl⟩, .rfl', trivial⟩
  cases h2 : decide ((len : Int) < k)
  case true =>
    rw [← hsl] at h2
    simp -dsimp (maxSteps := 2000000) (disch := first | omega | decide +kernel) only [↓bp0, bd0, bd_LXa, aggD, reduceIte, Nat.reduceEqDiff, forget, forget1, evStore, PV.one, Nat.reduceAdd, Nat.reduceMul, Int.reduceEq, Int.reduceLT, Int.reduceLE, Nat.reduceLeDiff, List.reduceReplicate, reduceCtorEq, evRange, Nat.reduceLT, retQ, resL, finL, newL, flat, tupOf, List.toList_toArray, Tryz.f59, h0, h1, h2]
    rw [hsl] at h2
    rw [if_pos (.inr (of_decide_eq_true h2))]
    exact ⟨.inr ⟨rfl, 1, rfl⟩, .rfl', trivial⟩
  have h1' := of_decide_eq_false h1
  have h2' := of_decide_eq_false h2
  rw [if_neg (by rw [not_or]; exact ⟨h1', h2'⟩)]
  obtain ⟨k, rfl⟩ : ∃ m : Nat, k = m := ⟨k.toNat, by omega⟩
  rw [Int.toNat_natCast, htk]
  rw [← hsl] at h2
  generalize seenE l (lview l n).1 = s at q3 hsl h2 ⊢
  have hkl : k ≤ s.length := by omega
  have hdt : List.drop 0 (List.take k (s.map cEv)) = (s.take k).map cEv := by rw [List.drop_zero, List.map_take]
  have hdt2 : List.take k (s.map cEv) = (s.take k).map cEv := by rw [List.map_take]
  try simp -dsimp (maxSteps := 2000000) (disch := first | omega | decide +kernel) only [↓bp0, bd0, bd_LXa, aggD, reduceIte, Nat.reduceEqDiff, forget, forget1, evStore, PV.one, Nat.reduceAdd, Nat.reduceMul, Int.reduceEq, Int.reduceLT, Int.reduceLE, Nat.reduceLeDiff, List.reduceReplicate, reduceCtorEq, evRange, Nat.reduceLT, h0, h1, h2]
  first | refine vc_text (by kernel_rfl) ?_ | skip
  try simp -dsimp (maxSteps := 2000000) (disch := first | omega | decide +kernel) only [↓bp0, bd0, bd_LXa, aggD, reduceIte, Nat.reduceEqDiff, forget, forget1, evStore, PV.one, Nat.reduceAdd, Nat.reduceMul, Int.reduceEq, Int.reduceLT, Int.reduceLE, Nat.reduceLeDiff, List.reduceReplicate, reduceCtorEq, evRange, Nat.reduceLT, hkl, evSlice, slc, allEv, Bool.false_and, hdt, hdt2]
  refine CallY.q 4 rfl (by kernel_rfl) ?_
  refine CallQ.thaw (r_effect l (s.take k) hz.known (by rw [List.length_take]; omega)) (by rfl) (by first | rfl | (simp -dsimp (maxSteps := 2000000) (disch := first | omega | decide +kernel) only [↓bp0, bd0, bd_LXa, aggD, reduceIte, Nat.reduceEqDiff, forget, forget1, evStore, PV.one, Nat.reduceAdd, Nat.reduceMul, Int.reduceEq, Int.reduceLT, Int.reduceLE, Nat.reduceLeDiff, List.reduceReplicate, reduceCtorEq, evRange, Nat.reduceLT, drcs, drc, flat, encEvs]; done)) flLitI ?_
  rw [effE_clsI fun e he => q3 e (List.mem_of_mem_take he)]
  simp -dsimp (maxSteps := 2000000) (disch := first | omega | decide +kernel) only [↓bp0, bd0, bd_LXa, aggD, reduceIte, Nat.reduceEqDiff, forget, forget1, evStore, PV.one, Nat.reduceAdd, Nat.reduceMul, Int.reduceEq, Int.reduceLT, Int.reduceLE, Nat.reduceLeDiff, List.reduceReplicate, reduceCtorEq, evRange, Nat.reduceLT, retQ, resL, finL, newL, flat, tupOf, List.toList_toArray, Tryz.f59]
  exact ⟨.rfl', .rfl', trivial⟩
end Go.Ab
