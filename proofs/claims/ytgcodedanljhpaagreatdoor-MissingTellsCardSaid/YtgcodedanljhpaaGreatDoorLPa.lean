/- After. -/
import Derived.Test.YtgcodedanljhpaaGreatDoorLP
set_option linter.unusedSimpArgs false
set_option linter.unusedVariables false
set_option maxRecDepth 100000
set_option maxHeartbeats 8000000
namespace Go.Ab
open Go Go.Proofs
theorem bd_LPa : type_of% (And.intro @evNext.eq_1 (And.intro @fld (And.intro @nit (And.intro @nxE (And.intro @ovR (And.intro @evBin_seql (And.intro @evBin_sneq (And.intro @str.eq_1 (And.intro @u8.eq_1 (And.intro @encBrs.eq_1 (And.intro @cBr.eq_1 (And.intro @encLdg.eq_1 (And.intro @encKws.eq_1 (And.intro @cKw.eq_1 (And.intro @encEvss.eq_1 (And.intro @encEvs.eq_1 (And.intro @cEv.eq_1 (And.intro @encMks.eq_1 (And.intro @cMk.eq_1 (And.intro @tk2 (And.intro @tk3 (And.intro @List.set_cons_succ.{0} (And.intro @List.getElem?_cons_zero.{0} (And.intro @List.getElem?_cons_succ.{0} (@List.length_set.{0}))))))))))))))))))))))))) := And.intro @evNext.eq_1 (And.intro @fld (And.intro @nit (And.intro @nxE (And.intro @ovR (And.intro @evBin_seql (And.intro @evBin_sneq (And.intro @str.eq_1 (And.intro @u8.eq_1 (And.intro @encBrs.eq_1 (And.intro @cBr.eq_1 (And.intro @encLdg.eq_1 (And.intro @encKws.eq_1 (And.intro @cKw.eq_1 (And.intro @encEvss.eq_1 (And.intro @encEvs.eq_1 (And.intro @cEv.eq_1 (And.intro @encMks.eq_1 (And.intro @cMk.eq_1 (And.intro @tk2 (And.intro @tk3 (And.intro @List.set_cons_succ.{0} (And.intro @List.getElem?_cons_zero.{0} (And.intro @List.getElem?_cons_succ.{0} (@List.length_set.{0}))))))))))))))))))))))))
theorem d_After (l : Ldg) (n : Str) (k : Int) (hz : LSz l) : CallSpec cx 53 [encLdg l, str n, i64 k] (.tup [newI (laft l n k).1, i64 (laft l n k).2]) := by
  refine callSpec_of_vc Tryz.func53 rfl (by decide) (by kernel_rfl) (Nat.le_of_ble_eq_true rfl) ?_
  try simp -dsimp (maxSteps := 2000000) (disch := first | omega | decide +kernel) only [↓bp0, bd0, bd_LPa, aggD, reduceIte, Nat.reduceEqDiff, forget, forget1, evStore, PV.one, Nat.reduceAdd, Nat.reduceMul, Int.reduceEq, Int.reduceLT, Int.reduceLE, Nat.reduceLeDiff, List.reduceReplicate, reduceCtorEq, evRange, Nat.reduceLT, Tryz.f53]
  refine CallQ.imm (d_lview l n hz) (by rfl) (by first | rfl | (simp -dsimp (maxSteps := 2000000) (disch := first | omega | decide +kernel) only [↓bp0, bd0, bd_LPa, aggD, reduceIte, Nat.reduceEqDiff, forget, forget1, evStore, PV.one, Nat.reduceAdd, Nat.reduceMul, Int.reduceEq, Int.reduceLT, Int.reduceLE, Nat.reduceLeDiff, List.reduceReplicate, reduceCtorEq, evRange, Nat.reduceLT, drcs, drc, flat]; done) | simp -dsimp [evl, drcs, drc, flat, i64, u32, bl, encL, encB, encLL]) (by first | exact .inl rfl | exact .inr rfl | exact .inr scalB | exact .inr scalI | exact .inr scalT | exact .inr scalM | exact .inr scalMT) ?_
  cases h0 : decide ((lview l n).2 = 0)
  · simp -dsimp (maxSteps := 2000000) (disch := first | omega | decide +kernel) only [↓bp0, bd0, bd_LPa, aggD, reduceIte, Nat.reduceEqDiff, forget, forget1, evStore, PV.one, Nat.reduceAdd, Nat.reduceMul, Int.reduceEq, Int.reduceLT, Int.reduceLE, Nat.reduceLeDiff, List.reduceReplicate, reduceCtorEq, evRange, Nat.reduceLT, retQ, resL, finL, newL, flat, tupOf, List.toList_toArray, Tryz.f53, h0]
    rw [laft, if_pos (of_decide_eq_false h0)]
    exact ⟨.inr ⟨rfl, 1, rfl⟩, .rfl', trivial⟩
  have h0' := of_decide_eq_true h0
  obtain ⟨q1, q2, q3, q4⟩ := fold_pre h0'
  rw [laft, if_neg (by rw [Decidable.not_not]; exact h0')]
  generalize (lview l n).1 = v at q2 q3 q4 ⊢
  cases h1 : decide (k < 0)
  case true =>
    simp -dsimp (maxSteps := 2000000) (disch := first | omega | decide +kernel) only [↓bp0, bd0, bd_LPa, aggD, reduceIte, Nat.reduceEqDiff, forget, forget1, evStore, PV.one, Nat.reduceAdd, Nat.reduceMul, Int.reduceEq, Int.reduceLT, Int.reduceLE, Nat.reduceLeDiff, List.reduceReplicate, reduceCtorEq, evRange, Nat.reduceLT, retQ, resL, finL, newL, flat, tupOf, List.toList_toArray, Tryz.f53, h0, h1]
    rw [if_pos (.inl (of_decide_eq_true h1))]
    exact ⟨.inr ⟨rfl, 1, rfl⟩, .rfl', trivial⟩
  cases h2 : decide ((v.length : Int) < k)
  case true =>
    simp -dsimp (maxSteps := 2000000) (disch := first | omega | decide +kernel) only [↓bp0, bd0, bd_LPa, aggD, reduceIte, Nat.reduceEqDiff, forget, forget1, evStore, PV.one, Nat.reduceAdd, Nat.reduceMul, Int.reduceEq, Int.reduceLT, Int.reduceLE, Nat.reduceLeDiff, List.reduceReplicate, reduceCtorEq, evRange, Nat.reduceLT, retQ, resL, finL, newL, flat, tupOf, List.toList_toArray, Tryz.f53, h0, h1, h2, newMks]
    rw [if_pos (.inr (of_decide_eq_true h2))]
    exact ⟨.inr ⟨rfl, 1, rfl⟩, .rfl', trivial⟩
  have h1' := of_decide_eq_false h1
  have h2' := of_decide_eq_false h2
  rw [if_neg (by rw [not_or]; exact ⟨h1', h2'⟩)]
  obtain ⟨k, rfl⟩ : ∃ m : Nat, k = m := ⟨k.toNat, by omega⟩
  have hkl : k ≤ v.length := by omega
  have hdt : List.drop 0 (List.take k (v.map cMk)) = (v.take k).map cMk := by rw [List.drop_zero, List.map_take]
  have hdt2 : List.take k (v.map cMk) = (v.take k).map cMk := by rw [List.map_take]
  rw [Int.toNat_natCast]
  try simp -dsimp (maxSteps := 2000000) (disch := first | omega | decide +kernel) only [↓bp0, bd0, bd_LPa, aggD, reduceIte, Nat.reduceEqDiff, forget, forget1, evStore, PV.one, Nat.reduceAdd, Nat.reduceMul, Int.reduceEq, Int.reduceLT, Int.reduceLE, Nat.reduceLeDiff, List.reduceReplicate, reduceCtorEq, evRange, Nat.reduceLT, h0, h1, h2, newMks]
  first | refine vc_text (by kernel_rfl) ?_ | skip
  try simp -dsimp (maxSteps := 2000000) (disch := first | omega | decide +kernel) only [↓bp0, bd0, bd_LPa, aggD, reduceIte, Nat.reduceEqDiff, forget, forget1, evStore, PV.one, Nat.reduceAdd, Nat.reduceMul, Int.reduceEq, Int.reduceLT, Int.reduceLE, Nat.reduceLeDiff, List.reduceReplicate, reduceCtorEq, evRange, Nat.reduceLT, hkl, evSlice, slc, allMk, Bool.false_and, hdt, hdt2]
  refine CallY.q 4 rfl (by kernel_rfl) ?_
  refine CallQ.inm (d_folded l q1 (v.take k) (fun m hm => q2 m (List.mem_of_mem_take hm)) (fun e he => q3 e (by rw [seenE_take] at he; exact List.mem_of_mem_take he)) (by rw [List.length_take]; omega) _ _) (by rfl) ?_
  rintro r σ' nx1 ⟨id, ver, hs1, hs2, rfl, rfl⟩
  try simp -dsimp (maxSteps := 2000000) (disch := first | omega | decide +kernel) only [↓bp0, bd0, bd_LPa, aggD, reduceIte, Nat.reduceEqDiff, forget, forget1, evStore, PV.one, Nat.reduceAdd, Nat.reduceMul, Int.reduceEq, Int.reduceLT, Int.reduceLE, Nat.reduceLeDiff, List.reduceReplicate, reduceCtorEq, evRange, Nat.reduceLT]
  refine CallY.q 5 rfl (by kernel_rfl) ?_
  refine CallQ.thaw (d_list (cls0 l.known) (seenE l (v.take k))) (by rfl) (by first | rfl | (simp -dsimp (maxSteps := 2000000) (disch := first | omega | decide +kernel) only [↓bp0, bd0, bd_LPa, aggD, reduceIte, Nat.reduceEqDiff, forget, forget1, evStore, PV.one, Nat.reduceAdd, Nat.reduceMul, Int.reduceEq, Int.reduceLT, Int.reduceLE, Nat.reduceLeDiff, List.reduceReplicate, reduceCtorEq, evRange, Nat.reduceLT, drcs, drc, flat, flSt, List.drop_zero]; done)) flLitI ?_
  simp -dsimp (maxSteps := 2000000) (disch := first | omega | decide +kernel) only [↓bp0, bd0, bd_LPa, aggD, reduceIte, Nat.reduceEqDiff, forget, forget1, evStore, PV.one, Nat.reduceAdd, Nat.reduceMul, Int.reduceEq, Int.reduceLT, Int.reduceLE, Nat.reduceLeDiff, List.reduceReplicate, reduceCtorEq, evRange, Nat.reduceLT, retQ, resL, finL, newL, flat, tupOf, List.toList_toArray, Tryz.f53, effE]
  exact ⟨.rfl', .rfl', trivial⟩
end Go.Ab
