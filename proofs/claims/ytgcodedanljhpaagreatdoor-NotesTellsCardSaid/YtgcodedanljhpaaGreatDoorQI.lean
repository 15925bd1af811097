/- The reference of notes: what is missing, last events, notes put in order. -/
import Derived.Test.YtgcodedanljhpaaGreatDoorQH
import Derived.Test.YtgcodedanljhpaaGreatDoorPN
set_option linter.unusedSimpArgs false
set_option linter.unusedVariables false
set_option maxRecDepth 1000000
set_option maxHeartbeats 16000000
namespace Go.Ab
open Go Go.Proofs Go.Sort
theorem bd_QI : type_of% (And.intro @evNext.eq_1 (And.intro @fld (And.intro @nit (And.intro @nxE (And.intro @ghR (And.intro @ovR (And.intro @evBin_seql (And.intro @evBin_sneq (And.intro @str.eq_1 (And.intro @u8.eq_1 (And.intro @encBrs.eq_1 (And.intro @cBr.eq_1 (And.intro @encLdg.eq_1 (And.intro @encKws.eq_1 (And.intro @cKw.eq_1 (And.intro @encEvss.eq_1 (And.intro @encEvs.eq_1 (And.intro @cEv.eq_1 (And.intro @encMks.eq_1 (And.intro @cMk.eq_1 (And.intro @encStrs.eq_1 (And.intro @tk2 (And.intro @tk3 (And.intro @List.set_cons_succ.{0} (And.intro @List.getElem?_cons_zero.{0} (And.intro @List.getElem?_cons_succ.{0} (@List.length_set.{0}))))))))))))))))))))))))))) := And.intro @evNext.eq_1 (And.intro @fld (And.intro @nit (And.intro @nxE (And.intro @ghR (And.intro @ovR (And.intro @evBin_seql (And.intro @evBin_sneq (And.intro @str.eq_1 (And.intro @u8.eq_1 (And.intro @encBrs.eq_1 (And.intro @cBr.eq_1 (And.intro @encLdg.eq_1 (And.intro @encKws.eq_1 (And.intro @cKw.eq_1 (And.intro @encEvss.eq_1 (And.intro @encEvs.eq_1 (And.intro @cEv.eq_1 (And.intro @encMks.eq_1 (And.intro @cMk.eq_1 (And.intro @encStrs.eq_1 (And.intro @tk2 (And.intro @tk3 (And.intro @List.set_cons_succ.{0} (And.intro @List.getElem?_cons_zero.{0} (And.intro @List.getElem?_cons_succ.{0} (@List.length_set.{0}))))))))))))))))))))))))))
theorem r_put (L : List Nt) (n : Nt) (hl : L.length ≤ 2^20) : CallSpec cx 104 [encNts L, agNt n] (newNts (insN L n)) := by
  have hpl := (insP_spec (L := L) (n := n) L.length (Nat.le_refl _)).1
  have tail : ∀ k : Nat, k ≤ L.length → (L.take k ++ n :: L.drop k).length = L.length + 1 := fun k hk => by rw [List.length_append, List.length_cons, List.length_take, List.length_drop]; omega
  refine callSpec_of_vc Tryz.func104 rfl (by decide) (by kernel_rfl) (Nat.le_of_ble_eq_true rfl) ?_
  try simp -dsimp (maxSteps := 9^9) (disch := first | omega | decide +kernel) only [↓bp0, bd0, bd_QI, reduceIte, Nat.reduceEqDiff, evStore, Nat.reduceAdd, Nat.reduceMul, Int.reduceEq, Int.reduceLT, Int.reduceLE, Nat.reduceLeDiff, List.reduceReplicate, reduceCtorEq, evRange, nilR, tk4, Nat.reduceLT, Tryz.f104, encNts, List.length_map, cNt]
  refine LoopQ.rule (fun m st => ∃ (k : Nat), k ≤ L.length ∧ insP L n k = insP L n L.length ∧ m = k ∧
    st = ⟨mkE [(0, encNts L), (3, .ptr 0 0 0 0), (5, i64 k)], mkS [(0, .row 0 4 [cNt n] false)], 1⟩) _ _ (weak_of ?_)
    ⟨L.length, by omega, rfl, rfl, rfl⟩ ?_
  · first | (simp -dsimp (maxSteps := 9^9) (disch := first | omega | decide +kernel) only [↓bp0, bd0, bd_QI, reduceIte, Nat.reduceEqDiff, evStore, Nat.reduceAdd, Nat.reduceMul, Int.reduceEq, Int.reduceLT, Int.reduceLE, Nat.reduceLeDiff, List.reduceReplicate, reduceCtorEq, evRange, nilR, tk4, Nat.reduceLT, encNts, cNt]; done) | simp -dsimp [evl, putN, i64, u32, bl, encL, encB, encLL, encNts, cNt]
  rintro k st ⟨_, hk, hin, rfl, rfl⟩
  cases k with
  | zero =>
    have tl := tail 0 (by omega)
    rw [newNts, insN, ← hin, insP]
    try simp -dsimp (maxSteps := 9^9) (disch := first | omega | decide +kernel) only [↓bp0, bd0, bd_QI, reduceIte, Nat.reduceEqDiff, evStore, Nat.reduceAdd, Nat.reduceMul, Int.reduceEq, Int.reduceLT, Int.reduceLE, Nat.reduceLeDiff, List.reduceReplicate, reduceCtorEq, evRange, nilR, tk4, Nat.reduceLT, decide_false, Int.reduceLT]
    refine vc_regJ (fun τ => τ 0 = some (.row 0 4 [cNt n] false)) [1, 2, 3, 5, 6, 8, 9, 10] [1006] (by kernel_rfl) (by kernel_rfl) ?_ ?_
    · exact (by simp -dsimp (maxSteps := 9^9) (disch := first | omega | decide +kernel) only [↓bp0, bd0, bd_QI, reduceIte, Nat.reduceEqDiff, evStore, Nat.reduceAdd, Nat.reduceMul, Int.reduceEq, Int.reduceLT, Int.reduceLE, Nat.reduceLeDiff, List.reduceReplicate, reduceCtorEq, evRange, nilR, tk4, Nat.reduceLT, cNt])
    try simp -dsimp (maxSteps := 9^9) (disch := first | omega | decide +kernel) only [↓bp0, bd0, bd_QI, reduceIte, Nat.reduceEqDiff, evStore, Nat.reduceAdd, Nat.reduceMul, Int.reduceEq, Int.reduceLT, Int.reduceLE, Nat.reduceLeDiff, List.reduceReplicate, reduceCtorEq, evRange, nilR, tk4, Nat.reduceLT, vcj, implies_true, encNts, cNt, evSlice, slc, allNt, Bool.false_and]
    refine ⟨fun τ hτ => by simp -dsimp (maxSteps := 9^9) (disch := first | omega | decide +kernel) only [↓bp0, bd0, bd_QI, reduceIte, Nat.reduceEqDiff, evStore, Nat.reduceAdd, Nat.reduceMul, Int.reduceEq, Int.reduceLT, Int.reduceLE, Nat.reduceLeDiff, List.reduceReplicate, reduceCtorEq, evRange, nilR, tk4, Nat.reduceLT, hτ, cNt], ?_⟩
    have hd0 : List.drop 0 (L.map cNt) = L.map cNt := List.drop_zero
    have h40 : ((1 + L.length) * 40 ≤ 140737488355328) = True := eq_true (by omega)
    have hfl : ((L.map cNt).all fun e => e.all flat) = true := flNt
    have hT : List.take (1 + L.length) ([PV.lit (Value.int .i64 n.cls), PV.lit (Value.string n.chg), PV.lit (Value.int .u8 n.kind), PV.lit (Value.int .i64 n.pl)] :: L.map cNt) = [PV.lit (Value.int .i64 n.cls), PV.lit (Value.string n.chg), PV.lit (Value.int .u8 n.kind), PV.lit (Value.int .i64 n.pl)] :: L.map cNt := List.take_of_length_le (by simp; omega)
    have hfc : (([PV.lit (Value.int .i64 n.cls), PV.lit (Value.string n.chg), PV.lit (Value.int .u8 n.kind), PV.lit (Value.int .i64 n.pl)] :: L.map cNt).all fun e => e.all flat) = true := by rw [List.all_cons, flNt]; rfl
    have hle : (1 + L.length ≤ L.length + 1) = True := eq_true (by omega)
    simp -dsimp (maxSteps := 9^9) (disch := first | omega | decide +kernel) only [↓bp0, bd0, bd_QI, reduceIte, Nat.reduceEqDiff, evStore, Nat.reduceAdd, Nat.reduceMul, Int.reduceEq, Int.reduceLT, Int.reduceLE, Nat.reduceLeDiff, List.reduceReplicate, reduceCtorEq, evRange, nilR, tk4, Nat.reduceLT, retQ, resL, finL, newL, flat, tupOf, List.toList_toArray, vcj, implies_true, or_true, true_and, encNts, cNt, evqB, evBuildI, nofrs, nofr, flatten_one, beq_self_eq_true, Bool.true_and, evSlice, slc, allNt, Bool.false_and, List.length_cons, List.length_nil, List.length_map, List.nil_append, List.cons_append, hd0, h40, Tryz.f104, List.drop_zero, Nat.zero_add, hT, hfc, hle]
    exact leT_refl _
  | succ j =>
    obtain ⟨m, hx, hxm⟩ := get_of_lt (show j < L.length by omega)
    have hw : IntKind.i64.wrap (((j + 1 : Nat) : Int) - 1) = (j : Int) := by rw [IntWalk.i64_in _ (by omega)]; omega
    have d0 : decide ((0 : Int) < ((j + 1 : Nat) : Int)) = true := decide_eq_true (by omega)
    rw [insP, hx] at hin
    simp only at hin
    cases d1 : decide (n.pl < m.pl)
    · rw [if_neg (of_decide_eq_false d1)] at hin
      have tl := tail (j + 1) hk
      rw [newNts, insN, ← hin]
      have hA : (List.take (j + 1) (L.map cNt)).length = j + 1 := by rw [List.length_take, List.length_map]; omega
      have hB : (List.drop (j + 1) (L.map cNt)).length = L.length - (j + 1) := by rw [List.length_drop, List.length_map]
      have hAa : ((List.take (j + 1) (L.map cNt)).all fun e => e.length == 4) = true := all_take allNt
      have hBa : ((List.drop (j + 1) (L.map cNt)).all fun e => e.length == 4) = true := all_drop allNt
      have h1 : ((j + 1) * 40 ≤ 140737488355328) = True := eq_true (by omega)
      have h2 : ((j + 1 + 1) * 40 ≤ 140737488355328) = True := eq_true (by omega)
      have h3 : ((j + 1 + 1 + (L.length - (j + 1))) * 40 ≤ 140737488355328) = True := eq_true (by omega)
      have hsl : (j + 1 ≤ L.length) = True := eq_true hk
      have hd0 : List.drop 0 (List.take (j + 1) (L.map cNt)) = List.take (j + 1) (L.map cNt) := List.drop_zero
      try simp -dsimp (maxSteps := 9^9) (disch := first | omega | decide +kernel) only [↓bp0, bd0, bd_QI, reduceIte, Nat.reduceEqDiff, evStore, Nat.reduceAdd, Nat.reduceMul, Int.reduceEq, Int.reduceLT, Int.reduceLE, Nat.reduceLeDiff, List.reduceReplicate, reduceCtorEq, evRange, nilR, tk4, Nat.reduceLT, hw, d0, d1, hx, encNts, cNt]
      refine vc_regJ (fun τ => τ 0 = some (.row 0 4 [cNt n] false)) [1, 2, 3, 5, 6, 8, 9, 10] [1006] (by kernel_rfl) (by kernel_rfl) ?_ ?_
      · exact (by simp -dsimp (maxSteps := 9^9) (disch := first | omega | decide +kernel) only [↓bp0, bd0, bd_QI, reduceIte, Nat.reduceEqDiff, evStore, Nat.reduceAdd, Nat.reduceMul, Int.reduceEq, Int.reduceLT, Int.reduceLE, Nat.reduceLeDiff, List.reduceReplicate, reduceCtorEq, evRange, nilR, tk4, Nat.reduceLT, cNt])
      have hNt : ∀ A : List (List PV), (A ++ [[PV.lit (Value.int .i64 n.cls), PV.lit (Value.string n.chg), PV.lit (Value.int .u8 n.kind), PV.lit (Value.int .i64 n.pl)]]).length = A.length + 1 := fun A => by simp
      try simp -dsimp (maxSteps := 9^9) (disch := first | omega | decide +kernel) only [↓bp0, bd0, bd_QI, reduceIte, Nat.reduceEqDiff, evStore, Nat.reduceAdd, Nat.reduceMul, Int.reduceEq, Int.reduceLT, Int.reduceLE, Nat.reduceLeDiff, List.reduceReplicate, reduceCtorEq, evRange, nilR, tk4, Nat.reduceLT, vcj, implies_true, or_true, true_and, encNts, cNt, evSlice, slc, allNt, hAa, hA, hsl, hd0, h1, Bool.false_and, List.nil_append]
      refine ⟨fun τ hτ => by simp -dsimp (maxSteps := 9^9) (disch := first | omega | decide +kernel) only [↓bp0, bd0, bd_QI, reduceIte, Nat.reduceEqDiff, evStore, Nat.reduceAdd, Nat.reduceMul, Int.reduceEq, Int.reduceLT, Int.reduceLE, Nat.reduceLeDiff, List.reduceReplicate, reduceCtorEq, evRange, nilR, tk4, Nat.reduceLT, hτ, cNt], ?_⟩
      have hfc : (((List.take (j + 1) (L.map cNt) ++ [[PV.lit (Value.int .i64 n.cls), PV.lit (Value.string n.chg), PV.lit (Value.int .u8 n.kind), PV.lit (Value.int .i64 n.pl)]]) ++ List.drop (j + 1) (L.map cNt)).all fun e => e.all flat) = true := by rw [List.all_append, List.all_append, all_take flNt, all_drop flNt]; rfl
      have hT : List.take (j + 1 + 1 + (L.length - (j + 1))) ((List.take (j + 1) (L.map cNt) ++ [[PV.lit (Value.int .i64 n.cls), PV.lit (Value.string n.chg), PV.lit (Value.int .u8 n.kind), PV.lit (Value.int .i64 n.pl)]]) ++ List.drop (j + 1) (L.map cNt)) = (List.take (j + 1) (L.map cNt) ++ [[PV.lit (Value.int .i64 n.cls), PV.lit (Value.string n.chg), PV.lit (Value.int .u8 n.kind), PV.lit (Value.int .i64 n.pl)]]) ++ List.drop (j + 1) (L.map cNt) := List.take_of_length_le (by rw [List.length_append, hNt, hA, hB]; exact Nat.le_refl _)
      have hln : ((List.take (j + 1) (L.map cNt) ++ [[PV.lit (Value.int .i64 n.cls), PV.lit (Value.string n.chg), PV.lit (Value.int .u8 n.kind), PV.lit (Value.int .i64 n.pl)]]) ++ List.drop (j + 1) (L.map cNt)).length = j + 1 + 1 + (L.length - (j + 1)) := by rw [List.length_append, hNt, hA, hB]
      have htl : List.take L.length (L.map cNt) = L.map cNt := List.take_of_length_le (by simp)
      have hNt' := hNt (List.take (j + 1) (L.map cNt))
      rw [hA] at hNt'
      try simp -dsimp (maxSteps := 9^9) (disch := first | omega | decide +kernel) only [↓bp0, bd0, bd_QI, reduceIte, Nat.reduceEqDiff, evStore, Nat.reduceAdd, Nat.reduceMul, Int.reduceEq, Int.reduceLT, Int.reduceLE, Nat.reduceLeDiff, List.reduceReplicate, reduceCtorEq, evRange, nilR, tk4, Nat.reduceLT, vcj, implies_true, or_true, true_and, encNts, cNt, evqB, evBuildI, nofrs, nofr, flatten_one, beq_self_eq_true, Bool.true_and, evSlice, slc, allNt, hBa, hA, hB, hsl, h2, h3, hNt', htl, Bool.false_and, Nat.le_refl, List.length_cons, List.length_nil, Nat.zero_add]
      simp -dsimp (maxSteps := 9^9) (disch := first | omega | decide +kernel) only [↓bp0, bd0, bd_QI, reduceIte, Nat.reduceEqDiff, evStore, Nat.reduceAdd, Nat.reduceMul, Int.reduceEq, Int.reduceLT, Int.reduceLE, Nat.reduceLeDiff, List.reduceReplicate, reduceCtorEq, evRange, nilR, tk4, Nat.reduceLT, retQ, resL, finL, newL, flat, tupOf, List.toList_toArray, vcj, implies_true, or_true, true_and, Tryz.f104, hln, hT, hfc, List.drop_zero, Nat.zero_add, Nat.le_refl]
      rw [List.map_take, List.map_drop, List.append_assoc]
      exact leT_refl _
    · rw [if_pos (of_decide_eq_true d1)] at hin
      try simp -dsimp (maxSteps := 9^9) (disch := first | omega | decide +kernel) only [↓bp0, bd0, bd_QI, reduceIte, Nat.reduceEqDiff, evStore, Nat.reduceAdd, Nat.reduceMul, Int.reduceEq, Int.reduceLT, Int.reduceLE, Nat.reduceLeDiff, List.reduceReplicate, reduceCtorEq, evRange, nilR, tk4, Nat.reduceLT, hw, d0, d1, hx, encNts, cNt]
      refine ⟨_, _, ?_, weak_of ?_, j, by omega, hin, rfl, rfl⟩
      · omega
      · first | (simp -dsimp (maxSteps := 9^9) (disch := first | omega | decide +kernel) only [↓bp0, bd0, bd_QI, reduceIte, Nat.reduceEqDiff, evStore, Nat.reduceAdd, Nat.reduceMul, Int.reduceEq, Int.reduceLT, Int.reduceLE, Nat.reduceLeDiff, List.reduceReplicate, reduceCtorEq, evRange, nilR, tk4, Nat.reduceLT, hw, encNts, cNt]; done) | simp -dsimp [evl, putN, i64, u32, bl, encL, encB, encLL, hw, encNts, cNt]
end Go.Ab
