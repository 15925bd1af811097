/- The reference: the error of fixes. -/
import Derived.Test.YtgcodedanljhpaaGreatDoorMH
set_option linter.unusedSimpArgs false
set_option linter.unusedVariables false
section
set_option maxRecDepth 1000000
set_option maxHeartbeats 8000000
namespace Go.Ab
open Go Go.Proofs Go.Sort
theorem bd_MI : type_of% (And.intro @evNext.eq_1 (And.intro @fld (And.intro @nit (And.intro @nxE (And.intro @ghR (And.intro @ovR (And.intro @evBin_seql (And.intro @evBin_sneq (And.intro @str.eq_1 (And.intro @u8.eq_1 (And.intro @encBrs.eq_1 (And.intro @cBr.eq_1 (And.intro @encLdg.eq_1 (And.intro @encKws.eq_1 (And.intro @cKw.eq_1 (And.intro @encEvss.eq_1 (And.intro @encEvs.eq_1 (And.intro @cEv.eq_1 (And.intro @encMks.eq_1 (And.intro @cMk.eq_1 (And.intro @encStrs.eq_1 (And.intro @encFxs.eq_1 (And.intro @cFx.eq_1 (And.intro @cGp.eq_1 (And.intro @tk2 (And.intro @tk3 (And.intro @List.set_cons_succ.{0} (And.intro @List.getElem?_cons_zero.{0} (And.intro @List.getElem?_cons_succ.{0} (@List.length_set.{0})))))))))))))))))))))))))))))) := And.intro @evNext.eq_1 (And.intro @fld (And.intro @nit (And.intro @nxE (And.intro @ghR (And.intro @ovR (And.intro @evBin_seql (And.intro @evBin_sneq (And.intro @str.eq_1 (And.intro @u8.eq_1 (And.intro @encBrs.eq_1 (And.intro @cBr.eq_1 (And.intro @encLdg.eq_1 (And.intro @encKws.eq_1 (And.intro @cKw.eq_1 (And.intro @encEvss.eq_1 (And.intro @encEvs.eq_1 (And.intro @cEv.eq_1 (And.intro @encMks.eq_1 (And.intro @cMk.eq_1 (And.intro @encStrs.eq_1 (And.intro @encFxs.eq_1 (And.intro @cFx.eq_1 (And.intro @cGp.eq_1 (And.intro @tk2 (And.intro @tk3 (And.intro @List.set_cons_succ.{0} (And.intro @List.getElem?_cons_zero.{0} (And.intro @List.getElem?_cons_succ.{0} (@List.length_set.{0})))))))))))))))))))))))))))))
theorem eqsym {a b : Str} : decide (a = b) = decide (b = a) := by by_cases h : a = b <;> simp [h, eq_comm]
theorem eqsymI {a b : Int} : decide (a = b) = decide (b = a) := by by_cases h : a = b <;> simp [h, eq_comm]
theorem r_one (l : Ldg) (x : List Fx) (i : Nat) (f : Fx) (hf : x[i]? = some f) (hbl : l.brs.length ≤ 2^40) (hx40 : x.length ≤ 2^40) (hb40 : f.brs.length ≤ 2^40) : CallSpec cx 68 [encLdg l, encFxs x, i64 i] (i64 (oneE l (x.take i) f)) := by
  have hi := (List.getElem?_eq_some_iff.1 hf).1
  refine callSpec_of_vc Tryz.func68 rfl (by decide) (by kernel_rfl) (Nat.le_of_ble_eq_true rfl) ?_
  have g0 : (f.cls < 0 ∨ 30 ≤ f.cls ∨ f.wgt < 1 ∨ 9 < f.wgt ∨ f.brs.length = 0) → oneE l (x.take i) f = 8 := fun h => by rw [oneE, if_pos h]
  cases c1 : decide (f.cls < 0)
  case true =>
    simp -dsimp (maxSteps := 9^9) (disch := first | omega | decide +kernel) only [↓bp0, bd0, bd_MI, reduceIte, Nat.reduceEqDiff, evStore, Nat.reduceAdd, Nat.reduceMul, Int.reduceEq, Int.reduceLT, Int.reduceLE, Nat.reduceLeDiff, List.reduceReplicate, reduceCtorEq, evRange, Nat.reduceLT, retQ, resL, finL, newL, flat, tupOf, List.toList_toArray, Tryz.f68, hf, c1]
    exact leT_one (int_eq (g0 (.inl (of_decide_eq_true c1))).symm) (by simp)
  cases c2 : decide ((30 : Int) ≤ f.cls)
  case true =>
    simp -dsimp (maxSteps := 9^9) (disch := first | omega | decide +kernel) only [↓bp0, bd0, bd_MI, reduceIte, Nat.reduceEqDiff, evStore, Nat.reduceAdd, Nat.reduceMul, Int.reduceEq, Int.reduceLT, Int.reduceLE, Nat.reduceLeDiff, List.reduceReplicate, reduceCtorEq, evRange, Nat.reduceLT, retQ, resL, finL, newL, flat, tupOf, List.toList_toArray, Tryz.f68, hf, c1, c2]
    exact leT_one (int_eq (g0 (.inr (.inl (of_decide_eq_true c2)))).symm) (by simp)
  cases c3 : decide (f.wgt < 1)
  case true =>
    simp -dsimp (maxSteps := 9^9) (disch := first | omega | decide +kernel) only [↓bp0, bd0, bd_MI, reduceIte, Nat.reduceEqDiff, evStore, Nat.reduceAdd, Nat.reduceMul, Int.reduceEq, Int.reduceLT, Int.reduceLE, Nat.reduceLeDiff, List.reduceReplicate, reduceCtorEq, evRange, Nat.reduceLT, retQ, resL, finL, newL, flat, tupOf, List.toList_toArray, Tryz.f68, hf, c1, c2, c3]
    exact leT_one (int_eq (g0 (.inr (.inr (.inl (of_decide_eq_true c3))))).symm) (by simp)
  cases c4 : decide ((9 : Int) < f.wgt)
  case true =>
    simp -dsimp (maxSteps := 9^9) (disch := first | omega | decide +kernel) only [↓bp0, bd0, bd_MI, reduceIte, Nat.reduceEqDiff, evStore, Nat.reduceAdd, Nat.reduceMul, Int.reduceEq, Int.reduceLT, Int.reduceLE, Nat.reduceLeDiff, List.reduceReplicate, reduceCtorEq, evRange, Nat.reduceLT, retQ, resL, finL, newL, flat, tupOf, List.toList_toArray, Tryz.f68, hf, c1, c2, c3, c4]
    exact leT_one (int_eq (g0 (.inr (.inr (.inr (.inl (of_decide_eq_true c4)))))).symm) (by simp)
  cases c5 : decide ((f.brs.length : Int) = 0)
  case true =>
    have c5' := of_decide_eq_true c5
    simp -dsimp (maxSteps := 9^9) (disch := first | omega | decide +kernel) only [↓bp0, bd0, bd_MI, reduceIte, Nat.reduceEqDiff, evStore, Nat.reduceAdd, Nat.reduceMul, Int.reduceEq, Int.reduceLT, Int.reduceLE, Nat.reduceLeDiff, List.reduceReplicate, reduceCtorEq, evRange, Nat.reduceLT, retQ, resL, finL, newL, flat, tupOf, List.toList_toArray, Tryz.f68, hf, c1, c2, c3, c4, c5]
    exact leT_one (int_eq (g0 (.inr (.inr (.inr (.inr (by omega)))))).symm) (by simp)
  have g1 : ¬ (f.cls < 0 ∨ 30 ≤ f.cls ∨ f.wgt < 1 ∨ 9 < f.wgt ∨ f.brs.length = 0) := by
    have := of_decide_eq_false c1
    have := of_decide_eq_false c2
    have := of_decide_eq_false c3
    have := of_decide_eq_false c4
    have := of_decide_eq_false c5
    omega
  have o1 : oneE l (x.take i) f = if (f.brs.any fun b => decide (idx l.brs b < 0)) = true then 6 else if dupS f.brs = true then 14 else if ((x.take i).any fun g => decide (f.cls = g.cls)) = true then 14 else 0 := by rw [oneE, if_neg g1]
  try simp -dsimp (maxSteps := 9^9) (disch := first | omega | decide +kernel) only [↓bp0, bd0, bd_MI, reduceIte, Nat.reduceEqDiff, evStore, Nat.reduceAdd, Nat.reduceMul, Int.reduceEq, Int.reduceLT, Int.reduceLE, Nat.reduceLeDiff, List.reduceReplicate, reduceCtorEq, evRange, Nat.reduceLT, Tryz.f68, hf, c1, c2, c3, c4, c5]
  refine LoopQ.rule (fun m st => ∃ (k : Nat), k ≤ f.brs.length ∧ ((f.brs.take k).any fun b => decide (idx l.brs b < 0)) = false ∧ m = f.brs.length - k ∧
    st = ⟨mkE [(1, encFxs x), (2, i64 i), (3, .ptr 0 0 0 0), (7, .ptr 1 0 0 0), (8, i64 k)], mkS [(0, .row 0 3 [[encKws l.known, encBrs l.brs, encEvss l.evs]] false), (1, .row 0 3 [cFx f] false)], 2⟩) _ _ (weak_of ?_)
    ⟨0, by omega, by simp, rfl, rfl⟩ ?_
  · first | (simp -dsimp (maxSteps := 9^9) (disch := first | omega | decide +kernel) only [↓bp0, bd0, bd_MI, reduceIte, Nat.reduceEqDiff, evStore, Nat.reduceAdd, Nat.reduceMul, Int.reduceEq, Int.reduceLT, Int.reduceLE, Nat.reduceLeDiff, List.reduceReplicate, reduceCtorEq, evRange, Nat.reduceLT]; done) | simp -dsimp [evl, putN, i64, u32, bl, encL, encB, encLL]
  rintro m st ⟨k, hk, hpk, rfl, rfl⟩
  try simp -dsimp (maxSteps := 9^9) (disch := first | omega | decide +kernel) only [↓bp0, bd0, bd_MI, reduceIte, Nat.reduceEqDiff, evStore, Nat.reduceAdd, Nat.reduceMul, Int.reduceEq, Int.reduceLT, Int.reduceLE, Nat.reduceLeDiff, List.reduceReplicate, reduceCtorEq, evRange, Nat.reduceLT]
  refine onC_nlt (fun h2 => ?_) (fun h2 => ?_)
  · obtain ⟨b, hb, hbm⟩ := get_of_lt h2
    try simp -dsimp (maxSteps := 9^9) (disch := first | omega | decide +kernel) only [↓bp0, bd0, bd_MI, reduceIte, Nat.reduceEqDiff, evStore, Nat.reduceAdd, Nat.reduceMul, Int.reduceEq, Int.reduceLT, Int.reduceLE, Nat.reduceLeDiff, List.reduceReplicate, reduceCtorEq, evRange, Nat.reduceLT, hb]
    first | refine vc_text (by kernel_rfl) ?_ | skip
    try simp -dsimp (maxSteps := 9^9) (disch := first | omega | decide +kernel) only [↓bp0, bd0, bd_MI, reduceIte, Nat.reduceEqDiff, evStore, Nat.reduceAdd, Nat.reduceMul, Int.reduceEq, Int.reduceLT, Int.reduceLE, Nat.reduceLeDiff, List.reduceReplicate, reduceCtorEq, evRange, Nat.reduceLT, hb]
    first
    | refine CallY.imm (r_Index l.brs b (by omega)) (by rfl) (by first | rfl | (simp -dsimp (maxSteps := 9^9) (disch := first | omega | decide +kernel) only [↓bp0, bd0, bd_MI, reduceIte, Nat.reduceEqDiff, evStore, Nat.reduceAdd, Nat.reduceMul, Int.reduceEq, Int.reduceLT, Int.reduceLE, Nat.reduceLeDiff, List.reduceReplicate, reduceCtorEq, evRange, Nat.reduceLT, drcs, drc, flat]; done) | simp -dsimp [evl, drcs, drc, flat, i64, u32, bl, encL, encB, encLL]) (by first | exact .inl rfl | exact .inr rfl | exact .inr scalB | exact .inr scalI | exact .inr scalT | exact .inr scalM | exact .inr scalMT) ?_
    | refine CallQ.imm (r_Index l.brs b (by omega)) (by rfl) (by first | rfl | (simp -dsimp (maxSteps := 9^9) (disch := first | omega | decide +kernel) only [↓bp0, bd0, bd_MI, reduceIte, Nat.reduceEqDiff, evStore, Nat.reduceAdd, Nat.reduceMul, Int.reduceEq, Int.reduceLT, Int.reduceLE, Nat.reduceLeDiff, List.reduceReplicate, reduceCtorEq, evRange, Nat.reduceLT, drcs, drc, flat]; done) | simp -dsimp [evl, drcs, drc, flat, i64, u32, bl, encL, encB, encLL]) (by first | exact .inl rfl | exact .inr rfl | exact .inr scalB | exact .inr scalI | exact .inr scalT | exact .inr scalM | exact .inr scalMT) ?_
    cases c6 : decide (idx l.brs b < 0)
    · try simp -dsimp (maxSteps := 9^9) (disch := first | omega | decide +kernel) only [↓bp0, bd0, bd_MI, reduceIte, Nat.reduceEqDiff, evStore, Nat.reduceAdd, Nat.reduceMul, Int.reduceEq, Int.reduceLT, Int.reduceLE, Nat.reduceLeDiff, List.reduceReplicate, reduceCtorEq, evRange, Nat.reduceLT, c6]
      refine ⟨_, _, ?_, weak_of ?_, k + 1, h2, any_snoc hb hpk c6, rfl, rfl⟩
      · omega
      · first | (simp -dsimp (maxSteps := 9^9) (disch := first | omega | decide +kernel) only [↓bp0, bd0, bd_MI, reduceIte, Nat.reduceEqDiff, evStore, Nat.reduceAdd, Nat.reduceMul, Int.reduceEq, Int.reduceLT, Int.reduceLE, Nat.reduceLeDiff, List.reduceReplicate, reduceCtorEq, evRange, Nat.reduceLT, wrapS h2 (show f.brs.length ≤ 9223372036854775807 by omega)]; done) | simp -dsimp [evl, putN, i64, u32, bl, encL, encB, encLL, wrapS h2 (show f.brs.length ≤ 9223372036854775807 by omega)]
    · simp -dsimp (maxSteps := 9^9) (disch := first | omega | decide +kernel) only [↓bp0, bd0, bd_MI, reduceIte, Nat.reduceEqDiff, evStore, Nat.reduceAdd, Nat.reduceMul, Int.reduceEq, Int.reduceLT, Int.reduceLE, Nat.reduceLeDiff, List.reduceReplicate, reduceCtorEq, evRange, Nat.reduceLT, retQ, resL, finL, newL, flat, tupOf, List.toList_toArray, Tryz.f68, c6]
      exact leT_one (int_eq (by rw [o1, if_pos (any_hit hb c6)])) (by simp)
  rw [List.take_of_length_le (by omega)] at hpk
  have o2 : oneE l (x.take i) f = if dupS f.brs = true then 14 else if ((x.take i).any fun g => decide (f.cls = g.cls)) = true then 14 else 0 := by rw [o1, if_neg (by rw [hpk]; simp)]
  try simp -dsimp (maxSteps := 9^9) (disch := first | omega | decide +kernel) only [↓bp0, bd0, bd_MI, reduceIte, Nat.reduceEqDiff, evStore, Nat.reduceAdd, Nat.reduceMul, Int.reduceEq, Int.reduceLT, Int.reduceLE, Nat.reduceLeDiff, List.reduceReplicate, reduceCtorEq, evRange, Nat.reduceLT]
  clear hpk hk h2
  refine LoopQ.rule (fun m st => ∃ (k : Nat), k ≤ f.brs.length ∧ (∀ (j : Nat) b, j < k → f.brs[j]? = some b → ((f.brs.take j).any fun x => decide (b = x)) = false) ∧ m = f.brs.length - k ∧
    st = ⟨mkE [(1, encFxs x), (2, i64 i), (3, .ptr 0 0 0 0), (7, .ptr 1 0 0 0), (9, i64 k)], mkS [(0, .row 0 3 [[encKws l.known, encBrs l.brs, encEvss l.evs]] false), (1, .row 0 3 [cFx f] false)], 2⟩) _ _ (weak_of ?_)
    ⟨0, by omega, fun _ _ h => by omega, rfl, rfl⟩ ?_
  · first | (simp -dsimp (maxSteps := 9^9) (disch := first | omega | decide +kernel) only [↓bp0, bd0, bd_MI, reduceIte, Nat.reduceEqDiff, evStore, Nat.reduceAdd, Nat.reduceMul, Int.reduceEq, Int.reduceLT, Int.reduceLE, Nat.reduceLeDiff, List.reduceReplicate, reduceCtorEq, evRange, Nat.reduceLT]; done) | simp -dsimp [evl, putN, i64, u32, bl, encL, encB, encLL]
  rintro m st ⟨k, hk, hpk, rfl, rfl⟩
  try simp -dsimp (maxSteps := 9^9) (disch := first | omega | decide +kernel) only [↓bp0, bd0, bd_MI, reduceIte, Nat.reduceEqDiff, evStore, Nat.reduceAdd, Nat.reduceMul, Int.reduceEq, Int.reduceLT, Int.reduceLE, Nat.reduceLeDiff, List.reduceReplicate, reduceCtorEq, evRange, Nat.reduceLT]
  refine onC_nlt (fun h2 => ?_) (fun h2 => ?_)
  · obtain ⟨b, hb, hbm⟩ := get_of_lt h2
    refine LoopQ.rule (fun m st => ∃ (j : Nat), j ≤ k ∧ ((f.brs.take j).any fun x => decide (b = x)) = false ∧ m = k - j ∧
      st = ⟨mkE [(1, encFxs x), (2, i64 i), (3, .ptr 0 0 0 0), (7, .ptr 1 0 0 0), (9, i64 k), (10, i64 j)], mkS [(0, .row 0 3 [[encKws l.known, encBrs l.brs, encEvss l.evs]] false), (1, .row 0 3 [cFx f] false)], 2⟩) _ _ (weak_of ?_)
      ⟨0, by omega, by simp, rfl, rfl⟩ ?_
    · first | (simp -dsimp (maxSteps := 9^9) (disch := first | omega | decide +kernel) only [↓bp0, bd0, bd_MI, reduceIte, Nat.reduceEqDiff, evStore, Nat.reduceAdd, Nat.reduceMul, Int.reduceEq, Int.reduceLT, Int.reduceLE, Nat.reduceLeDiff, List.reduceReplicate, reduceCtorEq, evRange, Nat.reduceLT]; done) | simp -dsimp [evl, putN, i64, u32, bl, encL, encB, encLL]
    rintro m st ⟨j, hj, hpj, rfl, rfl⟩
    try simp -dsimp (maxSteps := 9^9) (disch := first | omega | decide +kernel) only [↓bp0, bd0, bd_MI, reduceIte, Nat.reduceEqDiff, evStore, Nat.reduceAdd, Nat.reduceMul, Int.reduceEq, Int.reduceLT, Int.reduceLE, Nat.reduceLeDiff, List.reduceReplicate, reduceCtorEq, evRange, Nat.reduceLT]
    refine onC_nlt (fun h3 => ?_) (fun h3 => ?_)
    · obtain ⟨c, hc, hcm⟩ := get_of_lt (show j < f.brs.length by omega)
      cases c7 : decide (c = b)
      · try simp -dsimp (maxSteps := 9^9) (disch := first | omega | decide +kernel) only [↓bp0, bd0, bd_MI, reduceIte, Nat.reduceEqDiff, evStore, Nat.reduceAdd, Nat.reduceMul, Int.reduceEq, Int.reduceLT, Int.reduceLE, Nat.reduceLeDiff, List.reduceReplicate, reduceCtorEq, evRange, Nat.reduceLT, hb, hc, c7]
        refine ⟨_, _, ?_, weak_of ?_, j + 1, h3, any_snoc hc hpj (by rw [eqsym]; exact c7), rfl, rfl⟩
        · omega
        · first | (simp -dsimp (maxSteps := 9^9) (disch := first | omega | decide +kernel) only [↓bp0, bd0, bd_MI, reduceIte, Nat.reduceEqDiff, evStore, Nat.reduceAdd, Nat.reduceMul, Int.reduceEq, Int.reduceLT, Int.reduceLE, Nat.reduceLeDiff, List.reduceReplicate, reduceCtorEq, evRange, Nat.reduceLT, wrapS h3 (show k ≤ 9223372036854775807 by omega)]; done) | simp -dsimp [evl, putN, i64, u32, bl, encL, encB, encLL, wrapS h3 (show k ≤ 9223372036854775807 by omega)]
      · simp -dsimp (maxSteps := 9^9) (disch := first | omega | decide +kernel) only [↓bp0, bd0, bd_MI, reduceIte, Nat.reduceEqDiff, evStore, Nat.reduceAdd, Nat.reduceMul, Int.reduceEq, Int.reduceLT, Int.reduceLE, Nat.reduceLeDiff, List.reduceReplicate, reduceCtorEq, evRange, Nat.reduceLT, retQ, resL, finL, newL, flat, tupOf, List.toList_toArray, Tryz.f68, hb, hc, c7]
        refine leT_one (int_eq ?_) (by simp)
        rw [o2, if_pos]
        refine anyI_iff.2 ⟨k, b, hb, any_hit (i := j) (a := c) ?_ (by rw [eqsym]; exact c7)⟩
        rw [List.getElem?_take, if_pos h3]; exact hc
    · have hjk : j = k := by omega
      subst hjk
      try simp -dsimp (maxSteps := 9^9) (disch := first | omega | decide +kernel) only [↓bp0, bd0, bd_MI, reduceIte, Nat.reduceEqDiff, evStore, Nat.reduceAdd, Nat.reduceMul, Int.reduceEq, Int.reduceLT, Int.reduceLE, Nat.reduceLeDiff, List.reduceReplicate, reduceCtorEq, evRange, Nat.reduceLT]
      refine ⟨_, _, ?_, weak_of ?_, j + 1, h2, ?_, rfl, rfl⟩
      · omega
      · first | (simp -dsimp (maxSteps := 9^9) (disch := first | omega | decide +kernel) only [↓bp0, bd0, bd_MI, reduceIte, Nat.reduceEqDiff, evStore, Nat.reduceAdd, Nat.reduceMul, Int.reduceEq, Int.reduceLT, Int.reduceLE, Nat.reduceLeDiff, List.reduceReplicate, reduceCtorEq, evRange, Nat.reduceLT, wrapS h2 (show f.brs.length ≤ 9223372036854775807 by omega)]; done) | simp -dsimp [evl, putN, i64, u32, bl, encL, encB, encLL, wrapS h2 (show f.brs.length ≤ 9223372036854775807 by omega)]
      · intro q b' hq hb'
        by_cases e : q = j
        · subst e; rw [hb] at hb'; cases hb'; exact hpj
        · exact hpk q b' (by omega) hb'
  have hdup : dupS f.brs = false := anyI_false.2 fun j b hb => hpk j b (by have := (List.getElem?_eq_some_iff.1 hb).1; omega) hb
  have o3 : oneE l (x.take i) f = if ((x.take i).any fun g => decide (f.cls = g.cls)) = true then 14 else 0 := by rw [o2, if_neg (by rw [hdup]; simp)]
  try simp -dsimp (maxSteps := 9^9) (disch := first | omega | decide +kernel) only [↓bp0, bd0, bd_MI, reduceIte, Nat.reduceEqDiff, evStore, Nat.reduceAdd, Nat.reduceMul, Int.reduceEq, Int.reduceLT, Int.reduceLE, Nat.reduceLeDiff, List.reduceReplicate, reduceCtorEq, evRange, Nat.reduceLT]
  clear hpk hk h2
  refine LoopQ.rule (fun m st => ∃ (k : Nat), k ≤ i ∧ ((x.take k).any fun g => decide (f.cls = g.cls)) = false ∧ m = i - k ∧
    st = ⟨mkE [(1, encFxs x), (2, i64 i), (3, .ptr 0 0 0 0), (7, .ptr 1 0 0 0), (11, i64 k)], mkS [(0, .row 0 3 [[encKws l.known, encBrs l.brs, encEvss l.evs]] false), (1, .row 0 3 [cFx f] false)], 2⟩) _ _ (weak_of ?_)
    ⟨0, by omega, by simp, rfl, rfl⟩ ?_
  · first | (simp -dsimp (maxSteps := 9^9) (disch := first | omega | decide +kernel) only [↓bp0, bd0, bd_MI, reduceIte, Nat.reduceEqDiff, evStore, Nat.reduceAdd, Nat.reduceMul, Int.reduceEq, Int.reduceLT, Int.reduceLE, Nat.reduceLeDiff, List.reduceReplicate, reduceCtorEq, evRange, Nat.reduceLT]; done) | simp -dsimp [evl, putN, i64, u32, bl, encL, encB, encLL]
  rintro m st ⟨k, hk, hpk, rfl, rfl⟩
  try simp -dsimp (maxSteps := 9^9) (disch := first | omega | decide +kernel) only [↓bp0, bd0, bd_MI, reduceIte, Nat.reduceEqDiff, evStore, Nat.reduceAdd, Nat.reduceMul, Int.reduceEq, Int.reduceLT, Int.reduceLE, Nat.reduceLeDiff, List.reduceReplicate, reduceCtorEq, evRange, Nat.reduceLT]
  refine onC_nlt (fun h2 => ?_) (fun h2 => ?_)
  · obtain ⟨g, hg, hgm⟩ := get_of_lt (show k < x.length by omega)
    cases c7 : decide (g.cls = f.cls)
    · try simp -dsimp (maxSteps := 9^9) (disch := first | omega | decide +kernel) only [↓bp0, bd0, bd_MI, reduceIte, Nat.reduceEqDiff, evStore, Nat.reduceAdd, Nat.reduceMul, Int.reduceEq, Int.reduceLT, Int.reduceLE, Nat.reduceLeDiff, List.reduceReplicate, reduceCtorEq, evRange, Nat.reduceLT, hg, c7]
      refine ⟨_, _, ?_, weak_of ?_, k + 1, h2, any_snoc hg hpk (by rw [eqsymI]; exact c7), rfl, rfl⟩
      · omega
      · first | (simp -dsimp (maxSteps := 9^9) (disch := first | omega | decide +kernel) only [↓bp0, bd0, bd_MI, reduceIte, Nat.reduceEqDiff, evStore, Nat.reduceAdd, Nat.reduceMul, Int.reduceEq, Int.reduceLT, Int.reduceLE, Nat.reduceLeDiff, List.reduceReplicate, reduceCtorEq, evRange, Nat.reduceLT, wrapS h2 (show i ≤ 9223372036854775807 by omega)]; done) | simp -dsimp [evl, putN, i64, u32, bl, encL, encB, encLL, wrapS h2 (show i ≤ 9223372036854775807 by omega)]
    · simp -dsimp (maxSteps := 9^9) (disch := first | omega | decide +kernel) only [↓bp0, bd0, bd_MI, reduceIte, Nat.reduceEqDiff, evStore, Nat.reduceAdd, Nat.reduceMul, Int.reduceEq, Int.reduceLT, Int.reduceLE, Nat.reduceLeDiff, List.reduceReplicate, reduceCtorEq, evRange, Nat.reduceLT, retQ, resL, finL, newL, flat, tupOf, List.toList_toArray, Tryz.f68, hg, c7]
      refine leT_one (int_eq ?_) (by simp)
      rw [o3, if_pos]
      refine any_hit (i := k) (a := g) ?_ (by rw [eqsymI]; exact c7)
      rw [List.getElem?_take, if_pos h2]; exact hg
  · have hki : k = i := by omega
    subst hki
    simp -dsimp (maxSteps := 9^9) (disch := first | omega | decide +kernel) only [↓bp0, bd0, bd_MI, reduceIte, Nat.reduceEqDiff, evStore, Nat.reduceAdd, Nat.reduceMul, Int.reduceEq, Int.reduceLT, Int.reduceLE, Nat.reduceLeDiff, List.reduceReplicate, reduceCtorEq, evRange, Nat.reduceLT, retQ, resL, finL, newL, flat, tupOf, List.toList_toArray, Tryz.f68]
    exact leT_one (int_eq (by rw [o3, if_neg (by rw [hpk]; simp)])) (by simp)
theorem r_mCheck (l : Ldg) (x : List Fx) (hz : LSz l) (hn : LNm l) (hx40 : x.length ≤ 2^40) (hb40 : ∀ f ∈ x, f.brs.length ≤ 2^40) : CallSpec cx 19 [encLdg l, encFxs x] (i64 (mchk l x)) := by
  have hbl := hz.brs
  refine callSpec_of_vc Tryz.func19 rfl (by decide) (by kernel_rfl) (Nat.le_of_ble_eq_true rfl) ?_
  try simp -dsimp (disch := first | omega | decide +kernel) only [↓bp0, bd0, bd_MI, reduceIte, Nat.reduceEqDiff, evStore, Nat.reduceAdd, Nat.reduceMul, Int.reduceEq, Int.reduceLT, Int.reduceLE, Nat.reduceLeDiff, List.reduceReplicate, reduceCtorEq, evRange, Nat.reduceLT, Tryz.f19]
  refine CallQ.imm (r_lCheck l hz hn) (by rfl) (by rfl) (by first | exact .inl rfl | exact .inr rfl | exact .inr scalB | exact .inr scalI | exact .inr scalT | exact .inr scalM | exact .inr scalMT) ?_
  cases h0 : decide (lchk l = 0)
  · simp -dsimp (disch := first | omega | decide +kernel) only [↓bp0, bd0, bd_MI, reduceIte, Nat.reduceEqDiff, evStore, Nat.reduceAdd, Nat.reduceMul, Int.reduceEq, Int.reduceLT, Int.reduceLE, Nat.reduceLeDiff, List.reduceReplicate, reduceCtorEq, evRange, Nat.reduceLT, retQ, resL, finL, newL, flat, tupOf, List.toList_toArray, Tryz.f19, h0]
    refine leT_one (int_eq ?_) (by simp)
    rw [mchk, if_pos (of_decide_eq_false h0)]
  have h0' := of_decide_eq_true h0
  cases h30 : decide ((30 : Int) < x.length)
  case true =>
    simp -dsimp (disch := first | omega | decide +kernel) only [↓bp0, bd0, bd_MI, reduceIte, Nat.reduceEqDiff, evStore, Nat.reduceAdd, Nat.reduceMul, Int.reduceEq, Int.reduceLT, Int.reduceLE, Nat.reduceLeDiff, List.reduceReplicate, reduceCtorEq, evRange, Nat.reduceLT, retQ, resL, finL, newL, flat, tupOf, List.toList_toArray, Tryz.f19, h0, h30]
    refine leT_one (int_eq ?_) (by simp)
    have := of_decide_eq_true h30
    rw [mchk, if_neg (by rw [Decidable.not_not]; exact h0'), if_pos (by omega)]
  have e1 : mchk l x = fxE l [] x := by
    have := of_decide_eq_false h30
    rw [mchk, if_neg (by rw [Decidable.not_not]; exact h0'), if_neg (by omega)]
  try simp -dsimp (disch := first | omega | decide +kernel) only [↓bp0, bd0, bd_MI, reduceIte, Nat.reduceEqDiff, evStore, Nat.reduceAdd, Nat.reduceMul, Int.reduceEq, Int.reduceLT, Int.reduceLE, Nat.reduceLeDiff, List.reduceReplicate, reduceCtorEq, evRange, Nat.reduceLT, h0, h30]
  refine LoopQ.rule (fun m st => ∃ (i : Nat), i ≤ x.length ∧ fxE l [] x = fxE l (x.take i) (x.drop i) ∧ m = x.length - i ∧
    st = ⟨mkE [(1, encFxs x), (2, .ptr 0 0 0 0), (6, i64 i)], mkS [(0, .row 0 3 [[encKws l.known, encBrs l.brs, encEvss l.evs]] false)], 1⟩) _ _ (weak_of ?_)
    ⟨0, by omega, by simp, rfl, rfl⟩ ?_
  · first | (simp -dsimp (disch := first | omega | decide +kernel) only [↓bp0, bd0, bd_MI, reduceIte, Nat.reduceEqDiff, evStore, Nat.reduceAdd, Nat.reduceMul, Int.reduceEq, Int.reduceLT, Int.reduceLE, Nat.reduceLeDiff, List.reduceReplicate, reduceCtorEq, evRange, Nat.reduceLT]; done) | simp -dsimp [evl, putN, i64, u32, bl, encL, encB, encLL]
  rintro m st ⟨i, hi, hE, rfl, rfl⟩
  try simp -dsimp (disch := first | omega | decide +kernel) only [↓bp0, bd0, bd_MI, reduceIte, Nat.reduceEqDiff, evStore, Nat.reduceAdd, Nat.reduceMul, Int.reduceEq, Int.reduceLT, Int.reduceLE, Nat.reduceLeDiff, List.reduceReplicate, reduceCtorEq, evRange, Nat.reduceLT]
  refine onC_nlt (fun h2 => ?_) (fun h2 => ?_)
  rotate_left
  · simp -dsimp (disch := first | omega | decide +kernel) only [↓bp0, bd0, bd_MI, reduceIte, Nat.reduceEqDiff, evStore, Nat.reduceAdd, Nat.reduceMul, Int.reduceEq, Int.reduceLT, Int.reduceLE, Nat.reduceLeDiff, List.reduceReplicate, reduceCtorEq, evRange, Nat.reduceLT, retQ, resL, finL, newL, flat, tupOf, List.toList_toArray, Tryz.f19]
    refine leT_one (int_eq ?_) (by simp)
    rw [e1, hE, List.drop_of_length_le (by omega)]; rfl
  obtain ⟨f, hf, hfm⟩ := get_of_lt h2
  have hdr : x.drop i = f :: x.drop (i + 1) := by rw [List.drop_eq_getElem_cons h2]; congr 1; rw [List.getElem?_eq_getElem h2] at hf; exact Option.some.inj hf
  try simp -dsimp (disch := first | omega | decide +kernel) only [↓bp0, bd0, bd_MI, reduceIte, Nat.reduceEqDiff, evStore, Nat.reduceAdd, Nat.reduceMul, Int.reduceEq, Int.reduceLT, Int.reduceLE, Nat.reduceLeDiff, List.reduceReplicate, reduceCtorEq, evRange, Nat.reduceLT]
  refine CallQ.imm (r_one l x i f hf hbl hx40 (hb40 f hfm)) (by rfl) (by rfl) (by first | exact .inl rfl | exact .inr rfl | exact .inr scalB | exact .inr scalI | exact .inr scalT | exact .inr scalM | exact .inr scalMT) ?_
  cases h1 : decide (oneE l (x.take i) f = 0)
  · have h1' := of_decide_eq_false h1
    simp -dsimp (disch := first | omega | decide +kernel) only [↓bp0, bd0, bd_MI, reduceIte, Nat.reduceEqDiff, evStore, Nat.reduceAdd, Nat.reduceMul, Int.reduceEq, Int.reduceLT, Int.reduceLE, Nat.reduceLeDiff, List.reduceReplicate, reduceCtorEq, evRange, Nat.reduceLT, retQ, resL, finL, newL, flat, tupOf, List.toList_toArray, Tryz.f19, h1]
    refine leT_one (int_eq ?_) (by simp)
    rw [e1, hE, hdr, fxE, if_pos h1']
  · have h1' := of_decide_eq_true h1
    try simp -dsimp (disch := first | omega | decide +kernel) only [↓bp0, bd0, bd_MI, reduceIte, Nat.reduceEqDiff, evStore, Nat.reduceAdd, Nat.reduceMul, Int.reduceEq, Int.reduceLT, Int.reduceLE, Nat.reduceLeDiff, List.reduceReplicate, reduceCtorEq, evRange, Nat.reduceLT, h1]
    refine ⟨_, _, ?_, weak_of ?_, i + 1, h2, ?_, rfl, rfl⟩
    · omega
    · first | (simp -dsimp (disch := first | omega | decide +kernel) only [↓bp0, bd0, bd_MI, reduceIte, Nat.reduceEqDiff, evStore, Nat.reduceAdd, Nat.reduceMul, Int.reduceEq, Int.reduceLT, Int.reduceLE, Nat.reduceLeDiff, List.reduceReplicate, reduceCtorEq, evRange, Nat.reduceLT, wrapS h2 (show x.length ≤ 9223372036854775807 by omega)]; done) | simp -dsimp [evl, putN, i64, u32, bl, encL, encB, encLL, wrapS h2 (show x.length ≤ 9223372036854775807 by omega)]
    · rw [hE, hdr, fxE, if_neg (by rw [h1']; simp), take_succ hf]
end Go.Ab
end

section
/- The reference: gaps in order. -/
set_option maxRecDepth 1000000
set_option maxHeartbeats 8000000
namespace Go.Ab
open Go Go.Proofs Go.Sort
abbrev Pr := Str × List Int
def cnd (w c : Int) (p : Pr) (f : Fx) : Bool := decide (f.wgt = w) && decide (f.cls = c) && (f.brs.any fun y => decide (p.1 = y)) && !(p.2.any fun y => decide (c = y))
def o4 (w c : Int) (p : Pr) (x : List Fx) : List Gp := (x.filter (cnd w c p)).map fun _ => ⟨p.1, c, w⟩
def o3 (x : List Fx) (w c : Int) (ps : List Pr) : List Gp := ps.flatMap fun p => o4 w c p x
def o2 (x : List Fx) (ps : List Pr) (w : Int) (n : Nat) : List Gp := (List.range n).flatMap fun (c : Nat) => o3 x w (c : Int) ps
def o1 (x : List Fx) (ps : List Pr) (n : Nat) : List Gp := (List.range n).flatMap fun (i : Nat) => o2 x ps (9 - (i : Int)) 30
def encPs (ps : List Pr) : PV := .imm (ps.map fun p => [encL p.2]) false
end Go.Ab
end
