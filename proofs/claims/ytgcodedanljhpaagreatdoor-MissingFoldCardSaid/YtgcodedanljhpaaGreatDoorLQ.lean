/- The references' names, places and errors of tables. -/
import Derived.Test.YtgcodedanljhpaaGreatDoorLPa
set_option linter.unusedSimpArgs false
set_option linter.unusedVariables false
set_option maxRecDepth 100000
set_option maxHeartbeats 8000000
namespace Go.Ab
open Go Go.Proofs
theorem bd_LQ : type_of% (And.intro @evNext.eq_1 (And.intro @fld (And.intro @nit (And.intro @nxE (And.intro @ovR (And.intro @evBin_seql (And.intro @evBin_sneq (And.intro @str.eq_1 (And.intro @u8.eq_1 (And.intro @encBrs.eq_1 (And.intro @cBr.eq_1 (And.intro @List.set_cons_succ.{0} (And.intro @List.getElem?_cons_zero.{0} (And.intro @List.getElem?_cons_succ.{0} (@List.length_set.{0}))))))))))))))) := And.intro @evNext.eq_1 (And.intro @fld (And.intro @nit (And.intro @nxE (And.intro @ovR (And.intro @evBin_seql (And.intro @evBin_sneq (And.intro @str.eq_1 (And.intro @u8.eq_1 (And.intro @encBrs.eq_1 (And.intro @cBr.eq_1 (And.intro @List.set_cons_succ.{0} (And.intro @List.getElem?_cons_zero.{0} (And.intro @List.getElem?_cons_succ.{0} (@List.length_set.{0}))))))))))))))
theorem evIdx_si {s : Str} {i : Nat} (h : i < s.size) : evIdx cx 9 (.lit (.string s)) (.lit (.int .i64 (i : Int))) = some (.lit (.int .u8 ((s[i]'h).toNat : Int))) := by
  simp only [evIdx, tis, natOf_cast, dif_pos h]
theorem byte_bad {c : UInt8} (hn : nameC c = false) : c.toNat ≠ 45 ∧ (c.toNat < 48 ∨ (57 < c.toNat ∧ c.toNat < 97) ∨ 122 < c.toNat) := by
  simp only [nameC, lowB, Bool.or_eq_false_iff, Bool.and_eq_false_iff, decide_eq_false_iff_not] at hn
  omega
theorem r_Name (s : Str) (hs : s.size ≤ 2^40) : CallSpec cx 81 [str s] (bl (nameB s)) := by
  refine callSpec_of_vc Tryz.func81 rfl (by decide) (by kernel_rfl) (Nat.le_of_ble_eq_true rfl) ?_
  have hno : ∀ (b : Bool), (b = true → nameB s = true) → (b = false → nameB s = false) → le1 (.lit (.bool b)) (bl (nameB s)) := fun b h1 h2 => bl_eq (by cases b; exact (h2 rfl).symm; exact (h1 rfl).symm)
  have hF : ¬ nameB s = true → nameB s = false := fun h => by simpa using h
  cases h0 : decide ((s.size : Int) < 1)
  case true =>
    have h0' := of_decide_eq_true h0
    simp -dsimp (maxSteps := 9^9) (disch := first | omega | decide +kernel) only [↓bp0, bd0, bd_LQ, reduceIte, Nat.reduceEqDiff, evStore, Nat.reduceAdd, Nat.reduceMul, Int.reduceEq, Int.reduceLT, Int.reduceLE, Nat.reduceLeDiff, List.reduceReplicate, reduceCtorEq, evRange, Nat.reduceLT, retQ, resL, finL, newL, flat, tupOf, List.toList_toArray, Tryz.f81, h0]
    refine leT_one (hno false (by simp) fun _ => hF fun h => ?_) (by simp)
    obtain ⟨_, h1, _⟩ := nameB_iff.1 h; omega
  have hp : 0 < s.size := by have := of_decide_eq_false h0; omega
  cases h40 : decide ((40 : Int) < (s.size : Int))
  case true =>
    have h1 := of_decide_eq_true h40
    simp -dsimp (maxSteps := 9^9) (disch := first | omega | decide +kernel) only [↓bp0, bd0, bd_LQ, reduceIte, Nat.reduceEqDiff, evStore, Nat.reduceAdd, Nat.reduceMul, Int.reduceEq, Int.reduceLT, Int.reduceLE, Nat.reduceLeDiff, List.reduceReplicate, reduceCtorEq, evRange, Nat.reduceLT, retQ, resL, finL, newL, flat, tupOf, List.toList_toArray, Tryz.f81, h0, h40]
    refine leT_one (hno false (by simp) fun _ => hF fun h => ?_) (by simp)
    have := (nameB_iff.1 h).1; omega
  have hle : s.size ≤ 40 := by have := of_decide_eq_false h40; omega
  have hidx := evIdx_s0 hp
  cases ha : decide (((s[0]'hp).toNat : Int) < 97)
  case true =>
    have h1 := of_decide_eq_true ha
    simp -dsimp (maxSteps := 9^9) (disch := first | omega | decide +kernel) only [↓bp0, bd0, bd_LQ, reduceIte, Nat.reduceEqDiff, evStore, Nat.reduceAdd, Nat.reduceMul, Int.reduceEq, Int.reduceLT, Int.reduceLE, Nat.reduceLeDiff, List.reduceReplicate, reduceCtorEq, evRange, Nat.reduceLT, retQ, resL, finL, newL, flat, tupOf, List.toList_toArray, Tryz.f81, h0, h40, hidx, ha]
    refine leT_one (hno false (by simp) fun _ => hF fun h => ?_) (by simp)
    obtain ⟨_, _, h2, _⟩ := nameB_iff.1 h
    simp only [lowB, Bool.and_eq_true, decide_eq_true_eq] at h2; omega
  cases hz : decide ((122 : Int) < ((s[0]'hp).toNat : Int))
  case true =>
    have h1 := of_decide_eq_true hz
    simp -dsimp (maxSteps := 9^9) (disch := first | omega | decide +kernel) only [↓bp0, bd0, bd_LQ, reduceIte, Nat.reduceEqDiff, evStore, Nat.reduceAdd, Nat.reduceMul, Int.reduceEq, Int.reduceLT, Int.reduceLE, Nat.reduceLeDiff, List.reduceReplicate, reduceCtorEq, evRange, Nat.reduceLT, retQ, resL, finL, newL, flat, tupOf, List.toList_toArray, Tryz.f81, h0, h40, hidx, ha, hz]
    refine leT_one (hno false (by simp) fun _ => hF fun h => ?_) (by simp)
    obtain ⟨_, _, h2, _⟩ := nameB_iff.1 h
    simp only [lowB, Bool.and_eq_true, decide_eq_true_eq] at h2; omega
  have hlow : lowB (s[0]'hp) = true := by
    have h1 := of_decide_eq_false ha
    have h2 := of_decide_eq_false hz
    simp only [lowB, Bool.and_eq_true, decide_eq_true_eq]; omega
  try simp -dsimp (maxSteps := 9^9) (disch := first | omega | decide +kernel) only [↓bp0, bd0, bd_LQ, reduceIte, Nat.reduceEqDiff, evStore, Nat.reduceAdd, Nat.reduceMul, Int.reduceEq, Int.reduceLT, Int.reduceLE, Nat.reduceLeDiff, List.reduceReplicate, reduceCtorEq, evRange, Nat.reduceLT, Tryz.f81, h0, h40, hidx, ha, hz]
  refine LoopQ.rule (fun m st => ∃ pos : Nat, pos ≤ s.size ∧ (∀ (i : Nat) (hi : i < s.size), i < pos → nameC (s[i]'hi) = true) ∧ m = s.size - pos ∧
    st = ⟨mkE [(0, str s), (3, i64 pos)], mkS [], 0⟩) _ _ (weak_of ?_) ⟨0, by omega, fun _ _ h => by omega, rfl, rfl⟩ ?_
  · first | (simp -dsimp (maxSteps := 9^9) (disch := first | omega | decide +kernel) only [↓bp0, bd0, bd_LQ, reduceIte, Nat.reduceEqDiff, evStore, Nat.reduceAdd, Nat.reduceMul, Int.reduceEq, Int.reduceLT, Int.reduceLE, Nat.reduceLeDiff, List.reduceReplicate, reduceCtorEq, evRange, Nat.reduceLT]; done) | simp -dsimp [evl, putN, i64, u32, bl, encL, encB, encLL]
  rintro m st ⟨pos, hpl, hpre, rfl, rfl⟩
  try simp -dsimp (maxSteps := 9^9) (disch := first | omega | decide +kernel) only [↓bp0, bd0, bd_LQ, reduceIte, Nat.reduceEqDiff, evStore, Nat.reduceAdd, Nat.reduceMul, Int.reduceEq, Int.reduceLT, Int.reduceLE, Nat.reduceLeDiff, List.reduceReplicate, reduceCtorEq, evRange, Nat.reduceLT]
  refine onC_nlt (fun hlt => ?_) (fun hlt => ?_)
  rotate_left
  · simp -dsimp (maxSteps := 9^9) (disch := first | omega | decide +kernel) only [↓bp0, bd0, bd_LQ, reduceIte, Nat.reduceEqDiff, evStore, Nat.reduceAdd, Nat.reduceMul, Int.reduceEq, Int.reduceLT, Int.reduceLE, Nat.reduceLeDiff, List.reduceReplicate, reduceCtorEq, evRange, Nat.reduceLT, retQ, resL, finL, newL, flat, tupOf, List.toList_toArray]
    refine leT_one (hno true (fun _ => nameB_iff.2 ⟨hle, hp, hlow, fun i hi => hpre i hi (by omega)⟩) (by simp)) (by simp)
  have hx := evIdx_si hlt
  cases hn : nameC (s[pos]'hlt)
  · have hbad : nameB s = false := hF fun h => by
      obtain ⟨_, _, _, h2⟩ := nameB_iff.1 h
      rw [h2 pos hlt] at hn; cases hn
    obtain ⟨h0, h1 | ⟨h1, h2⟩ | h1⟩ := byte_bad hn
    · have e0 : decide (((s[pos]'hlt).toNat : Int) = 45) = false := decide_eq_false (by omega)
      have e1 : decide (((s[pos]'hlt).toNat : Int) < 97) = true := decide_eq_true (by omega)
      have e2 : decide (((s[pos]'hlt).toNat : Int) < 48) = true := decide_eq_true (by omega)
      simp -dsimp (maxSteps := 9^9) (disch := first | omega | decide +kernel) only [↓bp0, bd0, bd_LQ, reduceIte, Nat.reduceEqDiff, evStore, Nat.reduceAdd, Nat.reduceMul, Int.reduceEq, Int.reduceLT, Int.reduceLE, Nat.reduceLeDiff, List.reduceReplicate, reduceCtorEq, evRange, Nat.reduceLT, retQ, resL, finL, newL, flat, tupOf, List.toList_toArray, hx, e0, e1, e2]
      exact leT_one (hno false (by simp) fun _ => hbad) (by simp)
    · have e0 : decide (((s[pos]'hlt).toNat : Int) = 45) = false := decide_eq_false (by omega)
      have e1 : decide (((s[pos]'hlt).toNat : Int) < 97) = true := decide_eq_true (by omega)
      have e2 : decide (((s[pos]'hlt).toNat : Int) < 48) = false := decide_eq_false (by omega)
      have e3 : decide ((57 : Int) < ((s[pos]'hlt).toNat : Int)) = true := decide_eq_true (by omega)
      simp -dsimp (maxSteps := 9^9) (disch := first | omega | decide +kernel) only [↓bp0, bd0, bd_LQ, reduceIte, Nat.reduceEqDiff, evStore, Nat.reduceAdd, Nat.reduceMul, Int.reduceEq, Int.reduceLT, Int.reduceLE, Nat.reduceLeDiff, List.reduceReplicate, reduceCtorEq, evRange, Nat.reduceLT, retQ, resL, finL, newL, flat, tupOf, List.toList_toArray, hx, e0, e1, e2, e3]
      exact leT_one (hno false (by simp) fun _ => hbad) (by simp)
    · have e0 : decide (((s[pos]'hlt).toNat : Int) = 45) = false := decide_eq_false (by omega)
      have e1 : decide (((s[pos]'hlt).toNat : Int) < 97) = false := decide_eq_false (by omega)
      have e5 : decide ((122 : Int) < ((s[pos]'hlt).toNat : Int)) = true := decide_eq_true (by omega)
      have e2 : decide (((s[pos]'hlt).toNat : Int) < 48) = false := decide_eq_false (by omega)
      have e3 : decide ((57 : Int) < ((s[pos]'hlt).toNat : Int)) = true := decide_eq_true (by omega)
      simp -dsimp (maxSteps := 9^9) (disch := first | omega | decide +kernel) only [↓bp0, bd0, bd_LQ, reduceIte, Nat.reduceEqDiff, evStore, Nat.reduceAdd, Nat.reduceMul, Int.reduceEq, Int.reduceLT, Int.reduceLE, Nat.reduceLeDiff, List.reduceReplicate, reduceCtorEq, evRange, Nat.reduceLT, retQ, resL, finL, newL, flat, tupOf, List.toList_toArray, hx, e0, e1, e2, e3, e5]
      exact leT_one (hno false (by simp) fun _ => hbad) (by simp)
  have hgo : ∀ (i : Nat) (hi : i < s.size), i < pos + 1 → nameC (s[i]'hi) = true := fun i hi h => by
    by_cases e : i = pos
    · subst e; exact hn
    · exact hpre i hi (by omega)
  have hn' := hn
  simp only [nameC, lowB, Bool.or_eq_true, Bool.and_eq_true, decide_eq_true_eq] at hn'
  rcases hn' with (⟨h1, h2⟩ | ⟨h1, h2⟩) | h1
  · have e0 : decide (((s[pos]'hlt).toNat : Int) = 45) = false := decide_eq_false (by omega)
    have e1 : decide (((s[pos]'hlt).toNat : Int) < 97) = false := decide_eq_false (by omega)
    have e2 : decide ((122 : Int) < ((s[pos]'hlt).toNat : Int)) = false := decide_eq_false (by omega)
    try simp -dsimp (maxSteps := 9^9) (disch := first | omega | decide +kernel) only [↓bp0, bd0, bd_LQ, reduceIte, Nat.reduceEqDiff, evStore, Nat.reduceAdd, Nat.reduceMul, Int.reduceEq, Int.reduceLT, Int.reduceLE, Nat.reduceLeDiff, List.reduceReplicate, reduceCtorEq, evRange, Nat.reduceLT, hx, e0, e1, e2]
    refine ⟨_, _, ?_, weak_of ?_, pos + 1, hlt, hgo, rfl, rfl⟩
    · omega
    · first | (simp -dsimp (maxSteps := 9^9) (disch := first | omega | decide +kernel) only [↓bp0, bd0, bd_LQ, reduceIte, Nat.reduceEqDiff, evStore, Nat.reduceAdd, Nat.reduceMul, Int.reduceEq, Int.reduceLT, Int.reduceLE, Nat.reduceLeDiff, List.reduceReplicate, reduceCtorEq, evRange, Nat.reduceLT, wrapS hlt (show s.size ≤ 9223372036854775807 by omega)]; done) | simp -dsimp [evl, putN, i64, u32, bl, encL, encB, encLL, wrapS hlt (show s.size ≤ 9223372036854775807 by omega)]
  · have e0 : decide (((s[pos]'hlt).toNat : Int) = 45) = false := decide_eq_false (by omega)
    have e1 : decide (((s[pos]'hlt).toNat : Int) < 97) = true := decide_eq_true (by omega)
    have e2 : decide (((s[pos]'hlt).toNat : Int) < 48) = false := decide_eq_false (by omega)
    have e3 : decide ((57 : Int) < ((s[pos]'hlt).toNat : Int)) = false := decide_eq_false (by omega)
    try simp -dsimp (maxSteps := 9^9) (disch := first | omega | decide +kernel) only [↓bp0, bd0, bd_LQ, reduceIte, Nat.reduceEqDiff, evStore, Nat.reduceAdd, Nat.reduceMul, Int.reduceEq, Int.reduceLT, Int.reduceLE, Nat.reduceLeDiff, List.reduceReplicate, reduceCtorEq, evRange, Nat.reduceLT, hx, e0, e1, e2, e3]
    refine ⟨_, _, ?_, weak_of ?_, pos + 1, hlt, hgo, rfl, rfl⟩
    · omega
    · first | (simp -dsimp (maxSteps := 9^9) (disch := first | omega | decide +kernel) only [↓bp0, bd0, bd_LQ, reduceIte, Nat.reduceEqDiff, evStore, Nat.reduceAdd, Nat.reduceMul, Int.reduceEq, Int.reduceLT, Int.reduceLE, Nat.reduceLeDiff, List.reduceReplicate, reduceCtorEq, evRange, Nat.reduceLT, wrapS hlt (show s.size ≤ 9223372036854775807 by omega)]; done) | simp -dsimp [evl, putN, i64, u32, bl, encL, encB, encLL, wrapS hlt (show s.size ≤ 9223372036854775807 by omega)]
  · have e0 : decide (((s[pos]'hlt).toNat : Int) = 45) = true := decide_eq_true (by omega)
    try simp -dsimp (maxSteps := 9^9) (disch := first | omega | decide +kernel) only [↓bp0, bd0, bd_LQ, reduceIte, Nat.reduceEqDiff, evStore, Nat.reduceAdd, Nat.reduceMul, Int.reduceEq, Int.reduceLT, Int.reduceLE, Nat.reduceLeDiff, List.reduceReplicate, reduceCtorEq, evRange, Nat.reduceLT, hx, e0]
    refine ⟨_, _, ?_, weak_of ?_, pos + 1, hlt, hgo, rfl, rfl⟩
    · omega
    · first | (simp -dsimp (maxSteps := 9^9) (disch := first | omega | decide +kernel) only [↓bp0, bd0, bd_LQ, reduceIte, Nat.reduceEqDiff, evStore, Nat.reduceAdd, Nat.reduceMul, Int.reduceEq, Int.reduceLT, Int.reduceLE, Nat.reduceLeDiff, List.reduceReplicate, reduceCtorEq, evRange, Nat.reduceLT, wrapS hlt (show s.size ≤ 9223372036854775807 by omega)]; done) | simp -dsimp [evl, putN, i64, u32, bl, encL, encB, encLL, wrapS hlt (show s.size ≤ 9223372036854775807 by omega)]
theorem r_Index (l : List Br) (n : Str) (hl : l.length ≤ 9223372036854775807) : CallSpec cx 72 [encBrs l, str n] (i64 (idx l n)) := by
  refine callSpec_of_vc Tryz.func72 rfl (by decide) (by kernel_rfl) (Nat.le_of_ble_eq_true rfl) ?_
  try simp -dsimp (disch := first | omega | decide +kernel) only [↓bp0, bd0, bd_LQ, reduceIte, Nat.reduceEqDiff, evStore, Nat.reduceAdd, Nat.reduceMul, Int.reduceEq, Int.reduceLT, Int.reduceLE, Nat.reduceLeDiff, List.reduceReplicate, reduceCtorEq, evRange, Nat.reduceLT, Tryz.f72]
  refine LoopQ.rule (fun m st => ∃ i : Nat, i ≤ l.length ∧ (∀ (j : Nat), j < i → ∀ b, l[j]? = some b → decide (b.name = n) = false) ∧ m = l.length - i ∧
    st = ⟨mkE [(0, encBrs l), (1, str n), (5, i64 i)], mkS [], 0⟩) _ _ (weak_of ?_) ⟨0, by omega, fun _ h => by omega, rfl, rfl⟩ ?_
  · first | (simp -dsimp (disch := first | omega | decide +kernel) only [↓bp0, bd0, bd_LQ, reduceIte, Nat.reduceEqDiff, evStore, Nat.reduceAdd, Nat.reduceMul, Int.reduceEq, Int.reduceLT, Int.reduceLE, Nat.reduceLeDiff, List.reduceReplicate, reduceCtorEq, evRange, Nat.reduceLT]; done) | simp -dsimp [evl, putN, i64, u32, bl, encL, encB, encLL]
  rintro m st ⟨i, hi, hpre, rfl, rfl⟩
  try simp -dsimp (disch := first | omega | decide +kernel) only [↓bp0, bd0, bd_LQ, reduceIte, Nat.reduceEqDiff, evStore, Nat.reduceAdd, Nat.reduceMul, Int.reduceEq, Int.reduceLT, Int.reduceLE, Nat.reduceLeDiff, List.reduceReplicate, reduceCtorEq, evRange, Nat.reduceLT]
  refine onC_nlt (fun h2 => ?_) (fun h2 => ?_)
  · obtain ⟨b, hx, hxm⟩ := get_of_lt h2
    cases he : decide (b.name = n)
    · try simp -dsimp (disch := first | omega | decide +kernel) only [↓bp0, bd0, bd_LQ, reduceIte, Nat.reduceEqDiff, evStore, Nat.reduceAdd, Nat.reduceMul, Int.reduceEq, Int.reduceLT, Int.reduceLE, Nat.reduceLeDiff, List.reduceReplicate, reduceCtorEq, evRange, Nat.reduceLT, hx, he]
      refine ⟨_, _, ?_, weak_of ?_, i + 1, h2, ?_, rfl, rfl⟩
      · omega
      · first | (simp -dsimp (disch := first | omega | decide +kernel) only [↓bp0, bd0, bd_LQ, reduceIte, Nat.reduceEqDiff, evStore, Nat.reduceAdd, Nat.reduceMul, Int.reduceEq, Int.reduceLT, Int.reduceLE, Nat.reduceLeDiff, List.reduceReplicate, reduceCtorEq, evRange, Nat.reduceLT, wrapS h2 hl]; done) | simp -dsimp [evl, putN, i64, u32, bl, encL, encB, encLL, wrapS h2 hl]
      · intro j hj b' hb'
        by_cases e : j = i
        · subst e; rw [hx] at hb'; cases hb'; exact he
        · exact hpre j (by omega) b' hb'
    · simp -dsimp (disch := first | omega | decide +kernel) only [↓bp0, bd0, bd_LQ, reduceIte, Nat.reduceEqDiff, evStore, Nat.reduceAdd, Nat.reduceMul, Int.reduceEq, Int.reduceLT, Int.reduceLE, Nat.reduceLeDiff, List.reduceReplicate, reduceCtorEq, evRange, Nat.reduceLT, retQ, resL, finL, newL, flat, tupOf, List.toList_toArray, Tryz.f72, hx, he]
      refine leT_one (int_eq ?_) (by simp)
      rw [idx, fi_at _ l i b hx (fun j hj y hy => hpre j hj y hy) he]
  · simp -dsimp (disch := first | omega | decide +kernel) only [↓bp0, bd0, bd_LQ, reduceIte, Nat.reduceEqDiff, evStore, Nat.reduceAdd, Nat.reduceMul, Int.reduceEq, Int.reduceLT, Int.reduceLE, Nat.reduceLeDiff, List.reduceReplicate, reduceCtorEq, evRange, Nat.reduceLT, retQ, resL, finL, newL, flat, tupOf, List.toList_toArray, Tryz.f72]
    refine leT_one (int_eq ?_) (by simp)
    rw [idx, fi_none _ l fun j y hy => hpre j (by have := (List.getElem?_eq_some_iff.1 hy).1; omega) y hy]
end Go.Ab
