/- The references' names, places and errors of tables. -/
import Derived.Test.YtgcodedanljhpaaGreatDoorLP
set_option linter.unusedSimpArgs false
set_option linter.unusedVariables false
section
set_option maxRecDepth 100000
set_option maxHeartbeats 8000000
namespace Go.Ab
open Go Go.Proofs
theorem bd_LQ : type_of% (And.intro @evNext.eq_1 (And.intro @fld (And.intro @nit (And.intro @nxE (And.intro @ovR (And.intro @evBin_seql (And.intro @evBin_sneq (And.intro @str.eq_1 (And.intro @u8.eq_1 (And.intro @encBrs.eq_1 (And.intro @cBr.eq_1 (And.intro @List.set_cons_succ.{0} (And.intro @List.getElem?_cons_zero.{0} (And.intro @List.getElem?_cons_succ.{0} (@List.length_set.{0}))))))))))))))) := And.intro @evNext.eq_1 (And.intro @fld (And.intro @nit (And.intro @nxE (And.intro @ovR (And.intro @evBin_seql (And.intro @evBin_sneq (And.intro @str.eq_1 (And.intro @u8.eq_1 (And.intro @encBrs.eq_1 (And.intro @cBr.eq_1 (And.intro @List.set_cons_succ.{0} (And.intro @List.getElem?_cons_zero.{0} (And.intro @List.getElem?_cons_succ.{0} (@List.length_set.{0}))))))))))))))
theorem evIdx_si {s : Str} {i : Nat} (h : i < s.size) : evIdx cx 9 (.lit (.string s)) (.lit (.int .i64 (i : Int))) = some (.lit (.int .u8 ((s[i]'h).toNat : Int))) := by
  simp only [evIdx, tis, natOf_cast, dif_pos h]
theorem byte_bad {c : UInt8} (hn : nameC c = false) : c.toNat ≠ 45 ∧ (c.toNat < 48 ∨ (57 < c.toNat ∧ c.toNat < 97) ∨ 122 < c.toNat) := by
  simp only [nameC, lowB, Bool.or_eq_false_iff, Bool.and_eq_false_iff, decide_eq_false_iff_not] at hn
  omega
theorem r_Name (s : Str) (hs : s.size ≤ 2^40) : CallSpec cx 81 [str s] (bl (nameB s)) := by
  refine callSpec_of_vc Tryz.func81 rfl (by decide) (by kernel_rfl) (Nat.le_of_ble_eq_true rfl) ?_
  have hno : ∀ (b : Bool), (b = true → nameB s = true) → (b = false → nameB s = false) → le1 (.lit (.bool b)) (bl (nameB s)) := fun b h1 h2 => bl_eq (by cases b; exact (h2 rfl).symm; exact (h1 rfl).symm)
  have hF : ¬ nameB s = true → nameB s = false := fun h => by simpa using h
  cases h0 : decide ((s.size : Int) < 1)
  case true =>
    have h0' := of_decide_eq_true h0
    simp -dsimp (disch := omega) only [↓bp0, bd0, bd_LQ, evStore, evRange, retQ, resL, finL, newL, flat, tupOf, List.toList_toArray, Tryz.f81, h0, simprocAttr]
    refine leT_one (hno false (by simp) fun _ => hF fun h => ?_) (by simp)
    obtain ⟨_, h1, _⟩ := nameB_iff.1 h; omega
  have hp : 0 < s.size := by have := of_decide_eq_false h0; omega
  cases h40 : decide ((40 : Int) < (s.size : Int))
  case true =>
    have h1 := of_decide_eq_true h40
    simp -dsimp (disch := omega) only [↓bp0, bd0, bd_LQ, evStore, evRange, retQ, resL, finL, newL, flat, tupOf, List.toList_toArray, Tryz.f81, h0, h40, simprocAttr]
    refine leT_one (hno false (by simp) fun _ => hF fun h => ?_) (by simp)
    have := (nameB_iff.1 h).1; omega
  have hle : s.size ≤ 40 := by have := of_decide_eq_false h40; omega
  have hidx := evIdx_s0 hp
  cases ha : decide (((s[0]'hp).toNat : Int) < 97)
  case true =>
    have h1 := of_decide_eq_true ha
    simp -dsimp (disch := omega) only [↓bp0, bd0, bd_LQ, evStore, evRange, retQ, resL, finL, newL, flat, tupOf, List.toList_toArray, Tryz.f81, h0, h40, hidx, ha, simprocAttr]
    refine leT_one (hno false (by simp) fun _ => hF fun h => ?_) (by simp)
    obtain ⟨_, _, h2, _⟩ := nameB_iff.1 h
    simp only [lowB, Bool.and_eq_true, decide_eq_true_eq] at h2; omega
  cases hz : decide ((122 : Int) < ((s[0]'hp).toNat : Int))
  case true =>
    have h1 := of_decide_eq_true hz
    simp -dsimp (disch := omega) only [↓bp0, bd0, bd_LQ, evStore, evRange, retQ, resL, finL, newL, flat, tupOf, List.toList_toArray, Tryz.f81, h0, h40, hidx, ha, hz, simprocAttr]
    refine leT_one (hno false (by simp) fun _ => hF fun h => ?_) (by simp)
    obtain ⟨_, _, h2, _⟩ := nameB_iff.1 h
    simp only [lowB, Bool.and_eq_true, decide_eq_true_eq] at h2; omega
  have hlow : lowB (s[0]'hp) = true := by
    have h1 := of_decide_eq_false ha
    have h2 := of_decide_eq_false hz
    simp only [lowB, Bool.and_eq_true, decide_eq_true_eq]; omega
  try simp -dsimp (disch := omega) only [↓bp0, bd0, bd_LQ, evStore, evRange, Tryz.f81, h0, h40, hidx, ha, hz, simprocAttr]
  refine LoopQ.rule (fun m st => ∃ pos : Nat, pos ≤ s.size ∧ (∀ (i : Nat) (hi : i < s.size), i < pos → nameC (s[i]'hi) = true) ∧ m = s.size - pos ∧
    st = ⟨mkE [(0, str s), (3, i64 pos)], mkS [], 0⟩) _ _ (weak_of ?_) ⟨0, by omega, fun _ _ h => by omega, rfl, rfl⟩ ?_
  · first | (simp -dsimp (disch := omega) only [↓bp0, bd0, bd_LQ, evStore, evRange, simprocAttr]; done) | simp -dsimp [evl, putN, i64, u32, bl, encL, encB, encLL]
  rintro m st ⟨pos, hpl, hpre, rfl, rfl⟩
  try simp -dsimp (disch := omega) only [↓bp0, bd0, bd_LQ, evStore, evRange, simprocAttr]
  refine onC_nlt (fun hlt => ?_) (fun hlt => ?_)
  rotate_left
  · simp -dsimp (disch := omega) only [↓bp0, bd0, bd_LQ, evStore, evRange, retQ, resL, finL, newL, flat, tupOf, List.toList_toArray, simprocAttr]
    refine leT_one (hno true (fun _ => nameB_iff.2 ⟨hle, hp, hlow, fun i hi => hpre i hi (by omega)⟩) (by simp)) (by simp)
  have hx := evIdx_si hlt
  cases hn : nameC (s[pos]'hlt)
  · have hbad : nameB s = false := hF fun h => by
      obtain ⟨_, _, _, h2⟩ := nameB_iff.1 h
      rw [h2 pos hlt] at hn; cases hn
    obtain ⟨h0, h1 | ⟨h1, h2⟩ | h1⟩ := byte_bad hn
    · have e0 : decide (((s[pos]'hlt).toNat : Int) = 45) = false := decide_eq_false (by omega)
      have e1 : decide (((s[pos]'hlt).toNat : Int) < 97) = true := decide_eq_true (by omega)
      have e2 : decide (((s[pos]'hlt).toNat : Int) < 48) = true := decide_eq_true (by omega)
      simp -dsimp (disch := omega) only [↓bp0, bd0, bd_LQ, evStore, evRange, retQ, resL, finL, newL, flat, tupOf, List.toList_toArray, hx, e0, e1, e2, simprocAttr]
      exact leT_one (hno false (by simp) fun _ => hbad) (by simp)
    · have e0 : decide (((s[pos]'hlt).toNat : Int) = 45) = false := decide_eq_false (by omega)
      have e1 : decide (((s[pos]'hlt).toNat : Int) < 97) = true := decide_eq_true (by omega)
      have e2 : decide (((s[pos]'hlt).toNat : Int) < 48) = false := decide_eq_false (by omega)
      have e3 : decide ((57 : Int) < ((s[pos]'hlt).toNat : Int)) = true := decide_eq_true (by omega)
      simp -dsimp (disch := omega) only [↓bp0, bd0, bd_LQ, evStore, evRange, retQ, resL, finL, newL, flat, tupOf, List.toList_toArray, hx, e0, e1, e2, e3, simprocAttr]
      exact leT_one (hno false (by simp) fun _ => hbad) (by simp)
    · have e0 : decide (((s[pos]'hlt).toNat : Int) = 45) = false := decide_eq_false (by omega)
      have e1 : decide (((s[pos]'hlt).toNat : Int) < 97) = false := decide_eq_false (by omega)
      have e5 : decide ((122 : Int) < ((s[pos]'hlt).toNat : Int)) = true := decide_eq_true (by omega)
      have e2 : decide (((s[pos]'hlt).toNat : Int) < 48) = false := decide_eq_false (by omega)
      have e3 : decide ((57 : Int) < ((s[pos]'hlt).toNat : Int)) = true := decide_eq_true (by omega)
      simp -dsimp (disch := omega) only [↓bp0, bd0, bd_LQ, evStore, evRange, retQ, resL, finL, newL, flat, tupOf, List.toList_toArray, hx, e0, e1, e2, e3, e5, simprocAttr]
      exact leT_one (hno false (by simp) fun _ => hbad) (by simp)
  have hgo : ∀ (i : Nat) (hi : i < s.size), i < pos + 1 → nameC (s[i]'hi) = true := fun i hi h => by
    by_cases e : i = pos
    · subst e; exact hn
    · exact hpre i hi (by omega)
  have hn' := hn
  simp only [nameC, lowB, Bool.or_eq_true, Bool.and_eq_true, decide_eq_true_eq] at hn'
  rcases hn' with (⟨h1, h2⟩ | ⟨h1, h2⟩) | h1
  · have e0 : decide (((s[pos]'hlt).toNat : Int) = 45) = false := decide_eq_false (by omega)
    have e1 : decide (((s[pos]'hlt).toNat : Int) < 97) = false := decide_eq_false (by omega)
    have e2 : decide ((122 : Int) < ((s[pos]'hlt).toNat : Int)) = false := decide_eq_false (by omega)
    try simp -dsimp (disch := omega) only [↓bp0, bd0, bd_LQ, evStore, evRange, hx, e0, e1, e2, simprocAttr]
    refine ⟨_, _, ?_, weak_of ?_, pos + 1, hlt, hgo, rfl, rfl⟩
    · omega
    · first | (simp -dsimp (disch := omega) only [↓bp0, bd0, bd_LQ, evStore, evRange, wrapS hlt (show s.size ≤ 9223372036854775807 by omega), simprocAttr]; done) | simp -dsimp [evl, putN, i64, u32, bl, encL, encB, encLL, wrapS hlt (show s.size ≤ 9223372036854775807 by omega)]
  · have e0 : decide (((s[pos]'hlt).toNat : Int) = 45) = false := decide_eq_false (by omega)
    have e1 : decide (((s[pos]'hlt).toNat : Int) < 97) = true := decide_eq_true (by omega)
    have e2 : decide (((s[pos]'hlt).toNat : Int) < 48) = false := decide_eq_false (by omega)
    have e3 : decide ((57 : Int) < ((s[pos]'hlt).toNat : Int)) = false := decide_eq_false (by omega)
    try simp -dsimp (disch := omega) only [↓bp0, bd0, bd_LQ, evStore, evRange, hx, e0, e1, e2, e3, simprocAttr]
    refine ⟨_, _, ?_, weak_of ?_, pos + 1, hlt, hgo, rfl, rfl⟩
    · omega
    · first | (simp -dsimp (disch := omega) only [↓bp0, bd0, bd_LQ, evStore, evRange, wrapS hlt (show s.size ≤ 9223372036854775807 by omega), simprocAttr]; done) | simp -dsimp [evl, putN, i64, u32, bl, encL, encB, encLL, wrapS hlt (show s.size ≤ 9223372036854775807 by omega)]
  · have e0 : decide (((s[pos]'hlt).toNat : Int) = 45) = true := decide_eq_true (by omega)
    try simp -dsimp (disch := omega) only [↓bp0, bd0, bd_LQ, evStore, evRange, hx, e0, simprocAttr]
    refine ⟨_, _, ?_, weak_of ?_, pos + 1, hlt, hgo, rfl, rfl⟩
    · omega
    · first | (simp -dsimp (disch := omega) only [↓bp0, bd0, bd_LQ, evStore, evRange, wrapS hlt (show s.size ≤ 9223372036854775807 by omega), simprocAttr]; done) | simp -dsimp [evl, putN, i64, u32, bl, encL, encB, encLL, wrapS hlt (show s.size ≤ 9223372036854775807 by omega)]
theorem r_Index (l : List Br) (n : Str) (hl : l.length ≤ 9223372036854775807) : CallSpec cx 72 [encBrs l, str n] (i64 (idx l n)) := by
  refine callSpec_of_vc Tryz.func72 rfl (by decide) (by kernel_rfl) (Nat.le_of_ble_eq_true rfl) ?_
  try simp -dsimp (disch := omega) only [↓bp0, bd0, bd_LQ, evStore, evRange, Tryz.f72, simprocAttr]
  refine LoopQ.rule (fun m st => ∃ i : Nat, i ≤ l.length ∧ (∀ (j : Nat), j < i → ∀ b, l[j]? = some b → decide (b.name = n) = false) ∧ m = l.length - i ∧
    st = ⟨mkE [(0, encBrs l), (1, str n), (5, i64 i)], mkS [], 0⟩) _ _ (weak_of ?_) ⟨0, by omega, fun _ h => by omega, rfl, rfl⟩ ?_
  · first | (simp -dsimp (disch := omega) only [↓bp0, bd0, bd_LQ, evStore, evRange, simprocAttr]; done) | simp -dsimp [evl, putN, i64, u32, bl, encL, encB, encLL]
  rintro m st ⟨i, hi, hpre, rfl, rfl⟩
  try simp -dsimp (disch := omega) only [↓bp0, bd0, bd_LQ, evStore, evRange, simprocAttr]
  refine onC_nlt (fun h2 => ?_) (fun h2 => ?_)
  · obtain ⟨b, hx, hxm⟩ := get_of_lt h2
    cases he : decide (b.name = n)
    · try simp -dsimp (disch := omega) only [↓bp0, bd0, bd_LQ, evStore, evRange, hx, he, simprocAttr]
      refine ⟨_, _, ?_, weak_of ?_, i + 1, h2, ?_, rfl, rfl⟩
      · omega
      · first | (simp -dsimp (disch := omega) only [↓bp0, bd0, bd_LQ, evStore, evRange, wrapS h2 hl, simprocAttr]; done) | simp -dsimp [evl, putN, i64, u32, bl, encL, encB, encLL, wrapS h2 hl]
      · intro j hj b' hb'
        by_cases e : j = i
        · subst e; rw [hx] at hb'; cases hb'; exact he
        · exact hpre j (by omega) b' hb'
    · simp -dsimp (disch := omega) only [↓bp0, bd0, bd_LQ, evStore, evRange, retQ, resL, finL, newL, flat, tupOf, List.toList_toArray, Tryz.f72, hx, he, simprocAttr]
      refine leT_one (int_eq ?_) (by simp)
      rw [idx, fi_at _ l i b hx (fun j hj y hy => hpre j hj y hy) he]
  · simp -dsimp (disch := omega) only [↓bp0, bd0, bd_LQ, evStore, evRange, retQ, resL, finL, newL, flat, tupOf, List.toList_toArray, Tryz.f72, simprocAttr]
    refine leT_one (int_eq ?_) (by simp)
    rw [idx, fi_none _ l fun j y hy => hpre j (by have := (List.getElem?_eq_some_iff.1 hy).1; omega) y hy]
end Go.Ab
end

section
/- The reference's error of a table. -/
set_option maxRecDepth 100000
set_option maxHeartbeats 8000000
namespace Go.Ab
open Go Go.Proofs
theorem bd_LR : type_of% (And.intro @evNext.eq_1 (And.intro @fld (And.intro @nit (And.intro @nxE (And.intro @ovR (And.intro @evBin_seql (And.intro @evBin_sneq (And.intro @str.eq_1 (And.intro @u8.eq_1 (And.intro @encBrs.eq_1 (And.intro @cBr.eq_1 (And.intro @List.set_cons_succ.{0} (And.intro @List.getElem?_cons_zero.{0} (And.intro @List.getElem?_cons_succ.{0} (@List.length_set.{0}))))))))))))))) := And.intro @evNext.eq_1 (And.intro @fld (And.intro @nit (And.intro @nxE (And.intro @ovR (And.intro @evBin_seql (And.intro @evBin_sneq (And.intro @str.eq_1 (And.intro @u8.eq_1 (And.intro @encBrs.eq_1 (And.intro @cBr.eq_1 (And.intro @List.set_cons_succ.{0} (And.intro @List.getElem?_cons_zero.{0} (And.intro @List.getElem?_cons_succ.{0} (@List.length_set.{0}))))))))))))))
theorem r_Check (l : List Br) (hl : l.length ≤ 9223372036854775807) (hn : ∀ b ∈ l, b.name.size ≤ 2^40) : CallSpec cx 82 [encBrs l] (i64 (bchk l)) := by
  refine callSpec_of_vc Tryz.func82 rfl (by decide) (by kernel_rfl) (Nat.le_of_ble_eq_true rfl) ?_
  cases h8 : decide ((8 : Int) < l.length)
  case true =>
    simp -dsimp (maxSteps := 9^9) (disch := first | omega | decide +kernel) only [↓bp0, bd0, bd_LR, reduceIte, Nat.reduceEqDiff, evStore, Nat.reduceAdd, Nat.reduceMul, Int.reduceEq, Int.reduceLT, Int.reduceLE, Nat.reduceLeDiff, List.reduceReplicate, reduceCtorEq, evRange, Nat.reduceLT, retQ, resL, finL, newL, flat, tupOf, List.toList_toArray, Tryz.f82, h8]
    refine leT_one (int_eq ?_) (by simp)
    have := of_decide_eq_true h8
    rw [bchk.eq_def, if_pos (by omega)]
  have h8' := of_decide_eq_false h8
  have e1 : bchk l = if dupB l then 14 else match l[0]? with
      | none => 8
      | some b => if b.frm ≠ ⟨#[]⟩ ∨ b.pos ≠ 0 then 8 else if anyI (brB l) l then 8 else 0 := by
    rw [bchk.eq_def, if_neg (by omega)]
    rfl
  try simp -dsimp (maxSteps := 9^9) (disch := first | omega | decide +kernel) only [↓bp0, bd0, bd_LR, reduceIte, Nat.reduceEqDiff, evStore, Nat.reduceAdd, Nat.reduceMul, Int.reduceEq, Int.reduceLT, Int.reduceLE, Nat.reduceLeDiff, List.reduceReplicate, reduceCtorEq, evRange, Nat.reduceLT, Tryz.f82, h8]
  refine LoopQ.rule (fun m st => ∃ i : Nat, i ≤ l.length ∧ (∀ (j : Nat) b, j < i → l[j]? = some b → ¬ idx l b.name < j) ∧ m = l.length - i ∧
    st = ⟨mkE [(0, encBrs l), (3, i64 i)], mkS [], 0⟩) _ _ (weak_of ?_) ⟨0, by omega, fun _ _ h => by omega, rfl, rfl⟩ ?_
  · first | (simp -dsimp (maxSteps := 9^9) (disch := first | omega | decide +kernel) only [↓bp0, bd0, bd_LR, reduceIte, Nat.reduceEqDiff, evStore, Nat.reduceAdd, Nat.reduceMul, Int.reduceEq, Int.reduceLT, Int.reduceLE, Nat.reduceLeDiff, List.reduceReplicate, reduceCtorEq, evRange, Nat.reduceLT]; done) | simp -dsimp [evl, putN, i64, u32, bl, encL, encB, encLL]
  rintro m st ⟨i, hi, hpre, rfl, rfl⟩
  try simp -dsimp (maxSteps := 9^9) (disch := first | omega | decide +kernel) only [↓bp0, bd0, bd_LR, reduceIte, Nat.reduceEqDiff, evStore, Nat.reduceAdd, Nat.reduceMul, Int.reduceEq, Int.reduceLT, Int.reduceLE, Nat.reduceLeDiff, List.reduceReplicate, reduceCtorEq, evRange, Nat.reduceLT]
  refine onC_nlt (fun h2 => ?_) (fun h2 => ?_)
  · obtain ⟨b, hx, hxm⟩ := get_of_lt h2
    try simp -dsimp (maxSteps := 9^9) (disch := first | omega | decide +kernel) only [↓bp0, bd0, bd_LR, reduceIte, Nat.reduceEqDiff, evStore, Nat.reduceAdd, Nat.reduceMul, Int.reduceEq, Int.reduceLT, Int.reduceLE, Nat.reduceLeDiff, List.reduceReplicate, reduceCtorEq, evRange, Nat.reduceLT, hx]
    refine CallQ.imm (r_Index l b.name hl) (by rfl) (by first | rfl | (simp -dsimp (maxSteps := 9^9) (disch := first | omega | decide +kernel) only [↓bp0, bd0, bd_LR, reduceIte, Nat.reduceEqDiff, evStore, Nat.reduceAdd, Nat.reduceMul, Int.reduceEq, Int.reduceLT, Int.reduceLE, Nat.reduceLeDiff, List.reduceReplicate, reduceCtorEq, evRange, Nat.reduceLT, drcs, drc, flat]; done) | simp -dsimp [evl, drcs, drc, flat, i64, u32, bl, encL, encB, encLL]) (by first | exact .inl rfl | exact .inr rfl | exact .inr scalB | exact .inr scalI | exact .inr scalT) ?_
    have hf := idx_first hx rfl
    cases h3 : decide (idx l b.name = (i : Int))
    · have h3' := of_decide_eq_false h3
      simp -dsimp (maxSteps := 9^9) (disch := first | omega | decide +kernel) only [↓bp0, bd0, bd_LR, reduceIte, Nat.reduceEqDiff, evStore, Nat.reduceAdd, Nat.reduceMul, Int.reduceEq, Int.reduceLT, Int.reduceLE, Nat.reduceLeDiff, List.reduceReplicate, reduceCtorEq, evRange, Nat.reduceLT, retQ, resL, finL, newL, flat, tupOf, List.toList_toArray, Tryz.f82, h3]
      refine leT_one (int_eq ?_) (by simp)
      rw [e1, if_pos]
      rw [dupB, List.any_eq_true]
      exact ⟨i, List.mem_range.2 h2, by rw [hx]; exact decide_eq_true (by omega)⟩
    have h3' := of_decide_eq_true h3
    try simp -dsimp (maxSteps := 9^9) (disch := first | omega | decide +kernel) only [↓bp0, bd0, bd_LR, reduceIte, Nat.reduceEqDiff, evStore, Nat.reduceAdd, Nat.reduceMul, Int.reduceEq, Int.reduceLT, Int.reduceLE, Nat.reduceLeDiff, List.reduceReplicate, reduceCtorEq, evRange, Nat.reduceLT, h3]
    refine ⟨_, _, ?_, weak_of ?_, i + 1, h2, ?_, rfl, rfl⟩
    · omega
    · first | (simp -dsimp (maxSteps := 9^9) (disch := first | omega | decide +kernel) only [↓bp0, bd0, bd_LR, reduceIte, Nat.reduceEqDiff, evStore, Nat.reduceAdd, Nat.reduceMul, Int.reduceEq, Int.reduceLT, Int.reduceLE, Nat.reduceLeDiff, List.reduceReplicate, reduceCtorEq, evRange, Nat.reduceLT, wrapS h2 hl]; done) | simp -dsimp [evl, putN, i64, u32, bl, encL, encB, encLL, wrapS h2 hl]
    · intro j b' hj hb'
      by_cases hji : j = i
      · subst hji; rw [hx] at hb'; cases hb'; omega
      · exact hpre j b' (by omega) hb'
  have hdup : dupB l = false := by
    rw [dupB, List.any_eq_false]
    intro i hi
    rw [List.mem_range] at hi
    cases hb : l[i]? with
    | none => simp
    | some b => simpa using hpre i b (by omega) hb
  rw [if_neg (by rw [hdup]; simp)] at e1
  cases hnil : decide ((l.length : Int) = 0)
  case true =>
    have h0 : l = [] := List.eq_nil_of_length_eq_zero (by have := of_decide_eq_true hnil; omega)
    simp -dsimp (maxSteps := 9^9) (disch := first | omega | decide +kernel) only [↓bp0, bd0, bd_LR, reduceIte, Nat.reduceEqDiff, evStore, Nat.reduceAdd, Nat.reduceMul, Int.reduceEq, Int.reduceLT, Int.reduceLE, Nat.reduceLeDiff, List.reduceReplicate, reduceCtorEq, evRange, Nat.reduceLT, retQ, resL, finL, newL, flat, tupOf, List.toList_toArray, Tryz.f82, hnil]
    refine leT_one (int_eq ?_) (by simp)
    rw [e1, h0]; rfl
  have hpos : 0 < l.length := by have := of_decide_eq_false hnil; omega
  have hx0 : l[0]? = some l[0] := List.getElem?_eq_getElem hpos
  have e2 : bchk l = if (l[0]).frm ≠ ⟨#[]⟩ ∨ (l[0]).pos ≠ 0 then 8 else if anyI (brB l) l then 8 else 0 := by rw [e1, hx0]
  try simp -dsimp (maxSteps := 9^9) (disch := first | omega | decide +kernel) only [↓bp0, bd0, bd_LR, reduceIte, Nat.reduceEqDiff, evStore, Nat.reduceAdd, Nat.reduceMul, Int.reduceEq, Int.reduceLT, Int.reduceLE, Nat.reduceLeDiff, List.reduceReplicate, reduceCtorEq, evRange, Nat.reduceLT, hnil]
  refine LoopQ.rule (fun m st => ∃ i : Nat, i ≤ l.length ∧ (∀ (j : Nat) b, j < i → l[j]? = some b → brB l j b = false) ∧ (0 < i → ¬ ((l[0]).frm ≠ ⟨#[]⟩ ∨ (l[0]).pos ≠ 0)) ∧ m = l.length - i ∧
    st = ⟨mkE [(0, encBrs l), (4, i64 i)], mkS [], 0⟩) _ _ (weak_of ?_) ⟨0, by omega, fun _ _ h => by omega, fun h => by omega, rfl, rfl⟩ ?_
  · first | (simp -dsimp (maxSteps := 9^9) (disch := first | omega | decide +kernel) only [↓bp0, bd0, bd_LR, reduceIte, Nat.reduceEqDiff, evStore, Nat.reduceAdd, Nat.reduceMul, Int.reduceEq, Int.reduceLT, Int.reduceLE, Nat.reduceLeDiff, List.reduceReplicate, reduceCtorEq, evRange, Nat.reduceLT]; done) | simp -dsimp [evl, putN, i64, u32, bl, encL, encB, encLL]
  clear hpre hi h2
  rintro m st ⟨i, hi, hpre, hfst, rfl, rfl⟩
  try simp -dsimp (maxSteps := 9^9) (disch := first | omega | decide +kernel) only [↓bp0, bd0, bd_LR, reduceIte, Nat.reduceEqDiff, evStore, Nat.reduceAdd, Nat.reduceMul, Int.reduceEq, Int.reduceLT, Int.reduceLE, Nat.reduceLeDiff, List.reduceReplicate, reduceCtorEq, evRange, Nat.reduceLT]
  refine onC_nlt (fun h2 => ?_) (fun h2 => ?_)
  · obtain ⟨b, hx, hxm⟩ := get_of_lt h2
    have hbad : brB l i b = true → bchk l = 8 := fun h => by
      rw [e2]; split
      · rfl
      · rw [if_pos (anyI_iff.2 ⟨i, b, hx, h⟩)]
    have hgo : brB l i b = false → ∀ (j : Nat) b, j < i + 1 → l[j]? = some b → brB l j b = false := fun h j b' hj hb' => by
      by_cases hji : j = i
      · subst hji; rw [hx] at hb'; cases hb'; exact h
      · exact hpre j b' (by omega) hb'
    try simp -dsimp (maxSteps := 9^9) (disch := first | omega | decide +kernel) only [↓bp0, bd0, bd_LR, reduceIte, Nat.reduceEqDiff, evStore, Nat.reduceAdd, Nat.reduceMul, Int.reduceEq, Int.reduceLT, Int.reduceLE, Nat.reduceLeDiff, List.reduceReplicate, reduceCtorEq, evRange, Nat.reduceLT, hx]
    refine CallQ.imm (r_Name b.name (hn b hxm)) (by rfl) (by first | rfl | (simp -dsimp (maxSteps := 9^9) (disch := first | omega | decide +kernel) only [↓bp0, bd0, bd_LR, reduceIte, Nat.reduceEqDiff, evStore, Nat.reduceAdd, Nat.reduceMul, Int.reduceEq, Int.reduceLT, Int.reduceLE, Nat.reduceLeDiff, List.reduceReplicate, reduceCtorEq, evRange, Nat.reduceLT, drcs, drc, flat]; done) | simp -dsimp [evl, drcs, drc, flat, i64, u32, bl, encL, encB, encLL]) (by first | exact .inl rfl | exact .inr rfl | exact .inr scalB | exact .inr scalI | exact .inr scalT) ?_
    cases hnm : nameB b.name
    · simp -dsimp (maxSteps := 9^9) (disch := first | omega | decide +kernel) only [↓bp0, bd0, bd_LR, reduceIte, Nat.reduceEqDiff, evStore, Nat.reduceAdd, Nat.reduceMul, Int.reduceEq, Int.reduceLT, Int.reduceLE, Nat.reduceLeDiff, List.reduceReplicate, reduceCtorEq, evRange, Nat.reduceLT, retQ, resL, finL, newL, flat, tupOf, List.toList_toArray, Tryz.f82, hnm, uUn, Option.bind_some]
      exact leT_one (int_eq (hbad (by simp [brB, hnm])).symm) (by simp)
    cases h1 : decide (b.pos < 0)
    case true =>
      simp -dsimp (maxSteps := 9^9) (disch := first | omega | decide +kernel) only [↓bp0, bd0, bd_LR, reduceIte, Nat.reduceEqDiff, evStore, Nat.reduceAdd, Nat.reduceMul, Int.reduceEq, Int.reduceLT, Int.reduceLE, Nat.reduceLeDiff, List.reduceReplicate, reduceCtorEq, evRange, Nat.reduceLT, retQ, resL, finL, newL, flat, tupOf, List.toList_toArray, Tryz.f82, hnm, hx, h1, uUn, Option.bind_some]
      exact leT_one (int_eq (hbad (by simp [brB, hnm, h1])).symm) (by simp)
    cases h3 : decide (320 < b.pos)
    case true =>
      simp -dsimp (maxSteps := 9^9) (disch := first | omega | decide +kernel) only [↓bp0, bd0, bd_LR, reduceIte, Nat.reduceEqDiff, evStore, Nat.reduceAdd, Nat.reduceMul, Int.reduceEq, Int.reduceLT, Int.reduceLE, Nat.reduceLeDiff, List.reduceReplicate, reduceCtorEq, evRange, Nat.reduceLT, retQ, resL, finL, newL, flat, tupOf, List.toList_toArray, Tryz.f82, hnm, hx, h1, h3, uUn, Option.bind_some]
      exact leT_one (int_eq (hbad (by simp [brB, hnm, h1, h3])).symm) (by simp)
    cases h4 : decide ((i : Int) = 0)
    case true =>
      have h4' : i = 0 := by have := of_decide_eq_true h4; omega
      have hb0 : l[0] = b := by subst h4'; rw [hx0] at hx; exact Option.some.inj hx
      have h5 : decide ((0 : Int) < (i : Int)) = false := decide_eq_false (by omega)
      cases hf : decide (b.frm = ⟨#[]⟩)
      · try simp -dsimp (maxSteps := 9^9) (disch := first | omega | decide +kernel) only [↓bp0, bd0, bd_LR, reduceIte, Nat.reduceEqDiff, evStore, Nat.reduceAdd, Nat.reduceMul, Int.reduceEq, Int.reduceLT, Int.reduceLE, Nat.reduceLeDiff, List.reduceReplicate, reduceCtorEq, evRange, Nat.reduceLT, hnm, hx, h1, h3, h4, h5, hf, uUn, Option.bind_some]
        simp -dsimp (maxSteps := 9^9) (disch := first | omega | decide +kernel) only [↓bp0, bd0, bd_LR, reduceIte, Nat.reduceEqDiff, evStore, Nat.reduceAdd, Nat.reduceMul, Int.reduceEq, Int.reduceLT, Int.reduceLE, Nat.reduceLeDiff, List.reduceReplicate, reduceCtorEq, evRange, Nat.reduceLT, retQ, resL, finL, newL, flat, tupOf, List.toList_toArray, Tryz.f82, hx, h4, h5, hf]
        refine leT_one (int_eq ?_) (by simp)
        rw [e2, if_pos (.inl (by rw [hb0]; exact of_decide_eq_false hf))]
      cases hp : decide (b.pos = 0)
      · try simp -dsimp (maxSteps := 9^9) (disch := first | omega | decide +kernel) only [↓bp0, bd0, bd_LR, reduceIte, Nat.reduceEqDiff, evStore, Nat.reduceAdd, Nat.reduceMul, Int.reduceEq, Int.reduceLT, Int.reduceLE, Nat.reduceLeDiff, List.reduceReplicate, reduceCtorEq, evRange, Nat.reduceLT, hnm, hx, h1, h3, h4, h5, hf, hp, uUn, Option.bind_some]
        simp -dsimp (maxSteps := 9^9) (disch := first | omega | decide +kernel) only [↓bp0, bd0, bd_LR, reduceIte, Nat.reduceEqDiff, evStore, Nat.reduceAdd, Nat.reduceMul, Int.reduceEq, Int.reduceLT, Int.reduceLE, Nat.reduceLeDiff, List.reduceReplicate, reduceCtorEq, evRange, Nat.reduceLT, retQ, resL, finL, newL, flat, tupOf, List.toList_toArray, Tryz.f82, hx, h4, h5, hf, hp]
        refine leT_one (int_eq ?_) (by simp)
        rw [e2, if_pos (.inr (by rw [hb0]; exact of_decide_eq_false hp))]
      try simp -dsimp (maxSteps := 9^9) (disch := first | omega | decide +kernel) only [↓bp0, bd0, bd_LR, reduceIte, Nat.reduceEqDiff, evStore, Nat.reduceAdd, Nat.reduceMul, Int.reduceEq, Int.reduceLT, Int.reduceLE, Nat.reduceLeDiff, List.reduceReplicate, reduceCtorEq, evRange, Nat.reduceLT, hnm, hx, h1, h3, h4, h5, hf, hp, uUn, Option.bind_some]
      refine ⟨_, _, ?_, weak_of ?_, i + 1, h2, hgo ?_, ?_, rfl, rfl⟩
      · omega
      · first | (simp -dsimp (maxSteps := 9^9) (disch := first | omega | decide +kernel) only [↓bp0, bd0, bd_LR, reduceIte, Nat.reduceEqDiff, evStore, Nat.reduceAdd, Nat.reduceMul, Int.reduceEq, Int.reduceLT, Int.reduceLE, Nat.reduceLeDiff, List.reduceReplicate, reduceCtorEq, evRange, Nat.reduceLT, wrapS h2 hl]; done) | simp -dsimp [evl, putN, i64, u32, bl, encL, encB, encLL, wrapS h2 hl]
      · simp [brB, hnm, h1, h3]; omega
      · intro _
        rw [hb0, not_or, Decidable.not_not, Decidable.not_not]
        exact ⟨of_decide_eq_true hf, of_decide_eq_true hp⟩
    have h4' : 0 < i := by have := of_decide_eq_false h4; omega
    have h5 : decide ((0 : Int) < (i : Int)) = true := decide_eq_true (by omega)
    have h5n : decide (0 < i) = true := decide_eq_true h4'
    have hil : i ≤ l.length := by omega
    try simp -dsimp (maxSteps := 9^9) (disch := first | omega | decide +kernel) only [↓bp0, bd0, bd_LR, reduceIte, Nat.reduceEqDiff, evStore, Nat.reduceAdd, Nat.reduceMul, Int.reduceEq, Int.reduceLT, Int.reduceLE, Nat.reduceLeDiff, List.reduceReplicate, reduceCtorEq, evRange, Nat.reduceLT, hnm, hx, h1, h3, h4, h5, hil, allBr, encTake, uUn, Option.bind_some, Bool.false_and, evSlice, slc]
    first | refine vc_text (by kernel_rfl) ?_ | skip
    try simp -dsimp (maxSteps := 9^9) (disch := first | omega | decide +kernel) only [↓bp0, bd0, bd_LR, reduceIte, Nat.reduceEqDiff, evStore, Nat.reduceAdd, Nat.reduceMul, Int.reduceEq, Int.reduceLT, Int.reduceLE, Nat.reduceLeDiff, List.reduceReplicate, reduceCtorEq, evRange, Nat.reduceLT, hnm, hx, h1, h3, h4, h5, hil, allBr, encTake, uUn, Option.bind_some, Bool.false_and, evSlice, slc]
    refine CallY.imm (r_Index (l.take i) b.frm (by rw [List.length_take]; omega)) (by rfl) (by first | rfl | (simp -dsimp (maxSteps := 9^9) (disch := first | omega | decide +kernel) only [↓bp0, bd0, bd_LR, reduceIte, Nat.reduceEqDiff, evStore, Nat.reduceAdd, Nat.reduceMul, Int.reduceEq, Int.reduceLT, Int.reduceLE, Nat.reduceLeDiff, List.reduceReplicate, reduceCtorEq, evRange, Nat.reduceLT, drcs, drc, flat, encBrs, List.map_take]; done) | simp -dsimp [evl, drcs, drc, flat, i64, u32, bl, encL, encB, encLL]) (by first | exact .inl rfl | exact .inr rfl | exact .inr scalB | exact .inr scalI | exact .inr scalT) ?_
    cases h6 : decide (idx (l.take i) b.frm < 0)
    case true =>
      simp -dsimp (maxSteps := 9^9) (disch := first | omega | decide +kernel) only [↓bp0, bd0, bd_LR, reduceIte, Nat.reduceEqDiff, evStore, Nat.reduceAdd, Nat.reduceMul, Int.reduceEq, Int.reduceLT, Int.reduceLE, Nat.reduceLeDiff, List.reduceReplicate, reduceCtorEq, evRange, Nat.reduceLT, retQ, resL, finL, newL, flat, tupOf, List.toList_toArray, Tryz.f82, h4, h5, h6]
      exact leT_one (int_eq (hbad (by simp [brB, h5n, h6])).symm) (by simp)
    try simp -dsimp (maxSteps := 9^9) (disch := first | omega | decide +kernel) only [↓bp0, bd0, bd_LR, reduceIte, Nat.reduceEqDiff, evStore, Nat.reduceAdd, Nat.reduceMul, Int.reduceEq, Int.reduceLT, Int.reduceLE, Nat.reduceLeDiff, List.reduceReplicate, reduceCtorEq, evRange, Nat.reduceLT, h4, h5, h6]
    refine ⟨_, _, ?_, weak_of ?_, i + 1, h2, hgo ?_, fun _ => hfst h4', rfl, rfl⟩
    · omega
    · first | (simp -dsimp (maxSteps := 9^9) (disch := first | omega | decide +kernel) only [↓bp0, bd0, bd_LR, reduceIte, Nat.reduceEqDiff, evStore, Nat.reduceAdd, Nat.reduceMul, Int.reduceEq, Int.reduceLT, Int.reduceLE, Nat.reduceLeDiff, List.reduceReplicate, reduceCtorEq, evRange, Nat.reduceLT, wrapS h2 hl]; done) | simp -dsimp [evl, putN, i64, u32, bl, encL, encB, encLL, wrapS h2 hl]
    · simp [brB, hnm, h1, h3, h5n, h6]
  simp -dsimp (maxSteps := 9^9) (disch := first | omega | decide +kernel) only [↓bp0, bd0, bd_LR, reduceIte, Nat.reduceEqDiff, evStore, Nat.reduceAdd, Nat.reduceMul, Int.reduceEq, Int.reduceLT, Int.reduceLE, Nat.reduceLeDiff, List.reduceReplicate, reduceCtorEq, evRange, Nat.reduceLT, retQ, resL, finL, newL, flat, tupOf, List.toList_toArray, Tryz.f82]
  refine leT_one (int_eq ?_) (by simp)
  rw [e2, if_neg (hfst (by omega)), if_neg]
  rw [Bool.not_eq_true, anyI_false]
  exact fun j b hb => hpre j b (by have := (List.getElem?_eq_some_iff.1 hb).1; omega) hb
end Go.Ab
end
