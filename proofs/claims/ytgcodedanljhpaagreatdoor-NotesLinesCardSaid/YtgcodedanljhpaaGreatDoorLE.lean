/- Names; places in tables; the error of a table. -/
import Derived.Test.YtgcodedanljhpaaGreatDoorTY
import Derived.Test.YtgcodedanljhpaaGreatDoorLC
set_option linter.unusedSimpArgs false
set_option linter.unusedVariables false
section
set_option maxRecDepth 100000
set_option maxHeartbeats 8000000
namespace Go.Ab
open Go Go.Proofs
theorem bd_LD : type_of% (And.intro @evNext.eq_1 (And.intro @fld (And.intro @nit (And.intro @evBin_seql (And.intro @evBin_sneq (And.intro @str.eq_1 (@u8.eq_1))))))) := And.intro @evNext.eq_1 (And.intro @fld (And.intro @nit (And.intro @evBin_seql (And.intro @evBin_sneq (And.intro @str.eq_1 (@u8.eq_1))))))
theorem nameB_iff {s : Str} : nameB s = true ↔ s.size ≤ 40 ∧ ∃ h : 0 < s.size, lowB (s[0]'h) = true ∧ ∀ (i : Nat) (hi : i < s.size), nameC (s[i]'hi) = true := by
  obtain ⟨⟨l⟩⟩ := s
  have hsz : (ByteArray.mk ⟨l⟩).size = l.length := rfl
  have hg : ∀ (i : Nat) (h : i < (ByteArray.mk ⟨l⟩).size), (ByteArray.mk ⟨l⟩)[i]'h = l[i]'h := fun _ _ => rfl
  unfold nameB
  cases l with
  | nil => simp [hsz]
  | cons c r =>
    simp only [Bool.and_eq_true, decide_eq_true_eq]
    refine and_congr_right fun _ => ?_
    constructor
    · rintro ⟨h1, h2⟩
      refine ⟨by rw [hsz]; simp, by rw [hg]; exact h1, fun i hi => ?_⟩
      rw [hg]
      cases i with
      | zero => simp only [nameC, List.getElem_cons_zero, h1, Bool.true_or]
      | succ i => exact List.all_eq_true.1 h2 _ (by simp)
    · rintro ⟨h0, h1, h2⟩
      refine ⟨by rw [hg] at h1; exact h1, List.all_eq_true.2 fun x hx => ?_⟩
      obtain ⟨i, hi, rfl⟩ := List.getElem_of_mem hx
      have := h2 (i + 1) (by rw [hsz]; simpa using hi)
      rw [hg] at this
      simpa using this
theorem scan_good {s : Str} {pos : Nat} (h : pos < s.size) (hn : nameC (s[pos]'h) = true) : Utf8.decode s pos = ((s[pos]'h).toNat, 1) := by
  refine decode_ascii s pos h ?_
  simp only [nameC, lowB, Bool.or_eq_true, Bool.and_eq_true, decide_eq_true_eq] at hn
  omega
theorem scan_bad {s : Str} {pos : Nat} (h : pos < s.size) (hn : nameC (s[pos]'h) = false) : ((Utf8.decode s pos).1 < 48 ∧ (Utf8.decode s pos).1 ≠ 45) ∨ (57 < (Utf8.decode s pos).1 ∧ (Utf8.decode s pos).1 < 97) ∨ 122 < (Utf8.decode s pos).1 := by
  simp only [nameC, lowB, Bool.or_eq_false_iff, Bool.and_eq_false_iff, decide_eq_false_iff_not] at hn
  by_cases ha : (s[pos]'h).toNat < 128
  · rw [decode_ascii s pos h ha]
    simp only
    omega
  · have := (decode_high s pos h (by omega)).1
    omega
theorem evIdx_s0 {s : Str} (h : 0 < s.size) : evIdx cx 9 (.lit (.string s)) (.lit (.int .i64 0)) = some (.lit (.int .u8 ((s[0]'h).toNat : Int))) := by
  simp only [evIdx, tis, natK, dif_pos h]
theorem d_isName (s : Str) : CallSpec cx 169 [str s] (bl (nameB s)) := by
  refine callSpec_of_vc Tryz.func169 rfl (by decide) (by kernel_rfl) (Nat.le_of_ble_eq_true rfl) ?_
  have hno : ∀ (b : Bool), (b = true → nameB s = true) → (b = false → nameB s = false) → le1 (.lit (.bool b)) (bl (nameB s)) := fun b h1 h2 => bl_eq (by cases b; exact (h2 rfl).symm; exact (h1 rfl).symm)
  have hF : ¬ nameB s = true → nameB s = false := fun h => by simpa using h
  cases h0 : decide ((s.size : Int) = 0)
  case true =>
    have h0' := of_decide_eq_true h0
    simp -dsimp (disch := first | omega | decide +kernel) only [↓bp0, bd0, bd_LD, reduceIte, Nat.reduceEqDiff, evStore, Nat.reduceAdd, Nat.reduceMul, Int.reduceEq, Int.reduceLT, Int.reduceLE, Nat.reduceLeDiff, List.reduceReplicate, reduceCtorEq, evRange, retQ, resL, finL, newL, flat, tupOf, List.toList_toArray, Tryz.f169, h0]
    refine leT_one (hno false (by simp) fun _ => hF fun h => ?_) (by simp)
    obtain ⟨_, h1, _⟩ := nameB_iff.1 h; omega
  have hp : 0 < s.size := by have := of_decide_eq_false h0; omega
  cases h40 : decide (40 < (s.size : Int))
  case true =>
    have h1 := of_decide_eq_true h40
    simp -dsimp (disch := first | omega | decide +kernel) only [↓bp0, bd0, bd_LD, reduceIte, Nat.reduceEqDiff, evStore, Nat.reduceAdd, Nat.reduceMul, Int.reduceEq, Int.reduceLT, Int.reduceLE, Nat.reduceLeDiff, List.reduceReplicate, reduceCtorEq, evRange, retQ, resL, finL, newL, flat, tupOf, List.toList_toArray, Tryz.f169, h0, h40]
    refine leT_one (hno false (by simp) fun _ => hF fun h => ?_) (by simp)
    have := (nameB_iff.1 h).1; omega
  have hle : s.size ≤ 40 := by have := of_decide_eq_false h40; omega
  have hidx := evIdx_s0 hp
  cases ha : decide (((s[0]'hp).toNat : Int) < 97)
  case true =>
    have h1 := of_decide_eq_true ha
    simp -dsimp (disch := first | omega | decide +kernel) only [↓bp0, bd0, bd_LD, reduceIte, Nat.reduceEqDiff, evStore, Nat.reduceAdd, Nat.reduceMul, Int.reduceEq, Int.reduceLT, Int.reduceLE, Nat.reduceLeDiff, List.reduceReplicate, reduceCtorEq, evRange, retQ, resL, finL, newL, flat, tupOf, List.toList_toArray, Tryz.f169, h0, h40, hidx, ha]
    refine leT_one (hno false (by simp) fun _ => hF fun h => ?_) (by simp)
    obtain ⟨_, _, h2, _⟩ := nameB_iff.1 h
    simp only [lowB, Bool.and_eq_true, decide_eq_true_eq] at h2; omega
  cases hz : decide ((122 : Int) < ((s[0]'hp).toNat : Int))
  case true =>
    have h1 := of_decide_eq_true hz
    simp -dsimp (disch := first | omega | decide +kernel) only [↓bp0, bd0, bd_LD, reduceIte, Nat.reduceEqDiff, evStore, Nat.reduceAdd, Nat.reduceMul, Int.reduceEq, Int.reduceLT, Int.reduceLE, Nat.reduceLeDiff, List.reduceReplicate, reduceCtorEq, evRange, retQ, resL, finL, newL, flat, tupOf, List.toList_toArray, Tryz.f169, h0, h40, hidx, ha, hz]
    refine leT_one (hno false (by simp) fun _ => hF fun h => ?_) (by simp)
    obtain ⟨_, _, h2, _⟩ := nameB_iff.1 h
    simp only [lowB, Bool.and_eq_true, decide_eq_true_eq] at h2; omega
  have hlow : lowB (s[0]'hp) = true := by
    have h1 := of_decide_eq_false ha
    have h2 := of_decide_eq_false hz
    simp only [lowB, Bool.and_eq_true, decide_eq_true_eq]; omega
  try simp -dsimp (disch := first | omega | decide +kernel) only [↓bp0, bd0, bd_LD, reduceIte, Nat.reduceEqDiff, evStore, Nat.reduceAdd, Nat.reduceMul, Int.reduceEq, Int.reduceLT, Int.reduceLE, Nat.reduceLeDiff, List.reduceReplicate, reduceCtorEq, evRange, Tryz.f169, h0, h40, hidx, ha, hz]
  refine LoopQ.rule (fun m st => ∃ pos : Nat, pos ≤ s.size ∧ (∀ (i : Nat) (hi : i < s.size), i < pos → nameC (s[i]'hi) = true) ∧ m = s.size - pos ∧
    st = ⟨mkE [(24, .ptr 0 0 0 0)], mkS [(0, .it s pos)], 1⟩) _ _ (weak_of ?_) ⟨0, by omega, fun _ _ h => by omega, rfl, rfl⟩ ?_
  · first | (simp -dsimp (disch := first | omega | decide +kernel) only [↓bp0, bd0, bd_LD, reduceIte, Nat.reduceEqDiff, evStore, Nat.reduceAdd, Nat.reduceMul, Int.reduceEq, Int.reduceLT, Int.reduceLE, Nat.reduceLeDiff, List.reduceReplicate, reduceCtorEq, evRange]; done) | simp -dsimp [evl, putN, i64, u32, bl, encL, encB, encLL]
  rintro m st ⟨pos, hpl, hpre, rfl, rfl⟩
  by_cases hlt : pos < s.size
  rotate_left
  · simp -dsimp (disch := first | omega | decide +kernel) only [↓bp0, bd0, bd_LD, reduceIte, Nat.reduceEqDiff, evStore, Nat.reduceAdd, Nat.reduceMul, Int.reduceEq, Int.reduceLT, Int.reduceLE, Nat.reduceLeDiff, List.reduceReplicate, reduceCtorEq, evRange, retQ, resL, finL, newL, flat, tupOf, List.toList_toArray, hlt]
    refine leT_one (hno true (fun _ => nameB_iff.2 ⟨hle, hp, hlow, fun i hi => hpre i hi (by omega)⟩) (by simp)) (by simp)
  cases hn : nameC (s[pos]'hlt)
  · have hbad : nameB s = false := hF fun h => by
      obtain ⟨_, _, _, h2⟩ := nameB_iff.1 h
      rw [h2 pos hlt] at hn; cases hn
    rcases scan_bad hlt hn with ⟨h1, h2⟩ | ⟨h1, h2⟩ | h1
    · have e1 : decide (((Utf8.decode s pos).1 : Int) < 97) = true := decide_eq_true (by omega)
      have e2 : decide (((Utf8.decode s pos).1 : Int) < 48) = true := decide_eq_true (by omega)
      have e3 : decide (((Utf8.decode s pos).1 : Int) = 45) = false := decide_eq_false (by omega)
      simp -dsimp (disch := first | omega | decide +kernel) only [↓bp0, bd0, bd_LD, reduceIte, Nat.reduceEqDiff, evStore, Nat.reduceAdd, Nat.reduceMul, Int.reduceEq, Int.reduceLT, Int.reduceLE, Nat.reduceLeDiff, List.reduceReplicate, reduceCtorEq, evRange, retQ, resL, finL, newL, flat, tupOf, List.toList_toArray, hlt, e1, e2, e3]
      exact leT_one (hno false (by simp) fun _ => hbad) (by simp)
    · have e1 : decide (((Utf8.decode s pos).1 : Int) < 97) = true := decide_eq_true (by omega)
      have e2 : decide (((Utf8.decode s pos).1 : Int) < 48) = false := decide_eq_false (by omega)
      have e3 : decide ((57 : Int) < ((Utf8.decode s pos).1 : Int)) = true := decide_eq_true (by omega)
      have e4 : decide (((Utf8.decode s pos).1 : Int) = 45) = false := decide_eq_false (by omega)
      simp -dsimp (disch := first | omega | decide +kernel) only [↓bp0, bd0, bd_LD, reduceIte, Nat.reduceEqDiff, evStore, Nat.reduceAdd, Nat.reduceMul, Int.reduceEq, Int.reduceLT, Int.reduceLE, Nat.reduceLeDiff, List.reduceReplicate, reduceCtorEq, evRange, retQ, resL, finL, newL, flat, tupOf, List.toList_toArray, hlt, e1, e2, e3, e4]
      exact leT_one (hno false (by simp) fun _ => hbad) (by simp)
    · have e1 : decide (((Utf8.decode s pos).1 : Int) < 97) = false := decide_eq_false (by omega)
      have e5 : decide ((122 : Int) < ((Utf8.decode s pos).1 : Int)) = true := decide_eq_true (by omega)
      have e2 : decide (((Utf8.decode s pos).1 : Int) < 48) = false := decide_eq_false (by omega)
      have e3 : decide ((57 : Int) < ((Utf8.decode s pos).1 : Int)) = true := decide_eq_true (by omega)
      have e4 : decide (((Utf8.decode s pos).1 : Int) = 45) = false := decide_eq_false (by omega)
      simp -dsimp (disch := first | omega | decide +kernel) only [↓bp0, bd0, bd_LD, reduceIte, Nat.reduceEqDiff, evStore, Nat.reduceAdd, Nat.reduceMul, Int.reduceEq, Int.reduceLT, Int.reduceLE, Nat.reduceLeDiff, List.reduceReplicate, reduceCtorEq, evRange, retQ, resL, finL, newL, flat, tupOf, List.toList_toArray, hlt, e1, e2, e3, e4, e5]
      exact leT_one (hno false (by simp) fun _ => hbad) (by simp)
  have hd := scan_good hlt hn
  have hgo : ∀ (i : Nat) (hi : i < s.size), i < pos + 1 → nameC (s[i]'hi) = true := fun i hi h => by
    by_cases e : i = pos
    · subst e; exact hn
    · exact hpre i hi (by omega)
  have hn' := hn
  simp only [nameC, lowB, Bool.or_eq_true, Bool.and_eq_true, decide_eq_true_eq] at hn'
  rcases hn' with (⟨h1, h2⟩ | ⟨h1, h2⟩) | h1
  · have e1 : decide (((s[pos]'hlt).toNat : Int) < 97) = false := decide_eq_false (by omega)
    have e2 : decide ((122 : Int) < ((s[pos]'hlt).toNat : Int)) = false := decide_eq_false (by omega)
    try simp -dsimp (disch := first | omega | decide +kernel) only [↓bp0, bd0, bd_LD, reduceIte, Nat.reduceEqDiff, evStore, Nat.reduceAdd, Nat.reduceMul, Int.reduceEq, Int.reduceLT, Int.reduceLE, Nat.reduceLeDiff, List.reduceReplicate, reduceCtorEq, evRange, hlt, hd, e1, e2]
    refine ⟨_, _, ?_, weak_of ?_, pos + 1, hlt, hgo, rfl, rfl⟩
    · omega
    · first | (simp -dsimp (disch := first | omega | decide +kernel) only [↓bp0, bd0, bd_LD, reduceIte, Nat.reduceEqDiff, evStore, Nat.reduceAdd, Nat.reduceMul, Int.reduceEq, Int.reduceLT, Int.reduceLE, Nat.reduceLeDiff, List.reduceReplicate, reduceCtorEq, evRange]; done) | simp -dsimp [evl, putN, i64, u32, bl, encL, encB, encLL]
  · have e1 : decide (((s[pos]'hlt).toNat : Int) < 97) = true := decide_eq_true (by omega)
    have e2 : decide (((s[pos]'hlt).toNat : Int) < 48) = false := decide_eq_false (by omega)
    have e3 : decide ((57 : Int) < ((s[pos]'hlt).toNat : Int)) = false := decide_eq_false (by omega)
    try simp -dsimp (disch := first | omega | decide +kernel) only [↓bp0, bd0, bd_LD, reduceIte, Nat.reduceEqDiff, evStore, Nat.reduceAdd, Nat.reduceMul, Int.reduceEq, Int.reduceLT, Int.reduceLE, Nat.reduceLeDiff, List.reduceReplicate, reduceCtorEq, evRange, hlt, hd, e1, e2, e3]
    refine ⟨_, _, ?_, weak_of ?_, pos + 1, hlt, hgo, rfl, rfl⟩
    · omega
    · first | (simp -dsimp (disch := first | omega | decide +kernel) only [↓bp0, bd0, bd_LD, reduceIte, Nat.reduceEqDiff, evStore, Nat.reduceAdd, Nat.reduceMul, Int.reduceEq, Int.reduceLT, Int.reduceLE, Nat.reduceLeDiff, List.reduceReplicate, reduceCtorEq, evRange]; done) | simp -dsimp [evl, putN, i64, u32, bl, encL, encB, encLL]
  · have e1 : decide (((s[pos]'hlt).toNat : Int) < 97) = true := decide_eq_true (by omega)
    have e2 : decide (((s[pos]'hlt).toNat : Int) < 48) = true := decide_eq_true (by omega)
    have e3 : decide (((s[pos]'hlt).toNat : Int) = 45) = true := decide_eq_true (by omega)
    try simp -dsimp (disch := first | omega | decide +kernel) only [↓bp0, bd0, bd_LD, reduceIte, Nat.reduceEqDiff, evStore, Nat.reduceAdd, Nat.reduceMul, Int.reduceEq, Int.reduceLT, Int.reduceLE, Nat.reduceLeDiff, List.reduceReplicate, reduceCtorEq, evRange, hlt, hd, e1, e2, e3]
    refine ⟨_, _, ?_, weak_of ?_, pos + 1, hlt, hgo, rfl, rfl⟩
    · omega
    · first | (simp -dsimp (disch := first | omega | decide +kernel) only [↓bp0, bd0, bd_LD, reduceIte, Nat.reduceEqDiff, evStore, Nat.reduceAdd, Nat.reduceMul, Int.reduceEq, Int.reduceLT, Int.reduceLE, Nat.reduceLeDiff, List.reduceReplicate, reduceCtorEq, evRange]; done) | simp -dsimp [evl, putN, i64, u32, bl, encL, encB, encLL]
end Go.Ab
end

section
/- Places in tables; the error of a table. -/
set_option maxRecDepth 100000
set_option maxHeartbeats 8000000
namespace Go.Ab
open Go Go.Proofs
theorem bd_LE : type_of% (And.intro @evNext.eq_1 (And.intro @fld (And.intro @nit (And.intro @evBin_seql (And.intro @evBin_sneq (And.intro @str.eq_1 (@u8.eq_1))))))) := And.intro @evNext.eq_1 (And.intro @fld (And.intro @nit (And.intro @evBin_seql (And.intro @evBin_sneq (And.intro @str.eq_1 (@u8.eq_1))))))
def agBr (b : Br) : PV := .agg (cBr b)
theorem tk3 : ∀ {α : Type} {a b c : α}, List.take 3 [a, b, c] = [a, b, c] := rfl
theorem d_index1 (b : Br) (n : Str) : CallSpec cx 167 [agBr b, .cptr [str n]] (bl (decide (b.name = n))) := by
  refine callSpec_of_vc Tryz.func167 rfl (by decide) (by kernel_rfl) (Nat.le_of_ble_eq_true rfl) ?_
  simp -dsimp (disch := first | omega | decide +kernel) only [↓bp0, bd0, bd_LE, reduceIte, Nat.reduceEqDiff, evStore, Nat.reduceAdd, Nat.reduceMul, Int.reduceEq, Int.reduceLT, Int.reduceLE, Nat.reduceLeDiff, List.reduceReplicate, reduceCtorEq, evRange, retQ, resL, finL, newL, flat, tupOf, List.toList_toArray, Tryz.f167, agBr, cBr, List.set_cons_succ, List.getElem?_cons_zero, List.getElem?_cons_succ, Nat.reduceLT, List.length_set]
  exact leT_one .rfl' (by simp)
theorem lb_index (l : List (Br)) (hl : l.length ≤ 9223372036854775807) (f : Nat) (cap : List PV) (hn : nofrs cap = true) (P : Br → Bool) (h : ∀ k ∈ l, CallSpec cx f ([agBr k] ++ cap) (bl (P k))) :
    CallSpec cx 76 [encBrs l, .clo (.func f) [] cap] (i64 (fi P l)) := by
  refine callSpec_of_vc Tryz.func76 rfl (by decide) (by kernel_rfl) (Nat.le_of_ble_eq_true rfl) ?_
  try simp -dsimp (disch := first | omega | decide +kernel) only [↓bp0, bd0, bd_LE, reduceIte, Nat.reduceEqDiff, evStore, Nat.reduceAdd, Nat.reduceMul, Int.reduceEq, Int.reduceLT, Int.reduceLE, Nat.reduceLeDiff, List.reduceReplicate, reduceCtorEq, evRange, Tryz.f76, encBrs, cBr, agBr, tk3]
  refine LoopQ.rule (fun m st => ∃ i : Nat, i ≤ l.length ∧ (∀ j, j < i → ∀ x, l[j]? = some x → P x = false) ∧ m = l.length - i ∧
    st = ⟨mkE [(0, encBrs l), (1, .clo (.func f) [] cap), (7, i64 l.length), (8, i64 i)], mkS [], 0⟩) _ _ (weak_of ?_) ⟨0, by omega, by simp, rfl, rfl⟩ ?_
  · first | (simp -dsimp (disch := first | omega | decide +kernel) only [↓bp0, bd0, bd_LE, reduceIte, Nat.reduceEqDiff, evStore, Nat.reduceAdd, Nat.reduceMul, Int.reduceEq, Int.reduceLT, Int.reduceLE, Nat.reduceLeDiff, List.reduceReplicate, reduceCtorEq, evRange, encBrs, cBr, agBr, tk3]; done) | simp -dsimp [evl, putN, i64, u32, bl, encL, encB, encLL, encBrs, cBr, agBr, tk3]
  rintro m st ⟨i, hi, hpre, rfl, rfl⟩
  try simp -dsimp (disch := first | omega | decide +kernel) only [↓bp0, bd0, bd_LE, reduceIte, Nat.reduceEqDiff, evStore, Nat.reduceAdd, Nat.reduceMul, Int.reduceEq, Int.reduceLT, Int.reduceLE, Nat.reduceLeDiff, List.reduceReplicate, reduceCtorEq, evRange, encBrs, cBr, agBr, tk3]
  refine onC_nlt (fun h2 => ?_) (fun h2 => ?_)
  · obtain ⟨x, hx, hxm⟩ := get_of_lt h2
    try simp -dsimp (disch := first | omega | decide +kernel) only [↓bp0, bd0, bd_LE, reduceIte, Nat.reduceEqDiff, evStore, Nat.reduceAdd, Nat.reduceMul, Int.reduceEq, Int.reduceLT, Int.reduceLE, Nat.reduceLeDiff, List.reduceReplicate, reduceCtorEq, evRange, hx, encBrs, cBr, agBr, tk3]
    refine CallQ.imm (h x hxm) (by rfl) (drcs_nofr _ _ (by simp [nofrs, nofr, i64, encL, hn, encBrs, cBr, agBr, tk3])) (.inr rfl) ?_
    try simp -dsimp (disch := first | omega | decide +kernel) only [↓bp0, bd0, bd_LE, reduceIte, Nat.reduceEqDiff, evStore, Nat.reduceAdd, Nat.reduceMul, Int.reduceEq, Int.reduceLT, Int.reduceLE, Nat.reduceLeDiff, List.reduceReplicate, reduceCtorEq, evRange]
    refine onC_bool (fun h3 => ?_) (fun h3 => ?_)
    · simp -dsimp (disch := first | omega | decide +kernel) only [↓bp0, bd0, bd_LE, reduceIte, Nat.reduceEqDiff, evStore, Nat.reduceAdd, Nat.reduceMul, Int.reduceEq, Int.reduceLT, Int.reduceLE, Nat.reduceLeDiff, List.reduceReplicate, reduceCtorEq, evRange, retQ, resL, finL, newL, flat, tupOf, List.toList_toArray, Tryz.f76]
      rw [fi_at _ _ _ _ hx hpre h3]
      exact leT_one .rfl' (by simp)
    try simp -dsimp (disch := first | omega | decide +kernel) only [↓bp0, bd0, bd_LE, reduceIte, Nat.reduceEqDiff, evStore, Nat.reduceAdd, Nat.reduceMul, Int.reduceEq, Int.reduceLT, Int.reduceLE, Nat.reduceLeDiff, List.reduceReplicate, reduceCtorEq, evRange]
    refine ⟨_, _, ?_, weak_of ?_, i + 1, h2, ?_, rfl, rfl⟩
    · omega
    · first | (simp -dsimp (disch := first | omega | decide +kernel) only [↓bp0, bd0, bd_LE, reduceIte, Nat.reduceEqDiff, evStore, Nat.reduceAdd, Nat.reduceMul, Int.reduceEq, Int.reduceLT, Int.reduceLE, Nat.reduceLeDiff, List.reduceReplicate, reduceCtorEq, evRange, wrapS h2 hl, encBrs, cBr, agBr, tk3]; done) | simp -dsimp [evl, putN, i64, u32, bl, encL, encB, encLL, wrapS h2 hl, encBrs, cBr, agBr, tk3]
    · intro j hj y hy
      by_cases hji : j = i
      · subst hji; rw [hx] at hy; cases hy; exact h3
      · exact hpre j (by omega) y hy
  · simp -dsimp (disch := first | omega | decide +kernel) only [↓bp0, bd0, bd_LE, reduceIte, Nat.reduceEqDiff, evStore, Nat.reduceAdd, Nat.reduceMul, Int.reduceEq, Int.reduceLT, Int.reduceLE, Nat.reduceLeDiff, List.reduceReplicate, reduceCtorEq, evRange, retQ, resL, finL, newL, flat, tupOf, List.toList_toArray, Tryz.f76]
    rw [fi_none _ _ fun j y hy => hpre j (by have := (List.getElem?_eq_some_iff.1 hy).1; omega) y hy]
    exact leT_one .rfl' (by simp)
theorem d_index (l : List Br) (n : Str) (hl : l.length ≤ 9223372036854775807) : CallSpec cx 139 [encBrs l, str n] (i64 (idx l n)) := by
  refine callSpec_of_vc Tryz.func139 rfl (by decide) (by kernel_rfl) (Nat.le_of_ble_eq_true rfl) ?_
  try simp -dsimp (disch := first | omega | decide +kernel) only [↓bp0, bd0, bd_LE, reduceIte, Nat.reduceEqDiff, evStore, Nat.reduceAdd, Nat.reduceMul, Int.reduceEq, Int.reduceLT, Int.reduceLE, Nat.reduceLeDiff, List.reduceReplicate, reduceCtorEq, evRange, Tryz.f139]
  refine CallQ.imm (lb_index l hl 167 [.cptr [str n]] rfl _ fun b _ => d_index1 b n) (by rfl) (by rfl) (by first | exact .inl rfl | exact .inr rfl | exact .inr scalB | exact .inr scalI | exact .inr scalT) ?_
  simp -dsimp (disch := first | omega | decide +kernel) only [↓bp0, bd0, bd_LE, reduceIte, Nat.reduceEqDiff, evStore, Nat.reduceAdd, Nat.reduceMul, Int.reduceEq, Int.reduceLT, Int.reduceLE, Nat.reduceLeDiff, List.reduceReplicate, reduceCtorEq, evRange, retQ, resL, finL, newL, flat, tupOf, List.toList_toArray, Tryz.f139]
  exact leT_one .rfl' (by simp)
end Go.Ab
end
