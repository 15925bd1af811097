/- Names; places in tables; the error of a table. -/
import Derived.Test.YtgcodedanljhpaaGreatDoorLA
import Derived.Test.YtgcodedanljhpaaGreatDoorLC
set_option linter.unusedSimpArgs false
set_option linter.unusedVariables false
section
set_option maxRecDepth 100000
set_option maxHeartbeats 8000000
namespace Go.Ab
open Go Go.Proofs
theorem bd_LD : type_of% (And.intro @evNext.eq_1 (And.intro @fld (And.intro @nit (And.intro @evBin_seql (And.intro @evBin_sneq (And.intro @str.eq_1 (@u8.eq_1))))))) := And.intro @evNext.eq_1 (And.intro @fld (And.intro @nit (And.intro @evBin_seql (And.intro @evBin_sneq (And.intro @str.eq_1 (@u8.eq_1))))))
theorem nameB_iff {s : Str} : nameB s = true ↔ s.size ≤ 40 ∧ ∃ h : 0 < s.size, lowB (s[0]'h) = true ∧ ∀ (i : Nat) (hi : i < s.size), nameC (s[i]'hi) = true := by
  obtain ⟨⟨l⟩⟩ := s
  have hsz : (ByteArray.mk ⟨l⟩).size = l.length := rfl
  have hg : ∀ (i : Nat) (h : i < (ByteArray.mk ⟨l⟩).size), (ByteArray.mk ⟨l⟩)[i]'h = l[i]'h := fun _ _ => rfl
  unfold nameB
  cases l with
  | nil => simp [hsz]
  | cons c r =>
    simp only [Bool.and_eq_true, decide_eq_true_eq]
    refine and_congr_right fun _ => ?_
    constructor
    · rintro ⟨h1, h2⟩
      refine ⟨by rw [hsz]; simp, by rw [hg]; exact h1, fun i hi => ?_⟩
      rw [hg]
      cases i with
      | zero => simp only [nameC, List.getElem_cons_zero, h1, Bool.true_or]
      | succ i => exact List.all_eq_true.1 h2 _ (by simp)
    · rintro ⟨h0, h1, h2⟩
      refine ⟨by rw [hg] at h1; exact h1, List.all_eq_true.2 fun x hx => ?_⟩
      obtain ⟨i, hi, rfl⟩ := List.getElem_of_mem hx
      have := h2 (i + 1) (by rw [hsz]; simpa using hi)
      rw [hg] at this
      simpa using this
theorem scan_good {s : Str} {pos : Nat} (h : pos < s.size) (hn : nameC (s[pos]'h) = true) : Utf8.decode s pos = ((s[pos]'h).toNat, 1) := by
  refine decode_ascii s pos h ?_
  simp only [nameC, lowB, Bool.or_eq_true, Bool.and_eq_true, decide_eq_true_eq] at hn
  omega
theorem scan_bad {s : Str} {pos : Nat} (h : pos < s.size) (hn : nameC (s[pos]'h) = false) : ((Utf8.decode s pos).1 < 48 ∧ (Utf8.decode s pos).1 ≠ 45) ∨ (57 < (Utf8.decode s pos).1 ∧ (Utf8.decode s pos).1 < 97) ∨ 122 < (Utf8.decode s pos).1 := by
  simp only [nameC, lowB, Bool.or_eq_false_iff, Bool.and_eq_false_iff, decide_eq_false_iff_not] at hn
  by_cases ha : (s[pos]'h).toNat < 128
  · rw [decode_ascii s pos h ha]
    simp only
    omega
  · have := (decode_high s pos h (by omega)).1
    omega
theorem evIdx_s0 {s : Str} (h : 0 < s.size) : evIdx cx 9 (.lit (.string s)) (.lit (.int .i64 0)) = some (.lit (.int .u8 ((s[0]'h).toNat : Int))) := by
  simp only [evIdx, tis, natK, dif_pos h]
theorem d_isName (s : Str) : CallSpec cx 169 [str s] (bl (nameB s)) := by
  refine callSpec_of_vc Tryz.func169 rfl (by decide) (by kernel_rfl) (Nat.le_of_ble_eq_true rfl) ?_
  have hno : ∀ (b : Bool), (b = true → nameB s = true) → (b = false → nameB s = false) → le1 (.lit (.bool b)) (bl (nameB s)) := fun b h1 h2 => bl_eq (by cases b; exact (h2 rfl).symm; exact (h1 rfl).symm)
  have hF : ¬ nameB s = true → nameB s = false := fun h => by simpa using h
  cases h0 : decide ((s.size : Int) = 0)
  case true =>
    have h0' := of_decide_eq_true h0
    simp -dsimp (disch := omega) only [↓bp0, bd0, bd_LD, evStore, evRange, retQ, resL, finL, newL, flat, tupOf, List.toList_toArray, Tryz.f169, h0, simprocAttr]
    refine leT_one (hno false (by simp) fun _ => hF fun h => ?_) (by simp)
    obtain ⟨_, h1, _⟩ := nameB_iff.1 h; omega
  have hp : 0 < s.size := by have := of_decide_eq_false h0; omega
  cases h40 : decide (40 < (s.size : Int))
  case true =>
    have h1 := of_decide_eq_true h40
    simp -dsimp (disch := omega) only [↓bp0, bd0, bd_LD, evStore, evRange, retQ, resL, finL, newL, flat, tupOf, List.toList_toArray, Tryz.f169, h0, h40, simprocAttr]
    refine leT_one (hno false (by simp) fun _ => hF fun h => ?_) (by simp)
    have := (nameB_iff.1 h).1; omega
  have hle : s.size ≤ 40 := by have := of_decide_eq_false h40; omega
  have hidx := evIdx_s0 hp
  cases ha : decide (((s[0]'hp).toNat : Int) < 97)
  case true =>
    have h1 := of_decide_eq_true ha
    simp -dsimp (disch := omega) only [↓bp0, bd0, bd_LD, evStore, evRange, retQ, resL, finL, newL, flat, tupOf, List.toList_toArray, Tryz.f169, h0, h40, hidx, ha, simprocAttr]
    refine leT_one (hno false (by simp) fun _ => hF fun h => ?_) (by simp)
    obtain ⟨_, _, h2, _⟩ := nameB_iff.1 h
    simp only [lowB, Bool.and_eq_true, decide_eq_true_eq] at h2; omega
  cases hz : decide ((122 : Int) < ((s[0]'hp).toNat : Int))
  case true =>
    have h1 := of_decide_eq_true hz
    simp -dsimp (disch := omega) only [↓bp0, bd0, bd_LD, evStore, evRange, retQ, resL, finL, newL, flat, tupOf, List.toList_toArray, Tryz.f169, h0, h40, hidx, ha, hz, simprocAttr]
    refine leT_one (hno false (by simp) fun _ => hF fun h => ?_) (by simp)
    obtain ⟨_, _, h2, _⟩ := nameB_iff.1 h
    simp only [lowB, Bool.and_eq_true, decide_eq_true_eq] at h2; omega
  have hlow : lowB (s[0]'hp) = true := by
    have h1 := of_decide_eq_false ha
    have h2 := of_decide_eq_false hz
    simp only [lowB, Bool.and_eq_true, decide_eq_true_eq]; omega
  try simp -dsimp (disch := omega) only [↓bp0, bd0, bd_LD, evStore, evRange, Tryz.f169, h0, h40, hidx, ha, hz, simprocAttr]
  refine LoopQ.rule (fun m st => ∃ pos : Nat, pos ≤ s.size ∧ (∀ (i : Nat) (hi : i < s.size), i < pos → nameC (s[i]'hi) = true) ∧ m = s.size - pos ∧
    st = ⟨mkE [(24, .ptr 0 0 0 0)], mkS [(0, .it s pos)], 1⟩) _ _ (weak_of ?_) ⟨0, by omega, fun _ _ h => by omega, rfl, rfl⟩ ?_
  · first | (simp -dsimp (disch := omega) only [↓bp0, bd0, bd_LD, evStore, evRange, simprocAttr]; done) | simp -dsimp [evl, putN, i64, u32, bl, encL, encB, encLL]
  rintro m st ⟨pos, hpl, hpre, rfl, rfl⟩
  by_cases hlt : pos < s.size
  rotate_left
  · simp -dsimp (disch := omega) only [↓bp0, bd0, bd_LD, evStore, evRange, retQ, resL, finL, newL, flat, tupOf, List.toList_toArray, hlt, simprocAttr]
    refine leT_one (hno true (fun _ => nameB_iff.2 ⟨hle, hp, hlow, fun i hi => hpre i hi (by omega)⟩) (by simp)) (by simp)
  cases hn : nameC (s[pos]'hlt)
  · have hbad : nameB s = false := hF fun h => by
      obtain ⟨_, _, _, h2⟩ := nameB_iff.1 h
      rw [h2 pos hlt] at hn; cases hn
    rcases scan_bad hlt hn with ⟨h1, h2⟩ | ⟨h1, h2⟩ | h1
    · have e1 : decide (((Utf8.decode s pos).1 : Int) < 97) = true := decide_eq_true (by omega)
      have e2 : decide (((Utf8.decode s pos).1 : Int) < 48) = true := decide_eq_true (by omega)
      have e3 : decide (((Utf8.decode s pos).1 : Int) = 45) = false := decide_eq_false (by omega)
      simp -dsimp (disch := omega) only [↓bp0, bd0, bd_LD, evStore, evRange, retQ, resL, finL, newL, flat, tupOf, List.toList_toArray, hlt, e1, e2, e3, simprocAttr]
      exact leT_one (hno false (by simp) fun _ => hbad) (by simp)
    · have e1 : decide (((Utf8.decode s pos).1 : Int) < 97) = true := decide_eq_true (by omega)
      have e2 : decide (((Utf8.decode s pos).1 : Int) < 48) = false := decide_eq_false (by omega)
      have e3 : decide ((57 : Int) < ((Utf8.decode s pos).1 : Int)) = true := decide_eq_true (by omega)
      have e4 : decide (((Utf8.decode s pos).1 : Int) = 45) = false := decide_eq_false (by omega)
      simp -dsimp (disch := omega) only [↓bp0, bd0, bd_LD, evStore, evRange, retQ, resL, finL, newL, flat, tupOf, List.toList_toArray, hlt, e1, e2, e3, e4, simprocAttr]
      exact leT_one (hno false (by simp) fun _ => hbad) (by simp)
    · have e1 : decide (((Utf8.decode s pos).1 : Int) < 97) = false := decide_eq_false (by omega)
      have e5 : decide ((122 : Int) < ((Utf8.decode s pos).1 : Int)) = true := decide_eq_true (by omega)
      have e2 : decide (((Utf8.decode s pos).1 : Int) < 48) = false := decide_eq_false (by omega)
      have e3 : decide ((57 : Int) < ((Utf8.decode s pos).1 : Int)) = true := decide_eq_true (by omega)
      have e4 : decide (((Utf8.decode s pos).1 : Int) = 45) = false := decide_eq_false (by omega)
      simp -dsimp (disch := omega) only [↓bp0, bd0, bd_LD, evStore, evRange, retQ, resL, finL, newL, flat, tupOf, List.toList_toArray, hlt, e1, e2, e3, e4, e5, simprocAttr]
      exact leT_one (hno false (by simp) fun _ => hbad) (by simp)
  have hd := scan_good hlt hn
  have hgo : ∀ (i : Nat) (hi : i < s.size), i < pos + 1 → nameC (s[i]'hi) = true := fun i hi h => by
    by_cases e : i = pos
    · subst e; exact hn
    · exact hpre i hi (by omega)
  have hn' := hn
  simp only [nameC, lowB, Bool.or_eq_true, Bool.and_eq_true, decide_eq_true_eq] at hn'
  rcases hn' with (⟨h1, h2⟩ | ⟨h1, h2⟩) | h1
  · have e1 : decide (((s[pos]'hlt).toNat : Int) < 97) = false := decide_eq_false (by omega)
    have e2 : decide ((122 : Int) < ((s[pos]'hlt).toNat : Int)) = false := decide_eq_false (by omega)
    try simp -dsimp (disch := omega) only [↓bp0, bd0, bd_LD, evStore, evRange, hlt, hd, e1, e2, simprocAttr]
    refine ⟨_, _, ?_, weak_of ?_, pos + 1, hlt, hgo, rfl, rfl⟩
    · omega
    · first | (simp -dsimp (disch := omega) only [↓bp0, bd0, bd_LD, evStore, evRange, simprocAttr]; done) | simp -dsimp [evl, putN, i64, u32, bl, encL, encB, encLL]
  · have e1 : decide (((s[pos]'hlt).toNat : Int) < 97) = true := decide_eq_true (by omega)
    have e2 : decide (((s[pos]'hlt).toNat : Int) < 48) = false := decide_eq_false (by omega)
    have e3 : decide ((57 : Int) < ((s[pos]'hlt).toNat : Int)) = false := decide_eq_false (by omega)
    try simp -dsimp (disch := omega) only [↓bp0, bd0, bd_LD, evStore, evRange, hlt, hd, e1, e2, e3, simprocAttr]
    refine ⟨_, _, ?_, weak_of ?_, pos + 1, hlt, hgo, rfl, rfl⟩
    · omega
    · first | (simp -dsimp (disch := omega) only [↓bp0, bd0, bd_LD, evStore, evRange, simprocAttr]; done) | simp -dsimp [evl, putN, i64, u32, bl, encL, encB, encLL]
  · have e1 : decide (((s[pos]'hlt).toNat : Int) < 97) = true := decide_eq_true (by omega)
    have e2 : decide (((s[pos]'hlt).toNat : Int) < 48) = true := decide_eq_true (by omega)
    have e3 : decide (((s[pos]'hlt).toNat : Int) = 45) = true := decide_eq_true (by omega)
    try simp -dsimp (disch := omega) only [↓bp0, bd0, bd_LD, evStore, evRange, hlt, hd, e1, e2, e3, simprocAttr]
    refine ⟨_, _, ?_, weak_of ?_, pos + 1, hlt, hgo, rfl, rfl⟩
    · omega
    · first | (simp -dsimp (disch := omega) only [↓bp0, bd0, bd_LD, evStore, evRange, simprocAttr]; done) | simp -dsimp [evl, putN, i64, u32, bl, encL, encB, encLL]
end Go.Ab
end

section
/- Places in tables; the error of a table. -/
set_option maxRecDepth 100000
set_option maxHeartbeats 8000000
namespace Go.Ab
open Go Go.Proofs
theorem bd_LE : type_of% (And.intro @evNext.eq_1 (And.intro @fld (And.intro @nit (And.intro @evBin_seql (And.intro @evBin_sneq (And.intro @str.eq_1 (@u8.eq_1))))))) := And.intro @evNext.eq_1 (And.intro @fld (And.intro @nit (And.intro @evBin_seql (And.intro @evBin_sneq (And.intro @str.eq_1 (@u8.eq_1))))))
def agBr (b : Br) : PV := .agg (cBr b)
theorem tk3 : ∀ {α : Type} {a b c : α}, List.take 3 [a, b, c] = [a, b, c] := rfl
theorem d_index1 (b : Br) (n : Str) : CallSpec cx 167 [agBr b, .cptr [str n]] (bl (decide (b.name = n))) := by
  refine callSpec_of_vc Tryz.func167 rfl (by decide) (by kernel_rfl) (Nat.le_of_ble_eq_true rfl) ?_
  simp -dsimp (disch := omega) only [↓bp0, bd0, bd_LE, evStore, evRange, retQ, resL, finL, newL, flat, tupOf, List.toList_toArray, Tryz.f167, agBr, cBr, List.set_cons_succ, List.getElem?_cons_zero, List.getElem?_cons_succ, List.length_set, simprocAttr]
  exact leT_one .rfl' (by simp)
theorem lb_index (l : List (Br)) (hl : l.length ≤ 9223372036854775807) (f : Nat) (cap : List PV) (hn : nofrs cap = true) (P : Br → Bool) (h : ∀ k ∈ l, CallSpec cx f ([agBr k] ++ cap) (bl (P k))) :
    CallSpec cx 76 [encBrs l, .clo (.func f) [] cap] (i64 (fi P l)) := by
  refine callSpec_of_vc Tryz.func76 rfl (by decide) (by kernel_rfl) (Nat.le_of_ble_eq_true rfl) ?_
  try simp -dsimp (disch := omega) only [↓bp0, bd0, bd_LE, evStore, evRange, Tryz.f76, encBrs, cBr, agBr, tk3, simprocAttr]
  refine LoopQ.rule (fun m st => ∃ i : Nat, i ≤ l.length ∧ (∀ j, j < i → ∀ x, l[j]? = some x → P x = false) ∧ m = l.length - i ∧
    st = ⟨mkE [(0, encBrs l), (1, .clo (.func f) [] cap), (7, i64 l.length), (8, i64 i)], mkS [], 0⟩) _ _ (weak_of ?_) ⟨0, by omega, by simp, rfl, rfl⟩ ?_
  · first | (simp -dsimp (disch := omega) only [↓bp0, bd0, bd_LE, evStore, evRange, encBrs, cBr, agBr, tk3, simprocAttr]; done) | simp -dsimp [evl, putN, i64, u32, bl, encL, encB, encLL, encBrs, cBr, agBr, tk3]
  rintro m st ⟨i, hi, hpre, rfl, rfl⟩
  try simp -dsimp (disch := omega) only [↓bp0, bd0, bd_LE, evStore, evRange, encBrs, cBr, agBr, tk3, simprocAttr]
  refine onC_nlt (fun h2 => ?_) (fun h2 => ?_)
  · obtain ⟨x, hx, hxm⟩ := get_of_lt h2
    try simp -dsimp (disch := omega) only [↓bp0, bd0, bd_LE, evStore, evRange, hx, encBrs, cBr, agBr, tk3, simprocAttr]
    refine CallQ.imm (h x hxm) (by rfl) (drcs_nofr _ _ (by simp [nofrs, nofr, i64, encL, hn, encBrs, cBr, agBr, tk3])) (.inr rfl) ?_
    try simp -dsimp (disch := omega) only [↓bp0, bd0, bd_LE, evStore, evRange, simprocAttr]
    refine onC_bool (fun h3 => ?_) (fun h3 => ?_)
    · simp -dsimp (disch := omega) only [↓bp0, bd0, bd_LE, evStore, evRange, retQ, resL, finL, newL, flat, tupOf, List.toList_toArray, Tryz.f76, simprocAttr]
      rw [fi_at _ _ _ _ hx hpre h3]
      exact leT_one .rfl' (by simp)
    try simp -dsimp (disch := omega) only [↓bp0, bd0, bd_LE, evStore, evRange, simprocAttr]
    refine ⟨_, _, ?_, weak_of ?_, i + 1, h2, ?_, rfl, rfl⟩
    · omega
    · first | (simp -dsimp (disch := omega) only [↓bp0, bd0, bd_LE, evStore, evRange, wrapS h2 hl, encBrs, cBr, agBr, tk3, simprocAttr]; done) | simp -dsimp [evl, putN, i64, u32, bl, encL, encB, encLL, wrapS h2 hl, encBrs, cBr, agBr, tk3]
    · intro j hj y hy
      by_cases hji : j = i
      · subst hji; rw [hx] at hy; cases hy; exact h3
      · exact hpre j (by omega) y hy
  · simp -dsimp (disch := omega) only [↓bp0, bd0, bd_LE, evStore, evRange, retQ, resL, finL, newL, flat, tupOf, List.toList_toArray, Tryz.f76, simprocAttr]
    rw [fi_none _ _ fun j y hy => hpre j (by have := (List.getElem?_eq_some_iff.1 hy).1; omega) y hy]
    exact leT_one .rfl' (by simp)
theorem d_index (l : List Br) (n : Str) (hl : l.length ≤ 9223372036854775807) : CallSpec cx 139 [encBrs l, str n] (i64 (idx l n)) := by
  refine callSpec_of_vc Tryz.func139 rfl (by decide) (by kernel_rfl) (Nat.le_of_ble_eq_true rfl) ?_
  try simp -dsimp (disch := omega) only [↓bp0, bd0, bd_LE, evStore, evRange, Tryz.f139, simprocAttr]
  refine CallQ.imm (lb_index l hl 167 [.cptr [str n]] rfl _ fun b _ => d_index1 b n) (by rfl) (by rfl) (by first | exact .inl rfl | exact .inr rfl | exact .inr scalB | exact .inr scalI | exact .inr scalT) ?_
  simp -dsimp (disch := omega) only [↓bp0, bd0, bd_LE, evStore, evRange, retQ, resL, finL, newL, flat, tupOf, List.toList_toArray, Tryz.f139, simprocAttr]
  exact leT_one .rfl' (by simp)
end Go.Ab
end

section
/- The error of a table. -/
set_option maxRecDepth 100000
set_option maxHeartbeats 8000000
namespace Go.Ab
open Go Go.Proofs
theorem bd_LF : type_of% (And.intro @evNext.eq_1 (And.intro @fld (And.intro @nit (And.intro @nxE (And.intro @evBin_seql (And.intro @evBin_sneq (And.intro @str.eq_1 (And.intro @u8.eq_1 (And.intro @encBrs.eq_1 (And.intro @cBr.eq_1 (And.intro @List.set_cons_succ.{0} (And.intro @List.getElem?_cons_zero.{0} (And.intro @List.getElem?_cons_succ.{0} (@List.length_set.{0})))))))))))))) := And.intro @evNext.eq_1 (And.intro @fld (And.intro @nit (And.intro @nxE (And.intro @evBin_seql (And.intro @evBin_sneq (And.intro @str.eq_1 (And.intro @u8.eq_1 (And.intro @encBrs.eq_1 (And.intro @cBr.eq_1 (And.intro @List.set_cons_succ.{0} (And.intro @List.getElem?_cons_zero.{0} (And.intro @List.getElem?_cons_succ.{0} (@List.length_set.{0})))))))))))))
theorem allBr {l : List Br} : ((l.map cBr).all fun e => e.length == 3) = true := by
  rw [List.all_eq_true]; intro e he; obtain ⟨b, _, rfl⟩ := List.mem_map.1 he; rfl
theorem encTake {l : List Br} {i : Nat} : List.drop 0 (List.take i (l.map cBr)) = (l.take i).map cBr := by rw [List.drop_zero, List.map_take]
theorem onC_ilt {a b : Int} {t e : Prop} (h1 : a < b → t) (h2 : b ≤ a → e) : onC (some (.lit (.bool (decide (a < b))))) t e :=
  onC_dec h1 fun h => h2 (by omega)
theorem d_Check (l : List Br) (hl : l.length ≤ 9223372036854775807) : CallSpec cx 144 [encBrs l] (i64 (bchk l)) := by
  refine callSpec_of_vc Tryz.func144 rfl (by decide) (by kernel_rfl) (Nat.le_of_ble_eq_true rfl) ?_
  cases h8 : decide ((8 : Int) < l.length)
  case true =>
    simp -dsimp (maxSteps := 9^9) (disch := first | omega | decide +kernel) only [↓bp0, bd0, bd_LF, reduceIte, Nat.reduceEqDiff, evStore, Nat.reduceAdd, Nat.reduceMul, Int.reduceEq, Int.reduceLT, Int.reduceLE, Nat.reduceLeDiff, List.reduceReplicate, reduceCtorEq, evRange, Nat.reduceLT, retQ, resL, finL, newL, flat, tupOf, List.toList_toArray, Tryz.f144, h8]
    refine leT_one (int_eq ?_) (by simp)
    have := of_decide_eq_true h8
    rw [bchk.eq_def, if_pos (by omega)]
  have h8' := of_decide_eq_false h8
  have e1 : bchk l = if dupB l then 14 else match l[0]? with
      | none => 8
      | some b => if b.frm ≠ ⟨#[]⟩ ∨ b.pos ≠ 0 then 8 else if anyI (brB l) l then 8 else 0 := by
    rw [bchk.eq_def, if_neg (by omega)]
    rfl
  try simp -dsimp (maxSteps := 9^9) (disch := first | omega | decide +kernel) only [↓bp0, bd0, bd_LF, reduceIte, Nat.reduceEqDiff, evStore, Nat.reduceAdd, Nat.reduceMul, Int.reduceEq, Int.reduceLT, Int.reduceLE, Nat.reduceLeDiff, List.reduceReplicate, reduceCtorEq, evRange, Nat.reduceLT, Tryz.f144, h8]
  refine LoopQ.rule (fun m st => ∃ i nx : Nat, i ≤ l.length ∧ (∀ (j : Nat) b, j < i → l[j]? = some b → ¬ idx l b.name < j) ∧ m = l.length - i ∧
    st = ⟨mkE [(0, encBrs l), (10, encBrs l), (11, i64 l.length), (12, i64 i)], mkS [], nx⟩) _ _ (weak_of ?_) ⟨0, 0, by omega, fun _ _ h => by omega, rfl, rfl⟩ ?_
  · first | (simp -dsimp (maxSteps := 9^9) (disch := first | omega | decide +kernel) only [↓bp0, bd0, bd_LF, reduceIte, Nat.reduceEqDiff, evStore, Nat.reduceAdd, Nat.reduceMul, Int.reduceEq, Int.reduceLT, Int.reduceLE, Nat.reduceLeDiff, List.reduceReplicate, reduceCtorEq, evRange, Nat.reduceLT, encBrs]; done) | simp -dsimp [evl, putN, i64, u32, bl, encL, encB, encLL, encBrs]
  rintro m st ⟨i, nx, hi, hpre, rfl, rfl⟩
  try simp -dsimp (maxSteps := 9^9) (disch := first | omega | decide +kernel) only [↓bp0, bd0, bd_LF, reduceIte, Nat.reduceEqDiff, evStore, Nat.reduceAdd, Nat.reduceMul, Int.reduceEq, Int.reduceLT, Int.reduceLE, Nat.reduceLeDiff, List.reduceReplicate, reduceCtorEq, evRange, Nat.reduceLT, encBrs]
  refine onC_nlt (fun h2 => ?_) (fun h2 => ?_)
  · obtain ⟨b, hx, hxm⟩ := get_of_lt h2
    try simp -dsimp (maxSteps := 9^9) (disch := first | omega | decide +kernel) only [↓bp0, bd0, bd_LF, reduceIte, Nat.reduceEqDiff, evStore, Nat.reduceAdd, Nat.reduceMul, Int.reduceEq, Int.reduceLT, Int.reduceLE, Nat.reduceLeDiff, List.reduceReplicate, reduceCtorEq, evRange, Nat.reduceLT, hx]
    refine CallQ.imm (d_index l b.name hl) (by rfl) (by first | rfl | (simp -dsimp (maxSteps := 9^9) (disch := first | omega | decide +kernel) only [↓bp0, bd0, bd_LF, reduceIte, Nat.reduceEqDiff, evStore, Nat.reduceAdd, Nat.reduceMul, Int.reduceEq, Int.reduceLT, Int.reduceLE, Nat.reduceLeDiff, List.reduceReplicate, reduceCtorEq, evRange, Nat.reduceLT, drcs, drc, flat]; done) | simp -dsimp [evl, drcs, drc, flat, i64, u32, bl, encL, encB, encLL]) (by first | exact .inl rfl | exact .inr rfl | exact .inr scalB | exact .inr scalI | exact .inr scalT) ?_
    try simp -dsimp (maxSteps := 9^9) (disch := first | omega | decide +kernel) only [↓bp0, bd0, bd_LF, reduceIte, Nat.reduceEqDiff, evStore, Nat.reduceAdd, Nat.reduceMul, Int.reduceEq, Int.reduceLT, Int.reduceLE, Nat.reduceLeDiff, List.reduceReplicate, reduceCtorEq, evRange, Nat.reduceLT]
    refine onC_ilt (fun h3 => ?_) (fun h3 => ?_)
    · simp -dsimp (maxSteps := 9^9) (disch := first | omega | decide +kernel) only [↓bp0, bd0, bd_LF, reduceIte, Nat.reduceEqDiff, evStore, Nat.reduceAdd, Nat.reduceMul, Int.reduceEq, Int.reduceLT, Int.reduceLE, Nat.reduceLeDiff, List.reduceReplicate, reduceCtorEq, evRange, Nat.reduceLT, retQ, resL, finL, newL, flat, tupOf, List.toList_toArray]
      refine leT_one (int_eq ?_) (by simp)
      rw [e1, if_pos]
      rw [dupB, List.any_eq_true]
      exact ⟨i, List.mem_range.2 h2, by rw [hx]; exact decide_eq_true h3⟩
    try simp -dsimp (maxSteps := 9^9) (disch := first | omega | decide +kernel) only [↓bp0, bd0, bd_LF, reduceIte, Nat.reduceEqDiff, evStore, Nat.reduceAdd, Nat.reduceMul, Int.reduceEq, Int.reduceLT, Int.reduceLE, Nat.reduceLeDiff, List.reduceReplicate, reduceCtorEq, evRange, Nat.reduceLT]
    refine ⟨_, _, ?_, weak_of ?_, i + 1, nx + 1, h2, ?_, rfl, rfl⟩
    · omega
    · first | (simp -dsimp (maxSteps := 9^9) (disch := first | omega | decide +kernel) only [↓bp0, bd0, bd_LF, reduceIte, Nat.reduceEqDiff, evStore, Nat.reduceAdd, Nat.reduceMul, Int.reduceEq, Int.reduceLT, Int.reduceLE, Nat.reduceLeDiff, List.reduceReplicate, reduceCtorEq, evRange, Nat.reduceLT, wrapS h2 hl]; done) | simp -dsimp [evl, putN, i64, u32, bl, encL, encB, encLL, wrapS h2 hl]
    · intro j b' hj hb'
      by_cases hji : j = i
      · subst hji; rw [hx] at hb'; cases hb'; omega
      · exact hpre j b' (by omega) hb'
  have hdup : dupB l = false := by
    rw [dupB, List.any_eq_false]
    intro i hi
    rw [List.mem_range] at hi
    cases hb : l[i]? with
    | none => simp
    | some b => simpa using hpre i b (by omega) hb
  rw [if_neg (by rw [hdup]; simp)] at e1
  cases hnil : decide ((l.length : Int) = 0)
  case true =>
    have h0 : l = [] := List.eq_nil_of_length_eq_zero (by have := of_decide_eq_true hnil; omega)
    simp -dsimp (maxSteps := 9^9) (disch := first | omega | decide +kernel) only [↓bp0, bd0, bd_LF, reduceIte, Nat.reduceEqDiff, evStore, Nat.reduceAdd, Nat.reduceMul, Int.reduceEq, Int.reduceLT, Int.reduceLE, Nat.reduceLeDiff, List.reduceReplicate, reduceCtorEq, evRange, Nat.reduceLT, retQ, resL, finL, newL, flat, tupOf, List.toList_toArray, hnil]
    refine leT_one (int_eq ?_) (by simp)
    rw [e1, h0]; rfl
  have hpos : 0 < l.length := by have := of_decide_eq_false hnil; omega
  obtain ⟨b0, r, hl0⟩ : ∃ b0 r, l = b0 :: r := by
    cases l with
    | nil => simp at hpos
    | cons b r => exact ⟨b, r, rfl⟩
  have hx0 : l[0]? = some b0 := by rw [hl0]; rfl
  have e2 : bchk l = if b0.frm ≠ ⟨#[]⟩ ∨ b0.pos ≠ 0 then 8 else if anyI (brB l) l then 8 else 0 := by
    rw [e1, hx0]
  cases hf : decide (b0.frm = ⟨#[]⟩)
  case false =>
    simp -dsimp (maxSteps := 9^9) (disch := first | omega | decide +kernel) only [↓bp0, bd0, bd_LF, reduceIte, Nat.reduceEqDiff, evStore, Nat.reduceAdd, Nat.reduceMul, Int.reduceEq, Int.reduceLT, Int.reduceLE, Nat.reduceLeDiff, List.reduceReplicate, reduceCtorEq, evRange, Nat.reduceLT, retQ, resL, finL, newL, flat, tupOf, List.toList_toArray, hnil, hx0, cBr, hf, natK]
    refine leT_one (int_eq ?_) (by simp)
    rw [e2, if_pos (.inl (of_decide_eq_false hf))]
  cases hp : decide (b0.pos = 0)
  case false =>
    simp -dsimp (maxSteps := 9^9) (disch := first | omega | decide +kernel) only [↓bp0, bd0, bd_LF, reduceIte, Nat.reduceEqDiff, evStore, Nat.reduceAdd, Nat.reduceMul, Int.reduceEq, Int.reduceLT, Int.reduceLE, Nat.reduceLeDiff, List.reduceReplicate, reduceCtorEq, evRange, Nat.reduceLT, retQ, resL, finL, newL, flat, tupOf, List.toList_toArray, hnil, hx0, cBr, hf, hp, natK]
    refine leT_one (int_eq ?_) (by simp)
    rw [e2, if_pos (.inr (of_decide_eq_false hp))]
  have e3 : bchk l = if anyI (brB l) l then 8 else 0 := by
    rw [e2, if_neg]
    rw [not_or, Decidable.not_not, Decidable.not_not]
    exact ⟨of_decide_eq_true hf, of_decide_eq_true hp⟩
  try simp -dsimp (maxSteps := 9^9) (disch := first | omega | decide +kernel) only [↓bp0, bd0, bd_LF, reduceIte, Nat.reduceEqDiff, evStore, Nat.reduceAdd, Nat.reduceMul, Int.reduceEq, Int.reduceLT, Int.reduceLE, Nat.reduceLeDiff, List.reduceReplicate, reduceCtorEq, evRange, Nat.reduceLT, hnil, hx0, cBr, hf, hp, natK]
  refine LoopQ.rule (fun m st => ∃ i nx : Nat, i ≤ l.length ∧ (∀ (j : Nat) b, j < i → l[j]? = some b → brB l j b = false) ∧ m = l.length - i ∧
    st = ⟨mkE [(0, encBrs l), (41, encBrs l), (42, i64 l.length), (43, i64 i)], mkS [], nx⟩) _ _ (weak_of ?_) ⟨0, nx, by omega, fun _ _ h => by omega, rfl, rfl⟩ ?_
  · first | (simp -dsimp (maxSteps := 9^9) (disch := first | omega | decide +kernel) only [↓bp0, bd0, bd_LF, reduceIte, Nat.reduceEqDiff, evStore, Nat.reduceAdd, Nat.reduceMul, Int.reduceEq, Int.reduceLT, Int.reduceLE, Nat.reduceLeDiff, List.reduceReplicate, reduceCtorEq, evRange, Nat.reduceLT, encBrs]; done) | simp -dsimp [evl, putN, i64, u32, bl, encL, encB, encLL, encBrs]
  rintro m st ⟨i, nx, hi, hpre, rfl, rfl⟩
  try simp -dsimp (maxSteps := 9^9) (disch := first | omega | decide +kernel) only [↓bp0, bd0, bd_LF, reduceIte, Nat.reduceEqDiff, evStore, Nat.reduceAdd, Nat.reduceMul, Int.reduceEq, Int.reduceLT, Int.reduceLE, Nat.reduceLeDiff, List.reduceReplicate, reduceCtorEq, evRange, Nat.reduceLT, encBrs]
  refine onC_nlt (fun h2 => ?_) (fun h2 => ?_)
  · obtain ⟨b, hx, hxm⟩ := get_of_lt h2
    have hbad : brB l i b = true → bchk l = 8 := fun h => by
      rw [e3, if_pos (anyI_iff.2 ⟨i, b, hx, h⟩)]
    have hgo : brB l i b = false → ∀ (j : Nat) b, j < i + 1 → l[j]? = some b → brB l j b = false := fun h j b' hj hb' => by
      by_cases hji : j = i
      · subst hji; rw [hx] at hb'; cases hb'; exact h
      · exact hpre j b' (by omega) hb'
    try simp -dsimp (maxSteps := 9^9) (disch := first | omega | decide +kernel) only [↓bp0, bd0, bd_LF, reduceIte, Nat.reduceEqDiff, evStore, Nat.reduceAdd, Nat.reduceMul, Int.reduceEq, Int.reduceLT, Int.reduceLE, Nat.reduceLeDiff, List.reduceReplicate, reduceCtorEq, evRange, Nat.reduceLT, hx]
    refine CallY.imm (d_isName b.name) (by rfl) (by first | rfl | (simp -dsimp (maxSteps := 9^9) (disch := first | omega | decide +kernel) only [↓bp0, bd0, bd_LF, reduceIte, Nat.reduceEqDiff, evStore, Nat.reduceAdd, Nat.reduceMul, Int.reduceEq, Int.reduceLT, Int.reduceLE, Nat.reduceLeDiff, List.reduceReplicate, reduceCtorEq, evRange, Nat.reduceLT, drcs, drc, flat]; done) | simp -dsimp [evl, drcs, drc, flat, i64, u32, bl, encL, encB, encLL]) (by first | exact .inl rfl | exact .inr rfl | exact .inr scalB | exact .inr scalI | exact .inr scalT) ?_
    cases hn : nameB b.name
    · simp -dsimp (maxSteps := 9^9) (disch := first | omega | decide +kernel) only [↓bp0, bd0, bd_LF, reduceIte, Nat.reduceEqDiff, evStore, Nat.reduceAdd, Nat.reduceMul, Int.reduceEq, Int.reduceLT, Int.reduceLE, Nat.reduceLeDiff, List.reduceReplicate, reduceCtorEq, evRange, Nat.reduceLT, retQ, resL, finL, newL, flat, tupOf, List.toList_toArray, hn, uUn, Option.bind_some]
      exact leT_one (int_eq (hbad (by simp [brB, hn])).symm) (by simp)
    cases h1 : decide (b.pos < 0)
    case true =>
      simp -dsimp (maxSteps := 9^9) (disch := first | omega | decide +kernel) only [↓bp0, bd0, bd_LF, reduceIte, Nat.reduceEqDiff, evStore, Nat.reduceAdd, Nat.reduceMul, Int.reduceEq, Int.reduceLT, Int.reduceLE, Nat.reduceLeDiff, List.reduceReplicate, reduceCtorEq, evRange, Nat.reduceLT, retQ, resL, finL, newL, flat, tupOf, List.toList_toArray, hn, h1, uUn, Option.bind_some]
      exact leT_one (int_eq (hbad (by simp [brB, hn, h1])).symm) (by simp)
    cases h3 : decide (320 < b.pos)
    case true =>
      simp -dsimp (maxSteps := 9^9) (disch := first | omega | decide +kernel) only [↓bp0, bd0, bd_LF, reduceIte, Nat.reduceEqDiff, evStore, Nat.reduceAdd, Nat.reduceMul, Int.reduceEq, Int.reduceLT, Int.reduceLE, Nat.reduceLeDiff, List.reduceReplicate, reduceCtorEq, evRange, Nat.reduceLT, retQ, resL, finL, newL, flat, tupOf, List.toList_toArray, hn, h1, h3, uUn, Option.bind_some]
      exact leT_one (int_eq (hbad (by simp [brB, hn, h1, h3])).symm) (by simp)
    cases h4 : decide ((0 : Int) < i)
    case false =>
      have h4' := of_decide_eq_false h4
      try simp -dsimp (maxSteps := 9^9) (disch := first | omega | decide +kernel) only [↓bp0, bd0, bd_LF, reduceIte, Nat.reduceEqDiff, evStore, Nat.reduceAdd, Nat.reduceMul, Int.reduceEq, Int.reduceLT, Int.reduceLE, Nat.reduceLeDiff, List.reduceReplicate, reduceCtorEq, evRange, Nat.reduceLT, hn, h1, h3, h4, uUn, Option.bind_some]
      refine ⟨_, _, ?_, weak_of ?_, i + 1, nx + 1, h2, hgo ?_, rfl, rfl⟩
      · omega
      · first | (simp -dsimp (maxSteps := 9^9) (disch := first | omega | decide +kernel) only [↓bp0, bd0, bd_LF, reduceIte, Nat.reduceEqDiff, evStore, Nat.reduceAdd, Nat.reduceMul, Int.reduceEq, Int.reduceLT, Int.reduceLE, Nat.reduceLeDiff, List.reduceReplicate, reduceCtorEq, evRange, Nat.reduceLT, wrapS h2 hl]; done) | simp -dsimp [evl, putN, i64, u32, bl, encL, encB, encLL, wrapS h2 hl]
      · simp [brB, hn, h1, h3]; omega
    have h4' := of_decide_eq_true h4
    have h5 : decide (0 < i) = true := decide_eq_true (by omega)
    have hil : i ≤ l.length := by omega
    try simp -dsimp (maxSteps := 9^9) (disch := first | omega | decide +kernel) only [↓bp0, bd0, bd_LF, reduceIte, Nat.reduceEqDiff, evStore, Nat.reduceAdd, Nat.reduceMul, Int.reduceEq, Int.reduceLT, Int.reduceLE, Nat.reduceLeDiff, List.reduceReplicate, reduceCtorEq, evRange, Nat.reduceLT, hn, h1, h3, h4, hil, allBr, encTake, uUn, Option.bind_some, Bool.false_and, evSlice, slc]
    refine CallY.imm (d_index (l.take i) b.frm (by rw [List.length_take]; omega)) (by rfl) (by first | rfl | (simp -dsimp (maxSteps := 9^9) (disch := first | omega | decide +kernel) only [↓bp0, bd0, bd_LF, reduceIte, Nat.reduceEqDiff, evStore, Nat.reduceAdd, Nat.reduceMul, Int.reduceEq, Int.reduceLT, Int.reduceLE, Nat.reduceLeDiff, List.reduceReplicate, reduceCtorEq, evRange, Nat.reduceLT, drcs, drc, flat, encBrs, List.map_take]; done) | simp -dsimp [evl, drcs, drc, flat, i64, u32, bl, encL, encB, encLL]) (by first | exact .inl rfl | exact .inr rfl | exact .inr scalB | exact .inr scalI | exact .inr scalT) ?_
    cases h6 : decide (idx (l.take i) b.frm < 0)
    case true =>
      simp -dsimp (maxSteps := 9^9) (disch := first | omega | decide +kernel) only [↓bp0, bd0, bd_LF, reduceIte, Nat.reduceEqDiff, evStore, Nat.reduceAdd, Nat.reduceMul, Int.reduceEq, Int.reduceLT, Int.reduceLE, Nat.reduceLeDiff, List.reduceReplicate, reduceCtorEq, evRange, Nat.reduceLT, retQ, resL, finL, newL, flat, tupOf, List.toList_toArray, h6]
      exact leT_one (int_eq (hbad (by simp [brB, h5, h6])).symm) (by simp)
    try simp -dsimp (maxSteps := 9^9) (disch := first | omega | decide +kernel) only [↓bp0, bd0, bd_LF, reduceIte, Nat.reduceEqDiff, evStore, Nat.reduceAdd, Nat.reduceMul, Int.reduceEq, Int.reduceLT, Int.reduceLE, Nat.reduceLeDiff, List.reduceReplicate, reduceCtorEq, evRange, Nat.reduceLT, h6]
    refine ⟨_, _, ?_, weak_of ?_, i + 1, nx + 1, h2, hgo ?_, rfl, rfl⟩
    · omega
    · first | (simp -dsimp (maxSteps := 9^9) (disch := first | omega | decide +kernel) only [↓bp0, bd0, bd_LF, reduceIte, Nat.reduceEqDiff, evStore, Nat.reduceAdd, Nat.reduceMul, Int.reduceEq, Int.reduceLT, Int.reduceLE, Nat.reduceLeDiff, List.reduceReplicate, reduceCtorEq, evRange, Nat.reduceLT, wrapS h2 hl]; done) | simp -dsimp [evl, putN, i64, u32, bl, encL, encB, encLL, wrapS h2 hl]
    · simp [brB, hn, h1, h3, h5, h6]
  simp -dsimp (maxSteps := 9^9) (disch := first | omega | decide +kernel) only [↓bp0, bd0, bd_LF, reduceIte, Nat.reduceEqDiff, evStore, Nat.reduceAdd, Nat.reduceMul, Int.reduceEq, Int.reduceLT, Int.reduceLE, Nat.reduceLeDiff, List.reduceReplicate, reduceCtorEq, evRange, Nat.reduceLT, retQ, resL, finL, newL, flat, tupOf, List.toList_toArray]
  refine leT_one (int_eq ?_) (by simp)
  rw [e3, if_neg]
  rw [Bool.not_eq_true, anyI_false]
  exact fun j b hb => hpre j b (by have := (List.getElem?_eq_some_iff.1 hb).1; omega) hb
end Go.Ab
end
