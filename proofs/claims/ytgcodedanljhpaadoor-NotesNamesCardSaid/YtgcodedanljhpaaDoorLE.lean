/- What events come to, in plain terms. -/
import Derived.Test.YtgcodedanljhpaaDoorLB
import Derived.Test.YtgcodedanljhpaaDoorLA
set_option linter.unusedSimpArgs false
set_option linter.unusedVariables false
section
namespace Go.Ab
open Go
section
variable {f : Str → Int}
theorem lastK_snoc : ∀ (es : List Ev) (x : Ev) (c : Int), lastK f (es ++ [x]) c = if f x.chg = c then some x.kind else lastK f es c
  | [], x, c => by simp [lastK]
  | e :: es, x, c => by
    simp only [List.cons_append, lastK, lastK_snoc es x c]
    by_cases h : f x.chg = c
    · simp [h]
    · simp [h]
theorem inB_snoc (es : List Ev) (x : Ev) (c : Int) : inB f (es ++ [x]) c = if f x.chg = c then decide (x.kind ≠ 3) else inB f es c := by
  unfold inB
  rw [lastK_snoc]
  by_cases h : f x.chg = c
  · simp [h]
  · simp [h]
theorem seenL_len (es : List Ev) : (seenL f es).length = 30 := by simp [seenL]
theorem inL_len (es : List Ev) : (inL f es).length = 30 := by simp [inL]
theorem seenL_get {es : List Ev} {n : Nat} (h : n < 30) : (seenL f es)[n]? = some (lastK f es n).isSome := by
  simp [seenL, List.getElem?_map, List.getElem?_range h]
theorem inL_get {es : List Ev} {n : Nat} (h : n < 30) : (inL f es)[n]? = some (inB f es n) := by
  simp [inL, List.getElem?_map, List.getElem?_range h]
theorem seenL_put {es : List Ev} {x : Ev} (h0 : 0 ≤ f x.chg) : (seenL f es).set (f x.chg).toNat true = seenL f (es ++ [x]) := by
  apply List.ext_getElem?
  intro i
  by_cases hi : i < 30
  · rw [seenL_get hi, List.getElem?_set, lastK_snoc]
    by_cases h : (f x.chg).toNat = i
    · subst h
      rw [if_pos rfl, seenL_len, if_pos hi, if_pos (by omega)]; rfl
    · rw [if_neg h, seenL_get hi, if_neg (by omega)]
  · rw [List.getElem?_eq_none (by simp [seenL]; omega), List.getElem?_eq_none (by simp [seenL]; omega)]
theorem inL_put {es : List Ev} {x : Ev} (h0 : 0 ≤ f x.chg) : (inL f es).set (f x.chg).toNat (decide (x.kind ≠ 3)) = inL f (es ++ [x]) := by
  apply List.ext_getElem?
  intro i
  by_cases hi : i < 30
  · rw [inL_get hi, List.getElem?_set, inB_snoc]
    by_cases h : (f x.chg).toNat = i
    · subst h
      rw [if_pos rfl, inL_len, if_pos hi, if_pos (by omega)]
    · rw [if_neg h, inL_get hi, if_neg (by omega)]
  · rw [List.getElem?_eq_none (by simp [inL]; omega), List.getElem?_eq_none (by simp [inL]; omega)]
theorem seenL_nil : seenL f [] = List.replicate 30 false := by simp [seenL, lastK]; rfl
theorem inL_nil : inL f [] = List.replicate 30 false := by simp [inL, inB, lastK]; rfl
end
theorem clsOf_mem {known : List Kw} {c : Str} {n : Int} (h : clsOf known c = some n) : ∃ k ∈ known, k.chg = c ∧ k.cls = n := by
  unfold clsOf at h
  obtain ⟨k, h1, h2⟩ := Option.map_eq_some_iff.1 h
  exact ⟨k, List.mem_of_find?_eq_some h1, by simpa using List.find?_some h1, h2⟩
theorem cls0_range {known : List Kw} (h : known.any kwB = false) (c : Str) : 0 ≤ cls0 known c ∧ cls0 known c < 30 := by
  unfold cls0
  cases hc : clsOf known c with
  | none => simp
  | some n =>
    obtain ⟨k, h1, _, rfl⟩ := clsOf_mem hc
    have := List.any_eq_false.1 h k h1
    simp only [kwB, Bool.or_eq_true, decide_eq_true_eq, not_or] at this
    simp only [Option.getD_some]
    omega
theorem cls_eq {known : List Kw} {c : Str} (h : (clsOf known c).isSome = true) : cls0 known c = clsI known c := by
  unfold cls0 clsI
  cases hc : clsOf known c with
  | none => rw [hc] at h; cases h
  | some n => rfl
structure LOk (l : Ldg) : Prop where
  known : l.known.length ≤ 30
  nodup : nodupB l.known = true
  kw : l.known.any kwB = false
  chk : bchk l.brs = 0
  len : l.evs.length = l.brs.length
  evs : ∀ s ∈ l.evs, s.length ≤ 40
  fits : bfits l.brs (cnts l) = 0
  run : ∀ (i : Nat) own, l.evs[i]? = some own → runB l.known (preE l i) own = true
theorem lok_of {l : Ldg} (h : lchk l = 0) : LOk l := by
  unfold lchk at h
  split at h; · omega
  split at h; · omega
  split at h; · omega
  split at h; · rename_i h1; exact absurd h h1
  split at h; · omega
  split at h; · omega
  split at h; · rename_i h1; exact absurd h h1
  split at h; · omega
  rename_i h1 h2 h3 h4 h5 h6 h7 h8
  refine ⟨by omega, by simpa using h2, by simpa using h3, by simpa using h4, by simpa using h5, fun s hs => ?_, by simpa using h7, fun i own ho => ?_⟩
  · have := List.any_eq_false.1 (Bool.not_eq_true _ ▸ h6) s hs
    simpa using this
  · have := anyI_false.1 (Bool.not_eq_true _ ▸ h8) i own ho
    simpa using this
theorem runB_iff {known : List Kw} {pre own : List Ev} : runB known pre own = true ↔ ∀ (k : Nat) x, own[k]? = some x → (clsOf known x.chg).isSome = true ∧ alw (cls0 known) (pre ++ own.take k) x = 0 := by
  unfold runB
  rw [List.all_eq_true]
  constructor
  · intro h k x hx
    have := h k (List.mem_range.2 (List.getElem?_eq_some_iff.1 hx).1)
    rw [hx] at this
    simpa using this
  · intro h k hk
    cases hx : own[k]? with
    | none => rfl
    | some x => simpa using h k x hx
section
variable {l : Ldg} (h : LOk l)
include h
theorem LOk.vok : VOk l.brs (cnts l) := vok_of h.fits
theorem LOk.ev_known {i : Nat} {own : List Ev} (ho : l.evs[i]? = some own) {x : Ev} (hx : x ∈ own) : (clsOf l.known x.chg).isSome = true := by
  obtain ⟨k, hk, rfl⟩ := List.getElem_of_mem hx
  exact (runB_iff.1 (h.run i own ho) k _ (List.getElem?_eq_getElem hk)).1
end
theorem evAt_get {l : Ldg} {m : Nat × Nat} {c : Int} (hc : (cnts l)[m.1]? = some c) (h : (m.2 : Int) < c) : ∃ own x, l.evs[m.1]? = some own ∧ own[m.2]? = some x ∧ evAt l m = x ∧ x ∈ own := by
  simp only [cnts, List.getElem?_map, Option.map_eq_some_iff] at hc
  obtain ⟨own, h1, rfl⟩ := hc
  have h2 : own[m.2]? = some (own[m.2]'(by omega)) := List.getElem?_eq_getElem (by omega)
  exact ⟨own, _, h1, h2, by simp [evAt, h1, h2], List.mem_of_getElem? h2⟩
theorem LOk.seen_known {l : Ldg} (h : LOk l) {i : Nat} (hi : i < l.brs.length) : ∀ e ∈ seenE l (vw l.brs (cnts l) i), (clsOf l.known e.chg).isSome = true := by
  intro e he
  obtain ⟨m, hm, rfl⟩ := List.mem_map.1 he
  obtain ⟨_, c, hc, hlt⟩ := h.vok.mem i hi m hm
  obtain ⟨own, x, h1, _, h3, h4⟩ := evAt_get hc hlt
  rw [h3]; exact h.ev_known h1 h4
def clsLast (l : List Kw) (s : Str) : Option Int := l.foldl (fun acc k => if k.chg = s then some k.cls else acc) none
theorem clsLast_snoc {l : List Kw} {k : Kw} {s : Str} : clsLast (l ++ [k]) s = if s = k.chg then some k.cls else clsLast l s := by
  unfold clsLast
  rw [List.foldl_append]
  simp only [List.foldl_cons, List.foldl_nil]
  by_cases e : k.chg = s
  · rw [if_pos e, if_pos e.symm]
  · rw [if_neg e, if_neg (fun h => e h.symm)]
theorem nodupB_snoc : ∀ (l : List Kw) (k : Kw), nodupB (l ++ [k]) = (nodupB l && !(l.any fun q => decide (q.chg = k.chg)))
  | [], k => by simp [nodupB]
  | q :: l, k => by
    have hs : decide (k.chg = q.chg) = decide (q.chg = k.chg) := by rw [decide_eq_decide]; exact eq_comm
    simp only [List.cons_append, nodupB, List.any_append, List.any_cons, List.any_nil, Bool.or_false, nodupB_snoc l k, hs]
    cases l.any fun x => decide (x.chg = q.chg) <;> cases nodupB l <;> cases l.any fun x => decide (x.chg = k.chg) <;> cases decide (q.chg = k.chg) <;> rfl
theorem clsLast_none {l : List Kw} {s : Str} : clsLast l s = none ↔ (l.any fun q => decide (q.chg = s)) = false := by
  have key : ∀ (l : List Kw) (a : Option Int), l.foldl (fun acc k => if k.chg = s then some k.cls else acc) a = none ↔ a = none ∧ (l.any fun q => decide (q.chg = s)) = false := by
    intro l
    induction l with
    | nil => intro a; simp
    | cons k l ih =>
      intro a
      rw [List.foldl_cons, ih]
      by_cases e : k.chg = s
      · simp [e]
      · simp [e]
  unfold clsLast
  rw [key l none]; simp
theorem clsOf_snoc {l : List Kw} {k : Kw} {s : Str} : clsOf (l ++ [k]) s = match clsOf l s with
    | some n => some n
    | none => if k.chg = s then some k.cls else none := by
  unfold clsOf
  rw [List.find?_append]
  cases h : l.find? fun q => decide (q.chg = s) with
  | some q => simp
  | none =>
    by_cases e : k.chg = s
    · simp [e]
    · simp [e]
theorem clsOf_none {l : List Kw} {s : Str} : clsOf l s = none ↔ (l.any fun q => decide (q.chg = s)) = false := by
  unfold clsOf
  rw [Option.map_eq_none_iff, List.find?_eq_none, List.any_eq_false]
theorem cls_nodup {l : List Kw} (h : nodupB l = true) (s : Str) : clsLast l s = clsOf l s := by
  have key : ∀ n, ∀ l : List Kw, l.length = n → nodupB l = true → clsLast l s = clsOf l s := by
    intro n
    induction n with
    | zero => intro l hl _; rw [List.eq_nil_of_length_eq_zero hl]; rfl
    | succ n ih =>
      intro l hl h
      obtain ⟨q, k, rfl⟩ : ∃ q k, l = q ++ [k] := ⟨l.dropLast, l.getLast (by intro e; rw [e] at hl; simp at hl), (List.dropLast_concat_getLast _).symm⟩
      rw [nodupB_snoc, Bool.and_eq_true, Bool.not_eq_true'] at h
      rw [clsLast_snoc, clsOf_snoc, ih q (by simpa using hl) h.1]
      by_cases e : s = k.chg
      · subst e
        rw [if_pos rfl, clsOf_none.2 h.2]; simp
      · rw [if_neg e]
        cases clsOf q s with
        | none => exact (if_neg fun h => e h.symm).symm
        | some n => rfl
  exact key _ l rfl h
end Go.Ab
end

section
/- Names; places in tables; the error of a table. -/
set_option maxRecDepth 100000
set_option maxHeartbeats 8000000
namespace Go.Ab
open Go Go.Proofs
theorem bd_LD : type_of% (And.intro @evNext.eq_1 (And.intro @fld (And.intro @nit (And.intro @evBin_seql (And.intro @evBin_sneq (And.intro @str.eq_1 (@u8.eq_1))))))) := And.intro @evNext.eq_1 (And.intro @fld (And.intro @nit (And.intro @evBin_seql (And.intro @evBin_sneq (And.intro @str.eq_1 (@u8.eq_1))))))
theorem nameB_iff {s : Str} : nameB s = true ↔ s.size ≤ 40 ∧ ∃ h : 0 < s.size, lowB (s[0]'h) = true ∧ ∀ (i : Nat) (hi : i < s.size), nameC (s[i]'hi) = true := by
  obtain ⟨⟨l⟩⟩ := s
  have hsz : (ByteArray.mk ⟨l⟩).size = l.length := rfl
  have hg : ∀ (i : Nat) (h : i < (ByteArray.mk ⟨l⟩).size), (ByteArray.mk ⟨l⟩)[i]'h = l[i]'h := fun _ _ => rfl
  unfold nameB
  cases l with
  | nil => simp [hsz]
  | cons c r =>
    simp only [Bool.and_eq_true, decide_eq_true_eq]
    refine and_congr_right fun _ => ?_
    constructor
    · rintro ⟨h1, h2⟩
      refine ⟨by rw [hsz]; simp, by rw [hg]; exact h1, fun i hi => ?_⟩
      rw [hg]
      cases i with
      | zero => simp only [nameC, List.getElem_cons_zero, h1, Bool.true_or]
      | succ i => exact List.all_eq_true.1 h2 _ (by simp)
    · rintro ⟨h0, h1, h2⟩
      refine ⟨by rw [hg] at h1; exact h1, List.all_eq_true.2 fun x hx => ?_⟩
      obtain ⟨i, hi, rfl⟩ := List.getElem_of_mem hx
      have := h2 (i + 1) (by rw [hsz]; simpa using hi)
      rw [hg] at this
      simpa using this
theorem scan_good {s : Str} {pos : Nat} (h : pos < s.size) (hn : nameC (s[pos]'h) = true) : Utf8.decode s pos = ((s[pos]'h).toNat, 1) := by
  refine decode_ascii s pos h ?_
  simp only [nameC, lowB, Bool.or_eq_true, Bool.and_eq_true, decide_eq_true_eq] at hn
  omega
theorem scan_bad {s : Str} {pos : Nat} (h : pos < s.size) (hn : nameC (s[pos]'h) = false) : ((Utf8.decode s pos).1 < 48 ∧ (Utf8.decode s pos).1 ≠ 45) ∨ (57 < (Utf8.decode s pos).1 ∧ (Utf8.decode s pos).1 < 97) ∨ 122 < (Utf8.decode s pos).1 := by
  simp only [nameC, lowB, Bool.or_eq_false_iff, Bool.and_eq_false_iff, decide_eq_false_iff_not] at hn
  by_cases ha : (s[pos]'h).toNat < 128
  · rw [decode_ascii s pos h ha]
    simp only
    omega
  · have := (decode_high s pos h (by omega)).1
    omega
theorem evIdx_s0 {s : Str} (h : 0 < s.size) : evIdx cx 9 (.lit (.string s)) (.lit (.int .i64 0)) = some (.lit (.int .u8 ((s[0]'h).toNat : Int))) := by
  simp only [evIdx, tis, natK, dif_pos h]
theorem d_isName (s : Str) : CallSpec cx 82 [str s] (bl (nameB s)) := by
  refine callSpec_of_vc Tryd.func82 rfl (by decide) (by kernel_rfl) (Nat.le_of_ble_eq_true rfl) ?_
  have hno : ∀ (b : Bool), (b = true → nameB s = true) → (b = false → nameB s = false) → le1 (.lit (.bool b)) (bl (nameB s)) := fun b h1 h2 => bl_eq (by cases b; exact (h2 rfl).symm; exact (h1 rfl).symm)
  have hF : ¬ nameB s = true → nameB s = false := fun h => by simpa using h
  cases h0 : decide ((s.size : Int) = 0)
  case true =>
    have h0' := of_decide_eq_true h0
    simp -dsimp (disch := omega) only [↓bp0, bd0, bd_LD, evStore, evRange, retQ, resL, finL, newL, flat, tupOf, List.toList_toArray, Tryd.f82, h0, simprocAttr]
    refine leT_one (hno false (by simp) fun _ => hF fun h => ?_) (by simp)
    obtain ⟨_, h1, _⟩ := nameB_iff.1 h; omega
  have hp : 0 < s.size := by have := of_decide_eq_false h0; omega
  cases h40 : decide (40 < (s.size : Int))
  case true =>
    have h1 := of_decide_eq_true h40
    simp -dsimp (disch := omega) only [↓bp0, bd0, bd_LD, evStore, evRange, retQ, resL, finL, newL, flat, tupOf, List.toList_toArray, Tryd.f82, h0, h40, simprocAttr]
    refine leT_one (hno false (by simp) fun _ => hF fun h => ?_) (by simp)
    have := (nameB_iff.1 h).1; omega
  have hle : s.size ≤ 40 := by have := of_decide_eq_false h40; omega
  have hidx := evIdx_s0 hp
  cases ha : decide (((s[0]'hp).toNat : Int) < 97)
  case true =>
    have h1 := of_decide_eq_true ha
    simp -dsimp (disch := omega) only [↓bp0, bd0, bd_LD, evStore, evRange, retQ, resL, finL, newL, flat, tupOf, List.toList_toArray, Tryd.f82, h0, h40, hidx, ha, simprocAttr]
    refine leT_one (hno false (by simp) fun _ => hF fun h => ?_) (by simp)
    obtain ⟨_, _, h2, _⟩ := nameB_iff.1 h
    simp only [lowB, Bool.and_eq_true, decide_eq_true_eq] at h2; omega
  cases hz : decide ((122 : Int) < ((s[0]'hp).toNat : Int))
  case true =>
    have h1 := of_decide_eq_true hz
    simp -dsimp (disch := omega) only [↓bp0, bd0, bd_LD, evStore, evRange, retQ, resL, finL, newL, flat, tupOf, List.toList_toArray, Tryd.f82, h0, h40, hidx, ha, hz, simprocAttr]
    refine leT_one (hno false (by simp) fun _ => hF fun h => ?_) (by simp)
    obtain ⟨_, _, h2, _⟩ := nameB_iff.1 h
    simp only [lowB, Bool.and_eq_true, decide_eq_true_eq] at h2; omega
  have hlow : lowB (s[0]'hp) = true := by
    have h1 := of_decide_eq_false ha
    have h2 := of_decide_eq_false hz
    simp only [lowB, Bool.and_eq_true, decide_eq_true_eq]; omega
  try simp -dsimp (disch := omega) only [↓bp0, bd0, bd_LD, evStore, evRange, Tryd.f82, h0, h40, hidx, ha, hz, simprocAttr]
  refine LoopQ.rule (fun m st => ∃ pos : Nat, pos ≤ s.size ∧ (∀ (i : Nat) (hi : i < s.size), i < pos → nameC (s[i]'hi) = true) ∧ m = s.size - pos ∧
    st = ⟨mkE [(24, .ptr 0 0 0 0)], mkS [(0, .it s pos)], 1⟩) _ _ (weak_of ?_) ⟨0, by omega, fun _ _ h => by omega, rfl, rfl⟩ ?_
  · first | (simp -dsimp (disch := omega) only [↓bp0, bd0, bd_LD, evStore, evRange, simprocAttr]; done) | simp -dsimp [evl, putN, i64, u32, bl, encL, encB, encLL]
  rintro m st ⟨pos, hpl, hpre, rfl, rfl⟩
  by_cases hlt : pos < s.size
  rotate_left
  · simp -dsimp (disch := omega) only [↓bp0, bd0, bd_LD, evStore, evRange, retQ, resL, finL, newL, flat, tupOf, List.toList_toArray, hlt, simprocAttr]
    refine leT_one (hno true (fun _ => nameB_iff.2 ⟨hle, hp, hlow, fun i hi => hpre i hi (by omega)⟩) (by simp)) (by simp)
  cases hn : nameC (s[pos]'hlt)
  · have hbad : nameB s = false := hF fun h => by
      obtain ⟨_, _, _, h2⟩ := nameB_iff.1 h
      rw [h2 pos hlt] at hn; cases hn
    rcases scan_bad hlt hn with ⟨h1, h2⟩ | ⟨h1, h2⟩ | h1
    · have e1 : decide (((Utf8.decode s pos).1 : Int) < 97) = true := decide_eq_true (by omega)
      have e2 : decide (((Utf8.decode s pos).1 : Int) < 48) = true := decide_eq_true (by omega)
      have e3 : decide (((Utf8.decode s pos).1 : Int) = 45) = false := decide_eq_false (by omega)
      simp -dsimp (disch := omega) only [↓bp0, bd0, bd_LD, evStore, evRange, retQ, resL, finL, newL, flat, tupOf, List.toList_toArray, hlt, e1, e2, e3, simprocAttr]
      exact leT_one (hno false (by simp) fun _ => hbad) (by simp)
    · have e1 : decide (((Utf8.decode s pos).1 : Int) < 97) = true := decide_eq_true (by omega)
      have e2 : decide (((Utf8.decode s pos).1 : Int) < 48) = false := decide_eq_false (by omega)
      have e3 : decide ((57 : Int) < ((Utf8.decode s pos).1 : Int)) = true := decide_eq_true (by omega)
      have e4 : decide (((Utf8.decode s pos).1 : Int) = 45) = false := decide_eq_false (by omega)
      simp -dsimp (disch := omega) only [↓bp0, bd0, bd_LD, evStore, evRange, retQ, resL, finL, newL, flat, tupOf, List.toList_toArray, hlt, e1, e2, e3, e4, simprocAttr]
      exact leT_one (hno false (by simp) fun _ => hbad) (by simp)
    · have e1 : decide (((Utf8.decode s pos).1 : Int) < 97) = false := decide_eq_false (by omega)
      have e5 : decide ((122 : Int) < ((Utf8.decode s pos).1 : Int)) = true := decide_eq_true (by omega)
      have e2 : decide (((Utf8.decode s pos).1 : Int) < 48) = false := decide_eq_false (by omega)
      have e3 : decide ((57 : Int) < ((Utf8.decode s pos).1 : Int)) = true := decide_eq_true (by omega)
      have e4 : decide (((Utf8.decode s pos).1 : Int) = 45) = false := decide_eq_false (by omega)
      simp -dsimp (disch := omega) only [↓bp0, bd0, bd_LD, evStore, evRange, retQ, resL, finL, newL, flat, tupOf, List.toList_toArray, hlt, e1, e2, e3, e4, e5, simprocAttr]
      exact leT_one (hno false (by simp) fun _ => hbad) (by simp)
  have hd := scan_good hlt hn
  have hgo : ∀ (i : Nat) (hi : i < s.size), i < pos + 1 → nameC (s[i]'hi) = true := fun i hi h => by
    by_cases e : i = pos
    · subst e; exact hn
    · exact hpre i hi (by omega)
  have hn' := hn
  simp only [nameC, lowB, Bool.or_eq_true, Bool.and_eq_true, decide_eq_true_eq] at hn'
  rcases hn' with (⟨h1, h2⟩ | ⟨h1, h2⟩) | h1
  · have e1 : decide (((s[pos]'hlt).toNat : Int) < 97) = false := decide_eq_false (by omega)
    have e2 : decide ((122 : Int) < ((s[pos]'hlt).toNat : Int)) = false := decide_eq_false (by omega)
    try simp -dsimp (disch := omega) only [↓bp0, bd0, bd_LD, evStore, evRange, hlt, hd, e1, e2, simprocAttr]
    refine ⟨_, _, ?_, weak_of ?_, pos + 1, hlt, hgo, rfl, rfl⟩
    · omega
    · first | (simp -dsimp (disch := omega) only [↓bp0, bd0, bd_LD, evStore, evRange, simprocAttr]; done) | simp -dsimp [evl, putN, i64, u32, bl, encL, encB, encLL]
  · have e1 : decide (((s[pos]'hlt).toNat : Int) < 97) = true := decide_eq_true (by omega)
    have e2 : decide (((s[pos]'hlt).toNat : Int) < 48) = false := decide_eq_false (by omega)
    have e3 : decide ((57 : Int) < ((s[pos]'hlt).toNat : Int)) = false := decide_eq_false (by omega)
    try simp -dsimp (disch := omega) only [↓bp0, bd0, bd_LD, evStore, evRange, hlt, hd, e1, e2, e3, simprocAttr]
    refine ⟨_, _, ?_, weak_of ?_, pos + 1, hlt, hgo, rfl, rfl⟩
    · omega
    · first | (simp -dsimp (disch := omega) only [↓bp0, bd0, bd_LD, evStore, evRange, simprocAttr]; done) | simp -dsimp [evl, putN, i64, u32, bl, encL, encB, encLL]
  · have e1 : decide (((s[pos]'hlt).toNat : Int) < 97) = true := decide_eq_true (by omega)
    have e2 : decide (((s[pos]'hlt).toNat : Int) < 48) = true := decide_eq_true (by omega)
    have e3 : decide (((s[pos]'hlt).toNat : Int) = 45) = true := decide_eq_true (by omega)
    try simp -dsimp (disch := omega) only [↓bp0, bd0, bd_LD, evStore, evRange, hlt, hd, e1, e2, e3, simprocAttr]
    refine ⟨_, _, ?_, weak_of ?_, pos + 1, hlt, hgo, rfl, rfl⟩
    · omega
    · first | (simp -dsimp (disch := omega) only [↓bp0, bd0, bd_LD, evStore, evRange, simprocAttr]; done) | simp -dsimp [evl, putN, i64, u32, bl, encL, encB, encLL]
end Go.Ab
end

section
/- Places in tables; the error of a table. -/
set_option maxRecDepth 100000
set_option maxHeartbeats 8000000
namespace Go.Ab
open Go Go.Proofs
theorem bd_LE : type_of% (And.intro @evNext.eq_1 (And.intro @fld (And.intro @nit (And.intro @evBin_seql (And.intro @evBin_sneq (And.intro @str.eq_1 (@u8.eq_1))))))) := And.intro @evNext.eq_1 (And.intro @fld (And.intro @nit (And.intro @evBin_seql (And.intro @evBin_sneq (And.intro @str.eq_1 (@u8.eq_1))))))
def agBr (b : Br) : PV := .agg (cBr b)
theorem tk3 : ∀ {α : Type} {a b c : α}, List.take 3 [a, b, c] = [a, b, c] := rfl
theorem d_index1 (b : Br) (n : Str) : CallSpec cx 103 [agBr b, .cptr [str n]] (bl (decide (b.name = n))) := by
  refine callSpec_of_vc Tryd.func103 rfl (by decide) (by kernel_rfl) (Nat.le_of_ble_eq_true rfl) ?_
  simp -dsimp (disch := omega) only [↓bp0, bd0, bd_LE, evStore, evRange, retQ, resL, finL, newL, flat, tupOf, List.toList_toArray, Tryd.f103, agBr, cBr, List.set_cons_succ, List.getElem?_cons_zero, List.getElem?_cons_succ, List.length_set, simprocAttr]
  exact leT_one .rfl' (by simp)
theorem lb_index (l : List (Br)) (hl : l.length ≤ 9223372036854775807) (f : Nat) (cap : List PV) (hn : nofrs cap = true) (P : Br → Bool) (h : ∀ k ∈ l, CallSpec cx f ([agBr k] ++ cap) (bl (P k))) :
    CallSpec cx 102 [encBrs l, .clo (.func f) [] cap] (i64 (fi P l)) := by
  refine callSpec_of_vc Tryd.func102 rfl (by decide) (by kernel_rfl) (Nat.le_of_ble_eq_true rfl) ?_
  try simp -dsimp (disch := omega) only [↓bp0, bd0, bd_LE, evStore, evRange, Tryd.f102, encBrs, cBr, agBr, tk3, simprocAttr]
  refine LoopQ.rule (fun m st => ∃ i : Nat, i ≤ l.length ∧ (∀ j, j < i → ∀ x, l[j]? = some x → P x = false) ∧ m = l.length - i ∧
    st = ⟨mkE [(0, encBrs l), (1, .clo (.func f) [] cap), (7, i64 l.length), (8, i64 i)], mkS [], 0⟩) _ _ (weak_of ?_) ⟨0, by omega, by simp, rfl, rfl⟩ ?_
  · first | (simp -dsimp (disch := omega) only [↓bp0, bd0, bd_LE, evStore, evRange, encBrs, cBr, agBr, tk3, simprocAttr]; done) | simp -dsimp [evl, putN, i64, u32, bl, encL, encB, encLL, encBrs, cBr, agBr, tk3]
  rintro m st ⟨i, hi, hpre, rfl, rfl⟩
  try simp -dsimp (disch := omega) only [↓bp0, bd0, bd_LE, evStore, evRange, encBrs, cBr, agBr, tk3, simprocAttr]
  refine onC_nlt (fun h2 => ?_) (fun h2 => ?_)
  · obtain ⟨x, hx, hxm⟩ := get_of_lt h2
    try simp -dsimp (disch := omega) only [↓bp0, bd0, bd_LE, evStore, evRange, hx, encBrs, cBr, agBr, tk3, simprocAttr]
    refine CallQ.imm (h x hxm) (by rfl) (drcs_nofr _ _ (by simp [nofrs, nofr, i64, encL, hn, encBrs, cBr, agBr, tk3])) (.inr rfl) ?_
    try simp -dsimp (disch := omega) only [↓bp0, bd0, bd_LE, evStore, evRange, simprocAttr]
    refine onC_bool (fun h3 => ?_) (fun h3 => ?_)
    · simp -dsimp (disch := omega) only [↓bp0, bd0, bd_LE, evStore, evRange, retQ, resL, finL, newL, flat, tupOf, List.toList_toArray, Tryd.f102, simprocAttr]
      rw [fi_at _ _ _ _ hx hpre h3]
      exact leT_one .rfl' (by simp)
    try simp -dsimp (disch := omega) only [↓bp0, bd0, bd_LE, evStore, evRange, simprocAttr]
    refine ⟨_, _, ?_, weak_of ?_, i + 1, h2, ?_, rfl, rfl⟩
    · omega
    · first | (simp -dsimp (disch := omega) only [↓bp0, bd0, bd_LE, evStore, evRange, wrapS h2 hl, encBrs, cBr, agBr, tk3, simprocAttr]; done) | simp -dsimp [evl, putN, i64, u32, bl, encL, encB, encLL, wrapS h2 hl, encBrs, cBr, agBr, tk3]
    · intro j hj y hy
      by_cases hji : j = i
      · subst hji; rw [hx] at hy; cases hy; exact h3
      · exact hpre j (by omega) y hy
  · simp -dsimp (disch := omega) only [↓bp0, bd0, bd_LE, evStore, evRange, retQ, resL, finL, newL, flat, tupOf, List.toList_toArray, Tryd.f102, simprocAttr]
    rw [fi_none _ _ fun j y hy => hpre j (by have := (List.getElem?_eq_some_iff.1 hy).1; omega) y hy]
    exact leT_one .rfl' (by simp)
theorem d_index (l : List Br) (n : Str) (hl : l.length ≤ 9223372036854775807) : CallSpec cx 81 [encBrs l, str n] (i64 (idx l n)) := by
  refine callSpec_of_vc Tryd.func81 rfl (by decide) (by kernel_rfl) (Nat.le_of_ble_eq_true rfl) ?_
  try simp -dsimp (disch := omega) only [↓bp0, bd0, bd_LE, evStore, evRange, Tryd.f81, simprocAttr]
  refine CallQ.imm (lb_index l hl 103 [.cptr [str n]] rfl _ fun b _ => d_index1 b n) (by rfl) (by rfl) (by first | exact .inl rfl | exact .inr rfl | exact .inr scalB | exact .inr scalI | exact .inr scalT) ?_
  simp -dsimp (disch := omega) only [↓bp0, bd0, bd_LE, evStore, evRange, retQ, resL, finL, newL, flat, tupOf, List.toList_toArray, Tryd.f81, simprocAttr]
  exact leT_one .rfl' (by simp)
end Go.Ab
end
