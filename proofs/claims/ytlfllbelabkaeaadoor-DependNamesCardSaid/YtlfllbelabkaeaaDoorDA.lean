import Derived.Test.YtlfllbelabkaeaaDoorAbW16
import Derived.Test.YtlfllbelabkaeaaDoorAbW32
set_option linter.unusedSimpArgs false
set_option linter.unusedVariables false
set_option maxRecDepth 100000
namespace Go.Ab
open Go

/-! ### needs, sets of classes, in plain terms -/
abbrev Nd := Int × List (List Int)
def cls (c : Int) : Bool := decide (0 ≤ c) && decide (c < 10)
def manyN (n : Nd) : Bool := decide (4 < n.2.length) || n.2.any fun g => decide (4 < g.length)
def badG (g : List Int) : Bool := decide (g.length = 0) || g.any fun c => !cls c
def badN (n : Nd) : Bool := !cls n.1 || n.2.any badG
open Classical in
noncomputable def twiceN (l : List Nd) : Bool := decide (∃ (i : Nat) (n : Nd), l[i]? = some n ∧ ((∃ (k : Nat) (m : Nd), k < i ∧ l[k]? = some m ∧ m.1 = n.1) ∨ ∃ g ∈ n.2, ¬ g.Nodup))
noncomputable def dcheck (l : List Nd) : Int := if 10 < l.length then 4 else if l.any manyN then 4 else if l.any badN then 8 else if twiceN l then 14 else 0

def fits (l : List Nd) : Prop := l.length ≤ 9223372036854775807 ∧ ∀ n ∈ l, n.2.length ≤ 9223372036854775807 ∧ ∀ g ∈ n.2, g.length ≤ 9223372036854775807

theorem dc_many {l : List Nd} (h : dcheck l = 0) : l.length ≤ 10 ∧ (∀ n ∈ l, n.2.length ≤ 4 ∧ ∀ g ∈ n.2, g.length ≤ 4) ∧ (∀ n ∈ l, 0 ≤ n.1 ∧ n.1 < 10 ∧ ∀ g ∈ n.2, g ≠ [] ∧ ∀ c ∈ g, 0 ≤ c ∧ c < 10) ∧ twiceN l = false := by
  unfold dcheck at h
  split at h
  · cases h
  split at h
  · cases h
  split at h
  · cases h
  split at h
  · cases h
  rename_i h1 h2 h3 h4
  refine ⟨by omega, fun n hn => ?_, fun n hn => ?_, by simpa using h4⟩
  · have h5 : manyN n = false := by
      rw [Bool.eq_false_iff]; intro h6; exact h2 (List.any_eq_true.2 ⟨n, hn, h6⟩)
    unfold manyN at h5
    rw [Bool.or_eq_false_iff] at h5
    refine ⟨by simpa using h5.1, fun g hg => ?_⟩
    have := List.any_eq_false.1 h5.2 g hg
    simpa using this
  · have h5 : badN n = false := by
      rw [Bool.eq_false_iff]; intro h6; exact h3 (List.any_eq_true.2 ⟨n, hn, h6⟩)
    unfold badN cls at h5
    rw [Bool.or_eq_false_iff] at h5
    have h6 := h5.1
    simp at h6
    refine ⟨h6.1, h6.2, fun g hg => ?_⟩
    have h7 := List.any_eq_false.1 h5.2 g hg
    unfold badG at h7
    simp [cls] at h7
    exact ⟨h7.1, fun c hc => h7.2 c hc⟩

open Classical in
/-- A list is a set: classes, that increase. -/
noncomputable def setB (s : List Int) : Bool := decide (∀ (i : Nat) (c : Int), s[i]? = some c → (0 ≤ c ∧ c < 10) ∧ ∀ (j : Nat) (d : Int), i = j + 1 → s[j]? = some d → d < c)
noncomputable def both (l : List Nd) (ss : List (List Int)) : Int := if dcheck l = 0 then (if ss.all setB then 0 else 2) else dcheck l

theorem both_ok {l : List Nd} {ss : List (List Int)} (h : both l ss = 0) : dcheck l = 0 ∧ ∀ s ∈ ss, setB s = true := by
  unfold both at h
  split at h
  · rename_i h1
    split at h
    · rename_i h2; exact ⟨h1, List.all_eq_true.1 h2⟩
    · cases h
  · exact absurd h (by assumption)
open Classical in
theorem set_cls {s : List Int} (h : setB s = true) : ∀ c ∈ s, 0 ≤ c ∧ c < 10 := fun c hc => by
  obtain ⟨i, hi⟩ := List.getElem?_of_mem hc
  exact ((of_decide_eq_true h) i c hi).1
open Classical in
theorem set_inc {s : List Int} (h : setB s = true) {j : Nat} {d c : Int} (h1 : s[j]? = some d) (h2 : s[j + 1]? = some c) : d < c :=
  ((of_decide_eq_true h) (j + 1) c h2).2 j d rfl h1
theorem set_lt {s : List Int} (h : setB s = true) : ∀ (k j : Nat) (d c : Int), s[j]? = some d → s[j + k + 1]? = some c → d < c
  | 0, j, d, c, h1, h2 => set_inc h h1 h2
  | k + 1, j, d, c, h1, h2 => by
    obtain ⟨e, he⟩ : ∃ e, s[j + k + 1]? = some e := ⟨s[j + k + 1]'(by have := (List.getElem?_eq_some_iff.1 h2).1; omega), List.getElem?_eq_getElem _⟩
    have h3 := set_lt h k j d e h1 he
    have h4 := set_inc h he (show s[j + k + 1 + 1]? = some c from h2)
    omega

/-! ### sets of classes as words -/
def bit (c : Nat) : BitVec 16 := 1#16 <<< c
theorem bit_get {c j : Nat} : (bit c).getLsbD j = (decide (j = c) && decide (j < 16)) := by
  unfold bit
  rw [show (1#16 <<< c) = BitVec.twoPow 16 c from by rw [BitVec.twoPow_eq], BitVec.getLsbD_twoPow]
  by_cases h : j = c
  · subst h; simp
  · have : ¬ c = j := fun e => h e.symm
    simp [h, this]
def ofL (l : List Int) : BitVec 16 := l.foldl (fun s c => s ||| bit c.toNat) 0#16
theorem ofL_snoc {l : List Int} {c : Int} : ofL (l ++ [c]) = ofL l ||| bit c.toNat := by simp [ofL, List.foldl_append]
theorem foldl_get {j : Nat} (hj : j < 16) : ∀ (l : List Int) (s : BitVec 16), (∀ c ∈ l, 0 ≤ c) → ((l.foldl (fun s c => s ||| bit c.toNat) s).getLsbD j = true ↔ s.getLsbD j = true ∨ (j : Int) ∈ l)
  | [], s, _ => by simp
  | c :: l, s, h => by
    rw [List.foldl_cons, foldl_get hj l _ fun d hd => h d (by simp [hd])]
    rw [BitVec.getLsbD_or, Bool.or_eq_true, bit_get]
    have hc := h c (by simp)
    have e : j = c.toNat ↔ (j : Int) = c := by omega
    simp [hj, e, or_assoc]
theorem ofL_get {l : List Int} (h : ∀ c ∈ l, 0 ≤ c ∧ c < 16) {j : Nat} : (ofL l).getLsbD j = true ↔ (j : Int) ∈ l := by
  by_cases hj : j < 16
  · unfold ofL
    rw [foldl_get hj l _ fun c hc => (h c hc).1]
    simp
  · rw [BitVec.getLsbD_of_ge _ _ (by omega)]
    constructor
    · intro h; cases h
    · intro hm; have := (h _ hm).2; omega
end Go.Ab
