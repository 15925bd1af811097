/- The references of events. -/
import Derived.Test.YtgcodedanljhpaaDoorLT
set_option linter.unusedSimpArgs false
set_option linter.unusedVariables false
section
set_option maxRecDepth 100000
set_option maxHeartbeats 8000000
namespace Go.Ab
open Go Go.Proofs
/-! ### the last event of a class -/
def LI (f : Str → Int) : List Ev → Int → Nat → Option Nat
  | [], _, _ => none
  | e :: r, c, o => match LI f r c (o + 1) with
    | some k => some k
    | none => if f e.chg = c then some o else none
theorem LI_snoc {f : Str → Int} : ∀ (es : List Ev) (x : Ev) (c : Int) (o : Nat), LI f (es ++ [x]) c o = if f x.chg = c then some (o + es.length) else LI f es c o
  | [], x, c, o => by simp [LI]
  | e :: es, x, c, o => by
    simp only [List.cons_append, LI, LI_snoc es x c (o + 1)]
    by_cases h : f x.chg = c
    · simp [h]; omega
    · simp [h]
theorem LI_spec {f : Str → Int} : ∀ (es : List Ev) (c : Int) (o : Nat), match LI f es c o with
    | none => lastK f es c = none
    | some k => o ≤ k ∧ ∃ e, es[k - o]? = some e ∧ lastK f es c = some e.kind
  | [], c, o => by simp [LI, lastK]
  | e :: es, c, o => by
    have ih := LI_spec (f := f) es c (o + 1)
    simp only [LI, lastK]
    cases h : LI f es c (o + 1) with
    | some k =>
      rw [h] at ih
      obtain ⟨h1, x, h2, h3⟩ := ih
      simp only
      refine ⟨by omega, x, ?_, by rw [h3]⟩
      rw [show k - o = (k - (o + 1)) + 1 from by omega, List.getElem?_cons_succ]; exact h2
    | none =>
      rw [h] at ih
      simp only at ih ⊢
      rw [ih]
      by_cases e1 : f e.chg = c
      · rw [if_pos e1]; simp [e1]
      · rw [if_neg e1]; simp [e1]
def lastI (f : Str → Int) (es : List Ev) (c : Int) : Int := match LI f es c 0 with
  | some k => (k : Int)
  | none => -1
theorem lastI_some {f : Str → Int} {es : List Ev} {c : Int} (h : 0 ≤ lastI f es c) : ∃ (k : Nat) (e : Ev), lastI f es c = k ∧ es[k]? = some e ∧ lastK f es c = some e.kind := by
  have hs := LI_spec (f := f) es c 0
  unfold lastI at h ⊢
  cases hL : LI f es c 0 with
  | none => rw [hL] at h; simp at h
  | some k =>
    rw [hL] at hs
    obtain ⟨_, e, h1, h2⟩ := hs
    exact ⟨k, e, rfl, by simpa using h1, h2⟩
theorem lastI_none {f : Str → Int} {es : List Ev} {c : Int} (h : lastI f es c < 0) : lastI f es c = -1 ∧ lastK f es c = none := by
  have hs := LI_spec (f := f) es c 0
  unfold lastI at h ⊢
  cases hL : LI f es c 0 with
  | none => rw [hL] at hs; exact ⟨rfl, hs⟩
  | some k => rw [hL] at h; simp at h; omega
theorem lastI_snoc {f : Str → Int} {es : List Ev} {x : Ev} {c : Int} : lastI f (es ++ [x]) c = if f x.chg = c then (es.length : Int) else lastI f es c := by
  unfold lastI
  rw [LI_snoc]
  split
  · rename_i h
    split at h
    · cases h; simp [*]
    · simp [*]
  · rename_i h
    split at h
    · cases h
    · simp [*]
end Go.Ab
end

section
/- The reference's events of views, and its error of a ledger. -/
set_option maxRecDepth 100000
set_option maxHeartbeats 8000000
namespace Go.Ab
open Go Go.Proofs
def newEvs (es : List Ev) : PV := .new 2 (es.map cEv)
theorem scalE {l : List Ev} : scal (newEvs l) = true := by
  simp only [scal, scal1, newEvs, List.all_map, List.all_eq_true]
  intro x _; rfl
theorem flE {l : List Ev} : ((l.map cEv).all fun e => e.all flat) = true := by
  rw [List.all_eq_true]; intro e he; obtain ⟨b, _, rfl⟩ := List.mem_map.1 he; rfl
end Go.Ab
end
