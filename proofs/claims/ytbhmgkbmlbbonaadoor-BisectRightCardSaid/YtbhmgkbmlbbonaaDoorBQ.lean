import Derived.Test.YtbhmgkbmlbbonaaDoorBP
set_option linter.unusedSimpArgs false
set_option linter.unusedVariables false
set_option maxRecDepth 100000
namespace Go.Ab
open Go

/-! ### runs, in plain terms -/
def runL (R : Int → Int → Bool) : Nat → List Int → Int → List Int
  | 0, _, _ => []
  | f + 1, s, c => if s.length ≤ 1 then [] else nxt R s :: runL R f (s.filter fun x => R x (nxt R s) == R c (nxt R s)) c
theorem eq_parts {s : List Int} {p : Int → Bool} {b : Bool} : (s.filter fun x => p x == b) = if b then s.filter p else s.filter fun x => !p x := by
  cases b
  · simp only [Bool.false_eq_true, if_false]; apply List.filter_congr; intro x _; cases p x <;> rfl
  · simp only [if_true]; apply List.filter_congr; intro x _; cases p x <;> rfl
theorem nxt_lt {R : Int → Int → Bool} {s : List Int} (h : Ok R s) (h2 : 2 ≤ s.length) (b : Bool) : (s.filter fun x => R x (nxt R s) == b).length < s.length := by
  obtain ⟨_, hv⟩ := nxt_spec h h2
  obtain ⟨h3, h4, _⟩ := val_spec hv
  have := part_lt h3 h4
  rw [eq_parts]; split <;> omega
theorem run_fuel {R : Int → Int → Bool} : ∀ (f g : Nat) (s : List Int) (c : Int), Ok R s → s.length ≤ f → s.length ≤ g → runL R f s c = runL R g s c
  | 0, g, s, c, _, h1, _ => by
    have : s = [] := List.eq_nil_of_length_eq_zero (by omega)
    subst this
    cases g <;> simp [runL]
  | f + 1, 0, s, c, _, _, h2 => by
    have : s = [] := List.eq_nil_of_length_eq_zero (by omega)
    subst this
    simp [runL]
  | f + 1, g + 1, s, c, ho, h1, h2 => by
    simp only [runL]
    split
    · rfl
    · have := nxt_lt ho (by omega) (R c (nxt R s))
      rw [run_fuel f g _ c (ho.filt _) (by omega) (by omega)]
def runV (R : Int → Int → Bool) (s : List Int) (c : Int) : List Int := runL R s.length s c
theorem run_step {R : Int → Int → Bool} {s : List Int} {c : Int} (ho : Ok R s) (h2 : 2 ≤ s.length) : runV R s c = nxt R s :: runV R (s.filter fun x => R x (nxt R s) == R c (nxt R s)) c := by
  have := nxt_lt ho h2 (R c (nxt R s))
  unfold runV
  obtain ⟨n, hn⟩ : ∃ n, s.length = n + 1 := ⟨s.length - 1, by omega⟩
  rw [hn, runL, if_neg (by omega)]
  congr 1
  exact run_fuel _ _ _ c (ho.filt _) (by omega) (Nat.le_refl _)
theorem run_one {R : Int → Int → Bool} {s : List Int} {c : Int} (h : s.length ≤ 1) : runV R s c = [] := by
  unfold runV
  cases hs : s.length with
  | zero => rfl
  | succ n => rw [runL, if_pos h]
theorem run_len {R : Int → Int → Bool} : ∀ (n : Nat) (s : List Int) (c : Int), s.length = n → Ok R s → (runV R s c).length ≤ n
  | 0, s, c, hl, _ => by rw [run_one (by omega)]; simp
  | 1, s, c, hl, _ => by rw [run_one (by omega)]; simp
  | n + 2, s, c, hl, ho => by
    rw [run_step ho (by omega), List.length_cons]
    have h1 := nxt_lt ho (by omega) (R c (nxt R s))
    have h2 := run_len _ _ c rfl (ho.filt fun x => R x (nxt R s) == R c (nxt R s))
    omega
termination_by n => n

def allM (n : Nat) : BitVec 64 := 1#64 <<< n - 1#64
theorem allM_get {n i : Nat} (hn : n ≤ 12) : (allM n).getLsbD i = decide (i < n) := by
  have key : ∀ n : Fin 13, ∀ i : Fin 64, (allM n.val).getLsbD i.val = decide (i.val < n.val) := by decide +kernel
  by_cases hi : i < 64
  · exact key ⟨n, by omega⟩ ⟨i, hi⟩
  · rw [BitVec.getLsbD_of_ge _ _ (by omega), decide_eq_false (by omega)]
theorem sel_all {l : List Int} (hl : l.length ≤ 12) : sel l (allM l.length) = l := by
  unfold sel
  have key : ∀ n, n ≤ l.length → ((List.range n).filterMap fun i => if (allM l.length).getLsbD i then l[i]? else none) = l.take n := fun n => by
    induction n with
    | zero => simp
    | succ n ih =>
      intro hn
      rw [List.range_succ, List.filterMap_append, ih (by omega)]
      have hx : l[n]? = some l[n] := List.getElem?_eq_getElem (by omega)
      have hb : (allM l.length).getLsbD n = true := by rw [allM_get hl]; exact decide_eq_true (by omega)
      rw [take_succ hx]; simp [hb, hx]
  rw [key _ (Nat.le_refl _), List.take_length]
end Go.Ab
