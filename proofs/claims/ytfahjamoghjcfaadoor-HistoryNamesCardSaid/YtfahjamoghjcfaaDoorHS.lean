import Derived.Test.YtfahjamoghjcfaaDoorHR
set_option linter.unusedSimpArgs false
set_option linter.unusedVariables false
set_option maxRecDepth 100000
namespace Go.Ab
open Go Go.Proofs

/-! ### the walk, in plain terms -/
def cnt (L : List Bool) : Nat := (lst 0 L).length
theorem lst_len_eq : ∀ (L : List Bool) (s s' : Nat), (lst s L).length = (lst s' L).length
  | [], _, _ => rfl
  | b :: L, s, s' => by
    have := lst_len_eq L (s + 1) (s' + 1)
    simp only [lst]; cases b <;> simp [this]
theorem cnt_set : ∀ (L : List Bool) (x : Nat), Tr L x → cnt (L.set x false) + 1 = cnt L
  | [], x, h => by simp [Tr] at h
  | b :: L, 0, h => by
    simp [Tr] at h; subst h
    simp [cnt, lst]
  | b :: L, x + 1, h => by
    have ih := cnt_set L x (by simpa [Tr] using h)
    unfold cnt at ih ⊢
    simp only [List.set_cons_succ, lst]
    rw [lst_len_eq L 0 (0 + 1), lst_len_eq (L.set x false) 0 (0 + 1)] at ih
    cases b <;> simp <;> omega
theorem cnt_pos {L : List Bool} : 0 < cnt L ↔ ∃ x, Tr L x := by
  constructor
  · intro h
    unfold cnt at h
    obtain ⟨y, hy⟩ := List.exists_mem_of_length_pos h
    obtain ⟨j, h1, _⟩ := (mem_lst L 0 y).1 hy
    exact ⟨j, h1⟩
  · rintro ⟨x, h⟩
    have := cnt_set L x h; omega

/-- The largest that is left. -/
noncomputable def topL (L : List Bool) : Nat := (((List.range L.length).reverse.find? fun k => L[k]? == some true)).getD 0
theorem top_ex : ∀ (n : Nat) (L : List Bool), (∃ x, x < n ∧ Tr L x) → ∃ t, t < n ∧ Tr L t ∧ ∀ j, j < n → Tr L j → j ≤ t
  | 0, L, ⟨x, h, _⟩ => by omega
  | n + 1, L, ⟨x, h1, h2⟩ => by
    by_cases h : Tr L n
    · exact ⟨n, by omega, h, fun j hj _ => by omega⟩
    · obtain ⟨t, g1, g2, g3⟩ := top_ex n L ⟨x, by
        by_cases e : x = n
        · subst e; exact absurd h2 h
        · omega, h2⟩
      refine ⟨t, by omega, g2, fun j hj hT => ?_⟩
      by_cases e : j = n
      · subst e; exact absurd hT h
      · exact g3 j (by omega) hT
open Classical in
noncomputable def top (L : List Bool) : Nat := if h : ∃ t, Tr L t ∧ ∀ j, Tr L j → j ≤ t then Classical.choose h else 0
theorem tr_lt {L : List Bool} {x : Nat} (h : Tr L x) : x < L.length := (List.getElem?_eq_some_iff.1 h).1
theorem top_spec {L : List Bool} (h : ∃ x, Tr L x) : Tr L (top L) ∧ ∀ j, Tr L j → j ≤ top L := by
  obtain ⟨x, hx⟩ := h
  obtain ⟨t, h1, h2, h3⟩ := top_ex L.length L ⟨x, tr_lt hx, hx⟩
  have he : ∃ t, Tr L t ∧ ∀ j, Tr L j → j ≤ t := ⟨t, h2, fun j hj => h3 j (tr_lt hj) hj⟩
  unfold top
  rw [dif_pos he]
  exact Classical.choose_spec he
theorem top_eq {L : List Bool} {t : Nat} (h1 : Tr L t) (h2 : ∀ j, Tr L j → j ≤ t) : top L = t := by
  have h := top_spec ⟨t, h1⟩
  have := h2 _ h.1
  have := h.2 _ h1
  omega
theorem top_free {H : List (List Nat)} (hv : Vd H) {L : List Bool} (h : ∃ x, Tr L x) : Free H L (top L) := by
  have ht := top_spec h
  refine ⟨ht.1, fun c p hc hT hm => ?_⟩
  have := hv c p hc _ hm
  have := ht.2 c hT
  omega

open Classical in
/-- The first free one of a list; else the largest left. -/
noncomputable def pickF (H : List (List Nat)) (L : List Bool) : List Nat → Nat
  | [] => top L
  | k :: r => if Free H L k then k else pickF H L r
noncomputable def nxt (H : List (List Nat)) (L : List Bool) : Option Nat → Nat
  | none => top L
  | some l => pickF H L ((H[l]?).getD [])
theorem pick_free {H : List (List Nat)} (hv : Vd H) {L : List Bool} (h : ∃ x, Tr L x) : ∀ p, Free H L (pickF H L p)
  | [] => top_free hv h
  | k :: r => by
    unfold pickF
    split
    · assumption
    · exact pick_free hv h r
theorem nxt_free {H : List (List Nat)} (hv : Vd H) {L : List Bool} (h : ∃ x, Tr L x) : ∀ o, Free H L (nxt H L o)
  | none => top_free hv h
  | some l => pick_free hv h _

noncomputable def walkF (H : List (List Nat)) : Nat → List Bool → Option Nat → List Int
  | 0, _, _ => []
  | n + 1, L, o => (nxt H L o : Int) :: walkF H n (L.set (nxt H L o) false) (some (nxt H L o))
noncomputable def walkL (H : List (List Nat)) (L : List Bool) (o : Option Nat) : List Int := walkF H (cnt L) L o
theorem walk_nil {H : List (List Nat)} {L : List Bool} {o : Option Nat} (h : cnt L = 0) : walkL H L o = [] := by unfold walkL; rw [h]; rfl
theorem walk_cons {H : List (List Nat)} (hv : Vd H) {L : List Bool} {o : Option Nat} (h : 0 < cnt L) : walkL H L o = (nxt H L o : Int) :: walkL H (L.set (nxt H L o) false) (some (nxt H L o)) := by
  have hf := (nxt_free hv (cnt_pos.1 h) o).1
  have hc := cnt_set L _ hf
  unfold walkL
  rw [← hc]; rfl
theorem walk_len {H : List (List Nat)} : ∀ (n : Nat) (L : List Bool) (o : Option Nat), (walkF H n L o).length = n
  | 0, _, _ => rfl
  | n + 1, L, o => by simp [walkF, walk_len n]

noncomputable def walkI (h : List (List Int)) (l : List Int) : List Int := if hasked h l = 0 then walkL (fromI h) (ancs (fromI h) (l.map Int.toNat)) none else []
end Go.Ab
