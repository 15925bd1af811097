import Derived.Test.YtfahjamoghjcfaaDoorJA
set_option linter.unusedSimpArgs false
set_option linter.unusedVariables false
set_option maxRecDepth 100000
namespace Go.Ab
open Go Go.Proofs

/-! ### the walk's order, in plain terms -/
section
variable {H : List (List Nat)} (hv : Vd H)
include hv
theorem mem_walk : ∀ (n : Nat) (L : List Bool) (o : Option Nat), cnt L = n → ∀ x : Int, x ∈ walkL H L o ↔ ∃ j : Nat, x = j ∧ Tr L j
  | 0, L, o, hn, x => by
    rw [walk_nil hn]
    constructor
    · intro h; cases h
    · rintro ⟨j, _, hj⟩
      have := cnt_pos.2 ⟨j, hj⟩
      omega
  | n + 1, L, o, hn, x => by
    have hp : 0 < cnt L := by omega
    have hf := (nxt_free hv (cnt_pos.1 hp) o).1
    have hc := cnt_set L _ hf
    rw [walk_cons hv hp, List.mem_cons, mem_walk n _ _ (by omega)]
    constructor
    · rintro (rfl | ⟨j, h1, h2⟩)
      · exact ⟨_, rfl, hf⟩
      · rw [tr_set (tr_lt hf)] at h2
        split at h2
        · cases h2
        · exact ⟨j, h1, h2⟩
    · rintro ⟨j, rfl, h2⟩
      by_cases e : j = nxt H L o
      · exact .inl (by rw [e])
      · refine .inr ⟨j, rfl, ?_⟩
        rw [tr_set (tr_lt hf), if_neg e]; exact h2
theorem mem_walkN {L : List Bool} {o : Option Nat} {x : Nat} : (x : Int) ∈ walkL H L o ↔ Tr L x := by
  rw [mem_walk hv _ L o rfl]
  constructor
  · rintro ⟨j, h1, h2⟩
    have : x = j := by omega
    subst this; exact h2
  · intro h; exact ⟨x, rfl, h⟩

theorem walk_nodup : ∀ (n : Nat) (L : List Bool) (o : Option Nat), cnt L = n → (walkL H L o).Nodup
  | 0, L, o, hn => by rw [walk_nil hn]; exact List.nodup_nil
  | n + 1, L, o, hn => by
    have hp : 0 < cnt L := by omega
    have hf := (nxt_free hv (cnt_pos.1 hp) o).1
    have hc := cnt_set L _ hf
    rw [walk_cons hv hp, List.nodup_cons]
    refine ⟨fun hm => ?_, walk_nodup n _ _ (by omega)⟩
    rw [mem_walkN hv, tr_set (tr_lt hf), if_pos rfl] at hm
    cases hm

theorem walk_at : ∀ (k : Nat) (L : List Bool) (o : Option Nat), k < cnt L → ∃ (L' : List Bool) (o' : Option Nat), (∀ x : Nat, Tr L' x ↔ (x : Int) ∈ (walkL H L o).drop k) ∧
    (walkL H L o)[k]? = some (nxt H L' o' : Int) ∧ Free H L' (nxt H L' o') ∧ (k = 0 → o' = o) ∧ (∀ j, k = j + 1 → ∃ u : Nat, (walkL H L o)[j]? = some (u : Int) ∧ o' = some u)
  | 0, L, o, hk => by
    refine ⟨L, o, fun x => by rw [List.drop_zero, mem_walkN hv], ?_, nxt_free hv (cnt_pos.1 hk) o, fun _ => rfl, fun j hj => by omega⟩
    rw [walk_cons hv hk]; rfl
  | k + 1, L, o, hk => by
    have hp : 0 < cnt L := by omega
    have hf := (nxt_free hv (cnt_pos.1 hp) o).1
    have hc := cnt_set L _ hf
    obtain ⟨L', o', h1, h2, h3, h4, h5⟩ := walk_at k (L.set (nxt H L o) false) (some (nxt H L o)) (by omega)
    rw [walk_cons hv hp]
    refine ⟨L', o', by simpa using h1, by simpa using h2, h3, fun e => by omega, fun j hj => ?_⟩
    cases j with
    | zero => exact ⟨nxt H L o, by simp, h4 (by omega)⟩
    | succ j =>
      obtain ⟨u, g1, g2⟩ := h5 j (by omega)
      exact ⟨u, by simpa using g1, g2⟩
end

/-- The first free one of a list, or a later one. -/
theorem pick_hold {H : List (List Nat)} {L : List Bool} : ∀ (p : List Nat) (n x : Nat), p[n]? = some x → (∀ m, m ≤ n → ∀ y, p[m]? = some y → y ≠ pickF H L p) → ¬ Free H L x
  | [], n, x, h, _ => by simp at h
  | k :: r, n, x, h, hne => by
    by_cases hf : Free H L k
    · have := hne 0 (by omega) k (by simp)
      rw [pick_hit hf] at this
      exact absurd rfl this
    · rw [pick_miss hf] at hne
      cases n with
      | zero => simp at h; subst h; exact hf
      | succ n => exact pick_hold r n x (by simpa using h) fun m hm y hy => hne (m + 1) (by omega) y (by simpa using hy)

def plc (l : List Int) (x : Int) : Int := fi (fun y => decide (y = x)) l
theorem plc_mem {l : List Int} {x : Int} : 0 ≤ plc l x ↔ x ∈ l := by
  unfold plc; rw [fi_any, List.any_eq_true]; simp
theorem plc_none {l : List Int} {x : Int} (h : x ∉ l) : plc l x = -1 := by
  unfold plc
  exact fi_none _ _ fun j y hy => by
    rw [decide_eq_false_iff_not]; rintro rfl; exact h (List.mem_of_getElem? hy)
theorem plc_at {l : List Int} (hn : l.Nodup) {k : Nat} {x : Int} (h : l[k]? = some x) : plc l x = k := by
  unfold plc
  refine fi_at _ _ k x h (fun j hj y hy => ?_) (by simp)
  rw [decide_eq_false_iff_not]
  rintro rfl
  have h1 := List.getElem?_eq_some_iff.1 h
  have h2 := List.getElem?_eq_some_iff.1 hy
  have h3 := List.pairwise_iff_getElem.1 hn j k h2.1 h1.1 hj
  exact h3 (by rw [h1.2, h2.2])
theorem plc_get {l : List Int} (hn : l.Nodup) {x : Int} {k : Nat} (h : plc l x = k) : l[k]? = some x := by
  have hm : x ∈ l := plc_mem.1 (by omega)
  obtain ⟨j, hj⟩ := List.getElem?_of_mem hm
  have := plc_at hn hj
  have : j = k := by omega
  subst this; exact hj
/-- The places, as they stand when the first k have been written. -/
def plcs (n : Nat) (l : List Int) : List Int := (List.range n).map fun (x : Nat) => plc l x
theorem plcs_get {n : Nat} {l : List Int} {x : Nat} (h : x < n) : (plcs n l)[x]? = some (plc l x) := by
  unfold plcs; rw [List.getElem?_map, List.getElem?_range h]; rfl
theorem plcs_len {n : Nat} {l : List Int} : (plcs n l).length = n := by simp [plcs]
theorem plcs_nil {n : Nat} : plcs n [] = List.replicate n (-1) := by
  apply List.ext_getElem?
  intro j
  by_cases hj : j < n
  · rw [plcs_get hj, List.getElem?_replicate, if_pos hj]; rfl
  · rw [List.getElem?_eq_none (by rw [plcs_len]; omega), List.getElem?_eq_none (by simp; omega)]
theorem plcs_step {n : Nat} {w : List Int} (hn : w.Nodup) {k u : Nat} (hu : w[k]? = some (u : Int)) (hl : u < n) : plcs n (w.take (k + 1)) = (plcs n (w.take k)).set u (k : Int) := by
  have hk : k < w.length := (List.getElem?_eq_some_iff.1 hu).1
  have hnt : (w.take (k + 1)).Nodup := hn.sublist (List.take_sublist _ _)
  have hnt' : (w.take k).Nodup := hn.sublist (List.take_sublist _ _)
  apply List.ext_getElem?
  intro j
  by_cases hj : j < n
  · rw [plcs_get hj, List.getElem?_set]
    by_cases e : u = j
    · subst e
      rw [if_pos rfl, if_pos (by rw [plcs_len]; exact hl), plc_at (k := k) hnt (by rw [List.getElem?_take, if_pos (by omega)]; exact hu)]
    · rw [if_neg e, plcs_get hj]
      congr 1
      by_cases hm : (j : Int) ∈ w.take k
      · obtain ⟨i, hi⟩ := List.getElem?_of_mem hm
        rw [plc_at hnt' hi, plc_at (k := i) hnt]
        rw [List.getElem?_take] at hi ⊢
        split at hi
        · rw [if_pos (by omega)]; exact hi
        · cases hi
      · rw [plc_none hm, plc_none]
        rw [take_succ hu, List.mem_append]
        rintro (h | h)
        · exact hm h
        · simp at h; omega
  · rw [List.getElem?_eq_none (by rw [plcs_len]; omega), List.getElem?_eq_none (by rw [List.length_set, plcs_len]; omega)]

theorem lst_all : ∀ (L : List Bool) (s : Nat), (∀ x, x < L.length → Tr L x) → (lst s L).length = L.length
  | [], s, _ => rfl
  | b :: L, s, h => by
    have h0 := h 0 (by simp)
    have ih := lst_all L (s + 1) fun x hx => by have := h (x + 1) (by simp; omega); simpa [Tr] using this
    simp [Tr] at h0
    subst h0
    simp [lst, ih]
theorem heads_all {H : List (List Nat)} (hv : Vd H) {F : List Nat} (hF : ∀ x, x < H.length → ¬ PB H H.length x → x ∈ F) : ∀ (n x : Nat), H.length - x = n → x < H.length → Anc H F x := by
  intro n
  induction n using Nat.strongRecOn with
  | ind n ih =>
    intro x hn hx
    by_cases hb : PB H H.length x
    · obtain ⟨j, p, h1, h2, h3⟩ := hb
      have := hv j p h2 x h3
      exact .up (ih (H.length - j) (by omega) j rfl h1) h2 h3
    · exact .base (hF x hx hb)
theorem plc_drop {l : List Int} (hn : l.Nodup) {x : Int} {k : Nat} : (k : Int) ≤ plc l x ↔ x ∈ l.drop k := by
  constructor
  · intro h
    have hm : x ∈ l := plc_mem.1 (by omega)
    obtain ⟨j, hj⟩ := List.getElem?_of_mem hm
    have := plc_at hn hj
    exact List.mem_of_getElem? (i := j - k) (by rw [List.getElem?_drop, show k + (j - k) = j from by omega]; exact hj)
  · intro h
    obtain ⟨j, hj⟩ := List.getElem?_of_mem h
    rw [List.getElem?_drop] at hj
    have := plc_at hn hj
    omega
theorem walk_facts {H : List (List Nat)} (hv : Vd H) (L : List Bool) {w : List Int} (hw : w = walkL H L none) :
    w.Nodup ∧ (∀ x : Int, x ∈ w ↔ ∃ j : Nat, x = j ∧ Tr L j) ∧
    (∀ (k x : Nat), w[k]? = some (x : Int) → ∀ (c : Nat) (p : List Nat), H[c]? = some p → (k : Int) ≤ plc w c → x ∉ p) ∧
    (∀ (k u v : Nat) (p : List Nat), w[k]? = some (u : Int) → w[k + 1]? = some (v : Int) → H[u]? = some p → ∀ (j x : Nat), p[j]? = some x → (∀ m, m ≤ j → ∀ y, p[m]? = some y → y ≠ v) →
      ((k + 1 : Nat) : Int) ≤ plc w x → ∃ (c : Nat) (q : List Nat), H[c]? = some q ∧ ((k + 1 : Nat) : Int) ≤ plc w c ∧ x ∈ q) := by
  have hn : w.Nodup := by rw [hw]; exact walk_nodup hv _ _ _ rfl
  have hlen : w.length = cnt L := by rw [hw]; exact walk_len _ _ _
  refine ⟨hn, fun x => by rw [hw]; exact mem_walk hv _ _ _ rfl x, fun k x hx c p hp hc => ?_, fun k u v p hu hv' hp j x hj hne hx => ?_⟩
  · have hk := (List.getElem?_eq_some_iff.1 hx).1
    obtain ⟨L', o', h1, h2, h3, _⟩ := walk_at hv k L none (by omega)
    rw [← hw] at h1 h2
    rw [hx] at h2
    have e : x = nxt H L' o' := by have := Option.some.inj h2; omega
    rw [e]
    exact h3.2 c p hp ((h1 c).2 ((plc_drop hn).1 hc))
  · have hk := (List.getElem?_eq_some_iff.1 hv').1
    obtain ⟨L', o', h1, h2, h3, _, h5⟩ := walk_at hv (k + 1) L none (by omega)
    rw [← hw] at h1 h2 h5
    obtain ⟨u', g1, g2⟩ := h5 k rfl
    rw [hu] at g1
    have e : u = u' := by have := Option.some.inj g1; omega
    subst e
    rw [hv'] at h2
    have e : v = nxt H L' o' := by have := Option.some.inj h2; omega
    subst g2
    have e2 : nxt H L' (some u) = pickF H L' p := by simp only [nxt, hp, Option.getD_some]
    rw [e2] at e
    have hnf := pick_hold (H := H) (L := L') p j x hj fun m hm y hy => by rw [← e]; exact hne m hm y hy
    have hT : Tr L' x := (h1 x).2 ((plc_drop hn).1 hx)
    apply Classical.byContradiction; intro hc
    apply hnf
    refine ⟨hT, fun c q hq hT' hm => hc ⟨c, q, hq, (plc_drop hn).2 ((h1 c).1 hT'), hm⟩⟩
end Go.Ab
