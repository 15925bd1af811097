import Derived.Test.YtbhmgkbmlbbonaaDoorAbW64
set_option linter.unusedSimpArgs false
set_option linter.unusedVariables false
set_option maxRecDepth 100000
namespace Go.Ab
open Go

/-! ### the depth of suspects, in plain terms: 'R c a': c is an ancestor of a -/
def mins : List Nat → Nat
  | [] => 0
  | [x] => x
  | x :: y :: l => min x (mins (y :: l))
theorem mins_le : ∀ (l : List Nat) (x : Nat), x ∈ l → mins l ≤ x
  | [], x, h => by simp at h
  | [y], x, h => by simp at h; simp [mins, h]
  | y :: z :: l, x, h => by
    rw [mins]
    rcases List.mem_cons.1 h with rfl | h
    · exact Nat.min_le_left _ _
    · exact Nat.le_trans (Nat.min_le_right _ _) (mins_le (z :: l) x h)
theorem mins_mem : ∀ (l : List Nat), l ≠ [] → mins l ∈ l
  | [], h => absurd rfl h
  | [y], _ => by simp [mins]
  | y :: z :: l, _ => by
    rw [mins]
    have := mins_mem (z :: l) (by simp)
    rcases Nat.le_total y (mins (z :: l)) with h | h
    · rw [Nat.min_eq_left h]; simp
    · rw [Nat.min_eq_right h]; exact List.mem_cons_of_mem _ this

def valO (R : Int → Int → Bool) (d : List Int → Nat) (s : List Int) (a : Int) : Option Nat :=
  if (s.filter fun c => R c a) = [] ∨ (s.filter fun c => !R c a) = [] then none else some (1 + max (d (s.filter fun c => R c a)) (d (s.filter fun c => !R c a)))
def dep (R : Int → Int → Bool) : Nat → List Int → Nat
  | 0, _ => 0
  | f + 1, s => if s.length ≤ 1 then 0 else mins (s.filterMap (valO R (dep R f) s))
def D (R : Int → Int → Bool) (s : List Int) : Nat := dep R s.length s
abbrev val (R : Int → Int → Bool) : List Int → Int → Option Nat := valO R (D R)
def nxt (R : Int → Int → Bool) (s : List Int) : Int := (s.find? fun a => val R s a == some (D R s)).getD 0

theorem fmap_congr {α β : Type} {f g : α → Option β} : ∀ {l : List α}, (∀ a ∈ l, f a = g a) → l.filterMap f = l.filterMap g
  | [], _ => rfl
  | a :: l, h => by rw [List.filterMap_cons, List.filterMap_cons, h a (by simp), fmap_congr fun b hb => h b (by simp [hb])]
theorem two_parts {α : Type} (s : List α) (p : α → Bool) : (s.filter p).length + (s.filter fun c => !p c).length = s.length := by
  induction s with
  | nil => rfl
  | cons a s ih => cases h : p a <;> simp [h] <;> omega
theorem part_lt {s : List Int} {p : Int → Bool} (h1 : (s.filter p) ≠ []) (h2 : (s.filter fun c => !p c) ≠ []) : (s.filter p).length < s.length ∧ (s.filter fun c => !p c).length < s.length := by
  have := two_parts s p
  have := List.length_pos_iff.2 h1
  have := List.length_pos_iff.2 h2
  omega
theorem dep_fuel {R : Int → Int → Bool} : ∀ (f g : Nat) (s : List Int), s.length ≤ f → s.length ≤ g → dep R f s = dep R g s
  | 0, g, s, h1, _ => by
    have : s = [] := List.eq_nil_of_length_eq_zero (by omega)
    subst this
    cases g <;> simp [dep]
  | f + 1, 0, s, _, h2 => by
    have : s = [] := List.eq_nil_of_length_eq_zero (by omega)
    subst this
    simp [dep]
  | f + 1, g + 1, s, h1, h2 => by
    simp only [dep]
    split
    · rfl
    · congr 1
      apply fmap_congr
      intro a _
      unfold valO
      split
      · rfl
      · rename_i hn
        rw [not_or] at hn
        have := part_lt hn.1 hn.2
        rw [dep_fuel f g _ (by omega) (by omega), dep_fuel f g (s.filter fun c => !R c a) (by omega) (by omega)]
theorem D_eq {R : Int → Int → Bool} {s : List Int} : D R s = if s.length ≤ 1 then 0 else mins (s.filterMap (val R s)) := by
  unfold D
  cases hn : s.length with
  | zero => simp [dep]
  | succ n =>
    simp only [dep, hn]
    split
    · rfl
    · congr 1
      apply fmap_congr
      intro a _
      show valO R (dep R n) s a = valO R (D R) s a
      unfold valO
      split
      · rfl
      · rename_i hm
        rw [not_or] at hm
        have := part_lt hm.1 hm.2
        rw [D, D, dep_fuel n _ _ (by omega) (Nat.le_refl _), dep_fuel n _ (s.filter fun c => !R c a) (by omega) (Nat.le_refl _)]

/-- Suspects in order: each one is its own ancestor, and none has a later one. -/
structure Ok (R : Int → Int → Bool) (s : List Int) : Prop where
  refl : ∀ c ∈ s, R c c = true
  low : ∀ c ∈ s, ∀ d ∈ s, c < d → R d c = false
  inc : s.Pairwise (· < ·)
theorem Ok.sub {R : Int → Int → Bool} {s t : List Int} (h : Ok R s) (hs : t.Sublist s) : Ok R t :=
  ⟨fun c hc => h.refl c (hs.subset hc), fun c hc d hd => h.low c (hs.subset hc) d (hs.subset hd), h.inc.sublist hs⟩
theorem Ok.filt {R : Int → Int → Bool} {s : List Int} (h : Ok R s) (p : Int → Bool) : Ok R (s.filter p) := h.sub List.filter_sublist
theorem Ok.head {R : Int → Int → Bool} {c : Int} {t : List Int} (h : Ok R (c :: t)) : ((c :: t).filter fun x => R x c) = [c] ∧ ((c :: t).filter fun x => !R x c) = t := by
  have hc := h.refl c (by simp)
  have ht : ∀ x ∈ t, R x c = false := fun x hx => h.low c (by simp) x (by simp [hx]) ((List.pairwise_cons.1 h.inc).1 x hx)
  refine ⟨?_, ?_⟩
  · rw [List.filter_cons, if_pos hc]
    congr 1
    rw [List.filter_eq_nil_iff]; intro x hx; simp [ht x hx]
  · rw [List.filter_cons, if_neg (by simp [hc]), List.filter_eq_self]
    intro x hx; simp [ht x hx]
theorem val_head {R : Int → Int → Bool} {c : Int} {t : List Int} (h : Ok R (c :: t)) (ht : t ≠ []) : val R (c :: t) c = some (1 + D R t) := by
  unfold val valO
  rw [h.head.1, h.head.2, if_neg (by simp [ht])]
  have : D R [c] = 0 := by rw [D_eq]; simp
  rw [this]; simp
theorem vals_ne {R : Int → Int → Bool} {s : List Int} (h : Ok R s) (h2 : 2 ≤ s.length) : s.filterMap (val R s) ≠ [] := by
  rcases s with _ | ⟨c, _ | ⟨d, t⟩⟩
  · simp at h2
  · simp at h2
  · intro hn
    rw [List.filterMap_eq_nil_iff] at hn
    have := hn c (by simp)
    rw [val_head h (by simp)] at this
    cases this
theorem D_has {R : Int → Int → Bool} {s : List Int} (h : Ok R s) (h2 : 2 ≤ s.length) : ∃ a ∈ s, val R s a = some (D R s) := by
  have := mins_mem _ (vals_ne h h2)
  rw [List.mem_filterMap] at this
  obtain ⟨a, ha, hv⟩ := this
  refine ⟨a, ha, ?_⟩
  rw [hv, D_eq (s := s), if_neg (by omega)]
theorem D_min {R : Int → Int → Bool} {s : List Int} {a : Int} {d : Nat} (h2 : 2 ≤ s.length) (ha : a ∈ s) (hv : val R s a = some d) : D R s ≤ d := by
  rw [D_eq, if_neg (by omega)]
  exact mins_le _ _ (List.mem_filterMap.2 ⟨a, ha, hv⟩)
theorem D_lt {R : Int → Int → Bool} : ∀ (n : Nat) (s : List Int), s.length = n → Ok R s → 1 ≤ n → D R s + 1 ≤ n
  | 0, s, _, _, h1 => by omega
  | 1, s, hl, _, _ => by rw [D_eq, if_pos (by omega)]; omega
  | n + 2, s, hl, h, _ => by
    rcases s with _ | ⟨c, _ | ⟨d, t⟩⟩
    · simp at hl
    · simp at hl
    · have h1 := D_min (R := R) (s := c :: d :: t) (by simp) (by simp) (val_head h (by simp))
      have h2 := D_lt (R := R) (n + 1) (d :: t) (by simpa using hl) (h.sub (List.sublist_cons_self _ _)) (by omega)
      omega
theorem val_spec {R : Int → Int → Bool} {s : List Int} {a : Int} {d : Nat} (h : val R s a = some d) : (s.filter fun c => R c a) ≠ [] ∧ (s.filter fun c => !R c a) ≠ [] ∧ d = 1 + max (D R (s.filter fun c => R c a)) (D R (s.filter fun c => !R c a)) := by
  unfold val valO at h
  split at h
  · cases h
  · rename_i hn; rw [not_or] at hn; cases h; exact ⟨hn.1, hn.2, rfl⟩
theorem nxt_spec {R : Int → Int → Bool} {s : List Int} (h : Ok R s) (h2 : 2 ≤ s.length) : nxt R s ∈ s ∧ val R s (nxt R s) = some (D R s) := by
  obtain ⟨a, ha, hv⟩ := D_has h h2
  unfold nxt
  cases hf : s.find? fun a => val R s a == some (D R s) with
  | none => have := List.find?_eq_none.1 hf a ha; simp [hv] at this
  | some b =>
    have h1 := List.find?_some hf
    exact ⟨List.mem_of_find?_eq_some hf, by simpa using h1⟩

/-! ### suspects by bits -/
def sel (l : List Int) (s : BitVec 64) : List Int := (List.range l.length).filterMap fun i => if s.getLsbD i then l[i]? else none
def mk64 (f : Nat → Bool) : Nat → BitVec 64
  | 0 => 0#64
  | n + 1 => mk64 f n ||| (if f n then 1#64 <<< n else 0#64)
theorem mk64_get {f : Nat → Bool} : ∀ (n j : Nat), n ≤ 64 → (mk64 f n).getLsbD j = (decide (j < n) && f j)
  | 0, j, _ => by simp [mk64]
  | n + 1, j, hn => by
    rw [mk64, BitVec.getLsbD_or, mk64_get n j (by omega)]
    have h1 : (1#64 <<< n).getLsbD j = decide (j = n) := by
      rw [show (1#64 <<< n) = BitVec.twoPow 64 n from by rw [BitVec.twoPow_eq], BitVec.getLsbD_twoPow]
      by_cases h : j = n
      · subst h; simp; omega
      · have : ¬ n = j := fun e => h e.symm
        simp [h, this]
    by_cases hj : j = n
    · subst hj
      cases hf : f j
      · simp
      · simp [h1]
    · have hlt : decide (j < n + 1) = decide (j < n) := by rw [decide_eq_decide]; omega
      rw [hlt]
      cases hf : f n
      · simp
      · simp [h1, hj]
theorem sel_sub {l : List Int} {s : BitVec 64} : (sel l s).Sublist l := by
  have e : l = (List.range l.length).filterMap fun i => l[i]? := by
    apply List.ext_getElem?
    intro i
    have key : ∀ n, n ≤ l.length → ((List.range n).filterMap fun i => l[i]?) = l.take n := fun n => by
      induction n with
      | zero => simp
      | succ n ih =>
        intro hn
        rw [List.range_succ, List.filterMap_append, ih (by omega)]
        have hx : l[n]? = some l[n] := List.getElem?_eq_getElem (by omega)
        rw [take_succ hx]; simp [hx]
    rw [key _ (Nat.le_refl _), List.take_length]
  have h := fun (r : List Nat) => show (r.filterMap fun i => if s.getLsbD i then l[i]? else none).Sublist (r.filterMap fun i => l[i]?) from by
    induction r with
    | nil => exact .slnil
    | cons i r ih =>
      rw [List.filterMap_cons, List.filterMap_cons]
      cases hb : s.getLsbD i <;> cases hi : l[i]? <;> simp only [Bool.false_eq_true, if_false, if_true]
      · exact ih
      · exact .cons _ ih
      · exact ih
      · exact .cons_cons _ ih
  have h2 := h (List.range l.length)
  rw [← e] at h2
  exact h2
theorem sel_filt {l : List Int} {s : BitVec 64} {p : Int → Bool} {t : BitVec 64} (h : ∀ i x, l[i]? = some x → t.getLsbD i = (s.getLsbD i && p x)) : sel l t = (sel l s).filter p := by
  unfold sel
  rw [List.filter_filterMap]
  apply fmap_congr
  intro i hi
  have hi' := List.mem_range.1 hi
  have hx : l[i]? = some l[i] := List.getElem?_eq_getElem hi'
  rw [h i _ hx, hx]
  cases hs : s.getLsbD i <;> cases hp : p l[i] <;> simp [hp, hs, Option.filter]
theorem sel_mem {l : List Int} {s : BitVec 64} {x : Int} : x ∈ sel l s ↔ ∃ i, s.getLsbD i = true ∧ l[i]? = some x := by
  unfold sel
  rw [List.mem_filterMap]
  constructor
  · rintro ⟨i, hi, h⟩
    split at h
    · rename_i hb; exact ⟨i, hb, h⟩
    · cases h
  · rintro ⟨i, hb, h⟩
    exact ⟨i, List.mem_range.2 (List.getElem?_eq_some_iff.1 h).1, by rw [if_pos hb]; exact h⟩
theorem sel_nil {l : List Int} {s : BitVec 64} (h : ∀ i, s.getLsbD i = true → i < l.length) : sel l s = [] ↔ s = 0#64 := by
  constructor
  · intro he
    apply BitVec.eq_of_getLsbD_eq
    intro i hi
    rw [BitVec.getLsbD_zero, Bool.eq_false_iff]
    intro hb
    have : l[i]'(h i hb) ∈ sel l s := sel_mem.2 ⟨i, hb, List.getElem?_eq_getElem _⟩
    rw [he] at this; simp at this
  · rintro rfl
    unfold sel
    rw [List.filterMap_eq_nil_iff]
    intro i _; simp

/-! ### the first one that is best -/
def scan (n : Nat) (v : Nat → Option Nat) : Nat → Nat × Int
  | 0 => (n, -1)
  | i + 1 => match v i with
    | none => scan n v i
    | some d => if d < (scan n v i).1 then (d, (i : Int)) else scan n v i
theorem scan_le {n : Nat} {v : Nat → Option Nat} : ∀ k, (∀ i d, i < k → v i = some d → (scan n v k).1 ≤ d) ∧ (scan n v k).1 ≤ n ∧
    ((scan n v k).1 < n → ∃ i, i < k ∧ v i = some (scan n v k).1 ∧ (scan n v k).2 = i ∧ ∀ j d, j < i → v j = some d → (scan n v k).1 < d)
  | 0 => ⟨fun i d hi => by omega, Nat.le_refl _, fun h => by simp [scan] at h⟩
  | k + 1 => by
    obtain ⟨h1, h2, h3⟩ := scan_le (n := n) (v := v) k
    simp only [scan]
    cases hv : v k with
    | none =>
      simp only
      refine ⟨fun i d hi hd => ?_, h2, fun h => ?_⟩
      · by_cases e : i = k
        · subst e; rw [hv] at hd; cases hd
        · exact h1 i d (by omega) hd
      · obtain ⟨i, g1, g2⟩ := h3 h; exact ⟨i, by omega, g2⟩
    | some d0 =>
      simp only
      by_cases hlt : d0 < (scan n v k).1
      · rw [if_pos hlt]
        refine ⟨fun i d hi hd => ?_, by simp only; omega, fun h => ⟨k, by omega, hv, rfl, fun j d hj hd => ?_⟩⟩
        · by_cases e : i = k
          · subst e; rw [hv] at hd; cases hd; exact Nat.le_refl _
          · have := h1 i d (by omega) hd; simp only; omega
        · have := h1 j d hj hd; simp only; omega
      · rw [if_neg hlt]
        refine ⟨fun i d hi hd => ?_, h2, fun h => ?_⟩
        · by_cases e : i = k
          · subst e; rw [hv] at hd; cases hd; omega
          · exact h1 i d (by omega) hd
        · obtain ⟨i, g1, g2⟩ := h3 h; exact ⟨i, by omega, g2⟩

def vbit (R : Int → Int → Bool) (l : List Int) (s : BitVec 64) (i : Nat) : Option Nat := if s.getLsbD i then (l[i]?).bind (val R (sel l s)) else none
theorem scan_best {R : Int → Int → Bool} {l : List Int} {s : BitVec 64} (hok : Ok R l) (h2 : 2 ≤ (sel l s).length) (hn : (sel l s).length ≤ l.length) :
    ∃ i : Nat, scan l.length (vbit R l s) l.length = (D R (sel l s), (i : Int)) ∧ s.getLsbD i = true ∧ l[i]? = some (nxt R (sel l s)) := by
  have ho := hok.sub (sel_sub (l := l) (s := s))
  obtain ⟨a, ha, hv⟩ := D_has ho h2
  obtain ⟨k, hk1, hk2⟩ := sel_mem.1 ha
  have hkl := (List.getElem?_eq_some_iff.1 hk2).1
  have hvk : vbit R l s k = some (D R (sel l s)) := by unfold vbit; rw [if_pos hk1, hk2]; exact hv
  obtain ⟨h3, _, h4⟩ := scan_le (n := l.length) (v := vbit R l s) l.length
  have h5 := h3 k _ hkl hvk
  have h6 := D_lt _ _ rfl ho (by omega)
  obtain ⟨i, g1, g2, g3, g4⟩ := h4 (by omega)
  have hb : s.getLsbD i = true := by
    unfold vbit at g2; split at g2
    · assumption
    · cases g2
  have hx : l[i]? = some l[i] := List.getElem?_eq_getElem g1
  have hvi : val R (sel l s) l[i] = some (scan l.length (vbit R l s) l.length).1 := by
    unfold vbit at g2; rw [if_pos hb, hx] at g2; exact g2
  have hge : D R (sel l s) ≤ (scan l.length (vbit R l s) l.length).1 := D_min h2 (sel_mem.2 ⟨i, hb, hx⟩) hvi
  have he : (scan l.length (vbit R l s) l.length).1 = D R (sel l s) := by omega
  refine ⟨i, by rw [← he, ← g3], hb, ?_⟩
  rw [he] at g4 hvi
  have hfind : (sel l s).find? (fun a => val R (sel l s) a == some (D R (sel l s))) = some l[i] := by
    generalize hS : sel l s = S at *
    have hS' : S = (List.range l.length).filterMap fun i => if s.getLsbD i then l[i]? else none := by rw [← hS]; rfl
    rw [hS', List.find?_filterMap, ← hS']
    have : (List.range l.length).find? (fun a => (if s.getLsbD a then l[a]? else none).any fun a => val R S a == some (D R S)) = some i := by
      rw [List.find?_range_eq_some]
      refine ⟨by rw [if_pos hb, hx]; simpa using hvi, List.mem_range.2 g1, fun j hj => ?_⟩
      cases hbj : s.getLsbD j
      · simp
      · have hxj : l[j]? = some l[j] := List.getElem?_eq_getElem (by omega)
        rw [if_pos rfl, hxj]
        simp only [Option.any_some, Bool.not_eq_true', beq_eq_false_iff_ne, ne_eq]
        intro hvj
        have := g4 j (D R S) hj (by unfold vbit; rw [if_pos hbj, hxj, hS]; exact hvj)
        omega
    rw [this]
    simp [hb, hx]
  unfold nxt
  rw [hfind, hx]; rfl
end Go.Ab
