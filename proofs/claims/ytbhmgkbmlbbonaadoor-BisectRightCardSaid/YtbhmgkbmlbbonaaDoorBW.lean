import Derived.Test.YtbhmgkbmlbbonaaDoorBQ
set_option linter.unusedSimpArgs false
set_option linter.unusedVariables false
set_option maxRecDepth 100000
namespace Go.Ab
open Go

/-! ### what the depth says, in plain terms -/
theorem parts_len {s : List Int} {p : Int → Bool} : s.length = (s.filter p).length + (s.filter fun c => !p c).length := by
  rw [two_parts s p]

/-- With as many trials as the depth says, so many can be told apart. -/
theorem D_power {R : Int → Int → Bool} : ∀ (n : Nat) (s : List Int), s.length = n → Ok R s → s.length ≤ 2 ^ D R s
  | 0, s, hl, _ => by rw [hl]; exact Nat.zero_le _
  | 1, s, hl, _ => by rw [hl]; exact Nat.one_le_two_pow
  | n + 2, s, hl, ho => by
    obtain ⟨a, ha, hv⟩ := D_has ho (by omega)
    obtain ⟨h3, h4, hd⟩ := val_spec hv
    have hlt := part_lt h3 h4
    have h1 := D_power _ _ rfl (ho.filt fun c => R c a)
    have h2 := D_power _ _ rfl (ho.filt fun c => !R c a)
    have hs := parts_len (s := s) (p := fun c => R c a)
    rw [hd, Nat.add_comm, Nat.pow_succ]
    have e1 : 2 ^ D R (s.filter fun c => R c a) ≤ 2 ^ max (D R (s.filter fun c => R c a)) (D R (s.filter fun c => !R c a)) := Nat.pow_le_pow_right (by omega) (Nat.le_max_left _ _)
    have e2 : 2 ^ D R (s.filter fun c => !R c a) ≤ 2 ^ max (D R (s.filter fun c => R c a)) (D R (s.filter fun c => !R c a)) := Nat.pow_le_pow_right (by omega) (Nat.le_max_right _ _)
    omega
termination_by n => n

/-- Runs are as long as the depth says, at most; and one is just so long. -/
theorem run_depth {R : Int → Int → Bool} : ∀ (n : Nat) (s : List Int), s.length = n → Ok R s → s ≠ [] → (∀ c ∈ s, (runV R s c).length ≤ D R s) ∧ ∃ c ∈ s, (runV R s c).length = D R s
  | 0, s, hl, _, hne => absurd (List.eq_nil_of_length_eq_zero hl) hne
  | 1, s, hl, _, hne => by
    have hD : D R s = 0 := by rw [D_eq, if_pos (by omega)]
    refine ⟨fun c _ => by rw [run_one (by omega), hD]; simp, ?_⟩
    obtain ⟨c, hc⟩ := List.exists_mem_of_ne_nil s hne
    exact ⟨c, hc, by rw [run_one (by omega), hD]; simp⟩
  | n + 2, s, hl, ho, hne => by
    obtain ⟨hm, hv⟩ := nxt_spec ho (by omega)
    obtain ⟨h3, h4, hd⟩ := val_spec hv
    have hlt := part_lt h3 h4
    have key : ∀ c, runV R s c = nxt R s :: runV R (if R c (nxt R s) then s.filter fun x => R x (nxt R s) else s.filter fun x => !R x (nxt R s)) c := fun c => by
      rw [run_step ho (by omega), eq_parts]
    obtain ⟨a1, c1, m1, b1⟩ := run_depth _ _ rfl (ho.filt fun c => R c (nxt R s)) h3
    obtain ⟨a2, c2, m2, b2⟩ := run_depth _ _ rfl (ho.filt fun c => !R c (nxt R s)) h4
    constructor
    · intro c hc
      rw [key, List.length_cons]
      cases hr : R c (nxt R s)
      · have := a2 c (List.mem_filter.2 ⟨hc, by simp [hr]⟩)
        simp only [Bool.false_eq_true, if_false]
        omega
      · have := a1 c (List.mem_filter.2 ⟨hc, hr⟩)
        simp only [if_true]
        omega
    · obtain ⟨g1, g2⟩ := List.mem_filter.1 m1
      obtain ⟨g3, g4⟩ := List.mem_filter.1 m2
      by_cases hmx : D R (s.filter fun x => R x (nxt R s)) ≤ D R (s.filter fun x => !R x (nxt R s))
      · refine ⟨c2, g3, ?_⟩
        have hr : R c2 (nxt R s) = false := by simpa using g4
        rw [key, List.length_cons, hr]
        simp only [Bool.false_eq_true, if_false]
        omega
      · refine ⟨c1, g1, ?_⟩
        rw [key, List.length_cons, g2]
        simp only [if_true]
        omega
termination_by n => n

theorem split_filter (p : Int → Bool) (t u : List Int) (ht : ∀ x ∈ t, p x = true) (hu : ∀ x ∈ u, p x = false) : (t ++ u).filter p = t ∧ (t ++ u).filter (fun c => !p c) = u := by
  constructor
  · rw [List.filter_append, List.filter_eq_self.2 ht, List.filter_eq_nil_iff.2 fun x hx => by rw [hu x hx]; simp, List.append_nil]
  · rw [List.filter_append, List.filter_eq_nil_iff.2 fun x hx => by rw [ht x hx]; simp, List.filter_eq_self.2 fun x hx => by rw [hu x hx]; rfl, List.nil_append]
/-- For a line, the depth is the least number for which this is so. -/
theorem D_line {R : Int → Int → Bool} : ∀ (k : Nat) (s : List Int), Ok R s → (∀ c ∈ s, ∀ d ∈ s, c ≤ d → R c d = true) → s.length ≤ 2 ^ k → D R s ≤ k
  | 0, s, _, _, hl => by rw [D_eq, if_pos (by simpa using hl)]; exact Nat.le_refl 0
  | k + 1, s, ho, hR, hl => by
    by_cases h1 : s.length ≤ 1
    · rw [D_eq, if_pos h1]; omega
    obtain ⟨a, ha, hp⟩ : ∃ a ∈ s, (s.filter fun c => R c a) = s.take (s.length / 2) ∧ (s.filter fun c => !R c a) = s.drop (s.length / 2) := by
      have hi : s.length / 2 - 1 < s.length := by omega
      refine ⟨s[s.length / 2 - 1], List.getElem_mem hi, ?_⟩
      have hs := List.take_append_drop (s.length / 2) s
      have hlow : ∀ x ∈ s.take (s.length / 2), R x s[s.length / 2 - 1] = true := fun x hx => by
        obtain ⟨j, hj, rfl⟩ := List.getElem_of_mem hx
        rw [List.getElem_take]
        refine hR _ (List.getElem_mem _) _ (List.getElem_mem _) ?_
        rw [List.length_take] at hj
        by_cases hjk : j = s.length / 2 - 1
        · subst hjk; exact Int.le_refl _
        · exact Int.le_of_lt (List.pairwise_iff_getElem.1 ho.inc j (s.length / 2 - 1) (by omega) hi (by omega))
      have hhigh : ∀ x ∈ s.drop (s.length / 2), R x s[s.length / 2 - 1] = false := fun x hx => by
        obtain ⟨j, hj, rfl⟩ := List.getElem_of_mem hx
        rw [List.getElem_drop]
        rw [List.length_drop] at hj
        exact ho.low _ (List.getElem_mem _) _ (List.getElem_mem _) (List.pairwise_iff_getElem.1 ho.inc (s.length / 2 - 1) (s.length / 2 + j) hi (by omega) (by omega))
      have := split_filter (fun c => R c s[s.length / 2 - 1]) _ _ hlow hhigh
      exact ⟨(congrArg (fun t => t.filter fun c => R c s[s.length / 2 - 1]) hs).symm.trans this.1, (congrArg (fun t => t.filter fun c => !R c s[s.length / 2 - 1]) hs).symm.trans this.2⟩
    obtain ⟨p1, p2⟩ := hp
    have hpow : 2 ^ (k + 1) = 2 ^ k + 2 ^ k := by rw [Nat.pow_succ]; omega
    have d1 := D_line k (s.take (s.length / 2)) (ho.sub (List.take_sublist _ _)) (fun c hc d hd => hR c (List.mem_of_mem_take hc) d (List.mem_of_mem_take hd)) (by rw [List.length_take]; omega)
    have d2 := D_line k (s.drop (s.length / 2)) (ho.sub (List.drop_sublist _ _)) (fun c hc d hd => hR c (List.mem_of_mem_drop hc) d (List.mem_of_mem_drop hd)) (by rw [List.length_drop]; omega)
    have hv : val R s a = some (1 + max (D R (s.take (s.length / 2))) (D R (s.drop (s.length / 2)))) := by
      unfold val valO
      rw [p1, p2]
      have n1 : s.take (s.length / 2) ≠ [] := fun h => by have := congrArg List.length h; rw [List.length_take, List.length_nil] at this; omega
      have n2 : s.drop (s.length / 2) ≠ [] := fun h => by have := congrArg List.length h; rw [List.length_drop, List.length_nil] at this; omega
      simp [n1, n2]
    have := D_min (by omega) ha hv
    omega
end Go.Ab
