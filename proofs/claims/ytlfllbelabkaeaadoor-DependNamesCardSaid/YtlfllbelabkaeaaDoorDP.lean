import Derived.Test.YtlfllbelabkaeaaDoorDL
set_option linter.unusedSimpArgs false
set_option linter.unusedVariables false
set_option maxRecDepth 100000
namespace Go.Ab
open Go Go.Proofs W16

/-! ### what can be reached, set by set -/
def sub (x y : BitVec 16) : Prop := ∀ j, x.getLsbD j = true → y.getLsbD j = true
theorem bv_ext {x y : BitVec 16} (h : ∀ j, j < 16 → (x.getLsbD j = true ↔ y.getLsbD j = true)) : x = y := by
  apply BitVec.eq_of_getLsbD_eq
  intro i hi
  rw [Bool.eq_iff_iff]; exact h i hi
theorem get_or {x y : BitVec 16} {j : Nat} : (x ||| y).getLsbD j = true ↔ x.getLsbD j = true ∨ y.getLsbD j = true := by rw [BitVec.getLsbD_or, Bool.or_eq_true]
theorem get_bit {c j : Nat} : (bit c).getLsbD j = true ↔ j = c ∧ j < 16 := by rw [bit_get]; simp
theorem get_lt {x : BitVec 16} {j : Nat} (h : x.getLsbD j = true) : j < 16 := by
  apply Classical.byContradiction; intro hc
  rw [BitVec.getLsbD_of_ge _ _ (by omega)] at h; cases h

theorem rdyG_mono {H K : BitVec 16} (h : sub H K) {g : List Int} (hg : rdyG H g = true) : rdyG K g = true := by
  unfold rdyG at *
  obtain ⟨k, h1, h2⟩ := List.any_eq_true.1 hg
  exact List.any_eq_true.2 ⟨k, h1, h _ h2⟩
theorem rdy_mono {l : List Nd} {H K : BitVec 16} (h : sub H K) {c : Nat} (hr : rdy l H c = true) : rdy l K c = true := by
  unfold rdy at *
  rw [List.all_eq_true] at *
  intro n hn
  have := hr n hn
  unfold rdyN at *
  rw [Bool.or_eq_true] at *
  rcases this with h1 | h1
  · exact .inl h1
  · right
    rw [List.all_eq_true] at *
    exact fun g hg => rdyG_mono h (h1 g hg)

inductive Rch (l : List Nd) (B : BitVec 16) : BitVec 16 → Prop
  | zero : Rch l B 0#16
  | step {s : BitVec 16} {c : Nat} : Rch l B s → c < 10 → (B ||| s).getLsbD c = false → rdy l (B ||| s) c = true → Rch l B (s ||| bit c)

theorem rch_sub {l : List Nd} {B s : BitVec 16} (h : Rch l B s) : ∀ j, s.getLsbD j = true → j < 10 ∧ B.getLsbD j = false := by
  induction h with
  | zero => intro j hj; simp at hj
  | step _ hc hb _ ih =>
    intro j hj
    rcases get_or.1 hj with h1 | h1
    · exact ih j h1
    · obtain ⟨rfl, _⟩ := get_bit.1 h1
      rw [BitVec.getLsbD_or, Bool.or_eq_false_iff] at hb
      exact ⟨hc, hb.1⟩

/-- There is always something to take. -/
theorem rch_more {l : List Nd} {B S : BitVec 16} (h : Rch l B S) : ∀ T : BitVec 16, sub T S → T ≠ S → ∃ c, S.getLsbD c = true ∧ T.getLsbD c = false ∧ rdy l (B ||| T) c = true := by
  induction h with
  | zero =>
    intro T hT hne
    exfalso
    apply hne
    exact bv_ext fun j _ => ⟨hT j, fun h => by simp at h⟩
  | @step s c hs hc hb hr ih =>
    intro T hT hne
    by_cases hsub : sub s T
    · have hcT : T.getLsbD c = false := by
        rw [Bool.eq_false_iff]; intro hcT
        apply hne
        refine bv_ext fun j hj => ⟨hT j, fun h1 => ?_⟩
        rcases get_or.1 h1 with h2 | h2
        · exact hsub j h2
        · obtain ⟨rfl, _⟩ := get_bit.1 h2; exact hcT
      exact ⟨c, get_or.2 (.inr (get_bit.2 ⟨rfl, by omega⟩)), hcT, rdy_mono (fun j hj => by
        rcases get_or.1 hj with h1 | h1
        · exact get_or.2 (.inl h1)
        · exact get_or.2 (.inr (hsub j h1))) hr⟩
    · obtain ⟨c', h1, h2, h3⟩ := ih (T &&& s) (fun j hj => by rw [BitVec.getLsbD_and, Bool.and_eq_true] at hj; exact hj.2) (fun e => hsub fun j hj => by
        rw [← e, BitVec.getLsbD_and, Bool.and_eq_true] at hj; exact hj.1)
      rw [BitVec.getLsbD_and, Bool.and_eq_false_iff] at h2
      have h5 : T.getLsbD c' = false := by
        rcases h2 with h2 | h2
        · exact h2
        · rw [h1] at h2; cases h2
      refine ⟨c', get_or.2 (.inl h1), h5, rdy_mono (fun j hj => ?_) h3⟩
      rcases get_or.1 hj with h4 | h4
      · exact get_or.2 (.inl h4)
      · rw [BitVec.getLsbD_and, Bool.and_eq_true] at h4; exact get_or.2 (.inr h4.1)

theorem next_none {l : List Nd} {S H : BitVec 16} (h : next l S H = none) : ∀ j, S.getLsbD j = true → H.getLsbD j = false → rdy l H j = false := by
  intro j h1 h2
  unfold next at h
  rw [List.find?_eq_none] at h
  have := h (j : Int) (bits_mem.2 ⟨j, rfl, get_lt h1, h1⟩)
  rw [Int.toNat_natCast, h2] at this
  simpa using this

/-- What the order of a set takes, from a set that can be reached on. -/
theorem gr_spec {l : List Nd} {B S : BitVec 16} (hS : ∀ j, S.getLsbD j = true → j < 10 ∧ B.getLsbD j = false) : ∀ (n : Nat) (T : BitVec 16), Rch l B T → sub T S → pc (S &&& ~~~ (B ||| T)) = n →
    ∃ T', Rch l B T' ∧ sub T T' ∧ sub T' S ∧ next l S (B ||| T') = none ∧ (gr l S (B ||| T)).length + pc T = pc T' ∧ (∀ c : Nat, (c : Int) ∈ gr l S (B ||| T) → T'.getLsbD c = true) ∧ (∀ c : Nat, T'.getLsbD c = true → T.getLsbD c = true ∨ (c : Int) ∈ gr l S (B ||| T)) := by
  intro n
  induction n using Nat.strongRecOn with
  | ind n ih =>
    intro T hT hsub hn
    cases hx : next l S (B ||| T) with
    | none =>
      rw [gr_none hx]
      exact ⟨T, hT, fun _ h => h, hsub, hx, by simp, by simp, fun c h => .inl h⟩
    | some x =>
      obtain ⟨j, rfl, hj, h1, h2, h3⟩ := next_some hx
      have hd := pc_drop hj h1 h2
      rw [BitVec.or_assoc] at hd
      have hT2 : Rch l B (T ||| bit j) := .step hT (hS j h1).1 h2 h3
      have hb : T.getLsbD j = false := by rw [BitVec.getLsbD_or, Bool.or_eq_false_iff] at h2; exact h2.2
      have hp := pc_or (x := T) hj
      rw [hb] at hp
      obtain ⟨T', g1, g2, g3, g4, g5, g6, g7⟩ := ih (pc (S &&& ~~~ (B ||| (T ||| bit j)))) (by omega) (T ||| bit j) hT2 (fun k hk => by
        rcases get_or.1 hk with h4 | h4
        · exact hsub k h4
        · obtain ⟨rfl, _⟩ := get_bit.1 h4; exact h1) rfl
      have hgr := gr_some hx
      rw [Int.toNat_natCast, BitVec.or_assoc] at hgr
      refine ⟨T', g1, fun k hk => g2 k (get_or.2 (.inl hk)), g3, g4, ?_, fun c hc => ?_, fun c hc => ?_⟩
      · rw [hgr, List.length_cons]
        simp only [Bool.false_eq_true, if_false] at hp
        omega
      · rw [hgr, List.mem_cons] at hc
        rcases hc with hc | hc
        · have : c = j := by omega
          subst this; exact g2 c (get_or.2 (.inr (get_bit.2 ⟨rfl, hj⟩)))
        · exact g6 c hc
      · rw [hgr, List.mem_cons]
        rcases g7 c hc with h4 | h4
        · rcases get_or.1 h4 with h5 | h5
          · exact .inl h5
          · obtain ⟨rfl, _⟩ := get_bit.1 h5; exact .inr (.inl rfl)
        · exact .inr (.inr h4)

theorem pc_zero : pc 0#16 = 0 := by decide
theorem pc_sub {x y : BitVec 16} (h : sub x y) : pc x ≤ pc y := by
  rw [pc_count, pc_count]
  exact List.countP_mono_left fun j _ hj => h j hj
theorem pc_eq {x y : BitVec 16} (h : sub x y) (hp : pc x = pc y) : x = y := by
  refine bv_ext fun j hj => ⟨h j, fun hy => ?_⟩
  apply Classical.byContradiction; intro hx
  have hx' : x.getLsbD j = false := by simpa using hx
  have h1 := pc_or (x := x) hj
  rw [hx'] at h1
  have h2 : pc (x ||| bit j) ≤ pc y := pc_sub fun k hk => by
    rcases get_or.1 hk with h3 | h3
    · exact h k h3
    · obtain ⟨rfl, _⟩ := get_bit.1 h3; exact hy
  simp only [Bool.false_eq_true, if_false] at h1
  omega

/-- A set is all taken exactly if it can be reached. -/
theorem gr_full {l : List Nd} {B S : BitVec 16} (hS : ∀ j, S.getLsbD j = true → j < 10 ∧ B.getLsbD j = false) : (gr l S B).length = pc S ↔ Rch l B S := by
  obtain ⟨T, h1, h2, h3, h4, h5, _⟩ := gr_spec hS _ 0#16 .zero (fun j hj => by simp at hj) rfl
  rw [BitVec.or_zero, pc_zero, Nat.add_zero] at h5
  rw [h5]
  constructor
  · intro h; rw [← pc_eq h3 h]; exact h1
  · intro h
    by_cases e : T = S
    · rw [e]
    · obtain ⟨c, g1, g2, g3⟩ := rch_more h T h3 e
      have := next_none h4 c g1 (by rw [BitVec.getLsbD_or, Bool.or_eq_false_iff]; exact ⟨(hS c g1).2, g2⟩)
      rw [g3] at this; cases this

/-! ### the plan -/
def lexlt : List Int → List Int → Bool
  | _, [] => false
  | [], _ :: _ => true
  | x :: a, y :: b => decide (x < y) || (decide (x = y) && lexlt a b)
theorem lex_irrefl : ∀ a : List Int, lexlt a a = false
  | [] => rfl
  | x :: a => by simp [lexlt, lex_irrefl a]
theorem lex_trans : ∀ a b c : List Int, lexlt a b = true → lexlt b c = true → lexlt a c = true
  | _, [], c, h, _ => by simp [lexlt] at h
  | _, _ :: _, [], _, h => by simp [lexlt] at h
  | [], _ :: _, _ :: _, _, _ => rfl
  | x :: a, y :: b, z :: c, h1, h2 => by
    simp only [lexlt, Bool.or_eq_true, Bool.and_eq_true, decide_eq_true_eq] at *
    rcases h1 with h1 | ⟨rfl, h1⟩ <;> rcases h2 with h2 | ⟨rfl, h2⟩
    · exact .inl (by omega)
    · exact .inl h1
    · exact .inl h2
    · exact .inr ⟨rfl, lex_trans a b c h1 h2⟩
theorem lex_total : ∀ a b : List Int, a ≠ b → lexlt a b = true ∨ lexlt b a = true
  | [], [], h => absurd rfl h
  | [], _ :: _, _ => .inl rfl
  | _ :: _, [], _ => .inr rfl
  | x :: a, y :: b, h => by
    simp only [lexlt, Bool.or_eq_true, Bool.and_eq_true, decide_eq_true_eq]
    by_cases e : x = y
    · subst e
      rcases lex_total a b (fun e => h (by rw [e])) with h1 | h1
      · exact .inl (.inr ⟨rfl, h1⟩)
      · exact .inr (.inr ⟨rfl, h1⟩)
    · rcases Int.lt_or_gt_of_ne e with h1 | h1
      · exact .inl (.inl h1)
      · exact .inr (.inl h1)
theorem bits_inj {x y : BitVec 16} (h : bitsL x = bitsL y) : x = y := by
  refine bv_ext fun j hj => ?_
  have h1 : ((j : Int) ∈ bitsL x) ↔ x.getLsbD j = true := by
    rw [bits_mem]; exact ⟨fun ⟨k, e, _, h⟩ => by have : j = k := by omega
                                                 subst this; exact h, fun h => ⟨j, rfl, hj, h⟩⟩
  have h2 : ((j : Int) ∈ bitsL y) ↔ y.getLsbD j = true := by
    rw [bits_mem]; exact ⟨fun ⟨k, e, _, h⟩ => by have : j = k := by omega
                                                 subst this; exact h, fun h => ⟨j, rfl, hj, h⟩⟩
  rw [← h1, ← h2, h]

/-- Reached, with the goal. -/
def Cand (l : List Nd) (B G s : BitVec 16) : Prop := Rch l B s ∧ s &&& G = G
/-- No better one. -/
def better (x y : BitVec 16) : Prop := pc x < pc y ∨ (pc x = pc y ∧ lexlt (bitsL x) (bitsL y) = true)
def IsPlan (l : List Nd) (B G r : BitVec 16) : Prop := Cand l B G r ∧ ∀ s, Cand l B G s → ¬ better s r
theorem better_total {x y : BitVec 16} (h : x ≠ y) : better x y ∨ better y x := by
  unfold better
  rcases Nat.lt_trichotomy (pc x) (pc y) with h1 | h1 | h1
  · exact .inl (.inl h1)
  · rcases lex_total _ _ (fun e => h (bits_inj e)) with h2 | h2
    · exact .inl (.inr ⟨h1, h2⟩)
    · exact .inr (.inr ⟨h1.symm, h2⟩)
  · exact .inr (.inl h1)
theorem better_trans {x y z : BitVec 16} (h1 : better x y) (h2 : better y z) : better x z := by
  unfold better at *
  rcases h1 with h1 | ⟨h1, h3⟩ <;> rcases h2 with h2 | ⟨h2, h4⟩
  · exact .inl (by omega)
  · exact .inl (by omega)
  · exact .inl (by omega)
  · exact .inr ⟨by omega, lex_trans _ _ _ h3 h4⟩
theorem better_irrefl {x : BitVec 16} : ¬ better x x := by
  unfold better
  rintro (h | ⟨_, h⟩)
  · omega
  · rw [lex_irrefl] at h; cases h
theorem plan_unique {l : List Nd} {B G r r' : BitVec 16} (h : IsPlan l B G r) (h' : IsPlan l B G r') : r = r' := by
  apply Classical.byContradiction; intro hne
  rcases better_total hne with h1 | h1
  · exact h'.2 r h.1 h1
  · exact h.2 r' h'.1 h1
open Classical in
noncomputable def planL (l : List Nd) (B G : BitVec 16) : List Int := if h : ∃ r, IsPlan l B G r then bitsL (Classical.choose h) else []
open Classical in
noncomputable def planE (l : List Nd) (B G : BitVec 16) : Int := if ∃ r, IsPlan l B G r then 0 else 6
open Classical in
theorem plan_at {l : List Nd} {B G r : BitVec 16} (h : IsPlan l B G r) : planL l B G = bitsL r ∧ planE l B G = 0 := by
  have he : ∃ r, IsPlan l B G r := ⟨r, h⟩
  refine ⟨?_, by unfold planE; rw [if_pos he]⟩
  unfold planL
  rw [dif_pos he, plan_unique (Classical.choose_spec he) h]
/-- With any one that will do there is a least one. -/
theorem plan_ex {l : List Nd} {B G : BitVec 16} (h : ∃ s, Cand l B G s) : ∃ r, IsPlan l B G r := by
  have key : ∀ (L : List (BitVec 16)), (∃ s ∈ L, Cand l B G s) → ∃ r ∈ L, Cand l B G r ∧ ∀ s ∈ L, Cand l B G s → ¬ better s r := by
    intro L
    induction L with
    | nil => rintro ⟨s, hs, _⟩; cases hs
    | cons x L ih =>
      rintro ⟨s, hs, hc⟩
      by_cases hL : ∃ s ∈ L, Cand l B G s
      · obtain ⟨r, h1, h2, h3⟩ := ih hL
        by_cases hx : Cand l B G x ∧ better x r
        · refine ⟨x, by simp, hx.1, fun t ht hct hb => ?_⟩
          rcases List.mem_cons.1 ht with rfl | ht
          · exact better_irrefl hb
          · exact h3 t ht hct (better_trans hb hx.2)
        · refine ⟨r, by simp [h1], h2, fun t ht hct hb => ?_⟩
          rcases List.mem_cons.1 ht with rfl | ht
          · exact hx ⟨hct, hb⟩
          · exact h3 t ht hct hb
      · rcases List.mem_cons.1 hs with rfl | hs
        · refine ⟨s, by simp, hc, fun t ht hct hb => ?_⟩
          rcases List.mem_cons.1 ht with rfl | ht
          · exact better_irrefl hb
          · exact hL ⟨t, ht, hct⟩
        · exact absurd ⟨s, hs, hc⟩ hL
  obtain ⟨s, hs⟩ := h
  obtain ⟨r, _, h1, h2⟩ := key ((List.range (2 ^ 16)).map (BitVec.ofNat 16)) ⟨s, List.mem_map.2 ⟨s.toNat, by simp [s.isLt], by simp⟩, hs⟩
  refine ⟨r, h1, fun t ht => h2 t (List.mem_map.2 ⟨t.toNat, by simp [t.isLt], by simp⟩) ht⟩
theorem plan_not {l : List Nd} {B G : BitVec 16} (h : ∀ s, ¬ Cand l B G s) : planL l B G = [] ∧ planE l B G = 6 := by
  have he : ¬ ∃ r, IsPlan l B G r := fun ⟨r, hr⟩ => h r hr.1
  exact ⟨by unfold planL; rw [dif_neg he], by unfold planE; rw [if_neg he]⟩
end Go.Ab
