import Derived.Test.YtlfllbelabkaeaaDoorDX
set_option linter.unusedSimpArgs false
set_option linter.unusedVariables false
set_option maxRecDepth 100000
namespace Go.Ab
open Go Go.Proofs W16

/-! ### sets and lists -/
theorem ofL_from (l : List Int) (s : BitVec 16) : l.foldl (fun s c => s ||| bit c.toNat) s = s ||| ofL l := by
  induction l generalizing s with
  | nil => simp [ofL]
  | cons c l ih =>
    rw [List.foldl_cons, ih]
    have : ofL (c :: l) = bit c.toNat ||| ofL l := by
      show (c :: l).foldl (fun s c => s ||| bit c.toNat) 0#16 = _
      rw [List.foldl_cons, ih, BitVec.zero_or]
    rw [this, BitVec.or_assoc]
theorem ofL_cons {c : Int} {l : List Int} : ofL (c :: l) = bit c.toNat ||| ofL l := by
  show (c :: l).foldl (fun s c => s ||| bit c.toNat) 0#16 = _
  rw [List.foldl_cons, ofL_from, BitVec.zero_or]
theorem ofL_nil : ofL [] = 0#16 := rfl
theorem bits_iff {T : BitVec 16} {j : Nat} : (j : Int) ∈ bitsL T ↔ T.getLsbD j = true := by
  rw [bits_mem]
  exact ⟨fun ⟨k, e, _, h⟩ => by have : j = k := by omega
                                subst this; exact h, fun h => ⟨j, rfl, get_lt h, h⟩⟩
theorem ofL_bits {T : BitVec 16} : ofL (bitsL T) = T :=
  bv_ext fun j _ => by rw [ofL_get fun c hc => by obtain ⟨k, rfl, hk, _⟩ := bits_mem.1 hc; omega, bits_iff]
theorem set_bitsL {T : BitVec 16} (h : ∀ j, T.getLsbD j = true → j < 10) : setB (bitsL T) = true := by
  rw [setB_eq, decide_eq_true_iff]
  refine ⟨lst_pair _ _, fun c hc => ?_⟩
  obtain ⟨k, rfl, _, hk⟩ := bits_mem.1 hc
  have := h k hk; omega
theorem both_mk {l : List Nd} {ss : List (List Int)} (h : dcheck l = 0) (hs : ∀ s ∈ ss, setB s = true) : both l ss = 0 := by
  unfold both; rw [if_pos h, if_pos (List.all_eq_true.2 hs)]

/-! ### the greatest set that can be reached -/
theorem next_minus {l : List Nd} {S B H : BitVec 16} (hB : sub B H) : next l S H = next l (S &&& ~~~ B) H := by
  rw [next_left, next_left]
  have : S &&& ~~~ H = S &&& ~~~ B &&& ~~~ H := bv_ext fun j hj => by
    have := hB j
    simp only [BitVec.getLsbD_and, BitVec.getLsbD_not, hj, decide_true, Bool.true_and]
    revert this
    cases S.getLsbD j <;> cases B.getLsbD j <;> cases H.getLsbD j <;> simp
  rw [this]
theorem gr_minus {l : List Nd} {S B : BitVec 16} : ∀ (n : Nat) (H : BitVec 16), sub B H → pc (S &&& ~~~ H) = n → gr l S H = gr l (S &&& ~~~ B) H := by
  intro n
  induction n using Nat.strongRecOn with
  | ind n ih =>
    intro H hB hn
    cases hx : next l S H with
    | none => rw [gr_none hx, gr_none (by rw [← next_minus hB]; exact hx)]
    | some c =>
      rw [gr_some hx, gr_some (S := S &&& ~~~ B) (by rw [← next_minus hB]; exact hx)]
      obtain ⟨j, rfl, hj, h1, h2, _⟩ := next_some hx
      have := pc_drop hj h1 h2
      rw [Int.toNat_natCast, ih _ (by omega) (H ||| bit j) (fun k hk => get_or.2 (.inl (hB k hk))) rfl]
theorem reach_top (l : List Nd) (B : BitVec 16) : ∃ T, Rch l B T ∧ (∀ s, Rch l B s → sub s T) ∧ ofL (gr l 1023#16 B) = T ∧ (∀ c, c < 10 → (B ||| T).getLsbD c = false → rdy l (B ||| T) c = false) := by
  have e := gr_minus (l := l) (S := 1023#16) (B := B) _ B (fun _ h => h) rfl
  have hS : ∀ j, (1023#16 &&& ~~~ B).getLsbD j = true → j < 10 ∧ B.getLsbD j = false := fun j hj => by
    rw [BitVec.getLsbD_and, BitVec.getLsbD_not, Bool.and_eq_true] at hj
    exact ⟨S1023 j hj.1, by have := hj.2; simp at this; exact this.2⟩
  have hS2 : ∀ j, j < 10 → B.getLsbD j = false → (1023#16 &&& ~~~ B).getLsbD j = true := fun j hj hb => by
    have h1 : (1023#16).getLsbD j = true := by
      match j, hj with
      | 0, _ | 1, _ | 2, _ | 3, _ | 4, _ | 5, _ | 6, _ | 7, _ | 8, _ | 9, _ => decide
    rw [BitVec.getLsbD_and, BitVec.getLsbD_not, h1, hb]; simp; omega
  obtain ⟨T, h1, _, h3, h4, _, h6, h7⟩ := gr_spec hS _ 0#16 .zero (fun j hj => by simp at hj) rfl
  rw [BitVec.or_zero, ← e] at h6 h7
  have last : ∀ c, c < 10 → (B ||| T).getLsbD c = false → rdy l (B ||| T) c = false := fun c hc hb => next_none h4 c (hS2 c hc (by rw [BitVec.getLsbD_or, Bool.or_eq_false_iff] at hb; exact hb.1)) hb
  refine ⟨T, h1, fun s hs => ?_, bv_ext fun j hj => ?_, last⟩
  · induction hs with
    | zero => intro j hj; simp at hj
    | @step s c hs hc hb hr ih =>
      intro j hj
      rcases get_or.1 hj with h | h
      · exact ih j h
      · obtain ⟨rfl, _⟩ := get_bit.1 h
        apply Classical.byContradiction; intro hT
        rw [BitVec.getLsbD_or, Bool.or_eq_false_iff] at hb
        have := last j hc (by rw [BitVec.getLsbD_or, hb.1]; simpa using hT)
        rw [rdy_mono (fun k hk => by
          rcases get_or.1 hk with h | h
          · exact get_or.2 (.inl h)
          · exact get_or.2 (.inr (ih k h))) hr] at this
        cases this
  · rw [ofL_get fun c hc => by obtain ⟨k, rfl, hk, _⟩ := gr_mem _ _ c hc; omega]
    exact ⟨fun h => h6 j h, fun h => by
      rcases h7 j h with h | h
      · simp at h
      · exact h⟩

/-! ### one class more -/
theorem rch_minus {l : List Nd} {B s : BitVec 16} {k : Nat} (h : Rch l B s) : Rch l (B ||| bit k) (s &&& ~~~ bit k) := by
  induction h with
  | zero => rw [BitVec.zero_and]; exact .zero
  | @step s c hs hc hb hr ih =>
    by_cases e : c = k
    · subst e
      have : (s ||| bit c) &&& ~~~ bit c = s &&& ~~~ bit c := bv_ext fun j hj => by
        simp only [BitVec.getLsbD_and, BitVec.getLsbD_or, BitVec.getLsbD_not, hj, decide_true, Bool.true_and]
        cases s.getLsbD j <;> cases (bit c).getLsbD j <;> simp
      rw [this]; exact ih
    · have hck : (bit k).getLsbD c = false := by rw [bit_get]; simp [e]
      have : (s ||| bit c) &&& ~~~ bit k = (s &&& ~~~ bit k) ||| bit c := bv_ext fun j hj => by
        simp only [BitVec.getLsbD_and, BitVec.getLsbD_or, BitVec.getLsbD_not, hj, decide_true, Bool.true_and, bit_get, Bool.and_true]
        by_cases e1 : j = c
        · subst e1; simp [e]
        · simp [e1]
      rw [this]
      rw [BitVec.getLsbD_or, Bool.or_eq_false_iff] at hb
      refine .step ih hc ?_ (rdy_mono (fun j hj => ?_) hr)
      · rw [BitVec.getLsbD_or, BitVec.getLsbD_or, BitVec.getLsbD_and, hb.1, hb.2, hck]; rfl
      · rw [BitVec.getLsbD_or, BitVec.getLsbD_or, BitVec.getLsbD_and, BitVec.getLsbD_not]
        have := get_lt hj
        rcases get_or.1 hj with h | h
        · rw [h]; rfl
        · rw [h]; simp only [this, decide_true, Bool.true_and]; cases B.getLsbD j <;> cases (bit k).getLsbD j <;> rfl
theorem minus_sub {s : BitVec 16} {k : Nat} : sub (s &&& ~~~ bit k) s := fun j hj => by
  rw [BitVec.getLsbD_and, Bool.and_eq_true] at hj; exact hj.1
theorem plan_more {l : List Nd} {B W r : BitVec 16} {k : Nat} (h : IsPlan l B (W &&& ~~~ B) r) : ∃ r', IsPlan l (B ||| bit k) (W &&& ~~~ (B ||| bit k)) r' ∧ pc r' ≤ pc r := by
  have hc : Cand l (B ||| bit k) (W &&& ~~~ (B ||| bit k)) (r &&& ~~~ bit k) := ⟨rch_minus h.1.1, bv_ext fun j hj => by
    have := congrArg (fun x => x.getLsbD j) h.1.2
    simp only [BitVec.getLsbD_and, BitVec.getLsbD_or, BitVec.getLsbD_not, hj, decide_true, Bool.true_and] at this ⊢
    revert this
    cases r.getLsbD j <;> cases W.getLsbD j <;> cases B.getLsbD j <;> cases (bit k).getLsbD j <;> simp⟩
  obtain ⟨r', hr'⟩ := plan_ex ⟨_, hc⟩
  refine ⟨r', hr', ?_⟩
  have h1 := hr'.2 _ hc
  have h2 := pc_sub (minus_sub (s := r) (k := k))
  unfold better at h1
  omega

/-! ### orders -/
theorem isO_rch {l : List Nd} {B : BitVec 16} : ∀ (o : List Int) (T : BitVec 16), Rch l B T → isO l (B ||| T) o = true → Rch l B (T ||| ofL o) ∧ pc (T ||| ofL o) = pc T + o.length ∧ ∀ c ∈ o, 0 ≤ c ∧ c < 10
  | [], T, hT, _ => by rw [ofL_nil, BitVec.or_zero]; exact ⟨hT, rfl, by simp⟩
  | c :: o, T, hT, h => by
    simp only [isO, Bool.and_eq_true, Bool.not_eq_true'] at h
    obtain ⟨h1, h2, h3, h4⟩ := h
    have hc := cls_iff.1 h1
    rw [BitVec.or_assoc] at h4
    obtain ⟨g1, g2, g3⟩ := isO_rch o (T ||| bit c.toNat) (.step hT (by omega) h2 h3) h4
    rw [ofL_cons, ← BitVec.or_assoc]
    rw [BitVec.getLsbD_or, Bool.or_eq_false_iff] at h2
    rw [pc_step (by omega) h2.2] at g2
    refine ⟨g1, by rw [g2, List.length_cons]; omega, fun d hd => ?_⟩
    rcases List.mem_cons.1 hd with rfl | hd
    · exact hc
    · exact g3 d hd
theorem gr_isO {l : List Nd} {S : BitVec 16} (hS : ∀ j, S.getLsbD j = true → j < 10) : ∀ (n : Nat) (H : BitVec 16), pc (S &&& ~~~ H) = n → isO l H (gr l S H) = true := by
  intro n
  induction n using Nat.strongRecOn with
  | ind n ih =>
    intro H hn
    cases hx : next l S H with
    | none => rw [gr_none hx]; rfl
    | some c =>
      rw [gr_some hx]
      obtain ⟨j, rfl, hj, h1, h2, h3⟩ := next_some hx
      have := pc_drop hj h1 h2
      have hj10 := hS j h1
      rw [isO, Int.toNat_natCast, h2, h3, ih _ (by omega) _ rfl, cls_iff.2 (by omega)]; rfl
theorem gr_at {l : List Nd} {S : BitVec 16} : ∀ (i : Nat) (H : BitVec 16) (c : Int), (gr l S H)[i]? = some c → next l S (H ||| ofL ((gr l S H).take i)) = some c
  | i, H, c, h => by
    cases hx : next l S H with
    | none => rw [gr_none hx] at h; cases h
    | some d =>
      rw [gr_some hx] at h ⊢
      cases i with
      | zero =>
        simp at h; subst h
        rw [List.take_zero, ofL_nil, BitVec.or_zero]; exact hx
      | succ i =>
        rw [List.getElem?_cons_succ] at h
        rw [List.take_succ_cons, ofL_cons, ← BitVec.or_assoc]
        exact gr_at i _ c h
theorem next_least {l : List Nd} {S H : BitVec 16} {c : Int} (h : next l S H = some c) {j : Nat} (h1 : S.getLsbD j = true) (h2 : (j : Int) < c) (h3 : H.getLsbD j = false) : rdy l H j = false := by
  unfold next at h
  obtain ⟨hp, l1, l2, e, hn⟩ := List.find?_eq_some_iff_append.1 h
  have hm := bits_iff.2 h1
  have hpw : (bitsL S).Pairwise (· < ·) := lst_pair _ _
  rw [e] at hm hpw
  rcases List.mem_append.1 hm with hm | hm
  · have := hn _ hm
    rw [Int.toNat_natCast, h3] at this
    simpa using this
  · rw [List.pairwise_append] at hpw
    rcases List.mem_cons.1 hm with hm | hm
    · omega
    · have := (List.pairwise_cons.1 hpw.2.1).1 _ hm; omega
end Go.Ab
