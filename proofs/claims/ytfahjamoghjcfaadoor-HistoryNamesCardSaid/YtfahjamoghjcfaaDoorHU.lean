import Derived.Test.YtfahjamoghjcfaaDoorHT
set_option linter.unusedSimpArgs false
set_option linter.unusedVariables false
set_option maxRecDepth 100000
namespace Go.Ab
open Go Go.Proofs

theorem s44 (y : BitVec 32) (ch : List Int) (i : Nat) (v : Int) (hv : ch[i]? = some v) : CallSpec cx 44 [i64 i, .cptr [w32 y], .cptr [encL ch]] (bl (y.getLsbD i && decide (v = 0))) := by
  refine callSpec_of_vc Tryd.func44 rfl (by decide) (by kernel_rfl) (Nat.le_of_ble_eq_true rfl) ?_
  have hs := s37 y i
  have hb : decide (y >>> i &&& 1#32 = 1#32) = y.getLsbD i := by
    rw [Bool.eq_iff_iff, decide_eq_true_iff, bit_at]
  rw [hb] at hs
  simp -dsimp only [↓vcl, ↓vco, vck, evl, evb, evBuiltin, evLen, evIdxA, evLoad, loadP, aggD, tis, i64, u32, bl, encL, encB, encLL, if_true, if_false, reduceIte, List.length_map, List.getElem?_map, Nat.reduceEqDiff, List.length_cons, List.length_nil, forget, forget1, wantd, bq, Bool.false_eq_true, Bool.not_true, Bool.not_false, eq_self, tzs, eve, evStore, evBox, evAlloc, evBuildSlice, evMakeSlice, evAppend, fillRows, zcells, elemsOf, putAll, PV.one, List.all_cons, List.all_nil, Bool.and_true, Bool.and_self, Nat.reduceAdd, Nat.reduceMul, Nat.zero_add, Nat.add_zero, Nat.zero_mul, Nat.one_mul, Nat.mul_one, Nat.le_refl, and_self, true_and, and_true, List.set_cons_zero, List.drop_zero, natK, putN, Int.cast_ofNat_Int, decide_true, decide_false, Int.reduceEq, Int.reduceLT, Int.reduceLE, List.append_nil, List.nil_append, List.cons_append, Nat.reduceLeDiff, posK, flI, flB, flU, takeI, ne_eq, not_false_eq_true, not_true_eq_false, List.reduceReplicate, Nat.zero_lt_one, Nat.one_ne_zero, List.take_succ_cons, List.take_zero, or_self, true_or, or_true, reduceCtorEq, List.length_append, List.map_append, List.map_cons, List.map_nil, List.drop_succ_cons, Tryd.f44, w32]
  refine CallQ.imm (hs) (by rfl) (by first | rfl | (simp -dsimp only [↓vcl, ↓vco, vck, evl, evb, evBuiltin, evLen, evIdxA, evLoad, loadP, aggD, tis, i64, u32, bl, encL, encB, encLL, if_true, if_false, reduceIte, List.length_map, List.getElem?_map, Nat.reduceEqDiff, List.length_cons, List.length_nil, forget, forget1, wantd, bq, Bool.false_eq_true, Bool.not_true, Bool.not_false, eq_self, tzs, eve, evStore, evBox, evAlloc, evBuildSlice, evMakeSlice, evAppend, fillRows, zcells, elemsOf, putAll, PV.one, List.all_cons, List.all_nil, Bool.and_true, Bool.and_self, Nat.reduceAdd, Nat.reduceMul, Nat.zero_add, Nat.add_zero, Nat.zero_mul, Nat.one_mul, Nat.mul_one, Nat.le_refl, and_self, true_and, and_true, List.set_cons_zero, List.drop_zero, natK, putN, Int.cast_ofNat_Int, decide_true, decide_false, Int.reduceEq, Int.reduceLT, Int.reduceLE, List.append_nil, List.nil_append, List.cons_append, Nat.reduceLeDiff, posK, flI, flB, flU, takeI, ne_eq, not_false_eq_true, not_true_eq_false, List.reduceReplicate, Nat.zero_lt_one, Nat.one_ne_zero, List.take_succ_cons, List.take_zero, or_self, true_or, or_true, reduceCtorEq, List.length_append, List.map_append, List.map_cons, List.map_nil, List.drop_succ_cons, drcs, drc, flat]; done) | simp -dsimp [evl, drcs, drc, flat, i64, u32, bl, encL, encB, encLL]) (by first | exact .inl rfl | exact .inr rfl | exact .inr scalB | exact .inr scalI) ?_
  cases hg : y.getLsbD i
  · simp -dsimp only [↓vcl, ↓vco, vck, evl, evb, evBuiltin, evLen, evIdxA, evLoad, loadP, aggD, tis, i64, u32, bl, encL, encB, encLL, if_true, if_false, reduceIte, List.length_map, List.getElem?_map, Nat.reduceEqDiff, List.length_cons, List.length_nil, forget, forget1, wantd, bq, Bool.false_eq_true, Bool.not_true, Bool.not_false, eq_self, tzs, eve, evStore, evBox, evAlloc, evBuildSlice, evMakeSlice, evAppend, fillRows, zcells, elemsOf, putAll, PV.one, List.all_cons, List.all_nil, Bool.and_true, Bool.and_self, Nat.reduceAdd, Nat.reduceMul, Nat.zero_add, Nat.add_zero, Nat.zero_mul, Nat.one_mul, Nat.mul_one, Nat.le_refl, and_self, true_and, and_true, List.set_cons_zero, List.drop_zero, natK, putN, Int.cast_ofNat_Int, decide_true, decide_false, Int.reduceEq, Int.reduceLT, Int.reduceLE, List.append_nil, List.nil_append, List.cons_append, Nat.reduceLeDiff, posK, flI, flB, flU, takeI, ne_eq, not_false_eq_true, not_true_eq_false, List.reduceReplicate, Nat.zero_lt_one, Nat.one_ne_zero, List.take_succ_cons, List.take_zero, or_self, true_or, or_true, reduceCtorEq, List.length_append, List.map_append, List.map_cons, List.map_nil, List.drop_succ_cons, retQ, resL, finL, newL, flat, tupOf, List.toList_toArray, Tryd.f44, hg]
    exact leT_one (bl_eq (by simp)) (by simp)
  · have hil : i < ch.length := (List.getElem?_eq_some_iff.1 hv).1
    simp -dsimp only [↓vcl, ↓vco, vck, evl, evb, evBuiltin, evLen, evIdxA, evLoad, loadP, aggD, tis, i64, u32, bl, encL, encB, encLL, if_true, if_false, reduceIte, List.length_map, List.getElem?_map, Nat.reduceEqDiff, List.length_cons, List.length_nil, forget, forget1, wantd, bq, Bool.false_eq_true, Bool.not_true, Bool.not_false, eq_self, tzs, eve, evStore, evBox, evAlloc, evBuildSlice, evMakeSlice, evAppend, fillRows, zcells, elemsOf, putAll, PV.one, List.all_cons, List.all_nil, Bool.and_true, Bool.and_self, Nat.reduceAdd, Nat.reduceMul, Nat.zero_add, Nat.add_zero, Nat.zero_mul, Nat.one_mul, Nat.mul_one, Nat.le_refl, and_self, true_and, and_true, List.set_cons_zero, List.drop_zero, natK, putN, Int.cast_ofNat_Int, decide_true, decide_false, Int.reduceEq, Int.reduceLT, Int.reduceLE, List.append_nil, List.nil_append, List.cons_append, Nat.reduceLeDiff, posK, flI, flB, flU, takeI, ne_eq, not_false_eq_true, not_true_eq_false, List.reduceReplicate, Nat.zero_lt_one, Nat.one_ne_zero, List.take_succ_cons, List.take_zero, or_self, true_or, or_true, reduceCtorEq, List.length_append, List.map_append, List.map_cons, List.map_nil, List.drop_succ_cons, retQ, resL, finL, newL, flat, tupOf, List.toList_toArray, Tryd.f44, hg, hv, hil]
    exact leT_one (bl_eq (by simp)) (by simp)

/-- How often a commit is a parent of one that is left. -/
def par (H : List (List Nat)) (c x : Nat) : Nat := ((H[c]?).getD []).count x
def sumL (H : List (List Nat)) (x : Nat) : Nat → List Bool → Nat
  | _, [] => 0
  | c, b :: L => (if b then par H c x else 0) + sumL H x (c + 1) L
theorem sum_set {H : List (List Nat)} {x : Nat} : ∀ (L : List Bool) (c n : Nat), Tr L n → sumL H x c (L.set n false) + par H (c + n) x = sumL H x c L
  | [], c, n, h => by simp [Tr] at h
  | b :: L, c, 0, h => by
    simp [Tr] at h; subst h
    simp [sumL]; omega
  | b :: L, c, n + 1, h => by
    have ih := sum_set (H := H) (x := x) L (c + 1) n (by simpa [Tr] using h)
    simp only [List.set_cons_succ, sumL]
    rw [show c + (n + 1) = c + 1 + n from by omega]; omega
theorem sum_zero {H : List (List Nat)} {x : Nat} : ∀ (L : List Bool) (c : Nat), sumL H x c L = 0 ↔ ∀ n, Tr L n → par H (c + n) x = 0
  | [], c => by simp [sumL, Tr]
  | b :: L, c => by
    have ih := sum_zero (H := H) (x := x) L (c + 1)
    simp only [sumL]
    constructor
    · intro h n hn
      cases n with
      | zero => simp [Tr] at hn; subst hn; simp at h; simpa using h.1
      | succ n =>
        have := ih.1 (by omega) n (by simpa [Tr] using hn)
        rw [show c + (n + 1) = c + 1 + n from by omega]; exact this
    · intro h
      have h1 := ih.2 fun n hn => by
        have := h (n + 1) (by simpa [Tr] using hn)
        rw [show c + 1 + n = c + (n + 1) from by omega]; exact this
      rw [h1]
      cases b
      · simp
      · have := h 0 (by simp [Tr]); simp at this; simp [this]
theorem par_zero {H : List (List Nat)} {c x : Nat} : par H c x = 0 ↔ ∀ p, H[c]? = some p → x ∉ p := by
  unfold par
  cases hc : H[c]? with
  | none => simp
  | some p => simp [List.count_eq_zero]
theorem free_iff {H : List (List Nat)} {L : List Bool} {x : Nat} : Free H L x ↔ Tr L x ∧ sumL H x 0 L = 0 := by
  rw [sum_zero]
  constructor
  · rintro ⟨h1, h2⟩
    exact ⟨h1, fun n hn => by rw [Nat.zero_add, par_zero]; exact fun p hp => h2 n p hp hn⟩
  · rintro ⟨h1, h2⟩
    exact ⟨h1, fun c p hc hT => by have := h2 c hT; rw [Nat.zero_add, par_zero] at this; exact this p hc⟩
theorem sum_le {H : List (List Nat)} {x : Nat} (h2 : ∀ p ∈ H, p.length ≤ 2) : ∀ (L : List Bool) (c : Nat), sumL H x c L ≤ 2 * L.length
  | [], c => by simp [sumL]
  | b :: L, c => by
    have ih := sum_le (x := x) h2 L (c + 1)
    have : par H c x ≤ 2 := by
      unfold par
      cases hc : H[c]? with
      | none => simp
      | some p =>
        have := h2 p (List.mem_of_getElem? hc)
        have := List.count_le_length (a := x) (l := p)
        simp; omega
    simp only [sumL, List.length_cons]
    split <;> omega
theorem anc_any {H : List (List Nat)} {F : List Nat} {j : Nat} : Anc H F j ↔ ∃ i ∈ F, Anc H [i] j := by
  constructor
  · intro h
    induction h with
    | base h => exact ⟨_, h, .base (by simp)⟩
    | up _ h1 h2 ih =>
      obtain ⟨i, hi, h3⟩ := ih
      exact ⟨i, hi, .up h3 h1 h2⟩
  · rintro ⟨i, hi, h⟩
    exact anc_trans (.base hi) h
open Classical in
theorem fi_pick {H : List (List Nat)} {L : List Bool} : ∀ p : List Nat, (fi (fun k : Int => decide (Free H L k.toNat)) (toI p) = -1 ∧ pickF H L p = top L) ∨ ∃ (k q : Nat), fi (fun k : Int => decide (Free H L k.toNat)) (toI p) = (k : Int) ∧ p[k]? = some q ∧ pickF H L p = q
  | [] => .inl ⟨rfl, rfl⟩
  | a :: p => by
    have e : toI (a :: p) = (a : Int) :: toI p := rfl
    rw [e, fi, pickF]
    simp only [Int.toNat_natCast]
    by_cases hf : Free H L a
    · rw [if_pos (by simp [hf]), if_pos hf]
      exact .inr ⟨0, a, rfl, rfl, rfl⟩
    · rw [if_neg (by simp [hf]), if_neg hf]
      rcases fi_pick p with ⟨h1, h2⟩ | ⟨k, q, h1, h2, h3⟩
      · rw [if_pos h1]; exact .inl ⟨rfl, h2⟩
      · rw [if_neg (by omega), h1]; exact .inr ⟨k + 1, q, by omega, by simpa using h2, h3⟩

/-- The largest bit of a word. -/
theorem top_bits {y : BitVec 32} {k : Nat} (h1 : y.getLsbD k = true) (h2 : ∀ j, y.getLsbD j = true → j ≤ k) : 2 ^ k ≤ y.toNat ∧ y.toNat < 2 ^ (k + 1) := by
  constructor
  · exact Nat.ge_two_pow_of_testBit h1
  · apply Nat.lt_pow_two_of_testBit
    intro j hj
    rw [Bool.eq_false_iff]; intro h; have := h2 j h; omega
end Go.Ab
