import Derived.Test.YtfahjamoghjcfaaDoorHG
set_option linter.unusedSimpArgs false
set_option linter.unusedVariables false
set_option maxRecDepth 100000
namespace Go.Ab
open Go Go.Proofs

/-- The length in bits of each byte. -/
def len8 : ByteArray := ⟨((List.range 256).map fun n => (if n = 0 then 0 else Nat.log2 n + 1).toUInt8).toArray⟩
theorem len8_size : len8.size = 256 := by decide
theorem len8_num : ∀ y : Fin 256, (len8[y.val]'(by rw [len8_size]; exact y.isLt)).toNat = if y.val = 0 then 0 else Nat.log2 y.val + 1 := by decide

theorem len8_at {y : Nat} (h0 : 1 ≤ y) (hy : y < 256) : evIdx cx 9 (.lit (.string len8)) (.lit (.int .u8 (y : Int))) = some (.lit (.int .u8 ((Nat.log2 y + 1 : Nat) : Int))) := by
  have ht : ti cx.P 9 = some ⟨.string, 1, 16⟩ := by kernel_rfl
  have h := len8_num ⟨y, hy⟩
  simp only at h
  rw [if_neg (by omega)] at h
  have hl : y < len8.size := by rw [len8_size]; exact hy
  simp only [evIdx, ht, natOf_cast, dif_pos hl, h]

theorem log_shift {x k s : Nat} (h1 : 2 ^ k ≤ x) (h2 : x < 2 ^ (k + 1)) (h3 : 1 ≤ x / 2 ^ s) : Nat.log2 (x / 2 ^ s) + s = k := by
  have hs : 2 ^ s ≤ x := by
    apply Classical.byContradiction; intro hc
    rw [Nat.div_eq_of_lt (by omega)] at h3; omega
  have hsk : s ≤ k := by
    apply Classical.byContradiction; intro hc
    have : 2 ^ (k + 1) ≤ 2 ^ s := Nat.pow_le_pow_right (by decide) (by omega)
    omega
  obtain ⟨d, rfl⟩ : ∃ d, k = d + s := ⟨k - s, by omega⟩
  have e1 : 2 ^ d ≤ x / 2 ^ s := by
    rw [Nat.le_div_iff_mul_le (Nat.two_pow_pos s), ← Nat.pow_add]; exact h1
  have e2 : x / 2 ^ s < 2 ^ (d + 1) := by
    rw [Nat.div_lt_iff_lt_mul (Nat.two_pow_pos s), ← Nat.pow_add, show d + 1 + s = d + s + 1 from by omega]; exact h2
  have : Nat.log2 (x / 2 ^ s) = d := (Nat.log2_eq_iff (by omega)).2 ⟨e1, e2⟩
  omega

theorem convs : (∀ n, purely cx.P (convert 53 5 (.int .u32 n)) = some (.int .u8 (IntKind.u8.wrap n))) ∧ (∀ n, purely cx.P (convert 5 3 (.int .u8 n)) = some (.int .i64 (IntKind.i64.wrap n))) := ⟨fun _ => rfl, fun _ => rfl⟩
theorem sh16 : ((0 : Int) ≤ 16) = True ∧ ((16 : Int).toNat = 16) ∧ ((0 : Int) ≤ 8) = True ∧ ((8 : Int).toNat = 8) := ⟨by simp, rfl, by simp, rfl⟩

theorem s50 (x : BitVec 32) (k : Nat) (h1 : 2 ^ k ≤ x.toNat) (h2 : x.toNat < 2 ^ (k + 1)) : CallSpec cx 50 [w32 x] (i64 (k + 1 : Nat)) := by
  refine callSpec_of_vc Tryd.func50 rfl (by decide) (by kernel_rfl) (Nat.le_of_ble_eq_true rfl) ?_
  simp only [Tryd.f50]
  generalize hS : (ByteArray.mk _) = S
  have hS' : S = len8 := by rw [← hS]; rfl
  clear hS; subst hS'
  have hn := x.isLt
  have hpos : 0 < 2 ^ k := Nat.two_pow_pos k
  have e8 : (x >>> 8).toNat = x.toNat / 256 := by rw [BitVec.toNat_ushiftRight, Nat.shiftRight_eq_div_pow]
  have e16 : (x >>> 16).toNat = x.toNat / 65536 := by rw [BitVec.toNat_ushiftRight, Nat.shiftRight_eq_div_pow]
  have e24 : (x >>> 16 >>> 8).toNat = x.toNat / 16777216 := by
    rw [BitVec.toNat_ushiftRight, e16, Nat.shiftRight_eq_div_pow, Nat.div_div_eq_div_mul]
  have fin : ∀ (s y : Nat), s ≤ 24 → x.toNat / 2 ^ s = y → 1 ≤ y → y < 256 → IntKind.i64.wrap ((s : Int) + IntKind.i64.wrap ((Nat.log2 y + 1 : Nat) : Int)) = ((k + 1 : Nat) : Int) := fun s y hs hy h3 h4 => by
    have := log_shift (s := s) h1 h2 (by rw [hy]; exact h3)
    rw [hy] at this
    have hlg : Nat.log2 y < 8 := (Nat.log2_lt (by omega)).2 (by omega)
    rw [IntWalk.i64_in ((Nat.log2 y + 1 : Nat) : Int) (by omega), IntWalk.i64_in _ (by omega)]; omega
  have wr : ∀ y : Nat, y < 256 → IntKind.u8.wrap (y : Int) = y := fun y hy => IntWalk.u8_in _ (by omega)
  cases hA : decide ((65536 : Int) ≤ (x.toNat : Int))
  · have hA' := of_decide_eq_false hA
    cases hB : decide ((256 : Int) ≤ (x.toNat : Int))
    · have hB' := of_decide_eq_false hB
      simp -dsimp only [↓vcl, ↓vco, vck, evl, evb, evBuiltin, evLen, evIdxA, evLoad, loadP, aggD, tis, i64, u32, bl, encL, encB, encLL, if_true, if_false, reduceIte, List.length_map, List.getElem?_map, Nat.reduceEqDiff, List.length_cons, List.length_nil, forget, forget1, wantd, bq, Bool.false_eq_true, Bool.not_true, Bool.not_false, eq_self, tzs, eve, evStore, evBox, evAlloc, evBuildSlice, evMakeSlice, evAppend, fillRows, zcells, elemsOf, putAll, PV.one, List.all_cons, List.all_nil, Bool.and_true, Bool.and_self, Nat.reduceAdd, Nat.reduceMul, Nat.zero_add, Nat.add_zero, Nat.zero_mul, Nat.one_mul, Nat.mul_one, Nat.le_refl, and_self, true_and, and_true, List.set_cons_zero, List.drop_zero, natK, putN, Int.cast_ofNat_Int, decide_true, decide_false, Int.reduceEq, Int.reduceLT, Int.reduceLE, List.append_nil, List.nil_append, List.cons_append, Nat.reduceLeDiff, posK, flI, flB, flU, takeI, ne_eq, not_false_eq_true, not_true_eq_false, List.reduceReplicate, Nat.zero_lt_one, Nat.one_ne_zero, List.take_succ_cons, List.take_zero, or_self, true_or, or_true, reduceCtorEq, List.length_append, List.map_append, List.map_cons, List.map_nil, List.drop_succ_cons, retQ, resL, finL, newL, flat, tupOf, List.toList_toArray, w32, uRules, hA, hB, evConv, uUn, convs, wr _ (show x.toNat < 256 by omega), len8_at (show 1 ≤ x.toNat by omega) (show x.toNat < 256 by omega)]
      exact leT_one (int_eq (fin 0 x.toNat (by omega) (by simp) (by omega) (by omega))) (by simp)
    · have hB' := of_decide_eq_true hB
      simp -dsimp only [↓vcl, ↓vco, vck, evl, evb, evBuiltin, evLen, evIdxA, evLoad, loadP, aggD, tis, i64, u32, bl, encL, encB, encLL, if_true, if_false, reduceIte, List.length_map, List.getElem?_map, Nat.reduceEqDiff, List.length_cons, List.length_nil, forget, forget1, wantd, bq, Bool.false_eq_true, Bool.not_true, Bool.not_false, eq_self, tzs, eve, evStore, evBox, evAlloc, evBuildSlice, evMakeSlice, evAppend, fillRows, zcells, elemsOf, putAll, PV.one, List.all_cons, List.all_nil, Bool.and_true, Bool.and_self, Nat.reduceAdd, Nat.reduceMul, Nat.zero_add, Nat.add_zero, Nat.zero_mul, Nat.one_mul, Nat.mul_one, Nat.le_refl, and_self, true_and, and_true, List.set_cons_zero, List.drop_zero, natK, putN, Int.cast_ofNat_Int, decide_true, decide_false, Int.reduceEq, Int.reduceLT, Int.reduceLE, List.append_nil, List.nil_append, List.cons_append, Nat.reduceLeDiff, posK, flI, flB, flU, takeI, ne_eq, not_false_eq_true, not_true_eq_false, List.reduceReplicate, Nat.zero_lt_one, Nat.one_ne_zero, List.take_succ_cons, List.take_zero, or_self, true_or, or_true, reduceCtorEq, List.length_append, List.map_append, List.map_cons, List.map_nil, List.drop_succ_cons, retQ, resL, finL, newL, flat, tupOf, List.toList_toArray, w32, uRules, uShr, sh16, hA, hB, evConv, uUn, convs, e8, wr _ (show x.toNat / 256 < 256 by omega), len8_at (show 1 ≤ x.toNat / 256 by omega) (show x.toNat / 256 < 256 by omega)]
      exact leT_one (int_eq (fin 8 (x.toNat / 256) (by omega) rfl (by omega) (by omega))) (by simp)
  · have hA' := of_decide_eq_true hA
    cases hB : decide ((256 : Int) ≤ ((x >>> 16).toNat : Int))
    · have hB' := of_decide_eq_false hB
      simp -dsimp only [↓vcl, ↓vco, vck, evl, evb, evBuiltin, evLen, evIdxA, evLoad, loadP, aggD, tis, i64, u32, bl, encL, encB, encLL, if_true, if_false, reduceIte, List.length_map, List.getElem?_map, Nat.reduceEqDiff, List.length_cons, List.length_nil, forget, forget1, wantd, bq, Bool.false_eq_true, Bool.not_true, Bool.not_false, eq_self, tzs, eve, evStore, evBox, evAlloc, evBuildSlice, evMakeSlice, evAppend, fillRows, zcells, elemsOf, putAll, PV.one, List.all_cons, List.all_nil, Bool.and_true, Bool.and_self, Nat.reduceAdd, Nat.reduceMul, Nat.zero_add, Nat.add_zero, Nat.zero_mul, Nat.one_mul, Nat.mul_one, Nat.le_refl, and_self, true_and, and_true, List.set_cons_zero, List.drop_zero, natK, putN, Int.cast_ofNat_Int, decide_true, decide_false, Int.reduceEq, Int.reduceLT, Int.reduceLE, List.append_nil, List.nil_append, List.cons_append, Nat.reduceLeDiff, posK, flI, flB, flU, takeI, ne_eq, not_false_eq_true, not_true_eq_false, List.reduceReplicate, Nat.zero_lt_one, Nat.one_ne_zero, List.take_succ_cons, List.take_zero, or_self, true_or, or_true, reduceCtorEq, List.length_append, List.map_append, List.map_cons, List.map_nil, List.drop_succ_cons, retQ, resL, finL, newL, flat, tupOf, List.toList_toArray, w32, uRules, uShr, sh16, hA, hB, evConv, uUn, convs, wr _ (show (x >>> 16).toNat < 256 by omega), len8_at (show 1 ≤ (x >>> 16).toNat by omega) (show (x >>> 16).toNat < 256 by omega)]
      exact leT_one (int_eq (fin 16 (x >>> 16).toNat (by omega) (by rw [e16]) (by omega) (by omega))) (by simp)
    · have hB' := of_decide_eq_true hB
      simp -dsimp only [↓vcl, ↓vco, vck, evl, evb, evBuiltin, evLen, evIdxA, evLoad, loadP, aggD, tis, i64, u32, bl, encL, encB, encLL, if_true, if_false, reduceIte, List.length_map, List.getElem?_map, Nat.reduceEqDiff, List.length_cons, List.length_nil, forget, forget1, wantd, bq, Bool.false_eq_true, Bool.not_true, Bool.not_false, eq_self, tzs, eve, evStore, evBox, evAlloc, evBuildSlice, evMakeSlice, evAppend, fillRows, zcells, elemsOf, putAll, PV.one, List.all_cons, List.all_nil, Bool.and_true, Bool.and_self, Nat.reduceAdd, Nat.reduceMul, Nat.zero_add, Nat.add_zero, Nat.zero_mul, Nat.one_mul, Nat.mul_one, Nat.le_refl, and_self, true_and, and_true, List.set_cons_zero, List.drop_zero, natK, putN, Int.cast_ofNat_Int, decide_true, decide_false, Int.reduceEq, Int.reduceLT, Int.reduceLE, List.append_nil, List.nil_append, List.cons_append, Nat.reduceLeDiff, posK, flI, flB, flU, takeI, ne_eq, not_false_eq_true, not_true_eq_false, List.reduceReplicate, Nat.zero_lt_one, Nat.one_ne_zero, List.take_succ_cons, List.take_zero, or_self, true_or, or_true, reduceCtorEq, List.length_append, List.map_append, List.map_cons, List.map_nil, List.drop_succ_cons, retQ, resL, finL, newL, flat, tupOf, List.toList_toArray, w32, uRules, uShr, sh16, hA, hB, evConv, uUn, convs, wr _ (show (x >>> 16 >>> 8).toNat < 256 by omega), len8_at (show 1 ≤ (x >>> 16 >>> 8).toNat by omega) (show (x >>> 16 >>> 8).toNat < 256 by omega)]
      exact leT_one (int_eq (fin 24 (x >>> 16 >>> 8).toNat (by omega) (by rw [e24]) (by omega) (by omega))) (by simp)
end Go.Ab
