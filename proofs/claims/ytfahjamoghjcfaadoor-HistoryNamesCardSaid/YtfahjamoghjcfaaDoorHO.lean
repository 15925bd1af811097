import Derived.Test.YtfahjamoghjcfaaDoorHN
set_option linter.unusedSimpArgs false
set_option linter.unusedVariables false
set_option maxRecDepth 100000
namespace Go.Ab
open Go Go.Proofs

theorem mem_lst : ∀ (m : List Bool) (s : Nat) (x : Int), x ∈ lst s m ↔ ∃ j : Nat, m[j]? = some true ∧ x = ((s + j : Nat) : Int)
  | [], s, x => by simp [lst]
  | b :: m, s, x => by
    have ih := mem_lst m (s + 1) x
    have key : (∃ j : Nat, (b :: m)[j]? = some true ∧ x = ((s + j : Nat) : Int)) ↔ (b = true ∧ x = (s : Int)) ∨ ∃ j : Nat, m[j]? = some true ∧ x = ((s + 1 + j : Nat) : Int) := by
      constructor
      · rintro ⟨j, h1, h2⟩
        cases j with
        | zero => simp at h1; exact .inl ⟨h1, by simpa using h2⟩
        | succ j => exact .inr ⟨j, by simpa using h1, by rw [h2]; congr 1; omega⟩
      · rintro (⟨h1, h2⟩ | ⟨j, h1, h2⟩)
        · exact ⟨0, by simp [h1], by simpa using h2⟩
        · exact ⟨j + 1, by simpa using h1, by rw [h2]; congr 1; omega⟩
    rw [key, ← ih]
    simp only [lst]
    cases b <;> simp
theorem mem_bits {y : BitVec 32} {x : Int} : x ∈ bitsL y ↔ ∃ j : Nat, y.getLsbD j = true ∧ x = (j : Int) := by
  unfold bitsL
  rw [mem_lst]
  constructor
  · rintro ⟨j, h1, h2⟩
    rw [bitsB_get] at h1
    split at h1
    · exact ⟨j, by simpa using h1, by simpa using h2⟩
    · cases h1
  · rintro ⟨j, h1, h2⟩
    have hj : j < 32 := by
      apply Classical.byContradiction; intro hc
      rw [BitVec.getLsbD_of_ge _ _ (by omega)] at h1; cases h1
    exact ⟨j, by rw [bitsB_get, if_pos hj, h1], by simpa using h2⟩

theorem anc_le {H : List (List Nat)} (hv : Vd H) {k j : Nat} (h : Anc H [k] j) : j ≤ k := by
  have := anc_lt hv (F := [k]) (n := k + 1) (by simp) h; omega

section
variable (h : List (List Int)) (hl : h.length ≤ 9223372036854775807) (hp : ∀ p ∈ h, p.length ≤ 9223372036854775807)
include hl hp

theorem s22 (a b : Int) : CallSpec cx 22 [encLL h, i64 a, i64 b] (.tup [encL (basI h a b), i64 (hasked h [a, b])]) := by
  refine callSpec_of_vc Tryd.func22 rfl (by decide) (by kernel_rfl) (Nat.le_of_ble_eq_true rfl) ?_
  simp -dsimp only [↓vcl, ↓vco, vck, evl, evb, evBuiltin, evLen, evIdxA, evLoad, loadP, aggD, tis, i64, u32, bl, encL, encB, encLL, if_true, if_false, reduceIte, List.length_map, List.getElem?_map, Nat.reduceEqDiff, List.length_cons, List.length_nil, forget, forget1, wantd, bq, Bool.false_eq_true, Bool.not_true, Bool.not_false, eq_self, tzs, eve, evStore, evBox, evAlloc, evBuildSlice, evMakeSlice, evAppend, fillRows, zcells, elemsOf, putAll, PV.one, List.all_cons, List.all_nil, Bool.and_true, Bool.and_self, Nat.reduceAdd, Nat.reduceMul, Nat.zero_add, Nat.add_zero, Nat.zero_mul, Nat.one_mul, Nat.mul_one, Nat.le_refl, and_self, true_and, and_true, List.set_cons_zero, List.drop_zero, natK, putN, Int.cast_ofNat_Int, decide_true, decide_false, Int.reduceEq, Int.reduceLT, Int.reduceLE, List.append_nil, List.nil_append, List.cons_append, Nat.reduceLeDiff, posK, flI, flB, flU, takeI, ne_eq, not_false_eq_true, not_true_eq_false, List.reduceReplicate, Nat.zero_lt_one, Nat.one_ne_zero, List.take_succ_cons, List.take_zero, or_self, true_or, or_true, reduceCtorEq, List.length_append, List.map_append, List.map_cons, List.map_nil, List.drop_succ_cons, Tryd.f22]
  refine CallQ.imm (s32 h [a, b] hl hp (by simp)) (by rfl) (by first | rfl | (simp -dsimp only [↓vcl, ↓vco, vck, evl, evb, evBuiltin, evLen, evIdxA, evLoad, loadP, aggD, tis, i64, u32, bl, encL, encB, encLL, if_true, if_false, reduceIte, List.length_map, List.getElem?_map, Nat.reduceEqDiff, List.length_cons, List.length_nil, forget, forget1, wantd, bq, Bool.false_eq_true, Bool.not_true, Bool.not_false, eq_self, tzs, eve, evStore, evBox, evAlloc, evBuildSlice, evMakeSlice, evAppend, fillRows, zcells, elemsOf, putAll, PV.one, List.all_cons, List.all_nil, Bool.and_true, Bool.and_self, Nat.reduceAdd, Nat.reduceMul, Nat.zero_add, Nat.add_zero, Nat.zero_mul, Nat.one_mul, Nat.mul_one, Nat.le_refl, and_self, true_and, and_true, List.set_cons_zero, List.drop_zero, natK, putN, Int.cast_ofNat_Int, decide_true, decide_false, Int.reduceEq, Int.reduceLT, Int.reduceLE, List.append_nil, List.nil_append, List.cons_append, Nat.reduceLeDiff, posK, flI, flB, flU, takeI, ne_eq, not_false_eq_true, not_true_eq_false, List.reduceReplicate, Nat.zero_lt_one, Nat.one_ne_zero, List.take_succ_cons, List.take_zero, or_self, true_or, or_true, reduceCtorEq, List.length_append, List.map_append, List.map_cons, List.map_nil, List.drop_succ_cons, drcs, drc, flat]; done) | simp -dsimp [evl, drcs, drc, flat, i64, u32, bl, encL, encB, encLL]) (by first | exact .inl rfl | exact .inr rfl | exact .inr scalB | exact .inr scalI) ?_
  cases hz : decide (hasked h [a, b] = 0)
  · have hz' := of_decide_eq_false hz
    simp -dsimp only [↓vcl, ↓vco, vck, evl, evb, evBuiltin, evLen, evIdxA, evLoad, loadP, aggD, tis, i64, u32, bl, encL, encB, encLL, if_true, if_false, reduceIte, List.length_map, List.getElem?_map, Nat.reduceEqDiff, List.length_cons, List.length_nil, forget, forget1, wantd, bq, Bool.false_eq_true, Bool.not_true, Bool.not_false, eq_self, tzs, eve, evStore, evBox, evAlloc, evBuildSlice, evMakeSlice, evAppend, fillRows, zcells, elemsOf, putAll, PV.one, List.all_cons, List.all_nil, Bool.and_true, Bool.and_self, Nat.reduceAdd, Nat.reduceMul, Nat.zero_add, Nat.add_zero, Nat.zero_mul, Nat.one_mul, Nat.mul_one, Nat.le_refl, and_self, true_and, and_true, List.set_cons_zero, List.drop_zero, natK, putN, Int.cast_ofNat_Int, decide_true, decide_false, Int.reduceEq, Int.reduceLT, Int.reduceLE, List.append_nil, List.nil_append, List.cons_append, Nat.reduceLeDiff, posK, flI, flB, flU, takeI, ne_eq, not_false_eq_true, not_true_eq_false, List.reduceReplicate, Nat.zero_lt_one, Nat.one_ne_zero, List.take_succ_cons, List.take_zero, or_self, true_or, or_true, reduceCtorEq, List.length_append, List.map_append, List.map_cons, List.map_nil, List.drop_succ_cons, retQ, resL, finL, newL, flat, tupOf, List.toList_toArray, Tryd.f22, hz]
    refine ⟨.inl (.inr (.inr ⟨rfl, ?_⟩)), .rfl', trivial⟩
    rw [basI, if_neg hz']; rfl
  · have hz' := of_decide_eq_true hz
    obtain ⟨g1, g2⟩ := asked_of hz'
    obtain ⟨v1, v2, v3, v4⟩ := valid_of g1
    have ha := g2 a (by simp)
    have hb := g2 b (by simp)
    have hlen : (fromI h).length = h.length := by simp [fromI]
    obtain ⟨a, rfl⟩ : ∃ o : Nat, a = o := ⟨a.toNat, by omega⟩
    obtain ⟨b, rfl⟩ : ∃ o : Nat, b = o := ⟨b.toNat, by omega⟩
    have hga := setsL_get (H := fromI h) (i := a) (by omega)
    have hgb := setsL_get (H := fromI h) (i := b) (by omega)
    have hcm : ∀ j, (ancW (fromI h) a &&& ancW (fromI h) b).getLsbD j = true ↔ j < h.length ∧ Cm (fromI h) a b j := by
      intro j
      rw [BitVec.getLsbD_and, Bool.and_eq_true, ancW_get, ancW_get]
      constructor
      · rintro ⟨⟨h1, h2⟩, h3, h4⟩
        have := anc_ltH v3 (by omega) h2
        exact ⟨by omega, h2, h4⟩
      · rintro ⟨h1, h2, h3⟩
        exact ⟨⟨by omega, h2⟩, by omega, h3⟩
    simp -dsimp only [↓vcl, ↓vco, vck, evl, evb, evBuiltin, evLen, evIdxA, evLoad, loadP, aggD, tis, i64, u32, bl, encL, encB, encLL, if_true, if_false, reduceIte, List.length_map, List.getElem?_map, Nat.reduceEqDiff, List.length_cons, List.length_nil, forget, forget1, wantd, bq, Bool.false_eq_true, Bool.not_true, Bool.not_false, eq_self, tzs, eve, evStore, evBox, evAlloc, evBuildSlice, evMakeSlice, evAppend, fillRows, zcells, elemsOf, putAll, PV.one, List.all_cons, List.all_nil, Bool.and_true, Bool.and_self, Nat.reduceAdd, Nat.reduceMul, Nat.zero_add, Nat.add_zero, Nat.zero_mul, Nat.one_mul, Nat.mul_one, Nat.le_refl, and_self, true_and, and_true, List.set_cons_zero, List.drop_zero, natK, putN, Int.cast_ofNat_Int, decide_true, decide_false, Int.reduceEq, Int.reduceLT, Int.reduceLE, List.append_nil, List.nil_append, List.cons_append, Nat.reduceLeDiff, posK, flI, flB, flU, takeI, ne_eq, not_false_eq_true, not_true_eq_false, List.reduceReplicate, Nat.zero_lt_one, Nat.one_ne_zero, List.take_succ_cons, List.take_zero, or_self, true_or, or_true, reduceCtorEq, List.length_append, List.map_append, List.map_cons, List.map_nil, List.drop_succ_cons, Tryd.f22, hz]
    refine CallQ.imm (s33' g1) (by rfl) (by first | rfl | (simp -dsimp only [↓vcl, ↓vco, vck, evl, evb, evBuiltin, evLen, evIdxA, evLoad, loadP, aggD, tis, i64, u32, bl, encL, encB, encLL, if_true, if_false, reduceIte, List.length_map, List.getElem?_map, Nat.reduceEqDiff, List.length_cons, List.length_nil, forget, forget1, wantd, bq, Bool.false_eq_true, Bool.not_true, Bool.not_false, eq_self, tzs, eve, evStore, evBox, evAlloc, evBuildSlice, evMakeSlice, evAppend, fillRows, zcells, elemsOf, putAll, PV.one, List.all_cons, List.all_nil, Bool.and_true, Bool.and_self, Nat.reduceAdd, Nat.reduceMul, Nat.zero_add, Nat.add_zero, Nat.zero_mul, Nat.one_mul, Nat.mul_one, Nat.le_refl, and_self, true_and, and_true, List.set_cons_zero, List.drop_zero, natK, putN, Int.cast_ofNat_Int, decide_true, decide_false, Int.reduceEq, Int.reduceLT, Int.reduceLE, List.append_nil, List.nil_append, List.cons_append, Nat.reduceLeDiff, posK, flI, flB, flU, takeI, ne_eq, not_false_eq_true, not_true_eq_false, List.reduceReplicate, Nat.zero_lt_one, Nat.one_ne_zero, List.take_succ_cons, List.take_zero, or_self, true_or, or_true, reduceCtorEq, List.length_append, List.map_append, List.map_cons, List.map_nil, List.drop_succ_cons, drcs, drc, flat]; done) | simp -dsimp [evl, drcs, drc, flat, i64, u32, bl, encL, encB, encLL]) (by first | exact .inl rfl | exact .inr rfl | exact .inr scalB | exact .inr scalI) ?_
    simp -dsimp only [↓vcl, ↓vco, vck, evl, evb, evBuiltin, evLen, evIdxA, evLoad, loadP, aggD, tis, i64, u32, bl, encL, encB, encLL, if_true, if_false, reduceIte, List.length_map, List.getElem?_map, Nat.reduceEqDiff, List.length_cons, List.length_nil, forget, forget1, wantd, bq, Bool.false_eq_true, Bool.not_true, Bool.not_false, eq_self, tzs, eve, evStore, evBox, evAlloc, evBuildSlice, evMakeSlice, evAppend, fillRows, zcells, elemsOf, putAll, PV.one, List.all_cons, List.all_nil, Bool.and_true, Bool.and_self, Nat.reduceAdd, Nat.reduceMul, Nat.zero_add, Nat.add_zero, Nat.zero_mul, Nat.one_mul, Nat.mul_one, Nat.le_refl, and_self, true_and, and_true, List.set_cons_zero, List.drop_zero, natK, putN, Int.cast_ofNat_Int, decide_true, decide_false, Int.reduceEq, Int.reduceLT, Int.reduceLE, List.append_nil, List.nil_append, List.cons_append, Nat.reduceLeDiff, posK, flI, flB, flU, takeI, ne_eq, not_false_eq_true, not_true_eq_false, List.reduceReplicate, Nat.zero_lt_one, Nat.one_ne_zero, List.take_succ_cons, List.take_zero, or_self, true_or, or_true, reduceCtorEq, List.length_append, List.map_append, List.map_cons, List.map_nil, List.drop_succ_cons, hga, hgb, w32, uRules, uBits]
    generalize ancW (fromI h) a &&& ancW (fromI h) b = cm at *
    refine CallQ.imm (s34 cm) (by rfl) (by first | rfl | (simp -dsimp only [↓vcl, ↓vco, vck, evl, evb, evBuiltin, evLen, evIdxA, evLoad, loadP, aggD, tis, i64, u32, bl, encL, encB, encLL, if_true, if_false, reduceIte, List.length_map, List.getElem?_map, Nat.reduceEqDiff, List.length_cons, List.length_nil, forget, forget1, wantd, bq, Bool.false_eq_true, Bool.not_true, Bool.not_false, eq_self, tzs, eve, evStore, evBox, evAlloc, evBuildSlice, evMakeSlice, evAppend, fillRows, zcells, elemsOf, putAll, PV.one, List.all_cons, List.all_nil, Bool.and_true, Bool.and_self, Nat.reduceAdd, Nat.reduceMul, Nat.zero_add, Nat.add_zero, Nat.zero_mul, Nat.one_mul, Nat.mul_one, Nat.le_refl, and_self, true_and, and_true, List.set_cons_zero, List.drop_zero, natK, putN, Int.cast_ofNat_Int, decide_true, decide_false, Int.reduceEq, Int.reduceLT, Int.reduceLE, List.append_nil, List.nil_append, List.cons_append, Nat.reduceLeDiff, posK, flI, flB, flU, takeI, ne_eq, not_false_eq_true, not_true_eq_false, List.reduceReplicate, Nat.zero_lt_one, Nat.one_ne_zero, List.take_succ_cons, List.take_zero, or_self, true_or, or_true, reduceCtorEq, List.length_append, List.map_append, List.map_cons, List.map_nil, List.drop_succ_cons, drcs, drc, flat]; done) | simp -dsimp [evl, drcs, drc, flat, i64, u32, bl, encL, encB, encLL]) (by first | exact .inl rfl | exact .inr rfl | exact .inr scalB | exact .inr scalI) ?_
    simp -dsimp only [↓vcl, ↓vco, vck, evl, evb, evBuiltin, evLen, evIdxA, evLoad, loadP, aggD, tis, i64, u32, bl, encL, encB, encLL, if_true, if_false, reduceIte, List.length_map, List.getElem?_map, Nat.reduceEqDiff, List.length_cons, List.length_nil, forget, forget1, wantd, bq, Bool.false_eq_true, Bool.not_true, Bool.not_false, eq_self, tzs, eve, evStore, evBox, evAlloc, evBuildSlice, evMakeSlice, evAppend, fillRows, zcells, elemsOf, putAll, PV.one, List.all_cons, List.all_nil, Bool.and_true, Bool.and_self, Nat.reduceAdd, Nat.reduceMul, Nat.zero_add, Nat.add_zero, Nat.zero_mul, Nat.one_mul, Nat.mul_one, Nat.le_refl, and_self, true_and, and_true, List.set_cons_zero, List.drop_zero, natK, putN, Int.cast_ofNat_Int, decide_true, decide_false, Int.reduceEq, Int.reduceLT, Int.reduceLE, List.append_nil, List.nil_append, List.cons_append, Nat.reduceLeDiff, posK, flI, flB, flU, takeI, ne_eq, not_false_eq_true, not_true_eq_false, List.reduceReplicate, Nat.zero_lt_one, Nat.one_ne_zero, List.take_succ_cons, List.take_zero, or_self, true_or, or_true, reduceCtorEq, List.length_append, List.map_append, List.map_cons, List.map_nil, List.drop_succ_cons, newI]
    have hbl := bits_len cm
    refine LoopQ.rule (fun m st => ∃ (t : Nat) (y : BitVec 32), t ≤ (bitsL cm).length ∧ (∀ j, y.getLsbD j = true ↔ cm.getLsbD j = true ∧ ∀ i : Nat, (i : Int) ∈ (bitsL cm).take t → i ≠ j → ¬ Anc (fromI h) [i] j) ∧ m = (bitsL cm).length - t ∧
      st = ⟨mkE [(9, .imm ((setsL (fromI h)).map fun x => [w32 x]) false), (11, w32 y), (35, encL (bitsL cm)), (36, i64 (bitsL cm).length), (37, i64 t)], mkS [], 1⟩) _ _ (weak_of ?_)
      ⟨0, cm, by omega, by simp, rfl, rfl⟩ ?_
    · first | (simp -dsimp only [↓vcl, ↓vco, vck, evl, evb, evBuiltin, evLen, evIdxA, evLoad, loadP, aggD, tis, i64, u32, bl, encL, encB, encLL, if_true, if_false, reduceIte, List.length_map, List.getElem?_map, Nat.reduceEqDiff, List.length_cons, List.length_nil, forget, forget1, wantd, bq, Bool.false_eq_true, Bool.not_true, Bool.not_false, eq_self, tzs, eve, evStore, evBox, evAlloc, evBuildSlice, evMakeSlice, evAppend, fillRows, zcells, elemsOf, putAll, PV.one, List.all_cons, List.all_nil, Bool.and_true, Bool.and_self, Nat.reduceAdd, Nat.reduceMul, Nat.zero_add, Nat.add_zero, Nat.zero_mul, Nat.one_mul, Nat.mul_one, Nat.le_refl, and_self, true_and, and_true, List.set_cons_zero, List.drop_zero, natK, putN, Int.cast_ofNat_Int, decide_true, decide_false, Int.reduceEq, Int.reduceLT, Int.reduceLE, List.append_nil, List.nil_append, List.cons_append, Nat.reduceLeDiff, posK, flI, flB, flU, takeI, ne_eq, not_false_eq_true, not_true_eq_false, List.reduceReplicate, Nat.zero_lt_one, Nat.one_ne_zero, List.take_succ_cons, List.take_zero, or_self, true_or, or_true, reduceCtorEq, List.length_append, List.map_append, List.map_cons, List.map_nil, List.drop_succ_cons, w32, newI]; done) | simp -dsimp [evl, putN, i64, u32, bl, encL, encB, encLL, w32, newI]
    rintro m st ⟨t, y, ht, hy, rfl, rfl⟩
    simp -dsimp only [↓vcl, ↓vco, vck, evl, evb, evBuiltin, evLen, evIdxA, evLoad, loadP, aggD, tis, i64, u32, bl, encL, encB, encLL, if_true, if_false, reduceIte, List.length_map, List.getElem?_map, Nat.reduceEqDiff, List.length_cons, List.length_nil, forget, forget1, wantd, bq, Bool.false_eq_true, Bool.not_true, Bool.not_false, eq_self, tzs, eve, evStore, evBox, evAlloc, evBuildSlice, evMakeSlice, evAppend, fillRows, zcells, elemsOf, putAll, PV.one, List.all_cons, List.all_nil, Bool.and_true, Bool.and_self, Nat.reduceAdd, Nat.reduceMul, Nat.zero_add, Nat.add_zero, Nat.zero_mul, Nat.one_mul, Nat.mul_one, Nat.le_refl, and_self, true_and, and_true, List.set_cons_zero, List.drop_zero, natK, putN, Int.cast_ofNat_Int, decide_true, decide_false, Int.reduceEq, Int.reduceLT, Int.reduceLE, List.append_nil, List.nil_append, List.cons_append, Nat.reduceLeDiff, posK, flI, flB, flU, takeI, ne_eq, not_false_eq_true, not_true_eq_false, List.reduceReplicate, Nat.zero_lt_one, Nat.one_ne_zero, List.take_succ_cons, List.take_zero, or_self, true_or, or_true, reduceCtorEq, List.length_append, List.map_append, List.map_cons, List.map_nil, List.drop_succ_cons]
    refine onC_nlt (fun h2 => ?_) (fun h2 => ?_)
    · obtain ⟨x, hx, hxm⟩ := get_of_lt h2
      obtain ⟨i, hi1, rfl⟩ := mem_bits.1 hxm
      have hi2 := (hcm i).1 hi1
      have hgi := setsL_get (H := fromI h) (i := i) (by omega)
      simp -dsimp only [↓vcl, ↓vco, vck, evl, evb, evBuiltin, evLen, evIdxA, evLoad, loadP, aggD, tis, i64, u32, bl, encL, encB, encLL, if_true, if_false, reduceIte, List.length_map, List.getElem?_map, Nat.reduceEqDiff, List.length_cons, List.length_nil, forget, forget1, wantd, bq, Bool.false_eq_true, Bool.not_true, Bool.not_false, eq_self, tzs, eve, evStore, evBox, evAlloc, evBuildSlice, evMakeSlice, evAppend, fillRows, zcells, elemsOf, putAll, PV.one, List.all_cons, List.all_nil, Bool.and_true, Bool.and_self, Nat.reduceAdd, Nat.reduceMul, Nat.zero_add, Nat.add_zero, Nat.zero_mul, Nat.one_mul, Nat.mul_one, Nat.le_refl, and_self, true_and, and_true, List.set_cons_zero, List.drop_zero, natK, putN, Int.cast_ofNat_Int, decide_true, decide_false, Int.reduceEq, Int.reduceLT, Int.reduceLE, List.append_nil, List.nil_append, List.cons_append, Nat.reduceLeDiff, posK, flI, flB, flU, takeI, ne_eq, not_false_eq_true, not_true_eq_false, List.reduceReplicate, Nat.zero_lt_one, Nat.one_ne_zero, List.take_succ_cons, List.take_zero, or_self, true_or, or_true, reduceCtorEq, List.length_append, List.map_append, List.map_cons, List.map_nil, List.drop_succ_cons, hx, hgi, w32, uRules, uBits, uShl]
      refine ⟨_, _, ?_, weak_of ?_, t + 1, y &&& ~~~ (ancW (fromI h) i &&& ~~~ (1#32 <<< i)), h2, fun j => ?_, rfl, rfl⟩
      · omega
      · first | (simp -dsimp only [↓vcl, ↓vco, vck, evl, evb, evBuiltin, evLen, evIdxA, evLoad, loadP, aggD, tis, i64, u32, bl, encL, encB, encLL, if_true, if_false, reduceIte, List.length_map, List.getElem?_map, Nat.reduceEqDiff, List.length_cons, List.length_nil, forget, forget1, wantd, bq, Bool.false_eq_true, Bool.not_true, Bool.not_false, eq_self, tzs, eve, evStore, evBox, evAlloc, evBuildSlice, evMakeSlice, evAppend, fillRows, zcells, elemsOf, putAll, PV.one, List.all_cons, List.all_nil, Bool.and_true, Bool.and_self, Nat.reduceAdd, Nat.reduceMul, Nat.zero_add, Nat.add_zero, Nat.zero_mul, Nat.one_mul, Nat.mul_one, Nat.le_refl, and_self, true_and, and_true, List.set_cons_zero, List.drop_zero, natK, putN, Int.cast_ofNat_Int, decide_true, decide_false, Int.reduceEq, Int.reduceLT, Int.reduceLE, List.append_nil, List.nil_append, List.cons_append, Nat.reduceLeDiff, posK, flI, flB, flU, takeI, ne_eq, not_false_eq_true, not_true_eq_false, List.reduceReplicate, Nat.zero_lt_one, Nat.one_ne_zero, List.take_succ_cons, List.take_zero, or_self, true_or, or_true, reduceCtorEq, List.length_append, List.map_append, List.map_cons, List.map_nil, List.drop_succ_cons, w32, wrapS h2 (show (bitsL cm).length ≤ 9223372036854775807 by omega)]; done) | simp -dsimp [evl, putN, i64, u32, bl, encL, encB, encLL, w32, wrapS h2 (show (bitsL cm).length ≤ 9223372036854775807 by omega)]
      · rw [BitVec.getLsbD_and, BitVec.getLsbD_not, BitVec.getLsbD_and, BitVec.getLsbD_not, show (1#32 <<< i) = BitVec.twoPow 32 i from by rw [BitVec.twoPow_eq], BitVec.getLsbD_twoPow, Bool.and_eq_true, hy j, take_succ hx]
        have hA : (ancW (fromI h) i).getLsbD j = true ↔ j < 32 ∧ Anc (fromI h) [i] j := ancW_get
        generalize (ancW (fromI h) i).getLsbD j = A at *
        constructor
        · rintro ⟨⟨h3, h4⟩, h5⟩
          refine ⟨h3, fun k hk hkj => ?_⟩
          rw [List.mem_append] at hk
          rcases hk with hk | hk
          · exact h4 k hk hkj
          · simp at hk
            have hki : k = i := by omega
            subst hki
            intro h6
            have hj32 : j < 32 := by have := (hcm j).1 h3; omega
            have := hA.2 ⟨hj32, h6⟩
            simp [this, hj32, hkj] at h5
        · rintro ⟨h3, h4⟩
          refine ⟨⟨h3, fun k hk => h4 k (by rw [List.mem_append]; exact .inl hk)⟩, ?_⟩
          have hj32 : j < 32 := by have := (hcm j).1 h3; omega
          by_cases e : i = j
          · have hi32 : i < 32 := by omega
            simp [hj32, e]
          · have := h4 i (by simp) e
            have h7 : A = false := by rw [Bool.eq_false_iff]; exact fun h8 => this (hA.1 h8).2
            simp [hj32, h7]
    · simp -dsimp only [↓vcl, ↓vco, vck, evl, evb, evBuiltin, evLen, evIdxA, evLoad, loadP, aggD, tis, i64, u32, bl, encL, encB, encLL, if_true, if_false, reduceIte, List.length_map, List.getElem?_map, Nat.reduceEqDiff, List.length_cons, List.length_nil, forget, forget1, wantd, bq, Bool.false_eq_true, Bool.not_true, Bool.not_false, eq_self, tzs, eve, evStore, evBox, evAlloc, evBuildSlice, evMakeSlice, evAppend, fillRows, zcells, elemsOf, putAll, PV.one, List.all_cons, List.all_nil, Bool.and_true, Bool.and_self, Nat.reduceAdd, Nat.reduceMul, Nat.zero_add, Nat.add_zero, Nat.zero_mul, Nat.one_mul, Nat.mul_one, Nat.le_refl, and_self, true_and, and_true, List.set_cons_zero, List.drop_zero, natK, putN, Int.cast_ofNat_Int, decide_true, decide_false, Int.reduceEq, Int.reduceLT, Int.reduceLE, List.append_nil, List.nil_append, List.cons_append, Nat.reduceLeDiff, posK, flI, flB, flU, takeI, ne_eq, not_false_eq_true, not_true_eq_false, List.reduceReplicate, Nat.zero_lt_one, Nat.one_ne_zero, List.take_succ_cons, List.take_zero, or_self, true_or, or_true, reduceCtorEq, List.length_append, List.map_append, List.map_cons, List.map_nil, List.drop_succ_cons, w32]
      refine CallQ.imm (s34 y) (by rfl) (by first | rfl | (simp -dsimp only [↓vcl, ↓vco, vck, evl, evb, evBuiltin, evLen, evIdxA, evLoad, loadP, aggD, tis, i64, u32, bl, encL, encB, encLL, if_true, if_false, reduceIte, List.length_map, List.getElem?_map, Nat.reduceEqDiff, List.length_cons, List.length_nil, forget, forget1, wantd, bq, Bool.false_eq_true, Bool.not_true, Bool.not_false, eq_self, tzs, eve, evStore, evBox, evAlloc, evBuildSlice, evMakeSlice, evAppend, fillRows, zcells, elemsOf, putAll, PV.one, List.all_cons, List.all_nil, Bool.and_true, Bool.and_self, Nat.reduceAdd, Nat.reduceMul, Nat.zero_add, Nat.add_zero, Nat.zero_mul, Nat.one_mul, Nat.mul_one, Nat.le_refl, and_self, true_and, and_true, List.set_cons_zero, List.drop_zero, natK, putN, Int.cast_ofNat_Int, decide_true, decide_false, Int.reduceEq, Int.reduceLT, Int.reduceLE, List.append_nil, List.nil_append, List.cons_append, Nat.reduceLeDiff, posK, flI, flB, flU, takeI, ne_eq, not_false_eq_true, not_true_eq_false, List.reduceReplicate, Nat.zero_lt_one, Nat.one_ne_zero, List.take_succ_cons, List.take_zero, or_self, true_or, or_true, reduceCtorEq, List.length_append, List.map_append, List.map_cons, List.map_nil, List.drop_succ_cons, drcs, drc, flat]; done) | simp -dsimp [evl, drcs, drc, flat, i64, u32, bl, encL, encB, encLL]) (by first | exact .inl rfl | exact .inr rfl | exact .inr scalB | exact .inr scalI) ?_
      simp -dsimp only [↓vcl, ↓vco, vck, evl, evb, evBuiltin, evLen, evIdxA, evLoad, loadP, aggD, tis, i64, u32, bl, encL, encB, encLL, if_true, if_false, reduceIte, List.length_map, List.getElem?_map, Nat.reduceEqDiff, List.length_cons, List.length_nil, forget, forget1, wantd, bq, Bool.false_eq_true, Bool.not_true, Bool.not_false, eq_self, tzs, eve, evStore, evBox, evAlloc, evBuildSlice, evMakeSlice, evAppend, fillRows, zcells, elemsOf, putAll, PV.one, List.all_cons, List.all_nil, Bool.and_true, Bool.and_self, Nat.reduceAdd, Nat.reduceMul, Nat.zero_add, Nat.add_zero, Nat.zero_mul, Nat.one_mul, Nat.mul_one, Nat.le_refl, and_self, true_and, and_true, List.set_cons_zero, List.drop_zero, natK, putN, Int.cast_ofNat_Int, decide_true, decide_false, Int.reduceEq, Int.reduceLT, Int.reduceLE, List.append_nil, List.nil_append, List.cons_append, Nat.reduceLeDiff, posK, flI, flB, flU, takeI, ne_eq, not_false_eq_true, not_true_eq_false, List.reduceReplicate, Nat.zero_lt_one, Nat.one_ne_zero, List.take_succ_cons, List.take_zero, or_self, true_or, or_true, reduceCtorEq, List.length_append, List.map_append, List.map_cons, List.map_nil, List.drop_succ_cons, retQ, resL, finL, newL, flat, tupOf, List.toList_toArray, Tryd.f22, newI]
      refine ⟨?_, int_eq hz'.symm, trivial⟩
      rw [basI, if_pos hz', Int.toNat_natCast, Int.toNat_natCast]
      have e : bitsL y = lst 0 (basB (fromI h) a b) := by
        apply bits_dec (by omega)
        intro j
        rw [hy j, hcm j, List.take_of_length_le (by omega), hlen]
        constructor
        · rintro ⟨⟨h3, h4⟩, h5⟩
          refine ⟨h3, h4, fun k hk hkj => h5 k (mem_bits.2 ⟨k, (hcm k).2 ⟨?_, hk⟩, rfl⟩) hkj⟩
          have := anc_ltH v3 (by omega) hk.1; omega
        · rintro ⟨h3, h4, h5⟩
          refine ⟨⟨h3, h4⟩, fun k hk hkj => ?_⟩
          obtain ⟨k', h6, h7⟩ := mem_bits.1 hk
          have : k' = k := by omega
          subst this
          exact h5 k' ((hcm k').1 h6).2 hkj
      rw [e]; exact .rfl'
end
end Go.Ab
