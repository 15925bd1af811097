import Derived.Test.YtfahjamoghjcfaaDoorHJ
set_option linter.unusedSimpArgs false
set_option linter.unusedVariables false
set_option maxRecDepth 100000
namespace Go.Ab
open Go Go.Proofs

/-- The line of a commit; fuel ahead. -/
def lineF (H : List (List Nat)) : Nat → Nat → List Int
  | 0, _ => []
  | n + 1, i => (i : Int) :: match H[i]? with
    | some (k :: _) => lineF H n k
    | _ => []
theorem lineF_enough {H : List (List Nat)} (hv : Vd H) : ∀ (n i : Nat), i < n → lineF H n i = lineF H (i + 1) i := by
  intro n i
  induction i using Nat.strongRecOn generalizing n with
  | ind i ih =>
    intro hn
    obtain ⟨m, rfl⟩ : ∃ m, n = m + 1 := ⟨n - 1, by omega⟩
    simp only [lineF]
    cases hp : H[i]? with
    | none => rfl
    | some p =>
      cases p with
      | nil => rfl
      | cons k r =>
        have hk : k < i := hv i _ hp k (by simp)
        simp only
        rw [ih k hk m (by omega), ih k hk i hk]
def lineL (H : List (List Nat)) (i : Nat) : List Int := lineF H (i + 1) i
theorem line_nil {H : List (List Nat)} {i : Nat} (hp : H[i]? = some []) : lineL H i = [(i : Int)] := by simp [lineL, lineF, hp]
theorem line_cons {H : List (List Nat)} (hv : Vd H) {i k : Nat} {r : List Nat} (hp : H[i]? = some (k :: r)) : lineL H i = (i : Int) :: lineL H k := by
  have hk : k < i := hv i _ hp k (by simp)
  show (i : Int) :: (match H[i]? with
    | some (k :: _) => lineF H i k
    | _ => []) = _
  rw [hp]
  simp only
  rw [lineF_enough hv i k hk]; rfl
theorem lineF_len {H : List (List Nat)} : ∀ (n i : Nat), (lineF H n i).length ≤ n
  | 0, i => by simp [lineF]
  | n + 1, i => by
    simp only [lineF, List.length_cons]
    split
    · have := lineF_len (H := H) n; rename_i k _ _; have := this k; omega
    · simp

noncomputable def lineI (h : List (List Int)) (of : Int) : List Int := if hasked h [of] = 0 then lineL (fromI h) of.toNat else []

theorem tII {H : List (List Nat)} {i : Nat} : (toII H)[i]? = (H[i]?).map toI := by rw [toII, List.getElem?_map]
theorem tIL {H : List (List Nat)} : (toII H).length = H.length := by simp [toII]
theorem posR {r : List Nat} : decide ((0 : Int) < ((r.length + 1 : Nat) : Int)) = true := by rw [decide_eq_true_iff]; omega
theorem valid_ex {h : List (List Int)} (hz : hcheck h = 0) : ∃ H, h = toII H ∧ fromI (toII H) = H ∧ H.length ≤ 24 ∧ Vd H ∧ (∀ p ∈ H, p.length ≤ 2) := by
  obtain ⟨v1, v2, v3, v4⟩ := valid_of hz
  have hlen : (fromI h).length = h.length := by simp [fromI]
  exact ⟨fromI h, v2.symm, by rw [v2], by omega, v3, v4⟩

section
variable (h : List (List Int)) (hl : h.length ≤ 9223372036854775807) (hp : ∀ p ∈ h, p.length ≤ 9223372036854775807)
include hl hp

theorem s15 (of : Int) : CallSpec cx 15 [encLL h, i64 of] (.tup [newI (lineI h of), i64 (hasked h [of])]) := by
  refine callSpec_of_vc Tryd.func15 rfl (by decide) (by kernel_rfl) (Nat.le_of_ble_eq_true rfl) ?_
  simp -dsimp only [↓vcl, ↓vco, vck, evl, evb, evBuiltin, evLen, evIdxA, evLoad, loadP, aggD, tis, i64, u32, bl, encL, encB, encLL, if_true, if_false, reduceIte, List.length_map, List.getElem?_map, Nat.reduceEqDiff, List.length_cons, List.length_nil, forget, forget1, wantd, bq, Bool.false_eq_true, Bool.not_true, Bool.not_false, eq_self, tzs, eve, evStore, evBox, evAlloc, evBuildSlice, evMakeSlice, evAppend, fillRows, zcells, elemsOf, putAll, PV.one, List.all_cons, List.all_nil, Bool.and_true, Bool.and_self, Nat.reduceAdd, Nat.reduceMul, Nat.zero_add, Nat.add_zero, Nat.zero_mul, Nat.one_mul, Nat.mul_one, Nat.le_refl, and_self, true_and, and_true, List.set_cons_zero, List.drop_zero, natK, putN, Int.cast_ofNat_Int, decide_true, decide_false, Int.reduceEq, Int.reduceLT, Int.reduceLE, List.append_nil, List.nil_append, List.cons_append, Nat.reduceLeDiff, posK, flI, flB, flU, takeI, ne_eq, not_false_eq_true, not_true_eq_false, List.reduceReplicate, Nat.zero_lt_one, Nat.one_ne_zero, List.take_succ_cons, List.take_zero, or_self, true_or, or_true, reduceCtorEq, List.length_append, List.map_append, List.map_cons, List.map_nil, List.drop_succ_cons, Tryd.f15]
  refine CallQ.imm (s32 h [of] hl hp (by simp)) (by rfl) (by first | rfl | (simp -dsimp only [↓vcl, ↓vco, vck, evl, evb, evBuiltin, evLen, evIdxA, evLoad, loadP, aggD, tis, i64, u32, bl, encL, encB, encLL, if_true, if_false, reduceIte, List.length_map, List.getElem?_map, Nat.reduceEqDiff, List.length_cons, List.length_nil, forget, forget1, wantd, bq, Bool.false_eq_true, Bool.not_true, Bool.not_false, eq_self, tzs, eve, evStore, evBox, evAlloc, evBuildSlice, evMakeSlice, evAppend, fillRows, zcells, elemsOf, putAll, PV.one, List.all_cons, List.all_nil, Bool.and_true, Bool.and_self, Nat.reduceAdd, Nat.reduceMul, Nat.zero_add, Nat.add_zero, Nat.zero_mul, Nat.one_mul, Nat.mul_one, Nat.le_refl, and_self, true_and, and_true, List.set_cons_zero, List.drop_zero, natK, putN, Int.cast_ofNat_Int, decide_true, decide_false, Int.reduceEq, Int.reduceLT, Int.reduceLE, List.append_nil, List.nil_append, List.cons_append, Nat.reduceLeDiff, posK, flI, flB, flU, takeI, ne_eq, not_false_eq_true, not_true_eq_false, List.reduceReplicate, Nat.zero_lt_one, Nat.one_ne_zero, List.take_succ_cons, List.take_zero, or_self, true_or, or_true, reduceCtorEq, List.length_append, List.map_append, List.map_cons, List.map_nil, List.drop_succ_cons, drcs, drc, flat]; done) | simp -dsimp [evl, drcs, drc, flat, i64, u32, bl, encL, encB, encLL]) (by first | exact .inl rfl | exact .inr rfl | exact .inr scalB | exact .inr scalI) ?_
  cases hz : decide (hasked h [of] = 0)
  · have hz' := of_decide_eq_false hz
    simp -dsimp only [↓vcl, ↓vco, vck, evl, evb, evBuiltin, evLen, evIdxA, evLoad, loadP, aggD, tis, i64, u32, bl, encL, encB, encLL, if_true, if_false, reduceIte, List.length_map, List.getElem?_map, Nat.reduceEqDiff, List.length_cons, List.length_nil, forget, forget1, wantd, bq, Bool.false_eq_true, Bool.not_true, Bool.not_false, eq_self, tzs, eve, evStore, evBox, evAlloc, evBuildSlice, evMakeSlice, evAppend, fillRows, zcells, elemsOf, putAll, PV.one, List.all_cons, List.all_nil, Bool.and_true, Bool.and_self, Nat.reduceAdd, Nat.reduceMul, Nat.zero_add, Nat.add_zero, Nat.zero_mul, Nat.one_mul, Nat.mul_one, Nat.le_refl, and_self, true_and, and_true, List.set_cons_zero, List.drop_zero, natK, putN, Int.cast_ofNat_Int, decide_true, decide_false, Int.reduceEq, Int.reduceLT, Int.reduceLE, List.append_nil, List.nil_append, List.cons_append, Nat.reduceLeDiff, posK, flI, flB, flU, takeI, ne_eq, not_false_eq_true, not_true_eq_false, List.reduceReplicate, Nat.zero_lt_one, Nat.one_ne_zero, List.take_succ_cons, List.take_zero, or_self, true_or, or_true, reduceCtorEq, List.length_append, List.map_append, List.map_cons, List.map_nil, List.drop_succ_cons, retQ, resL, finL, newL, flat, tupOf, List.toList_toArray, Tryd.f15, hz]
    refine ⟨.inr ⟨rfl, 1, ?_⟩, .rfl', trivial⟩
    rw [lineI, if_neg hz']; rfl
  · have hz' := of_decide_eq_true hz
    obtain ⟨g1, g2⟩ := asked_of hz'
    obtain ⟨H, rfl, hfr, v1, v3, v4⟩ := valid_ex g1
    have hof := g2 of (by simp)
    rw [tIL] at hof
    obtain ⟨o, rfl⟩ : ∃ o : Nat, of = o := ⟨of.toNat, by omega⟩
    have ho : o < H.length := by omega
    have hll : (lineL H o).length ≤ 25 := by have := lineF_len (H := H) (o + 1) o; unfold lineL; omega
    obtain ⟨p, hop, hpm⟩ := get_of_lt (l := H) ho
    rw [lineI, if_pos hz', Int.toNat_natCast, hfr]
    simp -dsimp only [↓vcl, ↓vco, vck, evl, evb, evBuiltin, evLen, evIdxA, evLoad, loadP, aggD, tis, i64, u32, bl, encL, encB, encLL, if_true, if_false, reduceIte, List.length_map, List.getElem?_map, Nat.reduceEqDiff, List.length_cons, List.length_nil, forget, forget1, wantd, bq, Bool.false_eq_true, Bool.not_true, Bool.not_false, eq_self, tzs, eve, evStore, evBox, evAlloc, evBuildSlice, evMakeSlice, evAppend, fillRows, zcells, elemsOf, putAll, PV.one, List.all_cons, List.all_nil, Bool.and_true, Bool.and_self, Nat.reduceAdd, Nat.reduceMul, Nat.zero_add, Nat.add_zero, Nat.zero_mul, Nat.one_mul, Nat.mul_one, Nat.le_refl, and_self, true_and, and_true, List.set_cons_zero, List.drop_zero, natK, putN, Int.cast_ofNat_Int, decide_true, decide_false, Int.reduceEq, Int.reduceLT, Int.reduceLE, List.append_nil, List.nil_append, List.cons_append, Nat.reduceLeDiff, posK, flI, flB, flU, takeI, ne_eq, not_false_eq_true, not_true_eq_false, List.reduceReplicate, Nat.zero_lt_one, Nat.one_ne_zero, List.take_succ_cons, List.take_zero, or_self, true_or, or_true, reduceCtorEq, List.length_append, List.map_append, List.map_cons, List.map_nil, List.drop_succ_cons, Tryd.f15, hz, tII, tIL, hop]
    refine LoopQ.rule (fun m st => ∃ (i ver nx : Nat) (p : List Nat) (out : List Int), 1 < nx ∧ H[i]? = some p ∧ i < H.length ∧ out ++ (lineL H i).tail = lineL H o ∧ m = i ∧
      st = ⟨mkE [(0, encLL (toII H)), (7, .own 1 ver 0 out.length false), (8, encL (toI p))], mkS [(1, .row ver 1 (out.map fun i => [i64 i]) false)], nx⟩) _ _ (weak_of ?_)
      ⟨o, 0, 2, p, [(o : Int)], by omega, hop, ho, rfl, rfl, rfl⟩ ?_
    · first | (simp -dsimp only [↓vcl, ↓vco, vck, evl, evb, evBuiltin, evLen, evIdxA, evLoad, loadP, aggD, tis, i64, u32, bl, encL, encB, encLL, if_true, if_false, reduceIte, List.length_map, List.getElem?_map, Nat.reduceEqDiff, List.length_cons, List.length_nil, forget, forget1, wantd, bq, Bool.false_eq_true, Bool.not_true, Bool.not_false, eq_self, tzs, eve, evStore, evBox, evAlloc, evBuildSlice, evMakeSlice, evAppend, fillRows, zcells, elemsOf, putAll, PV.one, List.all_cons, List.all_nil, Bool.and_true, Bool.and_self, Nat.reduceAdd, Nat.reduceMul, Nat.zero_add, Nat.add_zero, Nat.zero_mul, Nat.one_mul, Nat.mul_one, Nat.le_refl, and_self, true_and, and_true, List.set_cons_zero, List.drop_zero, natK, putN, Int.cast_ofNat_Int, decide_true, decide_false, Int.reduceEq, Int.reduceLT, Int.reduceLE, List.append_nil, List.nil_append, List.cons_append, Nat.reduceLeDiff, posK, flI, flB, flU, takeI, ne_eq, not_false_eq_true, not_true_eq_false, List.reduceReplicate, Nat.zero_lt_one, Nat.one_ne_zero, List.take_succ_cons, List.take_zero, or_self, true_or, or_true, reduceCtorEq, List.length_append, List.map_append, List.map_cons, List.map_nil, List.drop_succ_cons, toI]; done) | simp -dsimp [evl, putN, i64, u32, bl, encL, encB, encLL, toI]
    clear hop hpm p
    rintro i st ⟨_, ver, nx, p, out, hnx, hip, hi, hout, rfl, rfl⟩
    cases p with
    | nil =>
      simp -dsimp only [↓vcl, ↓vco, vck, evl, evb, evBuiltin, evLen, evIdxA, evLoad, loadP, aggD, tis, i64, u32, bl, encL, encB, encLL, if_true, if_false, reduceIte, List.length_map, List.getElem?_map, Nat.reduceEqDiff, List.length_cons, List.length_nil, forget, forget1, wantd, bq, Bool.false_eq_true, Bool.not_true, Bool.not_false, eq_self, tzs, eve, evStore, evBox, evAlloc, evBuildSlice, evMakeSlice, evAppend, fillRows, zcells, elemsOf, putAll, PV.one, List.all_cons, List.all_nil, Bool.and_true, Bool.and_self, Nat.reduceAdd, Nat.reduceMul, Nat.zero_add, Nat.add_zero, Nat.zero_mul, Nat.one_mul, Nat.mul_one, Nat.le_refl, and_self, true_and, and_true, List.set_cons_zero, List.drop_zero, natK, putN, Int.cast_ofNat_Int, decide_true, decide_false, Int.reduceEq, Int.reduceLT, Int.reduceLE, List.append_nil, List.nil_append, List.cons_append, Nat.reduceLeDiff, posK, flI, flB, flU, takeI, ne_eq, not_false_eq_true, not_true_eq_false, List.reduceReplicate, Nat.zero_lt_one, Nat.one_ne_zero, List.take_succ_cons, List.take_zero, or_self, true_or, or_true, reduceCtorEq, List.length_append, List.map_append, List.map_cons, List.map_nil, List.drop_succ_cons, retQ, resL, finL, newL, flat, tupOf, List.toList_toArray, Tryd.f15, toI]
      refine ⟨?_, int_eq hz'.symm, trivial⟩
      rw [← hout, line_nil hip, List.tail_cons, List.append_nil]
      exact .rfl'
    | cons k r =>
      have hk : k < i := v3 i _ hip k (by simp)
      have hkl : k < H.length := by omega
      obtain ⟨p', hkp, hpm⟩ := get_of_lt (l := H) hkl
      have hli := line_cons v3 hip
      have hlk : lineL H k = (k : Int) :: (lineL H k).tail := rfl
      rw [hli, List.tail_cons] at hout
      have hbd : (out.length + 1) * 8 ≤ 140737488355328 := by
        have h1 := congrArg List.length hout
        rw [List.length_append] at h1
        omega
      have hne : (1 = nx) = False := by simp; omega
      have hne' : (nx = 1) = False := by simp; omega
      have hpos := posR (r := r)
      simp -dsimp only [↓vcl, ↓vco, vck, evl, evb, evBuiltin, evLen, evIdxA, evLoad, loadP, aggD, tis, i64, u32, bl, encL, encB, encLL, if_true, if_false, reduceIte, List.length_map, List.getElem?_map, Nat.reduceEqDiff, List.length_cons, List.length_nil, forget, forget1, wantd, bq, Bool.false_eq_true, Bool.not_true, Bool.not_false, eq_self, tzs, eve, evStore, evBox, evAlloc, evBuildSlice, evMakeSlice, evAppend, fillRows, zcells, elemsOf, putAll, PV.one, List.all_cons, List.all_nil, Bool.and_true, Bool.and_self, Nat.reduceAdd, Nat.reduceMul, Nat.zero_add, Nat.add_zero, Nat.zero_mul, Nat.one_mul, Nat.mul_one, Nat.le_refl, and_self, true_and, and_true, List.set_cons_zero, List.drop_zero, natK, putN, Int.cast_ofNat_Int, decide_true, decide_false, Int.reduceEq, Int.reduceLT, Int.reduceLE, List.append_nil, List.nil_append, List.cons_append, Nat.reduceLeDiff, posK, flI, flB, flU, takeI, ne_eq, not_false_eq_true, not_true_eq_false, List.reduceReplicate, Nat.zero_lt_one, Nat.one_ne_zero, List.take_succ_cons, List.take_zero, or_self, true_or, or_true, reduceCtorEq, List.length_append, List.map_append, List.map_cons, List.map_nil, List.drop_succ_cons, toI, tII, tIL, hkp, hbd, hne, hne', hpos]
      refine ⟨_, _, ?_, weak_of ?_, k, ver + 1, nx + 1, p', out ++ [(k : Int)], by omega, hkp, hkl, by rw [← hout, hlk]; simp, rfl, rfl⟩
      · exact hk
      · first | (simp -dsimp only [↓vcl, ↓vco, vck, evl, evb, evBuiltin, evLen, evIdxA, evLoad, loadP, aggD, tis, i64, u32, bl, encL, encB, encLL, if_true, if_false, reduceIte, List.length_map, List.getElem?_map, Nat.reduceEqDiff, List.length_cons, List.length_nil, forget, forget1, wantd, bq, Bool.false_eq_true, Bool.not_true, Bool.not_false, eq_self, tzs, eve, evStore, evBox, evAlloc, evBuildSlice, evMakeSlice, evAppend, fillRows, zcells, elemsOf, putAll, PV.one, List.all_cons, List.all_nil, Bool.and_true, Bool.and_self, Nat.reduceAdd, Nat.reduceMul, Nat.zero_add, Nat.add_zero, Nat.zero_mul, Nat.one_mul, Nat.mul_one, Nat.le_refl, and_self, true_and, and_true, List.set_cons_zero, List.drop_zero, natK, putN, Int.cast_ofNat_Int, decide_true, decide_false, Int.reduceEq, Int.reduceLT, Int.reduceLE, List.append_nil, List.nil_append, List.cons_append, Nat.reduceLeDiff, posK, flI, flB, flU, takeI, ne_eq, not_false_eq_true, not_true_eq_false, List.reduceReplicate, Nat.zero_lt_one, Nat.one_ne_zero, List.take_succ_cons, List.take_zero, or_self, true_or, or_true, reduceCtorEq, List.length_append, List.map_append, List.map_cons, List.map_nil, List.drop_succ_cons, toI, hne, hne']; done) | simp -dsimp [evl, putN, i64, u32, bl, encL, encB, encLL, toI, hne, hne']

theorem s16 (of : Int) : CallSpec cx 16 [encLL h, i64 of] (.tup [newI (lineI h of), i64 (hasked h [of])]) := by
  refine callSpec_of_vc Tryd.func16 rfl (by decide) (by kernel_rfl) (Nat.le_of_ble_eq_true rfl) ?_
  simp -dsimp only [↓vcl, ↓vco, vck, evl, evb, evBuiltin, evLen, evIdxA, evLoad, loadP, aggD, tis, i64, u32, bl, encL, encB, encLL, if_true, if_false, reduceIte, List.length_map, List.getElem?_map, Nat.reduceEqDiff, List.length_cons, List.length_nil, forget, forget1, wantd, bq, Bool.false_eq_true, Bool.not_true, Bool.not_false, eq_self, tzs, eve, evStore, evBox, evAlloc, evBuildSlice, evMakeSlice, evAppend, fillRows, zcells, elemsOf, putAll, PV.one, List.all_cons, List.all_nil, Bool.and_true, Bool.and_self, Nat.reduceAdd, Nat.reduceMul, Nat.zero_add, Nat.add_zero, Nat.zero_mul, Nat.one_mul, Nat.mul_one, Nat.le_refl, and_self, true_and, and_true, List.set_cons_zero, List.drop_zero, natK, putN, Int.cast_ofNat_Int, decide_true, decide_false, Int.reduceEq, Int.reduceLT, Int.reduceLE, List.append_nil, List.nil_append, List.cons_append, Nat.reduceLeDiff, posK, flI, flB, flU, takeI, ne_eq, not_false_eq_true, not_true_eq_false, List.reduceReplicate, Nat.zero_lt_one, Nat.one_ne_zero, List.take_succ_cons, List.take_zero, or_self, true_or, or_true, reduceCtorEq, List.length_append, List.map_append, List.map_cons, List.map_nil, List.drop_succ_cons, Tryd.f16]
  refine CallQ.imm (s29 h [of] hl hp (by simp)) (by rfl) (by first | rfl | (simp -dsimp only [↓vcl, ↓vco, vck, evl, evb, evBuiltin, evLen, evIdxA, evLoad, loadP, aggD, tis, i64, u32, bl, encL, encB, encLL, if_true, if_false, reduceIte, List.length_map, List.getElem?_map, Nat.reduceEqDiff, List.length_cons, List.length_nil, forget, forget1, wantd, bq, Bool.false_eq_true, Bool.not_true, Bool.not_false, eq_self, tzs, eve, evStore, evBox, evAlloc, evBuildSlice, evMakeSlice, evAppend, fillRows, zcells, elemsOf, putAll, PV.one, List.all_cons, List.all_nil, Bool.and_true, Bool.and_self, Nat.reduceAdd, Nat.reduceMul, Nat.zero_add, Nat.add_zero, Nat.zero_mul, Nat.one_mul, Nat.mul_one, Nat.le_refl, and_self, true_and, and_true, List.set_cons_zero, List.drop_zero, natK, putN, Int.cast_ofNat_Int, decide_true, decide_false, Int.reduceEq, Int.reduceLT, Int.reduceLE, List.append_nil, List.nil_append, List.cons_append, Nat.reduceLeDiff, posK, flI, flB, flU, takeI, ne_eq, not_false_eq_true, not_true_eq_false, List.reduceReplicate, Nat.zero_lt_one, Nat.one_ne_zero, List.take_succ_cons, List.take_zero, or_self, true_or, or_true, reduceCtorEq, List.length_append, List.map_append, List.map_cons, List.map_nil, List.drop_succ_cons, drcs, drc, flat]; done) | simp -dsimp [evl, drcs, drc, flat, i64, u32, bl, encL, encB, encLL]) (by first | exact .inl rfl | exact .inr rfl | exact .inr scalB | exact .inr scalI) ?_
  cases hz : decide (hasked h [of] = 0)
  · have hz' := of_decide_eq_false hz
    simp -dsimp only [↓vcl, ↓vco, vck, evl, evb, evBuiltin, evLen, evIdxA, evLoad, loadP, aggD, tis, i64, u32, bl, encL, encB, encLL, if_true, if_false, reduceIte, List.length_map, List.getElem?_map, Nat.reduceEqDiff, List.length_cons, List.length_nil, forget, forget1, wantd, bq, Bool.false_eq_true, Bool.not_true, Bool.not_false, eq_self, tzs, eve, evStore, evBox, evAlloc, evBuildSlice, evMakeSlice, evAppend, fillRows, zcells, elemsOf, putAll, PV.one, List.all_cons, List.all_nil, Bool.and_true, Bool.and_self, Nat.reduceAdd, Nat.reduceMul, Nat.zero_add, Nat.add_zero, Nat.zero_mul, Nat.one_mul, Nat.mul_one, Nat.le_refl, and_self, true_and, and_true, List.set_cons_zero, List.drop_zero, natK, putN, Int.cast_ofNat_Int, decide_true, decide_false, Int.reduceEq, Int.reduceLT, Int.reduceLE, List.append_nil, List.nil_append, List.cons_append, Nat.reduceLeDiff, posK, flI, flB, flU, takeI, ne_eq, not_false_eq_true, not_true_eq_false, List.reduceReplicate, Nat.zero_lt_one, Nat.one_ne_zero, List.take_succ_cons, List.take_zero, or_self, true_or, or_true, reduceCtorEq, List.length_append, List.map_append, List.map_cons, List.map_nil, List.drop_succ_cons, retQ, resL, finL, newL, flat, tupOf, List.toList_toArray, Tryd.f16, hz]
    refine ⟨.inr ⟨rfl, 1, ?_⟩, .rfl', trivial⟩
    rw [lineI, if_neg hz']; rfl
  · have hz' := of_decide_eq_true hz
    obtain ⟨g1, g2⟩ := asked_of hz'
    obtain ⟨H, rfl, hfr, v1, v3, v4⟩ := valid_ex g1
    have hof := g2 of (by simp)
    rw [tIL] at hof
    obtain ⟨o, rfl⟩ : ∃ o : Nat, of = o := ⟨of.toNat, by omega⟩
    have ho : o < H.length := by omega
    have hll : (lineL H o).length ≤ 25 := by have := lineF_len (H := H) (o + 1) o; unfold lineL; omega
    rw [lineI, if_pos hz', Int.toNat_natCast, hfr]
    simp -dsimp only [↓vcl, ↓vco, vck, evl, evb, evBuiltin, evLen, evIdxA, evLoad, loadP, aggD, tis, i64, u32, bl, encL, encB, encLL, if_true, if_false, reduceIte, List.length_map, List.getElem?_map, Nat.reduceEqDiff, List.length_cons, List.length_nil, forget, forget1, wantd, bq, Bool.false_eq_true, Bool.not_true, Bool.not_false, eq_self, tzs, eve, evStore, evBox, evAlloc, evBuildSlice, evMakeSlice, evAppend, fillRows, zcells, elemsOf, putAll, PV.one, List.all_cons, List.all_nil, Bool.and_true, Bool.and_self, Nat.reduceAdd, Nat.reduceMul, Nat.zero_add, Nat.add_zero, Nat.zero_mul, Nat.one_mul, Nat.mul_one, Nat.le_refl, and_self, true_and, and_true, List.set_cons_zero, List.drop_zero, natK, putN, Int.cast_ofNat_Int, decide_true, decide_false, Int.reduceEq, Int.reduceLT, Int.reduceLE, List.append_nil, List.nil_append, List.cons_append, Nat.reduceLeDiff, posK, flI, flB, flU, takeI, ne_eq, not_false_eq_true, not_true_eq_false, List.reduceReplicate, Nat.zero_lt_one, Nat.one_ne_zero, List.take_succ_cons, List.take_zero, or_self, true_or, or_true, reduceCtorEq, List.length_append, List.map_append, List.map_cons, List.map_nil, List.drop_succ_cons, Tryd.f16, hz, tII, tIL]
    refine LoopQ.rule (fun m st => ∃ (i ver nx : Nat) (out : List Int), 1 < nx ∧ i < H.length ∧ out ++ (lineL H i).tail = lineL H o ∧ m = i ∧
      st = ⟨mkE [(0, encLL (toII H)), (7, .own 1 ver 0 out.length false), (1, i64 i)], mkS [(1, .row ver 1 (out.map fun i => [i64 i]) false)], nx⟩) _ _ (weak_of ?_)
      ⟨o, 0, 2, [(o : Int)], by omega, ho, rfl, rfl, rfl⟩ ?_
    · first | (simp -dsimp only [↓vcl, ↓vco, vck, evl, evb, evBuiltin, evLen, evIdxA, evLoad, loadP, aggD, tis, i64, u32, bl, encL, encB, encLL, if_true, if_false, reduceIte, List.length_map, List.getElem?_map, Nat.reduceEqDiff, List.length_cons, List.length_nil, forget, forget1, wantd, bq, Bool.false_eq_true, Bool.not_true, Bool.not_false, eq_self, tzs, eve, evStore, evBox, evAlloc, evBuildSlice, evMakeSlice, evAppend, fillRows, zcells, elemsOf, putAll, PV.one, List.all_cons, List.all_nil, Bool.and_true, Bool.and_self, Nat.reduceAdd, Nat.reduceMul, Nat.zero_add, Nat.add_zero, Nat.zero_mul, Nat.one_mul, Nat.mul_one, Nat.le_refl, and_self, true_and, and_true, List.set_cons_zero, List.drop_zero, natK, putN, Int.cast_ofNat_Int, decide_true, decide_false, Int.reduceEq, Int.reduceLT, Int.reduceLE, List.append_nil, List.nil_append, List.cons_append, Nat.reduceLeDiff, posK, flI, flB, flU, takeI, ne_eq, not_false_eq_true, not_true_eq_false, List.reduceReplicate, Nat.zero_lt_one, Nat.one_ne_zero, List.take_succ_cons, List.take_zero, or_self, true_or, or_true, reduceCtorEq, List.length_append, List.map_append, List.map_cons, List.map_nil, List.drop_succ_cons, toI]; done) | simp -dsimp [evl, putN, i64, u32, bl, encL, encB, encLL, toI]
    rintro i st ⟨_, ver, nx, out, hnx, hi, hout, rfl, rfl⟩
    obtain ⟨p, hip, hpm⟩ := get_of_lt (l := H) hi
    cases p with
    | nil =>
      simp -dsimp only [↓vcl, ↓vco, vck, evl, evb, evBuiltin, evLen, evIdxA, evLoad, loadP, aggD, tis, i64, u32, bl, encL, encB, encLL, if_true, if_false, reduceIte, List.length_map, List.getElem?_map, Nat.reduceEqDiff, List.length_cons, List.length_nil, forget, forget1, wantd, bq, Bool.false_eq_true, Bool.not_true, Bool.not_false, eq_self, tzs, eve, evStore, evBox, evAlloc, evBuildSlice, evMakeSlice, evAppend, fillRows, zcells, elemsOf, putAll, PV.one, List.all_cons, List.all_nil, Bool.and_true, Bool.and_self, Nat.reduceAdd, Nat.reduceMul, Nat.zero_add, Nat.add_zero, Nat.zero_mul, Nat.one_mul, Nat.mul_one, Nat.le_refl, and_self, true_and, and_true, List.set_cons_zero, List.drop_zero, natK, putN, Int.cast_ofNat_Int, decide_true, decide_false, Int.reduceEq, Int.reduceLT, Int.reduceLE, List.append_nil, List.nil_append, List.cons_append, Nat.reduceLeDiff, posK, flI, flB, flU, takeI, ne_eq, not_false_eq_true, not_true_eq_false, List.reduceReplicate, Nat.zero_lt_one, Nat.one_ne_zero, List.take_succ_cons, List.take_zero, or_self, true_or, or_true, reduceCtorEq, List.length_append, List.map_append, List.map_cons, List.map_nil, List.drop_succ_cons, retQ, resL, finL, newL, flat, tupOf, List.toList_toArray, Tryd.f16, toI, tII, tIL, hip]
      refine ⟨?_, int_eq hz'.symm, trivial⟩
      rw [← hout, line_nil hip, List.tail_cons, List.append_nil]
      exact .rfl'
    | cons k r =>
      have hk : k < i := v3 i _ hip k (by simp)
      have hkl : k < H.length := by omega
      have hli := line_cons v3 hip
      have hlk : lineL H k = (k : Int) :: (lineL H k).tail := rfl
      rw [hli, List.tail_cons] at hout
      have hbd : (out.length + 1) * 8 ≤ 140737488355328 := by
        have h1 := congrArg List.length hout
        rw [List.length_append] at h1
        omega
      have hne : (1 = nx) = False := by simp; omega
      have hne' : (nx = 1) = False := by simp; omega
      have hpos := posR (r := r)
      simp -dsimp only [↓vcl, ↓vco, vck, evl, evb, evBuiltin, evLen, evIdxA, evLoad, loadP, aggD, tis, i64, u32, bl, encL, encB, encLL, if_true, if_false, reduceIte, List.length_map, List.getElem?_map, Nat.reduceEqDiff, List.length_cons, List.length_nil, forget, forget1, wantd, bq, Bool.false_eq_true, Bool.not_true, Bool.not_false, eq_self, tzs, eve, evStore, evBox, evAlloc, evBuildSlice, evMakeSlice, evAppend, fillRows, zcells, elemsOf, putAll, PV.one, List.all_cons, List.all_nil, Bool.and_true, Bool.and_self, Nat.reduceAdd, Nat.reduceMul, Nat.zero_add, Nat.add_zero, Nat.zero_mul, Nat.one_mul, Nat.mul_one, Nat.le_refl, and_self, true_and, and_true, List.set_cons_zero, List.drop_zero, natK, putN, Int.cast_ofNat_Int, decide_true, decide_false, Int.reduceEq, Int.reduceLT, Int.reduceLE, List.append_nil, List.nil_append, List.cons_append, Nat.reduceLeDiff, posK, flI, flB, flU, takeI, ne_eq, not_false_eq_true, not_true_eq_false, List.reduceReplicate, Nat.zero_lt_one, Nat.one_ne_zero, List.take_succ_cons, List.take_zero, or_self, true_or, or_true, reduceCtorEq, List.length_append, List.map_append, List.map_cons, List.map_nil, List.drop_succ_cons, toI, tII, tIL, hip, hbd, hne, hne', hpos]
      refine ⟨_, _, ?_, weak_of ?_, k, ver + 1, nx + 1, out ++ [(k : Int)], by omega, hkl, by rw [← hout, hlk]; simp, rfl, rfl⟩
      · exact hk
      · first | (simp -dsimp only [↓vcl, ↓vco, vck, evl, evb, evBuiltin, evLen, evIdxA, evLoad, loadP, aggD, tis, i64, u32, bl, encL, encB, encLL, if_true, if_false, reduceIte, List.length_map, List.getElem?_map, Nat.reduceEqDiff, List.length_cons, List.length_nil, forget, forget1, wantd, bq, Bool.false_eq_true, Bool.not_true, Bool.not_false, eq_self, tzs, eve, evStore, evBox, evAlloc, evBuildSlice, evMakeSlice, evAppend, fillRows, zcells, elemsOf, putAll, PV.one, List.all_cons, List.all_nil, Bool.and_true, Bool.and_self, Nat.reduceAdd, Nat.reduceMul, Nat.zero_add, Nat.add_zero, Nat.zero_mul, Nat.one_mul, Nat.mul_one, Nat.le_refl, and_self, true_and, and_true, List.set_cons_zero, List.drop_zero, natK, putN, Int.cast_ofNat_Int, decide_true, decide_false, Int.reduceEq, Int.reduceLT, Int.reduceLE, List.append_nil, List.nil_append, List.cons_append, Nat.reduceLeDiff, posK, flI, flB, flU, takeI, ne_eq, not_false_eq_true, not_true_eq_false, List.reduceReplicate, Nat.zero_lt_one, Nat.one_ne_zero, List.take_succ_cons, List.take_zero, or_self, true_or, or_true, reduceCtorEq, List.length_append, List.map_append, List.map_cons, List.map_nil, List.drop_succ_cons, toI, hne, hne']; done) | simp -dsimp [evl, putN, i64, u32, bl, encL, encB, encLL, toI, hne, hne']
end
end Go.Ab
