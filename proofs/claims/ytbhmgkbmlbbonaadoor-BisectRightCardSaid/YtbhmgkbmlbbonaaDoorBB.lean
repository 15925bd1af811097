import Derived.Test.YtbhmgkbmlbbonaaDoorBA
set_option linter.unusedSimpArgs false
set_option linter.unusedVariables false
set_option maxRecDepth 100000
set_option maxHeartbeats 8000000
namespace Go.Ab
open Go Go.Proofs

/-- The first part of a row, one after the other, without some numbers. -/
theorem del_step {R cur : List Int} {P : Int → Bool} {n i j : Nat} {x : Int} (hn : n ≤ R.length) (hc : cur.length = R.length) (hj : j < n) (hi : i ≤ j)
    (h1 : cur.take i = (R.take j).filter fun c => !P c) (h2 : ∀ k, j ≤ k → cur[k]? = R[k]?) (hx : R[j]? = some x) :
    (P x = true → cur.take i = (R.take (j + 1)).filter fun c => !P c) ∧
    (P x = false → (cur.set i x).take (i + 1) = (R.take (j + 1)).filter fun c => !P c) := by
  rw [take_succ hx, List.filter_append, ← h1]
  refine ⟨fun h => by simp [h], fun h => ?_⟩
  rw [List.take_add_one, List.take_set_of_le (Nat.le_refl i), List.getElem?_set_self (by omega)]
  simp [h]

theorem dm1 : decide ((-1 : Int) = -1) = true := rfl
theorem b_Del (a : List Int) (ha : a.length ≤ 9223372036854775807) (σ : Store) (nx id ver b vb : Nat) (fb : Bool) (R : List Int) (n : Nat) (hn : n ≤ R.length) (hR : R.length ≤ 1000000)
    (hσ : σ id = some (.row ver 1 (R.map fun c => [i64 c]) false)) (hb : σ b = some (.row vb 1 [[encL a]] fb)) (hne : id ≠ b) :
    StSpec cx 33 [.own id ver 0 n false, .clo (.func 34) [] [.ptr b vb 0 0]] σ nx
      (fun r σ' nx' => ∃ R' : List Int, R'.length = R.length ∧ R'.take ((R.take n).filter fun c => !decide (c ∈ a)).length = ((R.take n).filter fun c => !decide (c ∈ a)) ∧ r = .own id ver 0 ((R.take n).filter fun c => !decide (c ∈ a)).length false ∧
        σ' = σ.put id (.row ver 1 (R'.map fun c => [i64 c]) false) ∧ nx' = nx) := by
  have hpo : ∀ c, CallSpec cx 34 ([i64 c] ++ [.cptr [encL a]]) (bl (decide (c ∈ a))) := fun c => b_Susp1 a ha c
  have htl : (R.take n).length = n := by simp; omega
  have hnb : ((id = b) = False) ∧ ((b = id) = False) := by simp [hne, Ne.symm hne]
  have htk : List.take n (R.map fun c => [i64 c]) = (R.take n).map fun c => [i64 c] := by rw [List.map_take]
  refine stSpec_of_vc Tryd.func33 rfl (by decide) (by kernel_rfl) (Nat.le_of_ble_eq_true rfl) ?_
  try simp -dsimp (maxSteps := 2000000) (disch := first | omega | decide +kernel) only [↓vcl, ↓vcy, ↓vco, vck, gR, evl, evb, evBuiltin, evLen, evIdxA, evLoad, loadP, aggD, tis, i64, u32, bl, encL, encB, encLL, reduceIte, Nat.reduceEqDiff, forget, forget1, wantd, tzs, eve, evStore, evBox, evAlloc, evBuildSlice, evMakeSlice, evAppend, fillRows, zcells, elemsOf, putAll, PV.one, Nat.reduceAdd, Nat.reduceMul, Int.cast_ofNat_Int, Int.reduceEq, Int.reduceLT, Int.reduceLE, Nat.reduceLeDiff, List.reduceReplicate, reduceCtorEq, Tryd.f33]
  refine CallQ.imm (s43 (R.take n) (by omega) 34 [.cptr [encL a]] (by rfl) (fun c => decide (c ∈ a)) fun c _ => hpo c) (by rfl) (by first | rfl | (simp -dsimp (maxSteps := 2000000) (disch := first | omega | decide +kernel) only [↓vcl, ↓vcy, ↓vco, vck, gR, evl, evb, evBuiltin, evLen, evIdxA, evLoad, loadP, aggD, tis, i64, u32, bl, encL, encB, encLL, reduceIte, Nat.reduceEqDiff, forget, forget1, wantd, tzs, eve, evStore, evBox, evAlloc, evBuildSlice, evMakeSlice, evAppend, fillRows, zcells, elemsOf, putAll, PV.one, Nat.reduceAdd, Nat.reduceMul, Int.cast_ofNat_Int, Int.reduceEq, Int.reduceLT, Int.reduceLE, Nat.reduceLeDiff, List.reduceReplicate, reduceCtorEq, drcs, drc, flat, hσ, hb, hn, ← List.map_take]; done) | simp -dsimp [evl, drcs, drc, flat, i64, u32, bl, encL, encB, encLL]) (by first | exact .inl rfl | exact .inr rfl | exact .inr scalB | exact .inr scalI | exact .inr scalT) ?_
  have hsame := put_same hσ
  simp only [i64] at hsame
  have hfl : ∀ {l : List Int}, (∀ x ∈ l, decide (x ∈ a) = false) → (l.filter fun c => !decide (c ∈ a)) = l := fun {l} h => by
    rw [List.filter_eq_self]; intro x hx; simp [h x hx]
  rcases fi_spec (fun c => decide (c ∈ a)) (R.take n) with ⟨e, hall⟩ | ⟨k, x, e, hk, hP, hbef⟩
  · rw [e]
    have e2 := hfl hall
    simp -dsimp (maxSteps := 2000000) (disch := first | omega | decide +kernel) only [↓vcl, ↓vcy, ↓vco, vck, gR, evl, evb, evBuiltin, evLen, evIdxA, evLoad, loadP, aggD, tis, i64, u32, bl, encL, encB, encLL, reduceIte, Nat.reduceEqDiff, forget, forget1, wantd, tzs, eve, evStore, evBox, evAlloc, evBuildSlice, evMakeSlice, evAppend, fillRows, zcells, elemsOf, putAll, PV.one, Nat.reduceAdd, Nat.reduceMul, Int.cast_ofNat_Int, Int.reduceEq, Int.reduceLT, Int.reduceLE, Nat.reduceLeDiff, List.reduceReplicate, reduceCtorEq, stQ, resL, tupOf, List.toList_toArray, Tryd.f33, dm1]
    refine ⟨_, _, .refl _, R, rfl, ?_, ?_, hsame.symm, rfl⟩
    · rw [e2, htl]
    · rw [e2, htl]
  rw [e]
  have hkn : k < n := by have := (List.getElem?_eq_some_iff.1 hk).1; omega
  have hk1 : decide ((k : Int) = -1) = false := decide_eq_false (by omega)
  have hRk : R[k]? = some x := by rw [List.getElem?_take_of_lt hkn] at hk; exact hk
  try simp -dsimp (maxSteps := 2000000) (disch := first | omega | decide +kernel) only [↓vcl, ↓vcy, ↓vco, vck, gR, evl, evb, evBuiltin, evLen, evIdxA, evLoad, loadP, aggD, tis, i64, u32, bl, encL, encB, encLL, reduceIte, Nat.reduceEqDiff, forget, forget1, wantd, tzs, eve, evStore, evBox, evAlloc, evBuildSlice, evMakeSlice, evAppend, fillRows, zcells, elemsOf, putAll, PV.one, Nat.reduceAdd, Nat.reduceMul, Int.cast_ofNat_Int, Int.reduceEq, Int.reduceLT, Int.reduceLE, Nat.reduceLeDiff, List.reduceReplicate, reduceCtorEq, hk1]
  refine LoopQ.rule (fun m st => ∃ (i j : Nat) (cur : List Int), i < j ∧ j ≤ n ∧ cur.length = R.length ∧ (cur.take i = (R.take j).filter fun c => !decide (c ∈ a)) ∧ (∀ q, j ≤ q → cur[q]? = R[q]?) ∧ m = n - j ∧
    st = ⟨mkE [(0, .own id ver 0 n false), (1, .clo (.func 34) [] [.ptr b vb 0 0]), (5, i64 i), (6, i64 j)], σ.put id (.row ver 1 (cur.map fun c => [i64 c]) false), nx⟩) _ _ (weak_ofS ?_) ⟨k, k + 1, R, by omega, by omega, rfl, ?_, fun q _ => rfl, rfl, rfl⟩ ?_
  · first | (simp -dsimp (maxSteps := 2000000) (disch := first | omega | decide +kernel) only [↓vcl, ↓vcy, ↓vco, vck, gR, evl, evb, evBuiltin, evLen, evIdxA, evLoad, loadP, aggD, tis, i64, u32, bl, encL, encB, encLL, reduceIte, Nat.reduceEqDiff, forget, forget1, wantd, tzs, eve, evStore, evBox, evAlloc, evBuildSlice, evMakeSlice, evAppend, fillRows, zcells, elemsOf, putAll, PV.one, Nat.reduceAdd, Nat.reduceMul, Int.cast_ofNat_Int, Int.reduceEq, Int.reduceLT, Int.reduceLE, Nat.reduceLeDiff, List.reduceReplicate, reduceCtorEq, wrapS hkn (by omega), hsame]; done) | simp -dsimp [evl, putN, i64, u32, bl, encL, encB, encLL, wrapS hkn (by omega), hsame]
  · have h0 : R.take k = (R.take k).filter fun c => !decide (c ∈ a) := (hfl fun y hy => by
      obtain ⟨q, hq⟩ := List.getElem?_of_mem hy
      have hqk : q < k := by have := (List.getElem?_eq_some_iff.1 hq).1; simp at this; omega
      rw [List.getElem?_take_of_lt hqk] at hq
      exact hbef q hqk y (by rw [List.getElem?_take_of_lt (by omega)]; exact hq)).symm
    exact (del_step (P := fun c => decide (c ∈ a)) (n := n) hn rfl hkn (Nat.le_refl k) h0 (fun _ _ => rfl) hRk).1 hP
  rintro m st ⟨i, j, cur, hij, hjn, hcl, hct, hcr, rfl, rfl⟩
  try simp -dsimp (maxSteps := 2000000) (disch := first | omega | decide +kernel) only [↓vcl, ↓vcy, ↓vco, vck, gR, evl, evb, evBuiltin, evLen, evIdxA, evLoad, loadP, aggD, tis, i64, u32, bl, encL, encB, encLL, reduceIte, Nat.reduceEqDiff, forget, forget1, wantd, tzs, eve, evStore, evBox, evAlloc, evBuildSlice, evMakeSlice, evAppend, fillRows, zcells, elemsOf, putAll, PV.one, Nat.reduceAdd, Nat.reduceMul, Int.cast_ofNat_Int, Int.reduceEq, Int.reduceLT, Int.reduceLE, Nat.reduceLeDiff, List.reduceReplicate, reduceCtorEq]
  refine onC_nlt (fun h2 => ?_) (fun h2 => ?_)
  · obtain ⟨x, hx, _⟩ := get_of_lt (show j < R.length by omega)
    obtain ⟨y, hy, _⟩ := get_of_lt (show i < cur.length by omega)
    have hcx : cur[j]? = some x := by rw [hcr j (Nat.le_refl _)]; exact hx
    have hst := del_step (P := fun c => decide (c ∈ a)) (n := n) hn hcl h2 (Nat.le_of_lt hij) hct hcr hx
    have hin : i < n := by omega
    try simp -dsimp (maxSteps := 2000000) (disch := first | omega | decide +kernel) only [↓vcl, ↓vcy, ↓vco, vck, gR, evl, evb, evBuiltin, evLen, evIdxA, evLoad, loadP, aggD, tis, i64, u32, bl, encL, encB, encLL, reduceIte, Nat.reduceEqDiff, forget, forget1, wantd, tzs, eve, evStore, evBox, evAlloc, evBuildSlice, evMakeSlice, evAppend, fillRows, zcells, elemsOf, putAll, PV.one, Nat.reduceAdd, Nat.reduceMul, Int.cast_ofNat_Int, Int.reduceEq, Int.reduceLT, Int.reduceLE, Nat.reduceLeDiff, List.reduceReplicate, reduceCtorEq, hcx, h2]
    refine CallQ.imm (hpo x) (by rfl) (by first | rfl | (simp -dsimp (maxSteps := 2000000) (disch := first | omega | decide +kernel) only [↓vcl, ↓vcy, ↓vco, vck, gR, evl, evb, evBuiltin, evLen, evIdxA, evLoad, loadP, aggD, tis, i64, u32, bl, encL, encB, encLL, reduceIte, Nat.reduceEqDiff, forget, forget1, wantd, tzs, eve, evStore, evBox, evAlloc, evBuildSlice, evMakeSlice, evAppend, fillRows, zcells, elemsOf, putAll, PV.one, Nat.reduceAdd, Nat.reduceMul, Int.cast_ofNat_Int, Int.reduceEq, Int.reduceLT, Int.reduceLE, Nat.reduceLeDiff, List.reduceReplicate, reduceCtorEq, drcs, drc, flat, hnb, hb]; done) | simp -dsimp [evl, drcs, drc, flat, i64, u32, bl, encL, encB, encLL]) (by first | exact .inl rfl | exact .inr rfl | exact .inr scalB | exact .inr scalI | exact .inr scalT) ?_
    try simp -dsimp (maxSteps := 2000000) (disch := first | omega | decide +kernel) only [↓vcl, ↓vcy, ↓vco, vck, gR, evl, evb, evBuiltin, evLen, evIdxA, evLoad, loadP, aggD, tis, i64, u32, bl, encL, encB, encLL, reduceIte, Nat.reduceEqDiff, forget, forget1, wantd, tzs, eve, evStore, evBox, evAlloc, evBuildSlice, evMakeSlice, evAppend, fillRows, zcells, elemsOf, putAll, PV.one, Nat.reduceAdd, Nat.reduceMul, Int.cast_ofNat_Int, Int.reduceEq, Int.reduceLT, Int.reduceLE, Nat.reduceLeDiff, List.reduceReplicate, reduceCtorEq, uUn]
    cases hQ : decide (x ∈ a)
    · try simp -dsimp (maxSteps := 2000000) (disch := first | omega | decide +kernel) only [↓vcl, ↓vcy, ↓vco, vck, gR, evl, evb, evBuiltin, evLen, evIdxA, evLoad, loadP, aggD, tis, i64, u32, bl, encL, encB, encLL, reduceIte, Nat.reduceEqDiff, forget, forget1, wantd, tzs, eve, evStore, evBox, evAlloc, evBuildSlice, evMakeSlice, evAppend, fillRows, zcells, elemsOf, putAll, PV.one, Nat.reduceAdd, Nat.reduceMul, Int.cast_ofNat_Int, Int.reduceEq, Int.reduceLT, Int.reduceLE, Nat.reduceLeDiff, List.reduceReplicate, reduceCtorEq, hy, hin]
      refine ⟨_, _, ?_, weak_ofS ?_, i + 1, j + 1, cur.set i x, by omega, by omega, by simp [hcl], hst.2 hQ, fun q hq => by rw [List.getElem?_set_ne (by omega)]; exact hcr q (by omega), rfl, rfl⟩
      · omega
      · first | (simp -dsimp (maxSteps := 2000000) (disch := first | omega | decide +kernel) only [↓vcl, ↓vcy, ↓vco, vck, gR, evl, evb, evBuiltin, evLen, evIdxA, evLoad, loadP, aggD, tis, i64, u32, bl, encL, encB, encLL, reduceIte, Nat.reduceEqDiff, forget, forget1, wantd, tzs, eve, evStore, evBox, evAlloc, evBuildSlice, evMakeSlice, evAppend, fillRows, zcells, elemsOf, putAll, PV.one, Nat.reduceAdd, Nat.reduceMul, Int.cast_ofNat_Int, Int.reduceEq, Int.reduceLT, Int.reduceLE, Nat.reduceLeDiff, List.reduceReplicate, reduceCtorEq, wrapS h2 (show n ≤ 9223372036854775807 by omega), wrapS hin (show n ≤ 9223372036854775807 by omega), put_put, List.map_set]; done) | simp -dsimp [evl, putN, i64, u32, bl, encL, encB, encLL, wrapS h2 (show n ≤ 9223372036854775807 by omega), wrapS hin (show n ≤ 9223372036854775807 by omega), put_put, List.map_set]
    · try simp -dsimp (maxSteps := 2000000) (disch := first | omega | decide +kernel) only [↓vcl, ↓vcy, ↓vco, vck, gR, evl, evb, evBuiltin, evLen, evIdxA, evLoad, loadP, aggD, tis, i64, u32, bl, encL, encB, encLL, reduceIte, Nat.reduceEqDiff, forget, forget1, wantd, tzs, eve, evStore, evBox, evAlloc, evBuildSlice, evMakeSlice, evAppend, fillRows, zcells, elemsOf, putAll, PV.one, Nat.reduceAdd, Nat.reduceMul, Int.cast_ofNat_Int, Int.reduceEq, Int.reduceLT, Int.reduceLE, Nat.reduceLeDiff, List.reduceReplicate, reduceCtorEq]
      refine ⟨_, _, ?_, weak_ofS ?_, i, j + 1, cur, by omega, by omega, hcl, hst.1 hQ, fun q hq => hcr q (by omega), rfl, rfl⟩
      · omega
      · first | (simp -dsimp (maxSteps := 2000000) (disch := first | omega | decide +kernel) only [↓vcl, ↓vcy, ↓vco, vck, gR, evl, evb, evBuiltin, evLen, evIdxA, evLoad, loadP, aggD, tis, i64, u32, bl, encL, encB, encLL, reduceIte, Nat.reduceEqDiff, forget, forget1, wantd, tzs, eve, evStore, evBox, evAlloc, evBuildSlice, evMakeSlice, evAppend, fillRows, zcells, elemsOf, putAll, PV.one, Nat.reduceAdd, Nat.reduceMul, Int.cast_ofNat_Int, Int.reduceEq, Int.reduceLT, Int.reduceLE, Nat.reduceLeDiff, List.reduceReplicate, reduceCtorEq, wrapS h2 (show n ≤ 9223372036854775807 by omega)]; done) | simp -dsimp [evl, putN, i64, u32, bl, encL, encB, encLL, wrapS h2 (show n ≤ 9223372036854775807 by omega)]
  have hj : j = n := by omega
  subst hj
  have hin : i ≤ j := by omega
  have hil : (cur.take i).length = i := by simp; omega
  have hil2 : ((R.take j).filter fun c => !decide (c ∈ a)).length = i := by rw [← hct, hil]
  have hov : i + (j - i) ≤ cur.length := by omega
  simp -dsimp (maxSteps := 2000000) (disch := first | omega | decide +kernel) only [↓vcl, ↓vcy, ↓vco, vck, gR, evl, evb, evBuiltin, evLen, evIdxA, evLoad, loadP, aggD, tis, i64, u32, bl, encL, encB, encLL, reduceIte, Nat.reduceEqDiff, forget, forget1, wantd, tzs, eve, evStore, evBox, evAlloc, evBuildSlice, evMakeSlice, evAppend, fillRows, zcells, elemsOf, putAll, PV.one, Nat.reduceAdd, Nat.reduceMul, Int.cast_ofNat_Int, Int.reduceEq, Int.reduceLT, Int.reduceLE, Nat.reduceLeDiff, List.reduceReplicate, reduceCtorEq, stQ, resL, tupOf, List.toList_toArray, Tryd.f33, false_imp_iff, evSlice, slc, hin, evClear, evOver, over, hov, List.length_replicate, put_put]
  refine ⟨_, _, .refl _, cur.take i ++ List.replicate (j - i) 0 ++ cur.drop (i + (j - i)), by simp; omega, ?_, ?_, ?_, rfl⟩
  · rw [hil2, List.append_assoc, List.take_append_of_le_length (by omega), List.take_of_length_le (by omega), hct]
  · rw [hil2, Nat.sub_zero]
  · simp [i64]
end Go.Ab
