import Derived.Test.YtlfllbelabkaeaaDoorDM
set_option linter.unusedSimpArgs false
set_option linter.unusedVariables false
set_option maxRecDepth 100000
namespace Go.Ab
open Go Go.Proofs W16

theorem allB : bitsL 1023#16 = (List.range 10).map fun (c : Nat) => (c : Int) := by decide
theorem r_all : CallSpec cx 40 [] (newI (bitsL 1023#16)) := by
  refine callSpec_of_vc Tryd.func40 rfl (by decide) (by kernel_rfl) (Nat.le_of_ble_eq_true rfl) ?_
  try simp -dsimp (maxSteps := 2000000) (disch := first | omega | decide +kernel) only [↓vcl, ↓vcy, ↓vco, vck, gR, evl, evb, evBuiltin, evLen, evIdxA, evLoad, loadP, aggD, tis, i64, u32, bl, encL, encB, encLL, reduceIte, Nat.reduceEqDiff, forget, forget1, wantd, tzs, eve, evStore, evBox, evAlloc, evBuildSlice, evMakeSlice, evAppend, fillRows, zcells, elemsOf, putAll, PV.one, Nat.reduceAdd, Nat.reduceMul, Int.cast_ofNat_Int, Int.reduceEq, Int.reduceLT, Int.reduceLE, Nat.reduceLeDiff, List.reduceReplicate, reduceCtorEq, Tryd.f40]
  refine LoopQ.ghost 1 1 (by rfl) ?_
  refine LoopQ.rule (fun m st => ∃ (i ver nx : Nat), i ≤ 10 ∧ m = 10 - i ∧ 1 ≤ nx ∧
    st = ⟨mkE [(1, .own 0 ver 0 i false), (2, i64 i)], mkS [(0, .row ver 1 (((List.range i).map fun (c : Nat) => (c : Int)).map fun c => [i64 c]) false)], nx⟩) _ _ (weak_of ?_) ⟨0, 0, 1, by omega, rfl, by omega, rfl⟩ ?_
  · first | (simp -dsimp (maxSteps := 2000000) (disch := first | omega | decide +kernel) only [↓vcl, ↓vcy, ↓vco, vck, gR, evl, evb, evBuiltin, evLen, evIdxA, evLoad, loadP, aggD, tis, i64, u32, bl, encL, encB, encLL, reduceIte, Nat.reduceEqDiff, forget, forget1, wantd, tzs, eve, evStore, evBox, evAlloc, evBuildSlice, evMakeSlice, evAppend, fillRows, zcells, elemsOf, putAll, PV.one, Nat.reduceAdd, Nat.reduceMul, Int.cast_ofNat_Int, Int.reduceEq, Int.reduceLT, Int.reduceLE, Nat.reduceLeDiff, List.reduceReplicate, reduceCtorEq, ghR, List.range_zero, List.map_nil]; done) | simp -dsimp [evl, putN, i64, u32, bl, encL, encB, encLL, ghR, List.range_zero, List.map_nil]
  rintro m st ⟨i, ver, nx, hi, rfl, hnx, rfl⟩
  try simp -dsimp (maxSteps := 2000000) (disch := first | omega | decide +kernel) only [↓vcl, ↓vcy, ↓vco, vck, gR, evl, evb, evBuiltin, evLen, evIdxA, evLoad, loadP, aggD, tis, i64, u32, bl, encL, encB, encLL, reduceIte, Nat.reduceEqDiff, forget, forget1, wantd, tzs, eve, evStore, evBox, evAlloc, evBuildSlice, evMakeSlice, evAppend, fillRows, zcells, elemsOf, putAll, PV.one, Nat.reduceAdd, Nat.reduceMul, Int.cast_ofNat_Int, Int.reduceEq, Int.reduceLT, Int.reduceLE, Nat.reduceLeDiff, List.reduceReplicate, reduceCtorEq]
  refine onC_dec (fun h2 => ?_) (fun h2 => ?_)
  · have hns : ((nx = 0) = False) ∧ ((0 = nx) = False) := by simp only [eq_iff_iff, iff_false]; omega
    have hbd : (i + 1) * 8 ≤ 140737488355328 := by omega
    try simp -dsimp (maxSteps := 2000000) (disch := first | omega | decide +kernel) only [↓vcl, ↓vcy, ↓vco, vck, gR, evl, evb, evBuiltin, evLen, evIdxA, evLoad, loadP, aggD, tis, i64, u32, bl, encL, encB, encLL, reduceIte, Nat.reduceEqDiff, forget, forget1, wantd, tzs, eve, evStore, evBox, evAlloc, evBuildSlice, evMakeSlice, evAppend, fillRows, zcells, elemsOf, putAll, PV.one, Nat.reduceAdd, Nat.reduceMul, Int.cast_ofNat_Int, Int.reduceEq, Int.reduceLT, Int.reduceLE, Nat.reduceLeDiff, List.reduceReplicate, reduceCtorEq, hns, hbd, List.length_range]
    refine ⟨_, _, ?_, weak_of ?_, i + 1, ver + 1, nx + 1, by omega, rfl, by omega, rfl⟩
    · omega
    · first | (simp -dsimp (maxSteps := 2000000) (disch := first | omega | decide +kernel) only [↓vcl, ↓vcy, ↓vco, vck, gR, evl, evb, evBuiltin, evLen, evIdxA, evLoad, loadP, aggD, tis, i64, u32, bl, encL, encB, encLL, reduceIte, Nat.reduceEqDiff, forget, forget1, wantd, tzs, eve, evStore, evBox, evAlloc, evBuildSlice, evMakeSlice, evAppend, fillRows, zcells, elemsOf, putAll, PV.one, Nat.reduceAdd, Nat.reduceMul, Int.cast_ofNat_Int, Int.reduceEq, Int.reduceLT, Int.reduceLE, Nat.reduceLeDiff, List.reduceReplicate, reduceCtorEq, hns, wrapS (show i < 10 by omega) (by omega), List.range_succ, List.map_append, List.map_cons, List.map_nil]; done) | simp -dsimp [evl, putN, i64, u32, bl, encL, encB, encLL, hns, wrapS (show i < 10 by omega) (by omega), List.range_succ, List.map_append, List.map_cons, List.map_nil]
  · have : i = 10 := by omega
    subst this
    simp -dsimp (maxSteps := 2000000) (disch := first | omega | decide +kernel) only [↓vcl, ↓vcy, ↓vco, vck, gR, evl, evb, evBuiltin, evLen, evIdxA, evLoad, loadP, aggD, tis, i64, u32, bl, encL, encB, encLL, reduceIte, Nat.reduceEqDiff, forget, forget1, wantd, tzs, eve, evStore, evBox, evAlloc, evBuildSlice, evMakeSlice, evAppend, fillRows, zcells, elemsOf, putAll, PV.one, Nat.reduceAdd, Nat.reduceMul, Int.cast_ofNat_Int, Int.reduceEq, Int.reduceLT, Int.reduceLE, Nat.reduceLeDiff, List.reduceReplicate, reduceCtorEq, retQ, resL, finL, newL, flat, tupOf, List.toList_toArray, Tryd.f40, List.length_range]
    exact leT_one (by rw [newI, allB]; exact .rfl') (by simp)

def srt (x : List Int) : List Int := lst 0 ((List.range 10).map fun (c : Nat) => decide ((c : Int) ∈ x))
theorem r_sorted (x : List Int) (hx : x.length ≤ 9223372036854775807) : CallSpec cx 38 [encL x] (newI (srt x)) := by
  refine callSpec_of_vc Tryd.func38 rfl (by decide) (by kernel_rfl) (Nat.le_of_ble_eq_true rfl) ?_
  try simp -dsimp (maxSteps := 2000000) (disch := first | omega | decide +kernel) only [↓vcl, ↓vcy, ↓vco, vck, gR, evl, evb, evBuiltin, evLen, evIdxA, evLoad, loadP, aggD, tis, i64, u32, bl, encL, encB, encLL, reduceIte, Nat.reduceEqDiff, forget, forget1, wantd, tzs, eve, evStore, evBox, evAlloc, evBuildSlice, evMakeSlice, evAppend, fillRows, zcells, elemsOf, putAll, PV.one, Nat.reduceAdd, Nat.reduceMul, Int.cast_ofNat_Int, Int.reduceEq, Int.reduceLT, Int.reduceLE, Nat.reduceLeDiff, List.reduceReplicate, reduceCtorEq, Tryd.f38]
  refine LoopQ.ghost 3 1 (by rfl) ?_
  refine LoopQ.rule (fun m st => ∃ (i ver nx : Nat) (out : List Int), i ≤ 10 ∧ out = lst 0 ((List.range i).map fun (c : Nat) => decide ((c : Int) ∈ x)) ∧ m = 10 - i ∧ 1 ≤ nx ∧
    st = ⟨mkE [(0, encL x), (3, .own 0 ver 0 out.length false), (4, i64 i)], mkS [(0, .row ver 1 (out.map fun c => [i64 c]) false)], nx⟩) _ _ (weak_of ?_) ⟨0, 0, 1, [], by omega, rfl, rfl, by omega, rfl⟩ ?_
  · first | (simp -dsimp (maxSteps := 2000000) (disch := first | omega | decide +kernel) only [↓vcl, ↓vcy, ↓vco, vck, gR, evl, evb, evBuiltin, evLen, evIdxA, evLoad, loadP, aggD, tis, i64, u32, bl, encL, encB, encLL, reduceIte, Nat.reduceEqDiff, forget, forget1, wantd, tzs, eve, evStore, evBox, evAlloc, evBuildSlice, evMakeSlice, evAppend, fillRows, zcells, elemsOf, putAll, PV.one, Nat.reduceAdd, Nat.reduceMul, Int.cast_ofNat_Int, Int.reduceEq, Int.reduceLT, Int.reduceLE, Nat.reduceLeDiff, List.reduceReplicate, reduceCtorEq, ghR, List.range_zero, List.map_nil]; done) | simp -dsimp [evl, putN, i64, u32, bl, encL, encB, encLL, ghR, List.range_zero, List.map_nil]
  rintro m st ⟨i, ver, nx, out, hi, hout, rfl, hnx, rfl⟩
  try simp -dsimp (maxSteps := 2000000) (disch := first | omega | decide +kernel) only [↓vcl, ↓vcy, ↓vco, vck, gR, evl, evb, evBuiltin, evLen, evIdxA, evLoad, loadP, aggD, tis, i64, u32, bl, encL, encB, encLL, reduceIte, Nat.reduceEqDiff, forget, forget1, wantd, tzs, eve, evStore, evBox, evAlloc, evBuildSlice, evMakeSlice, evAppend, fillRows, zcells, elemsOf, putAll, PV.one, Nat.reduceAdd, Nat.reduceMul, Int.cast_ofNat_Int, Int.reduceEq, Int.reduceLT, Int.reduceLE, Nat.reduceLeDiff, List.reduceReplicate, reduceCtorEq]
  refine onC_dec (fun h2 => ?_) (fun h2 => ?_)
  · have hns : ((nx = 0) = False) ∧ ((0 = nx) = False) := by simp only [eq_iff_iff, iff_false]; omega
    have hol : out.length ≤ 10 := by
      rw [hout]; have := lst_len ((List.range i).map fun (c : Nat) => decide ((c : Int) ∈ x)) 0; simp at this; omega
    have hbd : (out.length + 1) * 8 ≤ 140737488355328 := by omega
    have hs := lst_snoc ((List.range i).map fun (c : Nat) => decide ((c : Int) ∈ x)) 0 (decide ((i : Int) ∈ x))
    rw [show ((List.range i).map fun (c : Nat) => decide ((c : Int) ∈ x)) ++ [decide ((i : Int) ∈ x)] = (List.range (i + 1)).map fun (c : Nat) => decide ((c : Int) ∈ x) from by rw [List.range_succ, List.map_append]; rfl, ← hout] at hs
    simp only [List.length_map, List.length_range, Nat.zero_add] at hs
    try simp -dsimp (maxSteps := 2000000) (disch := first | omega | decide +kernel) only [↓vcl, ↓vcy, ↓vco, vck, gR, evl, evb, evBuiltin, evLen, evIdxA, evLoad, loadP, aggD, tis, i64, u32, bl, encL, encB, encLL, reduceIte, Nat.reduceEqDiff, forget, forget1, wantd, tzs, eve, evStore, evBox, evAlloc, evBuildSlice, evMakeSlice, evAppend, fillRows, zcells, elemsOf, putAll, PV.one, Nat.reduceAdd, Nat.reduceMul, Int.cast_ofNat_Int, Int.reduceEq, Int.reduceLT, Int.reduceLE, Nat.reduceLeDiff, List.reduceReplicate, reduceCtorEq]
    refine CallQ.imm (r_Has x i hx) (by rfl) (by first | rfl | (simp -dsimp (maxSteps := 2000000) (disch := first | omega | decide +kernel) only [↓vcl, ↓vcy, ↓vco, vck, gR, evl, evb, evBuiltin, evLen, evIdxA, evLoad, loadP, aggD, tis, i64, u32, bl, encL, encB, encLL, reduceIte, Nat.reduceEqDiff, forget, forget1, wantd, tzs, eve, evStore, evBox, evAlloc, evBuildSlice, evMakeSlice, evAppend, fillRows, zcells, elemsOf, putAll, PV.one, Nat.reduceAdd, Nat.reduceMul, Int.cast_ofNat_Int, Int.reduceEq, Int.reduceLT, Int.reduceLE, Nat.reduceLeDiff, List.reduceReplicate, reduceCtorEq, drcs, drc, flat]; done) | simp -dsimp [evl, drcs, drc, flat, i64, u32, bl, encL, encB, encLL]) (by first | exact .inl rfl | exact .inr rfl | exact .inr scalB | exact .inr scalI | exact .inr scalT) ?_
    cases hM : decide ((i : Int) ∈ x)
    · rw [hM] at hs
      try simp -dsimp (maxSteps := 2000000) (disch := first | omega | decide +kernel) only [↓vcl, ↓vcy, ↓vco, vck, gR, evl, evb, evBuiltin, evLen, evIdxA, evLoad, loadP, aggD, tis, i64, u32, bl, encL, encB, encLL, reduceIte, Nat.reduceEqDiff, forget, forget1, wantd, tzs, eve, evStore, evBox, evAlloc, evBuildSlice, evMakeSlice, evAppend, fillRows, zcells, elemsOf, putAll, PV.one, Nat.reduceAdd, Nat.reduceMul, Int.cast_ofNat_Int, Int.reduceEq, Int.reduceLT, Int.reduceLE, Nat.reduceLeDiff, List.reduceReplicate, reduceCtorEq]
      refine ⟨_, _, ?_, weak_of ?_, i + 1, ver, nx, out, by omega, by rw [hs]; simp, rfl, by omega, rfl⟩
      · omega
      · first | (simp -dsimp (maxSteps := 2000000) (disch := first | omega | decide +kernel) only [↓vcl, ↓vcy, ↓vco, vck, gR, evl, evb, evBuiltin, evLen, evIdxA, evLoad, loadP, aggD, tis, i64, u32, bl, encL, encB, encLL, reduceIte, Nat.reduceEqDiff, forget, forget1, wantd, tzs, eve, evStore, evBox, evAlloc, evBuildSlice, evMakeSlice, evAppend, fillRows, zcells, elemsOf, putAll, PV.one, Nat.reduceAdd, Nat.reduceMul, Int.cast_ofNat_Int, Int.reduceEq, Int.reduceLT, Int.reduceLE, Nat.reduceLeDiff, List.reduceReplicate, reduceCtorEq, wrapS (show i < 10 by omega) (by omega)]; done) | simp -dsimp [evl, putN, i64, u32, bl, encL, encB, encLL, wrapS (show i < 10 by omega) (by omega)]
    · rw [hM] at hs
      try simp -dsimp (maxSteps := 2000000) (disch := first | omega | decide +kernel) only [↓vcl, ↓vcy, ↓vco, vck, gR, evl, evb, evBuiltin, evLen, evIdxA, evLoad, loadP, aggD, tis, i64, u32, bl, encL, encB, encLL, reduceIte, Nat.reduceEqDiff, forget, forget1, wantd, tzs, eve, evStore, evBox, evAlloc, evBuildSlice, evMakeSlice, evAppend, fillRows, zcells, elemsOf, putAll, PV.one, Nat.reduceAdd, Nat.reduceMul, Int.cast_ofNat_Int, Int.reduceEq, Int.reduceLT, Int.reduceLE, Nat.reduceLeDiff, List.reduceReplicate, reduceCtorEq, hns, hbd]
      refine ⟨_, _, ?_, weak_of ?_, i + 1, ver + 1, nx + 1, out ++ [(i : Int)], by omega, by rw [hs]; simp, rfl, by omega, rfl⟩
      · omega
      · first | (simp -dsimp (maxSteps := 2000000) (disch := first | omega | decide +kernel) only [↓vcl, ↓vcy, ↓vco, vck, gR, evl, evb, evBuiltin, evLen, evIdxA, evLoad, loadP, aggD, tis, i64, u32, bl, encL, encB, encLL, reduceIte, Nat.reduceEqDiff, forget, forget1, wantd, tzs, eve, evStore, evBox, evAlloc, evBuildSlice, evMakeSlice, evAppend, fillRows, zcells, elemsOf, putAll, PV.one, Nat.reduceAdd, Nat.reduceMul, Int.cast_ofNat_Int, Int.reduceEq, Int.reduceLT, Int.reduceLE, Nat.reduceLeDiff, List.reduceReplicate, reduceCtorEq, hns, wrapS (show i < 10 by omega) (by omega)]; done) | simp -dsimp [evl, putN, i64, u32, bl, encL, encB, encLL, hns, wrapS (show i < 10 by omega) (by omega)]
  · have : i = 10 := by omega
    subst this
    simp -dsimp (maxSteps := 2000000) (disch := first | omega | decide +kernel) only [↓vcl, ↓vcy, ↓vco, vck, gR, evl, evb, evBuiltin, evLen, evIdxA, evLoad, loadP, aggD, tis, i64, u32, bl, encL, encB, encLL, reduceIte, Nat.reduceEqDiff, forget, forget1, wantd, tzs, eve, evStore, evBox, evAlloc, evBuildSlice, evMakeSlice, evAppend, fillRows, zcells, elemsOf, putAll, PV.one, Nat.reduceAdd, Nat.reduceMul, Int.cast_ofNat_Int, Int.reduceEq, Int.reduceLT, Int.reduceLE, Nat.reduceLeDiff, List.reduceReplicate, reduceCtorEq, retQ, resL, finL, newL, flat, tupOf, List.toList_toArray, Tryd.f38]
    exact leT_one (by rw [hout]; exact .rfl') (by simp)
theorem srt_bits {x : List Int} (hx : ∀ c ∈ x, 0 ≤ c ∧ c < 10) : bitsL (ofL x) = srt x := by
  apply bits_of (by simp)
  intro j
  rw [Bool.eq_iff_iff, ofL_get fun c h => by have := hx c h; omega, List.getElem?_map]
  by_cases hj : j < 10
  · rw [List.getElem?_range hj]; simp
  · rw [List.getElem?_eq_none (by simp; omega)]
    simp
    intro hm
    have := hx _ hm
    omega

/-- What is next, of the elements from one on. -/
def nx? (l : List Nd) (L : List Int) (H : BitVec 16) : Int := (L.find? fun c => !H.getLsbD c.toNat && rdy l H c.toNat).getD (-1)

set_option maxHeartbeats 4000000 in
theorem r_ordered (l : List Nd) (hv : List Int) (S : BitVec 16) (h : fits l) (hd : dcheck l = 0) (hh : hv.length ≤ 40) (hc : ∀ c ∈ hv, 0 ≤ c ∧ c < 10) (hS : ∀ j, S.getLsbD j = true → j < 10) :
    CallSpec cx 39 [encNs l, encL hv, encL (bitsL S)] (newI (gr l S (ofL hv))) := by
  have hbl := bits_len S
  have hbd : hv.length * 8 ≤ 140737488355328 := by omega
  have hg0 : (gr l S (ofL hv)).length ≤ 16 := Nat.le_trans (gr_len _ _) (pc_le _)
  refine callSpec_of_vc Tryd.func39 rfl (by decide) (by kernel_rfl) (Nat.le_of_ble_eq_true rfl) ?_
  try simp -dsimp (maxSteps := 2000000) (disch := first | omega | decide +kernel) only [↓vcl, ↓vcy, ↓vco, vck, gR, evl, evb, evBuiltin, evLen, evIdxA, evLoad, loadP, aggD, tis, i64, u32, bl, encL, encB, encLL, reduceIte, Nat.reduceEqDiff, forget, forget1, wantd, tzs, eve, evStore, evBox, evAlloc, evBuildSlice, evMakeSlice, evAppend, fillRows, zcells, elemsOf, putAll, PV.one, Nat.reduceAdd, Nat.reduceMul, Int.cast_ofNat_Int, Int.reduceEq, Int.reduceLT, Int.reduceLE, Nat.reduceLeDiff, List.reduceReplicate, reduceCtorEq, Tryd.f39, allL1, hbd]
  refine LoopQ.ghost 8 1 (by rfl) ?_
  refine LoopQ.rule (fun m st => ∃ (ver ver' nx : Nat) (now out : List Int), now = hv ++ out ∧ (∀ c ∈ now, 0 ≤ c ∧ c < 10) ∧ out ++ gr l S (ofL now) = gr l S (ofL hv) ∧ m = pc (S &&& ~~~ (ofL now)) ∧ 2 ≤ nx ∧
    st = ⟨mkE [(0, encNs l), (2, encL (bitsL S)), (7, .own 0 ver 0 now.length false), (8, .own 1 ver' 0 out.length false)], mkS [(0, .row ver 1 (now.map fun c => [i64 c]) false), (1, .row ver' 1 (out.map fun c => [i64 c]) false)], nx⟩) _ _ (weak_of ?_)
    ⟨1, 0, 2, hv, [], by simp, hc, rfl, rfl, by omega, rfl⟩ ?_
  · first | (simp -dsimp (maxSteps := 2000000) (disch := first | omega | decide +kernel) only [↓vcl, ↓vcy, ↓vco, vck, gR, evl, evb, evBuiltin, evLen, evIdxA, evLoad, loadP, aggD, tis, i64, u32, bl, encL, encB, encLL, reduceIte, Nat.reduceEqDiff, forget, forget1, wantd, tzs, eve, evStore, evBox, evAlloc, evBuildSlice, evMakeSlice, evAppend, fillRows, zcells, elemsOf, putAll, PV.one, Nat.reduceAdd, Nat.reduceMul, Int.cast_ofNat_Int, Int.reduceEq, Int.reduceLT, Int.reduceLE, Nat.reduceLeDiff, List.reduceReplicate, reduceCtorEq, ghR]; done) | simp -dsimp [evl, putN, i64, u32, bl, encL, encB, encLL, ghR]
  rintro m st ⟨ver, ver', nx, now, out, hnow, hnc, hout, rfl, hnx, rfl⟩
  have hnl : now.length ≤ 60 := by
    have := congrArg List.length hout
    rw [List.length_append] at this
    rw [hnow, List.length_append]; omega
  have hnc16 : ∀ c ∈ now, 0 ≤ c ∧ c < 16 := fun c h => by have := hnc c h; omega
  have hw : IntKind.i64.wrap (((bitsL S).length : Int) - 1) = ((bitsL S).length : Int) - 1 := wrapP (Nat.le_refl _) (by omega)
  try simp -dsimp (maxSteps := 2000000) (disch := first | omega | decide +kernel) only [↓vcl, ↓vcy, ↓vco, vck, gR, evl, evb, evBuiltin, evLen, evIdxA, evLoad, loadP, aggD, tis, i64, u32, bl, encL, encB, encLL, reduceIte, Nat.reduceEqDiff, forget, forget1, wantd, tzs, eve, evStore, evBox, evAlloc, evBuildSlice, evMakeSlice, evAppend, fillRows, zcells, elemsOf, putAll, PV.one, Nat.reduceAdd, Nat.reduceMul, Int.cast_ofNat_Int, Int.reduceEq, Int.reduceLT, Int.reduceLE, Nat.reduceLeDiff, List.reduceReplicate, reduceCtorEq, hw]
  refine LoopQ.rule (fun m st => ∃ j : Nat, j ≤ (bitsL S).length ∧ m = j ∧
    st = ⟨mkE [(0, encNs l), (2, encL (bitsL S)), (7, .own 0 ver 0 now.length false), (8, .own 1 ver' 0 out.length false), (9, i64 (nx? l ((bitsL S).drop j) (ofL now))), (10, i64 ((j : Int) - 1))], mkS [(0, .row ver 1 (now.map fun c => [i64 c]) false), (1, .row ver' 1 (out.map fun c => [i64 c]) false)], nx⟩) _ _ (weak_of ?_)
    ⟨(bitsL S).length, Nat.le_refl _, rfl, rfl⟩ ?_
  · first | (simp -dsimp (maxSteps := 2000000) (disch := first | omega | decide +kernel) only [↓vcl, ↓vcy, ↓vco, vck, gR, evl, evb, evBuiltin, evLen, evIdxA, evLoad, loadP, aggD, tis, i64, u32, bl, encL, encB, encLL, reduceIte, Nat.reduceEqDiff, forget, forget1, wantd, tzs, eve, evStore, evBox, evAlloc, evBuildSlice, evMakeSlice, evAppend, fillRows, zcells, elemsOf, putAll, PV.one, Nat.reduceAdd, Nat.reduceMul, Int.cast_ofNat_Int, Int.reduceEq, Int.reduceLT, Int.reduceLE, Nat.reduceLeDiff, List.reduceReplicate, reduceCtorEq, List.drop_length, nx?, List.find?_nil, Option.getD_none]; done) | simp -dsimp [evl, putN, i64, u32, bl, encL, encB, encLL, List.drop_length, nx?, List.find?_nil, Option.getD_none]
  rintro j st ⟨_, hj, rfl, rfl⟩
  try simp -dsimp (maxSteps := 2000000) (disch := first | omega | decide +kernel) only [↓vcl, ↓vcy, ↓vco, vck, gR, evl, evb, evBuiltin, evLen, evIdxA, evLoad, loadP, aggD, tis, i64, u32, bl, encL, encB, encLL, reduceIte, Nat.reduceEqDiff, forget, forget1, wantd, tzs, eve, evStore, evBox, evAlloc, evBuildSlice, evMakeSlice, evAppend, fillRows, zcells, elemsOf, putAll, PV.one, Nat.reduceAdd, Nat.reduceMul, Int.cast_ofNat_Int, Int.reduceEq, Int.reduceLT, Int.reduceLE, Nat.reduceLeDiff, List.reduceReplicate, reduceCtorEq]
  refine onC_dec (fun h2 => ?_) (fun h2 => ?_)
  · obtain ⟨i, rfl⟩ : ∃ i, j = i + 1 := ⟨j - 1, by omega⟩
    obtain ⟨c, hci, hcm⟩ := get_of_lt (show i < (bitsL S).length by omega)
    obtain ⟨k, rfl, hk, hSk⟩ := bits_mem.1 hcm
    have hk10 := hS k hSk
    have e1 : (((i + 1 : Nat) : Int) - 1) = (i : Int) := by omega
    have hdr : (bitsL S).drop i = (k : Int) :: (bitsL S).drop (i + 1) := by
      rw [List.drop_eq_getElem_cons (show i < (bitsL S).length by omega)]; congr 1
      exact (List.getElem?_eq_some_iff.1 hci).2
    have hstep : nx? l ((bitsL S).drop i) (ofL now) = if (!(ofL now).getLsbD k && rdy l (ofL now) k) = true then (k : Int) else nx? l ((bitsL S).drop (i + 1)) (ofL now) := by
      unfold nx?
      rw [hdr]
      cases hP : (!(ofL now).getLsbD k && rdy l (ofL now) k)
      · rw [List.find?_cons_of_neg (by simp only [Int.toNat_natCast, hP]; simp)]; simp
      · rw [List.find?_cons_of_pos (by simp only [Int.toNat_natCast, hP])]; simp
    rw [e1]
    try simp -dsimp (maxSteps := 2000000) (disch := first | omega | decide +kernel) only [↓vcl, ↓vcy, ↓vco, vck, gR, evl, evb, evBuiltin, evLen, evIdxA, evLoad, loadP, aggD, tis, i64, u32, bl, encL, encB, encLL, reduceIte, Nat.reduceEqDiff, forget, forget1, wantd, tzs, eve, evStore, evBox, evAlloc, evBuildSlice, evMakeSlice, evAppend, fillRows, zcells, elemsOf, putAll, PV.one, Nat.reduceAdd, Nat.reduceMul, Int.cast_ofNat_Int, Int.reduceEq, Int.reduceLT, Int.reduceLE, Nat.reduceLeDiff, List.reduceReplicate, reduceCtorEq, hci]
    refine CallQ.imm (r_Has now k (by omega)) (by rfl) (by first | rfl | (simp -dsimp (maxSteps := 2000000) (disch := first | omega | decide +kernel) only [↓vcl, ↓vcy, ↓vco, vck, gR, evl, evb, evBuiltin, evLen, evIdxA, evLoad, loadP, aggD, tis, i64, u32, bl, encL, encB, encLL, reduceIte, Nat.reduceEqDiff, forget, forget1, wantd, tzs, eve, evStore, evBox, evAlloc, evBuildSlice, evMakeSlice, evAppend, fillRows, zcells, elemsOf, putAll, PV.one, Nat.reduceAdd, Nat.reduceMul, Int.cast_ofNat_Int, Int.reduceEq, Int.reduceLT, Int.reduceLE, Nat.reduceLeDiff, List.reduceReplicate, reduceCtorEq, drcs, drc, flat]; done) | simp -dsimp [evl, drcs, drc, flat, i64, u32, bl, encL, encB, encLL]) (by first | exact .inl rfl | exact .inr rfl | exact .inr scalB | exact .inr scalI | exact .inr scalT) ?_
    have hM : decide ((k : Int) ∈ now) = (ofL now).getLsbD k := by
      rw [Bool.eq_iff_iff, decide_eq_true_iff, ofL_get hnc16]
    rw [hM]
    cases hb : (ofL now).getLsbD k
    · try simp -dsimp (maxSteps := 2000000) (disch := first | omega | decide +kernel) only [↓vcl, ↓vcy, ↓vco, vck, gR, evl, evb, evBuiltin, evLen, evIdxA, evLoad, loadP, aggD, tis, i64, u32, bl, encL, encB, encLL, reduceIte, Nat.reduceEqDiff, forget, forget1, wantd, tzs, eve, evStore, evBox, evAlloc, evBuildSlice, evMakeSlice, evAppend, fillRows, zcells, elemsOf, putAll, PV.one, Nat.reduceAdd, Nat.reduceMul, Int.cast_ofNat_Int, Int.reduceEq, Int.reduceLT, Int.reduceLE, Nat.reduceLeDiff, List.reduceReplicate, reduceCtorEq, uUn, Option.bind_some, hci]
      refine CallQ.imm (r_ready l now k h (inC_of hd) (by omega) hnc16) (by rfl) (by first | rfl | (simp -dsimp (maxSteps := 2000000) (disch := first | omega | decide +kernel) only [↓vcl, ↓vcy, ↓vco, vck, gR, evl, evb, evBuiltin, evLen, evIdxA, evLoad, loadP, aggD, tis, i64, u32, bl, encL, encB, encLL, reduceIte, Nat.reduceEqDiff, forget, forget1, wantd, tzs, eve, evStore, evBox, evAlloc, evBuildSlice, evMakeSlice, evAppend, fillRows, zcells, elemsOf, putAll, PV.one, Nat.reduceAdd, Nat.reduceMul, Int.cast_ofNat_Int, Int.reduceEq, Int.reduceLT, Int.reduceLE, Nat.reduceLeDiff, List.reduceReplicate, reduceCtorEq, drcs, drc, flat, encNs, encN, takeI]; done) | simp -dsimp [evl, drcs, drc, flat, i64, u32, bl, encL, encB, encLL]) (by first | exact .inl rfl | exact .inr rfl | exact .inr scalB | exact .inr scalI | exact .inr scalT) ?_
      cases hR : rdy l (ofL now) k
      · try simp -dsimp (maxSteps := 2000000) (disch := first | omega | decide +kernel) only [↓vcl, ↓vcy, ↓vco, vck, gR, evl, evb, evBuiltin, evLen, evIdxA, evLoad, loadP, aggD, tis, i64, u32, bl, encL, encB, encLL, reduceIte, Nat.reduceEqDiff, forget, forget1, wantd, tzs, eve, evStore, evBox, evAlloc, evBuildSlice, evMakeSlice, evAppend, fillRows, zcells, elemsOf, putAll, PV.one, Nat.reduceAdd, Nat.reduceMul, Int.cast_ofNat_Int, Int.reduceEq, Int.reduceLT, Int.reduceLE, Nat.reduceLeDiff, List.reduceReplicate, reduceCtorEq]
        refine ⟨_, _, ?_, weak_of ?_, i, by omega, rfl, rfl⟩
        · omega
        · first | (simp -dsimp (maxSteps := 2000000) (disch := first | omega | decide +kernel) only [↓vcl, ↓vcy, ↓vco, vck, gR, evl, evb, evBuiltin, evLen, evIdxA, evLoad, loadP, aggD, tis, i64, u32, bl, encL, encB, encLL, reduceIte, Nat.reduceEqDiff, forget, forget1, wantd, tzs, eve, evStore, evBox, evAlloc, evBuildSlice, evMakeSlice, evAppend, fillRows, zcells, elemsOf, putAll, PV.one, Nat.reduceAdd, Nat.reduceMul, Int.cast_ofNat_Int, Int.reduceEq, Int.reduceLT, Int.reduceLE, Nat.reduceLeDiff, List.reduceReplicate, reduceCtorEq, encNs, hstep, hb, hR, wrapP (show i ≤ (bitsL S).length by omega) (by omega), Bool.not_false, Bool.true_and]; done) | simp -dsimp [evl, putN, i64, u32, bl, encL, encB, encLL, encNs, hstep, hb, hR, wrapP (show i ≤ (bitsL S).length by omega) (by omega), Bool.not_false, Bool.true_and]
      · try simp -dsimp (maxSteps := 2000000) (disch := first | omega | decide +kernel) only [↓vcl, ↓vcy, ↓vco, vck, gR, evl, evb, evBuiltin, evLen, evIdxA, evLoad, loadP, aggD, tis, i64, u32, bl, encL, encB, encLL, reduceIte, Nat.reduceEqDiff, forget, forget1, wantd, tzs, eve, evStore, evBox, evAlloc, evBuildSlice, evMakeSlice, evAppend, fillRows, zcells, elemsOf, putAll, PV.one, Nat.reduceAdd, Nat.reduceMul, Int.cast_ofNat_Int, Int.reduceEq, Int.reduceLT, Int.reduceLE, Nat.reduceLeDiff, List.reduceReplicate, reduceCtorEq, hci]
        refine ⟨_, _, ?_, weak_of ?_, i, by omega, rfl, rfl⟩
        · omega
        · first | (simp -dsimp (maxSteps := 2000000) (disch := first | omega | decide +kernel) only [↓vcl, ↓vcy, ↓vco, vck, gR, evl, evb, evBuiltin, evLen, evIdxA, evLoad, loadP, aggD, tis, i64, u32, bl, encL, encB, encLL, reduceIte, Nat.reduceEqDiff, forget, forget1, wantd, tzs, eve, evStore, evBox, evAlloc, evBuildSlice, evMakeSlice, evAppend, fillRows, zcells, elemsOf, putAll, PV.one, Nat.reduceAdd, Nat.reduceMul, Int.cast_ofNat_Int, Int.reduceEq, Int.reduceLT, Int.reduceLE, Nat.reduceLeDiff, List.reduceReplicate, reduceCtorEq, encNs, hstep, hb, hR, wrapP (show i ≤ (bitsL S).length by omega) (by omega), Bool.not_false, Bool.true_and]; done) | simp -dsimp [evl, putN, i64, u32, bl, encL, encB, encLL, encNs, hstep, hb, hR, wrapP (show i ≤ (bitsL S).length by omega) (by omega), Bool.not_false, Bool.true_and]
    · try simp -dsimp (maxSteps := 2000000) (disch := first | omega | decide +kernel) only [↓vcl, ↓vcy, ↓vco, vck, gR, evl, evb, evBuiltin, evLen, evIdxA, evLoad, loadP, aggD, tis, i64, u32, bl, encL, encB, encLL, reduceIte, Nat.reduceEqDiff, forget, forget1, wantd, tzs, eve, evStore, evBox, evAlloc, evBuildSlice, evMakeSlice, evAppend, fillRows, zcells, elemsOf, putAll, PV.one, Nat.reduceAdd, Nat.reduceMul, Int.cast_ofNat_Int, Int.reduceEq, Int.reduceLT, Int.reduceLE, Nat.reduceLeDiff, List.reduceReplicate, reduceCtorEq, uUn, Option.bind_some]
      refine ⟨_, _, ?_, weak_of ?_, i, by omega, rfl, rfl⟩
      · omega
      · first | (simp -dsimp (maxSteps := 2000000) (disch := first | omega | decide +kernel) only [↓vcl, ↓vcy, ↓vco, vck, gR, evl, evb, evBuiltin, evLen, evIdxA, evLoad, loadP, aggD, tis, i64, u32, bl, encL, encB, encLL, reduceIte, Nat.reduceEqDiff, forget, forget1, wantd, tzs, eve, evStore, evBox, evAlloc, evBuildSlice, evMakeSlice, evAppend, fillRows, zcells, elemsOf, putAll, PV.one, Nat.reduceAdd, Nat.reduceMul, Int.cast_ofNat_Int, Int.reduceEq, Int.reduceLT, Int.reduceLE, Nat.reduceLeDiff, List.reduceReplicate, reduceCtorEq, encNs, hstep, hb, wrapP (show i ≤ (bitsL S).length by omega) (by omega), Bool.not_true, Bool.false_and]; done) | simp -dsimp [evl, putN, i64, u32, bl, encL, encB, encLL, encNs, hstep, hb, wrapP (show i ≤ (bitsL S).length by omega) (by omega), Bool.not_true, Bool.false_and]
  · have : j = 0 := by omega
    subst this
    have e0 : nx? l ((bitsL S).drop 0) (ofL now) = (next l S (ofL now)).getD (-1) := by rw [List.drop_zero]; rfl
    rw [e0]
    cases hn : next l S (ofL now) with
    | none =>
      rw [gr_none hn, List.append_nil] at hout
      simp -dsimp (maxSteps := 2000000) (disch := first | omega | decide +kernel) only [↓vcl, ↓vcy, ↓vco, vck, gR, evl, evb, evBuiltin, evLen, evIdxA, evLoad, loadP, aggD, tis, i64, u32, bl, encL, encB, encLL, reduceIte, Nat.reduceEqDiff, forget, forget1, wantd, tzs, eve, evStore, evBox, evAlloc, evBuildSlice, evMakeSlice, evAppend, fillRows, zcells, elemsOf, putAll, PV.one, Nat.reduceAdd, Nat.reduceMul, Int.cast_ofNat_Int, Int.reduceEq, Int.reduceLT, Int.reduceLE, Nat.reduceLeDiff, List.reduceReplicate, reduceCtorEq, retQ, resL, finL, newL, flat, tupOf, List.toList_toArray, Tryd.f39, Option.getD_none, Int.reduceNeg]
      exact leT_one (by rw [← hout]; exact .rfl') (by simp)
    | some x =>
      obtain ⟨k, rfl, hk, hs1, hs2, _⟩ := next_some hn
      rw [gr_some hn, Int.toNat_natCast] at hout
      have hpd := pc_drop hk hs1 hs2
      have hk0 : decide ((k : Int) < 0) = false := by rw [decide_eq_false_iff_not]; omega
      have hns : ((nx = 0) = False) ∧ ((0 = nx) = False) ∧ ((nx = 1) = False) ∧ ((1 = nx) = False) ∧ ((nx + 1 = 0) = False) ∧ ((0 = nx + 1) = False) ∧ ((nx + 1 = 1) = False) ∧ ((1 = nx + 1) = False) ∧ ((nx = nx + 1) = False) := by simp only [eq_iff_iff, iff_false]; omega
      have hol : out.length ≤ 16 := by
        have := congrArg List.length hout
        rw [List.length_append] at this; omega
      have hb1 : (now.length + 1) * 8 ≤ 140737488355328 := by omega
      have hb2 : (out.length + 1) * 8 ≤ 140737488355328 := by omega
      have e := ofL_snoc (l := now) (c := (k : Int))
      rw [Int.toNat_natCast] at e
      try simp -dsimp (maxSteps := 2000000) (disch := first | omega | decide +kernel) only [↓vcl, ↓vcy, ↓vco, vck, gR, evl, evb, evBuiltin, evLen, evIdxA, evLoad, loadP, aggD, tis, i64, u32, bl, encL, encB, encLL, reduceIte, Nat.reduceEqDiff, forget, forget1, wantd, tzs, eve, evStore, evBox, evAlloc, evBuildSlice, evMakeSlice, evAppend, fillRows, zcells, elemsOf, putAll, PV.one, Nat.reduceAdd, Nat.reduceMul, Int.cast_ofNat_Int, Int.reduceEq, Int.reduceLT, Int.reduceLE, Nat.reduceLeDiff, List.reduceReplicate, reduceCtorEq, Option.getD_some, hk0, hns, hb1, hb2]
      refine ⟨_, _, ?_, weak_of ?_, ver + 1, ver' + 1, nx + 2, now ++ [(k : Int)], out ++ [(k : Int)], by rw [hnow, List.append_assoc], fun c hm => ?_, by rw [e, ← hout]; simp, rfl, by omega, rfl⟩
      · rw [e]; omega
      · first | (simp -dsimp (maxSteps := 2000000) (disch := first | omega | decide +kernel) only [↓vcl, ↓vcy, ↓vco, vck, gR, evl, evb, evBuiltin, evLen, evIdxA, evLoad, loadP, aggD, tis, i64, u32, bl, encL, encB, encLL, reduceIte, Nat.reduceEqDiff, forget, forget1, wantd, tzs, eve, evStore, evBox, evAlloc, evBuildSlice, evMakeSlice, evAppend, fillRows, zcells, elemsOf, putAll, PV.one, Nat.reduceAdd, Nat.reduceMul, Int.cast_ofNat_Int, Int.reduceEq, Int.reduceLT, Int.reduceLE, Nat.reduceLeDiff, List.reduceReplicate, reduceCtorEq, encNs, hns]; done) | simp -dsimp [evl, putN, i64, u32, bl, encL, encB, encLL, encNs, hns]
      · rcases List.mem_append.1 hm with hm | hm
        · exact hnc c hm
        · simp at hm; have := hS k hs1; omega
end Go.Ab
