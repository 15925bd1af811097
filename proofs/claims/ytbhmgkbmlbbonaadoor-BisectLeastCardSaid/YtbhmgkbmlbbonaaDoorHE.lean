import Derived.Test.YtbhmgkbmlbbonaaDoorHD
set_option linter.unusedSimpArgs false
set_option linter.unusedVariables false
set_option maxRecDepth 100000
set_option maxHeartbeats 8000000
namespace Go.Ab
open Go Go.Proofs

theorem s35 (m : List Bool) (hl : m.length ≤ 2^40) : CallSpec cx 54 [encB m] (newI (lst 0 m)) := by
  refine callSpec_of_vc Tryd.func54 rfl (by decide) (by kernel_rfl) (Nat.le_of_ble_eq_true rfl) ?_
  try simp -dsimp (maxSteps := 2000000) (disch := first | omega | decide +kernel) only [↓vcl, ↓vcy, ↓vco, vck, gR, evl, evb, evBuiltin, evLen, evIdxA, evLoad, loadP, aggD, tis, i64, u32, bl, encL, encB, encLL, reduceIte, Nat.reduceEqDiff, forget, forget1, wantd, tzs, eve, evStore, evBox, evAlloc, evBuildSlice, evMakeSlice, evAppend, fillRows, zcells, elemsOf, putAll, PV.one, Nat.reduceAdd, Nat.reduceMul, Int.cast_ofNat_Int, Int.reduceEq, Int.reduceLT, Int.reduceLE, Nat.reduceLeDiff, List.reduceReplicate, reduceCtorEq, Tryd.f54]
  refine LoopQ.rule (fun k st => ∃ i nx : Nat, i ≤ m.length ∧ k = m.length - i ∧
    ((lst 0 (m.take i) = [] ∧ st = ⟨mkE [(0, encB m), (3, .lit (.slice none 0 0)), (4, i64 i)], mkS [], nx⟩) ∨
     ∃ id ver, id < nx ∧ st = ⟨mkE [(0, encB m), (3, .own id ver 0 (lst 0 (m.take i)).length false), (4, i64 i)], mkS [(id, .row ver 1 ((lst 0 (m.take i)).map fun i => [i64 i]) false)], nx⟩)) _ _ (weak_of ?_) ⟨0, 0, by omega, rfl, .inl ⟨by simp [lst], rfl⟩⟩ ?_
  · first | (simp -dsimp (maxSteps := 2000000) (disch := first | omega | decide +kernel) only [↓vcl, ↓vcy, ↓vco, vck, gR, evl, evb, evBuiltin, evLen, evIdxA, evLoad, loadP, aggD, tis, i64, u32, bl, encL, encB, encLL, reduceIte, Nat.reduceEqDiff, forget, forget1, wantd, tzs, eve, evStore, evBox, evAlloc, evBuildSlice, evMakeSlice, evAppend, fillRows, zcells, elemsOf, putAll, PV.one, Nat.reduceAdd, Nat.reduceMul, Int.cast_ofNat_Int, Int.reduceEq, Int.reduceLT, Int.reduceLE, Nat.reduceLeDiff, List.reduceReplicate, reduceCtorEq]; done) | simp -dsimp [evl, putN, i64, u32, bl, encL, encB, encLL]
  rintro k st ⟨i, nx, hi, rfl, ⟨he, rfl⟩ | ⟨id, ver, hid, rfl⟩⟩
  · try simp -dsimp (maxSteps := 2000000) (disch := first | omega | decide +kernel) only [↓vcl, ↓vcy, ↓vco, vck, gR, evl, evb, evBuiltin, evLen, evIdxA, evLoad, loadP, aggD, tis, i64, u32, bl, encL, encB, encLL, reduceIte, Nat.reduceEqDiff, forget, forget1, wantd, tzs, eve, evStore, evBox, evAlloc, evBuildSlice, evMakeSlice, evAppend, fillRows, zcells, elemsOf, putAll, PV.one, Nat.reduceAdd, Nat.reduceMul, Int.cast_ofNat_Int, Int.reduceEq, Int.reduceLT, Int.reduceLE, Nat.reduceLeDiff, List.reduceReplicate, reduceCtorEq]
    refine onC_nlt (fun h2 => ?_) (fun h2 => ?_)
    · obtain ⟨b, hx, hxm⟩ := get_of_lt h2
      have hs := take_succ hx
      have hls := lst_snoc (m.take i) 0 b
      rw [List.length_take, Nat.min_eq_left (by omega), Nat.zero_add, he] at hls
      cases b
      · try simp -dsimp (maxSteps := 2000000) (disch := first | omega | decide +kernel) only [↓vcl, ↓vcy, ↓vco, vck, gR, evl, evb, evBuiltin, evLen, evIdxA, evLoad, loadP, aggD, tis, i64, u32, bl, encL, encB, encLL, reduceIte, Nat.reduceEqDiff, forget, forget1, wantd, tzs, eve, evStore, evBox, evAlloc, evBuildSlice, evMakeSlice, evAppend, fillRows, zcells, elemsOf, putAll, PV.one, Nat.reduceAdd, Nat.reduceMul, Int.cast_ofNat_Int, Int.reduceEq, Int.reduceLT, Int.reduceLE, Nat.reduceLeDiff, List.reduceReplicate, reduceCtorEq, hx]
        refine ⟨_, _, ?_, weak_of ?_, i + 1, nx, h2, rfl, .inl ⟨by rw [hs, hls]; rfl, rfl⟩⟩
        · omega
        · first | (simp -dsimp (maxSteps := 2000000) (disch := first | omega | decide +kernel) only [↓vcl, ↓vcy, ↓vco, vck, gR, evl, evb, evBuiltin, evLen, evIdxA, evLoad, loadP, aggD, tis, i64, u32, bl, encL, encB, encLL, reduceIte, Nat.reduceEqDiff, forget, forget1, wantd, tzs, eve, evStore, evBox, evAlloc, evBuildSlice, evMakeSlice, evAppend, fillRows, zcells, elemsOf, putAll, PV.one, Nat.reduceAdd, Nat.reduceMul, Int.cast_ofNat_Int, Int.reduceEq, Int.reduceLT, Int.reduceLE, Nat.reduceLeDiff, List.reduceReplicate, reduceCtorEq, wrapS h2 (show m.length ≤ 9223372036854775807 by omega)]; done) | simp -dsimp [evl, putN, i64, u32, bl, encL, encB, encLL, wrapS h2 (show m.length ≤ 9223372036854775807 by omega)]
      · try simp -dsimp (maxSteps := 2000000) (disch := first | omega | decide +kernel) only [↓vcl, ↓vcy, ↓vco, vck, gR, evl, evb, evBuiltin, evLen, evIdxA, evLoad, loadP, aggD, tis, i64, u32, bl, encL, encB, encLL, reduceIte, Nat.reduceEqDiff, forget, forget1, wantd, tzs, eve, evStore, evBox, evAlloc, evBuildSlice, evMakeSlice, evAppend, fillRows, zcells, elemsOf, putAll, PV.one, Nat.reduceAdd, Nat.reduceMul, Int.cast_ofNat_Int, Int.reduceEq, Int.reduceLT, Int.reduceLE, Nat.reduceLeDiff, List.reduceReplicate, reduceCtorEq, hx]
        refine ⟨_, _, ?_, weak_of ?_, i + 1, nx + 2, h2, rfl, .inr ⟨nx + 1, 0, by omega, rfl⟩⟩
        · omega
        · first | (simp -dsimp (maxSteps := 2000000) (disch := first | omega | decide +kernel) only [↓vcl, ↓vcy, ↓vco, vck, gR, evl, evb, evBuiltin, evLen, evIdxA, evLoad, loadP, aggD, tis, i64, u32, bl, encL, encB, encLL, reduceIte, Nat.reduceEqDiff, forget, forget1, wantd, tzs, eve, evStore, evBox, evAlloc, evBuildSlice, evMakeSlice, evAppend, fillRows, zcells, elemsOf, putAll, PV.one, Nat.reduceAdd, Nat.reduceMul, Int.cast_ofNat_Int, Int.reduceEq, Int.reduceLT, Int.reduceLE, Nat.reduceLeDiff, List.reduceReplicate, reduceCtorEq, wrapS h2 (show m.length ≤ 9223372036854775807 by omega), hs, hls, he]; done) | simp -dsimp [evl, putN, i64, u32, bl, encL, encB, encLL, wrapS h2 (show m.length ≤ 9223372036854775807 by omega), hs, hls, he]
    · simp -dsimp (maxSteps := 2000000) (disch := first | omega | decide +kernel) only [↓vcl, ↓vcy, ↓vco, vck, gR, evl, evb, evBuiltin, evLen, evIdxA, evLoad, loadP, aggD, tis, i64, u32, bl, encL, encB, encLL, reduceIte, Nat.reduceEqDiff, forget, forget1, wantd, tzs, eve, evStore, evBox, evAlloc, evBuildSlice, evMakeSlice, evAppend, fillRows, zcells, elemsOf, putAll, PV.one, Nat.reduceAdd, Nat.reduceMul, Int.cast_ofNat_Int, Int.reduceEq, Int.reduceLT, Int.reduceLE, Nat.reduceLeDiff, List.reduceReplicate, reduceCtorEq, retQ, resL, finL, newL, flat, tupOf, List.toList_toArray, Tryd.f54]
      refine leT_one (.inr ⟨rfl, 1, ?_⟩) (by simp)
      rw [List.take_of_length_le (by omega)] at he
      rw [newI, he]; rfl
  · have hlen := lst_len (m.take i) 0
    rw [List.length_take, Nat.min_eq_left (by omega)] at hlen
    have hne : (id = nx) = False := by simp; omega
    have hne' : (nx = id) = False := by simp; omega
    have hbd : ((lst 0 (m.take i)).length + 1) * 8 ≤ 140737488355328 := by omega
    try simp -dsimp (maxSteps := 2000000) (disch := first | omega | decide +kernel) only [↓vcl, ↓vcy, ↓vco, vck, gR, evl, evb, evBuiltin, evLen, evIdxA, evLoad, loadP, aggD, tis, i64, u32, bl, encL, encB, encLL, reduceIte, Nat.reduceEqDiff, forget, forget1, wantd, tzs, eve, evStore, evBox, evAlloc, evBuildSlice, evMakeSlice, evAppend, fillRows, zcells, elemsOf, putAll, PV.one, Nat.reduceAdd, Nat.reduceMul, Int.cast_ofNat_Int, Int.reduceEq, Int.reduceLT, Int.reduceLE, Nat.reduceLeDiff, List.reduceReplicate, reduceCtorEq]
    refine onC_nlt (fun h2 => ?_) (fun h2 => ?_)
    · obtain ⟨b, hx, hxm⟩ := get_of_lt h2
      have hs := take_succ hx
      have hls := lst_snoc (m.take i) 0 b
      rw [List.length_take, Nat.min_eq_left (by omega), Nat.zero_add] at hls
      cases b
      · try simp -dsimp (maxSteps := 2000000) (disch := first | omega | decide +kernel) only [↓vcl, ↓vcy, ↓vco, vck, gR, evl, evb, evBuiltin, evLen, evIdxA, evLoad, loadP, aggD, tis, i64, u32, bl, encL, encB, encLL, reduceIte, Nat.reduceEqDiff, forget, forget1, wantd, tzs, eve, evStore, evBox, evAlloc, evBuildSlice, evMakeSlice, evAppend, fillRows, zcells, elemsOf, putAll, PV.one, Nat.reduceAdd, Nat.reduceMul, Int.cast_ofNat_Int, Int.reduceEq, Int.reduceLT, Int.reduceLE, Nat.reduceLeDiff, List.reduceReplicate, reduceCtorEq, hx]
        refine ⟨_, _, ?_, weak_of ?_, i + 1, nx, h2, rfl, .inr ⟨id, ver, hid, rfl⟩⟩
        · omega
        · first | (simp -dsimp (maxSteps := 2000000) (disch := first | omega | decide +kernel) only [↓vcl, ↓vcy, ↓vco, vck, gR, evl, evb, evBuiltin, evLen, evIdxA, evLoad, loadP, aggD, tis, i64, u32, bl, encL, encB, encLL, reduceIte, Nat.reduceEqDiff, forget, forget1, wantd, tzs, eve, evStore, evBox, evAlloc, evBuildSlice, evMakeSlice, evAppend, fillRows, zcells, elemsOf, putAll, PV.one, Nat.reduceAdd, Nat.reduceMul, Int.cast_ofNat_Int, Int.reduceEq, Int.reduceLT, Int.reduceLE, Nat.reduceLeDiff, List.reduceReplicate, reduceCtorEq, wrapS h2 (show m.length ≤ 9223372036854775807 by omega), hs, hls, hne, hne']; done) | simp -dsimp [evl, putN, i64, u32, bl, encL, encB, encLL, wrapS h2 (show m.length ≤ 9223372036854775807 by omega), hs, hls, hne, hne']
      · try simp -dsimp (maxSteps := 2000000) (disch := first | omega | decide +kernel) only [↓vcl, ↓vcy, ↓vco, vck, gR, evl, evb, evBuiltin, evLen, evIdxA, evLoad, loadP, aggD, tis, i64, u32, bl, encL, encB, encLL, reduceIte, Nat.reduceEqDiff, forget, forget1, wantd, tzs, eve, evStore, evBox, evAlloc, evBuildSlice, evMakeSlice, evAppend, fillRows, zcells, elemsOf, putAll, PV.one, Nat.reduceAdd, Nat.reduceMul, Int.cast_ofNat_Int, Int.reduceEq, Int.reduceLT, Int.reduceLE, Nat.reduceLeDiff, List.reduceReplicate, reduceCtorEq, hx, hne, hne', hbd]
        refine ⟨_, _, ?_, weak_of ?_, i + 1, nx + 1, h2, rfl, .inr ⟨id, ver + 1, by omega, rfl⟩⟩
        · omega
        · first | (simp -dsimp (maxSteps := 2000000) (disch := first | omega | decide +kernel) only [↓vcl, ↓vcy, ↓vco, vck, gR, evl, evb, evBuiltin, evLen, evIdxA, evLoad, loadP, aggD, tis, i64, u32, bl, encL, encB, encLL, reduceIte, Nat.reduceEqDiff, forget, forget1, wantd, tzs, eve, evStore, evBox, evAlloc, evBuildSlice, evMakeSlice, evAppend, fillRows, zcells, elemsOf, putAll, PV.one, Nat.reduceAdd, Nat.reduceMul, Int.cast_ofNat_Int, Int.reduceEq, Int.reduceLT, Int.reduceLE, Nat.reduceLeDiff, List.reduceReplicate, reduceCtorEq, wrapS h2 (show m.length ≤ 9223372036854775807 by omega), hs, hls, hne, hne']; done) | simp -dsimp [evl, putN, i64, u32, bl, encL, encB, encLL, wrapS h2 (show m.length ≤ 9223372036854775807 by omega), hs, hls, hne, hne']
    · simp -dsimp (maxSteps := 2000000) (disch := first | omega | decide +kernel) only [↓vcl, ↓vcy, ↓vco, vck, gR, evl, evb, evBuiltin, evLen, evIdxA, evLoad, loadP, aggD, tis, i64, u32, bl, encL, encB, encLL, reduceIte, Nat.reduceEqDiff, forget, forget1, wantd, tzs, eve, evStore, evBox, evAlloc, evBuildSlice, evMakeSlice, evAppend, fillRows, zcells, elemsOf, putAll, PV.one, Nat.reduceAdd, Nat.reduceMul, Int.cast_ofNat_Int, Int.reduceEq, Int.reduceLT, Int.reduceLE, Nat.reduceLeDiff, List.reduceReplicate, reduceCtorEq, retQ, resL, finL, newL, flat, tupOf, List.toList_toArray, Tryd.f54]
      refine leT_one ?_ (by simp)
      rw [List.take_of_length_le (by omega)]
      exact .rfl'
end Go.Ab
