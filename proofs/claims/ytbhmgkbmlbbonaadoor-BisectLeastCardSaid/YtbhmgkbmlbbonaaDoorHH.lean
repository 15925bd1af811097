import Derived.Test.YtbhmgkbmlbbonaaDoorHG
set_option linter.unusedSimpArgs false
set_option linter.unusedVariables false
set_option maxRecDepth 100000
set_option maxHeartbeats 8000000
namespace Go.Ab
open Go Go.Proofs

def bitsB (x : BitVec 32) : List Bool := (List.range 32).map x.getLsbD
def bitsL (x : BitVec 32) : List Int := lst 0 (bitsB x)

theorem bitsB_get {x : BitVec 32} {i : Nat} : (bitsB x)[i]? = if i < 32 then some (x.getLsbD i) else none := by
  unfold bitsB
  rw [List.getElem?_map]
  split
  · rename_i h; rw [List.getElem?_range h]; rfl
  · rename_i h; rw [List.getElem?_eq_none (by simp; omega)]; rfl

theorem bits_step {x : BitVec 32} {k : Nat} (hk : k < 32) (h1 : x.getLsbD k = true) (h2 : ∀ j, j < k → x.getLsbD j = false) : bitsL x = (k : Int) :: bitsL (x &&& (x - 1#32)) := by
  unfold bitsL
  rw [lst_first (bitsB x) 0 k (by rw [bitsB_get, if_pos hk, h1]) (fun j hj => by rw [bitsB_get, if_pos (by omega), h2 j hj]), Nat.zero_add]
  congr 2
  apply List.ext_getElem?
  intro i
  rw [List.getElem?_set, bitsB_get, bitsB_get, low_clear hk h1 h2]
  have hl : (bitsB x).length = 32 := by simp [bitsB]
  by_cases e : k = i
  · subst e; simp [hl, hk]
  · have : ¬ i = k := fun h => e h.symm
    simp [e, this]
theorem bits_zero : bitsL 0#32 = [] := by decide
theorem bits_len (x : BitVec 32) : (bitsL x).length ≤ 32 := by
  have := lst_len (bitsB x) 0
  simpa [bitsL, bitsB] using this

theorem s34 (x0 : BitVec 32) : CallSpec cx 52 [w32 x0] (newI (bitsL x0)) := by
  have hb0 := bits_len x0
  refine callSpec_of_vc Tryd.func52 rfl (by decide) (by kernel_rfl) (Nat.le_of_ble_eq_true rfl) ?_
  try simp -dsimp (maxSteps := 2000000) (disch := first | omega | decide +kernel) only [↓vcl, ↓vcy, ↓vco, vck, gR, evl, evb, evBuiltin, evLen, evIdxA, evLoad, loadP, aggD, tis, i64, u32, bl, encL, encB, encLL, reduceIte, Nat.reduceEqDiff, forget, forget1, wantd, tzs, eve, evStore, evBox, evAlloc, evBuildSlice, evMakeSlice, evAppend, fillRows, zcells, elemsOf, putAll, PV.one, Nat.reduceAdd, Nat.reduceMul, Int.cast_ofNat_Int, Int.reduceEq, Int.reduceLT, Int.reduceLE, Nat.reduceLeDiff, List.reduceReplicate, reduceCtorEq, Tryd.f52]
  refine LoopQ.rule (fun k st => ∃ (s : BitVec 32) (out : List Int) (nx : Nat), out ++ bitsL s = bitsL x0 ∧ k = (bitsL s).length ∧
    ((out = [] ∧ st = ⟨mkE [(0, w32 s), (3, .lit (.slice none 0 0))], mkS [], nx⟩) ∨
     ∃ id ver, id < nx ∧ st = ⟨mkE [(0, w32 s), (3, .own id ver 0 out.length false)], mkS [(id, .row ver 1 (out.map fun i => [i64 i]) false)], nx⟩)) _ _ (weak_of ?_) ⟨x0, [], 0, rfl, rfl, .inl ⟨rfl, rfl⟩⟩ ?_
  · first | (simp -dsimp (maxSteps := 2000000) (disch := first | omega | decide +kernel) only [↓vcl, ↓vcy, ↓vco, vck, gR, evl, evb, evBuiltin, evLen, evIdxA, evLoad, loadP, aggD, tis, i64, u32, bl, encL, encB, encLL, reduceIte, Nat.reduceEqDiff, forget, forget1, wantd, tzs, eve, evStore, evBox, evAlloc, evBuildSlice, evMakeSlice, evAppend, fillRows, zcells, elemsOf, putAll, PV.one, Nat.reduceAdd, Nat.reduceMul, Int.cast_ofNat_Int, Int.reduceEq, Int.reduceLT, Int.reduceLE, Nat.reduceLeDiff, List.reduceReplicate, reduceCtorEq]; done) | simp -dsimp [evl, putN, i64, u32, bl, encL, encB, encLL]
  rintro k st ⟨s, out, nx, hout, rfl, ⟨rfl, rfl⟩ | ⟨id, ver, hid, rfl⟩⟩
  · cases hs : decide (s = 0#32)
    · have hs' := of_decide_eq_false hs
      obtain ⟨k, hk, h1, h2⟩ := low_ex s hs'
      have hst := bits_step hk h1 h2
      try simp -dsimp (maxSteps := 2000000) (disch := first | omega | decide +kernel) only [↓vcl, ↓vcy, ↓vco, vck, gR, evl, evb, evBuiltin, evLen, evIdxA, evLoad, loadP, aggD, tis, i64, u32, bl, encL, encB, encLL, reduceIte, Nat.reduceEqDiff, forget, forget1, wantd, tzs, eve, evStore, evBox, evAlloc, evBuildSlice, evMakeSlice, evAppend, fillRows, zcells, elemsOf, putAll, PV.one, Nat.reduceAdd, Nat.reduceMul, Int.cast_ofNat_Int, Int.reduceEq, Int.reduceLT, Int.reduceLE, Nat.reduceLeDiff, List.reduceReplicate, reduceCtorEq, w32, uRules, uBits, uUn, hs]
      refine CallQ.imm (s48 s k hk h1 h2) (by rfl) (by first | rfl | (simp -dsimp (maxSteps := 2000000) (disch := first | omega | decide +kernel) only [↓vcl, ↓vcy, ↓vco, vck, gR, evl, evb, evBuiltin, evLen, evIdxA, evLoad, loadP, aggD, tis, i64, u32, bl, encL, encB, encLL, reduceIte, Nat.reduceEqDiff, forget, forget1, wantd, tzs, eve, evStore, evBox, evAlloc, evBuildSlice, evMakeSlice, evAppend, fillRows, zcells, elemsOf, putAll, PV.one, Nat.reduceAdd, Nat.reduceMul, Int.cast_ofNat_Int, Int.reduceEq, Int.reduceLT, Int.reduceLE, Nat.reduceLeDiff, List.reduceReplicate, reduceCtorEq, drcs, drc, flat]; done) | simp -dsimp [evl, drcs, drc, flat, i64, u32, bl, encL, encB, encLL]) (by first | exact .inl rfl | exact .inr rfl | exact .inr scalB | exact .inr scalI | exact .inr scalT) ?_
      try simp -dsimp (maxSteps := 2000000) (disch := first | omega | decide +kernel) only [↓vcl, ↓vcy, ↓vco, vck, gR, evl, evb, evBuiltin, evLen, evIdxA, evLoad, loadP, aggD, tis, i64, u32, bl, encL, encB, encLL, reduceIte, Nat.reduceEqDiff, forget, forget1, wantd, tzs, eve, evStore, evBox, evAlloc, evBuildSlice, evMakeSlice, evAppend, fillRows, zcells, elemsOf, putAll, PV.one, Nat.reduceAdd, Nat.reduceMul, Int.cast_ofNat_Int, Int.reduceEq, Int.reduceLT, Int.reduceLE, Nat.reduceLeDiff, List.reduceReplicate, reduceCtorEq, w32, uRules, uBits, uUn, hs]
      refine ⟨_, _, ?_, weak_of ?_, s &&& (s - 1#32), [(k : Int)], nx + 2, by rw [← hout, hst]; rfl, rfl, .inr ⟨nx + 1, 0, by omega, rfl⟩⟩
      · rw [hst]; simp
      · first | (simp -dsimp (maxSteps := 2000000) (disch := first | omega | decide +kernel) only [↓vcl, ↓vcy, ↓vco, vck, gR, evl, evb, evBuiltin, evLen, evIdxA, evLoad, loadP, aggD, tis, i64, u32, bl, encL, encB, encLL, reduceIte, Nat.reduceEqDiff, forget, forget1, wantd, tzs, eve, evStore, evBox, evAlloc, evBuildSlice, evMakeSlice, evAppend, fillRows, zcells, elemsOf, putAll, PV.one, Nat.reduceAdd, Nat.reduceMul, Int.cast_ofNat_Int, Int.reduceEq, Int.reduceLT, Int.reduceLE, Nat.reduceLeDiff, List.reduceReplicate, reduceCtorEq, w32]; done) | simp -dsimp [evl, putN, i64, u32, bl, encL, encB, encLL, w32]
    · have hs' := of_decide_eq_true hs
      simp -dsimp (maxSteps := 2000000) (disch := first | omega | decide +kernel) only [↓vcl, ↓vcy, ↓vco, vck, gR, evl, evb, evBuiltin, evLen, evIdxA, evLoad, loadP, aggD, tis, i64, u32, bl, encL, encB, encLL, reduceIte, Nat.reduceEqDiff, forget, forget1, wantd, tzs, eve, evStore, evBox, evAlloc, evBuildSlice, evMakeSlice, evAppend, fillRows, zcells, elemsOf, putAll, PV.one, Nat.reduceAdd, Nat.reduceMul, Int.cast_ofNat_Int, Int.reduceEq, Int.reduceLT, Int.reduceLE, Nat.reduceLeDiff, List.reduceReplicate, reduceCtorEq, retQ, resL, finL, newL, flat, tupOf, List.toList_toArray, Tryd.f52, w32, uRules, hs]
      refine leT_one (.inr ⟨rfl, 1, ?_⟩) (by simp)
      rw [newI, ← hout, hs', bits_zero]; rfl
  · have hbd : (out.length + 1) * 8 ≤ 140737488355328 := by
      have := congrArg List.length hout
      rw [List.length_append] at this; omega
    have hne : (id = nx) = False := by simp; omega
    have hne' : (nx = id) = False := by simp; omega
    cases hs : decide (s = 0#32)
    · have hs' := of_decide_eq_false hs
      obtain ⟨k, hk, h1, h2⟩ := low_ex s hs'
      have hst := bits_step hk h1 h2
      try simp -dsimp (maxSteps := 2000000) (disch := first | omega | decide +kernel) only [↓vcl, ↓vcy, ↓vco, vck, gR, evl, evb, evBuiltin, evLen, evIdxA, evLoad, loadP, aggD, tis, i64, u32, bl, encL, encB, encLL, reduceIte, Nat.reduceEqDiff, forget, forget1, wantd, tzs, eve, evStore, evBox, evAlloc, evBuildSlice, evMakeSlice, evAppend, fillRows, zcells, elemsOf, putAll, PV.one, Nat.reduceAdd, Nat.reduceMul, Int.cast_ofNat_Int, Int.reduceEq, Int.reduceLT, Int.reduceLE, Nat.reduceLeDiff, List.reduceReplicate, reduceCtorEq, w32, uRules, uBits, uUn, hs]
      refine CallQ.imm (s48 s k hk h1 h2) (by rfl) (by first | rfl | (simp -dsimp (maxSteps := 2000000) (disch := first | omega | decide +kernel) only [↓vcl, ↓vcy, ↓vco, vck, gR, evl, evb, evBuiltin, evLen, evIdxA, evLoad, loadP, aggD, tis, i64, u32, bl, encL, encB, encLL, reduceIte, Nat.reduceEqDiff, forget, forget1, wantd, tzs, eve, evStore, evBox, evAlloc, evBuildSlice, evMakeSlice, evAppend, fillRows, zcells, elemsOf, putAll, PV.one, Nat.reduceAdd, Nat.reduceMul, Int.cast_ofNat_Int, Int.reduceEq, Int.reduceLT, Int.reduceLE, Nat.reduceLeDiff, List.reduceReplicate, reduceCtorEq, drcs, drc, flat]; done) | simp -dsimp [evl, drcs, drc, flat, i64, u32, bl, encL, encB, encLL]) (by first | exact .inl rfl | exact .inr rfl | exact .inr scalB | exact .inr scalI | exact .inr scalT) ?_
      try simp -dsimp (maxSteps := 2000000) (disch := first | omega | decide +kernel) only [↓vcl, ↓vcy, ↓vco, vck, gR, evl, evb, evBuiltin, evLen, evIdxA, evLoad, loadP, aggD, tis, i64, u32, bl, encL, encB, encLL, reduceIte, Nat.reduceEqDiff, forget, forget1, wantd, tzs, eve, evStore, evBox, evAlloc, evBuildSlice, evMakeSlice, evAppend, fillRows, zcells, elemsOf, putAll, PV.one, Nat.reduceAdd, Nat.reduceMul, Int.cast_ofNat_Int, Int.reduceEq, Int.reduceLT, Int.reduceLE, Nat.reduceLeDiff, List.reduceReplicate, reduceCtorEq, w32, uRules, uBits, uUn, hs, hne, hne', hbd]
      refine ⟨_, _, ?_, weak_of ?_, s &&& (s - 1#32), out ++ [(k : Int)], nx + 1, by rw [← hout, hst]; simp, rfl, .inr ⟨id, ver + 1, by omega, rfl⟩⟩
      · rw [hst]; simp
      · first | (simp -dsimp (maxSteps := 2000000) (disch := first | omega | decide +kernel) only [↓vcl, ↓vcy, ↓vco, vck, gR, evl, evb, evBuiltin, evLen, evIdxA, evLoad, loadP, aggD, tis, i64, u32, bl, encL, encB, encLL, reduceIte, Nat.reduceEqDiff, forget, forget1, wantd, tzs, eve, evStore, evBox, evAlloc, evBuildSlice, evMakeSlice, evAppend, fillRows, zcells, elemsOf, putAll, PV.one, Nat.reduceAdd, Nat.reduceMul, Int.cast_ofNat_Int, Int.reduceEq, Int.reduceLT, Int.reduceLE, Nat.reduceLeDiff, List.reduceReplicate, reduceCtorEq, w32, hne, hne']; done) | simp -dsimp [evl, putN, i64, u32, bl, encL, encB, encLL, w32, hne, hne']
    · have hs' := of_decide_eq_true hs
      simp -dsimp (maxSteps := 2000000) (disch := first | omega | decide +kernel) only [↓vcl, ↓vcy, ↓vco, vck, gR, evl, evb, evBuiltin, evLen, evIdxA, evLoad, loadP, aggD, tis, i64, u32, bl, encL, encB, encLL, reduceIte, Nat.reduceEqDiff, forget, forget1, wantd, tzs, eve, evStore, evBox, evAlloc, evBuildSlice, evMakeSlice, evAppend, fillRows, zcells, elemsOf, putAll, PV.one, Nat.reduceAdd, Nat.reduceMul, Int.cast_ofNat_Int, Int.reduceEq, Int.reduceLT, Int.reduceLE, Nat.reduceLeDiff, List.reduceReplicate, reduceCtorEq, retQ, resL, finL, newL, flat, tupOf, List.toList_toArray, Tryd.f52, w32, uRules, hs]
      refine leT_one ?_ (by simp)
      rw [← hout, hs', bits_zero, List.append_nil]
      exact .rfl'

theorem s37 (x : BitVec 32) (i : Nat) : CallSpec cx 50 [w32 x, i64 i] (bl (decide ((x >>> i) &&& 1#32 = 1#32))) := by
  refine callSpec_of_vc Tryd.func50 rfl (by decide) (by kernel_rfl) (Nat.le_of_ble_eq_true rfl) ?_
  simp -dsimp (maxSteps := 2000000) (disch := first | omega | decide +kernel) only [↓vcl, ↓vcy, ↓vco, vck, gR, evl, evb, evBuiltin, evLen, evIdxA, evLoad, loadP, aggD, tis, i64, u32, bl, encL, encB, encLL, reduceIte, Nat.reduceEqDiff, forget, forget1, wantd, tzs, eve, evStore, evBox, evAlloc, evBuildSlice, evMakeSlice, evAppend, fillRows, zcells, elemsOf, putAll, PV.one, Nat.reduceAdd, Nat.reduceMul, Int.cast_ofNat_Int, Int.reduceEq, Int.reduceLT, Int.reduceLE, Nat.reduceLeDiff, List.reduceReplicate, reduceCtorEq, retQ, resL, finL, newL, flat, tupOf, List.toList_toArray, Tryd.f50, w32, uRules, uBits, uShr]
  exact leT_one (bl_eq rfl) (by simp)
end Go.Ab
