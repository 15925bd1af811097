import Derived.Test.YtlfllbelabkaeaaDoorDB
set_option linter.unusedSimpArgs false
set_option linter.unusedVariables false
set_option maxRecDepth 100000
namespace Go.Ab
open Go Go.Proofs W16

theorem sh8 : ((0 : Int) ≤ 8) = True ∧ ((8 : Int).toNat = 8) := ⟨by simp, rfl⟩
theorem len8s {i n : Nat} (h : i < n) (hn : n ≤ 9223372036854775807) : IntKind.i64.wrap ((i : Int) + 1) = ((i + 1 : Nat) : Int) := wrapS h hn

theorem d_of (l : List Int) (hl : l.length ≤ 9223372036854775807) (hc : ∀ c ∈ l, 0 ≤ c ∧ c < 16) : CallSpec cx 34 [encL l] (wd (ofL l)) := by
  refine callSpec_of_vc Tryd.func34 rfl (by decide) (by kernel_rfl) (Nat.le_of_ble_eq_true rfl) ?_
  try simp -dsimp (maxSteps := 2000000) (disch := first | omega | decide +kernel) only [↓vcl, ↓vcy, ↓vco, vck, gR, evl, evb, evBuiltin, evLen, evIdxA, evLoad, loadP, aggD, tis, i64, u32, bl, encL, encB, encLL, reduceIte, Nat.reduceEqDiff, forget, forget1, wantd, tzs, eve, evStore, evBox, evAlloc, evBuildSlice, evMakeSlice, evAppend, fillRows, zcells, elemsOf, putAll, PV.one, Nat.reduceAdd, Nat.reduceMul, Int.cast_ofNat_Int, Int.reduceEq, Int.reduceLT, Int.reduceLE, Nat.reduceLeDiff, List.reduceReplicate, reduceCtorEq, Tryd.f34]
  refine LoopQ.rule (fun m st => ∃ i : Nat, i ≤ l.length ∧ m = l.length - i ∧ st = ⟨mkE [(3, wd (ofL (l.take i))), (6, encL l), (7, i64 l.length), (8, i64 i)], mkS [], 0⟩) _ _ (weak_of ?_) ⟨0, by omega, rfl, rfl⟩ ?_
  · first | (simp -dsimp (maxSteps := 2000000) (disch := first | omega | decide +kernel) only [↓vcl, ↓vcy, ↓vco, vck, gR, evl, evb, evBuiltin, evLen, evIdxA, evLoad, loadP, aggD, tis, i64, u32, bl, encL, encB, encLL, reduceIte, Nat.reduceEqDiff, forget, forget1, wantd, tzs, eve, evStore, evBox, evAlloc, evBuildSlice, evMakeSlice, evAppend, fillRows, zcells, elemsOf, putAll, PV.one, Nat.reduceAdd, Nat.reduceMul, Int.cast_ofNat_Int, Int.reduceEq, Int.reduceLT, Int.reduceLE, Nat.reduceLeDiff, List.reduceReplicate, reduceCtorEq, wd, ofL, List.take_zero, List.foldl_nil]; done) | simp -dsimp [evl, putN, i64, u32, bl, encL, encB, encLL, wd, ofL, List.take_zero, List.foldl_nil]
  rintro m st ⟨i, hi, rfl, rfl⟩
  try simp -dsimp (maxSteps := 2000000) (disch := first | omega | decide +kernel) only [↓vcl, ↓vcy, ↓vco, vck, gR, evl, evb, evBuiltin, evLen, evIdxA, evLoad, loadP, aggD, tis, i64, u32, bl, encL, encB, encLL, reduceIte, Nat.reduceEqDiff, forget, forget1, wantd, tzs, eve, evStore, evBox, evAlloc, evBuildSlice, evMakeSlice, evAppend, fillRows, zcells, elemsOf, putAll, PV.one, Nat.reduceAdd, Nat.reduceMul, Int.cast_ofNat_Int, Int.reduceEq, Int.reduceLT, Int.reduceLE, Nat.reduceLeDiff, List.reduceReplicate, reduceCtorEq]
  refine onC_nlt (fun h2 => ?_) (fun h2 => ?_)
  · obtain ⟨x, hx, hxm⟩ := get_of_lt h2
    obtain ⟨x, rfl⟩ : ∃ o : Nat, x = o := ⟨x.toNat, by have := hc x hxm; omega⟩
    have e := ofL_snoc (l := l.take i) (c := (x : Int))
    rw [← take_succ hx, Int.toNat_natCast, bit] at e
    try simp -dsimp (maxSteps := 2000000) (disch := first | omega | decide +kernel) only [↓vcl, ↓vcy, ↓vco, vck, gR, evl, evb, evBuiltin, evLen, evIdxA, evLoad, loadP, aggD, tis, i64, u32, bl, encL, encB, encLL, reduceIte, Nat.reduceEqDiff, forget, forget1, wantd, tzs, eve, evStore, evBox, evAlloc, evBuildSlice, evMakeSlice, evAppend, fillRows, zcells, elemsOf, putAll, PV.one, Nat.reduceAdd, Nat.reduceMul, Int.cast_ofNat_Int, Int.reduceEq, Int.reduceLT, Int.reduceLE, Nat.reduceLeDiff, List.reduceReplicate, reduceCtorEq, hx, wd, uRules, uShl, uBits]
    refine ⟨_, _, ?_, weak_of ?_, i + 1, h2, rfl, rfl⟩
    · omega
    · first | (simp -dsimp (maxSteps := 2000000) (disch := first | omega | decide +kernel) only [↓vcl, ↓vcy, ↓vco, vck, gR, evl, evb, evBuiltin, evLen, evIdxA, evLoad, loadP, aggD, tis, i64, u32, bl, encL, encB, encLL, reduceIte, Nat.reduceEqDiff, forget, forget1, wantd, tzs, eve, evStore, evBox, evAlloc, evBuildSlice, evMakeSlice, evAppend, fillRows, zcells, elemsOf, putAll, PV.one, Nat.reduceAdd, Nat.reduceMul, Int.cast_ofNat_Int, Int.reduceEq, Int.reduceLT, Int.reduceLE, Nat.reduceLeDiff, List.reduceReplicate, reduceCtorEq, wrapS h2 hl, wd, e]; done) | simp -dsimp [evl, putN, i64, u32, bl, encL, encB, encLL, wrapS h2 hl, wd, e]
  · rw [List.take_of_length_le (by omega)]
    simp -dsimp (maxSteps := 2000000) (disch := first | omega | decide +kernel) only [↓vcl, ↓vcy, ↓vco, vck, gR, evl, evb, evBuiltin, evLen, evIdxA, evLoad, loadP, aggD, tis, i64, u32, bl, encL, encB, encLL, reduceIte, Nat.reduceEqDiff, forget, forget1, wantd, tzs, eve, evStore, evBox, evAlloc, evBuildSlice, evMakeSlice, evAppend, fillRows, zcells, elemsOf, putAll, PV.one, Nat.reduceAdd, Nat.reduceMul, Int.cast_ofNat_Int, Int.reduceEq, Int.reduceLT, Int.reduceLE, Nat.reduceLeDiff, List.reduceReplicate, reduceCtorEq, retQ, resL, finL, newL, flat, tupOf, List.toList_toArray, Tryd.f34, wd]
    exact leT_refl _

/-! ### how many bits -/
def pc8 (y : Nat) : Nat := (List.range 8).countP fun j => y.testBit j
def pop8 : ByteArray := ⟨((List.range 256).map fun n => (pc8 n).toUInt8).toArray⟩
theorem pop8_size : pop8.size = 256 := by decide
theorem pop8_num : ∀ y : Fin 256, (pop8[y.val]'(by rw [pop8_size]; exact y.isLt)).toNat = pc8 y.val := by decide
theorem pop8_at {y : Nat} (hy : y < 256) (k : IntKind) : evIdx cx 9 (.lit (.string pop8)) (.lit (.int k (y : Int))) = some (.lit (.int .u8 ((pc8 y : Nat) : Int))) := by
  have ht : ti cx.P 9 = some ⟨.string, 1, 16⟩ := by kernel_rfl
  have h := pop8_num ⟨y, hy⟩
  simp only at h
  have hl : y < pop8.size := by rw [pop8_size]; exact hy
  simp only [evIdx, ht, natOf_cast, dif_pos hl, h]
theorem lst_count : ∀ (L : List Bool) (s : Nat), (lst s L).length = L.countP id
  | [], s => rfl
  | b :: L, s => by
    have := lst_count L (s + 1)
    cases b <;> simp [lst, this]
def pc (x : BitVec 16) : Nat := (bitsL x).length
theorem pc_count (x : BitVec 16) : pc x = (List.range 16).countP x.getLsbD := by
  unfold pc bitsL bitsB
  rw [lst_count, List.countP_map]; rfl
theorem pc8_le (y : Nat) : pc8 y ≤ 8 := by
  have := List.countP_le_length (l := List.range 8) (p := fun j => y.testBit j)
  unfold pc8; simpa using this
theorem pc_split (x : BitVec 16) : pc x = pc8 (x >>> 8).toNat + pc8 (x &&& 255#16).toNat := by
  rw [pc_count, show List.range 16 = List.range 8 ++ (List.range 8).map (8 + ·) from by decide, List.countP_append, List.countP_map, Nat.add_comm]
  congr 1
  · unfold pc8
    apply List.countP_congr
    intro j hj
    have hj : j < 8 := by simpa using hj
    rw [show (x &&& 255#16).toNat.testBit j = (x &&& 255#16).getLsbD j from rfl, BitVec.getLsbD_and]
    have : (255#16).getLsbD j = true := by
      have : ∀ j : Fin 8, (255#16).getLsbD j.val = true := by decide
      exact this ⟨j, hj⟩
    simp [this]
theorem convD : (∀ n, purely cx.P (convert 5 3 (.int .u8 n)) = some (.int .i64 (IntKind.i64.wrap n))) ∧ (∀ n, purely cx.P (convert 59 85 (.int .u16 n)) = some (.int .u32 (IntKind.u32.wrap n))) := ⟨fun _ => rfl, fun _ => rfl⟩
theorem b_ones (x : BitVec 16) : CallSpec cx 60 [wd x] (i64 (pc x)) := by
  refine callSpec_of_vc Tryd.func60 rfl (by decide) (by kernel_rfl) (Nat.le_of_ble_eq_true rfl) ?_
  simp only [Tryd.f60]
  generalize hS : (ByteArray.mk _) = S
  have hS' : S = pop8 := by rw [← hS]; rfl
  clear hS; subst hS'
  have h1 : (x >>> 8).toNat < 256 := by
    rw [BitVec.toNat_ushiftRight, Nat.shiftRight_eq_div_pow]; have := x.isLt; omega
  have h2 : (x &&& 255#16).toNat < 256 := by
    rw [BitVec.toNat_and]; exact Nat.lt_of_le_of_lt Nat.and_le_right (by decide)
  have g1 := pc8_le (x >>> 8).toNat
  have g2 := pc8_le (x &&& 255#16).toNat
  have e : IntKind.i64.wrap (IntKind.u8.wrap ((pc8 (x >>> 8).toNat : Int) + (pc8 (x &&& 255#16).toNat : Int))) = (pc x : Int) := by
    rw [IntWalk.u8_in _ (by omega), IntWalk.i64_in _ (by omega), pc_split]; omega
  have e255 : ub 255 = 255#16 := rfl
  simp -dsimp (maxSteps := 2000000) (disch := first | omega | decide +kernel) only [↓vcl, ↓vcy, ↓vco, vck, gR, evl, evb, evBuiltin, evLen, evIdxA, evLoad, loadP, aggD, tis, i64, u32, bl, encL, encB, encLL, reduceIte, Nat.reduceEqDiff, forget, forget1, wantd, tzs, eve, evStore, evBox, evAlloc, evBuildSlice, evMakeSlice, evAppend, fillRows, zcells, elemsOf, putAll, PV.one, Nat.reduceAdd, Nat.reduceMul, Int.cast_ofNat_Int, Int.reduceEq, Int.reduceLT, Int.reduceLE, Nat.reduceLeDiff, List.reduceReplicate, reduceCtorEq, retQ, resL, finL, newL, flat, tupOf, List.toList_toArray, wd, uRules, uShr, uBits, sh8, e255, evConv, uUn, convD, pop8_at h1, pop8_at h2]
  exact leT_one (int_eq e) (by simp)
theorem d_size (x : BitVec 16) : CallSpec cx 50 [wd x] (i64 (pc x)) := by
  refine callSpec_of_vc Tryd.func50 rfl (by decide) (by kernel_rfl) (Nat.le_of_ble_eq_true rfl) ?_
  try simp -dsimp (maxSteps := 2000000) (disch := first | omega | decide +kernel) only [↓vcl, ↓vcy, ↓vco, vck, gR, evl, evb, evBuiltin, evLen, evIdxA, evLoad, loadP, aggD, tis, i64, u32, bl, encL, encB, encLL, reduceIte, Nat.reduceEqDiff, forget, forget1, wantd, tzs, eve, evStore, evBox, evAlloc, evBuildSlice, evMakeSlice, evAppend, fillRows, zcells, elemsOf, putAll, PV.one, Nat.reduceAdd, Nat.reduceMul, Int.cast_ofNat_Int, Int.reduceEq, Int.reduceLT, Int.reduceLE, Nat.reduceLeDiff, List.reduceReplicate, reduceCtorEq, Tryd.f50, wd]
  refine CallQ.imm (b_ones x) (by rfl) (by first | rfl | (simp -dsimp (maxSteps := 2000000) (disch := first | omega | decide +kernel) only [↓vcl, ↓vcy, ↓vco, vck, gR, evl, evb, evBuiltin, evLen, evIdxA, evLoad, loadP, aggD, tis, i64, u32, bl, encL, encB, encLL, reduceIte, Nat.reduceEqDiff, forget, forget1, wantd, tzs, eve, evStore, evBox, evAlloc, evBuildSlice, evMakeSlice, evAppend, fillRows, zcells, elemsOf, putAll, PV.one, Nat.reduceAdd, Nat.reduceMul, Int.cast_ofNat_Int, Int.reduceEq, Int.reduceLT, Int.reduceLE, Nat.reduceLeDiff, List.reduceReplicate, reduceCtorEq, drcs, drc, flat]; done) | simp -dsimp [evl, drcs, drc, flat, i64, u32, bl, encL, encB, encLL]) (by first | exact .inl rfl | exact .inr rfl | exact .inr scalB | exact .inr scalI | exact .inr scalT) ?_
  simp -dsimp (maxSteps := 2000000) (disch := first | omega | decide +kernel) only [↓vcl, ↓vcy, ↓vco, vck, gR, evl, evb, evBuiltin, evLen, evIdxA, evLoad, loadP, aggD, tis, i64, u32, bl, encL, encB, encLL, reduceIte, Nat.reduceEqDiff, forget, forget1, wantd, tzs, eve, evStore, evBox, evAlloc, evBuildSlice, evMakeSlice, evAppend, fillRows, zcells, elemsOf, putAll, PV.one, Nat.reduceAdd, Nat.reduceMul, Int.cast_ofNat_Int, Int.reduceEq, Int.reduceLT, Int.reduceLE, Nat.reduceLeDiff, List.reduceReplicate, reduceCtorEq, retQ, resL, finL, newL, flat, tupOf, List.toList_toArray, Tryd.f50]
  exact leT_refl _

theorem tab_low16 : ∀ k : Fin 16, tab[((W32.ub ((BitVec.twoPow 16 k.val).toNat : Int) * 125613361#32) >>> 27).toNat]? = some (k.val : Int) := by decide
theorem tisG : (ti cx.P 84 = some ⟨.array 32 5, 32, 32⟩) ∧ (ti cx.P 5 = some ⟨.int .u8, 1, 1⟩) ∧ (cx.G 0 = some (tab.map fun n => .lit (.int .u8 n))) := ⟨by kernel_rfl, by kernel_rfl, rfl⟩
theorem ub27 : ((0 : Int) ≤ 27) = True ∧ ((27 : Int).toNat = 27) ∧ W32.ub 125613361 = 125613361#32 := ⟨by simp, rfl, rfl⟩
theorem b_tz16 (x : BitVec 16) (k : Nat) (hk : k < 16) (h1 : x.getLsbD k = true) (h2 : ∀ j, j < k → x.getLsbD j = false) : CallSpec cx 57 [wd x] (i64 k) := by
  have hx : decide (x = 0#16) = false := by
    rw [decide_eq_false_iff_not]; rintro rfl; simp at h1
  have ht := tab_low16 ⟨k, hk⟩
  simp only at ht
  have hi : ((W32.ub ((BitVec.twoPow 16 k).toNat : Int) * 125613361#32) >>> 27).toNat < 32 := by
    rw [BitVec.toNat_ushiftRight, Nat.shiftRight_eq_div_pow]
    have := (W32.ub ((BitVec.twoPow 16 k).toNat : Int) * 125613361#32).isLt
    omega
  have hd : (List.drop ((W32.ub ((BitVec.twoPow 16 k).toNat : Int) * 125613361#32) >>> 27).toNat (List.map (fun n => PV.lit (Value.int IntKind.u8 n)) tab))[0]? = some (.lit (.int .u8 k)) := by
    rw [List.getElem?_drop, List.getElem?_map, Nat.add_zero, ht]; rfl
  have hw : IntKind.i64.wrap (k : Int) = k := by rw [IntWalk.i64_in _ (by omega)]
  refine callSpec_of_vc Tryd.func57 rfl (by decide) (by kernel_rfl) (Nat.le_of_ble_eq_true rfl) ?_
  simp -dsimp (maxSteps := 2000000) (disch := first | omega | decide +kernel) only [↓vcl, ↓vcy, ↓vco, vck, gR, evl, evb, evBuiltin, evLen, evIdxA, evLoad, loadP, aggD, tis, i64, u32, bl, encL, encB, encLL, reduceIte, Nat.reduceEqDiff, forget, forget1, wantd, tzs, eve, evStore, evBox, evAlloc, evBuildSlice, evMakeSlice, evAppend, fillRows, zcells, elemsOf, putAll, PV.one, Nat.reduceAdd, Nat.reduceMul, Int.cast_ofNat_Int, Int.reduceEq, Int.reduceLT, Int.reduceLE, Nat.reduceLeDiff, List.reduceReplicate, reduceCtorEq, retQ, resL, finL, newL, flat, tupOf, List.toList_toArray, Tryd.f57, wd, uRules, uBits, W32.uShr, W32.uRules, uUn, hx, low_and hk h1 h2, tisG, hi, hd, evConv, convD, ub27]
  exact leT_one (int_eq hw) (by simp)

theorem d_list (x0 : BitVec 16) : CallSpec cx 37 [wd x0] (newI (bitsL x0)) := by
  have hb0 := bits_len x0
  refine callSpec_of_vc Tryd.func37 rfl (by decide) (by kernel_rfl) (Nat.le_of_ble_eq_true rfl) ?_
  try simp -dsimp (maxSteps := 2000000) (disch := first | omega | decide +kernel) only [↓vcl, ↓vcy, ↓vco, vck, gR, evl, evb, evBuiltin, evLen, evIdxA, evLoad, loadP, aggD, tis, i64, u32, bl, encL, encB, encLL, reduceIte, Nat.reduceEqDiff, forget, forget1, wantd, tzs, eve, evStore, evBox, evAlloc, evBuildSlice, evMakeSlice, evAppend, fillRows, zcells, elemsOf, putAll, PV.one, Nat.reduceAdd, Nat.reduceMul, Int.cast_ofNat_Int, Int.reduceEq, Int.reduceLT, Int.reduceLE, Nat.reduceLeDiff, List.reduceReplicate, reduceCtorEq, Tryd.f37]
  refine LoopQ.rule (fun k st => ∃ (s : BitVec 16) (out : List Int) (nx : Nat), out ++ bitsL s = bitsL x0 ∧ k = (bitsL s).length ∧
    ((out = [] ∧ st = ⟨mkE [(0, wd s), (3, .lit (.slice none 0 0))], mkS [], nx⟩) ∨
     ∃ id ver, id < nx ∧ st = ⟨mkE [(0, wd s), (3, .own id ver 0 out.length false)], mkS [(id, .row ver 1 (out.map fun i => [i64 i]) false)], nx⟩)) _ _ (weak_of ?_) ⟨x0, [], 0, rfl, rfl, .inl ⟨rfl, rfl⟩⟩ ?_
  · first | (simp -dsimp (maxSteps := 2000000) (disch := first | omega | decide +kernel) only [↓vcl, ↓vcy, ↓vco, vck, gR, evl, evb, evBuiltin, evLen, evIdxA, evLoad, loadP, aggD, tis, i64, u32, bl, encL, encB, encLL, reduceIte, Nat.reduceEqDiff, forget, forget1, wantd, tzs, eve, evStore, evBox, evAlloc, evBuildSlice, evMakeSlice, evAppend, fillRows, zcells, elemsOf, putAll, PV.one, Nat.reduceAdd, Nat.reduceMul, Int.cast_ofNat_Int, Int.reduceEq, Int.reduceLT, Int.reduceLE, Nat.reduceLeDiff, List.reduceReplicate, reduceCtorEq]; done) | simp -dsimp [evl, putN, i64, u32, bl, encL, encB, encLL]
  rintro k st ⟨s, out, nx, hout, rfl, ⟨rfl, rfl⟩ | ⟨id, ver, hid, rfl⟩⟩
  · cases hs : decide (s = 0#16)
    · have hs' := of_decide_eq_false hs
      obtain ⟨k, hk, h1, h2⟩ := low_ex s hs'
      have hst := bits_step hk h1 h2
      try simp -dsimp (maxSteps := 2000000) (disch := first | omega | decide +kernel) only [↓vcl, ↓vcy, ↓vco, vck, gR, evl, evb, evBuiltin, evLen, evIdxA, evLoad, loadP, aggD, tis, i64, u32, bl, encL, encB, encLL, reduceIte, Nat.reduceEqDiff, forget, forget1, wantd, tzs, eve, evStore, evBox, evAlloc, evBuildSlice, evMakeSlice, evAppend, fillRows, zcells, elemsOf, putAll, PV.one, Nat.reduceAdd, Nat.reduceMul, Int.cast_ofNat_Int, Int.reduceEq, Int.reduceLT, Int.reduceLE, Nat.reduceLeDiff, List.reduceReplicate, reduceCtorEq, wd, uRules, uBits, uUn, hs]
      refine CallQ.imm (b_tz16 s k hk h1 h2) (by rfl) (by first | rfl | (simp -dsimp (maxSteps := 2000000) (disch := first | omega | decide +kernel) only [↓vcl, ↓vcy, ↓vco, vck, gR, evl, evb, evBuiltin, evLen, evIdxA, evLoad, loadP, aggD, tis, i64, u32, bl, encL, encB, encLL, reduceIte, Nat.reduceEqDiff, forget, forget1, wantd, tzs, eve, evStore, evBox, evAlloc, evBuildSlice, evMakeSlice, evAppend, fillRows, zcells, elemsOf, putAll, PV.one, Nat.reduceAdd, Nat.reduceMul, Int.cast_ofNat_Int, Int.reduceEq, Int.reduceLT, Int.reduceLE, Nat.reduceLeDiff, List.reduceReplicate, reduceCtorEq, drcs, drc, flat]; done) | simp -dsimp [evl, drcs, drc, flat, i64, u32, bl, encL, encB, encLL]) (by first | exact .inl rfl | exact .inr rfl | exact .inr scalB | exact .inr scalI | exact .inr scalT) ?_
      try simp -dsimp (maxSteps := 2000000) (disch := first | omega | decide +kernel) only [↓vcl, ↓vcy, ↓vco, vck, gR, evl, evb, evBuiltin, evLen, evIdxA, evLoad, loadP, aggD, tis, i64, u32, bl, encL, encB, encLL, reduceIte, Nat.reduceEqDiff, forget, forget1, wantd, tzs, eve, evStore, evBox, evAlloc, evBuildSlice, evMakeSlice, evAppend, fillRows, zcells, elemsOf, putAll, PV.one, Nat.reduceAdd, Nat.reduceMul, Int.cast_ofNat_Int, Int.reduceEq, Int.reduceLT, Int.reduceLE, Nat.reduceLeDiff, List.reduceReplicate, reduceCtorEq, wd, uRules, uBits, uUn, hs]
      refine ⟨_, _, ?_, weak_of ?_, s &&& (s - 1#16), [(k : Int)], nx + 2, by rw [← hout, hst]; rfl, rfl, .inr ⟨nx + 1, 0, by omega, rfl⟩⟩
      · rw [hst]; simp
      · first | (simp -dsimp (maxSteps := 2000000) (disch := first | omega | decide +kernel) only [↓vcl, ↓vcy, ↓vco, vck, gR, evl, evb, evBuiltin, evLen, evIdxA, evLoad, loadP, aggD, tis, i64, u32, bl, encL, encB, encLL, reduceIte, Nat.reduceEqDiff, forget, forget1, wantd, tzs, eve, evStore, evBox, evAlloc, evBuildSlice, evMakeSlice, evAppend, fillRows, zcells, elemsOf, putAll, PV.one, Nat.reduceAdd, Nat.reduceMul, Int.cast_ofNat_Int, Int.reduceEq, Int.reduceLT, Int.reduceLE, Nat.reduceLeDiff, List.reduceReplicate, reduceCtorEq, wd]; done) | simp -dsimp [evl, putN, i64, u32, bl, encL, encB, encLL, wd]
    · have hs' := of_decide_eq_true hs
      simp -dsimp (maxSteps := 2000000) (disch := first | omega | decide +kernel) only [↓vcl, ↓vcy, ↓vco, vck, gR, evl, evb, evBuiltin, evLen, evIdxA, evLoad, loadP, aggD, tis, i64, u32, bl, encL, encB, encLL, reduceIte, Nat.reduceEqDiff, forget, forget1, wantd, tzs, eve, evStore, evBox, evAlloc, evBuildSlice, evMakeSlice, evAppend, fillRows, zcells, elemsOf, putAll, PV.one, Nat.reduceAdd, Nat.reduceMul, Int.cast_ofNat_Int, Int.reduceEq, Int.reduceLT, Int.reduceLE, Nat.reduceLeDiff, List.reduceReplicate, reduceCtorEq, retQ, resL, finL, newL, flat, tupOf, List.toList_toArray, Tryd.f37, wd, uRules, hs]
      refine leT_one (.inr ⟨rfl, 1, ?_⟩) (by simp)
      rw [newI, ← hout, hs', bits_zero]; rfl
  · have hbd : (out.length + 1) * 8 ≤ 140737488355328 := by
      have := congrArg List.length hout
      rw [List.length_append] at this; omega
    have hne : (id = nx) = False := by simp; omega
    have hne' : (nx = id) = False := by simp; omega
    cases hs : decide (s = 0#16)
    · have hs' := of_decide_eq_false hs
      obtain ⟨k, hk, h1, h2⟩ := low_ex s hs'
      have hst := bits_step hk h1 h2
      try simp -dsimp (maxSteps := 2000000) (disch := first | omega | decide +kernel) only [↓vcl, ↓vcy, ↓vco, vck, gR, evl, evb, evBuiltin, evLen, evIdxA, evLoad, loadP, aggD, tis, i64, u32, bl, encL, encB, encLL, reduceIte, Nat.reduceEqDiff, forget, forget1, wantd, tzs, eve, evStore, evBox, evAlloc, evBuildSlice, evMakeSlice, evAppend, fillRows, zcells, elemsOf, putAll, PV.one, Nat.reduceAdd, Nat.reduceMul, Int.cast_ofNat_Int, Int.reduceEq, Int.reduceLT, Int.reduceLE, Nat.reduceLeDiff, List.reduceReplicate, reduceCtorEq, wd, uRules, uBits, uUn, hs]
      refine CallQ.imm (b_tz16 s k hk h1 h2) (by rfl) (by first | rfl | (simp -dsimp (maxSteps := 2000000) (disch := first | omega | decide +kernel) only [↓vcl, ↓vcy, ↓vco, vck, gR, evl, evb, evBuiltin, evLen, evIdxA, evLoad, loadP, aggD, tis, i64, u32, bl, encL, encB, encLL, reduceIte, Nat.reduceEqDiff, forget, forget1, wantd, tzs, eve, evStore, evBox, evAlloc, evBuildSlice, evMakeSlice, evAppend, fillRows, zcells, elemsOf, putAll, PV.one, Nat.reduceAdd, Nat.reduceMul, Int.cast_ofNat_Int, Int.reduceEq, Int.reduceLT, Int.reduceLE, Nat.reduceLeDiff, List.reduceReplicate, reduceCtorEq, drcs, drc, flat]; done) | simp -dsimp [evl, drcs, drc, flat, i64, u32, bl, encL, encB, encLL]) (by first | exact .inl rfl | exact .inr rfl | exact .inr scalB | exact .inr scalI | exact .inr scalT) ?_
      try simp -dsimp (maxSteps := 2000000) (disch := first | omega | decide +kernel) only [↓vcl, ↓vcy, ↓vco, vck, gR, evl, evb, evBuiltin, evLen, evIdxA, evLoad, loadP, aggD, tis, i64, u32, bl, encL, encB, encLL, reduceIte, Nat.reduceEqDiff, forget, forget1, wantd, tzs, eve, evStore, evBox, evAlloc, evBuildSlice, evMakeSlice, evAppend, fillRows, zcells, elemsOf, putAll, PV.one, Nat.reduceAdd, Nat.reduceMul, Int.cast_ofNat_Int, Int.reduceEq, Int.reduceLT, Int.reduceLE, Nat.reduceLeDiff, List.reduceReplicate, reduceCtorEq, wd, uRules, uBits, uUn, hs, hne, hne', hbd]
      refine ⟨_, _, ?_, weak_of ?_, s &&& (s - 1#16), out ++ [(k : Int)], nx + 1, by rw [← hout, hst]; simp, rfl, .inr ⟨id, ver + 1, by omega, rfl⟩⟩
      · rw [hst]; simp
      · first | (simp -dsimp (maxSteps := 2000000) (disch := first | omega | decide +kernel) only [↓vcl, ↓vcy, ↓vco, vck, gR, evl, evb, evBuiltin, evLen, evIdxA, evLoad, loadP, aggD, tis, i64, u32, bl, encL, encB, encLL, reduceIte, Nat.reduceEqDiff, forget, forget1, wantd, tzs, eve, evStore, evBox, evAlloc, evBuildSlice, evMakeSlice, evAppend, fillRows, zcells, elemsOf, putAll, PV.one, Nat.reduceAdd, Nat.reduceMul, Int.cast_ofNat_Int, Int.reduceEq, Int.reduceLT, Int.reduceLE, Nat.reduceLeDiff, List.reduceReplicate, reduceCtorEq, wd, hne, hne']; done) | simp -dsimp [evl, putN, i64, u32, bl, encL, encB, encLL, wd, hne, hne']
    · have hs' := of_decide_eq_true hs
      simp -dsimp (maxSteps := 2000000) (disch := first | omega | decide +kernel) only [↓vcl, ↓vcy, ↓vco, vck, gR, evl, evb, evBuiltin, evLen, evIdxA, evLoad, loadP, aggD, tis, i64, u32, bl, encL, encB, encLL, reduceIte, Nat.reduceEqDiff, forget, forget1, wantd, tzs, eve, evStore, evBox, evAlloc, evBuildSlice, evMakeSlice, evAppend, fillRows, zcells, elemsOf, putAll, PV.one, Nat.reduceAdd, Nat.reduceMul, Int.cast_ofNat_Int, Int.reduceEq, Int.reduceLT, Int.reduceLE, Nat.reduceLeDiff, List.reduceReplicate, reduceCtorEq, retQ, resL, finL, newL, flat, tupOf, List.toList_toArray, Tryd.f37, wd, uRules, hs]
      refine leT_one ?_ (by simp)
      rw [← hout, hs', bits_zero, List.append_nil]
      exact .rfl'
end Go.Ab
