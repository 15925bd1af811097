import Derived.Test.YtlfllbelabkaeaaDoorDT
set_option linter.unusedSimpArgs false
set_option linter.unusedVariables false
set_option maxRecDepth 100000
namespace Go.Ab
open Go Go.Proofs W16

theorem iShr {C : Ctx} {t : TypeId} {x y : Operand} {a b : Nat} (ha : a < 1024) (hb : b < 10) :
    evBin C .shr t x y (.lit (.int .i64 (a : Int))) (.lit (.int .i64 (b : Int))) = some (.lit (.int .i64 ((a >>> b : Nat) : Int))) := by
  have e : evBin C .shr t x y (.lit (.int .i64 (a : Int))) (.lit (.int .i64 (b : Int))) = some (.lit (.int .i64 ((a : Int).fdiv (2 ^ (min (b : Int).toNat 64))))) := by
    simp [evBin, conc, eqGuard, binOp, Op.shift, bind, Sem.bind, pure, purely, ofV_int, show ¬ (b : Int) < 0 from by omega]
    rfl
  rw [e]
  have key : (a : Int).fdiv (2 ^ min (b : Int).toNat 64) = ((a >>> b : Nat) : Int) := by
    rw [Nat.shiftRight_eq_div_pow, Int.fdiv_eq_ediv_of_nonneg _ (Int.le_of_lt (Int.pow_pos (by decide))), Int.toNat_natCast, Nat.min_eq_left (by omega), Int.natCast_ediv, Int.natCast_pow]; rfl
  rw [key]
theorem iAnd1 {C : Ctx} {t : TypeId} {x y : Operand} {a : Nat} (ha : a < 1024) :
    evBin C .and t x y (.lit (.int .i64 (a : Int))) (.lit (.int .i64 1)) = some (.lit (.int .i64 ((a % 2 : Nat) : Int))) := by
  have e : evBin C .and t x y (.lit (.int .i64 (a : Int))) (.lit (.int .i64 1)) = some (.lit (.int .i64 (IntKind.i64.wrap ((BitVec.ofInt 64 (a : Int) &&& BitVec.ofInt 64 1).toNat : Int)))) := rfl
  rw [e]
  have : (BitVec.ofInt 64 (a : Int) &&& BitVec.ofInt 64 1).toNat = a % 2 := by
    rw [BitVec.ofInt_natCast, BitVec.toNat_and, BitVec.toNat_ofNat, Nat.mod_eq_of_lt (by omega)]
    show a &&& 1 = a % 2
    exact Nat.and_one_is_mod a
  rw [this]
  have h2 : a % 2 < 2 := Nat.mod_lt _ (by omega)
  match a % 2, h2 with
  | 0, _ => rfl
  | 1, _ => rfl
def mk (n : Nat) : BitVec 16 := BitVec.ofNat 16 n
theorem mk_get {n c : Nat} (hc : c < 16) : (mk n).getLsbD c = n.testBit c := by
  unfold mk; rw [BitVec.getLsbD_ofNat]; simp [hc]
theorem bit_dec {n c : Nat} (hc : c < 16) : decide (((n >>> c % 2 : Nat) : Int) = 1) = (mk n).getLsbD c := by
  rw [mk_get hc, Nat.testBit_eq_decide_div_mod_eq, Nat.shiftRight_eq_div_pow, decide_eq_decide]
  omega
theorem mk_bits {n : Nat} (hn : n < 1024) : bitsL (mk n) = lst 0 ((List.range 10).map (mk n).getLsbD) := by
  apply bits_of (by simp)
  intro j
  rw [List.getElem?_map]
  by_cases hj : j < 10
  · rw [List.getElem?_range hj]; rfl
  · rw [List.getElem?_eq_none (by simp; omega)]
    by_cases h16 : j < 16
    · rw [mk_get h16, Nat.testBit_lt_two_pow (Nat.lt_of_lt_of_le hn (Nat.pow_le_pow_right (n := 2) (i := 10) (by omega) (by omega)))]; rfl
    · rw [BitVec.getLsbD_of_ge _ _ (by omega)]; rfl
theorem mk_10 {n : Nat} (hn : n < 1024) : ∀ j, (mk n).getLsbD j = true → j < 10 := by
  intro j hj
  have : (j : Int) ∈ bitsL (mk n) := bits_mem.2 ⟨j, rfl, get_lt hj, hj⟩
  rw [mk_bits hn, mem_lst] at this
  obtain ⟨i, h1, h2⟩ := this
  have := (List.getElem?_eq_some_iff.1 h1).1
  simp at this; omega
theorem mk_of {s : BitVec 16} (hs : ∀ j, s.getLsbD j = true → j < 10) : ∃ n, n < 1024 ∧ s = mk n := by
  refine ⟨s.toNat, ?_, by simp [mk]⟩
  refine Nat.lt_pow_two_of_testBit (n := 10) _ fun i hi => ?_
  rw [BitVec.testBit_toNat, Bool.eq_false_iff]
  intro h
  have := hs i h
  omega
/-- The best one of the masks below a number. -/
def Rb (l : List Nd) (B G : BitVec 16) (n : Nat) : Option (BitVec 16) → Prop
  | none => ∀ m, m < n → ¬ Cand l B G (mk m)
  | some b => Cand l B G b ∧ ∀ m, m < n → Cand l B G (mk m) → ¬ better (mk m) b
theorem Rb.take {l : List Nd} {B G : BitVec 16} {n : Nat} {o : Option (BitVec 16)} (h : Rb l B G n o) (hc : Cand l B G (mk n)) (hb : ∀ b, o = some b → better (mk n) b) : Rb l B G (n + 1) (some (mk n)) := by
  refine ⟨hc, fun m hm hcm hx => ?_⟩
  by_cases e : m = n
  · subst e; exact better_irrefl hx
  · cases o with
    | none => exact h m (by omega) hcm
    | some b => exact h.2 m (by omega) hcm (better_trans hx (hb b rfl))
theorem Rb.skip {l : List Nd} {B G : BitVec 16} {n : Nat} {o : Option (BitVec 16)} (h : Rb l B G n o) (hc : ¬ (Cand l B G (mk n) ∧ ∀ b, o = some b → better (mk n) b)) : Rb l B G (n + 1) o := by
  cases o with
  | none =>
    intro m hm hcm
    by_cases e : m = n
    · subst e; exact hc ⟨hcm, fun b h => by cases h⟩
    · exact h m (by omega) hcm
  | some b =>
    refine ⟨h.1, fun m hm hcm hx => ?_⟩
    by_cases e : m = n
    · subst e; exact hc ⟨hcm, fun b' h => by cases h; exact hx⟩
    · exact h.2 m (by omega) hcm hx
theorem rch_10 {l : List Nd} {B s : BitVec 16} (h : Rch l B s) : ∀ j, s.getLsbD j = true → j < 10 := fun j hj => (rch_sub h j hj).1
theorem Rb.done {l : List Nd} {B G : BitVec 16} {o : Option (BitVec 16)} (h : Rb l B G 1024 o) : (∀ b, o = some b → planL l B G = bitsL b ∧ planE l B G = 0) ∧ (o = none → planL l B G = [] ∧ planE l B G = 6) := by
  constructor
  · rintro b rfl
    refine plan_at ⟨h.1, fun s hs hx => ?_⟩
    obtain ⟨m, hm, rfl⟩ := mk_of (rch_10 hs.1)
    exact h.2 m hm hs hx
  · rintro rfl
    refine plan_not fun s hs => ?_
    obtain ⟨m, hm, rfl⟩ := mk_of (rch_10 hs.1)
    exact h m hm hs

def bO : Option (BitVec 16) → List Int
  | none => []
  | some b => bitsL b
theorem both_sub {hv wn s : List Int} {B S : BitVec 16} (hB : ∀ j : Nat, B.getLsbD j = true ↔ (j : Int) ∈ hv) (hS : ∀ j : Nat, S.getLsbD j = true ↔ (j : Int) ∈ s) (hw : ∀ c ∈ wn, 0 ≤ c ∧ c < 10) : S &&& (ofL wn &&& ~~~ B) = ofL wn &&& ~~~ B ↔ ∀ w ∈ wn, w ∈ hv ∨ w ∈ s := by
  have hw16 : ∀ c ∈ wn, 0 ≤ c ∧ c < 16 := fun c h => by have := hw c h; omega
  constructor
  · intro h w hm
    have := hw w hm
    obtain ⟨j, rfl⟩ : ∃ j : Nat, w = j := ⟨w.toNat, by omega⟩
    by_cases hb : (j : Int) ∈ hv
    · exact .inl hb
    · right
      rw [← hS]
      have g : (ofL wn &&& ~~~ B).getLsbD j = true := by
        rw [BitVec.getLsbD_and, BitVec.getLsbD_not, (ofL_get hw16).2 hm]
        have : B.getLsbD j = false := by rw [Bool.eq_false_iff]; intro e; exact hb ((hB j).1 e)
        rw [this]; simp; omega
      rw [← h, BitVec.getLsbD_and, Bool.and_eq_true] at g
      exact g.1
  · intro h
    refine bv_ext fun j hj => ?_
    rw [BitVec.getLsbD_and, Bool.and_eq_true]
    refine ⟨fun h => h.2, fun g => ⟨?_, g⟩⟩
    rw [BitVec.getLsbD_and, BitVec.getLsbD_not, Bool.and_eq_true] at g
    rw [hS]
    rcases h j ((ofL_get hw16).1 g.1) with e | e
    · rw [(hB j).2 e] at g; simp at g
    · exact e
def beat (s : List Int) : Option (BitVec 16) → Bool
  | none => true
  | some b => decide (s.length < (bitsL b).length) || (decide (s.length = (bitsL b).length) && lexlt s (bitsL b))

set_option maxHeartbeats 8000000 in
theorem r_Plan (l : List Nd) (hv wn : List Int) (h : fits l) (hh : hv.length ≤ 40) (hw : wn.length ≤ 9223372036854775807) : CallSpec cx 23 [encNs l, encL hv, encL wn] (.tup [newI (plV l hv wn), i64 (plE l hv wn)]) := by
  have cb := r_Both l hv wn h (by omega) hw
  refine callSpec_of_vc Tryd.func23 rfl (by decide) (by kernel_rfl) (Nat.le_of_ble_eq_true rfl) ?_
  try simp -dsimp (maxSteps := 2000000) (disch := first | omega | decide +kernel) only [↓vcl, ↓vcy, ↓vco, vck, gR, evl, evb, evBuiltin, evLen, evIdxA, evLoad, loadP, aggD, tis, i64, u32, bl, encL, encB, encLL, reduceIte, Nat.reduceEqDiff, forget, forget1, wantd, tzs, eve, evStore, evBox, evAlloc, evBuildSlice, evMakeSlice, evAppend, fillRows, zcells, elemsOf, putAll, PV.one, Nat.reduceAdd, Nat.reduceMul, Int.cast_ofNat_Int, Int.reduceEq, Int.reduceLT, Int.reduceLE, Nat.reduceLeDiff, List.reduceReplicate, reduceCtorEq, Tryd.f23, List.set_cons_succ, List.getElem?_cons_zero, List.getElem?_cons_succ, Nat.reduceLT, List.length_set]
  refine CallQ.imm (cb) (by rfl) (by first | rfl | (simp -dsimp (maxSteps := 2000000) (disch := first | omega | decide +kernel) only [↓vcl, ↓vcy, ↓vco, vck, gR, evl, evb, evBuiltin, evLen, evIdxA, evLoad, loadP, aggD, tis, i64, u32, bl, encL, encB, encLL, reduceIte, Nat.reduceEqDiff, forget, forget1, wantd, tzs, eve, evStore, evBox, evAlloc, evBuildSlice, evMakeSlice, evAppend, fillRows, zcells, elemsOf, putAll, PV.one, Nat.reduceAdd, Nat.reduceMul, Int.cast_ofNat_Int, Int.reduceEq, Int.reduceLT, Int.reduceLE, Nat.reduceLeDiff, List.reduceReplicate, reduceCtorEq, drcs, drc, flat]; done) | simp -dsimp [evl, drcs, drc, flat, i64, u32, bl, encL, encB, encLL]) (by first | exact .inl rfl | exact .inr rfl | exact .inr scalB | exact .inr scalI | exact .inr scalT) ?_
  cases hz : decide (both l [hv, wn] = 0)
  · have hz' := of_decide_eq_false hz
    simp -dsimp (maxSteps := 2000000) (disch := first | omega | decide +kernel) only [↓vcl, ↓vcy, ↓vco, vck, gR, evl, evb, evBuiltin, evLen, evIdxA, evLoad, loadP, aggD, tis, i64, u32, bl, encL, encB, encLL, reduceIte, Nat.reduceEqDiff, forget, forget1, wantd, tzs, eve, evStore, evBox, evAlloc, evBuildSlice, evMakeSlice, evAppend, fillRows, zcells, elemsOf, putAll, PV.one, Nat.reduceAdd, Nat.reduceMul, Int.cast_ofNat_Int, Int.reduceEq, Int.reduceLT, Int.reduceLE, Nat.reduceLeDiff, List.reduceReplicate, reduceCtorEq, retQ, resL, finL, newL, flat, tupOf, List.toList_toArray, Tryd.f23, hz]
    exact ⟨.inr ⟨rfl, 1, by rw [plV, if_neg hz']; rfl⟩, int_eq (by rw [plE, if_neg hz']), trivial⟩
  have hz' := of_decide_eq_true hz
  obtain ⟨hd, hc, hs1, hs2⟩ := both_two hz'
  have hc16 : ∀ c ∈ hv, 0 ≤ c ∧ c < 16 := fun c h => by have := hc c h; omega
  have hwc := set_cls hs2
  have hV : plV l hv wn = planL l (ofL hv) (plG hv wn) := by rw [plV, if_pos hz']
  have hE : plE l hv wn = planE l (ofL hv) (plG hv wn) := by rw [plE, if_pos hz']
  rw [hV, hE]
  try simp -dsimp (maxSteps := 2000000) (disch := first | omega | decide +kernel) only [↓vcl, ↓vcy, ↓vco, vck, gR, evl, evb, evBuiltin, evLen, evIdxA, evLoad, loadP, aggD, tis, i64, u32, bl, encL, encB, encLL, reduceIte, Nat.reduceEqDiff, forget, forget1, wantd, tzs, eve, evStore, evBox, evAlloc, evBuildSlice, evMakeSlice, evAppend, fillRows, zcells, elemsOf, putAll, PV.one, Nat.reduceAdd, Nat.reduceMul, Int.cast_ofNat_Int, Int.reduceEq, Int.reduceLT, Int.reduceLE, Nat.reduceLeDiff, List.reduceReplicate, reduceCtorEq, hz]
  refine LoopQ.ghost 9 1 (by rfl) ?_
  refine LoopQ.rule (fun m st => ∃ (n idb verb nx : Nat) (o : Option (BitVec 16)), n ≤ 1024 ∧ Rb l (ofL hv) (plG hv wn) n o ∧ idb < nx ∧ m = 1024 - n ∧
    st = ⟨mkE [(0, encNs l), (1, encL hv), (2, encL wn), (9, .own idb verb 0 (bO o).length false), (10, bl o.isSome), (11, i64 n)], mkS [(idb, .row verb 1 ((bO o).map fun c => [i64 c]) false)], nx⟩) _ _ (weak_of ?_)
    ⟨0, 0, 0, 1, none, by omega, fun m h => by omega, by omega, rfl, rfl⟩ ?_
  · first | (simp -dsimp (maxSteps := 2000000) (disch := first | omega | decide +kernel) only [↓vcl, ↓vcy, ↓vco, vck, gR, evl, evb, evBuiltin, evLen, evIdxA, evLoad, loadP, aggD, tis, i64, u32, bl, encL, encB, encLL, reduceIte, Nat.reduceEqDiff, forget, forget1, wantd, tzs, eve, evStore, evBox, evAlloc, evBuildSlice, evMakeSlice, evAppend, fillRows, zcells, elemsOf, putAll, PV.one, Nat.reduceAdd, Nat.reduceMul, Int.cast_ofNat_Int, Int.reduceEq, Int.reduceLT, Int.reduceLE, Nat.reduceLeDiff, List.reduceReplicate, reduceCtorEq, ghR, bO, List.map_nil, Option.isSome_none]; done) | simp -dsimp [evl, putN, i64, u32, bl, encL, encB, encLL, ghR, bO, List.map_nil, Option.isSome_none]
  rintro m st ⟨n, idb, verb, nx, o, hn, hR, hidb, rfl, rfl⟩
  try simp -dsimp (maxSteps := 2000000) (disch := first | omega | decide +kernel) only [↓vcl, ↓vcy, ↓vco, vck, gR, evl, evb, evBuiltin, evLen, evIdxA, evLoad, loadP, aggD, tis, i64, u32, bl, encL, encB, encLL, reduceIte, Nat.reduceEqDiff, forget, forget1, wantd, tzs, eve, evStore, evBox, evAlloc, evBuildSlice, evMakeSlice, evAppend, fillRows, zcells, elemsOf, putAll, PV.one, Nat.reduceAdd, Nat.reduceMul, Int.cast_ofNat_Int, Int.reduceEq, Int.reduceLT, Int.reduceLE, Nat.reduceLeDiff, List.reduceReplicate, reduceCtorEq]
  refine onC_dec (fun h2 => ?_) (fun h2 => ?_)
  · have hn2 : n < 1024 := by omega
    have hwn : IntKind.i64.wrap ((n : Int) + 1) = ((n + 1 : Nat) : Int) := wrapS hn2 (by omega)
    have hid : ((idb = nx) = False) ∧ ((nx = idb) = False) := by simp only [eq_iff_iff, iff_false]; omega
    try simp -dsimp (maxSteps := 2000000) (disch := first | omega | decide +kernel) only [↓vcl, ↓vcy, ↓vco, vck, gR, evl, evb, evBuiltin, evLen, evIdxA, evLoad, loadP, aggD, tis, i64, u32, bl, encL, encB, encLL, reduceIte, Nat.reduceEqDiff, forget, forget1, wantd, tzs, eve, evStore, evBox, evAlloc, evBuildSlice, evMakeSlice, evAppend, fillRows, zcells, elemsOf, putAll, PV.one, Nat.reduceAdd, Nat.reduceMul, Int.cast_ofNat_Int, Int.reduceEq, Int.reduceLT, Int.reduceLE, Nat.reduceLeDiff, List.reduceReplicate, reduceCtorEq]
    refine LoopQ.ghost 12 1 (by rfl) ?_
    refine LoopQ.rule (fun m st => ∃ (c v nx2 : Nat) (s : List Int), c ≤ 10 ∧ s = lst 0 ((List.range c).map (mk n).getLsbD) ∧ nx + 1 ≤ nx2 ∧ m = 10 - c ∧
      st = ⟨mkE [(0, encNs l), (1, encL hv), (2, encL wn), (9, .own idb verb 0 (bO o).length false), (10, bl o.isSome), (11, i64 n), (12, .own nx v 0 s.length false), (13, i64 c)],
        mkS [(idb, .row verb 1 ((bO o).map fun c => [i64 c]) false), (nx, .row v 1 (s.map fun c => [i64 c]) false)], nx2⟩) _ _ (weak_of ?_) ⟨0, 0, nx + 1, [], by omega, rfl, by omega, rfl, rfl⟩ ?_
    · first | (simp -dsimp (maxSteps := 2000000) (disch := first | omega | decide +kernel) only [↓vcl, ↓vcy, ↓vco, vck, gR, evl, evb, evBuiltin, evLen, evIdxA, evLoad, loadP, aggD, tis, i64, u32, bl, encL, encB, encLL, reduceIte, Nat.reduceEqDiff, forget, forget1, wantd, tzs, eve, evStore, evBox, evAlloc, evBuildSlice, evMakeSlice, evAppend, fillRows, zcells, elemsOf, putAll, PV.one, Nat.reduceAdd, Nat.reduceMul, Int.cast_ofNat_Int, Int.reduceEq, Int.reduceLT, Int.reduceLE, Nat.reduceLeDiff, List.reduceReplicate, reduceCtorEq, ghR, hid]; done) | simp -dsimp [evl, putN, i64, u32, bl, encL, encB, encLL, ghR, hid]
    · rintro m st ⟨c, v, nx2, s, hc10, hs, hnx2, rfl, rfl⟩
      try simp -dsimp (maxSteps := 2000000) (disch := first | omega | decide +kernel) only [↓vcl, ↓vcy, ↓vco, vck, gR, evl, evb, evBuiltin, evLen, evIdxA, evLoad, loadP, aggD, tis, i64, u32, bl, encL, encB, encLL, reduceIte, Nat.reduceEqDiff, forget, forget1, wantd, tzs, eve, evStore, evBox, evAlloc, evBuildSlice, evMakeSlice, evAppend, fillRows, zcells, elemsOf, putAll, PV.one, Nat.reduceAdd, Nat.reduceMul, Int.cast_ofNat_Int, Int.reduceEq, Int.reduceLT, Int.reduceLE, Nat.reduceLeDiff, List.reduceReplicate, reduceCtorEq]
      refine onC_dec (fun h3 => ?_) (fun h3 => ?_)
      · have h3 : c < 10 := by omega
        have hsl : s.length ≤ 10 := by
          rw [hs]; have := lst_len ((List.range c).map (mk n).getLsbD) 0; simp at this; omega
        have hstep := lst_snoc ((List.range c).map (mk n).getLsbD) 0 ((mk n).getLsbD c)
        rw [show ((List.range c).map (mk n).getLsbD) ++ [(mk n).getLsbD c] = (List.range (c + 1)).map (mk n).getLsbD from by rw [List.range_succ, List.map_append]; rfl, ← hs] at hstep
        simp only [List.length_map, List.length_range, Nat.zero_add] at hstep
        have hlt : n >>> c < 1024 := Nat.lt_of_le_of_lt (Nat.shiftRight_le n c) hn2
        have hw1 : IntKind.i64.wrap ((c : Int) + 1) = ((c + 1 : Nat) : Int) := wrapS h3 (by omega)
        cases hb : (mk n).getLsbD c
        · rw [hb] at hstep
          try simp -dsimp (maxSteps := 2000000) (disch := first | omega | decide +kernel) only [↓vcl, ↓vcy, ↓vco, vck, gR, evl, evb, evBuiltin, evLen, evIdxA, evLoad, loadP, aggD, tis, i64, u32, bl, encL, encB, encLL, reduceIte, Nat.reduceEqDiff, forget, forget1, wantd, tzs, eve, evStore, evBox, evAlloc, evBuildSlice, evMakeSlice, evAppend, fillRows, zcells, elemsOf, putAll, PV.one, Nat.reduceAdd, Nat.reduceMul, Int.cast_ofNat_Int, Int.reduceEq, Int.reduceLT, Int.reduceLE, Nat.reduceLeDiff, List.reduceReplicate, reduceCtorEq, iShr hn2 h3, iAnd1 hlt, bit_dec (show c < 16 by omega), hb]
          refine ⟨_, _, ?_, weak_of ?_, c + 1, v, nx2, s, by omega, by rw [hstep]; simp, hnx2, rfl, rfl⟩
          · omega
          · first | (simp -dsimp (maxSteps := 2000000) (disch := first | omega | decide +kernel) only [↓vcl, ↓vcy, ↓vco, vck, gR, evl, evb, evBuiltin, evLen, evIdxA, evLoad, loadP, aggD, tis, i64, u32, bl, encL, encB, encLL, reduceIte, Nat.reduceEqDiff, forget, forget1, wantd, tzs, eve, evStore, evBox, evAlloc, evBuildSlice, evMakeSlice, evAppend, fillRows, zcells, elemsOf, putAll, PV.one, Nat.reduceAdd, Nat.reduceMul, Int.cast_ofNat_Int, Int.reduceEq, Int.reduceLT, Int.reduceLE, Nat.reduceLeDiff, List.reduceReplicate, reduceCtorEq, hid, hw1]; done) | simp -dsimp [evl, putN, i64, u32, bl, encL, encB, encLL, hid, hw1]
        · rw [hb] at hstep
          have hns : ((nx2 = nx) = False) ∧ ((nx = nx2) = False) ∧ ((nx2 = idb) = False) ∧ ((idb = nx2) = False) := by simp only [eq_iff_iff, iff_false]; omega
          have hbd : (s.length + 1) * 8 ≤ 140737488355328 := by omega
          try simp -dsimp (maxSteps := 2000000) (disch := first | omega | decide +kernel) only [↓vcl, ↓vcy, ↓vco, vck, gR, evl, evb, evBuiltin, evLen, evIdxA, evLoad, loadP, aggD, tis, i64, u32, bl, encL, encB, encLL, reduceIte, Nat.reduceEqDiff, forget, forget1, wantd, tzs, eve, evStore, evBox, evAlloc, evBuildSlice, evMakeSlice, evAppend, fillRows, zcells, elemsOf, putAll, PV.one, Nat.reduceAdd, Nat.reduceMul, Int.cast_ofNat_Int, Int.reduceEq, Int.reduceLT, Int.reduceLE, Nat.reduceLeDiff, List.reduceReplicate, reduceCtorEq, iShr hn2 h3, iAnd1 hlt, bit_dec (show c < 16 by omega), hb, hid, hns, hbd]
          refine ⟨_, _, ?_, weak_of ?_, c + 1, v + 1, nx2 + 1, s ++ [(c : Int)], by omega, by rw [hstep]; simp, by omega, rfl, rfl⟩
          · omega
          · first | (simp -dsimp (maxSteps := 2000000) (disch := first | omega | decide +kernel) only [↓vcl, ↓vcy, ↓vco, vck, gR, evl, evb, evBuiltin, evLen, evIdxA, evLoad, loadP, aggD, tis, i64, u32, bl, encL, encB, encLL, reduceIte, Nat.reduceEqDiff, forget, forget1, wantd, tzs, eve, evStore, evBox, evAlloc, evBuildSlice, evMakeSlice, evAppend, fillRows, zcells, elemsOf, putAll, PV.one, Nat.reduceAdd, Nat.reduceMul, Int.cast_ofNat_Int, Int.reduceEq, Int.reduceLT, Int.reduceLE, Nat.reduceLeDiff, List.reduceReplicate, reduceCtorEq, hid, hns, hw1]; done) | simp -dsimp [evl, putN, i64, u32, bl, encL, encB, encLL, hid, hns, hw1]
      · have : c = 10 := by omega
        subst this
        rw [← mk_bits hn2] at hs
        subst hs
        have hbl := bits_len (mk n)
        have hbo : (bO o).length ≤ 16 := by
          cases o with
          | none => simp [bO]
          | some b => exact bits_len b
        have hSm : ∀ j : Nat, (mk n).getLsbD j = true ↔ (j : Int) ∈ bitsL (mk n) := fun j => by
          rw [bits_mem]
          exact ⟨fun h => ⟨j, rfl, get_lt h, h⟩, fun ⟨k, e, _, h⟩ => by have : j = k := by omega
                                                                        subst this; exact h⟩
        obtain ⟨g0, hg0⟩ : ∃ g0 : Bool, g0 = beat (bitsL (mk n)) o := ⟨_, rfl⟩
        have hg0' : g0 = true ↔ ∀ b, o = some b → better (mk n) b := by
          rw [hg0]
          cases o with
          | none => simp [beat]
          | some b => simp [better, pc, beat]
        have hpc : pc (mk n) = (bitsL (mk n)).length := rfl
        have hro := r_ordered l hv (mk n) h hd hh hc (mk_10 hn2)
        have hBm : ∀ j : Nat, (ofL hv).getLsbD j = true ↔ (j : Int) ∈ hv := fun j => ofL_get hc16
        have hCn : ∀ (x : Int), x ∈ bitsL (mk n) → ∃ k : Nat, x = k ∧ k < 10 := fun x hx => by
          obtain ⟨j, rfl, _, hj⟩ := bits_mem.1 hx
          exact ⟨j, rfl, mk_10 hn2 j hj⟩
        have hDis : (∀ x ∈ bitsL (mk n), x ∉ hv) ↔ ∀ j, (mk n).getLsbD j = true → (ofL hv).getLsbD j = false := by
          constructor
          · intro hx j hj
            rw [Bool.eq_false_iff]; intro hb
            exact hx j ((hSm j).1 hj) ((hBm j).1 hb)
          · intro hx x hm hv'
            obtain ⟨k, rfl, _⟩ := hCn x hm
            have := hx k ((hSm k).2 hm)
            rw [(hBm k).2 hv'] at this; cases this
        have hCand : Cand l (ofL hv) (plG hv wn) (mk n) → (∀ x ∈ bitsL (mk n), x ∉ hv) ∧ ∀ w ∈ wn, w ∈ hv ∨ w ∈ bitsL (mk n) := fun hC => ⟨hDis.2 fun j hj => (rch_sub hC.1 j hj).2, (both_sub hBm hSm hwc).1 hC.2⟩
        have hCand2 : (∀ x ∈ bitsL (mk n), x ∉ hv) → (∀ w ∈ wn, w ∈ hv ∨ w ∈ bitsL (mk n)) → ((gr l (mk n) (ofL hv)).length = (bitsL (mk n)).length ↔ Cand l (ofL hv) (plG hv wn) (mk n)) := fun h1 h2 => by
          rw [← hpc, gr_full fun j hj => ⟨mk_10 hn2 j hj, hDis.1 h1 j hj⟩]
          exact ⟨fun h => ⟨h, (both_sub hBm hSm hwc).2 h2⟩, fun h => h.1⟩
        clear hpc hBm hDis hSm
        generalize hS : bitsL (mk n) = s at *
        apply share
        case h =>
          intro hbody
          rcases (show o = none ∨ ∃ b, o = some b by cases o <;> simp) with ho | ⟨b, ho⟩
          · rw [ho, beat] at hg0
            try simp -dsimp (maxSteps := 2000000) (disch := first | omega | decide +kernel) only [↓vcl, ↓vcy, ↓vco, vck, gR, evl, evb, evBuiltin, evLen, evIdxA, evLoad, loadP, aggD, tis, i64, u32, bl, encL, encB, encLL, reduceIte, Nat.reduceEqDiff, forget, forget1, wantd, tzs, eve, evStore, evBox, evAlloc, evBuildSlice, evMakeSlice, evAppend, fillRows, zcells, elemsOf, putAll, PV.one, Nat.reduceAdd, Nat.reduceMul, Int.cast_ofNat_Int, Int.reduceEq, Int.reduceLT, Int.reduceLE, Nat.reduceLeDiff, List.reduceReplicate, reduceCtorEq, ho, Option.isSome_none, uUn]
            refine LoopQ.rule (fun m st => ∃ (i : Nat) (g : Bool), i ≤ s.length ∧ (g = true ↔ g0 = true ∧ ∀ j, j < i → ∀ x, s[j]? = some x → x ∉ hv) ∧ m = s.length - i ∧
              st = ⟨mkE [(0, encNs l), (1, encL hv), (2, encL wn), (9, .own idb verb 0 (bO o).length false), (10, bl o.isSome), (11, i64 n), (12, .own nx v 0 s.length false), (14, bl g), (15, i64 i)],
                mkS [(idb, .row verb 1 ((bO o).map fun c => [i64 c]) false), (nx, .row v 1 (s.map fun c => [i64 c]) false)], nx2⟩) _ _ (weak_of ?_) ⟨0, g0, by omega, by simp, rfl, rfl⟩ hbody
            first | (simp -dsimp (maxSteps := 2000000) (disch := first | omega | decide +kernel) only [↓vcl, ↓vcy, ↓vco, vck, gR, evl, evb, evBuiltin, evLen, evIdxA, evLoad, loadP, aggD, tis, i64, u32, bl, encL, encB, encLL, reduceIte, Nat.reduceEqDiff, forget, forget1, wantd, tzs, eve, evStore, evBox, evAlloc, evBuildSlice, evMakeSlice, evAppend, fillRows, zcells, elemsOf, putAll, PV.one, Nat.reduceAdd, Nat.reduceMul, Int.cast_ofNat_Int, Int.reduceEq, Int.reduceLT, Int.reduceLE, Nat.reduceLeDiff, List.reduceReplicate, reduceCtorEq, ho, hid, hg0, Option.isSome_none]; done) | simp -dsimp [evl, putN, i64, u32, bl, encL, encB, encLL, ho, hid, hg0, Option.isSome_none]
          · rw [ho, beat] at hg0
            have hbb := bits_len b
            have cbf := r_before s (bitsL b) (by omega)
            cases hA : decide (s.length < (bitsL b).length)
            · have hA2 : decide ((s.length : Int) < ((bitsL b).length : Int)) = false := by rw [← hA, decide_eq_decide]; omega
              cases hQ : decide (s.length = (bitsL b).length)
              · have hQ2 : decide ((s.length : Int) = ((bitsL b).length : Int)) = false := by rw [← hQ, decide_eq_decide]; omega
                rw [hA, hQ] at hg0
                try simp -dsimp (maxSteps := 2000000) (disch := first | omega | decide +kernel) only [↓vcl, ↓vcy, ↓vco, vck, gR, evl, evb, evBuiltin, evLen, evIdxA, evLoad, loadP, aggD, tis, i64, u32, bl, encL, encB, encLL, reduceIte, Nat.reduceEqDiff, forget, forget1, wantd, tzs, eve, evStore, evBox, evAlloc, evBuildSlice, evMakeSlice, evAppend, fillRows, zcells, elemsOf, putAll, PV.one, Nat.reduceAdd, Nat.reduceMul, Int.cast_ofNat_Int, Int.reduceEq, Int.reduceLT, Int.reduceLE, Nat.reduceLeDiff, List.reduceReplicate, reduceCtorEq, ho, Option.isSome_some, uUn, bO, hA2, hQ2]
                refine LoopQ.rule (fun m st => ∃ (i : Nat) (g : Bool), i ≤ s.length ∧ (g = true ↔ g0 = true ∧ ∀ j, j < i → ∀ x, s[j]? = some x → x ∉ hv) ∧ m = s.length - i ∧
              st = ⟨mkE [(0, encNs l), (1, encL hv), (2, encL wn), (9, .own idb verb 0 (bO o).length false), (10, bl o.isSome), (11, i64 n), (12, .own nx v 0 s.length false), (14, bl g), (15, i64 i)],
                mkS [(idb, .row verb 1 ((bO o).map fun c => [i64 c]) false), (nx, .row v 1 (s.map fun c => [i64 c]) false)], nx2⟩) _ _ (weak_of ?_) ⟨0, g0, by omega, by simp, rfl, rfl⟩ hbody
                first | (simp -dsimp (maxSteps := 2000000) (disch := first | omega | decide +kernel) only [↓vcl, ↓vcy, ↓vco, vck, gR, evl, evb, evBuiltin, evLen, evIdxA, evLoad, loadP, aggD, tis, i64, u32, bl, encL, encB, encLL, reduceIte, Nat.reduceEqDiff, forget, forget1, wantd, tzs, eve, evStore, evBox, evAlloc, evBuildSlice, evMakeSlice, evAppend, fillRows, zcells, elemsOf, putAll, PV.one, Nat.reduceAdd, Nat.reduceMul, Int.cast_ofNat_Int, Int.reduceEq, Int.reduceLT, Int.reduceLE, Nat.reduceLeDiff, List.reduceReplicate, reduceCtorEq, ho, hid, hg0, Option.isSome_some, bO]; done) | simp -dsimp [evl, putN, i64, u32, bl, encL, encB, encLL, ho, hid, hg0, Option.isSome_some, bO]
              · have hQ2 : decide ((s.length : Int) = ((bitsL b).length : Int)) = true := by rw [← hQ, decide_eq_decide]; omega
                rw [hA, hQ] at hg0
                try simp -dsimp (maxSteps := 2000000) (disch := first | omega | decide +kernel) only [↓vcl, ↓vcy, ↓vco, vck, gR, evl, evb, evBuiltin, evLen, evIdxA, evLoad, loadP, aggD, tis, i64, u32, bl, encL, encB, encLL, reduceIte, Nat.reduceEqDiff, forget, forget1, wantd, tzs, eve, evStore, evBox, evAlloc, evBuildSlice, evMakeSlice, evAppend, fillRows, zcells, elemsOf, putAll, PV.one, Nat.reduceAdd, Nat.reduceMul, Int.cast_ofNat_Int, Int.reduceEq, Int.reduceLT, Int.reduceLE, Nat.reduceLeDiff, List.reduceReplicate, reduceCtorEq, ho, Option.isSome_some, uUn, bO, hA2, hQ2]
                refine CallQ.imm (cbf) (by rfl) (by first | rfl | (simp -dsimp (maxSteps := 2000000) (disch := first | omega | decide +kernel) only [↓vcl, ↓vcy, ↓vco, vck, gR, evl, evb, evBuiltin, evLen, evIdxA, evLoad, loadP, aggD, tis, i64, u32, bl, encL, encB, encLL, reduceIte, Nat.reduceEqDiff, forget, forget1, wantd, tzs, eve, evStore, evBox, evAlloc, evBuildSlice, evMakeSlice, evAppend, fillRows, zcells, elemsOf, putAll, PV.one, Nat.reduceAdd, Nat.reduceMul, Int.cast_ofNat_Int, Int.reduceEq, Int.reduceLT, Int.reduceLE, Nat.reduceLeDiff, List.reduceReplicate, reduceCtorEq, drcs, drc, flat, hid, ho, bO]; done) | simp -dsimp [evl, drcs, drc, flat, i64, u32, bl, encL, encB, encLL]) (by first | exact .inl rfl | exact .inr rfl | exact .inr scalB | exact .inr scalI | exact .inr scalT) ?_
                try simp -dsimp (maxSteps := 2000000) (disch := first | omega | decide +kernel) only [↓vcl, ↓vcy, ↓vco, vck, gR, evl, evb, evBuiltin, evLen, evIdxA, evLoad, loadP, aggD, tis, i64, u32, bl, encL, encB, encLL, reduceIte, Nat.reduceEqDiff, forget, forget1, wantd, tzs, eve, evStore, evBox, evAlloc, evBuildSlice, evMakeSlice, evAppend, fillRows, zcells, elemsOf, putAll, PV.one, Nat.reduceAdd, Nat.reduceMul, Int.cast_ofNat_Int, Int.reduceEq, Int.reduceLT, Int.reduceLE, Nat.reduceLeDiff, List.reduceReplicate, reduceCtorEq]
                refine LoopQ.rule (fun m st => ∃ (i : Nat) (g : Bool), i ≤ s.length ∧ (g = true ↔ g0 = true ∧ ∀ j, j < i → ∀ x, s[j]? = some x → x ∉ hv) ∧ m = s.length - i ∧
              st = ⟨mkE [(0, encNs l), (1, encL hv), (2, encL wn), (9, .own idb verb 0 (bO o).length false), (10, bl o.isSome), (11, i64 n), (12, .own nx v 0 s.length false), (14, bl g), (15, i64 i)],
                mkS [(idb, .row verb 1 ((bO o).map fun c => [i64 c]) false), (nx, .row v 1 (s.map fun c => [i64 c]) false)], nx2⟩) _ _ (weak_of ?_) ⟨0, g0, by omega, by simp, rfl, rfl⟩ hbody
                first | (simp -dsimp (maxSteps := 2000000) (disch := first | omega | decide +kernel) only [↓vcl, ↓vcy, ↓vco, vck, gR, evl, evb, evBuiltin, evLen, evIdxA, evLoad, loadP, aggD, tis, i64, u32, bl, encL, encB, encLL, reduceIte, Nat.reduceEqDiff, forget, forget1, wantd, tzs, eve, evStore, evBox, evAlloc, evBuildSlice, evMakeSlice, evAppend, fillRows, zcells, elemsOf, putAll, PV.one, Nat.reduceAdd, Nat.reduceMul, Int.cast_ofNat_Int, Int.reduceEq, Int.reduceLT, Int.reduceLE, Nat.reduceLeDiff, List.reduceReplicate, reduceCtorEq, ho, hid, hg0, Option.isSome_some, bO, Bool.false_or, Bool.true_and]; done) | simp -dsimp [evl, putN, i64, u32, bl, encL, encB, encLL, ho, hid, hg0, Option.isSome_some, bO, Bool.false_or, Bool.true_and]
            · have hA2 : decide ((s.length : Int) < ((bitsL b).length : Int)) = true := by rw [← hA, decide_eq_decide]; omega
              rw [hA] at hg0
              try simp -dsimp (maxSteps := 2000000) (disch := first | omega | decide +kernel) only [↓vcl, ↓vcy, ↓vco, vck, gR, evl, evb, evBuiltin, evLen, evIdxA, evLoad, loadP, aggD, tis, i64, u32, bl, encL, encB, encLL, reduceIte, Nat.reduceEqDiff, forget, forget1, wantd, tzs, eve, evStore, evBox, evAlloc, evBuildSlice, evMakeSlice, evAppend, fillRows, zcells, elemsOf, putAll, PV.one, Nat.reduceAdd, Nat.reduceMul, Int.cast_ofNat_Int, Int.reduceEq, Int.reduceLT, Int.reduceLE, Nat.reduceLeDiff, List.reduceReplicate, reduceCtorEq, ho, Option.isSome_some, uUn, bO, hA2]
              refine LoopQ.rule (fun m st => ∃ (i : Nat) (g : Bool), i ≤ s.length ∧ (g = true ↔ g0 = true ∧ ∀ j, j < i → ∀ x, s[j]? = some x → x ∉ hv) ∧ m = s.length - i ∧
              st = ⟨mkE [(0, encNs l), (1, encL hv), (2, encL wn), (9, .own idb verb 0 (bO o).length false), (10, bl o.isSome), (11, i64 n), (12, .own nx v 0 s.length false), (14, bl g), (15, i64 i)],
                mkS [(idb, .row verb 1 ((bO o).map fun c => [i64 c]) false), (nx, .row v 1 (s.map fun c => [i64 c]) false)], nx2⟩) _ _ (weak_of ?_) ⟨0, g0, by omega, by simp, rfl, rfl⟩ hbody
              first | (simp -dsimp (maxSteps := 2000000) (disch := first | omega | decide +kernel) only [↓vcl, ↓vcy, ↓vco, vck, gR, evl, evb, evBuiltin, evLen, evIdxA, evLoad, loadP, aggD, tis, i64, u32, bl, encL, encB, encLL, reduceIte, Nat.reduceEqDiff, forget, forget1, wantd, tzs, eve, evStore, evBox, evAlloc, evBuildSlice, evMakeSlice, evAppend, fillRows, zcells, elemsOf, putAll, PV.one, Nat.reduceAdd, Nat.reduceMul, Int.cast_ofNat_Int, Int.reduceEq, Int.reduceLT, Int.reduceLE, Nat.reduceLeDiff, List.reduceReplicate, reduceCtorEq, ho, hid, hg0, Option.isSome_some, bO, Bool.true_or]; done) | simp -dsimp [evl, putN, i64, u32, bl, encL, encB, encLL, ho, hid, hg0, Option.isSome_some, bO, Bool.true_or]
        rintro m st ⟨i, g, hi, hg, rfl, rfl⟩
        by_cases hgo : i < s.length ∧ g = true
        · obtain ⟨h3, hgt⟩ := hgo
          obtain ⟨x, hx, hxm⟩ := get_of_lt h3
          obtain ⟨k, rfl, hk⟩ := hCn x hxm
          have hA : decide ((i : Int) < (s.length : Int)) = true := by rw [decide_eq_true_iff]; omega
          try simp -dsimp (maxSteps := 2000000) (disch := first | omega | decide +kernel) only [↓vcl, ↓vcy, ↓vco, vck, gR, evl, evb, evBuiltin, evLen, evIdxA, evLoad, loadP, aggD, tis, i64, u32, bl, encL, encB, encLL, reduceIte, Nat.reduceEqDiff, forget, forget1, wantd, tzs, eve, evStore, evBox, evAlloc, evBuildSlice, evMakeSlice, evAppend, fillRows, zcells, elemsOf, putAll, PV.one, Nat.reduceAdd, Nat.reduceMul, Int.cast_ofNat_Int, Int.reduceEq, Int.reduceLT, Int.reduceLE, Nat.reduceLeDiff, List.reduceReplicate, reduceCtorEq, hA, hgt, h3, hx, hid]
          refine CallQ.imm (r_Has hv k (by omega)) (by rfl) (by first | rfl | (simp -dsimp (maxSteps := 2000000) (disch := first | omega | decide +kernel) only [↓vcl, ↓vcy, ↓vco, vck, gR, evl, evb, evBuiltin, evLen, evIdxA, evLoad, loadP, aggD, tis, i64, u32, bl, encL, encB, encLL, reduceIte, Nat.reduceEqDiff, forget, forget1, wantd, tzs, eve, evStore, evBox, evAlloc, evBuildSlice, evMakeSlice, evAppend, fillRows, zcells, elemsOf, putAll, PV.one, Nat.reduceAdd, Nat.reduceMul, Int.cast_ofNat_Int, Int.reduceEq, Int.reduceLT, Int.reduceLE, Nat.reduceLeDiff, List.reduceReplicate, reduceCtorEq, drcs, drc, flat]; done) | simp -dsimp [evl, drcs, drc, flat, i64, u32, bl, encL, encB, encLL]) (by first | exact .inl rfl | exact .inr rfl | exact .inr scalB | exact .inr scalI | exact .inr scalT) ?_
          try simp -dsimp (maxSteps := 2000000) (disch := first | omega | decide +kernel) only [↓vcl, ↓vcy, ↓vco, vck, gR, evl, evb, evBuiltin, evLen, evIdxA, evLoad, loadP, aggD, tis, i64, u32, bl, encL, encB, encLL, reduceIte, Nat.reduceEqDiff, forget, forget1, wantd, tzs, eve, evStore, evBox, evAlloc, evBuildSlice, evMakeSlice, evAppend, fillRows, zcells, elemsOf, putAll, PV.one, Nat.reduceAdd, Nat.reduceMul, Int.cast_ofNat_Int, Int.reduceEq, Int.reduceLT, Int.reduceLE, Nat.reduceLeDiff, List.reduceReplicate, reduceCtorEq, uUn]
          refine ⟨_, _, ?_, weak_of ?_, i + 1, !decide ((k : Int) ∈ hv), h3, ?_, rfl, rfl⟩
          · omega
          · first | (simp -dsimp (maxSteps := 2000000) (disch := first | omega | decide +kernel) only [↓vcl, ↓vcy, ↓vco, vck, gR, evl, evb, evBuiltin, evLen, evIdxA, evLoad, loadP, aggD, tis, i64, u32, bl, encL, encB, encLL, reduceIte, Nat.reduceEqDiff, forget, forget1, wantd, tzs, eve, evStore, evBox, evAlloc, evBuildSlice, evMakeSlice, evAppend, fillRows, zcells, elemsOf, putAll, PV.one, Nat.reduceAdd, Nat.reduceMul, Int.cast_ofNat_Int, Int.reduceEq, Int.reduceLT, Int.reduceLE, Nat.reduceLeDiff, List.reduceReplicate, reduceCtorEq, hid, wrapS h3 (show s.length ≤ 9223372036854775807 by omega)]; done) | simp -dsimp [evl, putN, i64, u32, bl, encL, encB, encLL, hid, wrapS h3 (show s.length ≤ 9223372036854775807 by omega)]
          · rw [Bool.not_eq_true', decide_eq_false_iff_not]
            obtain ⟨g1, g2⟩ := hg.1 hgt
            constructor
            · intro hn
              refine ⟨g1, fun j hj y hy => ?_⟩
              by_cases e : j = i
              · subst e; rw [hx] at hy; cases hy; exact hn
              · exact g2 j (by omega) y hy
            · intro hn; exact hn.2 i (by omega) _ hx
        have hx : g = true ↔ g0 = true ∧ ∀ x ∈ s, x ∉ hv := by
          by_cases hgt : g = true
          · have hi2 : ¬ i < s.length := fun e => hgo ⟨e, hgt⟩
            rw [hg]
            refine and_congr_right fun _ => ⟨fun h x hm => ?_, fun h j _ x hx => h x (List.mem_of_getElem? hx)⟩
            obtain ⟨j, hj⟩ := List.getElem?_of_mem hm
            exact h j (by have := (List.getElem?_eq_some_iff.1 hj).1; omega) x hj
          · refine ⟨fun h => absurd h hgt, fun h => absurd (hg.2 ⟨h.1, fun j _ x hx => h.2 x (List.mem_of_getElem? hx)⟩) hgt⟩
        have hAt : i < s.length → decide ((i : Int) < (s.length : Int)) = true := fun h => by rw [decide_eq_true_iff]; omega
        have hAf : ¬ i < s.length → decide ((i : Int) < (s.length : Int)) = false := fun h => by rw [decide_eq_false_iff_not]; omega
        apply share
        case h =>
          intro hbody
          by_cases h3 : i < s.length
          · have hgf : g = false := by rw [← Bool.not_eq_true]; exact fun e => hgo ⟨h3, e⟩
            try simp -dsimp (maxSteps := 2000000) (disch := first | omega | decide +kernel) only [↓vcl, ↓vcy, ↓vco, vck, gR, evl, evb, evBuiltin, evLen, evIdxA, evLoad, loadP, aggD, tis, i64, u32, bl, encL, encB, encLL, reduceIte, Nat.reduceEqDiff, forget, forget1, wantd, tzs, eve, evStore, evBox, evAlloc, evBuildSlice, evMakeSlice, evAppend, fillRows, zcells, elemsOf, putAll, PV.one, Nat.reduceAdd, Nat.reduceMul, Int.cast_ofNat_Int, Int.reduceEq, Int.reduceLT, Int.reduceLE, Nat.reduceLeDiff, List.reduceReplicate, reduceCtorEq, hAt h3, hgf]
            refine LoopQ.rule (fun m st => ∃ (i : Nat) (g2 : Bool), i ≤ wn.length ∧ (g2 = true ↔ g = true ∧ ∀ j, j < i → ∀ x, wn[j]? = some x → x ∈ hv ∨ x ∈ s) ∧ m = wn.length - i ∧
              st = ⟨mkE [(0, encNs l), (1, encL hv), (2, encL wn), (9, .own idb verb 0 (bO o).length false), (10, bl o.isSome), (11, i64 n), (12, .own nx v 0 s.length false), (14, bl g2), (16, i64 i)],
                mkS [(idb, .row verb 1 ((bO o).map fun c => [i64 c]) false), (nx, .row v 1 (s.map fun c => [i64 c]) false)], nx2⟩) _ _ (weak_of ?_) ⟨0, g, by omega, by simp, rfl, rfl⟩ hbody
            first | (simp -dsimp (maxSteps := 2000000) (disch := first | omega | decide +kernel) only [↓vcl, ↓vcy, ↓vco, vck, gR, evl, evb, evBuiltin, evLen, evIdxA, evLoad, loadP, aggD, tis, i64, u32, bl, encL, encB, encLL, reduceIte, Nat.reduceEqDiff, forget, forget1, wantd, tzs, eve, evStore, evBox, evAlloc, evBuildSlice, evMakeSlice, evAppend, fillRows, zcells, elemsOf, putAll, PV.one, Nat.reduceAdd, Nat.reduceMul, Int.cast_ofNat_Int, Int.reduceEq, Int.reduceLT, Int.reduceLE, Nat.reduceLeDiff, List.reduceReplicate, reduceCtorEq, hid, hgf]; done) | simp -dsimp [evl, putN, i64, u32, bl, encL, encB, encLL, hid, hgf]
          · try simp -dsimp (maxSteps := 2000000) (disch := first | omega | decide +kernel) only [↓vcl, ↓vcy, ↓vco, vck, gR, evl, evb, evBuiltin, evLen, evIdxA, evLoad, loadP, aggD, tis, i64, u32, bl, encL, encB, encLL, reduceIte, Nat.reduceEqDiff, forget, forget1, wantd, tzs, eve, evStore, evBox, evAlloc, evBuildSlice, evMakeSlice, evAppend, fillRows, zcells, elemsOf, putAll, PV.one, Nat.reduceAdd, Nat.reduceMul, Int.cast_ofNat_Int, Int.reduceEq, Int.reduceLT, Int.reduceLE, Nat.reduceLeDiff, List.reduceReplicate, reduceCtorEq, hAf h3]
            refine LoopQ.rule (fun m st => ∃ (i : Nat) (g2 : Bool), i ≤ wn.length ∧ (g2 = true ↔ g = true ∧ ∀ j, j < i → ∀ x, wn[j]? = some x → x ∈ hv ∨ x ∈ s) ∧ m = wn.length - i ∧
              st = ⟨mkE [(0, encNs l), (1, encL hv), (2, encL wn), (9, .own idb verb 0 (bO o).length false), (10, bl o.isSome), (11, i64 n), (12, .own nx v 0 s.length false), (14, bl g2), (16, i64 i)],
                mkS [(idb, .row verb 1 ((bO o).map fun c => [i64 c]) false), (nx, .row v 1 (s.map fun c => [i64 c]) false)], nx2⟩) _ _ (weak_of ?_) ⟨0, g, by omega, by simp, rfl, rfl⟩ hbody
            first | (simp -dsimp (maxSteps := 2000000) (disch := first | omega | decide +kernel) only [↓vcl, ↓vcy, ↓vco, vck, gR, evl, evb, evBuiltin, evLen, evIdxA, evLoad, loadP, aggD, tis, i64, u32, bl, encL, encB, encLL, reduceIte, Nat.reduceEqDiff, forget, forget1, wantd, tzs, eve, evStore, evBox, evAlloc, evBuildSlice, evMakeSlice, evAppend, fillRows, zcells, elemsOf, putAll, PV.one, Nat.reduceAdd, Nat.reduceMul, Int.cast_ofNat_Int, Int.reduceEq, Int.reduceLT, Int.reduceLE, Nat.reduceLeDiff, List.reduceReplicate, reduceCtorEq, hid]; done) | simp -dsimp [evl, putN, i64, u32, bl, encL, encB, encLL, hid]
        rintro m st ⟨i, g2, hi, hg2, rfl, rfl⟩
        have hfin : (∀ w ∈ wn, w ∈ hv ∨ w ∈ s) → (g2 = true ↔ g = true) := fun hall => by
          rw [hg2]; exact ⟨fun h => h.1, fun h => ⟨h, fun j _ x hx => hall x (List.mem_of_getElem? hx)⟩⟩
        have hskip : g2 = false → Rb l (ofL hv) (plG hv wn) (n + 1) o := fun hf => hR.skip fun ⟨hC, hbt⟩ => by
          obtain ⟨c1, c2⟩ := hCand hC
          rw [(hfin c2).2 (hx.2 ⟨hg0'.2 hbt, c1⟩)] at hf; cases hf
        by_cases h3 : i < wn.length
        · have hA : decide ((i : Int) < (wn.length : Int)) = true := by rw [decide_eq_true_iff]; omega
          rcases Bool.eq_false_or_eq_true g2 with hgt | hgf
          · obtain ⟨x, hx', hxm⟩ := get_of_lt h3
            have hxk := hwc x hxm
            obtain ⟨k, rfl⟩ : ∃ k : Nat, x = k := ⟨x.toNat, by omega⟩
            try simp -dsimp (maxSteps := 2000000) (disch := first | omega | decide +kernel) only [↓vcl, ↓vcy, ↓vco, vck, gR, evl, evb, evBuiltin, evLen, evIdxA, evLoad, loadP, aggD, tis, i64, u32, bl, encL, encB, encLL, reduceIte, Nat.reduceEqDiff, forget, forget1, wantd, tzs, eve, evStore, evBox, evAlloc, evBuildSlice, evMakeSlice, evAppend, fillRows, zcells, elemsOf, putAll, PV.one, Nat.reduceAdd, Nat.reduceMul, Int.cast_ofNat_Int, Int.reduceEq, Int.reduceLT, Int.reduceLE, Nat.reduceLeDiff, List.reduceReplicate, reduceCtorEq, hA, hgt, h3, hx', hid]
            refine CallQ.imm (r_Has hv k (by omega)) (by rfl) (by first | rfl | (simp -dsimp (maxSteps := 2000000) (disch := first | omega | decide +kernel) only [↓vcl, ↓vcy, ↓vco, vck, gR, evl, evb, evBuiltin, evLen, evIdxA, evLoad, loadP, aggD, tis, i64, u32, bl, encL, encB, encLL, reduceIte, Nat.reduceEqDiff, forget, forget1, wantd, tzs, eve, evStore, evBox, evAlloc, evBuildSlice, evMakeSlice, evAppend, fillRows, zcells, elemsOf, putAll, PV.one, Nat.reduceAdd, Nat.reduceMul, Int.cast_ofNat_Int, Int.reduceEq, Int.reduceLT, Int.reduceLE, Nat.reduceLeDiff, List.reduceReplicate, reduceCtorEq, drcs, drc, flat]; done) | simp -dsimp [evl, drcs, drc, flat, i64, u32, bl, encL, encB, encLL]) (by first | exact .inl rfl | exact .inr rfl | exact .inr scalB | exact .inr scalI | exact .inr scalT) ?_
            have hnew : ∀ gg : Bool, (gg = true ↔ ((k : Int) ∈ hv ∨ (k : Int) ∈ s)) → (gg = true ↔ g = true ∧ ∀ j, j < i + 1 → ∀ x, wn[j]? = some x → x ∈ hv ∨ x ∈ s) := fun gg hgg => by
              obtain ⟨g1, g3⟩ := hg2.1 hgt
              rw [hgg]
              constructor
              · intro hn
                refine ⟨g1, fun j hj y hy => ?_⟩
                by_cases e : j = i
                · subst e; rw [hx'] at hy; cases hy; exact hn
                · exact g3 j (by omega) y hy
              · intro hn; exact hn.2 i (by omega) _ hx'
            cases hM : decide ((k : Int) ∈ hv)
            · try simp -dsimp (maxSteps := 2000000) (disch := first | omega | decide +kernel) only [↓vcl, ↓vcy, ↓vco, vck, gR, evl, evb, evBuiltin, evLen, evIdxA, evLoad, loadP, aggD, tis, i64, u32, bl, encL, encB, encLL, reduceIte, Nat.reduceEqDiff, forget, forget1, wantd, tzs, eve, evStore, evBox, evAlloc, evBuildSlice, evMakeSlice, evAppend, fillRows, zcells, elemsOf, putAll, PV.one, Nat.reduceAdd, Nat.reduceMul, Int.cast_ofNat_Int, Int.reduceEq, Int.reduceLT, Int.reduceLE, Nat.reduceLeDiff, List.reduceReplicate, reduceCtorEq, hx']
              refine CallQ.imm (r_Has s k (by omega)) (by rfl) (by first | rfl | (simp -dsimp (maxSteps := 2000000) (disch := first | omega | decide +kernel) only [↓vcl, ↓vcy, ↓vco, vck, gR, evl, evb, evBuiltin, evLen, evIdxA, evLoad, loadP, aggD, tis, i64, u32, bl, encL, encB, encLL, reduceIte, Nat.reduceEqDiff, forget, forget1, wantd, tzs, eve, evStore, evBox, evAlloc, evBuildSlice, evMakeSlice, evAppend, fillRows, zcells, elemsOf, putAll, PV.one, Nat.reduceAdd, Nat.reduceMul, Int.cast_ofNat_Int, Int.reduceEq, Int.reduceLT, Int.reduceLE, Nat.reduceLeDiff, List.reduceReplicate, reduceCtorEq, drcs, drc, flat, hid]; done) | simp -dsimp [evl, drcs, drc, flat, i64, u32, bl, encL, encB, encLL]) (by first | exact .inl rfl | exact .inr rfl | exact .inr scalB | exact .inr scalI | exact .inr scalT) ?_
              try simp -dsimp (maxSteps := 2000000) (disch := first | omega | decide +kernel) only [↓vcl, ↓vcy, ↓vco, vck, gR, evl, evb, evBuiltin, evLen, evIdxA, evLoad, loadP, aggD, tis, i64, u32, bl, encL, encB, encLL, reduceIte, Nat.reduceEqDiff, forget, forget1, wantd, tzs, eve, evStore, evBox, evAlloc, evBuildSlice, evMakeSlice, evAppend, fillRows, zcells, elemsOf, putAll, PV.one, Nat.reduceAdd, Nat.reduceMul, Int.cast_ofNat_Int, Int.reduceEq, Int.reduceLT, Int.reduceLE, Nat.reduceLeDiff, List.reduceReplicate, reduceCtorEq]
              refine ⟨_, _, ?_, weak_of ?_, i + 1, decide ((k : Int) ∈ s), h3, hnew _ ?_, rfl, rfl⟩
              · omega
              · first | (simp -dsimp (maxSteps := 2000000) (disch := first | omega | decide +kernel) only [↓vcl, ↓vcy, ↓vco, vck, gR, evl, evb, evBuiltin, evLen, evIdxA, evLoad, loadP, aggD, tis, i64, u32, bl, encL, encB, encLL, reduceIte, Nat.reduceEqDiff, forget, forget1, wantd, tzs, eve, evStore, evBox, evAlloc, evBuildSlice, evMakeSlice, evAppend, fillRows, zcells, elemsOf, putAll, PV.one, Nat.reduceAdd, Nat.reduceMul, Int.cast_ofNat_Int, Int.reduceEq, Int.reduceLT, Int.reduceLE, Nat.reduceLeDiff, List.reduceReplicate, reduceCtorEq, hid, wrapS h3 (show wn.length ≤ 9223372036854775807 by omega)]; done) | simp -dsimp [evl, putN, i64, u32, bl, encL, encB, encLL, hid, wrapS h3 (show wn.length ≤ 9223372036854775807 by omega)]
              · have := of_decide_eq_false hM
                rw [decide_eq_true_iff]; simp [this]
            · try simp -dsimp (maxSteps := 2000000) (disch := first | omega | decide +kernel) only [↓vcl, ↓vcy, ↓vco, vck, gR, evl, evb, evBuiltin, evLen, evIdxA, evLoad, loadP, aggD, tis, i64, u32, bl, encL, encB, encLL, reduceIte, Nat.reduceEqDiff, forget, forget1, wantd, tzs, eve, evStore, evBox, evAlloc, evBuildSlice, evMakeSlice, evAppend, fillRows, zcells, elemsOf, putAll, PV.one, Nat.reduceAdd, Nat.reduceMul, Int.cast_ofNat_Int, Int.reduceEq, Int.reduceLT, Int.reduceLE, Nat.reduceLeDiff, List.reduceReplicate, reduceCtorEq]
              refine ⟨_, _, ?_, weak_of ?_, i + 1, true, h3, hnew _ ?_, rfl, rfl⟩
              · omega
              · first | (simp -dsimp (maxSteps := 2000000) (disch := first | omega | decide +kernel) only [↓vcl, ↓vcy, ↓vco, vck, gR, evl, evb, evBuiltin, evLen, evIdxA, evLoad, loadP, aggD, tis, i64, u32, bl, encL, encB, encLL, reduceIte, Nat.reduceEqDiff, forget, forget1, wantd, tzs, eve, evStore, evBox, evAlloc, evBuildSlice, evMakeSlice, evAppend, fillRows, zcells, elemsOf, putAll, PV.one, Nat.reduceAdd, Nat.reduceMul, Int.cast_ofNat_Int, Int.reduceEq, Int.reduceLT, Int.reduceLE, Nat.reduceLeDiff, List.reduceReplicate, reduceCtorEq, hid, wrapS h3 (show wn.length ≤ 9223372036854775807 by omega)]; done) | simp -dsimp [evl, putN, i64, u32, bl, encL, encB, encLL, hid, wrapS h3 (show wn.length ≤ 9223372036854775807 by omega)]
              · have := of_decide_eq_true hM
                simp [this]
          · try simp -dsimp (maxSteps := 2000000) (disch := first | omega | decide +kernel) only [↓vcl, ↓vcy, ↓vco, vck, gR, evl, evb, evBuiltin, evLen, evIdxA, evLoad, loadP, aggD, tis, i64, u32, bl, encL, encB, encLL, reduceIte, Nat.reduceEqDiff, forget, forget1, wantd, tzs, eve, evStore, evBox, evAlloc, evBuildSlice, evMakeSlice, evAppend, fillRows, zcells, elemsOf, putAll, PV.one, Nat.reduceAdd, Nat.reduceMul, Int.cast_ofNat_Int, Int.reduceEq, Int.reduceLT, Int.reduceLE, Nat.reduceLeDiff, List.reduceReplicate, reduceCtorEq, hA, hgf]
            refine ⟨_, _, ?_, weak_of ?_, n + 1, idb, verb, nx2, o, by omega, hskip hgf, by omega, rfl, rfl⟩
            · omega
            · first | (simp -dsimp (maxSteps := 2000000) (disch := first | omega | decide +kernel) only [↓vcl, ↓vcy, ↓vco, vck, gR, evl, evb, evBuiltin, evLen, evIdxA, evLoad, loadP, aggD, tis, i64, u32, bl, encL, encB, encLL, reduceIte, Nat.reduceEqDiff, forget, forget1, wantd, tzs, eve, evStore, evBox, evAlloc, evBuildSlice, evMakeSlice, evAppend, fillRows, zcells, elemsOf, putAll, PV.one, Nat.reduceAdd, Nat.reduceMul, Int.cast_ofNat_Int, Int.reduceEq, Int.reduceLT, Int.reduceLE, Nat.reduceLeDiff, List.reduceReplicate, reduceCtorEq, hid, hwn]; done) | simp -dsimp [evl, putN, i64, u32, bl, encL, encB, encLL, hid, hwn]
        · have hA : decide ((i : Int) < (wn.length : Int)) = false := by rw [decide_eq_false_iff_not]; omega
          rcases Bool.eq_false_or_eq_true g2 with hgt | hgf
          · have hall : ∀ w ∈ wn, w ∈ hv ∨ w ∈ s := fun w hm => by
              obtain ⟨j, hj⟩ := List.getElem?_of_mem hm
              exact (hg2.1 hgt).2 j (by have := (List.getElem?_eq_some_iff.1 hj).1; omega) w hj
            obtain ⟨e1, e2⟩ := hx.1 (hg2.1 hgt).1
            have hC2 := hCand2 e2 hall
            try simp -dsimp (maxSteps := 2000000) (disch := first | omega | decide +kernel) only [↓vcl, ↓vcy, ↓vco, vck, gR, evl, evb, evBuiltin, evLen, evIdxA, evLoad, loadP, aggD, tis, i64, u32, bl, encL, encB, encLL, reduceIte, Nat.reduceEqDiff, forget, forget1, wantd, tzs, eve, evStore, evBox, evAlloc, evBuildSlice, evMakeSlice, evAppend, fillRows, zcells, elemsOf, putAll, PV.one, Nat.reduceAdd, Nat.reduceMul, Int.cast_ofNat_Int, Int.reduceEq, Int.reduceLT, Int.reduceLE, Nat.reduceLeDiff, List.reduceReplicate, reduceCtorEq, hA, hgt]
            refine CallQ.imm (hro) (by rfl) (by first | rfl | (simp -dsimp (maxSteps := 2000000) (disch := first | omega | decide +kernel) only [↓vcl, ↓vcy, ↓vco, vck, gR, evl, evb, evBuiltin, evLen, evIdxA, evLoad, loadP, aggD, tis, i64, u32, bl, encL, encB, encLL, reduceIte, Nat.reduceEqDiff, forget, forget1, wantd, tzs, eve, evStore, evBox, evAlloc, evBuildSlice, evMakeSlice, evAppend, fillRows, zcells, elemsOf, putAll, PV.one, Nat.reduceAdd, Nat.reduceMul, Int.cast_ofNat_Int, Int.reduceEq, Int.reduceLT, Int.reduceLE, Nat.reduceLeDiff, List.reduceReplicate, reduceCtorEq, drcs, drc, flat, hid, encNs, encN, takeI]; done) | simp -dsimp [evl, drcs, drc, flat, i64, u32, bl, encL, encB, encLL]) (by first | exact .inl rfl | exact .inr rfl | exact .inr scalB | exact .inr scalI | exact .inr scalT) ?_
            try simp -dsimp (maxSteps := 2000000) (disch := first | omega | decide +kernel) only [↓vcl, ↓vcy, ↓vco, vck, gR, evl, evb, evBuiltin, evLen, evIdxA, evLoad, loadP, aggD, tis, i64, u32, bl, encL, encB, encLL, reduceIte, Nat.reduceEqDiff, forget, forget1, wantd, tzs, eve, evStore, evBox, evAlloc, evBuildSlice, evMakeSlice, evAppend, fillRows, zcells, elemsOf, putAll, PV.one, Nat.reduceAdd, Nat.reduceMul, Int.cast_ofNat_Int, Int.reduceEq, Int.reduceLT, Int.reduceLE, Nat.reduceLeDiff, List.reduceReplicate, reduceCtorEq, newI]
            cases hL : decide (((gr l (mk n) (ofL hv)).length : Int) = (s.length : Int))
            · have hL' := of_decide_eq_false hL
              try simp -dsimp (maxSteps := 2000000) (disch := first | omega | decide +kernel) only [↓vcl, ↓vcy, ↓vco, vck, gR, evl, evb, evBuiltin, evLen, evIdxA, evLoad, loadP, aggD, tis, i64, u32, bl, encL, encB, encLL, reduceIte, Nat.reduceEqDiff, forget, forget1, wantd, tzs, eve, evStore, evBox, evAlloc, evBuildSlice, evMakeSlice, evAppend, fillRows, zcells, elemsOf, putAll, PV.one, Nat.reduceAdd, Nat.reduceMul, Int.cast_ofNat_Int, Int.reduceEq, Int.reduceLT, Int.reduceLE, Nat.reduceLeDiff, List.reduceReplicate, reduceCtorEq, hL]
              refine ⟨_, _, ?_, weak_of ?_, n + 1, idb, verb, nx2, o, by omega, hR.skip fun hC => hL' (by rw [hC2.2 hC.1]), by omega, rfl, rfl⟩
              · omega
              · first | (simp -dsimp (maxSteps := 2000000) (disch := first | omega | decide +kernel) only [↓vcl, ↓vcy, ↓vco, vck, gR, evl, evb, evBuiltin, evLen, evIdxA, evLoad, loadP, aggD, tis, i64, u32, bl, encL, encB, encLL, reduceIte, Nat.reduceEqDiff, forget, forget1, wantd, tzs, eve, evStore, evBox, evAlloc, evBuildSlice, evMakeSlice, evAppend, fillRows, zcells, elemsOf, putAll, PV.one, Nat.reduceAdd, Nat.reduceMul, Int.cast_ofNat_Int, Int.reduceEq, Int.reduceLT, Int.reduceLE, Nat.reduceLeDiff, List.reduceReplicate, reduceCtorEq, hid, hwn]; done) | simp -dsimp [evl, putN, i64, u32, bl, encL, encB, encLL, hid, hwn]
            · have hL' := of_decide_eq_true hL
              try simp -dsimp (maxSteps := 2000000) (disch := first | omega | decide +kernel) only [↓vcl, ↓vcy, ↓vco, vck, gR, evl, evb, evBuiltin, evLen, evIdxA, evLoad, loadP, aggD, tis, i64, u32, bl, encL, encB, encLL, reduceIte, Nat.reduceEqDiff, forget, forget1, wantd, tzs, eve, evStore, evBox, evAlloc, evBuildSlice, evMakeSlice, evAppend, fillRows, zcells, elemsOf, putAll, PV.one, Nat.reduceAdd, Nat.reduceMul, Int.cast_ofNat_Int, Int.reduceEq, Int.reduceLT, Int.reduceLE, Nat.reduceLeDiff, List.reduceReplicate, reduceCtorEq, hL]
              refine ⟨_, _, ?_, weak_of ?_, n + 1, nx, v, nx2, some (mk n), by omega, hR.take (hC2.1 (by omega)) (hg0'.1 e1), by omega, rfl, rfl⟩
              · omega
              · first | (simp -dsimp (maxSteps := 2000000) (disch := first | omega | decide +kernel) only [↓vcl, ↓vcy, ↓vco, vck, gR, evl, evb, evBuiltin, evLen, evIdxA, evLoad, loadP, aggD, tis, i64, u32, bl, encL, encB, encLL, reduceIte, Nat.reduceEqDiff, forget, forget1, wantd, tzs, eve, evStore, evBox, evAlloc, evBuildSlice, evMakeSlice, evAppend, fillRows, zcells, elemsOf, putAll, PV.one, Nat.reduceAdd, Nat.reduceMul, Int.cast_ofNat_Int, Int.reduceEq, Int.reduceLT, Int.reduceLE, Nat.reduceLeDiff, List.reduceReplicate, reduceCtorEq, hid, hwn, bO, hS, Option.isSome_some]; done) | simp -dsimp [evl, putN, i64, u32, bl, encL, encB, encLL, hid, hwn, bO, hS, Option.isSome_some]
          · try simp -dsimp (maxSteps := 2000000) (disch := first | omega | decide +kernel) only [↓vcl, ↓vcy, ↓vco, vck, gR, evl, evb, evBuiltin, evLen, evIdxA, evLoad, loadP, aggD, tis, i64, u32, bl, encL, encB, encLL, reduceIte, Nat.reduceEqDiff, forget, forget1, wantd, tzs, eve, evStore, evBox, evAlloc, evBuildSlice, evMakeSlice, evAppend, fillRows, zcells, elemsOf, putAll, PV.one, Nat.reduceAdd, Nat.reduceMul, Int.cast_ofNat_Int, Int.reduceEq, Int.reduceLT, Int.reduceLE, Nat.reduceLeDiff, List.reduceReplicate, reduceCtorEq, hA, hgf]
            refine ⟨_, _, ?_, weak_of ?_, n + 1, idb, verb, nx2, o, by omega, hskip hgf, by omega, rfl, rfl⟩
            · omega
            · first | (simp -dsimp (maxSteps := 2000000) (disch := first | omega | decide +kernel) only [↓vcl, ↓vcy, ↓vco, vck, gR, evl, evb, evBuiltin, evLen, evIdxA, evLoad, loadP, aggD, tis, i64, u32, bl, encL, encB, encLL, reduceIte, Nat.reduceEqDiff, forget, forget1, wantd, tzs, eve, evStore, evBox, evAlloc, evBuildSlice, evMakeSlice, evAppend, fillRows, zcells, elemsOf, putAll, PV.one, Nat.reduceAdd, Nat.reduceMul, Int.cast_ofNat_Int, Int.reduceEq, Int.reduceLT, Int.reduceLE, Nat.reduceLeDiff, List.reduceReplicate, reduceCtorEq, hid, hwn]; done) | simp -dsimp [evl, putN, i64, u32, bl, encL, encB, encLL, hid, hwn]
  · have : n = 1024 := by omega
    subst this
    have hD := hR.done
    cases o with
    | none =>
      have := hD.2 rfl
      simp -dsimp (maxSteps := 2000000) (disch := first | omega | decide +kernel) only [↓vcl, ↓vcy, ↓vco, vck, gR, evl, evb, evBuiltin, evLen, evIdxA, evLoad, loadP, aggD, tis, i64, u32, bl, encL, encB, encLL, reduceIte, Nat.reduceEqDiff, forget, forget1, wantd, tzs, eve, evStore, evBox, evAlloc, evBuildSlice, evMakeSlice, evAppend, fillRows, zcells, elemsOf, putAll, PV.one, Nat.reduceAdd, Nat.reduceMul, Int.cast_ofNat_Int, Int.reduceEq, Int.reduceLT, Int.reduceLE, Nat.reduceLeDiff, List.reduceReplicate, reduceCtorEq, retQ, resL, finL, newL, flat, tupOf, List.toList_toArray, Tryd.f23, Option.isSome_none, uUn]
      exact ⟨.inr ⟨rfl, 1, by rw [this.1]; rfl⟩, int_eq (by rw [this.2]), trivial⟩
    | some b =>
      have := hD.1 b rfl
      simp -dsimp (maxSteps := 2000000) (disch := first | omega | decide +kernel) only [↓vcl, ↓vcy, ↓vco, vck, gR, evl, evb, evBuiltin, evLen, evIdxA, evLoad, loadP, aggD, tis, i64, u32, bl, encL, encB, encLL, reduceIte, Nat.reduceEqDiff, forget, forget1, wantd, tzs, eve, evStore, evBox, evAlloc, evBuildSlice, evMakeSlice, evAppend, fillRows, zcells, elemsOf, putAll, PV.one, Nat.reduceAdd, Nat.reduceMul, Int.cast_ofNat_Int, Int.reduceEq, Int.reduceLT, Int.reduceLE, Nat.reduceLeDiff, List.reduceReplicate, reduceCtorEq, retQ, resL, finL, newL, flat, tupOf, List.toList_toArray, Tryd.f23, Option.isSome_some, uUn, bO, newI]
      exact ⟨by rw [this.1]; exact .rfl', int_eq (by rw [this.2]), trivial⟩
end Go.Ab
