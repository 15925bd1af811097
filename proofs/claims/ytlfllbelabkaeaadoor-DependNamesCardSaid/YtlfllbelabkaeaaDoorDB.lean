import Derived.Test.YtlfllbelabkaeaaDoorDA
import Derived.Test.YtlfllbelabkaeaaDoorProg
set_option linter.unusedSimpArgs false
set_option linter.unusedVariables false
set_option maxRecDepth 100000
namespace Go.Ab
open Go Go.Proofs
/-- The table of a standard package, as its first cells read. -/
def tab : List Int := [0, 1, 28, 2, 29, 14, 24, 3, 30, 22, 20, 15, 25, 17, 4, 8, 31, 27, 13, 23, 21, 19, 16, 7, 26, 12, 18, 6, 11, 5, 10, 9]
noncomputable def cx : Ctx := ⟨Tryd.prog, fun g => if g = 0 then some (tab.map fun n => .lit (.int .u8 n)) else none, by kernel_rfl⟩
noncomputable def needF : Array Field := match ti cx.P 51 with
  | some ⟨.struct fs, _, _⟩ => fs
  | _ => #[]
theorem tis : (ti cx.P 22 = some ⟨.slice 51, 1, 24⟩) ∧ (ti cx.P 23 = some ⟨.slice 3, 1, 24⟩) ∧ (ti cx.P 49 = some ⟨.slice 23, 1, 24⟩) ∧ (ti cx.P 3 = some ⟨.int .i64, 1, 8⟩) ∧ (ti cx.P 4 = some ⟨.bool, 1, 1⟩) ∧ (ti cx.P 25 = some ⟨.int .i64, 1, 8⟩) ∧
    (ti cx.P 60 = some ⟨.int .u16, 1, 2⟩) ∧ (ti cx.P 72 = some ⟨.slice 60, 1, 24⟩) ∧ (ti cx.P 51 = some ⟨.struct needF, 2, 32⟩) ∧ (notIntT cx.P 23 = true) :=
  ⟨by kernel_rfl, by kernel_rfl, by kernel_rfl, by kernel_rfl, by kernel_rfl, by kernel_rfl, by kernel_rfl, by kernel_rfl, by kernel_rfl, by kernel_rfl⟩
theorem fldN : (∀ cs, evFldA cx 51 (.cptr cs) 0 = some (.cptr (cs.drop 0))) ∧ (∀ cs, evFldA cx 51 (.cptr cs) 1 = some (.cptr (cs.drop 1))) ∧
    (∀ i v j o, evFldA cx 51 (.ptr i v j o) 0 = some (.ptr i v j (o + 0))) ∧ (∀ i v j o, evFldA cx 51 (.ptr i v j o) 1 = some (.ptr i v j (o + 1))) :=
  ⟨fun _ => by kernel_rfl, fun _ => by kernel_rfl, fun _ _ _ _ => by kernel_rfl, fun _ _ _ _ => by kernel_rfl⟩
theorem tzs : (tz cx.P 3 = some (.lit (.int .i64 0))) ∧ (tz cx.P 4 = some (.lit (.bool false))) ∧ (tz cx.P 60 = some (.lit (.int .u16 0))) ∧ (tz cx.P 23 = some (.lit (.slice none 0 0))) := ⟨by kernel_rfl, by kernel_rfl, by kernel_rfl, by kernel_rfl⟩
theorem tzN : (tz cx.P 51 = some (.agg [i64 0, .lit (.slice none 0 0)])) := by kernel_rfl
/-- Needs as a tree. -/
def encN (n : Nd) : List PV := [i64 n.1, encLL n.2]
def encNs (l : List Nd) : PV := .imm (l.map encN) false

open W16
theorem d_isClass (c : Int) : CallSpec cx 31 [i64 c] (bl (cls c)) := by
  refine callSpec_of_vc Tryd.func31 rfl (by decide) (by kernel_rfl) (Nat.le_of_ble_eq_true rfl) ?_
  cases hA : decide (0 ≤ c)
  · simp -dsimp (maxSteps := 2000000) (disch := first | omega | decide +kernel) only [↓vcl, ↓vcy, ↓vco, vck, gR, evl, evb, evBuiltin, evLen, evIdxA, evLoad, loadP, aggD, tis, i64, u32, bl, encL, encB, encLL, reduceIte, Nat.reduceEqDiff, forget, forget1, wantd, tzs, eve, evStore, evBox, evAlloc, evBuildSlice, evMakeSlice, evAppend, fillRows, zcells, elemsOf, putAll, PV.one, Nat.reduceAdd, Nat.reduceMul, Int.cast_ofNat_Int, Int.reduceEq, Int.reduceLT, Int.reduceLE, Nat.reduceLeDiff, List.reduceReplicate, reduceCtorEq, retQ, resL, finL, newL, flat, tupOf, List.toList_toArray, Tryd.f31, hA]
    exact leT_one (bl_eq (by simp [cls, hA])) (by simp)
  · simp -dsimp (maxSteps := 2000000) (disch := first | omega | decide +kernel) only [↓vcl, ↓vcy, ↓vco, vck, gR, evl, evb, evBuiltin, evLen, evIdxA, evLoad, loadP, aggD, tis, i64, u32, bl, encL, encB, encLL, reduceIte, Nat.reduceEqDiff, forget, forget1, wantd, tzs, eve, evStore, evBox, evAlloc, evBuildSlice, evMakeSlice, evAppend, fillRows, zcells, elemsOf, putAll, PV.one, Nat.reduceAdd, Nat.reduceMul, Int.cast_ofNat_Int, Int.reduceEq, Int.reduceLT, Int.reduceLE, Nat.reduceLeDiff, List.reduceReplicate, reduceCtorEq, retQ, resL, finL, newL, flat, tupOf, List.toList_toArray, Tryd.f31, hA]
    exact leT_one (bl_eq (by simp [cls, hA])) (by simp)
theorem r_Class (c : Int) : CallSpec cx 26 [i64 c] (bl (cls c)) := by
  refine callSpec_of_vc Tryd.func26 rfl (by decide) (by kernel_rfl) (Nat.le_of_ble_eq_true rfl) ?_
  cases hA : decide (0 ≤ c)
  · simp -dsimp (maxSteps := 2000000) (disch := first | omega | decide +kernel) only [↓vcl, ↓vcy, ↓vco, vck, gR, evl, evb, evBuiltin, evLen, evIdxA, evLoad, loadP, aggD, tis, i64, u32, bl, encL, encB, encLL, reduceIte, Nat.reduceEqDiff, forget, forget1, wantd, tzs, eve, evStore, evBox, evAlloc, evBuildSlice, evMakeSlice, evAppend, fillRows, zcells, elemsOf, putAll, PV.one, Nat.reduceAdd, Nat.reduceMul, Int.cast_ofNat_Int, Int.reduceEq, Int.reduceLT, Int.reduceLE, Nat.reduceLeDiff, List.reduceReplicate, reduceCtorEq, retQ, resL, finL, newL, flat, tupOf, List.toList_toArray, Tryd.f26, hA]
    exact leT_one (bl_eq (by simp [cls, hA])) (by simp)
  · simp -dsimp (maxSteps := 2000000) (disch := first | omega | decide +kernel) only [↓vcl, ↓vcy, ↓vco, vck, gR, evl, evb, evBuiltin, evLen, evIdxA, evLoad, loadP, aggD, tis, i64, u32, bl, encL, encB, encLL, reduceIte, Nat.reduceEqDiff, forget, forget1, wantd, tzs, eve, evStore, evBox, evAlloc, evBuildSlice, evMakeSlice, evAppend, fillRows, zcells, elemsOf, putAll, PV.one, Nat.reduceAdd, Nat.reduceMul, Int.cast_ofNat_Int, Int.reduceEq, Int.reduceLT, Int.reduceLE, Nat.reduceLeDiff, List.reduceReplicate, reduceCtorEq, retQ, resL, finL, newL, flat, tupOf, List.toList_toArray, Tryd.f26, hA]
    exact leT_one (bl_eq (by simp [cls, hA])) (by simp)
theorem d_Check111 (c : Int) : CallSpec cx 48 [i64 c] (bl (!cls c)) := by
  refine callSpec_of_vc Tryd.func48 rfl (by decide) (by kernel_rfl) (Nat.le_of_ble_eq_true rfl) ?_
  try simp -dsimp (maxSteps := 2000000) (disch := first | omega | decide +kernel) only [↓vcl, ↓vcy, ↓vco, vck, gR, evl, evb, evBuiltin, evLen, evIdxA, evLoad, loadP, aggD, tis, i64, u32, bl, encL, encB, encLL, reduceIte, Nat.reduceEqDiff, forget, forget1, wantd, tzs, eve, evStore, evBox, evAlloc, evBuildSlice, evMakeSlice, evAppend, fillRows, zcells, elemsOf, putAll, PV.one, Nat.reduceAdd, Nat.reduceMul, Int.cast_ofNat_Int, Int.reduceEq, Int.reduceLT, Int.reduceLE, Nat.reduceLeDiff, List.reduceReplicate, reduceCtorEq, Tryd.f48]
  refine CallQ.imm (d_isClass c) (by rfl) (by first | rfl | (simp -dsimp (maxSteps := 2000000) (disch := first | omega | decide +kernel) only [↓vcl, ↓vcy, ↓vco, vck, gR, evl, evb, evBuiltin, evLen, evIdxA, evLoad, loadP, aggD, tis, i64, u32, bl, encL, encB, encLL, reduceIte, Nat.reduceEqDiff, forget, forget1, wantd, tzs, eve, evStore, evBox, evAlloc, evBuildSlice, evMakeSlice, evAppend, fillRows, zcells, elemsOf, putAll, PV.one, Nat.reduceAdd, Nat.reduceMul, Int.cast_ofNat_Int, Int.reduceEq, Int.reduceLT, Int.reduceLE, Nat.reduceLeDiff, List.reduceReplicate, reduceCtorEq, drcs, drc, flat]; done) | simp -dsimp [evl, drcs, drc, flat, i64, u32, bl, encL, encB, encLL]) (by first | exact .inl rfl | exact .inr rfl | exact .inr scalB | exact .inr scalI | exact .inr scalT) ?_
  simp -dsimp (maxSteps := 2000000) (disch := first | omega | decide +kernel) only [↓vcl, ↓vcy, ↓vco, vck, gR, evl, evb, evBuiltin, evLen, evIdxA, evLoad, loadP, aggD, tis, i64, u32, bl, encL, encB, encLL, reduceIte, Nat.reduceEqDiff, forget, forget1, wantd, tzs, eve, evStore, evBox, evAlloc, evBuildSlice, evMakeSlice, evAppend, fillRows, zcells, elemsOf, putAll, PV.one, Nat.reduceAdd, Nat.reduceMul, Int.cast_ofNat_Int, Int.reduceEq, Int.reduceLT, Int.reduceLE, Nat.reduceLeDiff, List.reduceReplicate, reduceCtorEq, retQ, resL, finL, newL, flat, tupOf, List.toList_toArray, uUn, Option.bind_some]
  exact leT_one (bl_eq rfl) (by simp)
theorem d_Check11 (g : List Int) : CallSpec cx 43 [encL g] (bl (decide (4 < g.length))) := by
  refine callSpec_of_vc Tryd.func43 rfl (by decide) (by kernel_rfl) (Nat.le_of_ble_eq_true rfl) ?_
  simp -dsimp (maxSteps := 2000000) (disch := first | omega | decide +kernel) only [↓vcl, ↓vcy, ↓vco, vck, gR, evl, evb, evBuiltin, evLen, evIdxA, evLoad, loadP, aggD, tis, i64, u32, bl, encL, encB, encLL, reduceIte, Nat.reduceEqDiff, forget, forget1, wantd, tzs, eve, evStore, evBox, evAlloc, evBuildSlice, evMakeSlice, evAppend, fillRows, zcells, elemsOf, putAll, PV.one, Nat.reduceAdd, Nat.reduceMul, Int.cast_ofNat_Int, Int.reduceEq, Int.reduceLT, Int.reduceLE, Nat.reduceLeDiff, List.reduceReplicate, reduceCtorEq, retQ, resL, finL, newL, flat, tupOf, List.toList_toArray, Tryd.f43]
  exact leT_one (bl_eq (by rw [decide_eq_decide]; omega)) (by simp)

theorem li_index (l : List (Int)) (hl : l.length ≤ 9223372036854775807) (f : Nat) (cap : List PV) (hn : nofrs cap = true) (P : Int → Bool) (h : ∀ k ∈ l, CallSpec cx f ([i64 k] ++ cap) (bl (P k))) :
    CallSpec cx 55 [encL l, .clo (.func f) [] cap] (i64 (fi P l)) := by
  refine callSpec_of_vc Tryd.func55 rfl (by decide) (by kernel_rfl) (Nat.le_of_ble_eq_true rfl) ?_
  try simp -dsimp (maxSteps := 2000000) (disch := first | omega | decide +kernel) only [↓vcl, ↓vcy, ↓vco, vck, gR, evl, evb, evBuiltin, evLen, evIdxA, evLoad, loadP, aggD, tis, i64, u32, bl, encL, encB, encLL, reduceIte, Nat.reduceEqDiff, forget, forget1, wantd, tzs, eve, evStore, evBox, evAlloc, evBuildSlice, evMakeSlice, evAppend, fillRows, zcells, elemsOf, putAll, PV.one, Nat.reduceAdd, Nat.reduceMul, Int.cast_ofNat_Int, Int.reduceEq, Int.reduceLT, Int.reduceLE, Nat.reduceLeDiff, List.reduceReplicate, reduceCtorEq, Tryd.f55]
  refine LoopQ.rule (fun m st => ∃ i : Nat, i ≤ l.length ∧ (∀ j, j < i → ∀ x, l[j]? = some x → P x = false) ∧ m = l.length - i ∧
    st = ⟨mkE [(0, encL l), (1, .clo (.func f) [] cap), (7, i64 l.length), (8, i64 i)], mkS [], 0⟩) _ _ (weak_of ?_) ⟨0, by omega, by simp, rfl, rfl⟩ ?_
  · first | (simp -dsimp (maxSteps := 2000000) (disch := first | omega | decide +kernel) only [↓vcl, ↓vcy, ↓vco, vck, gR, evl, evb, evBuiltin, evLen, evIdxA, evLoad, loadP, aggD, tis, i64, u32, bl, encL, encB, encLL, reduceIte, Nat.reduceEqDiff, forget, forget1, wantd, tzs, eve, evStore, evBox, evAlloc, evBuildSlice, evMakeSlice, evAppend, fillRows, zcells, elemsOf, putAll, PV.one, Nat.reduceAdd, Nat.reduceMul, Int.cast_ofNat_Int, Int.reduceEq, Int.reduceLT, Int.reduceLE, Nat.reduceLeDiff, List.reduceReplicate, reduceCtorEq]; done) | simp -dsimp [evl, putN, i64, u32, bl, encL, encB, encLL]
  rintro m st ⟨i, hi, hpre, rfl, rfl⟩
  try simp -dsimp (maxSteps := 2000000) (disch := first | omega | decide +kernel) only [↓vcl, ↓vcy, ↓vco, vck, gR, evl, evb, evBuiltin, evLen, evIdxA, evLoad, loadP, aggD, tis, i64, u32, bl, encL, encB, encLL, reduceIte, Nat.reduceEqDiff, forget, forget1, wantd, tzs, eve, evStore, evBox, evAlloc, evBuildSlice, evMakeSlice, evAppend, fillRows, zcells, elemsOf, putAll, PV.one, Nat.reduceAdd, Nat.reduceMul, Int.cast_ofNat_Int, Int.reduceEq, Int.reduceLT, Int.reduceLE, Nat.reduceLeDiff, List.reduceReplicate, reduceCtorEq]
  refine onC_nlt (fun h2 => ?_) (fun h2 => ?_)
  · obtain ⟨x, hx, hxm⟩ := get_of_lt h2
    try simp -dsimp (maxSteps := 2000000) (disch := first | omega | decide +kernel) only [↓vcl, ↓vcy, ↓vco, vck, gR, evl, evb, evBuiltin, evLen, evIdxA, evLoad, loadP, aggD, tis, i64, u32, bl, encL, encB, encLL, reduceIte, Nat.reduceEqDiff, forget, forget1, wantd, tzs, eve, evStore, evBox, evAlloc, evBuildSlice, evMakeSlice, evAppend, fillRows, zcells, elemsOf, putAll, PV.one, Nat.reduceAdd, Nat.reduceMul, Int.cast_ofNat_Int, Int.reduceEq, Int.reduceLT, Int.reduceLE, Nat.reduceLeDiff, List.reduceReplicate, reduceCtorEq, hx]
    refine CallQ.imm (h x hxm) (by rfl) (drcs_nofr _ _ (by simp [nofrs, nofr, i64, encL, hn])) (.inr rfl) ?_
    try simp -dsimp (maxSteps := 2000000) (disch := first | omega | decide +kernel) only [↓vcl, ↓vcy, ↓vco, vck, gR, evl, evb, evBuiltin, evLen, evIdxA, evLoad, loadP, aggD, tis, i64, u32, bl, encL, encB, encLL, reduceIte, Nat.reduceEqDiff, forget, forget1, wantd, tzs, eve, evStore, evBox, evAlloc, evBuildSlice, evMakeSlice, evAppend, fillRows, zcells, elemsOf, putAll, PV.one, Nat.reduceAdd, Nat.reduceMul, Int.cast_ofNat_Int, Int.reduceEq, Int.reduceLT, Int.reduceLE, Nat.reduceLeDiff, List.reduceReplicate, reduceCtorEq]
    refine onC_bool (fun h3 => ?_) (fun h3 => ?_)
    · simp -dsimp (maxSteps := 2000000) (disch := first | omega | decide +kernel) only [↓vcl, ↓vcy, ↓vco, vck, gR, evl, evb, evBuiltin, evLen, evIdxA, evLoad, loadP, aggD, tis, i64, u32, bl, encL, encB, encLL, reduceIte, Nat.reduceEqDiff, forget, forget1, wantd, tzs, eve, evStore, evBox, evAlloc, evBuildSlice, evMakeSlice, evAppend, fillRows, zcells, elemsOf, putAll, PV.one, Nat.reduceAdd, Nat.reduceMul, Int.cast_ofNat_Int, Int.reduceEq, Int.reduceLT, Int.reduceLE, Nat.reduceLeDiff, List.reduceReplicate, reduceCtorEq, retQ, resL, finL, newL, flat, tupOf, List.toList_toArray, Tryd.f55]
      rw [fi_at _ _ _ _ hx hpre h3]
      exact leT_one .rfl' (by simp)
    try simp -dsimp (maxSteps := 2000000) (disch := first | omega | decide +kernel) only [↓vcl, ↓vcy, ↓vco, vck, gR, evl, evb, evBuiltin, evLen, evIdxA, evLoad, loadP, aggD, tis, i64, u32, bl, encL, encB, encLL, reduceIte, Nat.reduceEqDiff, forget, forget1, wantd, tzs, eve, evStore, evBox, evAlloc, evBuildSlice, evMakeSlice, evAppend, fillRows, zcells, elemsOf, putAll, PV.one, Nat.reduceAdd, Nat.reduceMul, Int.cast_ofNat_Int, Int.reduceEq, Int.reduceLT, Int.reduceLE, Nat.reduceLeDiff, List.reduceReplicate, reduceCtorEq]
    refine ⟨_, _, ?_, weak_of ?_, i + 1, h2, ?_, rfl, rfl⟩
    · omega
    · first | (simp -dsimp (maxSteps := 2000000) (disch := first | omega | decide +kernel) only [↓vcl, ↓vcy, ↓vco, vck, gR, evl, evb, evBuiltin, evLen, evIdxA, evLoad, loadP, aggD, tis, i64, u32, bl, encL, encB, encLL, reduceIte, Nat.reduceEqDiff, forget, forget1, wantd, tzs, eve, evStore, evBox, evAlloc, evBuildSlice, evMakeSlice, evAppend, fillRows, zcells, elemsOf, putAll, PV.one, Nat.reduceAdd, Nat.reduceMul, Int.cast_ofNat_Int, Int.reduceEq, Int.reduceLT, Int.reduceLE, Nat.reduceLeDiff, List.reduceReplicate, reduceCtorEq, wrapS h2 hl]; done) | simp -dsimp [evl, putN, i64, u32, bl, encL, encB, encLL, wrapS h2 hl]
    · intro j hj y hy
      by_cases hji : j = i
      · subst hji; rw [hx] at hy; cases hy; exact h3
      · exact hpre j (by omega) y hy
  · simp -dsimp (maxSteps := 2000000) (disch := first | omega | decide +kernel) only [↓vcl, ↓vcy, ↓vco, vck, gR, evl, evb, evBuiltin, evLen, evIdxA, evLoad, loadP, aggD, tis, i64, u32, bl, encL, encB, encLL, reduceIte, Nat.reduceEqDiff, forget, forget1, wantd, tzs, eve, evStore, evBox, evAlloc, evBuildSlice, evMakeSlice, evAppend, fillRows, zcells, elemsOf, putAll, PV.one, Nat.reduceAdd, Nat.reduceMul, Int.cast_ofNat_Int, Int.reduceEq, Int.reduceLT, Int.reduceLE, Nat.reduceLeDiff, List.reduceReplicate, reduceCtorEq, retQ, resL, finL, newL, flat, tupOf, List.toList_toArray, Tryd.f55]
    rw [fi_none _ _ fun j y hy => hpre j (by have := (List.getElem?_eq_some_iff.1 hy).1; omega) y hy]
    exact leT_one .rfl' (by simp)

theorem li_contains (l : List (Int)) (hl : l.length ≤ 9223372036854775807) (f : Nat) (cap : List PV) (hn : nofrs cap = true) (P : Int → Bool) (h : ∀ k ∈ l, CallSpec cx f ([i64 k] ++ cap) (bl (P k))) :
    CallSpec cx 47 [encL l, .clo (.func f) [] cap] (bl (l.any P)) := by
  refine callSpec_of_vc Tryd.func47 rfl (by decide) (by kernel_rfl) (Nat.le_of_ble_eq_true rfl) ?_
  try simp -dsimp (maxSteps := 2000000) (disch := first | omega | decide +kernel) only [↓vcl, ↓vcy, ↓vco, vck, gR, evl, evb, evBuiltin, evLen, evIdxA, evLoad, loadP, aggD, tis, i64, u32, bl, encL, encB, encLL, reduceIte, Nat.reduceEqDiff, forget, forget1, wantd, tzs, eve, evStore, evBox, evAlloc, evBuildSlice, evMakeSlice, evAppend, fillRows, zcells, elemsOf, putAll, PV.one, Nat.reduceAdd, Nat.reduceMul, Int.cast_ofNat_Int, Int.reduceEq, Int.reduceLT, Int.reduceLE, Nat.reduceLeDiff, List.reduceReplicate, reduceCtorEq, Tryd.f47]
  refine CallQ.imm (li_index l hl f cap hn P h) (by rfl) (drcs_nofr _ _ (by simp [nofrs, nofr, i64, encL, hn])) (.inr rfl) ?_
  simp -dsimp (maxSteps := 2000000) (disch := first | omega | decide +kernel) only [↓vcl, ↓vcy, ↓vco, vck, gR, evl, evb, evBuiltin, evLen, evIdxA, evLoad, loadP, aggD, tis, i64, u32, bl, encL, encB, encLL, reduceIte, Nat.reduceEqDiff, forget, forget1, wantd, tzs, eve, evStore, evBox, evAlloc, evBuildSlice, evMakeSlice, evAppend, fillRows, zcells, elemsOf, putAll, PV.one, Nat.reduceAdd, Nat.reduceMul, Int.cast_ofNat_Int, Int.reduceEq, Int.reduceLT, Int.reduceLE, Nat.reduceLeDiff, List.reduceReplicate, reduceCtorEq, retQ, resL, finL, newL, flat, tupOf, List.toList_toArray, Tryd.f47]
  refine leT_one (bl_eq ?_) (by simp)
  rw [Bool.eq_iff_iff, decide_eq_true_iff, ← fi_any]

theorem ll_index (l : List (List Int)) (hl : l.length ≤ 9223372036854775807) (f : Nat) (cap : List PV) (hn : nofrs cap = true) (P : List Int → Bool) (h : ∀ k ∈ l, CallSpec cx f ([encL k] ++ cap) (bl (P k))) :
    CallSpec cx 58 [encLL l, .clo (.func f) [] cap] (i64 (fi P l)) := by
  refine callSpec_of_vc Tryd.func58 rfl (by decide) (by kernel_rfl) (Nat.le_of_ble_eq_true rfl) ?_
  try simp -dsimp (maxSteps := 2000000) (disch := first | omega | decide +kernel) only [↓vcl, ↓vcy, ↓vco, vck, gR, evl, evb, evBuiltin, evLen, evIdxA, evLoad, loadP, aggD, tis, i64, u32, bl, encL, encB, encLL, reduceIte, Nat.reduceEqDiff, forget, forget1, wantd, tzs, eve, evStore, evBox, evAlloc, evBuildSlice, evMakeSlice, evAppend, fillRows, zcells, elemsOf, putAll, PV.one, Nat.reduceAdd, Nat.reduceMul, Int.cast_ofNat_Int, Int.reduceEq, Int.reduceLT, Int.reduceLE, Nat.reduceLeDiff, List.reduceReplicate, reduceCtorEq, Tryd.f58, encLL]
  refine LoopQ.rule (fun m st => ∃ i : Nat, i ≤ l.length ∧ (∀ j, j < i → ∀ x, l[j]? = some x → P x = false) ∧ m = l.length - i ∧
    st = ⟨mkE [(0, encLL l), (1, .clo (.func f) [] cap), (7, i64 l.length), (8, i64 i)], mkS [], 0⟩) _ _ (weak_of ?_) ⟨0, by omega, by simp, rfl, rfl⟩ ?_
  · first | (simp -dsimp (maxSteps := 2000000) (disch := first | omega | decide +kernel) only [↓vcl, ↓vcy, ↓vco, vck, gR, evl, evb, evBuiltin, evLen, evIdxA, evLoad, loadP, aggD, tis, i64, u32, bl, encL, encB, encLL, reduceIte, Nat.reduceEqDiff, forget, forget1, wantd, tzs, eve, evStore, evBox, evAlloc, evBuildSlice, evMakeSlice, evAppend, fillRows, zcells, elemsOf, putAll, PV.one, Nat.reduceAdd, Nat.reduceMul, Int.cast_ofNat_Int, Int.reduceEq, Int.reduceLT, Int.reduceLE, Nat.reduceLeDiff, List.reduceReplicate, reduceCtorEq, encLL]; done) | simp -dsimp [evl, putN, i64, u32, bl, encL, encB, encLL, encLL]
  rintro m st ⟨i, hi, hpre, rfl, rfl⟩
  try simp -dsimp (maxSteps := 2000000) (disch := first | omega | decide +kernel) only [↓vcl, ↓vcy, ↓vco, vck, gR, evl, evb, evBuiltin, evLen, evIdxA, evLoad, loadP, aggD, tis, i64, u32, bl, encL, encB, encLL, reduceIte, Nat.reduceEqDiff, forget, forget1, wantd, tzs, eve, evStore, evBox, evAlloc, evBuildSlice, evMakeSlice, evAppend, fillRows, zcells, elemsOf, putAll, PV.one, Nat.reduceAdd, Nat.reduceMul, Int.cast_ofNat_Int, Int.reduceEq, Int.reduceLT, Int.reduceLE, Nat.reduceLeDiff, List.reduceReplicate, reduceCtorEq, encLL]
  refine onC_nlt (fun h2 => ?_) (fun h2 => ?_)
  · obtain ⟨x, hx, hxm⟩ := get_of_lt h2
    try simp -dsimp (maxSteps := 2000000) (disch := first | omega | decide +kernel) only [↓vcl, ↓vcy, ↓vco, vck, gR, evl, evb, evBuiltin, evLen, evIdxA, evLoad, loadP, aggD, tis, i64, u32, bl, encL, encB, encLL, reduceIte, Nat.reduceEqDiff, forget, forget1, wantd, tzs, eve, evStore, evBox, evAlloc, evBuildSlice, evMakeSlice, evAppend, fillRows, zcells, elemsOf, putAll, PV.one, Nat.reduceAdd, Nat.reduceMul, Int.cast_ofNat_Int, Int.reduceEq, Int.reduceLT, Int.reduceLE, Nat.reduceLeDiff, List.reduceReplicate, reduceCtorEq, hx, encLL]
    refine CallQ.imm (h x hxm) (by rfl) (drcs_nofr _ _ (by simp [nofrs, nofr, i64, encL, hn, encLL])) (.inr rfl) ?_
    try simp -dsimp (maxSteps := 2000000) (disch := first | omega | decide +kernel) only [↓vcl, ↓vcy, ↓vco, vck, gR, evl, evb, evBuiltin, evLen, evIdxA, evLoad, loadP, aggD, tis, i64, u32, bl, encL, encB, encLL, reduceIte, Nat.reduceEqDiff, forget, forget1, wantd, tzs, eve, evStore, evBox, evAlloc, evBuildSlice, evMakeSlice, evAppend, fillRows, zcells, elemsOf, putAll, PV.one, Nat.reduceAdd, Nat.reduceMul, Int.cast_ofNat_Int, Int.reduceEq, Int.reduceLT, Int.reduceLE, Nat.reduceLeDiff, List.reduceReplicate, reduceCtorEq]
    refine onC_bool (fun h3 => ?_) (fun h3 => ?_)
    · simp -dsimp (maxSteps := 2000000) (disch := first | omega | decide +kernel) only [↓vcl, ↓vcy, ↓vco, vck, gR, evl, evb, evBuiltin, evLen, evIdxA, evLoad, loadP, aggD, tis, i64, u32, bl, encL, encB, encLL, reduceIte, Nat.reduceEqDiff, forget, forget1, wantd, tzs, eve, evStore, evBox, evAlloc, evBuildSlice, evMakeSlice, evAppend, fillRows, zcells, elemsOf, putAll, PV.one, Nat.reduceAdd, Nat.reduceMul, Int.cast_ofNat_Int, Int.reduceEq, Int.reduceLT, Int.reduceLE, Nat.reduceLeDiff, List.reduceReplicate, reduceCtorEq, retQ, resL, finL, newL, flat, tupOf, List.toList_toArray, Tryd.f58]
      rw [fi_at _ _ _ _ hx hpre h3]
      exact leT_one .rfl' (by simp)
    try simp -dsimp (maxSteps := 2000000) (disch := first | omega | decide +kernel) only [↓vcl, ↓vcy, ↓vco, vck, gR, evl, evb, evBuiltin, evLen, evIdxA, evLoad, loadP, aggD, tis, i64, u32, bl, encL, encB, encLL, reduceIte, Nat.reduceEqDiff, forget, forget1, wantd, tzs, eve, evStore, evBox, evAlloc, evBuildSlice, evMakeSlice, evAppend, fillRows, zcells, elemsOf, putAll, PV.one, Nat.reduceAdd, Nat.reduceMul, Int.cast_ofNat_Int, Int.reduceEq, Int.reduceLT, Int.reduceLE, Nat.reduceLeDiff, List.reduceReplicate, reduceCtorEq]
    refine ⟨_, _, ?_, weak_of ?_, i + 1, h2, ?_, rfl, rfl⟩
    · omega
    · first | (simp -dsimp (maxSteps := 2000000) (disch := first | omega | decide +kernel) only [↓vcl, ↓vcy, ↓vco, vck, gR, evl, evb, evBuiltin, evLen, evIdxA, evLoad, loadP, aggD, tis, i64, u32, bl, encL, encB, encLL, reduceIte, Nat.reduceEqDiff, forget, forget1, wantd, tzs, eve, evStore, evBox, evAlloc, evBuildSlice, evMakeSlice, evAppend, fillRows, zcells, elemsOf, putAll, PV.one, Nat.reduceAdd, Nat.reduceMul, Int.cast_ofNat_Int, Int.reduceEq, Int.reduceLT, Int.reduceLE, Nat.reduceLeDiff, List.reduceReplicate, reduceCtorEq, wrapS h2 hl, encLL]; done) | simp -dsimp [evl, putN, i64, u32, bl, encL, encB, encLL, wrapS h2 hl, encLL]
    · intro j hj y hy
      by_cases hji : j = i
      · subst hji; rw [hx] at hy; cases hy; exact h3
      · exact hpre j (by omega) y hy
  · simp -dsimp (maxSteps := 2000000) (disch := first | omega | decide +kernel) only [↓vcl, ↓vcy, ↓vco, vck, gR, evl, evb, evBuiltin, evLen, evIdxA, evLoad, loadP, aggD, tis, i64, u32, bl, encL, encB, encLL, reduceIte, Nat.reduceEqDiff, forget, forget1, wantd, tzs, eve, evStore, evBox, evAlloc, evBuildSlice, evMakeSlice, evAppend, fillRows, zcells, elemsOf, putAll, PV.one, Nat.reduceAdd, Nat.reduceMul, Int.cast_ofNat_Int, Int.reduceEq, Int.reduceLT, Int.reduceLE, Nat.reduceLeDiff, List.reduceReplicate, reduceCtorEq, retQ, resL, finL, newL, flat, tupOf, List.toList_toArray, Tryd.f58]
    rw [fi_none _ _ fun j y hy => hpre j (by have := (List.getElem?_eq_some_iff.1 hy).1; omega) y hy]
    exact leT_one .rfl' (by simp)

theorem ll_contains (l : List (List Int)) (hl : l.length ≤ 9223372036854775807) (f : Nat) (cap : List PV) (hn : nofrs cap = true) (P : List Int → Bool) (h : ∀ k ∈ l, CallSpec cx f ([encL k] ++ cap) (bl (P k))) :
    CallSpec cx 42 [encLL l, .clo (.func f) [] cap] (bl (l.any P)) := by
  refine callSpec_of_vc Tryd.func42 rfl (by decide) (by kernel_rfl) (Nat.le_of_ble_eq_true rfl) ?_
  try simp -dsimp (maxSteps := 2000000) (disch := first | omega | decide +kernel) only [↓vcl, ↓vcy, ↓vco, vck, gR, evl, evb, evBuiltin, evLen, evIdxA, evLoad, loadP, aggD, tis, i64, u32, bl, encL, encB, encLL, reduceIte, Nat.reduceEqDiff, forget, forget1, wantd, tzs, eve, evStore, evBox, evAlloc, evBuildSlice, evMakeSlice, evAppend, fillRows, zcells, elemsOf, putAll, PV.one, Nat.reduceAdd, Nat.reduceMul, Int.cast_ofNat_Int, Int.reduceEq, Int.reduceLT, Int.reduceLE, Nat.reduceLeDiff, List.reduceReplicate, reduceCtorEq, Tryd.f42, encLL]
  refine CallQ.imm (ll_index l hl f cap hn P h) (by rfl) (drcs_nofr _ _ (by simp [nofrs, nofr, i64, encL, hn, encLL])) (.inr rfl) ?_
  simp -dsimp (maxSteps := 2000000) (disch := first | omega | decide +kernel) only [↓vcl, ↓vcy, ↓vco, vck, gR, evl, evb, evBuiltin, evLen, evIdxA, evLoad, loadP, aggD, tis, i64, u32, bl, encL, encB, encLL, reduceIte, Nat.reduceEqDiff, forget, forget1, wantd, tzs, eve, evStore, evBox, evAlloc, evBuildSlice, evMakeSlice, evAppend, fillRows, zcells, elemsOf, putAll, PV.one, Nat.reduceAdd, Nat.reduceMul, Int.cast_ofNat_Int, Int.reduceEq, Int.reduceLT, Int.reduceLE, Nat.reduceLeDiff, List.reduceReplicate, reduceCtorEq, retQ, resL, finL, newL, flat, tupOf, List.toList_toArray, Tryd.f42]
  refine leT_one (bl_eq ?_) (by simp)
  rw [Bool.eq_iff_iff, decide_eq_true_iff, ← fi_any]

def agN (n : Nd) : PV := .agg (encN n)
theorem ln_index (l : List (Nd)) (hl : l.length ≤ 9223372036854775807) (f : Nat) (cap : List PV) (hn : nofrs cap = true) (P : Nd → Bool) (h : ∀ k ∈ l, CallSpec cx f ([agN k] ++ cap) (bl (P k))) :
    CallSpec cx 59 [encNs l, .clo (.func f) [] cap] (i64 (fi P l)) := by
  refine callSpec_of_vc Tryd.func59 rfl (by decide) (by kernel_rfl) (Nat.le_of_ble_eq_true rfl) ?_
  try simp -dsimp (maxSteps := 2000000) (disch := first | omega | decide +kernel) only [↓vcl, ↓vcy, ↓vco, vck, gR, evl, evb, evBuiltin, evLen, evIdxA, evLoad, loadP, aggD, tis, i64, u32, bl, encL, encB, encLL, reduceIte, Nat.reduceEqDiff, forget, forget1, wantd, tzs, eve, evStore, evBox, evAlloc, evBuildSlice, evMakeSlice, evAppend, fillRows, zcells, elemsOf, putAll, PV.one, Nat.reduceAdd, Nat.reduceMul, Int.cast_ofNat_Int, Int.reduceEq, Int.reduceLT, Int.reduceLE, Nat.reduceLeDiff, List.reduceReplicate, reduceCtorEq, Tryd.f59, encNs, encN, agN, encLL]
  refine LoopQ.rule (fun m st => ∃ i : Nat, i ≤ l.length ∧ (∀ j, j < i → ∀ x, l[j]? = some x → P x = false) ∧ m = l.length - i ∧
    st = ⟨mkE [(0, encNs l), (1, .clo (.func f) [] cap), (7, i64 l.length), (8, i64 i)], mkS [], 0⟩) _ _ (weak_of ?_) ⟨0, by omega, by simp, rfl, rfl⟩ ?_
  · first | (simp -dsimp (maxSteps := 2000000) (disch := first | omega | decide +kernel) only [↓vcl, ↓vcy, ↓vco, vck, gR, evl, evb, evBuiltin, evLen, evIdxA, evLoad, loadP, aggD, tis, i64, u32, bl, encL, encB, encLL, reduceIte, Nat.reduceEqDiff, forget, forget1, wantd, tzs, eve, evStore, evBox, evAlloc, evBuildSlice, evMakeSlice, evAppend, fillRows, zcells, elemsOf, putAll, PV.one, Nat.reduceAdd, Nat.reduceMul, Int.cast_ofNat_Int, Int.reduceEq, Int.reduceLT, Int.reduceLE, Nat.reduceLeDiff, List.reduceReplicate, reduceCtorEq, encNs, encN, agN, encLL]; done) | simp -dsimp [evl, putN, i64, u32, bl, encL, encB, encLL, encNs, encN, agN, encLL]
  rintro m st ⟨i, hi, hpre, rfl, rfl⟩
  try simp -dsimp (maxSteps := 2000000) (disch := first | omega | decide +kernel) only [↓vcl, ↓vcy, ↓vco, vck, gR, evl, evb, evBuiltin, evLen, evIdxA, evLoad, loadP, aggD, tis, i64, u32, bl, encL, encB, encLL, reduceIte, Nat.reduceEqDiff, forget, forget1, wantd, tzs, eve, evStore, evBox, evAlloc, evBuildSlice, evMakeSlice, evAppend, fillRows, zcells, elemsOf, putAll, PV.one, Nat.reduceAdd, Nat.reduceMul, Int.cast_ofNat_Int, Int.reduceEq, Int.reduceLT, Int.reduceLE, Nat.reduceLeDiff, List.reduceReplicate, reduceCtorEq, encNs, encN, agN, encLL]
  refine onC_nlt (fun h2 => ?_) (fun h2 => ?_)
  · obtain ⟨x, hx, hxm⟩ := get_of_lt h2
    try simp -dsimp (maxSteps := 2000000) (disch := first | omega | decide +kernel) only [↓vcl, ↓vcy, ↓vco, vck, gR, evl, evb, evBuiltin, evLen, evIdxA, evLoad, loadP, aggD, tis, i64, u32, bl, encL, encB, encLL, reduceIte, Nat.reduceEqDiff, forget, forget1, wantd, tzs, eve, evStore, evBox, evAlloc, evBuildSlice, evMakeSlice, evAppend, fillRows, zcells, elemsOf, putAll, PV.one, Nat.reduceAdd, Nat.reduceMul, Int.cast_ofNat_Int, Int.reduceEq, Int.reduceLT, Int.reduceLE, Nat.reduceLeDiff, List.reduceReplicate, reduceCtorEq, hx, encNs, encN, agN, encLL]
    refine CallQ.imm (h x hxm) (by rfl) (drcs_nofr _ _ (by simp [nofrs, nofr, i64, encL, hn, encNs, encN, agN, encLL])) (.inr rfl) ?_
    try simp -dsimp (maxSteps := 2000000) (disch := first | omega | decide +kernel) only [↓vcl, ↓vcy, ↓vco, vck, gR, evl, evb, evBuiltin, evLen, evIdxA, evLoad, loadP, aggD, tis, i64, u32, bl, encL, encB, encLL, reduceIte, Nat.reduceEqDiff, forget, forget1, wantd, tzs, eve, evStore, evBox, evAlloc, evBuildSlice, evMakeSlice, evAppend, fillRows, zcells, elemsOf, putAll, PV.one, Nat.reduceAdd, Nat.reduceMul, Int.cast_ofNat_Int, Int.reduceEq, Int.reduceLT, Int.reduceLE, Nat.reduceLeDiff, List.reduceReplicate, reduceCtorEq]
    refine onC_bool (fun h3 => ?_) (fun h3 => ?_)
    · simp -dsimp (maxSteps := 2000000) (disch := first | omega | decide +kernel) only [↓vcl, ↓vcy, ↓vco, vck, gR, evl, evb, evBuiltin, evLen, evIdxA, evLoad, loadP, aggD, tis, i64, u32, bl, encL, encB, encLL, reduceIte, Nat.reduceEqDiff, forget, forget1, wantd, tzs, eve, evStore, evBox, evAlloc, evBuildSlice, evMakeSlice, evAppend, fillRows, zcells, elemsOf, putAll, PV.one, Nat.reduceAdd, Nat.reduceMul, Int.cast_ofNat_Int, Int.reduceEq, Int.reduceLT, Int.reduceLE, Nat.reduceLeDiff, List.reduceReplicate, reduceCtorEq, retQ, resL, finL, newL, flat, tupOf, List.toList_toArray, Tryd.f59]
      rw [fi_at _ _ _ _ hx hpre h3]
      exact leT_one .rfl' (by simp)
    try simp -dsimp (maxSteps := 2000000) (disch := first | omega | decide +kernel) only [↓vcl, ↓vcy, ↓vco, vck, gR, evl, evb, evBuiltin, evLen, evIdxA, evLoad, loadP, aggD, tis, i64, u32, bl, encL, encB, encLL, reduceIte, Nat.reduceEqDiff, forget, forget1, wantd, tzs, eve, evStore, evBox, evAlloc, evBuildSlice, evMakeSlice, evAppend, fillRows, zcells, elemsOf, putAll, PV.one, Nat.reduceAdd, Nat.reduceMul, Int.cast_ofNat_Int, Int.reduceEq, Int.reduceLT, Int.reduceLE, Nat.reduceLeDiff, List.reduceReplicate, reduceCtorEq]
    refine ⟨_, _, ?_, weak_of ?_, i + 1, h2, ?_, rfl, rfl⟩
    · omega
    · first | (simp -dsimp (maxSteps := 2000000) (disch := first | omega | decide +kernel) only [↓vcl, ↓vcy, ↓vco, vck, gR, evl, evb, evBuiltin, evLen, evIdxA, evLoad, loadP, aggD, tis, i64, u32, bl, encL, encB, encLL, reduceIte, Nat.reduceEqDiff, forget, forget1, wantd, tzs, eve, evStore, evBox, evAlloc, evBuildSlice, evMakeSlice, evAppend, fillRows, zcells, elemsOf, putAll, PV.one, Nat.reduceAdd, Nat.reduceMul, Int.cast_ofNat_Int, Int.reduceEq, Int.reduceLT, Int.reduceLE, Nat.reduceLeDiff, List.reduceReplicate, reduceCtorEq, wrapS h2 hl, encNs, encN, agN, encLL]; done) | simp -dsimp [evl, putN, i64, u32, bl, encL, encB, encLL, wrapS h2 hl, encNs, encN, agN, encLL]
    · intro j hj y hy
      by_cases hji : j = i
      · subst hji; rw [hx] at hy; cases hy; exact h3
      · exact hpre j (by omega) y hy
  · simp -dsimp (maxSteps := 2000000) (disch := first | omega | decide +kernel) only [↓vcl, ↓vcy, ↓vco, vck, gR, evl, evb, evBuiltin, evLen, evIdxA, evLoad, loadP, aggD, tis, i64, u32, bl, encL, encB, encLL, reduceIte, Nat.reduceEqDiff, forget, forget1, wantd, tzs, eve, evStore, evBox, evAlloc, evBuildSlice, evMakeSlice, evAppend, fillRows, zcells, elemsOf, putAll, PV.one, Nat.reduceAdd, Nat.reduceMul, Int.cast_ofNat_Int, Int.reduceEq, Int.reduceLT, Int.reduceLE, Nat.reduceLeDiff, List.reduceReplicate, reduceCtorEq, retQ, resL, finL, newL, flat, tupOf, List.toList_toArray, Tryd.f59]
    rw [fi_none _ _ fun j y hy => hpre j (by have := (List.getElem?_eq_some_iff.1 hy).1; omega) y hy]
    exact leT_one .rfl' (by simp)

theorem ln_contains (l : List (Nd)) (hl : l.length ≤ 9223372036854775807) (f : Nat) (cap : List PV) (hn : nofrs cap = true) (P : Nd → Bool) (h : ∀ k ∈ l, CallSpec cx f ([agN k] ++ cap) (bl (P k))) :
    CallSpec cx 44 [encNs l, .clo (.func f) [] cap] (bl (l.any P)) := by
  refine callSpec_of_vc Tryd.func44 rfl (by decide) (by kernel_rfl) (Nat.le_of_ble_eq_true rfl) ?_
  try simp -dsimp (maxSteps := 2000000) (disch := first | omega | decide +kernel) only [↓vcl, ↓vcy, ↓vco, vck, gR, evl, evb, evBuiltin, evLen, evIdxA, evLoad, loadP, aggD, tis, i64, u32, bl, encL, encB, encLL, reduceIte, Nat.reduceEqDiff, forget, forget1, wantd, tzs, eve, evStore, evBox, evAlloc, evBuildSlice, evMakeSlice, evAppend, fillRows, zcells, elemsOf, putAll, PV.one, Nat.reduceAdd, Nat.reduceMul, Int.cast_ofNat_Int, Int.reduceEq, Int.reduceLT, Int.reduceLE, Nat.reduceLeDiff, List.reduceReplicate, reduceCtorEq, Tryd.f44, encNs, encN, agN, encLL]
  refine CallQ.imm (ln_index l hl f cap hn P h) (by rfl) (drcs_nofr _ _ (by simp [nofrs, nofr, i64, encL, hn, encNs, encN, agN, encLL])) (.inr rfl) ?_
  simp -dsimp (maxSteps := 2000000) (disch := first | omega | decide +kernel) only [↓vcl, ↓vcy, ↓vco, vck, gR, evl, evb, evBuiltin, evLen, evIdxA, evLoad, loadP, aggD, tis, i64, u32, bl, encL, encB, encLL, reduceIte, Nat.reduceEqDiff, forget, forget1, wantd, tzs, eve, evStore, evBox, evAlloc, evBuildSlice, evMakeSlice, evAppend, fillRows, zcells, elemsOf, putAll, PV.one, Nat.reduceAdd, Nat.reduceMul, Int.cast_ofNat_Int, Int.reduceEq, Int.reduceLT, Int.reduceLE, Nat.reduceLeDiff, List.reduceReplicate, reduceCtorEq, retQ, resL, finL, newL, flat, tupOf, List.toList_toArray, Tryd.f44]
  refine leT_one (bl_eq ?_) (by simp)
  rw [Bool.eq_iff_iff, decide_eq_true_iff, ← fi_any]

end Go.Ab
