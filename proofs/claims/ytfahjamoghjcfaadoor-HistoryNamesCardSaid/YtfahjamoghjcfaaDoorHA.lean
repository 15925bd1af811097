import Derived.Test.YtfahjamoghjcfaaDoorAbSimp
import Derived.Test.YtfahjamoghjcfaaDoorProg
import Derived.KernelRfl
set_option linter.unusedSimpArgs false
set_option linter.unusedVariables false
set_option maxRecDepth 100000
namespace Go.Ab
open Go Go.Proofs
/-- The table of a standard package, as its first cells read. -/
def tab : List Int := [0, 1, 28, 2, 29, 14, 24, 3, 30, 22, 20, 15, 25, 17, 4, 8, 31, 27, 13, 23, 21, 19, 16, 7, 26, 12, 18, 6, 11, 5, 10, 9]
noncomputable def cx : Ctx := ⟨Tryd.prog, fun g => if g = 0 then some (tab.map fun n => .lit (.int .u8 n)) else none, by kernel_rfl⟩
theorem tis : (ti cx.P 22 = some ⟨.slice 24, 1, 24⟩) ∧ (ti cx.P 24 = some ⟨.slice 3, 1, 24⟩) ∧ (ti cx.P 3 = some ⟨.int .i64, 1, 8⟩) ∧ (ti cx.P 4 = some ⟨.bool, 1, 1⟩) ∧ (ti cx.P 25 = some ⟨.int .i64, 1, 8⟩) ∧
    (ti cx.P 54 = some ⟨.int .u32, 1, 4⟩) ∧ (ti cx.P 55 = some ⟨.slice 54, 1, 24⟩) ∧ (ti cx.P 59 = some ⟨.slice 4, 1, 24⟩) ∧ (notIntT cx.P 24 = true) :=
  ⟨by kernel_rfl, by kernel_rfl, by kernel_rfl, by kernel_rfl, by kernel_rfl, by kernel_rfl, by kernel_rfl, by kernel_rfl, by kernel_rfl⟩
theorem tzs : (tz cx.P 3 = some (.lit (.int .i64 0))) ∧ (tz cx.P 4 = some (.lit (.bool false))) ∧ (tz cx.P 54 = some (.lit (.int .u32 0))) := ⟨by kernel_rfl, by kernel_rfl, by kernel_rfl⟩

def i64 (n : Int) : PV := .lit (.int .i64 n)
def u32 (n : Int) : PV := .lit (.int .u32 n)
def bl (b : Bool) : PV := .lit (.bool b)
def encL (l : List Int) : PV := .imm (l.map fun i => [i64 i]) false
def encLL (l : List (List Int)) : PV := .imm (l.map fun x => [encL x]) false
def encB (l : List Bool) : PV := .imm (l.map fun b => [bl b]) false
def newB (l : List Bool) : PV := .new 1 (l.map fun b => [bl b])
def newI (l : List Int) : PV := .new 1 (l.map fun i => [i64 i])

def fi {α : Type} (p : α → Bool) : List α → Int
  | [] => -1
  | x :: l => if p x then 0 else if fi p l = -1 then -1 else fi p l + 1

theorem bq : ((true == true) = true) ∧ ((true == false) = false) ∧ ((false == true) = false) ∧ ((false == false) = true) := ⟨rfl, rfl, rfl, rfl⟩
theorem putN : ∀ {st : St} {p : PV}, st.put none p = st := rfl
theorem flI : ∀ {k : IntKind} {l : List Int}, ((l.map fun i => [PV.lit (Value.int k i)]).all fun e => e.all flat) = true := by
  intro k l; rw [List.all_map, List.all_eq_true]; intro x hx; rfl
theorem flB : ∀ {l : List Bool}, ((l.map fun i => [PV.lit (Value.bool i)]).all fun e => e.all flat) = true := by
  intro l; rw [List.all_map, List.all_eq_true]; intro x hx; rfl
theorem flU : ∀ {k : IntKind} {l : List (BitVec 32)}, ((l.map fun i => [PV.lit (Value.int k (i.toNat : Int))]).all fun e => e.all flat) = true := by
  intro k l; rw [List.all_map, List.all_eq_true]; intro x hx; rfl
theorem takeI : ∀ {α β : Type} {l : List α} {f : α → β}, List.take l.length (l.map f) = l.map f := by
  intro α β l f; rw [List.take_of_length_le (by simp)]
theorem posK : (((0:Nat) < 8) = True) ∧ (((0:Nat) < 4) = True) ∧ (((0:Nat) < 1) = True) ∧ (((0:Nat) < 2) = True) ∧ (((0:Nat) < 16) = True) ∧ (((0:Nat) < 24) = True) := by decide
theorem natK : (∀ k, natOf (.lit (.int k 0)) = some 0) ∧ (∀ k, natOf (.lit (.int k 1)) = some 1) ∧ (∀ k, natOf (.lit (.int k 2)) = some 2) := ⟨fun _ => rfl, fun _ => rfl, fun _ => rfl⟩
theorem get_of_lt {α : Type} {l : List α} {i : Nat} (h : i < l.length) : ∃ x, l[i]? = some x ∧ x ∈ l := ⟨l[i], by simp [h], List.getElem_mem h⟩

theorem onC_nlt {a b : Nat} {t e : Prop} (h1 : a < b → t) (h2 : b ≤ a → e) : onC (some (.lit (.bool (decide ((a : Int) < (b : Int)))))) t e :=
  onC_dec (fun h => h1 (by omega)) (fun h => h2 (by omega))

theorem s39 (p : List Int) : CallSpec cx 39 [encL p] (bl (decide (2 < p.length))) := by
  refine callSpec_of_vc Tryd.func39 rfl (by decide) (by kernel_rfl) (Nat.le_of_ble_eq_true rfl) ?_
  simp -dsimp only [↓vcl, ↓vco, vck, evl, evb, evBuiltin, evLen, evIdxA, evLoad, loadP, aggD, tis, i64, u32, bl, encL, encB, encLL, if_true, if_false, reduceIte, List.length_map, List.getElem?_map, Nat.reduceEqDiff, List.length_cons, List.length_nil, forget, forget1, wantd, bq, Bool.false_eq_true, Bool.not_true, Bool.not_false, eq_self, tzs, eve, evStore, evBox, evAlloc, evBuildSlice, evMakeSlice, evAppend, fillRows, zcells, elemsOf, putAll, PV.one, List.all_cons, List.all_nil, Bool.and_true, Bool.and_self, Nat.reduceAdd, Nat.reduceMul, Nat.zero_add, Nat.add_zero, Nat.zero_mul, Nat.one_mul, Nat.mul_one, Nat.le_refl, and_self, true_and, and_true, List.set_cons_zero, List.drop_zero, natK, putN, Int.cast_ofNat_Int, decide_true, decide_false, Int.reduceEq, Int.reduceLT, Int.reduceLE, List.append_nil, List.nil_append, List.cons_append, Nat.reduceLeDiff, posK, flI, flB, flU, takeI, ne_eq, not_false_eq_true, not_true_eq_false, List.reduceReplicate, Nat.zero_lt_one, Nat.one_ne_zero, List.take_succ_cons, List.take_zero, or_self, true_or, or_true, reduceCtorEq, List.length_append, List.map_append, List.map_cons, List.map_nil, List.drop_succ_cons, retQ, resL, finL, newL, flat, tupOf, List.toList_toArray, Tryd.f39]
  refine .inl (.inl ?_)
  simp only [bl, PV.lit.injEq, Value.bool.injEq, decide_eq_decide]
  omega

theorem fi_at {α : Type} (p : α → Bool) : ∀ (l : List α) (i : Nat) (x : α), l[i]? = some x → (∀ j, j < i → ∀ y, l[j]? = some y → p y = false) → p x = true → fi p l = i
  | [], i, x, h, _, _ => by simp at h
  | y :: l, 0, x, h, _, hp => by simp at h; subst h; simp [fi, hp]
  | y :: l, i + 1, x, h, hj, hp => by
    have h1 := fi_at p l i x (by simpa using h) (fun j hj' z hz => hj (j + 1) (by omega) z (by simpa using hz)) hp
    have h2 := hj 0 (by omega) y (by simp)
    rw [fi, h2, h1]
    simp only [Bool.false_eq_true, if_false]
    rw [if_neg (by omega)]
    omega
theorem fi_none {α : Type} (p : α → Bool) : ∀ (l : List α), (∀ (j : Nat) (y : α), l[j]? = some y → p y = false) → fi p l = -1
  | [], _ => rfl
  | y :: l, h => by
    rw [fi, h 0 y (by simp), fi_none p l fun j z hz => h (j + 1) z (by simpa using hz)]
    simp
theorem fi_lo {α : Type} (p : α → Bool) : ∀ (l : List α), -1 ≤ fi p l
  | [] => by simp [fi]
  | y :: l => by
    have := fi_lo p l
    rw [fi]; split
    · omega
    · split <;> omega
theorem fi_any {α : Type} (p : α → Bool) : ∀ (l : List α), (0 ≤ fi p l) ↔ l.any p = true
  | [] => by simp [fi]
  | y :: l => by
    have := fi_any p l
    have h2 := fi_lo p l
    rw [fi, List.any_cons]
    cases hp : p y
    · simp only [Bool.false_eq_true, if_false, Bool.false_or]
      rw [← this]; split <;> omega
    · simp

theorem wrapS {i n : Nat} (h : i < n) (hn : n ≤ 9223372036854775807) : IntKind.i64.wrap ((i : Int) + 1) = ((i + 1 : Nat) : Int) := by
  rw [IntWalk.i64_in _ (by omega)]; omega

theorem s49 (h : List (List Int)) (hl : h.length ≤ 9223372036854775807) : CallSpec cx 49 [encLL h, .clo (.func 39) [] []] (i64 (fi (fun p => decide (2 < p.length)) h)) := by
  refine callSpec_of_vc Tryd.func49 rfl (by decide) (by kernel_rfl) (Nat.le_of_ble_eq_true rfl) ?_
  simp -dsimp only [↓vcl, ↓vco, vck, evl, evb, evBuiltin, evLen, evIdxA, evLoad, loadP, aggD, tis, i64, u32, bl, encL, encB, encLL, if_true, if_false, reduceIte, List.length_map, List.getElem?_map, Nat.reduceEqDiff, List.length_cons, List.length_nil, forget, forget1, wantd, bq, Bool.false_eq_true, Bool.not_true, Bool.not_false, eq_self, tzs, eve, evStore, evBox, evAlloc, evBuildSlice, evMakeSlice, evAppend, fillRows, zcells, elemsOf, putAll, PV.one, List.all_cons, List.all_nil, Bool.and_true, Bool.and_self, Nat.reduceAdd, Nat.reduceMul, Nat.zero_add, Nat.add_zero, Nat.zero_mul, Nat.one_mul, Nat.mul_one, Nat.le_refl, and_self, true_and, and_true, List.set_cons_zero, List.drop_zero, natK, putN, Int.cast_ofNat_Int, decide_true, decide_false, Int.reduceEq, Int.reduceLT, Int.reduceLE, List.append_nil, List.nil_append, List.cons_append, Nat.reduceLeDiff, posK, flI, flB, flU, takeI, ne_eq, not_false_eq_true, not_true_eq_false, List.reduceReplicate, Nat.zero_lt_one, Nat.one_ne_zero, List.take_succ_cons, List.take_zero, or_self, true_or, or_true, reduceCtorEq, List.length_append, List.map_append, List.map_cons, List.map_nil, List.drop_succ_cons, Tryd.f49]
  refine LoopQ.rule (fun m st => ∃ i : Nat, i ≤ h.length ∧ (∀ j, j < i → ∀ x, h[j]? = some x → (decide (2 < x.length)) = false) ∧ m = h.length - i ∧
    st = ⟨mkE [(0, encLL h), (1, .clo (.func 39) [] []), (7, i64 h.length), (8, i64 i)], mkS [], 0⟩) _ _ (weak_of ?_) ⟨0, by omega, by simp, rfl, rfl⟩ ?_
  · simp -dsimp [evl, encLL, i64]
  rintro m st ⟨i, hi, hpre, rfl, rfl⟩
  simp -dsimp only [↓vcl, ↓vco, vck, evl, evb, evBuiltin, evLen, evIdxA, evLoad, loadP, aggD, tis, i64, u32, bl, encL, encB, encLL, if_true, if_false, reduceIte, List.length_map, List.getElem?_map, Nat.reduceEqDiff, List.length_cons, List.length_nil, forget, forget1, wantd, bq, Bool.false_eq_true, Bool.not_true, Bool.not_false, eq_self, tzs, eve, evStore, evBox, evAlloc, evBuildSlice, evMakeSlice, evAppend, fillRows, zcells, elemsOf, putAll, PV.one, List.all_cons, List.all_nil, Bool.and_true, Bool.and_self, Nat.reduceAdd, Nat.reduceMul, Nat.zero_add, Nat.add_zero, Nat.zero_mul, Nat.one_mul, Nat.mul_one, Nat.le_refl, and_self, true_and, and_true, List.set_cons_zero, List.drop_zero, natK, putN, Int.cast_ofNat_Int, decide_true, decide_false, Int.reduceEq, Int.reduceLT, Int.reduceLE, List.append_nil, List.nil_append, List.cons_append, Nat.reduceLeDiff, posK, flI, flB, flU, takeI, ne_eq, not_false_eq_true, not_true_eq_false, List.reduceReplicate, Nat.zero_lt_one, Nat.one_ne_zero, List.take_succ_cons, List.take_zero, or_self, true_or, or_true, reduceCtorEq, List.length_append, List.map_append, List.map_cons, List.map_nil, List.drop_succ_cons]
  refine onC_nlt (fun h2 => ?_) (fun h2 => ?_)
  · obtain ⟨x, hx, hxm⟩ := get_of_lt h2
    simp -dsimp only [↓vcl, ↓vco, vck, evl, evb, evBuiltin, evLen, evIdxA, evLoad, loadP, aggD, tis, i64, u32, bl, encL, encB, encLL, if_true, if_false, reduceIte, List.length_map, List.getElem?_map, Nat.reduceEqDiff, List.length_cons, List.length_nil, forget, forget1, wantd, bq, Bool.false_eq_true, Bool.not_true, Bool.not_false, eq_self, tzs, eve, evStore, evBox, evAlloc, evBuildSlice, evMakeSlice, evAppend, fillRows, zcells, elemsOf, putAll, PV.one, List.all_cons, List.all_nil, Bool.and_true, Bool.and_self, Nat.reduceAdd, Nat.reduceMul, Nat.zero_add, Nat.add_zero, Nat.zero_mul, Nat.one_mul, Nat.mul_one, Nat.le_refl, and_self, true_and, and_true, List.set_cons_zero, List.drop_zero, natK, putN, Int.cast_ofNat_Int, decide_true, decide_false, Int.reduceEq, Int.reduceLT, Int.reduceLE, List.append_nil, List.nil_append, List.cons_append, Nat.reduceLeDiff, posK, flI, flB, flU, takeI, ne_eq, not_false_eq_true, not_true_eq_false, List.reduceReplicate, Nat.zero_lt_one, Nat.one_ne_zero, List.take_succ_cons, List.take_zero, or_self, true_or, or_true, reduceCtorEq, List.length_append, List.map_append, List.map_cons, List.map_nil, List.drop_succ_cons, hx]
    refine CallQ.imm (s39 x) (by rfl) (by first | rfl | (simp -dsimp only [↓vcl, ↓vco, vck, evl, evb, evBuiltin, evLen, evIdxA, evLoad, loadP, aggD, tis, i64, u32, bl, encL, encB, encLL, if_true, if_false, reduceIte, List.length_map, List.getElem?_map, Nat.reduceEqDiff, List.length_cons, List.length_nil, forget, forget1, wantd, bq, Bool.false_eq_true, Bool.not_true, Bool.not_false, eq_self, tzs, eve, evStore, evBox, evAlloc, evBuildSlice, evMakeSlice, evAppend, fillRows, zcells, elemsOf, putAll, PV.one, List.all_cons, List.all_nil, Bool.and_true, Bool.and_self, Nat.reduceAdd, Nat.reduceMul, Nat.zero_add, Nat.add_zero, Nat.zero_mul, Nat.one_mul, Nat.mul_one, Nat.le_refl, and_self, true_and, and_true, List.set_cons_zero, List.drop_zero, natK, putN, Int.cast_ofNat_Int, decide_true, decide_false, Int.reduceEq, Int.reduceLT, Int.reduceLE, List.append_nil, List.nil_append, List.cons_append, Nat.reduceLeDiff, posK, flI, flB, flU, takeI, ne_eq, not_false_eq_true, not_true_eq_false, List.reduceReplicate, Nat.zero_lt_one, Nat.one_ne_zero, List.take_succ_cons, List.take_zero, or_self, true_or, or_true, reduceCtorEq, List.length_append, List.map_append, List.map_cons, List.map_nil, List.drop_succ_cons, drcs, drc, flat]; done) | simp -dsimp [evl, drcs, drc, flat, i64, u32, bl, encL, encB, encLL]) (by first | exact .inl rfl | exact .inr rfl | exact .inr scalB | exact .inr scalI) ?_
    simp -dsimp only [↓vcl, ↓vco, vck, evl, evb, evBuiltin, evLen, evIdxA, evLoad, loadP, aggD, tis, i64, u32, bl, encL, encB, encLL, if_true, if_false, reduceIte, List.length_map, List.getElem?_map, Nat.reduceEqDiff, List.length_cons, List.length_nil, forget, forget1, wantd, bq, Bool.false_eq_true, Bool.not_true, Bool.not_false, eq_self, tzs, eve, evStore, evBox, evAlloc, evBuildSlice, evMakeSlice, evAppend, fillRows, zcells, elemsOf, putAll, PV.one, List.all_cons, List.all_nil, Bool.and_true, Bool.and_self, Nat.reduceAdd, Nat.reduceMul, Nat.zero_add, Nat.add_zero, Nat.zero_mul, Nat.one_mul, Nat.mul_one, Nat.le_refl, and_self, true_and, and_true, List.set_cons_zero, List.drop_zero, natK, putN, Int.cast_ofNat_Int, decide_true, decide_false, Int.reduceEq, Int.reduceLT, Int.reduceLE, List.append_nil, List.nil_append, List.cons_append, Nat.reduceLeDiff, posK, flI, flB, flU, takeI, ne_eq, not_false_eq_true, not_true_eq_false, List.reduceReplicate, Nat.zero_lt_one, Nat.one_ne_zero, List.take_succ_cons, List.take_zero, or_self, true_or, or_true, reduceCtorEq, List.length_append, List.map_append, List.map_cons, List.map_nil, List.drop_succ_cons]
    refine onC_bool (fun h3 => ?_) (fun h3 => ?_)
    · simp -dsimp only [↓vcl, ↓vco, vck, evl, evb, evBuiltin, evLen, evIdxA, evLoad, loadP, aggD, tis, i64, u32, bl, encL, encB, encLL, if_true, if_false, reduceIte, List.length_map, List.getElem?_map, Nat.reduceEqDiff, List.length_cons, List.length_nil, forget, forget1, wantd, bq, Bool.false_eq_true, Bool.not_true, Bool.not_false, eq_self, tzs, eve, evStore, evBox, evAlloc, evBuildSlice, evMakeSlice, evAppend, fillRows, zcells, elemsOf, putAll, PV.one, List.all_cons, List.all_nil, Bool.and_true, Bool.and_self, Nat.reduceAdd, Nat.reduceMul, Nat.zero_add, Nat.add_zero, Nat.zero_mul, Nat.one_mul, Nat.mul_one, Nat.le_refl, and_self, true_and, and_true, List.set_cons_zero, List.drop_zero, natK, putN, Int.cast_ofNat_Int, decide_true, decide_false, Int.reduceEq, Int.reduceLT, Int.reduceLE, List.append_nil, List.nil_append, List.cons_append, Nat.reduceLeDiff, posK, flI, flB, flU, takeI, ne_eq, not_false_eq_true, not_true_eq_false, List.reduceReplicate, Nat.zero_lt_one, Nat.one_ne_zero, List.take_succ_cons, List.take_zero, or_self, true_or, or_true, reduceCtorEq, List.length_append, List.map_append, List.map_cons, List.map_nil, List.drop_succ_cons, retQ, resL, finL, newL, flat, tupOf, List.toList_toArray, Tryd.f49]
      rw [fi_at _ _ _ _ hx hpre h3]
      exact leT_one .rfl' (by simp)
    simp -dsimp only [↓vcl, ↓vco, vck, evl, evb, evBuiltin, evLen, evIdxA, evLoad, loadP, aggD, tis, i64, u32, bl, encL, encB, encLL, if_true, if_false, reduceIte, List.length_map, List.getElem?_map, Nat.reduceEqDiff, List.length_cons, List.length_nil, forget, forget1, wantd, bq, Bool.false_eq_true, Bool.not_true, Bool.not_false, eq_self, tzs, eve, evStore, evBox, evAlloc, evBuildSlice, evMakeSlice, evAppend, fillRows, zcells, elemsOf, putAll, PV.one, List.all_cons, List.all_nil, Bool.and_true, Bool.and_self, Nat.reduceAdd, Nat.reduceMul, Nat.zero_add, Nat.add_zero, Nat.zero_mul, Nat.one_mul, Nat.mul_one, Nat.le_refl, and_self, true_and, and_true, List.set_cons_zero, List.drop_zero, natK, putN, Int.cast_ofNat_Int, decide_true, decide_false, Int.reduceEq, Int.reduceLT, Int.reduceLE, List.append_nil, List.nil_append, List.cons_append, Nat.reduceLeDiff, posK, flI, flB, flU, takeI, ne_eq, not_false_eq_true, not_true_eq_false, List.reduceReplicate, Nat.zero_lt_one, Nat.one_ne_zero, List.take_succ_cons, List.take_zero, or_self, true_or, or_true, reduceCtorEq, List.length_append, List.map_append, List.map_cons, List.map_nil, List.drop_succ_cons]
    refine ⟨_, _, ?_, weak_of ?_, i + 1, h2, ?_, rfl, rfl⟩
    · omega
    · simp -dsimp [evl, i64, wrapS h2 hl]
    · intro j hj y hy
      by_cases hji : j = i
      · subst hji; rw [hx] at hy; cases hy; exact h3
      · exact hpre j (by omega) y hy
  · simp -dsimp only [↓vcl, ↓vco, vck, evl, evb, evBuiltin, evLen, evIdxA, evLoad, loadP, aggD, tis, i64, u32, bl, encL, encB, encLL, if_true, if_false, reduceIte, List.length_map, List.getElem?_map, Nat.reduceEqDiff, List.length_cons, List.length_nil, forget, forget1, wantd, bq, Bool.false_eq_true, Bool.not_true, Bool.not_false, eq_self, tzs, eve, evStore, evBox, evAlloc, evBuildSlice, evMakeSlice, evAppend, fillRows, zcells, elemsOf, putAll, PV.one, List.all_cons, List.all_nil, Bool.and_true, Bool.and_self, Nat.reduceAdd, Nat.reduceMul, Nat.zero_add, Nat.add_zero, Nat.zero_mul, Nat.one_mul, Nat.mul_one, Nat.le_refl, and_self, true_and, and_true, List.set_cons_zero, List.drop_zero, natK, putN, Int.cast_ofNat_Int, decide_true, decide_false, Int.reduceEq, Int.reduceLT, Int.reduceLE, List.append_nil, List.nil_append, List.cons_append, Nat.reduceLeDiff, posK, flI, flB, flU, takeI, ne_eq, not_false_eq_true, not_true_eq_false, List.reduceReplicate, Nat.zero_lt_one, Nat.one_ne_zero, List.take_succ_cons, List.take_zero, or_self, true_or, or_true, reduceCtorEq, List.length_append, List.map_append, List.map_cons, List.map_nil, List.drop_succ_cons, retQ, resL, finL, newL, flat, tupOf, List.toList_toArray, Tryd.f49]
    rw [fi_none _ _ fun j y hy => hpre j (by have := (List.getElem?_eq_some_iff.1 hy).1; omega) y hy]
    exact leT_one .rfl' (by simp)
end Go.Ab
