import Derived.Test.YtbhmgkbmlbbonaaDoorBC
set_option linter.unusedSimpArgs false
set_option linter.unusedVariables false
set_option maxRecDepth 100000
set_option maxHeartbeats 8000000
namespace Go.Ab
open Go Go.Proofs

/-! ### suspects -/
noncomputable def susP (h : List (List Int)) (good : List Int) (bad : Int) : List Int := (ancL h bad).filter fun c => good.all fun g => !isA h c g
noncomputable def susE (h : List (List Int)) (good : List Int) (bad : Int) : Int :=
  if hasked h (bad :: good) = 0 then (if (susP h good bad).length = 0 then 36 else if 12 < (susP h good bad).length then 4 else 0) else hasked h (bad :: good)
noncomputable def susV (h : List (List Int)) (good : List Int) (bad : Int) : List Int := if susE h good bad = 0 then susP h good bad else []
noncomputable def leftL (h : List (List Int)) (l : List Int) (at_ : Int) (is : Bool) : List Int := l.filter fun c => isA h c at_ == is
noncomputable def aftE (h : List (List Int)) (l : List Int) (at_ : Int) (is : Bool) : Int :=
  if scheck h l = 0 then (if at_ ∈ l then (if (leftL h l at_ is).length = 0 then 36 else 0) else 2) else scheck h l
noncomputable def aftV (h : List (List Int)) (l : List Int) (at_ : Int) (is : Bool) : List Int := if aftE h l at_ is = 0 then leftL h l at_ is else []

theorem hasked_nil {h : List (List Int)} : hasked h [] = hcheck h := by
  unfold hasked; split
  · rename_i e; simp [e]
  · rfl
theorem hasked_cons {h : List (List Int)} {x : Int} {l : List Int} : hasked h (x :: l) = 0 ↔ hasked h [x] = 0 ∧ hasked h l = 0 := by
  unfold hasked
  split
  · simp only [List.any_cons, List.any_nil, Bool.or_false]
    have key : ∀ b c : Bool, ((if (b || c) = true then (2:Int) else 0) = 0 ↔ (if b = true then (2:Int) else 0) = 0 ∧ (if c = true then (2:Int) else 0) = 0) := by decide
    exact key _ _
  · simp_all
theorem hasked_ne {h : List (List Int)} {x : Int} {l : List Int} (hx : hasked h [x] ≠ 0) (hm : x ∈ l) : hasked h l = hasked h [x] := by
  unfold hasked at *
  split at hx
  · rename_i e
    rw [if_pos e, if_pos e]
    simp only [List.any_cons, List.any_nil, Bool.or_false] at hx ⊢
    split at hx
    · rename_i e2
      rw [if_pos e2, if_pos (List.any_eq_true.2 ⟨x, hm, e2⟩)]
    · exact absurd rfl hx
  · rename_i e
    rw [if_neg e, if_neg e]
theorem hasked_all {h : List (List Int)} {l : List Int} (hz : hcheck h = 0) (h1 : ∀ x ∈ l, hasked h [x] = 0) : hasked h l = 0 := by
  induction l with
  | nil => rw [hasked_nil]; exact hz
  | cons x l ih => exact hasked_cons.2 ⟨h1 x (by simp), ih fun y hy => h1 y (by simp [hy])⟩
theorem hasked_hc {h : List (List Int)} {l : List Int} (h1 : hasked h l = 0) : hcheck h = 0 := (asked_of h1).1

open Classical in
theorem mem_ancL {h : List (List Int)} {x g : Int} (hg : hasked h [g] = 0) : x ∈ ancL h g ↔ isA h x g = true := by
  have hlen : (fromI h).length = h.length := by simp [fromI]
  rw [ancL, if_pos hg]
  have hc := hasked_hc hg
  obtain ⟨v1, v2, v3, v4⟩ := valid_of hc
  have hgb := (asked_of hg).2 g (by simp)
  unfold ancs
  constructor
  · intro hx
    obtain ⟨j, hj, rfl⟩ := (mem_lst _ 0 x).1 hx
    rw [Nat.zero_add, List.getElem?_map, Option.map_eq_some_iff] at *
    obtain ⟨k, hk, hk2⟩ := hj
    have hkl := (List.getElem?_eq_some_iff.1 hk).1
    simp at hkl
    rw [List.getElem?_range (by omega)] at hk
    cases hk
    have hq : hasked h [((j : Nat) : Int), g] = 0 := hasked_all hc fun y hy => by
      rcases List.mem_cons.1 hy with rfl | hy
      · unfold hasked; rw [if_pos hc, if_neg]; simp; omega
      · rw [List.mem_singleton.1 hy]; exact hg
    rw [isA, if_pos hq, decide_eq_true_iff]
    simpa using hk2
  · intro hx
    unfold isA at hx
    split at hx
    · rename_i hq
      rw [decide_eq_true_iff] at hx
      have hxb := (asked_of hq).2 x (by simp)
      refine (mem_lst _ 0 x).2 ⟨x.toNat, ?_, by omega⟩
      rw [List.getElem?_map, List.getElem?_range (by omega)]
      simp [hx]
    · cases hx
theorem ancL_len {h : List (List Int)} {g : Int} (hz : hcheck h = 0) : (ancL h g).length ≤ 24 := by
  obtain ⟨v1, v2, v3, v4⟩ := valid_of hz
  unfold ancL; split
  · have := lst_len (ancs (fromI h) [g.toNat]) 0
    rw [ancs_len] at this
    have hlen : (fromI h).length = h.length := by simp [fromI]
    omega
  · simp

theorem tzL : tz cx.P 23 = some (.lit (.slice none 0 0)) := by kernel_rfl
theorem susP_nil {h : List (List Int)} {bad : Int} : susP h [] bad = ancL h bad := by unfold susP; rw [List.filter_eq_self]; simp

section
variable (h : List (List Int)) (hl : h.length ≤ 9223372036854775807) (hp : ∀ p ∈ h, p.length ≤ 9223372036854775807)
include hl hp

theorem b_Suspects (good : List Int) (bad : Int) (hG : good.length ≤ 1000000) : CallSpec cx 11 [encLL h, encL good, i64 bad] (.tup [newI (susV h good bad), i64 (susE h good bad)]) := by
  refine callSpec_of_vc Tryd.func11 rfl (by decide) (by kernel_rfl) (Nat.le_of_ble_eq_true rfl) ?_
  try simp -dsimp (maxSteps := 2000000) (disch := first | omega | decide +kernel) only [↓vcl, ↓vcy, ↓vco, vck, gR, evl, evb, evBuiltin, evLen, evIdxA, evLoad, loadP, aggD, tis, i64, u32, bl, encL, encB, encLL, reduceIte, Nat.reduceEqDiff, forget, forget1, wantd, tzs, eve, evStore, evBox, evAlloc, evBuildSlice, evMakeSlice, evAppend, fillRows, zcells, elemsOf, putAll, PV.one, Nat.reduceAdd, Nat.reduceMul, Int.cast_ofNat_Int, Int.reduceEq, Int.reduceLT, Int.reduceLE, Nat.reduceLeDiff, List.reduceReplicate, reduceCtorEq, Tryd.f11]
  refine CallQ.thawT (s11n h hl hp bad) (by rfl) (by first | rfl | (simp -dsimp (maxSteps := 2000000) (disch := first | omega | decide +kernel) only [↓vcl, ↓vcy, ↓vco, vck, gR, evl, evb, evBuiltin, evLen, evIdxA, evLoad, loadP, aggD, tis, i64, u32, bl, encL, encB, encLL, reduceIte, Nat.reduceEqDiff, forget, forget1, wantd, tzs, eve, evStore, evBox, evAlloc, evBuildSlice, evMakeSlice, evAppend, fillRows, zcells, elemsOf, putAll, PV.one, Nat.reduceAdd, Nat.reduceMul, Int.cast_ofNat_Int, Int.reduceEq, Int.reduceLT, Int.reduceLE, Nat.reduceLeDiff, List.reduceReplicate, reduceCtorEq, drcs, drc, flat]; done)) (by first | exact .inl rfl | exact .inr (by simp [scal1, List.all_map, isLit, newI, newB, i64, bl]; done)) ?_
  cases hz : decide (hasked h [bad] = 0)
  · have hz' := of_decide_eq_false hz
    have e1 : hasked h (bad :: good) = hasked h [bad] := hasked_ne hz' (by simp)
    have e2 : susE h good bad = hasked h [bad] := by rw [susE, if_neg (by rw [e1]; exact hz'), e1]
    simp -dsimp (maxSteps := 2000000) (disch := first | omega | decide +kernel) only [↓vcl, ↓vcy, ↓vco, vck, gR, evl, evb, evBuiltin, evLen, evIdxA, evLoad, loadP, aggD, tis, i64, u32, bl, encL, encB, encLL, reduceIte, Nat.reduceEqDiff, forget, forget1, wantd, tzs, eve, evStore, evBox, evAlloc, evBuildSlice, evMakeSlice, evAppend, fillRows, zcells, elemsOf, putAll, PV.one, Nat.reduceAdd, Nat.reduceMul, Int.cast_ofNat_Int, Int.reduceEq, Int.reduceLT, Int.reduceLE, Nat.reduceLeDiff, List.reduceReplicate, reduceCtorEq, retQ, resL, finL, newL, flat, tupOf, List.toList_toArray, Tryd.f11, thw, newI, hz]
    refine ⟨.inr ⟨rfl, 1, ?_⟩, int_eq e2.symm, trivial⟩
    rw [susV, if_neg (by rw [e2]; exact hz')]; rfl
  have hz' := of_decide_eq_true hz
  have hc := hasked_hc hz'
  try simp -dsimp (maxSteps := 2000000) (disch := first | omega | decide +kernel) only [↓vcl, ↓vcy, ↓vco, vck, gR, evl, evb, evBuiltin, evLen, evIdxA, evLoad, loadP, aggD, tis, i64, u32, bl, encL, encB, encLL, reduceIte, Nat.reduceEqDiff, forget, forget1, wantd, tzs, eve, evStore, evBox, evAlloc, evBuildSlice, evMakeSlice, evAppend, fillRows, zcells, elemsOf, putAll, PV.one, Nat.reduceAdd, Nat.reduceMul, Int.cast_ofNat_Int, Int.reduceEq, Int.reduceLT, Int.reduceLE, Nat.reduceLeDiff, List.reduceReplicate, reduceCtorEq, Tryd.f11, thw, hz, newI]
  refine LoopQ.rule (fun m st => ∃ (i nx : Nat) (R : List Int), i ≤ good.length ∧ (∀ g ∈ good.take i, hasked h [g] = 0) ∧ R.length ≤ 24 ∧ R.take (susP h (good.take i) bad).length = susP h (good.take i) bad ∧ (susP h (good.take i) bad).length ≤ R.length ∧ 1 ≤ nx ∧ m = good.length - i ∧
    st = ⟨mkE [(0, encLL h), (1, encL good), (2, i64 bad), (8, .own 0 0 0 (susP h (good.take i) bad).length false), (23, encL good), (24, i64 good.length), (25, i64 i)], mkS [(0, .row 0 1 (R.map fun c => [i64 c]) false)], nx⟩) _ _ (weak_of ?_)
    ⟨0, 1, ancL h bad, by omega, by simp, ancL_len hc, by rw [List.take_zero, susP_nil, List.take_length], by rw [List.take_zero, susP_nil]; exact Nat.le_refl _, Nat.le_refl _, rfl, rfl⟩ ?_
  · first | (simp -dsimp (maxSteps := 2000000) (disch := first | omega | decide +kernel) only [↓vcl, ↓vcy, ↓vco, vck, gR, evl, evb, evBuiltin, evLen, evIdxA, evLoad, loadP, aggD, tis, i64, u32, bl, encL, encB, encLL, reduceIte, Nat.reduceEqDiff, forget, forget1, wantd, tzs, eve, evStore, evBox, evAlloc, evBuildSlice, evMakeSlice, evAppend, fillRows, zcells, elemsOf, putAll, PV.one, Nat.reduceAdd, Nat.reduceMul, Int.cast_ofNat_Int, Int.reduceEq, Int.reduceLT, Int.reduceLE, Nat.reduceLeDiff, List.reduceReplicate, reduceCtorEq, newI, thw, susP_nil, List.take_zero]; done) | simp -dsimp [evl, putN, i64, u32, bl, encL, encB, encLL, newI, thw, susP_nil, List.take_zero]
  rintro m st ⟨i, nx, R, hi, hpre, hRl, hRt, hRk, hnx, rfl, rfl⟩
  try simp -dsimp (maxSteps := 2000000) (disch := first | omega | decide +kernel) only [↓vcl, ↓vcy, ↓vco, vck, gR, evl, evb, evBuiltin, evLen, evIdxA, evLoad, loadP, aggD, tis, i64, u32, bl, encL, encB, encLL, reduceIte, Nat.reduceEqDiff, forget, forget1, wantd, tzs, eve, evStore, evBox, evAlloc, evBuildSlice, evMakeSlice, evAppend, fillRows, zcells, elemsOf, putAll, PV.one, Nat.reduceAdd, Nat.reduceMul, Int.cast_ofNat_Int, Int.reduceEq, Int.reduceLT, Int.reduceLE, Nat.reduceLeDiff, List.reduceReplicate, reduceCtorEq]
  refine onC_nlt (fun h2 => ?_) (fun h2 => ?_)
  · obtain ⟨g, hg, hgm⟩ := get_of_lt h2
    have hns : ((nx = 0) = False) ∧ ((0 = nx) = False) := by simp only [eq_iff_iff, iff_false]; omega
    try simp -dsimp (maxSteps := 2000000) (disch := first | omega | decide +kernel) only [↓vcl, ↓vcy, ↓vco, vck, gR, evl, evb, evBuiltin, evLen, evIdxA, evLoad, loadP, aggD, tis, i64, u32, bl, encL, encB, encLL, reduceIte, Nat.reduceEqDiff, forget, forget1, wantd, tzs, eve, evStore, evBox, evAlloc, evBuildSlice, evMakeSlice, evAppend, fillRows, zcells, elemsOf, putAll, PV.one, Nat.reduceAdd, Nat.reduceMul, Int.cast_ofNat_Int, Int.reduceEq, Int.reduceLT, Int.reduceLE, Nat.reduceLeDiff, List.reduceReplicate, reduceCtorEq, hg]
    refine CallQ.imm (s11 h hl hp g) (by rfl) (by first | rfl | (simp -dsimp (maxSteps := 2000000) (disch := first | omega | decide +kernel) only [↓vcl, ↓vcy, ↓vco, vck, gR, evl, evb, evBuiltin, evLen, evIdxA, evLoad, loadP, aggD, tis, i64, u32, bl, encL, encB, encLL, reduceIte, Nat.reduceEqDiff, forget, forget1, wantd, tzs, eve, evStore, evBox, evAlloc, evBuildSlice, evMakeSlice, evAppend, fillRows, zcells, elemsOf, putAll, PV.one, Nat.reduceAdd, Nat.reduceMul, Int.cast_ofNat_Int, Int.reduceEq, Int.reduceLT, Int.reduceLE, Nat.reduceLeDiff, List.reduceReplicate, reduceCtorEq, drcs, drc, flat, hns]; done) | simp -dsimp [evl, drcs, drc, flat, i64, u32, bl, encL, encB, encLL]) (by first | exact .inl rfl | exact .inr rfl | exact .inr scalB | exact .inr scalI | exact .inr scalT) ?_
    cases hzg : decide (hasked h [g] = 0)
    · have hzg' := of_decide_eq_false hzg
      have e1 : hasked h (bad :: good) = hasked h [g] := hasked_ne hzg' (by simp [hgm])
      have e2 : susE h good bad = hasked h [g] := by rw [susE, if_neg (by rw [e1]; exact hzg'), e1]
      simp -dsimp (maxSteps := 2000000) (disch := first | omega | decide +kernel) only [↓vcl, ↓vcy, ↓vco, vck, gR, evl, evb, evBuiltin, evLen, evIdxA, evLoad, loadP, aggD, tis, i64, u32, bl, encL, encB, encLL, reduceIte, Nat.reduceEqDiff, forget, forget1, wantd, tzs, eve, evStore, evBox, evAlloc, evBuildSlice, evMakeSlice, evAppend, fillRows, zcells, elemsOf, putAll, PV.one, Nat.reduceAdd, Nat.reduceMul, Int.cast_ofNat_Int, Int.reduceEq, Int.reduceLT, Int.reduceLE, Nat.reduceLeDiff, List.reduceReplicate, reduceCtorEq, retQ, resL, finL, newL, flat, tupOf, List.toList_toArray, Tryd.f11, hzg, hns, tzL, PV.cellsP]
      refine ⟨.inr ⟨rfl, 1, ?_⟩, int_eq e2.symm, trivial⟩
      rw [susV, if_neg (by rw [e2]; exact hzg')]; rfl
    have hzg' := of_decide_eq_true hzg
    have hgl := ancL_len (g := g) hc
    have hstep : ((R.take (susP h (good.take i) bad).length).filter fun c => !decide (c ∈ ancL h g)) = susP h (good.take (i + 1)) bad := by
      rw [hRt, take_succ hg]
      unfold susP
      rw [List.filter_filter]
      apply List.filter_congr
      intro c _
      rw [List.all_append, List.all_cons, List.all_nil, Bool.and_true]
      rw [show decide (c ∈ ancL h g) = isA h c g from by rw [Bool.eq_iff_iff, decide_eq_true_iff, mem_ancL hzg']]
      exact Bool.and_comm _ _
    try simp -dsimp (maxSteps := 2000000) (disch := first | omega | decide +kernel) only [↓vcl, ↓vcy, ↓vco, vck, gR, evl, evb, evBuiltin, evLen, evIdxA, evLoad, loadP, aggD, tis, i64, u32, bl, encL, encB, encLL, reduceIte, Nat.reduceEqDiff, forget, forget1, wantd, tzs, eve, evStore, evBox, evAlloc, evBuildSlice, evMakeSlice, evAppend, fillRows, zcells, elemsOf, putAll, PV.one, Nat.reduceAdd, Nat.reduceMul, Int.cast_ofNat_Int, Int.reduceEq, Int.reduceLT, Int.reduceLE, Nat.reduceLeDiff, List.reduceReplicate, reduceCtorEq, hzg, hns, tzL, PV.cellsP]
    refine CallQ.inm (b_Del (ancL h g) (by omega) _ _ 0 0 nx 0 false R (susP h (good.take i) bad).length hRk (by omega) (by simp -dsimp (maxSteps := 2000000) (disch := first | omega | decide +kernel) only [↓vcl, ↓vcy, ↓vco, vck, gR, evl, evb, evBuiltin, evLen, evIdxA, evLoad, loadP, aggD, tis, i64, u32, bl, encL, encB, encLL, reduceIte, Nat.reduceEqDiff, forget, forget1, wantd, tzs, eve, evStore, evBox, evAlloc, evBuildSlice, evMakeSlice, evAppend, fillRows, zcells, elemsOf, putAll, PV.one, Nat.reduceAdd, Nat.reduceMul, Int.cast_ofNat_Int, Int.reduceEq, Int.reduceLT, Int.reduceLE, Nat.reduceLeDiff, List.reduceReplicate, reduceCtorEq, hns, tzL]) (by simp -dsimp (maxSteps := 2000000) (disch := first | omega | decide +kernel) only [↓vcl, ↓vcy, ↓vco, vck, gR, evl, evb, evBuiltin, evLen, evIdxA, evLoad, loadP, aggD, tis, i64, u32, bl, encL, encB, encLL, reduceIte, Nat.reduceEqDiff, forget, forget1, wantd, tzs, eve, evStore, evBox, evAlloc, evBuildSlice, evMakeSlice, evAppend, fillRows, zcells, elemsOf, putAll, PV.one, Nat.reduceAdd, Nat.reduceMul, Int.cast_ofNat_Int, Int.reduceEq, Int.reduceLT, Int.reduceLE, Nat.reduceLeDiff, List.reduceReplicate, reduceCtorEq, hns, tzL]) (by omega)) (by rfl) ?_
    rintro r σ' nx' ⟨R', q1, q2, rfl, rfl, rfl⟩
    rw [hstep] at q2 ⊢
    try simp -dsimp (maxSteps := 2000000) (disch := first | omega | decide +kernel) only [↓vcl, ↓vcy, ↓vco, vck, gR, evl, evb, evBuiltin, evLen, evIdxA, evLoad, loadP, aggD, tis, i64, u32, bl, encL, encB, encLL, reduceIte, Nat.reduceEqDiff, forget, forget1, wantd, tzs, eve, evStore, evBox, evAlloc, evBuildSlice, evMakeSlice, evAppend, fillRows, zcells, elemsOf, putAll, PV.one, Nat.reduceAdd, Nat.reduceMul, Int.cast_ofNat_Int, Int.reduceEq, Int.reduceLT, Int.reduceLE, Nat.reduceLeDiff, List.reduceReplicate, reduceCtorEq, hns]
    refine ⟨_, _, ?_, weak_of ?_, i + 1, nx + 1, R', h2, ?_, by omega, q2, ?_, by omega, rfl, rfl⟩
    · omega
    · first | (simp -dsimp (maxSteps := 2000000) (disch := first | omega | decide +kernel) only [↓vcl, ↓vcy, ↓vco, vck, gR, evl, evb, evBuiltin, evLen, evIdxA, evLoad, loadP, aggD, tis, i64, u32, bl, encL, encB, encLL, reduceIte, Nat.reduceEqDiff, forget, forget1, wantd, tzs, eve, evStore, evBox, evAlloc, evBuildSlice, evMakeSlice, evAppend, fillRows, zcells, elemsOf, putAll, PV.one, Nat.reduceAdd, Nat.reduceMul, Int.cast_ofNat_Int, Int.reduceEq, Int.reduceLT, Int.reduceLE, Nat.reduceLeDiff, List.reduceReplicate, reduceCtorEq, wrapS h2 (show good.length ≤ 9223372036854775807 by omega), hns]; done) | simp -dsimp [evl, putN, i64, u32, bl, encL, encB, encLL, wrapS h2 (show good.length ≤ 9223372036854775807 by omega), hns]
    · intro y hy
      rw [take_succ hg] at hy
      rcases List.mem_append.1 hy with hy | hy
      · exact hpre y hy
      · rw [List.mem_singleton.1 hy]; exact hzg'
    · rw [← q2, List.length_take]; omega
  have hil : i = good.length := by omega
  subst hil
  rw [List.take_length] at *
  have hask : hasked h (bad :: good) = 0 := hasked_cons.2 ⟨hz', hasked_all hc hpre⟩
  have hE : susE h good bad = if (susP h good bad).length = 0 then 36 else if 12 < (susP h good bad).length then 4 else 0 := by rw [susE, if_pos hask]
  have hV : susE h good bad ≠ 0 → newI (susV h good bad) = .new 1 [] := fun hne => by rw [susV, if_neg hne]; rfl
  cases hA : decide (((susP h good bad).length : Int) = 0)
  case true =>
    have e3 : susE h good bad = 36 := by rw [hE, if_pos (by have := of_decide_eq_true hA; omega)]
    simp -dsimp (maxSteps := 2000000) (disch := first | omega | decide +kernel) only [↓vcl, ↓vcy, ↓vco, vck, gR, evl, evb, evBuiltin, evLen, evIdxA, evLoad, loadP, aggD, tis, i64, u32, bl, encL, encB, encLL, reduceIte, Nat.reduceEqDiff, forget, forget1, wantd, tzs, eve, evStore, evBox, evAlloc, evBuildSlice, evMakeSlice, evAppend, fillRows, zcells, elemsOf, putAll, PV.one, Nat.reduceAdd, Nat.reduceMul, Int.cast_ofNat_Int, Int.reduceEq, Int.reduceLT, Int.reduceLE, Nat.reduceLeDiff, List.reduceReplicate, reduceCtorEq, retQ, resL, finL, newL, flat, tupOf, List.toList_toArray, Tryd.f11, hA]
    exact ⟨.inr ⟨rfl, 1, hV (by rw [e3]; decide)⟩, int_eq e3.symm, trivial⟩
  cases hB : decide ((12 : Int) < ((susP h good bad).length : Int))
  case true =>
    have e3 : susE h good bad = 4 := by rw [hE, if_neg (by have := of_decide_eq_false hA; omega), if_pos (by have := of_decide_eq_true hB; omega)]
    simp -dsimp (maxSteps := 2000000) (disch := first | omega | decide +kernel) only [↓vcl, ↓vcy, ↓vco, vck, gR, evl, evb, evBuiltin, evLen, evIdxA, evLoad, loadP, aggD, tis, i64, u32, bl, encL, encB, encLL, reduceIte, Nat.reduceEqDiff, forget, forget1, wantd, tzs, eve, evStore, evBox, evAlloc, evBuildSlice, evMakeSlice, evAppend, fillRows, zcells, elemsOf, putAll, PV.one, Nat.reduceAdd, Nat.reduceMul, Int.cast_ofNat_Int, Int.reduceEq, Int.reduceLT, Int.reduceLE, Nat.reduceLeDiff, List.reduceReplicate, reduceCtorEq, retQ, resL, finL, newL, flat, tupOf, List.toList_toArray, Tryd.f11, hA, hB]
    exact ⟨.inr ⟨rfl, 1, hV (by rw [e3]; decide)⟩, int_eq e3.symm, trivial⟩
  have e3 : susE h good bad = 0 := by rw [hE, if_neg (by have := of_decide_eq_false hA; omega), if_neg (by have := of_decide_eq_false hB; omega)]
  simp -dsimp (maxSteps := 2000000) (disch := first | omega | decide +kernel) only [↓vcl, ↓vcy, ↓vco, vck, gR, evl, evb, evBuiltin, evLen, evIdxA, evLoad, loadP, aggD, tis, i64, u32, bl, encL, encB, encLL, reduceIte, Nat.reduceEqDiff, forget, forget1, wantd, tzs, eve, evStore, evBox, evAlloc, evBuildSlice, evMakeSlice, evAppend, fillRows, zcells, elemsOf, putAll, PV.one, Nat.reduceAdd, Nat.reduceMul, Int.cast_ofNat_Int, Int.reduceEq, Int.reduceLT, Int.reduceLE, Nat.reduceLeDiff, List.reduceReplicate, reduceCtorEq, retQ, resL, finL, newL, flat, tupOf, List.toList_toArray, Tryd.f11, hA, hB, hRk, ← List.map_take, hRt]
  refine ⟨?_, int_eq e3.symm, trivial⟩
  rw [susV, if_pos e3]
  exact .rfl'
end
end Go.Ab
