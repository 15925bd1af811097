import Derived.Test.YtbhmgkbmlbbonaaDoorBO
set_option linter.unusedSimpArgs false
set_option linter.unusedVariables false
set_option maxRecDepth 100000
set_option maxHeartbeats 8000000
namespace Go.Ab
open Go Go.Proofs

theorem kor0 {R : Int → Int → Bool} {l : List Int} : Kor R l (List.replicate (2 ^ l.length) 0) := by
  refine ⟨List.length_replicate, fun s hs => .inl ?_⟩
  rw [List.getElem?_replicate, if_pos (bits_lt hs)]
theorem scheck_mk {h : List (List Int)} {l : List Int} (h1 : hcheck h = 0) (h2 : l.length ≤ 12) (h3 : l ≠ []) (h4 : ∀ c ∈ l, 0 ≤ c ∧ c < h.length) (h5 : l.Pairwise (· < ·)) : scheck h l = 0 := by
  have hp := List.length_pos_iff.2 h3
  unfold scheck
  rw [if_pos h1, if_neg (by omega), if_neg (by omega), sbad_no fun j hj => ?_]
  · rfl
  unfold sbad1
  have hx : l[j]? = some l[j] := List.getElem?_eq_getElem hj
  rw [hx]
  have hr := h4 l[j] (List.getElem_mem hj)
  have e1 : decide (l[j] < 0) = false := decide_eq_false (by omega)
  have e2 : decide ((h.length : Int) ≤ l[j]) = false := decide_eq_false (by omega)
  simp only [e1, e2, Bool.false_or]
  by_cases hj0 : 0 < j
  · have hd : l[j - 1]? = some l[j - 1] := List.getElem?_eq_getElem (by omega)
    have := List.pairwise_iff_getElem.1 h5 (j - 1) j (by omega) hj (by omega)
    rw [hd, decide_eq_true hj0]
    simp only [Bool.true_and]
    exact decide_eq_false (by omega)
  · rw [decide_eq_false hj0]; rfl
theorem scheck_sub {h : List (List Int)} {l t : List Int} (hz : scheck h l = 0) (hs : t.Sublist l) (ht : t ≠ []) : scheck h t = 0 := by
  obtain ⟨q1, q2, q3, q4, q5⟩ := scheck_in hz
  exact scheck_mk q1 (Nat.le_trans hs.length_le q2) ht (fun c hc => q4 c (hs.subset hc)) ((ok_isA hz).inc.sublist hs)
theorem nxt_at {R : Int → Int → Bool} {l : List Int} {i : Nat} {c : Int} (hc : l[i]? = some c) (hv : val R l c = some (D R l)) (hpre : ∀ j d, j < i → l[j]? = some d → val R l d ≠ some (D R l)) : nxt R l = c := by
  unfold nxt
  obtain ⟨hi, rfl⟩ := List.getElem?_eq_some_iff.1 hc
  have : l.find? (fun a => val R l a == some (D R l)) = some l[i] := by
    rw [List.find?_eq_some_iff_getElem]
    refine ⟨by simpa using hv, i, hi, rfl, fun j hj => ?_⟩
    have := hpre j l[j] hj (List.getElem?_eq_getElem (by omega))
    simpa using this
  rw [this]; rfl

section
variable (h : List (List Int)) (l : List Int) (hl : h.length ≤ 9223372036854775807) (hp : ∀ p ∈ h, p.length ≤ 9223372036854775807)
include hl hp

theorem r_Depth (hL : l.length ≤ 9223372036854775807) : CallSpec cx 17 [encLL h, encL l] (.tup [i64 (depV h l), i64 (scheck h l)]) := by
  refine callSpec_of_vc Tryd.func17 rfl (by decide) (by kernel_rfl) (Nat.le_of_ble_eq_true rfl) ?_
  try simp -dsimp (maxSteps := 2000000) (disch := first | omega | decide +kernel) only [↓vcl, ↓vcy, ↓vco, vck, gR, evl, evb, evBuiltin, evLen, evIdxA, evLoad, loadP, aggD, tis, i64, u32, bl, encL, encB, encLL, reduceIte, Nat.reduceEqDiff, forget, forget1, wantd, tzs, eve, evStore, evBox, evAlloc, evBuildSlice, evMakeSlice, evAppend, fillRows, zcells, elemsOf, putAll, PV.one, Nat.reduceAdd, Nat.reduceMul, Int.cast_ofNat_Int, Int.reduceEq, Int.reduceLT, Int.reduceLE, Nat.reduceLeDiff, List.reduceReplicate, reduceCtorEq, Tryd.f17]
  refine CallQ.imm (r_Check h l hl hp hL) (by rfl) (by first | rfl | (simp -dsimp (maxSteps := 2000000) (disch := first | omega | decide +kernel) only [↓vcl, ↓vcy, ↓vco, vck, gR, evl, evb, evBuiltin, evLen, evIdxA, evLoad, loadP, aggD, tis, i64, u32, bl, encL, encB, encLL, reduceIte, Nat.reduceEqDiff, forget, forget1, wantd, tzs, eve, evStore, evBox, evAlloc, evBuildSlice, evMakeSlice, evAppend, fillRows, zcells, elemsOf, putAll, PV.one, Nat.reduceAdd, Nat.reduceMul, Int.cast_ofNat_Int, Int.reduceEq, Int.reduceLT, Int.reduceLE, Nat.reduceLeDiff, List.reduceReplicate, reduceCtorEq, drcs, drc, flat]; done) | simp -dsimp [evl, drcs, drc, flat, i64, u32, bl, encL, encB, encLL]) (by first | exact .inl rfl | exact .inr rfl | exact .inr scalB | exact .inr scalI | exact .inr scalT) ?_
  cases hz : decide (scheck h l = 0)
  · have hz' := of_decide_eq_false hz
    simp -dsimp (maxSteps := 2000000) (disch := first | omega | decide +kernel) only [↓vcl, ↓vcy, ↓vco, vck, gR, evl, evb, evBuiltin, evLen, evIdxA, evLoad, loadP, aggD, tis, i64, u32, bl, encL, encB, encLL, reduceIte, Nat.reduceEqDiff, forget, forget1, wantd, tzs, eve, evStore, evBox, evAlloc, evBuildSlice, evMakeSlice, evAppend, fillRows, zcells, elemsOf, putAll, PV.one, Nat.reduceAdd, Nat.reduceMul, Int.cast_ofNat_Int, Int.reduceEq, Int.reduceLT, Int.reduceLE, Nat.reduceLeDiff, List.reduceReplicate, reduceCtorEq, retQ, resL, finL, newL, flat, tupOf, List.toList_toArray, Tryd.f17, hz]
    exact ⟨int_eq (by rw [depV, if_neg hz']), .rfl', trivial⟩
  have hz' := of_decide_eq_true hz
  obtain ⟨q1, q2, q3, q4, q5⟩ := scheck_in hz'
  have h1 := List.length_pos_iff.2 q3
  have hsh := fun {t x y} => iShl (C := cx) (t := t) (x := x) (y := y) q2
  have hwM : IntKind.i64.wrap (((1#64 <<< l.length).toNat : Int) - 1) = ((allM l.length).toNat : Int) := by
    have key : ∀ n : Fin 13, IntKind.i64.wrap (((1#64 <<< n.val).toNat : Int) - 1) = ((allM n.val).toNat : Int) := by decide +kernel
    exact key ⟨l.length, by omega⟩
  try simp -dsimp (maxSteps := 2000000) (disch := first | omega | decide +kernel) only [↓vcl, ↓vcy, ↓vco, vck, gR, evl, evb, evBuiltin, evLen, evIdxA, evLoad, loadP, aggD, tis, i64, u32, bl, encL, encB, encLL, reduceIte, Nat.reduceEqDiff, forget, forget1, wantd, tzs, eve, evStore, evBox, evAlloc, evBuildSlice, evMakeSlice, evAppend, fillRows, zcells, elemsOf, putAll, PV.one, Nat.reduceAdd, Nat.reduceMul, Int.cast_ofNat_Int, Int.reduceEq, Int.reduceLT, Int.reduceLE, Nat.reduceLeDiff, List.reduceReplicate, reduceCtorEq, hz]
  refine vc_regJ (fun _ => True) [3, 4, 5, 6] [2, 7] (by kernel_rfl) (by kernel_rfl) ?_ ?_
  · trivial
  try simp -dsimp (maxSteps := 2000000) (disch := first | omega | decide +kernel) only [↓vcl, ↓vcy, ↓vco, vck, gR, evl, evb, evBuiltin, evLen, evIdxA, evLoad, loadP, aggD, tis, i64, u32, bl, encL, encB, encLL, reduceIte, Nat.reduceEqDiff, forget, forget1, wantd, tzs, eve, evStore, evBox, evAlloc, evBuildSlice, evMakeSlice, evAppend, fillRows, zcells, elemsOf, putAll, PV.one, Nat.reduceAdd, Nat.reduceMul, Int.cast_ofNat_Int, Int.reduceEq, Int.reduceLT, Int.reduceLE, Nat.reduceLeDiff, List.reduceReplicate, reduceCtorEq, vcj]
  refine EffQ.inm (r_newTable h l hl hp hz') ⟨_, mkS [(1, .row 0 2 [[.own 2 0 0 l.length false, .own 0 0 0 (2 ^ l.length) false]] false), (2, .row 0 1 ((upsL h l).map fun x => [iw x]) false), (0, .row 0 1 ((List.replicate (2 ^ l.length) (0:Int)).map fun x => [i64 x]) false)], 3, rfl, 0, rfl, rfl, rfl⟩ (by rfl) ?_
  rintro r σ' nx' ⟨rfl, v, hT⟩
  refine ⟨.inr trivial, ?_⟩
  try simp -dsimp (maxSteps := 2000000) (disch := first | omega | decide +kernel) only [↓vcl, ↓vcy, ↓vco, vck, gR, evl, evb, evBuiltin, evLen, evIdxA, evLoad, loadP, aggD, tis, i64, u32, bl, encL, encB, encLL, reduceIte, Nat.reduceEqDiff, forget, forget1, wantd, tzs, eve, evStore, evBox, evAlloc, evBuildSlice, evMakeSlice, evAppend, fillRows, zcells, elemsOf, putAll, PV.one, Nat.reduceAdd, Nat.reduceMul, Int.cast_ofNat_Int, Int.reduceEq, Int.reduceLT, Int.reduceLE, Nat.reduceLeDiff, List.reduceReplicate, reduceCtorEq, vcj, implies_true, hsh, hwM]
  have hdep := (all_depr (isA h) l (upsL h l) v (ok_isA hz') q2 (by simp [upsL]) (ups_get q2) _ (allM l.length) rfl (fun i hi => by rw [allM_get q2] at hi; simpa using hi) (by rw [sel_all q2]; omega)).2 σ' nx' _ hT kor0
  rw [sel_all q2] at hdep
  refine EffQ.inm hdep ⟨_, _, _, rfl, rfl, _, kor0, rfl⟩ (by rfl) ?_
  rintro r σ2 nx2 ⟨rfl, rfl, K2, hK2, rfl⟩
  refine ⟨.inr trivial, ?_⟩
  simp -dsimp (maxSteps := 2000000) (disch := first | omega | decide +kernel) only [↓vcl, ↓vcy, ↓vco, vck, gR, evl, evb, evBuiltin, evLen, evIdxA, evLoad, loadP, aggD, tis, i64, u32, bl, encL, encB, encLL, reduceIte, Nat.reduceEqDiff, forget, forget1, wantd, tzs, eve, evStore, evBox, evAlloc, evBuildSlice, evMakeSlice, evAppend, fillRows, zcells, elemsOf, putAll, PV.one, Nat.reduceAdd, Nat.reduceMul, Int.cast_ofNat_Int, Int.reduceEq, Int.reduceLT, Int.reduceLE, Nat.reduceLeDiff, List.reduceReplicate, reduceCtorEq, retQ, resL, finL, newL, flat, tupOf, List.toList_toArray, vcj, Tryd.f17]
  exact ⟨int_eq (by rw [depV, if_pos hz']), int_eq hz'.symm, trivial⟩

theorem r_next (hz' : scheck h l = 0) (h2 : 2 ≤ l.length) : CallSpec cx 46 [encLL h, encL l] (i64 (nxt (isA h) l)) := by
  obtain ⟨q1, q2, q3, q4, q5⟩ := scheck_in hz'
  have hok := ok_isA hz'
  have hsh := fun {t x y} => iShl (C := cx) (t := t) (x := x) (y := y) q2
  have hwM : IntKind.i64.wrap (((1#64 <<< l.length).toNat : Int) - 1) = ((allM l.length).toNat : Int) := by
    have key : ∀ n : Fin 13, IntKind.i64.wrap (((1#64 <<< n.val).toNat : Int) - 1) = ((allM n.val).toNat : Int) := by decide +kernel
    exact key ⟨l.length, by omega⟩
  refine callSpec_of_vc Tryd.func46 rfl (by decide) (by kernel_rfl) (Nat.le_of_ble_eq_true rfl) ?_
  try simp -dsimp (maxSteps := 2000000) (disch := first | omega | decide +kernel) only [↓vcl, ↓vcy, ↓vco, vck, gR, evl, evb, evBuiltin, evLen, evIdxA, evLoad, loadP, aggD, tis, i64, u32, bl, encL, encB, encLL, reduceIte, Nat.reduceEqDiff, forget, forget1, wantd, tzs, eve, evStore, evBox, evAlloc, evBuildSlice, evMakeSlice, evAppend, fillRows, zcells, elemsOf, putAll, PV.one, Nat.reduceAdd, Nat.reduceMul, Int.cast_ofNat_Int, Int.reduceEq, Int.reduceLT, Int.reduceLE, Nat.reduceLeDiff, List.reduceReplicate, reduceCtorEq, Tryd.f46]
  refine CallQ.inm (r_newTable h l hl hp hz') (by rfl) ?_
  rintro r σ' nx' ⟨rfl, v, hT⟩
  have hall := all_depr (isA h) l (upsL h l) v hok q2 (by simp [upsL]) (ups_get q2) _ (allM l.length) rfl (fun i hi => by rw [allM_get q2] at hi; simpa using hi) (by rw [sel_all q2]; omega)
  have hdep := hall.2 σ' nx' _ hT kor0
  rw [sel_all q2] at hdep
  try simp -dsimp (maxSteps := 2000000) (disch := first | omega | decide +kernel) only [↓vcl, ↓vcy, ↓vco, vck, gR, evl, evb, evBuiltin, evLen, evIdxA, evLoad, loadP, aggD, tis, i64, u32, bl, encL, encB, encLL, reduceIte, Nat.reduceEqDiff, forget, forget1, wantd, tzs, eve, evStore, evBox, evAlloc, evBuildSlice, evMakeSlice, evAppend, fillRows, zcells, elemsOf, putAll, PV.one, Nat.reduceAdd, Nat.reduceMul, Int.cast_ofNat_Int, Int.reduceEq, Int.reduceLT, Int.reduceLE, Nat.reduceLeDiff, List.reduceReplicate, reduceCtorEq, hsh, hwM]
  refine CallQ.inm hdep (by rfl) ?_
  rintro r σ2 nx2 ⟨rfl, rfl, K2, hK2, rfl⟩
  try simp -dsimp (maxSteps := 2000000) (disch := first | omega | decide +kernel) only [↓vcl, ↓vcy, ↓vco, vck, gR, evl, evb, evBuiltin, evLen, evIdxA, evLoad, loadP, aggD, tis, i64, u32, bl, encL, encB, encLL, reduceIte, Nat.reduceEqDiff, forget, forget1, wantd, tzs, eve, evStore, evBox, evAlloc, evBuildSlice, evMakeSlice, evAppend, fillRows, zcells, elemsOf, putAll, PV.one, Nat.reduceAdd, Nat.reduceMul, Int.cast_ofNat_Int, Int.reduceEq, Int.reduceLT, Int.reduceLE, Nat.reduceLeDiff, List.reduceReplicate, reduceCtorEq]
  refine LoopQ.rule (fun m st => ∃ (i : Nat) (σ : Store) (nx : Nat) (K : List Int), i ≤ l.length ∧ Tst l (upsL h l) v σ K ∧ Kor (isA h) l K ∧ (∀ j d, j < i → l[j]? = some d → val (isA h) l d ≠ some (D (isA h) l)) ∧ m = l.length - i ∧
    st = ⟨mkE [(1, encL l), (5, .ptr 1 0 0 0), (6, iw (allM l.length)), (7, i64 (D (isA h) l)), (8, i64 i)], σ, nx⟩) _ _ (weak_ofS ?_)
    ⟨0, _, nx2, K2, by omega, hT.upd, hK2, fun j d hj => by omega, rfl, rfl⟩ ?_
  · first | (simp -dsimp (maxSteps := 2000000) (disch := first | omega | decide +kernel) only [↓vcl, ↓vcy, ↓vco, vck, gR, evl, evb, evBuiltin, evLen, evIdxA, evLoad, loadP, aggD, tis, i64, u32, bl, encL, encB, encLL, reduceIte, Nat.reduceEqDiff, forget, forget1, wantd, tzs, eve, evStore, evBox, evAlloc, evBuildSlice, evMakeSlice, evAppend, fillRows, zcells, elemsOf, putAll, PV.one, Nat.reduceAdd, Nat.reduceMul, Int.cast_ofNat_Int, Int.reduceEq, Int.reduceLT, Int.reduceLE, Nat.reduceLeDiff, List.reduceReplicate, reduceCtorEq, iw]; done) | simp -dsimp [evl, putN, i64, u32, bl, encL, encB, encLL, iw]
  rintro m st ⟨i, σ, nx, K, hi, hTi, hKi, hpre, rfl, rfl⟩
  try simp -dsimp (maxSteps := 2000000) (disch := first | omega | decide +kernel) only [↓vcl, ↓vcy, ↓vco, vck, gR, evl, evb, evBuiltin, evLen, evIdxA, evLoad, loadP, aggD, tis, i64, u32, bl, encL, encB, encLL, reduceIte, Nat.reduceEqDiff, forget, forget1, wantd, tzs, eve, evStore, evBox, evAlloc, evBuildSlice, evMakeSlice, evAppend, fillRows, zcells, elemsOf, putAll, PV.one, Nat.reduceAdd, Nat.reduceMul, Int.cast_ofNat_Int, Int.reduceEq, Int.reduceLT, Int.reduceLE, Nat.reduceLeDiff, List.reduceReplicate, reduceCtorEq]
  refine onC_nlt (fun h3 => ?_) (fun h3 => ?_)
  · obtain ⟨c, hc, hcm⟩ := get_of_lt h3
    have hvb : vbit (isA h) l (allM l.length) i = val (isA h) l c := by
      unfold vbit; rw [allM_get q2, if_pos (decide_eq_true h3), hc, sel_all q2]; rfl
    try simp -dsimp (maxSteps := 2000000) (disch := first | omega | decide +kernel) only [↓vcl, ↓vcy, ↓vco, vck, gR, evl, evb, evBuiltin, evLen, evIdxA, evLoad, loadP, aggD, tis, i64, u32, bl, encL, encB, encLL, reduceIte, Nat.reduceEqDiff, forget, forget1, wantd, tzs, eve, evStore, evBox, evAlloc, evBuildSlice, evMakeSlice, evAppend, fillRows, zcells, elemsOf, putAll, PV.one, Nat.reduceAdd, Nat.reduceMul, Int.cast_ofNat_Int, Int.reduceEq, Int.reduceLT, Int.reduceLE, Nat.reduceLeDiff, List.reduceReplicate, reduceCtorEq]
    refine CallQ.inm (hall.1 i h3 σ nx K hTi hKi) (by rfl) ?_
    rintro r σ3 nx3 ⟨rfl, rfl, K3, hK3, rfl⟩
    rw [hvb]
    by_cases hval : val (isA h) l c = some (D (isA h) l)
    · have hd : decide (oint (val (isA h) l c) = (D (isA h) l : Int)) = true := decide_eq_true (by rw [hval]; rfl)
      simp -dsimp (maxSteps := 2000000) (disch := first | omega | decide +kernel) only [↓vcl, ↓vcy, ↓vco, vck, gR, evl, evb, evBuiltin, evLen, evIdxA, evLoad, loadP, aggD, tis, i64, u32, bl, encL, encB, encLL, reduceIte, Nat.reduceEqDiff, forget, forget1, wantd, tzs, eve, evStore, evBox, evAlloc, evBuildSlice, evMakeSlice, evAppend, fillRows, zcells, elemsOf, putAll, PV.one, Nat.reduceAdd, Nat.reduceMul, Int.cast_ofNat_Int, Int.reduceEq, Int.reduceLT, Int.reduceLE, Nat.reduceLeDiff, List.reduceReplicate, reduceCtorEq, retQ, resL, finL, newL, flat, tupOf, List.toList_toArray, Tryd.f46, hd, hc]
      exact leT_one (int_eq (nxt_at hc hval hpre).symm) (by simp)
    · have hd : decide (oint (val (isA h) l c) = (D (isA h) l : Int)) = false := decide_eq_false fun e => hval (by
        cases hv : val (isA h) l c with
        | none => rw [hv] at e; simp only [oint] at e; omega
        | some d => rw [hv] at e; simp only [oint] at e; congr 1; omega)
      try simp -dsimp (maxSteps := 2000000) (disch := first | omega | decide +kernel) only [↓vcl, ↓vcy, ↓vco, vck, gR, evl, evb, evBuiltin, evLen, evIdxA, evLoad, loadP, aggD, tis, i64, u32, bl, encL, encB, encLL, reduceIte, Nat.reduceEqDiff, forget, forget1, wantd, tzs, eve, evStore, evBox, evAlloc, evBuildSlice, evMakeSlice, evAppend, fillRows, zcells, elemsOf, putAll, PV.one, Nat.reduceAdd, Nat.reduceMul, Int.cast_ofNat_Int, Int.reduceEq, Int.reduceLT, Int.reduceLE, Nat.reduceLeDiff, List.reduceReplicate, reduceCtorEq, hd]
      refine ⟨_, _, ?_, weak_ofS ?_, i + 1, _, nx3, K3, h3, hTi.upd, hK3, fun j d hj hd => ?_, rfl, rfl⟩
      · omega
      · first | (simp -dsimp (maxSteps := 2000000) (disch := first | omega | decide +kernel) only [↓vcl, ↓vcy, ↓vco, vck, gR, evl, evb, evBuiltin, evLen, evIdxA, evLoad, loadP, aggD, tis, i64, u32, bl, encL, encB, encLL, reduceIte, Nat.reduceEqDiff, forget, forget1, wantd, tzs, eve, evStore, evBox, evAlloc, evBuildSlice, evMakeSlice, evAppend, fillRows, zcells, elemsOf, putAll, PV.one, Nat.reduceAdd, Nat.reduceMul, Int.cast_ofNat_Int, Int.reduceEq, Int.reduceLT, Int.reduceLE, Nat.reduceLeDiff, List.reduceReplicate, reduceCtorEq, wrapS h3 (show l.length ≤ 9223372036854775807 by omega), iw]; done) | simp -dsimp [evl, putN, i64, u32, bl, encL, encB, encLL, wrapS h3 (show l.length ≤ 9223372036854775807 by omega), iw]
      · by_cases e : j = i
        · subst e; rw [hc] at hd; cases hd; exact hval
        · exact hpre j d (by omega) hd
  · exfalso
    obtain ⟨a, ha, hv⟩ := D_has hok h2
    obtain ⟨j, hj⟩ := List.getElem?_of_mem ha
    exact hpre j a (by have := (List.getElem?_eq_some_iff.1 hj).1; omega) hj hv

theorem r_Next (hL : l.length ≤ 9223372036854775807) : CallSpec cx 19 [encLL h, encL l] (.tup [i64 (nxtV h l), i64 (nxtE h l)]) := by
  refine callSpec_of_vc Tryd.func19 rfl (by decide) (by kernel_rfl) (Nat.le_of_ble_eq_true rfl) ?_
  try simp -dsimp (maxSteps := 2000000) (disch := first | omega | decide +kernel) only [↓vcl, ↓vcy, ↓vco, vck, gR, evl, evb, evBuiltin, evLen, evIdxA, evLoad, loadP, aggD, tis, i64, u32, bl, encL, encB, encLL, reduceIte, Nat.reduceEqDiff, forget, forget1, wantd, tzs, eve, evStore, evBox, evAlloc, evBuildSlice, evMakeSlice, evAppend, fillRows, zcells, elemsOf, putAll, PV.one, Nat.reduceAdd, Nat.reduceMul, Int.cast_ofNat_Int, Int.reduceEq, Int.reduceLT, Int.reduceLE, Nat.reduceLeDiff, List.reduceReplicate, reduceCtorEq, Tryd.f19]
  refine CallQ.imm (r_Check h l hl hp hL) (by rfl) (by first | rfl | (simp -dsimp (maxSteps := 2000000) (disch := first | omega | decide +kernel) only [↓vcl, ↓vcy, ↓vco, vck, gR, evl, evb, evBuiltin, evLen, evIdxA, evLoad, loadP, aggD, tis, i64, u32, bl, encL, encB, encLL, reduceIte, Nat.reduceEqDiff, forget, forget1, wantd, tzs, eve, evStore, evBox, evAlloc, evBuildSlice, evMakeSlice, evAppend, fillRows, zcells, elemsOf, putAll, PV.one, Nat.reduceAdd, Nat.reduceMul, Int.cast_ofNat_Int, Int.reduceEq, Int.reduceLT, Int.reduceLE, Nat.reduceLeDiff, List.reduceReplicate, reduceCtorEq, drcs, drc, flat]; done) | simp -dsimp [evl, drcs, drc, flat, i64, u32, bl, encL, encB, encLL]) (by first | exact .inl rfl | exact .inr rfl | exact .inr scalB | exact .inr scalI | exact .inr scalT) ?_
  cases hz : decide (scheck h l = 0)
  · have hz' := of_decide_eq_false hz
    have e : nxtE h l = scheck h l := by rw [nxtE, if_neg hz']
    simp -dsimp (maxSteps := 2000000) (disch := first | omega | decide +kernel) only [↓vcl, ↓vcy, ↓vco, vck, gR, evl, evb, evBuiltin, evLen, evIdxA, evLoad, loadP, aggD, tis, i64, u32, bl, encL, encB, encLL, reduceIte, Nat.reduceEqDiff, forget, forget1, wantd, tzs, eve, evStore, evBox, evAlloc, evBuildSlice, evMakeSlice, evAppend, fillRows, zcells, elemsOf, putAll, PV.one, Nat.reduceAdd, Nat.reduceMul, Int.cast_ofNat_Int, Int.reduceEq, Int.reduceLT, Int.reduceLE, Nat.reduceLeDiff, List.reduceReplicate, reduceCtorEq, retQ, resL, finL, newL, flat, tupOf, List.toList_toArray, Tryd.f19, hz]
    exact ⟨int_eq (by rw [nxtV, if_neg (by rw [e]; exact hz')]), int_eq e.symm, trivial⟩
  have hz' := of_decide_eq_true hz
  obtain ⟨q1, q2, q3, q4, q5⟩ := scheck_in hz'
  have h1 := List.length_pos_iff.2 q3
  by_cases hone : l.length = 1
  · have hd : decide ((l.length : Int) = 1) = true := decide_eq_true (by omega)
    have e : nxtE h l = 30 := by rw [nxtE, if_pos hz', if_pos hone]
    simp -dsimp (maxSteps := 2000000) (disch := first | omega | decide +kernel) only [↓vcl, ↓vcy, ↓vco, vck, gR, evl, evb, evBuiltin, evLen, evIdxA, evLoad, loadP, aggD, tis, i64, u32, bl, encL, encB, encLL, reduceIte, Nat.reduceEqDiff, forget, forget1, wantd, tzs, eve, evStore, evBox, evAlloc, evBuildSlice, evMakeSlice, evAppend, fillRows, zcells, elemsOf, putAll, PV.one, Nat.reduceAdd, Nat.reduceMul, Int.cast_ofNat_Int, Int.reduceEq, Int.reduceLT, Int.reduceLE, Nat.reduceLeDiff, List.reduceReplicate, reduceCtorEq, retQ, resL, finL, newL, flat, tupOf, List.toList_toArray, Tryd.f19, hz, hd]
    exact ⟨int_eq (by rw [nxtV, if_neg (by rw [e]; decide)]), int_eq e.symm, trivial⟩
  · have hd : decide ((l.length : Int) = 1) = false := decide_eq_false (by omega)
    have e : nxtE h l = 0 := by rw [nxtE, if_pos hz', if_neg hone]
    try simp -dsimp (maxSteps := 2000000) (disch := first | omega | decide +kernel) only [↓vcl, ↓vcy, ↓vco, vck, gR, evl, evb, evBuiltin, evLen, evIdxA, evLoad, loadP, aggD, tis, i64, u32, bl, encL, encB, encLL, reduceIte, Nat.reduceEqDiff, forget, forget1, wantd, tzs, eve, evStore, evBox, evAlloc, evBuildSlice, evMakeSlice, evAppend, fillRows, zcells, elemsOf, putAll, PV.one, Nat.reduceAdd, Nat.reduceMul, Int.cast_ofNat_Int, Int.reduceEq, Int.reduceLT, Int.reduceLE, Nat.reduceLeDiff, List.reduceReplicate, reduceCtorEq, hz, hd]
    refine CallQ.imm (r_next h l hl hp hz' (by omega)) (by rfl) (by first | rfl | (simp -dsimp (maxSteps := 2000000) (disch := first | omega | decide +kernel) only [↓vcl, ↓vcy, ↓vco, vck, gR, evl, evb, evBuiltin, evLen, evIdxA, evLoad, loadP, aggD, tis, i64, u32, bl, encL, encB, encLL, reduceIte, Nat.reduceEqDiff, forget, forget1, wantd, tzs, eve, evStore, evBox, evAlloc, evBuildSlice, evMakeSlice, evAppend, fillRows, zcells, elemsOf, putAll, PV.one, Nat.reduceAdd, Nat.reduceMul, Int.cast_ofNat_Int, Int.reduceEq, Int.reduceLT, Int.reduceLE, Nat.reduceLeDiff, List.reduceReplicate, reduceCtorEq, drcs, drc, flat]; done) | simp -dsimp [evl, drcs, drc, flat, i64, u32, bl, encL, encB, encLL]) (by first | exact .inl rfl | exact .inr rfl | exact .inr scalB | exact .inr scalI | exact .inr scalT) ?_
    simp -dsimp (maxSteps := 2000000) (disch := first | omega | decide +kernel) only [↓vcl, ↓vcy, ↓vco, vck, gR, evl, evb, evBuiltin, evLen, evIdxA, evLoad, loadP, aggD, tis, i64, u32, bl, encL, encB, encLL, reduceIte, Nat.reduceEqDiff, forget, forget1, wantd, tzs, eve, evStore, evBox, evAlloc, evBuildSlice, evMakeSlice, evAppend, fillRows, zcells, elemsOf, putAll, PV.one, Nat.reduceAdd, Nat.reduceMul, Int.cast_ofNat_Int, Int.reduceEq, Int.reduceLT, Int.reduceLE, Nat.reduceLeDiff, List.reduceReplicate, reduceCtorEq, retQ, resL, finL, newL, flat, tupOf, List.toList_toArray, Tryd.f19]
    exact ⟨int_eq (by rw [nxtV, if_pos e]), int_eq e.symm, trivial⟩

theorem r_Run (c : Int) (hL : l.length ≤ 9223372036854775807) : CallSpec cx 21 [encLL h, encL l, i64 c] (.tup [newI (rnV h l c), i64 (rnE h l c)]) := by
  refine callSpec_of_vc Tryd.func21 rfl (by decide) (by kernel_rfl) (Nat.le_of_ble_eq_true rfl) ?_
  try simp -dsimp (maxSteps := 2000000) (disch := first | omega | decide +kernel) only [↓vcl, ↓vcy, ↓vco, vck, gR, evl, evb, evBuiltin, evLen, evIdxA, evLoad, loadP, aggD, tis, i64, u32, bl, encL, encB, encLL, reduceIte, Nat.reduceEqDiff, forget, forget1, wantd, tzs, eve, evStore, evBox, evAlloc, evBuildSlice, evMakeSlice, evAppend, fillRows, zcells, elemsOf, putAll, PV.one, Nat.reduceAdd, Nat.reduceMul, Int.cast_ofNat_Int, Int.reduceEq, Int.reduceLT, Int.reduceLE, Nat.reduceLeDiff, List.reduceReplicate, reduceCtorEq, Tryd.f21]
  refine CallQ.imm (r_Check h l hl hp hL) (by rfl) (by first | rfl | (simp -dsimp (maxSteps := 2000000) (disch := first | omega | decide +kernel) only [↓vcl, ↓vcy, ↓vco, vck, gR, evl, evb, evBuiltin, evLen, evIdxA, evLoad, loadP, aggD, tis, i64, u32, bl, encL, encB, encLL, reduceIte, Nat.reduceEqDiff, forget, forget1, wantd, tzs, eve, evStore, evBox, evAlloc, evBuildSlice, evMakeSlice, evAppend, fillRows, zcells, elemsOf, putAll, PV.one, Nat.reduceAdd, Nat.reduceMul, Int.cast_ofNat_Int, Int.reduceEq, Int.reduceLT, Int.reduceLE, Nat.reduceLeDiff, List.reduceReplicate, reduceCtorEq, drcs, drc, flat]; done) | simp -dsimp [evl, drcs, drc, flat, i64, u32, bl, encL, encB, encLL]) (by first | exact .inl rfl | exact .inr rfl | exact .inr scalB | exact .inr scalI | exact .inr scalT) ?_
  cases hz : decide (scheck h l = 0)
  · have hz' := of_decide_eq_false hz
    have e : rnE h l c = scheck h l := by rw [rnE, if_neg hz']
    simp -dsimp (maxSteps := 2000000) (disch := first | omega | decide +kernel) only [↓vcl, ↓vcy, ↓vco, vck, gR, evl, evb, evBuiltin, evLen, evIdxA, evLoad, loadP, aggD, tis, i64, u32, bl, encL, encB, encLL, reduceIte, Nat.reduceEqDiff, forget, forget1, wantd, tzs, eve, evStore, evBox, evAlloc, evBuildSlice, evMakeSlice, evAppend, fillRows, zcells, elemsOf, putAll, PV.one, Nat.reduceAdd, Nat.reduceMul, Int.cast_ofNat_Int, Int.reduceEq, Int.reduceLT, Int.reduceLE, Nat.reduceLeDiff, List.reduceReplicate, reduceCtorEq, retQ, resL, finL, newL, flat, tupOf, List.toList_toArray, Tryd.f21, hz]
    refine ⟨.inr ⟨rfl, 1, ?_⟩, int_eq e.symm, trivial⟩
    rw [rnV, if_neg (by rw [e]; exact hz')]; rfl
  have hz' := of_decide_eq_true hz
  obtain ⟨q1, q2, q3, q4, q5⟩ := scheck_in hz'
  try simp -dsimp (maxSteps := 2000000) (disch := first | omega | decide +kernel) only [↓vcl, ↓vcy, ↓vco, vck, gR, evl, evb, evBuiltin, evLen, evIdxA, evLoad, loadP, aggD, tis, i64, u32, bl, encL, encB, encLL, reduceIte, Nat.reduceEqDiff, forget, forget1, wantd, tzs, eve, evStore, evBox, evAlloc, evBuildSlice, evMakeSlice, evAppend, fillRows, zcells, elemsOf, putAll, PV.one, Nat.reduceAdd, Nat.reduceMul, Int.cast_ofNat_Int, Int.reduceEq, Int.reduceLT, Int.reduceLE, Nat.reduceLeDiff, List.reduceReplicate, reduceCtorEq, hz]
  refine CallQ.imm (r_Has l c hL) (by rfl) (by first | rfl | (simp -dsimp (maxSteps := 2000000) (disch := first | omega | decide +kernel) only [↓vcl, ↓vcy, ↓vco, vck, gR, evl, evb, evBuiltin, evLen, evIdxA, evLoad, loadP, aggD, tis, i64, u32, bl, encL, encB, encLL, reduceIte, Nat.reduceEqDiff, forget, forget1, wantd, tzs, eve, evStore, evBox, evAlloc, evBuildSlice, evMakeSlice, evAppend, fillRows, zcells, elemsOf, putAll, PV.one, Nat.reduceAdd, Nat.reduceMul, Int.cast_ofNat_Int, Int.reduceEq, Int.reduceLT, Int.reduceLE, Nat.reduceLeDiff, List.reduceReplicate, reduceCtorEq, drcs, drc, flat]; done) | simp -dsimp [evl, drcs, drc, flat, i64, u32, bl, encL, encB, encLL]) (by first | exact .inl rfl | exact .inr rfl | exact .inr scalB | exact .inr scalI | exact .inr scalT) ?_
  cases hm : decide (c ∈ l)
  · have hm' := of_decide_eq_false hm
    have e : rnE h l c = 2 := by rw [rnE, if_pos hz', if_neg hm']
    simp -dsimp (maxSteps := 2000000) (disch := first | omega | decide +kernel) only [↓vcl, ↓vcy, ↓vco, vck, gR, evl, evb, evBuiltin, evLen, evIdxA, evLoad, loadP, aggD, tis, i64, u32, bl, encL, encB, encLL, reduceIte, Nat.reduceEqDiff, forget, forget1, wantd, tzs, eve, evStore, evBox, evAlloc, evBuildSlice, evMakeSlice, evAppend, fillRows, zcells, elemsOf, putAll, PV.one, Nat.reduceAdd, Nat.reduceMul, Int.cast_ofNat_Int, Int.reduceEq, Int.reduceLT, Int.reduceLE, Nat.reduceLeDiff, List.reduceReplicate, reduceCtorEq, retQ, resL, finL, newL, flat, tupOf, List.toList_toArray, Tryd.f21, uUn]
    refine ⟨.inr ⟨rfl, 1, ?_⟩, int_eq e.symm, trivial⟩
    rw [rnV, if_neg (by rw [e]; decide)]; rfl
  have hcm := of_decide_eq_true hm
  have e : rnE h l c = 0 := by rw [rnE, if_pos hz', if_pos hcm]
  have eV : rnV h l c = runV (isA h) l c := by rw [rnV, if_pos e]
  try simp -dsimp (maxSteps := 2000000) (disch := first | omega | decide +kernel) only [↓vcl, ↓vcy, ↓vco, vck, gR, evl, evb, evBuiltin, evLen, evIdxA, evLoad, loadP, aggD, tis, i64, u32, bl, encL, encB, encLL, reduceIte, Nat.reduceEqDiff, forget, forget1, wantd, tzs, eve, evStore, evBox, evAlloc, evBuildSlice, evMakeSlice, evAppend, fillRows, zcells, elemsOf, putAll, PV.one, Nat.reduceAdd, Nat.reduceMul, Int.cast_ofNat_Int, Int.reduceEq, Int.reduceLT, Int.reduceLE, Nat.reduceLeDiff, List.reduceReplicate, reduceCtorEq, uUn]
  refine LoopQ.ghost 9 1 (by rfl) ?_
  refine LoopQ.rule (fun m st => ∃ (ver nx : Nat) (s out : List Int), s.Sublist l ∧ c ∈ s ∧ out ++ runV (isA h) s c = runV (isA h) l c ∧ out.length + s.length ≤ l.length ∧ 1 ≤ nx ∧ m = s.length ∧
    st = ⟨mkE [(0, encLL h), (1, encL s), (2, i64 c), (9, .own 0 ver 0 out.length false)], mkS [(0, .row ver 1 (out.map fun c => [i64 c]) false)], nx⟩) _ _ (weak_of ?_)
    ⟨0, 1, l, [], .refl _, hcm, rfl, by simp, by omega, rfl, rfl⟩ ?_
  · first | (simp -dsimp (maxSteps := 2000000) (disch := first | omega | decide +kernel) only [↓vcl, ↓vcy, ↓vco, vck, gR, evl, evb, evBuiltin, evLen, evIdxA, evLoad, loadP, aggD, tis, i64, u32, bl, encL, encB, encLL, reduceIte, Nat.reduceEqDiff, forget, forget1, wantd, tzs, eve, evStore, evBox, evAlloc, evBuildSlice, evMakeSlice, evAppend, fillRows, zcells, elemsOf, putAll, PV.one, Nat.reduceAdd, Nat.reduceMul, Int.cast_ofNat_Int, Int.reduceEq, Int.reduceLT, Int.reduceLE, Nat.reduceLeDiff, List.reduceReplicate, reduceCtorEq, ghR]; done) | simp -dsimp [evl, putN, i64, u32, bl, encL, encB, encLL, ghR]
  rintro m st ⟨ver, nx, s, out, hsl, hcs, hout, hol, hnx, rfl, rfl⟩
  have hzs := scheck_sub hz' hsl (List.ne_nil_of_mem hcs)
  obtain ⟨p1, p2, p3, p4, p5⟩ := scheck_in hzs
  have hpos := List.length_pos_of_mem hcs
  by_cases hone : s.length ≤ 1
  · have hd : decide ((1 : Int) < (s.length : Int)) = false := decide_eq_false (by omega)
    rw [run_one hone, List.append_nil] at hout
    simp -dsimp (maxSteps := 2000000) (disch := first | omega | decide +kernel) only [↓vcl, ↓vcy, ↓vco, vck, gR, evl, evb, evBuiltin, evLen, evIdxA, evLoad, loadP, aggD, tis, i64, u32, bl, encL, encB, encLL, reduceIte, Nat.reduceEqDiff, forget, forget1, wantd, tzs, eve, evStore, evBox, evAlloc, evBuildSlice, evMakeSlice, evAppend, fillRows, zcells, elemsOf, putAll, PV.one, Nat.reduceAdd, Nat.reduceMul, Int.cast_ofNat_Int, Int.reduceEq, Int.reduceLT, Int.reduceLE, Nat.reduceLeDiff, List.reduceReplicate, reduceCtorEq, retQ, resL, finL, newL, flat, tupOf, List.toList_toArray, Tryd.f21, hd]
    refine ⟨?_, int_eq e.symm, trivial⟩
    rw [eV, ← hout]; exact .rfl'
  have hd : decide ((1 : Int) < (s.length : Int)) = true := decide_eq_true (by omega)
  have hns : ((nx = 0) = False) ∧ ((0 = nx) = False) := by simp only [eq_iff_iff, iff_false]; omega
  have hok := ok_isA hzs
  have hnm := (nxt_spec hok (by omega)).1
  have hin : ∀ d ∈ s, hasked h [d, nxt (isA h) s] = 0 := fun d hd => askN p1 fun y hy => by
    simp only [List.mem_cons, List.not_mem_nil, or_false] at hy
    rcases hy with rfl | rfl
    · exact p4 _ hd
    · exact p4 _ hnm
  have hbO : (out.length + 1) * 8 ≤ 140737488355328 := by omega
  have hlt2 := nxt_lt hok (show 2 ≤ s.length by omega) (isA h c (nxt (isA h) s))
  rw [run_step hok (by omega)] at hout
  try simp -dsimp (maxSteps := 2000000) (disch := first | omega | decide +kernel) only [↓vcl, ↓vcy, ↓vco, vck, gR, evl, evb, evBuiltin, evLen, evIdxA, evLoad, loadP, aggD, tis, i64, u32, bl, encL, encB, encLL, reduceIte, Nat.reduceEqDiff, forget, forget1, wantd, tzs, eve, evStore, evBox, evAlloc, evBuildSlice, evMakeSlice, evAppend, fillRows, zcells, elemsOf, putAll, PV.one, Nat.reduceAdd, Nat.reduceMul, Int.cast_ofNat_Int, Int.reduceEq, Int.reduceLT, Int.reduceLE, Nat.reduceLeDiff, List.reduceReplicate, reduceCtorEq, hd]
  refine CallQ.imm (r_next h s hl hp hzs (by omega)) (by rfl) (by first | rfl | (simp -dsimp (maxSteps := 2000000) (disch := first | omega | decide +kernel) only [↓vcl, ↓vcy, ↓vco, vck, gR, evl, evb, evBuiltin, evLen, evIdxA, evLoad, loadP, aggD, tis, i64, u32, bl, encL, encB, encLL, reduceIte, Nat.reduceEqDiff, forget, forget1, wantd, tzs, eve, evStore, evBox, evAlloc, evBuildSlice, evMakeSlice, evAppend, fillRows, zcells, elemsOf, putAll, PV.one, Nat.reduceAdd, Nat.reduceMul, Int.cast_ofNat_Int, Int.reduceEq, Int.reduceLT, Int.reduceLE, Nat.reduceLeDiff, List.reduceReplicate, reduceCtorEq, drcs, drc, flat, hns]; done) | simp -dsimp [evl, drcs, drc, flat, i64, u32, bl, encL, encB, encLL]) (by first | exact .inl rfl | exact .inr rfl | exact .inr scalB | exact .inr scalI | exact .inr scalT) ?_
  try simp -dsimp (maxSteps := 2000000) (disch := first | omega | decide +kernel) only [↓vcl, ↓vcy, ↓vco, vck, gR, evl, evb, evBuiltin, evLen, evIdxA, evLoad, loadP, aggD, tis, i64, u32, bl, encL, encB, encLL, reduceIte, Nat.reduceEqDiff, forget, forget1, wantd, tzs, eve, evStore, evBox, evAlloc, evBuildSlice, evMakeSlice, evAppend, fillRows, zcells, elemsOf, putAll, PV.one, Nat.reduceAdd, Nat.reduceMul, Int.cast_ofNat_Int, Int.reduceEq, Int.reduceLT, Int.reduceLE, Nat.reduceLeDiff, List.reduceReplicate, reduceCtorEq]
  refine CallQ.imm (s14 h hl hp c (nxt (isA h) s)) (by rfl) (by first | rfl | (simp -dsimp (maxSteps := 2000000) (disch := first | omega | decide +kernel) only [↓vcl, ↓vcy, ↓vco, vck, gR, evl, evb, evBuiltin, evLen, evIdxA, evLoad, loadP, aggD, tis, i64, u32, bl, encL, encB, encLL, reduceIte, Nat.reduceEqDiff, forget, forget1, wantd, tzs, eve, evStore, evBox, evAlloc, evBuildSlice, evMakeSlice, evAppend, fillRows, zcells, elemsOf, putAll, PV.one, Nat.reduceAdd, Nat.reduceMul, Int.cast_ofNat_Int, Int.reduceEq, Int.reduceLT, Int.reduceLE, Nat.reduceLeDiff, List.reduceReplicate, reduceCtorEq, drcs, drc, flat, hns]; done) | simp -dsimp [evl, drcs, drc, flat, i64, u32, bl, encL, encB, encLL]) (by first | exact .inl rfl | exact .inr rfl | exact .inr scalB | exact .inr scalI | exact .inr scalT) ?_
  try simp -dsimp (maxSteps := 2000000) (disch := first | omega | decide +kernel) only [↓vcl, ↓vcy, ↓vco, vck, gR, evl, evb, evBuiltin, evLen, evIdxA, evLoad, loadP, aggD, tis, i64, u32, bl, encL, encB, encLL, reduceIte, Nat.reduceEqDiff, forget, forget1, wantd, tzs, eve, evStore, evBox, evAlloc, evBuildSlice, evMakeSlice, evAppend, fillRows, zcells, elemsOf, putAll, PV.one, Nat.reduceAdd, Nat.reduceMul, Int.cast_ofNat_Int, Int.reduceEq, Int.reduceLT, Int.reduceLE, Nat.reduceLeDiff, List.reduceReplicate, reduceCtorEq]
  refine CallQ.imm (r_left h hl hp s (nxt (isA h) s) (isA h c (nxt (isA h) s)) (by omega) hin) (by rfl) (by first | rfl | (simp -dsimp (maxSteps := 2000000) (disch := first | omega | decide +kernel) only [↓vcl, ↓vcy, ↓vco, vck, gR, evl, evb, evBuiltin, evLen, evIdxA, evLoad, loadP, aggD, tis, i64, u32, bl, encL, encB, encLL, reduceIte, Nat.reduceEqDiff, forget, forget1, wantd, tzs, eve, evStore, evBox, evAlloc, evBuildSlice, evMakeSlice, evAppend, fillRows, zcells, elemsOf, putAll, PV.one, Nat.reduceAdd, Nat.reduceMul, Int.cast_ofNat_Int, Int.reduceEq, Int.reduceLT, Int.reduceLE, Nat.reduceLeDiff, List.reduceReplicate, reduceCtorEq, drcs, drc, flat, hns]; done) | simp -dsimp [evl, drcs, drc, flat, i64, u32, bl, encL, encB, encLL]) (by first | exact .inl rfl | exact .inr rfl | exact .inr scalB | exact .inr scalI | exact .inr scalT) ?_
  try simp -dsimp (maxSteps := 2000000) (disch := first | omega | decide +kernel) only [↓vcl, ↓vcy, ↓vco, vck, gR, evl, evb, evBuiltin, evLen, evIdxA, evLoad, loadP, aggD, tis, i64, u32, bl, encL, encB, encLL, reduceIte, Nat.reduceEqDiff, forget, forget1, wantd, tzs, eve, evStore, evBox, evAlloc, evBuildSlice, evMakeSlice, evAppend, fillRows, zcells, elemsOf, putAll, PV.one, Nat.reduceAdd, Nat.reduceMul, Int.cast_ofNat_Int, Int.reduceEq, Int.reduceLT, Int.reduceLE, Nat.reduceLeDiff, List.reduceReplicate, reduceCtorEq, newI_forget, hns, hbO]
  refine ⟨_, _, ?_, weak_of ?_, ver + 1, nx + 1, leftL h s (nxt (isA h) s) (isA h c (nxt (isA h) s)), out ++ [nxt (isA h) s], List.filter_sublist.trans hsl, ?_, ?_, ?_, by omega, rfl, rfl⟩
  · exact hlt2
  · first | (simp -dsimp (maxSteps := 2000000) (disch := first | omega | decide +kernel) only [↓vcl, ↓vcy, ↓vco, vck, gR, evl, evb, evBuiltin, evLen, evIdxA, evLoad, loadP, aggD, tis, i64, u32, bl, encL, encB, encLL, reduceIte, Nat.reduceEqDiff, forget, forget1, wantd, tzs, eve, evStore, evBox, evAlloc, evBuildSlice, evMakeSlice, evAppend, fillRows, zcells, elemsOf, putAll, PV.one, Nat.reduceAdd, Nat.reduceMul, Int.cast_ofNat_Int, Int.reduceEq, Int.reduceLT, Int.reduceLE, Nat.reduceLeDiff, List.reduceReplicate, reduceCtorEq, hns, newI]; done) | simp -dsimp [evl, putN, i64, u32, bl, encL, encB, encLL, hns, newI]
  · unfold leftL; rw [List.mem_filter]; exact ⟨hcs, by simp⟩
  · rw [List.append_assoc]; exact hout
  · have : (leftL h s (nxt (isA h) s) (isA h c (nxt (isA h) s))).length < s.length := hlt2
    simp; omega
end
end Go.Ab
