import Derived.Test.YtbhmgkbmlbbonaaDoorBT
set_option linter.unusedSimpArgs false
set_option linter.unusedVariables false
set_option maxRecDepth 100000
set_option maxHeartbeats 8000000
namespace Go.Ab
open Go Go.Proofs

/-! ### what may be computed -/
def hcheckC (h : List (List Int)) : Int := if 24 < h.length then 4 else if h.any (fun p => decide (2 < p.length)) = true then 4 else if (List.range h.length).any (fun i => badP i ((h[i]?).getD [])) = true then 8 else 0
theorem hcheck_c {h : List (List Int)} : hcheck h = hcheckC h := by
  have e : (∃ (i : Nat) (p : List Int), h[i]? = some p ∧ badP i p = true) ↔ (List.range h.length).any (fun i => badP i ((h[i]?).getD [])) = true := by
    rw [List.any_eq_true]
    constructor
    · rintro ⟨i, p, h1, h2⟩
      exact ⟨i, List.mem_range.2 (List.getElem?_eq_some_iff.1 h1).1, by rw [h1]; exact h2⟩
    · rintro ⟨i, h1, h2⟩
      have hi := List.mem_range.1 h1
      exact ⟨i, h[i], List.getElem?_eq_getElem hi, by rw [List.getElem?_eq_getElem hi] at h2; exact h2⟩
  unfold hcheck hcheckC
  by_cases he : ∃ (i : Nat) (p : List Int), h[i]? = some p ∧ badP i p = true
  · rw [if_pos he, if_pos (e.1 he)]
  · rw [if_neg he, if_neg fun h => he (e.2 h)]
def haskedC (h : List (List Int)) (l : List Int) : Int :=
  if hcheckC h = 0 then (if l.any (fun k => decide (k < 0) || decide ((h.length : Int) ≤ k)) = true then 2 else 0) else hcheckC h
theorem hasked_c {h : List (List Int)} {l : List Int} : hasked h l = haskedC h l := by unfold hasked haskedC; rw [hcheck_c]
def ancF (H : List (List Nat)) : Nat → Nat → Nat → Bool
  | 0, _, _ => false
  | f + 1, of, j => of == j || ((H[of]?).getD []).any fun k => ancF H f k j
theorem ancF_anc {H : List (List Nat)} (hv : Vd H) {j : Nat} : ∀ (f of : Nat), of < f → of < H.length → (ancF H f of j = true ↔ Anc H [of] j)
  | 0, _, h, _ => by omega
  | f + 1, of, h, hl => by
    have hp := List.getElem?_eq_getElem hl
    rw [anc_step hp]
    unfold ancF
    rw [hp, Bool.or_eq_true, List.any_eq_true, beq_iff_eq]
    constructor
    · rintro (e | ⟨k, h1, h2⟩)
      · exact .inl e.symm
      · have hk := hv of _ hp k h1
        exact .inr ⟨k, h1, (ancF_anc hv f k (by omega) (by omega)).1 h2⟩
    · rintro (e | ⟨k, h1, h2⟩)
      · exact .inl e.symm
      · have hk := hv of _ hp k h1
        exact .inr ⟨k, h1, (ancF_anc hv f k (by omega) (by omega)).2 h2⟩
def isAC (h : List (List Int)) (a of : Int) : Bool := if haskedC h [a, of] = 0 then ancF (fromI h) h.length of.toNat a.toNat else false
open Classical in
theorem isA_c {h : List (List Int)} : isA h = isAC h := by
  funext a of
  unfold isA isAC
  rw [hasked_c]
  split
  · rename_i e
    rw [← hasked_c] at e
    obtain ⟨h1, h2⟩ := asked_of e
    obtain ⟨h3, h4, h5, h6⟩ := valid_of h1
    have h7 := h2 of (by simp)
    have hfl : (fromI h).length = h.length := by simp [fromI]
    rw [Bool.eq_iff_iff, decide_eq_true_iff]
    exact (ancF_anc h5 _ _ (by omega) (by omega)).symm
  · rfl
def ancLC (h : List (List Int)) (of : Int) : List Int := if haskedC h [of] = 0 then lst 0 ((List.range h.length).map fun x => ancF (fromI h) h.length of.toNat x) else []
open Classical in
theorem ancL_c {h : List (List Int)} {of : Int} : ancL h of = ancLC h of := by
  unfold ancL ancLC
  rw [hasked_c]
  split
  · rename_i e
    rw [← hasked_c] at e
    obtain ⟨h1, h2⟩ := asked_of e
    obtain ⟨h3, h4, h5, h6⟩ := valid_of h1
    have h7 := h2 of (by simp)
    have hfl : (fromI h).length = h.length := by simp [fromI]
    unfold ancs
    rw [hfl]
    congr 1
    apply List.map_congr_left
    intro x hx
    rw [Bool.eq_iff_iff, decide_eq_true_iff]
    exact (ancF_anc h5 _ _ (by omega) (by omega)).symm
  · rfl
def scheckC (h : List (List Int)) (l : List Int) : Int :=
  if hcheckC h = 0 then (if 12 < l.length then 4 else if l.length = 0 then 2 else if sbad h.length l then 2 else 0) else hcheckC h
theorem scheck_c {h : List (List Int)} {l : List Int} : scheck h l = scheckC h l := by unfold scheck scheckC; rw [hcheck_c]
def susPC (h : List (List Int)) (good : List Int) (bad : Int) : List Int := (ancLC h bad).filter fun c => good.all fun g => !isAC h c g
def susEC (h : List (List Int)) (good : List Int) (bad : Int) : Int :=
  if haskedC h (bad :: good) = 0 then (if (susPC h good bad).length = 0 then 36 else if 12 < (susPC h good bad).length then 4 else 0) else haskedC h (bad :: good)
def susVC (h : List (List Int)) (good : List Int) (bad : Int) : List Int := if susEC h good bad = 0 then susPC h good bad else []
theorem susP_c {h : List (List Int)} {good : List Int} {bad : Int} : susP h good bad = susPC h good bad := by unfold susP susPC; rw [ancL_c, isA_c]
theorem susE_c {h : List (List Int)} {good : List Int} {bad : Int} : susE h good bad = susEC h good bad := by unfold susE susEC; rw [hasked_c, susP_c]
theorem susV_c {h : List (List Int)} {good : List Int} {bad : Int} : susV h good bad = susVC h good bad := by unfold susV susVC; rw [susE_c, susP_c]
def aftEC (h : List (List Int)) (l : List Int) (at_ : Int) (is : Bool) : Int :=
  if scheckC h l = 0 then (if at_ ∈ l then (if (l.filter fun c => isAC h c at_ == is).length = 0 then 36 else 0) else 2) else scheckC h l
def aftVC (h : List (List Int)) (l : List Int) (at_ : Int) (is : Bool) : List Int := if aftEC h l at_ is = 0 then l.filter fun c => isAC h c at_ == is else []
theorem aftE_c {h : List (List Int)} {l : List Int} {a : Int} {is : Bool} : aftE h l a is = aftEC h l a is := by unfold aftE aftEC leftL; rw [scheck_c, isA_c]
theorem aftV_c {h : List (List Int)} {l : List Int} {a : Int} {is : Bool} : aftV h l a is = aftVC h l a is := by unfold aftV aftVC leftL; rw [aftE_c, isA_c]
def depVC (h : List (List Int)) (l : List Int) : Int := if scheckC h l = 0 then D (isAC h) l else 0
def nxtEC (h : List (List Int)) (l : List Int) : Int := if scheckC h l = 0 then (if l.length = 1 then 30 else 0) else scheckC h l
def nxtVC (h : List (List Int)) (l : List Int) : Int := if nxtEC h l = 0 then nxt (isAC h) l else 0
def rnEC (h : List (List Int)) (l : List Int) (c : Int) : Int := if scheckC h l = 0 then (if c ∈ l then 0 else 2) else scheckC h l
def rnVC (h : List (List Int)) (l : List Int) (c : Int) : List Int := if rnEC h l c = 0 then runV (isAC h) l c else []
theorem depV_c {h : List (List Int)} {l : List Int} : depV h l = depVC h l := by unfold depV depVC; rw [scheck_c, isA_c]
theorem nxtE_c {h : List (List Int)} {l : List Int} : nxtE h l = nxtEC h l := by unfold nxtE nxtEC; rw [scheck_c]
theorem nxtV_c {h : List (List Int)} {l : List Int} : nxtV h l = nxtVC h l := by unfold nxtV nxtVC; rw [nxtE_c, isA_c]
theorem rnE_c {h : List (List Int)} {l : List Int} {c : Int} : rnE h l c = rnEC h l c := by unfold rnE rnEC; rw [scheck_c]
theorem rnV_c {h : List (List Int)} {l : List Int} {c : Int} : rnV h l c = rnVC h l c := by unfold rnV rnVC; rw [rnE_c, isA_c]

/-! ### contracts at given values -/
section
variable {h : List (List Int)} {l l' : List Int} {a e : Int} (H : h.length ≤ 24 ∧ (∀ p ∈ h, p.length ≤ 2)) (hL : l.length ≤ 1000000)
include H hL
theorem at_Susp (he : susEC h l a = e) (hv : susVC h l a = l') : CallSpec cx 11 [encLL h, encL l, i64 a] (.tup [newI l', i64 e]) := by
  have := b_Suspects h (by omega) (fun p hp => by have := H.2 p hp; omega) l a hL
  rw [susE_c, susV_c, he, hv] at this; exact this
theorem at_After {is : Bool} (he : aftEC h l a is = e) (hv : aftVC h l a is = l') : CallSpec cx 13 [encLL h, encL l, i64 a, bl is] (.tup [newI l', i64 e]) := by
  have := b_After h (by omega) (fun p hp => by have := H.2 p hp; omega) l a is hL
  rw [aftE_c, aftV_c, he, hv] at this; exact this
theorem at_Depth (he : scheckC h l = e) (hv : depVC h l = a) : CallSpec cx 16 [encLL h, encL l] (.tup [i64 a, i64 e]) := by
  have := b_Depth h l (by omega) (fun p hp => by have := H.2 p hp; omega) (by omega)
  rw [scheck_c, depV_c, he, hv] at this; exact this
theorem at_Next (he : nxtEC h l = e) (hv : nxtVC h l = a) : CallSpec cx 18 [encLL h, encL l] (.tup [i64 a, i64 e]) := by
  have := b_Next h l (by omega) (fun p hp => by have := H.2 p hp; omega) (by omega)
  rw [nxtE_c, nxtV_c, he, hv] at this; exact this
theorem at_Run (he : rnEC h l a = e) (hv : rnVC h l a = l') : CallSpec cx 20 [encLL h, encL l, i64 a] (.tup [newI l', i64 e]) := by
  have := b_Run h l (by omega) (fun p hp => by have := H.2 p hp; omega) (by omega) a
  rw [rnE_c, rnV_c, he, hv] at this; exact this
end

theorem l_alive : CallSpec cx 25 [] (bl true) := by
  have H5 : (lineH 5).length ≤ 24 ∧ (∀ p ∈ lineH 5, p.length ≤ 2) := by decide +kernel
  have S3 : (starH 3).length ≤ 24 ∧ (∀ p ∈ starH 3, p.length ≤ 2) := by decide +kernel
  have c1 := at_Susp (l := [0]) (a := 4) (e := 0) (l' := [1, 2, 3, 4]) H5 (by simp) (by decide +kernel) (by decide +kernel)
  have c2 := at_Depth (l := [1, 2, 3, 4]) (a := 2) (e := 0) H5 (by simp) (by decide +kernel) (by decide +kernel)
  have c3 := at_Next (l := [1, 2, 3, 4]) (a := 2) (e := 0) H5 (by simp) (by decide +kernel) (by decide +kernel)
  have c4 := at_After (l := [1, 2, 3, 4]) (a := 2) (is := true) (e := 0) (l' := [1, 2]) H5 (by simp) (by decide +kernel) (by decide +kernel)
  have c5 := at_Run (l := [1, 2, 3, 4]) (a := 3) (e := 0) (l' := [2, 3]) H5 (by simp) (by decide +kernel) (by decide +kernel)
  have c6 := at_Depth (l := [1, 2, 3]) (a := 2) (e := 0) S3 (by simp) (by decide +kernel) (by decide +kernel)
  refine callSpec_of_vc Tryd.func25 rfl (by decide) (by kernel_rfl) (Nat.le_of_ble_eq_true rfl) ?_
  try simp -dsimp (maxSteps := 2000000) (disch := first | omega | decide +kernel) only [↓vcl, ↓vcy, ↓vco, vck, gR, evl, evb, evBuiltin, evLen, evIdxA, evLoad, loadP, aggD, tis, i64, u32, bl, encL, encB, encLL, reduceIte, Nat.reduceEqDiff, forget, forget1, wantd, tzs, eve, evStore, evBox, evAlloc, evBuildSlice, evMakeSlice, evAppend, fillRows, zcells, elemsOf, putAll, PV.one, Nat.reduceAdd, Nat.reduceMul, Int.cast_ofNat_Int, Int.reduceEq, Int.reduceLT, Int.reduceLE, Nat.reduceLeDiff, List.reduceReplicate, reduceCtorEq, Tryd.f25]
  refine CallQ.imm (b_line 5 (by omega)) (by rfl) (by first | rfl | (simp -dsimp (maxSteps := 2000000) (disch := first | omega | decide +kernel) only [↓vcl, ↓vcy, ↓vco, vck, gR, evl, evb, evBuiltin, evLen, evIdxA, evLoad, loadP, aggD, tis, i64, u32, bl, encL, encB, encLL, reduceIte, Nat.reduceEqDiff, forget, forget1, wantd, tzs, eve, evStore, evBox, evAlloc, evBuildSlice, evMakeSlice, evAppend, fillRows, zcells, elemsOf, putAll, PV.one, Nat.reduceAdd, Nat.reduceMul, Int.cast_ofNat_Int, Int.reduceEq, Int.reduceLT, Int.reduceLE, Nat.reduceLeDiff, List.reduceReplicate, reduceCtorEq, drcs, drc, flat]; done) | simp -dsimp [evl, drcs, drc, flat, i64, u32, bl, encL, encB, encLL]) (by first | exact .inl rfl | exact .inr rfl | exact .inr scalB | exact .inr scalI | exact .inr scalT) ?_
  try simp -dsimp (maxSteps := 2000000) (disch := first | omega | decide +kernel) only [↓vcl, ↓vcy, ↓vco, vck, gR, evl, evb, evBuiltin, evLen, evIdxA, evLoad, loadP, aggD, tis, i64, u32, bl, encL, encB, encLL, reduceIte, Nat.reduceEqDiff, forget, forget1, wantd, tzs, eve, evStore, evBox, evAlloc, evBuildSlice, evMakeSlice, evAppend, fillRows, zcells, elemsOf, putAll, PV.one, Nat.reduceAdd, Nat.reduceMul, Int.cast_ofNat_Int, Int.reduceEq, Int.reduceLT, Int.reduceLE, Nat.reduceLeDiff, List.reduceReplicate, reduceCtorEq]
  refine CallQ.imm (c1) (by rfl) (by first | rfl | (simp -dsimp (maxSteps := 2000000) (disch := first | omega | decide +kernel) only [↓vcl, ↓vcy, ↓vco, vck, gR, evl, evb, evBuiltin, evLen, evIdxA, evLoad, loadP, aggD, tis, i64, u32, bl, encL, encB, encLL, reduceIte, Nat.reduceEqDiff, forget, forget1, wantd, tzs, eve, evStore, evBox, evAlloc, evBuildSlice, evMakeSlice, evAppend, fillRows, zcells, elemsOf, putAll, PV.one, Nat.reduceAdd, Nat.reduceMul, Int.cast_ofNat_Int, Int.reduceEq, Int.reduceLT, Int.reduceLE, Nat.reduceLeDiff, List.reduceReplicate, reduceCtorEq, drcs, drc, flat]; done) | simp -dsimp [evl, drcs, drc, flat, i64, u32, bl, encL, encB, encLL]) (by first | exact .inl rfl | exact .inr rfl | exact .inr scalB | exact .inr scalI | exact .inr scalT) ?_
  try simp -dsimp (maxSteps := 2000000) (disch := first | omega | decide +kernel) only [↓vcl, ↓vcy, ↓vco, vck, gR, evl, evb, evBuiltin, evLen, evIdxA, evLoad, loadP, aggD, tis, i64, u32, bl, encL, encB, encLL, reduceIte, Nat.reduceEqDiff, forget, forget1, wantd, tzs, eve, evStore, evBox, evAlloc, evBuildSlice, evMakeSlice, evAppend, fillRows, zcells, elemsOf, putAll, PV.one, Nat.reduceAdd, Nat.reduceMul, Int.cast_ofNat_Int, Int.reduceEq, Int.reduceLT, Int.reduceLE, Nat.reduceLeDiff, List.reduceReplicate, reduceCtorEq, newI_forget]
  refine CallQ.imm (b_line 5 (by omega)) (by rfl) (by first | rfl | (simp -dsimp (maxSteps := 2000000) (disch := first | omega | decide +kernel) only [↓vcl, ↓vcy, ↓vco, vck, gR, evl, evb, evBuiltin, evLen, evIdxA, evLoad, loadP, aggD, tis, i64, u32, bl, encL, encB, encLL, reduceIte, Nat.reduceEqDiff, forget, forget1, wantd, tzs, eve, evStore, evBox, evAlloc, evBuildSlice, evMakeSlice, evAppend, fillRows, zcells, elemsOf, putAll, PV.one, Nat.reduceAdd, Nat.reduceMul, Int.cast_ofNat_Int, Int.reduceEq, Int.reduceLT, Int.reduceLE, Nat.reduceLeDiff, List.reduceReplicate, reduceCtorEq, drcs, drc, flat]; done) | simp -dsimp [evl, drcs, drc, flat, i64, u32, bl, encL, encB, encLL]) (by first | exact .inl rfl | exact .inr rfl | exact .inr scalB | exact .inr scalI | exact .inr scalT) ?_
  try simp -dsimp (maxSteps := 2000000) (disch := first | omega | decide +kernel) only [↓vcl, ↓vcy, ↓vco, vck, gR, evl, evb, evBuiltin, evLen, evIdxA, evLoad, loadP, aggD, tis, i64, u32, bl, encL, encB, encLL, reduceIte, Nat.reduceEqDiff, forget, forget1, wantd, tzs, eve, evStore, evBox, evAlloc, evBuildSlice, evMakeSlice, evAppend, fillRows, zcells, elemsOf, putAll, PV.one, Nat.reduceAdd, Nat.reduceMul, Int.cast_ofNat_Int, Int.reduceEq, Int.reduceLT, Int.reduceLE, Nat.reduceLeDiff, List.reduceReplicate, reduceCtorEq]
  refine CallQ.imm (c2) (by rfl) (by first | rfl | (simp -dsimp (maxSteps := 2000000) (disch := first | omega | decide +kernel) only [↓vcl, ↓vcy, ↓vco, vck, gR, evl, evb, evBuiltin, evLen, evIdxA, evLoad, loadP, aggD, tis, i64, u32, bl, encL, encB, encLL, reduceIte, Nat.reduceEqDiff, forget, forget1, wantd, tzs, eve, evStore, evBox, evAlloc, evBuildSlice, evMakeSlice, evAppend, fillRows, zcells, elemsOf, putAll, PV.one, Nat.reduceAdd, Nat.reduceMul, Int.cast_ofNat_Int, Int.reduceEq, Int.reduceLT, Int.reduceLE, Nat.reduceLeDiff, List.reduceReplicate, reduceCtorEq, drcs, drc, flat]; done) | simp -dsimp [evl, drcs, drc, flat, i64, u32, bl, encL, encB, encLL]) (by first | exact .inl rfl | exact .inr rfl | exact .inr scalB | exact .inr scalI | exact .inr scalT) ?_
  try simp -dsimp (maxSteps := 2000000) (disch := first | omega | decide +kernel) only [↓vcl, ↓vcy, ↓vco, vck, gR, evl, evb, evBuiltin, evLen, evIdxA, evLoad, loadP, aggD, tis, i64, u32, bl, encL, encB, encLL, reduceIte, Nat.reduceEqDiff, forget, forget1, wantd, tzs, eve, evStore, evBox, evAlloc, evBuildSlice, evMakeSlice, evAppend, fillRows, zcells, elemsOf, putAll, PV.one, Nat.reduceAdd, Nat.reduceMul, Int.cast_ofNat_Int, Int.reduceEq, Int.reduceLT, Int.reduceLE, Nat.reduceLeDiff, List.reduceReplicate, reduceCtorEq, newI_forget]
  refine CallQ.imm (b_line 5 (by omega)) (by rfl) (by first | rfl | (simp -dsimp (maxSteps := 2000000) (disch := first | omega | decide +kernel) only [↓vcl, ↓vcy, ↓vco, vck, gR, evl, evb, evBuiltin, evLen, evIdxA, evLoad, loadP, aggD, tis, i64, u32, bl, encL, encB, encLL, reduceIte, Nat.reduceEqDiff, forget, forget1, wantd, tzs, eve, evStore, evBox, evAlloc, evBuildSlice, evMakeSlice, evAppend, fillRows, zcells, elemsOf, putAll, PV.one, Nat.reduceAdd, Nat.reduceMul, Int.cast_ofNat_Int, Int.reduceEq, Int.reduceLT, Int.reduceLE, Nat.reduceLeDiff, List.reduceReplicate, reduceCtorEq, drcs, drc, flat]; done) | simp -dsimp [evl, drcs, drc, flat, i64, u32, bl, encL, encB, encLL]) (by first | exact .inl rfl | exact .inr rfl | exact .inr scalB | exact .inr scalI | exact .inr scalT) ?_
  try simp -dsimp (maxSteps := 2000000) (disch := first | omega | decide +kernel) only [↓vcl, ↓vcy, ↓vco, vck, gR, evl, evb, evBuiltin, evLen, evIdxA, evLoad, loadP, aggD, tis, i64, u32, bl, encL, encB, encLL, reduceIte, Nat.reduceEqDiff, forget, forget1, wantd, tzs, eve, evStore, evBox, evAlloc, evBuildSlice, evMakeSlice, evAppend, fillRows, zcells, elemsOf, putAll, PV.one, Nat.reduceAdd, Nat.reduceMul, Int.cast_ofNat_Int, Int.reduceEq, Int.reduceLT, Int.reduceLE, Nat.reduceLeDiff, List.reduceReplicate, reduceCtorEq]
  refine CallQ.imm (c3) (by rfl) (by first | rfl | (simp -dsimp (maxSteps := 2000000) (disch := first | omega | decide +kernel) only [↓vcl, ↓vcy, ↓vco, vck, gR, evl, evb, evBuiltin, evLen, evIdxA, evLoad, loadP, aggD, tis, i64, u32, bl, encL, encB, encLL, reduceIte, Nat.reduceEqDiff, forget, forget1, wantd, tzs, eve, evStore, evBox, evAlloc, evBuildSlice, evMakeSlice, evAppend, fillRows, zcells, elemsOf, putAll, PV.one, Nat.reduceAdd, Nat.reduceMul, Int.cast_ofNat_Int, Int.reduceEq, Int.reduceLT, Int.reduceLE, Nat.reduceLeDiff, List.reduceReplicate, reduceCtorEq, drcs, drc, flat]; done) | simp -dsimp [evl, drcs, drc, flat, i64, u32, bl, encL, encB, encLL]) (by first | exact .inl rfl | exact .inr rfl | exact .inr scalB | exact .inr scalI | exact .inr scalT) ?_
  try simp -dsimp (maxSteps := 2000000) (disch := first | omega | decide +kernel) only [↓vcl, ↓vcy, ↓vco, vck, gR, evl, evb, evBuiltin, evLen, evIdxA, evLoad, loadP, aggD, tis, i64, u32, bl, encL, encB, encLL, reduceIte, Nat.reduceEqDiff, forget, forget1, wantd, tzs, eve, evStore, evBox, evAlloc, evBuildSlice, evMakeSlice, evAppend, fillRows, zcells, elemsOf, putAll, PV.one, Nat.reduceAdd, Nat.reduceMul, Int.cast_ofNat_Int, Int.reduceEq, Int.reduceLT, Int.reduceLE, Nat.reduceLeDiff, List.reduceReplicate, reduceCtorEq, newI_forget]
  refine CallQ.imm (b_line 5 (by omega)) (by rfl) (by first | rfl | (simp -dsimp (maxSteps := 2000000) (disch := first | omega | decide +kernel) only [↓vcl, ↓vcy, ↓vco, vck, gR, evl, evb, evBuiltin, evLen, evIdxA, evLoad, loadP, aggD, tis, i64, u32, bl, encL, encB, encLL, reduceIte, Nat.reduceEqDiff, forget, forget1, wantd, tzs, eve, evStore, evBox, evAlloc, evBuildSlice, evMakeSlice, evAppend, fillRows, zcells, elemsOf, putAll, PV.one, Nat.reduceAdd, Nat.reduceMul, Int.cast_ofNat_Int, Int.reduceEq, Int.reduceLT, Int.reduceLE, Nat.reduceLeDiff, List.reduceReplicate, reduceCtorEq, drcs, drc, flat]; done) | simp -dsimp [evl, drcs, drc, flat, i64, u32, bl, encL, encB, encLL]) (by first | exact .inl rfl | exact .inr rfl | exact .inr scalB | exact .inr scalI | exact .inr scalT) ?_
  try simp -dsimp (maxSteps := 2000000) (disch := first | omega | decide +kernel) only [↓vcl, ↓vcy, ↓vco, vck, gR, evl, evb, evBuiltin, evLen, evIdxA, evLoad, loadP, aggD, tis, i64, u32, bl, encL, encB, encLL, reduceIte, Nat.reduceEqDiff, forget, forget1, wantd, tzs, eve, evStore, evBox, evAlloc, evBuildSlice, evMakeSlice, evAppend, fillRows, zcells, elemsOf, putAll, PV.one, Nat.reduceAdd, Nat.reduceMul, Int.cast_ofNat_Int, Int.reduceEq, Int.reduceLT, Int.reduceLE, Nat.reduceLeDiff, List.reduceReplicate, reduceCtorEq]
  refine CallQ.imm (c4) (by rfl) (by first | rfl | (simp -dsimp (maxSteps := 2000000) (disch := first | omega | decide +kernel) only [↓vcl, ↓vcy, ↓vco, vck, gR, evl, evb, evBuiltin, evLen, evIdxA, evLoad, loadP, aggD, tis, i64, u32, bl, encL, encB, encLL, reduceIte, Nat.reduceEqDiff, forget, forget1, wantd, tzs, eve, evStore, evBox, evAlloc, evBuildSlice, evMakeSlice, evAppend, fillRows, zcells, elemsOf, putAll, PV.one, Nat.reduceAdd, Nat.reduceMul, Int.cast_ofNat_Int, Int.reduceEq, Int.reduceLT, Int.reduceLE, Nat.reduceLeDiff, List.reduceReplicate, reduceCtorEq, drcs, drc, flat]; done) | simp -dsimp [evl, drcs, drc, flat, i64, u32, bl, encL, encB, encLL]) (by first | exact .inl rfl | exact .inr rfl | exact .inr scalB | exact .inr scalI | exact .inr scalT) ?_
  try simp -dsimp (maxSteps := 2000000) (disch := first | omega | decide +kernel) only [↓vcl, ↓vcy, ↓vco, vck, gR, evl, evb, evBuiltin, evLen, evIdxA, evLoad, loadP, aggD, tis, i64, u32, bl, encL, encB, encLL, reduceIte, Nat.reduceEqDiff, forget, forget1, wantd, tzs, eve, evStore, evBox, evAlloc, evBuildSlice, evMakeSlice, evAppend, fillRows, zcells, elemsOf, putAll, PV.one, Nat.reduceAdd, Nat.reduceMul, Int.cast_ofNat_Int, Int.reduceEq, Int.reduceLT, Int.reduceLE, Nat.reduceLeDiff, List.reduceReplicate, reduceCtorEq, newI_forget]
  refine CallQ.imm (b_line 5 (by omega)) (by rfl) (by first | rfl | (simp -dsimp (maxSteps := 2000000) (disch := first | omega | decide +kernel) only [↓vcl, ↓vcy, ↓vco, vck, gR, evl, evb, evBuiltin, evLen, evIdxA, evLoad, loadP, aggD, tis, i64, u32, bl, encL, encB, encLL, reduceIte, Nat.reduceEqDiff, forget, forget1, wantd, tzs, eve, evStore, evBox, evAlloc, evBuildSlice, evMakeSlice, evAppend, fillRows, zcells, elemsOf, putAll, PV.one, Nat.reduceAdd, Nat.reduceMul, Int.cast_ofNat_Int, Int.reduceEq, Int.reduceLT, Int.reduceLE, Nat.reduceLeDiff, List.reduceReplicate, reduceCtorEq, drcs, drc, flat]; done) | simp -dsimp [evl, drcs, drc, flat, i64, u32, bl, encL, encB, encLL]) (by first | exact .inl rfl | exact .inr rfl | exact .inr scalB | exact .inr scalI | exact .inr scalT) ?_
  try simp -dsimp (maxSteps := 2000000) (disch := first | omega | decide +kernel) only [↓vcl, ↓vcy, ↓vco, vck, gR, evl, evb, evBuiltin, evLen, evIdxA, evLoad, loadP, aggD, tis, i64, u32, bl, encL, encB, encLL, reduceIte, Nat.reduceEqDiff, forget, forget1, wantd, tzs, eve, evStore, evBox, evAlloc, evBuildSlice, evMakeSlice, evAppend, fillRows, zcells, elemsOf, putAll, PV.one, Nat.reduceAdd, Nat.reduceMul, Int.cast_ofNat_Int, Int.reduceEq, Int.reduceLT, Int.reduceLE, Nat.reduceLeDiff, List.reduceReplicate, reduceCtorEq]
  refine CallQ.imm (c5) (by rfl) (by first | rfl | (simp -dsimp (maxSteps := 2000000) (disch := first | omega | decide +kernel) only [↓vcl, ↓vcy, ↓vco, vck, gR, evl, evb, evBuiltin, evLen, evIdxA, evLoad, loadP, aggD, tis, i64, u32, bl, encL, encB, encLL, reduceIte, Nat.reduceEqDiff, forget, forget1, wantd, tzs, eve, evStore, evBox, evAlloc, evBuildSlice, evMakeSlice, evAppend, fillRows, zcells, elemsOf, putAll, PV.one, Nat.reduceAdd, Nat.reduceMul, Int.cast_ofNat_Int, Int.reduceEq, Int.reduceLT, Int.reduceLE, Nat.reduceLeDiff, List.reduceReplicate, reduceCtorEq, drcs, drc, flat]; done) | simp -dsimp [evl, drcs, drc, flat, i64, u32, bl, encL, encB, encLL]) (by first | exact .inl rfl | exact .inr rfl | exact .inr scalB | exact .inr scalI | exact .inr scalT) ?_
  try simp -dsimp (maxSteps := 2000000) (disch := first | omega | decide +kernel) only [↓vcl, ↓vcy, ↓vco, vck, gR, evl, evb, evBuiltin, evLen, evIdxA, evLoad, loadP, aggD, tis, i64, u32, bl, encL, encB, encLL, reduceIte, Nat.reduceEqDiff, forget, forget1, wantd, tzs, eve, evStore, evBox, evAlloc, evBuildSlice, evMakeSlice, evAppend, fillRows, zcells, elemsOf, putAll, PV.one, Nat.reduceAdd, Nat.reduceMul, Int.cast_ofNat_Int, Int.reduceEq, Int.reduceLT, Int.reduceLE, Nat.reduceLeDiff, List.reduceReplicate, reduceCtorEq, newI_forget]
  refine CallQ.imm (b_star 3 (by omega)) (by rfl) (by first | rfl | (simp -dsimp (maxSteps := 2000000) (disch := first | omega | decide +kernel) only [↓vcl, ↓vcy, ↓vco, vck, gR, evl, evb, evBuiltin, evLen, evIdxA, evLoad, loadP, aggD, tis, i64, u32, bl, encL, encB, encLL, reduceIte, Nat.reduceEqDiff, forget, forget1, wantd, tzs, eve, evStore, evBox, evAlloc, evBuildSlice, evMakeSlice, evAppend, fillRows, zcells, elemsOf, putAll, PV.one, Nat.reduceAdd, Nat.reduceMul, Int.cast_ofNat_Int, Int.reduceEq, Int.reduceLT, Int.reduceLE, Nat.reduceLeDiff, List.reduceReplicate, reduceCtorEq, drcs, drc, flat]; done) | simp -dsimp [evl, drcs, drc, flat, i64, u32, bl, encL, encB, encLL]) (by first | exact .inl rfl | exact .inr rfl | exact .inr scalB | exact .inr scalI | exact .inr scalT) ?_
  try simp -dsimp (maxSteps := 2000000) (disch := first | omega | decide +kernel) only [↓vcl, ↓vcy, ↓vco, vck, gR, evl, evb, evBuiltin, evLen, evIdxA, evLoad, loadP, aggD, tis, i64, u32, bl, encL, encB, encLL, reduceIte, Nat.reduceEqDiff, forget, forget1, wantd, tzs, eve, evStore, evBox, evAlloc, evBuildSlice, evMakeSlice, evAppend, fillRows, zcells, elemsOf, putAll, PV.one, Nat.reduceAdd, Nat.reduceMul, Int.cast_ofNat_Int, Int.reduceEq, Int.reduceLT, Int.reduceLE, Nat.reduceLeDiff, List.reduceReplicate, reduceCtorEq, Nat.reduceLT, List.set_cons_succ, List.map_cons, List.map_nil]
  refine CallQ.imm (c6) (by rfl) (by first | rfl | (simp -dsimp (maxSteps := 2000000) (disch := first | omega | decide +kernel) only [↓vcl, ↓vcy, ↓vco, vck, gR, evl, evb, evBuiltin, evLen, evIdxA, evLoad, loadP, aggD, tis, i64, u32, bl, encL, encB, encLL, reduceIte, Nat.reduceEqDiff, forget, forget1, wantd, tzs, eve, evStore, evBox, evAlloc, evBuildSlice, evMakeSlice, evAppend, fillRows, zcells, elemsOf, putAll, PV.one, Nat.reduceAdd, Nat.reduceMul, Int.cast_ofNat_Int, Int.reduceEq, Int.reduceLT, Int.reduceLE, Nat.reduceLeDiff, List.reduceReplicate, reduceCtorEq, drcs, drc, flat]; done) | simp -dsimp [evl, drcs, drc, flat, i64, u32, bl, encL, encB, encLL]) (by first | exact .inl rfl | exact .inr rfl | exact .inr scalB | exact .inr scalI | exact .inr scalT) ?_
  try simp -dsimp (maxSteps := 2000000) (disch := first | omega | decide +kernel) only [↓vcl, ↓vcy, ↓vco, vck, gR, evl, evb, evBuiltin, evLen, evIdxA, evLoad, loadP, aggD, tis, i64, u32, bl, encL, encB, encLL, reduceIte, Nat.reduceEqDiff, forget, forget1, wantd, tzs, eve, evStore, evBox, evAlloc, evBuildSlice, evMakeSlice, evAppend, fillRows, zcells, elemsOf, putAll, PV.one, Nat.reduceAdd, Nat.reduceMul, Int.cast_ofNat_Int, Int.reduceEq, Int.reduceLT, Int.reduceLE, Nat.reduceLeDiff, List.reduceReplicate, reduceCtorEq, Nat.reduceLT, List.set_cons_succ, List.map_cons, List.map_nil]
  refine CallQ.imm (s21 [1, 2, 3, 4] [1, 2, 3, 4] (by decide)) (by rfl) (by first | rfl | (simp -dsimp (maxSteps := 2000000) (disch := first | omega | decide +kernel) only [↓vcl, ↓vcy, ↓vco, vck, gR, evl, evb, evBuiltin, evLen, evIdxA, evLoad, loadP, aggD, tis, i64, u32, bl, encL, encB, encLL, reduceIte, Nat.reduceEqDiff, forget, forget1, wantd, tzs, eve, evStore, evBox, evAlloc, evBuildSlice, evMakeSlice, evAppend, fillRows, zcells, elemsOf, putAll, PV.one, Nat.reduceAdd, Nat.reduceMul, Int.cast_ofNat_Int, Int.reduceEq, Int.reduceLT, Int.reduceLE, Nat.reduceLeDiff, List.reduceReplicate, reduceCtorEq, drcs, drc, flat]; done) | simp -dsimp [evl, drcs, drc, flat, i64, u32, bl, encL, encB, encLL]) (by first | exact .inl rfl | exact .inr rfl | exact .inr scalB | exact .inr scalI | exact .inr scalT) ?_
  try simp -dsimp (maxSteps := 2000000) (disch := first | omega | decide +kernel) only [↓vcl, ↓vcy, ↓vco, vck, gR, evl, evb, evBuiltin, evLen, evIdxA, evLoad, loadP, aggD, tis, i64, u32, bl, encL, encB, encLL, reduceIte, Nat.reduceEqDiff, forget, forget1, wantd, tzs, eve, evStore, evBox, evAlloc, evBuildSlice, evMakeSlice, evAppend, fillRows, zcells, elemsOf, putAll, PV.one, Nat.reduceAdd, Nat.reduceMul, Int.cast_ofNat_Int, Int.reduceEq, Int.reduceLT, Int.reduceLE, Nat.reduceLeDiff, List.reduceReplicate, reduceCtorEq, Nat.reduceLT, List.set_cons_succ, List.map_cons, List.map_nil]
  refine CallQ.imm (s21 [1, 2] [1, 2] (by decide)) (by rfl) (by first | rfl | (simp -dsimp (maxSteps := 2000000) (disch := first | omega | decide +kernel) only [↓vcl, ↓vcy, ↓vco, vck, gR, evl, evb, evBuiltin, evLen, evIdxA, evLoad, loadP, aggD, tis, i64, u32, bl, encL, encB, encLL, reduceIte, Nat.reduceEqDiff, forget, forget1, wantd, tzs, eve, evStore, evBox, evAlloc, evBuildSlice, evMakeSlice, evAppend, fillRows, zcells, elemsOf, putAll, PV.one, Nat.reduceAdd, Nat.reduceMul, Int.cast_ofNat_Int, Int.reduceEq, Int.reduceLT, Int.reduceLE, Nat.reduceLeDiff, List.reduceReplicate, reduceCtorEq, drcs, drc, flat]; done) | simp -dsimp [evl, drcs, drc, flat, i64, u32, bl, encL, encB, encLL]) (by first | exact .inl rfl | exact .inr rfl | exact .inr scalB | exact .inr scalI | exact .inr scalT) ?_
  try simp -dsimp (maxSteps := 2000000) (disch := first | omega | decide +kernel) only [↓vcl, ↓vcy, ↓vco, vck, gR, evl, evb, evBuiltin, evLen, evIdxA, evLoad, loadP, aggD, tis, i64, u32, bl, encL, encB, encLL, reduceIte, Nat.reduceEqDiff, forget, forget1, wantd, tzs, eve, evStore, evBox, evAlloc, evBuildSlice, evMakeSlice, evAppend, fillRows, zcells, elemsOf, putAll, PV.one, Nat.reduceAdd, Nat.reduceMul, Int.cast_ofNat_Int, Int.reduceEq, Int.reduceLT, Int.reduceLE, Nat.reduceLeDiff, List.reduceReplicate, reduceCtorEq, Nat.reduceLT, List.set_cons_succ, List.map_cons, List.map_nil]
  refine CallQ.imm (s21 [2, 3] [2, 3] (by decide)) (by rfl) (by first | rfl | (simp -dsimp (maxSteps := 2000000) (disch := first | omega | decide +kernel) only [↓vcl, ↓vcy, ↓vco, vck, gR, evl, evb, evBuiltin, evLen, evIdxA, evLoad, loadP, aggD, tis, i64, u32, bl, encL, encB, encLL, reduceIte, Nat.reduceEqDiff, forget, forget1, wantd, tzs, eve, evStore, evBox, evAlloc, evBuildSlice, evMakeSlice, evAppend, fillRows, zcells, elemsOf, putAll, PV.one, Nat.reduceAdd, Nat.reduceMul, Int.cast_ofNat_Int, Int.reduceEq, Int.reduceLT, Int.reduceLE, Nat.reduceLeDiff, List.reduceReplicate, reduceCtorEq, drcs, drc, flat]; done) | simp -dsimp [evl, drcs, drc, flat, i64, u32, bl, encL, encB, encLL]) (by first | exact .inl rfl | exact .inr rfl | exact .inr scalB | exact .inr scalI | exact .inr scalT) ?_
  simp -dsimp (maxSteps := 2000000) (disch := first | omega | decide +kernel) only [↓vcl, ↓vcy, ↓vco, vck, gR, evl, evb, evBuiltin, evLen, evIdxA, evLoad, loadP, aggD, tis, i64, u32, bl, encL, encB, encLL, reduceIte, Nat.reduceEqDiff, forget, forget1, wantd, tzs, eve, evStore, evBox, evAlloc, evBuildSlice, evMakeSlice, evAppend, fillRows, zcells, elemsOf, putAll, PV.one, Nat.reduceAdd, Nat.reduceMul, Int.cast_ofNat_Int, Int.reduceEq, Int.reduceLT, Int.reduceLE, Nat.reduceLeDiff, List.reduceReplicate, reduceCtorEq, retQ, resL, finL, newL, flat, tupOf, List.toList_toArray, Tryd.f25]
  exact leT_one .rfl' (by simp)
end Go.Ab
