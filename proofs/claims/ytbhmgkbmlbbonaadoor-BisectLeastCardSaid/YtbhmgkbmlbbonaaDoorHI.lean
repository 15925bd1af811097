import Derived.Test.YtbhmgkbmlbbonaaDoorHH
set_option linter.unusedSimpArgs false
set_option linter.unusedVariables false
set_option maxRecDepth 100000
set_option maxHeartbeats 8000000
namespace Go.Ab
open Go Go.Proofs

def msk (f : Nat → Bool) : Nat → BitVec 32
  | 0 => 0#32
  | n + 1 => msk f n ||| (if f n then BitVec.twoPow 32 n else 0#32)
theorem msk_get {f : Nat → Bool} : ∀ (n j : Nat), n ≤ 32 → (msk f n).getLsbD j = (decide (j < n) && f j)
  | 0, j, _ => by simp [msk]
  | n + 1, j, h => by
    rw [msk, BitVec.getLsbD_or, msk_get n j (by omega)]
    by_cases e : j = n
    · subst e
      cases hf : f j
      · simp
      · simp [BitVec.getLsbD_twoPow]; omega
    · have e' : ¬ n = j := fun h => e h.symm
      have : decide (j < n + 1) = decide (j < n) := by rw [decide_eq_decide]; omega
      rw [this]
      split <;> simp [BitVec.getLsbD_twoPow, e']

open Classical in
noncomputable def ancW (H : List (List Nat)) (i : Nat) : BitVec 32 := msk (fun j => decide (Anc H [i] j)) 32
noncomputable def setsL (H : List (List Nat)) : List (BitVec 32) := (List.range H.length).map (ancW H)

theorem anc_lt {H : List (List Nat)} (hv : Vd H) {F : List Nat} {n : Nat} (hF : ∀ x ∈ F, x < n) {j : Nat} (h : Anc H F j) : j < n := by
  induction h with
  | base h => exact hF _ h
  | up _ h1 h2 ih => have := hv _ _ h1 _ h2; omega

theorem anc_trans {H : List (List Nat)} {F : List Nat} {k j : Nat} (h1 : Anc H F k) (h2 : Anc H [k] j) : Anc H F j := by
  induction h2 with
  | base h => simp at h; subst h; exact h1
  | up _ h3 h4 ih => exact .up ih h3 h4

theorem anc_step {H : List (List Nat)} {i j : Nat} {p : List Nat} (hp : H[i]? = some p) : Anc H [i] j ↔ j = i ∨ ∃ k ∈ p, Anc H [k] j := by
  constructor
  · intro h
    induction h with
    | base h => simp at h; exact .inl h
    | up _ h3 h4 ih =>
      rcases ih with rfl | ⟨k, hk, h5⟩
      · rw [hp] at h3; cases h3
        exact .inr ⟨_, h4, .base (by simp)⟩
      · exact .inr ⟨k, hk, .up h5 h3 h4⟩
  · rintro (rfl | ⟨k, hk, h⟩)
    · exact .base (by simp)
    · exact anc_trans (.up (.base (by simp)) hp hk) h

theorem ancW_get {H : List (List Nat)} {i j : Nat} : (ancW H i).getLsbD j = true ↔ j < 32 ∧ Anc H [i] j := by
  rw [ancW, msk_get _ _ (Nat.le_refl _)]
  simp

theorem s33 (H : List (List Nat)) (hv : Vd H) (hl : H.length ≤ 32) (hp : ∀ p ∈ H, p.length ≤ 9223372036854775807) :
    CallSpec cx 49 [encLL (toII H)] (.new 1 ((setsL H).map fun x => [w32 x])) := by
  refine callSpec_of_vc Tryd.func49 rfl (by decide) (by kernel_rfl) (Nat.le_of_ble_eq_true rfl) ?_
  have hbd : 1 * H.length ≤ 140737488355328 := by omega
  have hbd' : H.length ≤ 140737488355328 := by omega
  have hbd4 : 4 * H.length ≤ 140737488355328 := by omega
  try simp -dsimp (maxSteps := 2000000) (disch := first | omega | decide +kernel) only [↓vcl, ↓vcy, ↓vco, vck, gR, evl, evb, evBuiltin, evLen, evIdxA, evLoad, loadP, aggD, tis, i64, u32, bl, encL, encB, encLL, reduceIte, Nat.reduceEqDiff, forget, forget1, wantd, tzs, eve, evStore, evBox, evAlloc, evBuildSlice, evMakeSlice, evAppend, fillRows, zcells, elemsOf, putAll, PV.one, Nat.reduceAdd, Nat.reduceMul, Int.cast_ofNat_Int, Int.reduceEq, Int.reduceLT, Int.reduceLE, Nat.reduceLeDiff, List.reduceReplicate, reduceCtorEq, Tryd.f49, toII, hbd, hbd', hbd4]
  refine LoopQ.rule (fun m st => ∃ (i : Nat) (out : List (BitVec 32)), i ≤ H.length ∧ out.length = H.length ∧ (∀ j, j < i → out[j]? = some (ancW H j)) ∧ m = H.length - i ∧
    st = ⟨mkE [(3, .own 0 0 0 H.length false), (11, encLL (toII H)), (12, i64 H.length), (13, i64 i)], mkS [(0, .row 0 1 (out.map fun b => [w32 b]) false)], 1⟩) _ _ (weak_of ?_)
    ⟨0, List.replicate H.length 0#32, by omega, by simp, by omega, rfl, rfl⟩ ?_
  · first | (simp -dsimp (maxSteps := 2000000) (disch := first | omega | decide +kernel) only [↓vcl, ↓vcy, ↓vco, vck, gR, evl, evb, evBuiltin, evLen, evIdxA, evLoad, loadP, aggD, tis, i64, u32, bl, encL, encB, encLL, reduceIte, Nat.reduceEqDiff, forget, forget1, wantd, tzs, eve, evStore, evBox, evAlloc, evBuildSlice, evMakeSlice, evAppend, fillRows, zcells, elemsOf, putAll, PV.one, Nat.reduceAdd, Nat.reduceMul, Int.cast_ofNat_Int, Int.reduceEq, Int.reduceLT, Int.reduceLE, Nat.reduceLeDiff, List.reduceReplicate, reduceCtorEq, toII, w32]; done) | simp -dsimp [evl, putN, i64, u32, bl, encL, encB, encLL, toII, w32]
  rintro m st ⟨i, out, hi, hol, hout, rfl, rfl⟩
  try simp -dsimp (maxSteps := 2000000) (disch := first | omega | decide +kernel) only [↓vcl, ↓vcy, ↓vco, vck, gR, evl, evb, evBuiltin, evLen, evIdxA, evLoad, loadP, aggD, tis, i64, u32, bl, encL, encB, encLL, reduceIte, Nat.reduceEqDiff, forget, forget1, wantd, tzs, eve, evStore, evBox, evAlloc, evBuildSlice, evMakeSlice, evAppend, fillRows, zcells, elemsOf, putAll, PV.one, Nat.reduceAdd, Nat.reduceMul, Int.cast_ofNat_Int, Int.reduceEq, Int.reduceLT, Int.reduceLE, Nat.reduceLeDiff, List.reduceReplicate, reduceCtorEq]
  refine onC_nlt (fun h2 => ?_) (fun h2 => ?_)
  · obtain ⟨p, hip, hpm⟩ := get_of_lt (l := H) h2
    have hoi : out[i]? = some out[i] := List.getElem?_eq_getElem (by omega)
    try simp -dsimp (maxSteps := 2000000) (disch := first | omega | decide +kernel) only [↓vcl, ↓vcy, ↓vco, vck, gR, evl, evb, evBuiltin, evLen, evIdxA, evLoad, loadP, aggD, tis, i64, u32, bl, encL, encB, encLL, reduceIte, Nat.reduceEqDiff, forget, forget1, wantd, tzs, eve, evStore, evBox, evAlloc, evBuildSlice, evMakeSlice, evAppend, fillRows, zcells, elemsOf, putAll, PV.one, Nat.reduceAdd, Nat.reduceMul, Int.cast_ofNat_Int, Int.reduceEq, Int.reduceLT, Int.reduceLE, Nat.reduceLeDiff, List.reduceReplicate, reduceCtorEq, toII, hip, h2, hoi, w32, uRules, uShl]
    refine LoopQ.rule (fun m st => ∃ (c : Nat) (out : List (BitVec 32)) (v : BitVec 32), c ≤ p.length ∧ out.length = H.length ∧ (∀ j, j < i → out[j]? = some (ancW H j)) ∧ out[i]? = some v ∧
        (∀ j, v.getLsbD j = true ↔ j < 32 ∧ (j = i ∨ ∃ k ∈ p.take c, Anc H [k] j)) ∧ m = p.length - c ∧
      st = ⟨mkE [(3, .own 0 0 0 H.length false), (4, i64 i), (11, encLL (toII H)), (12, i64 H.length), (13, i64 i), (23, encL (toI p)), (24, i64 p.length), (25, i64 c)], mkS [(0, .row 0 1 (out.map fun b => [w32 b]) false)], 1⟩) _ _ (weak_of ?_)
      ⟨0, out.set i (1#32 <<< i), 1#32 <<< i, by omega, by simp [hol], fun j hj => by rw [List.getElem?_set_ne (by omega)]; exact hout j hj, by rw [List.getElem?_set_self (by omega)],
        fun j => by rw [show (1#32 <<< i) = BitVec.twoPow 32 i from by rw [BitVec.twoPow_eq], BitVec.getLsbD_twoPow]; simp; omega, rfl, rfl⟩ ?_
    · first | (simp -dsimp (maxSteps := 2000000) (disch := first | omega | decide +kernel) only [↓vcl, ↓vcy, ↓vco, vck, gR, evl, evb, evBuiltin, evLen, evIdxA, evLoad, loadP, aggD, tis, i64, u32, bl, encL, encB, encLL, reduceIte, Nat.reduceEqDiff, forget, forget1, wantd, tzs, eve, evStore, evBox, evAlloc, evBuildSlice, evMakeSlice, evAppend, fillRows, zcells, elemsOf, putAll, PV.one, Nat.reduceAdd, Nat.reduceMul, Int.cast_ofNat_Int, Int.reduceEq, Int.reduceLT, Int.reduceLE, Nat.reduceLeDiff, List.reduceReplicate, reduceCtorEq, toII, toI, w32, List.map_set]; done) | simp -dsimp [evl, putN, i64, u32, bl, encL, encB, encLL, toII, toI, w32, List.map_set]
    clear hol hout hoi out
    rintro m st ⟨c, out, v, hc, hol, hout, hoi, hv', rfl, rfl⟩
    try simp -dsimp (maxSteps := 2000000) (disch := first | omega | decide +kernel) only [↓vcl, ↓vcy, ↓vco, vck, gR, evl, evb, evBuiltin, evLen, evIdxA, evLoad, loadP, aggD, tis, i64, u32, bl, encL, encB, encLL, reduceIte, Nat.reduceEqDiff, forget, forget1, wantd, tzs, eve, evStore, evBox, evAlloc, evBuildSlice, evMakeSlice, evAppend, fillRows, zcells, elemsOf, putAll, PV.one, Nat.reduceAdd, Nat.reduceMul, Int.cast_ofNat_Int, Int.reduceEq, Int.reduceLT, Int.reduceLE, Nat.reduceLeDiff, List.reduceReplicate, reduceCtorEq, toI]
    refine onC_nlt (fun h4 => ?_) (fun h4 => ?_)
    · obtain ⟨q, hq, hqm⟩ := get_of_lt (l := p) h4
      have hqi : q < i := hv i p hip q hqm
      have hqH : q < H.length := by omega
      have hoq := hout q hqi
      try simp -dsimp (maxSteps := 2000000) (disch := first | omega | decide +kernel) only [↓vcl, ↓vcy, ↓vco, vck, gR, evl, evb, evBuiltin, evLen, evIdxA, evLoad, loadP, aggD, tis, i64, u32, bl, encL, encB, encLL, reduceIte, Nat.reduceEqDiff, forget, forget1, wantd, tzs, eve, evStore, evBox, evAlloc, evBuildSlice, evMakeSlice, evAppend, fillRows, zcells, elemsOf, putAll, PV.one, Nat.reduceAdd, Nat.reduceMul, Int.cast_ofNat_Int, Int.reduceEq, Int.reduceLT, Int.reduceLE, Nat.reduceLeDiff, List.reduceReplicate, reduceCtorEq, toI, hq, hqH, h2, hoq, hoi, w32, uRules, uBits]
      refine ⟨_, _, ?_, weak_of ?_, c + 1, out.set i (v ||| ancW H q), v ||| ancW H q, h4, by simp [hol], fun j hj => by rw [List.getElem?_set_ne (by omega)]; exact hout j hj, by rw [List.getElem?_set_self (by omega)], ?_, rfl, rfl⟩
      · omega
      · first | (simp -dsimp (maxSteps := 2000000) (disch := first | omega | decide +kernel) only [↓vcl, ↓vcy, ↓vco, vck, gR, evl, evb, evBuiltin, evLen, evIdxA, evLoad, loadP, aggD, tis, i64, u32, bl, encL, encB, encLL, reduceIte, Nat.reduceEqDiff, forget, forget1, wantd, tzs, eve, evStore, evBox, evAlloc, evBuildSlice, evMakeSlice, evAppend, fillRows, zcells, elemsOf, putAll, PV.one, Nat.reduceAdd, Nat.reduceMul, Int.cast_ofNat_Int, Int.reduceEq, Int.reduceLT, Int.reduceLE, Nat.reduceLeDiff, List.reduceReplicate, reduceCtorEq, toII, toI, w32, List.map_set, wrapS h4 (hp p hpm)]; done) | simp -dsimp [evl, putN, i64, u32, bl, encL, encB, encLL, toII, toI, w32, List.map_set, wrapS h4 (hp p hpm)]
      · intro j
        rw [BitVec.getLsbD_or, Bool.or_eq_true, hv', ancW_get, take_succ hq]
        constructor
        · rintro (⟨h5, h6 | ⟨k, h6, h7⟩⟩ | ⟨h5, h6⟩)
          · exact ⟨h5, .inl h6⟩
          · exact ⟨h5, .inr ⟨k, by simp [h6], h7⟩⟩
          · exact ⟨h5, .inr ⟨q, by simp, h6⟩⟩
        · rintro ⟨h5, h6 | ⟨k, h6, h7⟩⟩
          · exact .inl ⟨h5, .inl h6⟩
          · rw [List.mem_append] at h6
            rcases h6 with h6 | h6
            · exact .inl ⟨h5, .inr ⟨k, h6, h7⟩⟩
            · simp at h6; subst h6; exact .inr ⟨h5, h7⟩
    · have hvi : v = ancW H i := by
        apply BitVec.eq_of_getLsbD_eq
        intro j hj
        rw [Bool.eq_iff_iff, hv', ancW_get, anc_step hip, List.take_of_length_le (by omega)]
      try simp -dsimp (maxSteps := 2000000) (disch := first | omega | decide +kernel) only [↓vcl, ↓vcy, ↓vco, vck, gR, evl, evb, evBuiltin, evLen, evIdxA, evLoad, loadP, aggD, tis, i64, u32, bl, encL, encB, encLL, reduceIte, Nat.reduceEqDiff, forget, forget1, wantd, tzs, eve, evStore, evBox, evAlloc, evBuildSlice, evMakeSlice, evAppend, fillRows, zcells, elemsOf, putAll, PV.one, Nat.reduceAdd, Nat.reduceMul, Int.cast_ofNat_Int, Int.reduceEq, Int.reduceLT, Int.reduceLE, Nat.reduceLeDiff, List.reduceReplicate, reduceCtorEq]
      refine ⟨_, _, ?_, weak_of ?_, i + 1, out, h2, hol, fun j hj => ?_, rfl, rfl⟩
      · omega
      · first | (simp -dsimp (maxSteps := 2000000) (disch := first | omega | decide +kernel) only [↓vcl, ↓vcy, ↓vco, vck, gR, evl, evb, evBuiltin, evLen, evIdxA, evLoad, loadP, aggD, tis, i64, u32, bl, encL, encB, encLL, reduceIte, Nat.reduceEqDiff, forget, forget1, wantd, tzs, eve, evStore, evBox, evAlloc, evBuildSlice, evMakeSlice, evAppend, fillRows, zcells, elemsOf, putAll, PV.one, Nat.reduceAdd, Nat.reduceMul, Int.cast_ofNat_Int, Int.reduceEq, Int.reduceLT, Int.reduceLE, Nat.reduceLeDiff, List.reduceReplicate, reduceCtorEq, toII, w32, wrapS h2 (show H.length ≤ 9223372036854775807 by omega)]; done) | simp -dsimp [evl, putN, i64, u32, bl, encL, encB, encLL, toII, w32, wrapS h2 (show H.length ≤ 9223372036854775807 by omega)]
      · by_cases e : j = i
        · subst e; rw [hoi, hvi]
        · exact hout j (by omega)
  · have hfin : out = setsL H := by
      apply List.ext_getElem?
      intro j
      unfold setsL
      rw [List.getElem?_map]
      by_cases hj : j < H.length
      · rw [hout j (by omega), List.getElem?_range hj]; rfl
      · rw [List.getElem?_eq_none (by omega), List.getElem?_eq_none (by simp; omega)]; rfl
    simp -dsimp (maxSteps := 2000000) (disch := first | omega | decide +kernel) only [↓vcl, ↓vcy, ↓vco, vck, gR, evl, evb, evBuiltin, evLen, evIdxA, evLoad, loadP, aggD, tis, i64, u32, bl, encL, encB, encLL, reduceIte, Nat.reduceEqDiff, forget, forget1, wantd, tzs, eve, evStore, evBox, evAlloc, evBuildSlice, evMakeSlice, evAppend, fillRows, zcells, elemsOf, putAll, PV.one, Nat.reduceAdd, Nat.reduceMul, Int.cast_ofNat_Int, Int.reduceEq, Int.reduceLT, Int.reduceLE, Nat.reduceLeDiff, List.reduceReplicate, reduceCtorEq, retQ, resL, finL, newL, flat, tupOf, List.toList_toArray, Tryd.f49, ← hol, w32]
    refine leT_one ?_ (by simp)
    rw [hfin]; exact .rfl'
end Go.Ab
