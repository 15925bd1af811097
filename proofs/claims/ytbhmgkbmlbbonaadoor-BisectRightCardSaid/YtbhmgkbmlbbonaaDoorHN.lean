import Derived.Test.YtbhmgkbmlbbonaaDoorHI
set_option linter.unusedSimpArgs false
set_option linter.unusedVariables false
section
set_option maxRecDepth 100000
set_option maxHeartbeats 8000000
namespace Go.Ab
open Go Go.Proofs

def fromI (h : List (List Int)) : List (List Nat) := h.map fun p => p.map Int.toNat

theorem valid_of {h : List (List Int)} (hz : hcheck h = 0) : h.length ≤ 24 ∧ toII (fromI h) = h ∧ Vd (fromI h) ∧ (∀ p ∈ fromI h, p.length ≤ 2) := by
  unfold hcheck at hz
  split at hz
  · cases hz
  split at hz
  · cases hz
  split at hz
  · cases hz
  rename_i h1 h2 h3
  have hb : ∀ (i : Nat) (p : List Int), h[i]? = some p → ∀ k ∈ p, 0 ≤ k ∧ k < i := fun i p hi k hk => by
    apply Classical.byContradiction; intro hc
    apply h3
    refine ⟨i, p, hi, ?_⟩
    unfold badP
    rw [Bool.or_eq_true]; left
    rw [List.any_eq_true]
    exact ⟨k, hk, by simp; omega⟩
  have hl : ∀ p ∈ h, p.length ≤ 2 := fun p hp => by
    apply Classical.byContradiction; intro hc
    apply h2
    rw [List.any_eq_true]
    exact ⟨p, hp, by simp; omega⟩
  refine ⟨by omega, ?_, ?_, ?_⟩
  · unfold toII fromI toI
    rw [List.map_map]
    conv => rhs; rw [← List.map_id h]
    apply List.map_congr_left
    intro p hp
    obtain ⟨i, hi⟩ := List.getElem?_of_mem hp
    simp only [Function.comp, List.map_map, id]
    conv => rhs; rw [← List.map_id p]
    apply List.map_congr_left
    intro k hk
    have := hb i p hi k hk
    simp; omega
  · intro i p hi k hk
    unfold fromI at hi
    rw [List.getElem?_map, Option.map_eq_some_iff] at hi
    obtain ⟨p', h4, rfl⟩ := hi
    rw [List.mem_map] at hk
    obtain ⟨k', h5, rfl⟩ := hk
    have := hb i p' h4 k' h5
    omega
  · intro p hp
    unfold fromI at hp
    rw [List.mem_map] at hp
    obtain ⟨p', h4, rfl⟩ := hp
    rw [List.length_map]; exact hl p' h4

theorem asked_of {h : List (List Int)} {l : List Int} (hz : hasked h l = 0) : hcheck h = 0 ∧ ∀ x ∈ l, 0 ≤ x ∧ x < h.length := by
  unfold hasked at hz
  split at hz
  · rename_i h1
    refine ⟨h1, fun x hx => ?_⟩
    split at hz
    · cases hz
    · rename_i h2
      apply Classical.byContradiction; intro hc
      apply h2
      rw [List.any_eq_true]
      exact ⟨x, hx, by simp; omega⟩
  · exact absurd hz (by assumption)

noncomputable def ancL (h : List (List Int)) (of : Int) : List Int := if hasked h [of] = 0 then lst 0 (ancs (fromI h) [of.toNat]) else []

theorem lst_false : ∀ (n i : Nat), lst i (List.replicate n false) = []
  | 0, i => rfl
  | n + 1, i => by rw [List.replicate_succ]; simp [lst, lst_false n]
theorem lst_pad : ∀ (m : List Bool) (i n : Nat), lst i (m ++ List.replicate n false) = lst i m
  | [], i, n => lst_false n i
  | b :: m, i, n => by simp only [List.cons_append, lst, lst_pad m]

theorem bits_of {x : BitVec 32} {m : List Bool} (hm : m.length ≤ 32) (h : ∀ (j : Nat), x.getLsbD j = (m[j]?).getD false) : bitsL x = lst 0 m := by
  unfold bitsL
  rw [← lst_pad m 0 (32 - m.length)]
  congr 1
  apply List.ext_getElem?
  intro j
  rw [bitsB_get, h j]
  by_cases hj : j < m.length
  · rw [if_pos (by omega), List.getElem?_append_left hj, List.getElem?_eq_getElem hj]; rfl
  · rw [List.getElem?_append_right (by omega), List.getElem?_replicate, List.getElem?_eq_none (by omega)]
    by_cases h2 : j < 32
    · rw [if_pos h2, if_pos (by omega)]; rfl
    · rw [if_neg h2, if_neg (by omega)]

theorem ancs_get {H : List (List Nat)} {F : List Nat} {j : Nat} (hj : j < H.length) : ∃ b, (ancs H F)[j]? = some b ∧ (b = true ↔ Anc H F j) := by
  refine ⟨_, by unfold ancs; rw [List.getElem?_map, List.getElem?_range hj]; rfl, by simp⟩

theorem anc_bits {H : List (List Nat)} (hv : Vd H) {i : Nat} (hi : i < H.length) (hl : H.length ≤ 32) : bitsL (ancW H i) = lst 0 (ancs H [i]) := by
  apply bits_of (by simp [ancs]; omega)
  intro j
  rw [Bool.eq_iff_iff, ancW_get]
  by_cases hj : j < H.length
  · obtain ⟨b, h1, h2⟩ := ancs_get (F := [i]) hj
    rw [h1]; simp [h2]; intro; omega
  · rw [List.getElem?_eq_none (by simp [ancs]; omega)]
    simp
    intro h1 h2
    exact hj (anc_lt hv (F := [i]) (by simp [hi]) h2)

theorem setsL_get {H : List (List Nat)} {i : Nat} (hi : i < H.length) : (setsL H)[i]? = some (ancW H i) := by
  unfold setsL; rw [List.getElem?_map, List.getElem?_range hi]; rfl

theorem bit_at {x : BitVec 32} {a : Nat} : (x >>> a &&& 1#32 = 1#32) ↔ x.getLsbD a = true := by
  rw [BitVec.and_one_eq_setWidth_ofBool_getLsbD, BitVec.getLsbD_ushiftRight, Nat.add_zero]
  cases x.getLsbD a <;> decide
theorem s33' {h : List (List Int)} (hz : hcheck h = 0) : CallSpec cx 49 [encLL h] (.new 1 ((setsL (fromI h)).map fun x => [w32 x])) := by
  obtain ⟨v1, v2, v3, v4⟩ := valid_of hz
  have hlen : (fromI h).length = h.length := by simp [fromI]
  have := s33 (fromI h) v3 (by omega) (fun p hp => by have := v4 p hp; omega)
  rwa [v2] at this
theorem s36' {h : List (List Int)} (hz : hcheck h = 0) (F : List Nat) (hF : ∀ x ∈ F, x < h.length) (hFl : F.length ≤ 9223372036854775807) : CallSpec cx 55 [encLL h, encL (toI F)] (newB (ancs (fromI h) F)) := by
  obtain ⟨v1, v2, v3, v4⟩ := valid_of hz
  have hlen : (fromI h).length = h.length := by simp [fromI]
  have := s36 (fromI h) F v3 (fun x hx => by have := hF x hx; omega) (by omega) (fun p hp => by have := v4 p hp; omega) hFl
  rwa [v2] at this

section
variable (h : List (List Int)) (hl : h.length ≤ 9223372036854775807) (hp : ∀ p ∈ h, p.length ≤ 9223372036854775807)
include hl hp

theorem s11 (of : Int) : CallSpec cx 32 [encLL h, i64 of] (.tup [encL (ancL h of), i64 (hasked h [of])]) := by
  refine callSpec_of_vc Tryd.func32 rfl (by decide) (by kernel_rfl) (Nat.le_of_ble_eq_true rfl) ?_
  try simp -dsimp (maxSteps := 2000000) (disch := first | omega | decide +kernel) only [↓vcl, ↓vcy, ↓vco, vck, gR, evl, evb, evBuiltin, evLen, evIdxA, evLoad, loadP, aggD, tis, i64, u32, bl, encL, encB, encLL, reduceIte, Nat.reduceEqDiff, forget, forget1, wantd, tzs, eve, evStore, evBox, evAlloc, evBuildSlice, evMakeSlice, evAppend, fillRows, zcells, elemsOf, putAll, PV.one, Nat.reduceAdd, Nat.reduceMul, Int.cast_ofNat_Int, Int.reduceEq, Int.reduceLT, Int.reduceLE, Nat.reduceLeDiff, List.reduceReplicate, reduceCtorEq, Tryd.f32]
  refine CallQ.imm (s32 h [of] hl hp (by simp)) (by rfl) (by first | rfl | (simp -dsimp (maxSteps := 2000000) (disch := first | omega | decide +kernel) only [↓vcl, ↓vcy, ↓vco, vck, gR, evl, evb, evBuiltin, evLen, evIdxA, evLoad, loadP, aggD, tis, i64, u32, bl, encL, encB, encLL, reduceIte, Nat.reduceEqDiff, forget, forget1, wantd, tzs, eve, evStore, evBox, evAlloc, evBuildSlice, evMakeSlice, evAppend, fillRows, zcells, elemsOf, putAll, PV.one, Nat.reduceAdd, Nat.reduceMul, Int.cast_ofNat_Int, Int.reduceEq, Int.reduceLT, Int.reduceLE, Nat.reduceLeDiff, List.reduceReplicate, reduceCtorEq, drcs, drc, flat]; done) | simp -dsimp [evl, drcs, drc, flat, i64, u32, bl, encL, encB, encLL]) (by first | exact .inl rfl | exact .inr rfl | exact .inr scalB | exact .inr scalI | exact .inr scalT) ?_
  cases hz : decide (hasked h [of] = 0)
  · have hz' := of_decide_eq_false hz
    simp -dsimp (maxSteps := 2000000) (disch := first | omega | decide +kernel) only [↓vcl, ↓vcy, ↓vco, vck, gR, evl, evb, evBuiltin, evLen, evIdxA, evLoad, loadP, aggD, tis, i64, u32, bl, encL, encB, encLL, reduceIte, Nat.reduceEqDiff, forget, forget1, wantd, tzs, eve, evStore, evBox, evAlloc, evBuildSlice, evMakeSlice, evAppend, fillRows, zcells, elemsOf, putAll, PV.one, Nat.reduceAdd, Nat.reduceMul, Int.cast_ofNat_Int, Int.reduceEq, Int.reduceLT, Int.reduceLE, Nat.reduceLeDiff, List.reduceReplicate, reduceCtorEq, retQ, resL, finL, newL, flat, tupOf, List.toList_toArray, Tryd.f32, hz]
    refine ⟨.inl (.inr (.inr ⟨rfl, ?_⟩)), .rfl', trivial⟩
    rw [ancL, if_neg hz']; rfl
  · have hz' := of_decide_eq_true hz
    obtain ⟨g1, g2⟩ := asked_of hz'
    obtain ⟨v1, v2, v3, v4⟩ := valid_of g1
    have hof := g2 of (by simp)
    have hlen : (fromI h).length = h.length := by simp [fromI]
    obtain ⟨o, rfl⟩ : ∃ o : Nat, of = o := ⟨of.toNat, by omega⟩
    have ho : o < (fromI h).length := by omega
    have hget := setsL_get ho
    try simp -dsimp (maxSteps := 2000000) (disch := first | omega | decide +kernel) only [↓vcl, ↓vcy, ↓vco, vck, gR, evl, evb, evBuiltin, evLen, evIdxA, evLoad, loadP, aggD, tis, i64, u32, bl, encL, encB, encLL, reduceIte, Nat.reduceEqDiff, forget, forget1, wantd, tzs, eve, evStore, evBox, evAlloc, evBuildSlice, evMakeSlice, evAppend, fillRows, zcells, elemsOf, putAll, PV.one, Nat.reduceAdd, Nat.reduceMul, Int.cast_ofNat_Int, Int.reduceEq, Int.reduceLT, Int.reduceLE, Nat.reduceLeDiff, List.reduceReplicate, reduceCtorEq, Tryd.f32, hz]
    refine CallQ.imm (s33' g1) (by rfl) (by first | rfl | (simp -dsimp (maxSteps := 2000000) (disch := first | omega | decide +kernel) only [↓vcl, ↓vcy, ↓vco, vck, gR, evl, evb, evBuiltin, evLen, evIdxA, evLoad, loadP, aggD, tis, i64, u32, bl, encL, encB, encLL, reduceIte, Nat.reduceEqDiff, forget, forget1, wantd, tzs, eve, evStore, evBox, evAlloc, evBuildSlice, evMakeSlice, evAppend, fillRows, zcells, elemsOf, putAll, PV.one, Nat.reduceAdd, Nat.reduceMul, Int.cast_ofNat_Int, Int.reduceEq, Int.reduceLT, Int.reduceLE, Nat.reduceLeDiff, List.reduceReplicate, reduceCtorEq, drcs, drc, flat]; done) | simp -dsimp [evl, drcs, drc, flat, i64, u32, bl, encL, encB, encLL]) (by first | exact .inl rfl | exact .inr rfl | exact .inr scalB | exact .inr scalI | exact .inr scalT) ?_
    try simp -dsimp (maxSteps := 2000000) (disch := first | omega | decide +kernel) only [↓vcl, ↓vcy, ↓vco, vck, gR, evl, evb, evBuiltin, evLen, evIdxA, evLoad, loadP, aggD, tis, i64, u32, bl, encL, encB, encLL, reduceIte, Nat.reduceEqDiff, forget, forget1, wantd, tzs, eve, evStore, evBox, evAlloc, evBuildSlice, evMakeSlice, evAppend, fillRows, zcells, elemsOf, putAll, PV.one, Nat.reduceAdd, Nat.reduceMul, Int.cast_ofNat_Int, Int.reduceEq, Int.reduceLT, Int.reduceLE, Nat.reduceLeDiff, List.reduceReplicate, reduceCtorEq, hget]
    refine CallQ.imm (s34 (ancW (fromI h) o)) (by rfl) (by first | rfl | (simp -dsimp (maxSteps := 2000000) (disch := first | omega | decide +kernel) only [↓vcl, ↓vcy, ↓vco, vck, gR, evl, evb, evBuiltin, evLen, evIdxA, evLoad, loadP, aggD, tis, i64, u32, bl, encL, encB, encLL, reduceIte, Nat.reduceEqDiff, forget, forget1, wantd, tzs, eve, evStore, evBox, evAlloc, evBuildSlice, evMakeSlice, evAppend, fillRows, zcells, elemsOf, putAll, PV.one, Nat.reduceAdd, Nat.reduceMul, Int.cast_ofNat_Int, Int.reduceEq, Int.reduceLT, Int.reduceLE, Nat.reduceLeDiff, List.reduceReplicate, reduceCtorEq, drcs, drc, flat]; done) | simp -dsimp [evl, drcs, drc, flat, i64, u32, bl, encL, encB, encLL]) (by first | exact .inl rfl | exact .inr rfl | exact .inr scalB | exact .inr scalI | exact .inr scalT) ?_
    simp -dsimp (maxSteps := 2000000) (disch := first | omega | decide +kernel) only [↓vcl, ↓vcy, ↓vco, vck, gR, evl, evb, evBuiltin, evLen, evIdxA, evLoad, loadP, aggD, tis, i64, u32, bl, encL, encB, encLL, reduceIte, Nat.reduceEqDiff, forget, forget1, wantd, tzs, eve, evStore, evBox, evAlloc, evBuildSlice, evMakeSlice, evAppend, fillRows, zcells, elemsOf, putAll, PV.one, Nat.reduceAdd, Nat.reduceMul, Int.cast_ofNat_Int, Int.reduceEq, Int.reduceLT, Int.reduceLE, Nat.reduceLeDiff, List.reduceReplicate, reduceCtorEq, retQ, resL, finL, newL, flat, tupOf, List.toList_toArray, newI]
    refine ⟨?_, int_eq hz'.symm, trivial⟩
    rw [anc_bits v3 ho (by omega), ancL, if_pos hz']
    exact .rfl'

theorem s12 (of : Int) : CallSpec cx 37 [encLL h, i64 of] (.tup [encL (ancL h of), i64 (hasked h [of])]) := by
  refine callSpec_of_vc Tryd.func37 rfl (by decide) (by kernel_rfl) (Nat.le_of_ble_eq_true rfl) ?_
  try simp -dsimp (maxSteps := 2000000) (disch := first | omega | decide +kernel) only [↓vcl, ↓vcy, ↓vco, vck, gR, evl, evb, evBuiltin, evLen, evIdxA, evLoad, loadP, aggD, tis, i64, u32, bl, encL, encB, encLL, reduceIte, Nat.reduceEqDiff, forget, forget1, wantd, tzs, eve, evStore, evBox, evAlloc, evBuildSlice, evMakeSlice, evAppend, fillRows, zcells, elemsOf, putAll, PV.one, Nat.reduceAdd, Nat.reduceMul, Int.cast_ofNat_Int, Int.reduceEq, Int.reduceLT, Int.reduceLE, Nat.reduceLeDiff, List.reduceReplicate, reduceCtorEq, Tryd.f37]
  refine CallQ.imm (s29 h [of] hl hp (by simp)) (by rfl) (by first | rfl | (simp -dsimp (maxSteps := 2000000) (disch := first | omega | decide +kernel) only [↓vcl, ↓vcy, ↓vco, vck, gR, evl, evb, evBuiltin, evLen, evIdxA, evLoad, loadP, aggD, tis, i64, u32, bl, encL, encB, encLL, reduceIte, Nat.reduceEqDiff, forget, forget1, wantd, tzs, eve, evStore, evBox, evAlloc, evBuildSlice, evMakeSlice, evAppend, fillRows, zcells, elemsOf, putAll, PV.one, Nat.reduceAdd, Nat.reduceMul, Int.cast_ofNat_Int, Int.reduceEq, Int.reduceLT, Int.reduceLE, Nat.reduceLeDiff, List.reduceReplicate, reduceCtorEq, drcs, drc, flat]; done) | simp -dsimp [evl, drcs, drc, flat, i64, u32, bl, encL, encB, encLL]) (by first | exact .inl rfl | exact .inr rfl | exact .inr scalB | exact .inr scalI | exact .inr scalT) ?_
  cases hz : decide (hasked h [of] = 0)
  · have hz' := of_decide_eq_false hz
    simp -dsimp (maxSteps := 2000000) (disch := first | omega | decide +kernel) only [↓vcl, ↓vcy, ↓vco, vck, gR, evl, evb, evBuiltin, evLen, evIdxA, evLoad, loadP, aggD, tis, i64, u32, bl, encL, encB, encLL, reduceIte, Nat.reduceEqDiff, forget, forget1, wantd, tzs, eve, evStore, evBox, evAlloc, evBuildSlice, evMakeSlice, evAppend, fillRows, zcells, elemsOf, putAll, PV.one, Nat.reduceAdd, Nat.reduceMul, Int.cast_ofNat_Int, Int.reduceEq, Int.reduceLT, Int.reduceLE, Nat.reduceLeDiff, List.reduceReplicate, reduceCtorEq, retQ, resL, finL, newL, flat, tupOf, List.toList_toArray, Tryd.f37, hz]
    refine ⟨.inl (.inr (.inr ⟨rfl, ?_⟩)), .rfl', trivial⟩
    rw [ancL, if_neg hz']; rfl
  · have hz' := of_decide_eq_true hz
    obtain ⟨g1, g2⟩ := asked_of hz'
    obtain ⟨v1, v2, v3, v4⟩ := valid_of g1
    have hof := g2 of (by simp)
    have hlen : (fromI h).length = h.length := by simp [fromI]
    obtain ⟨o, rfl⟩ : ∃ o : Nat, of = o := ⟨of.toNat, by omega⟩
    have ho : o < (fromI h).length := by omega
    try simp -dsimp (maxSteps := 2000000) (disch := first | omega | decide +kernel) only [↓vcl, ↓vcy, ↓vco, vck, gR, evl, evb, evBuiltin, evLen, evIdxA, evLoad, loadP, aggD, tis, i64, u32, bl, encL, encB, encLL, reduceIte, Nat.reduceEqDiff, forget, forget1, wantd, tzs, eve, evStore, evBox, evAlloc, evBuildSlice, evMakeSlice, evAppend, fillRows, zcells, elemsOf, putAll, PV.one, Nat.reduceAdd, Nat.reduceMul, Int.cast_ofNat_Int, Int.reduceEq, Int.reduceLT, Int.reduceLE, Nat.reduceLeDiff, List.reduceReplicate, reduceCtorEq, Tryd.f37, hz]
    refine CallQ.imm (s36' g1 [o] (by simp; omega) (by simp)) (by rfl) (by first | rfl | (simp -dsimp (maxSteps := 2000000) (disch := first | omega | decide +kernel) only [↓vcl, ↓vcy, ↓vco, vck, gR, evl, evb, evBuiltin, evLen, evIdxA, evLoad, loadP, aggD, tis, i64, u32, bl, encL, encB, encLL, reduceIte, Nat.reduceEqDiff, forget, forget1, wantd, tzs, eve, evStore, evBox, evAlloc, evBuildSlice, evMakeSlice, evAppend, fillRows, zcells, elemsOf, putAll, PV.one, Nat.reduceAdd, Nat.reduceMul, Int.cast_ofNat_Int, Int.reduceEq, Int.reduceLT, Int.reduceLE, Nat.reduceLeDiff, List.reduceReplicate, reduceCtorEq, drcs, drc, flat]; done) | simp -dsimp [evl, drcs, drc, flat, i64, u32, bl, encL, encB, encLL]) (by first | exact .inl rfl | exact .inr rfl | exact .inr scalB | exact .inr scalI | exact .inr scalT) ?_
    try simp -dsimp (maxSteps := 2000000) (disch := first | omega | decide +kernel) only [↓vcl, ↓vcy, ↓vco, vck, gR, evl, evb, evBuiltin, evLen, evIdxA, evLoad, loadP, aggD, tis, i64, u32, bl, encL, encB, encLL, reduceIte, Nat.reduceEqDiff, forget, forget1, wantd, tzs, eve, evStore, evBox, evAlloc, evBuildSlice, evMakeSlice, evAppend, fillRows, zcells, elemsOf, putAll, PV.one, Nat.reduceAdd, Nat.reduceMul, Int.cast_ofNat_Int, Int.reduceEq, Int.reduceLT, Int.reduceLE, Nat.reduceLeDiff, List.reduceReplicate, reduceCtorEq, newB]
    refine CallQ.imm (s35 (ancs (fromI h) [o]) (by simp [ancs]; omega)) (by rfl) (by first | rfl | (simp -dsimp (maxSteps := 2000000) (disch := first | omega | decide +kernel) only [↓vcl, ↓vcy, ↓vco, vck, gR, evl, evb, evBuiltin, evLen, evIdxA, evLoad, loadP, aggD, tis, i64, u32, bl, encL, encB, encLL, reduceIte, Nat.reduceEqDiff, forget, forget1, wantd, tzs, eve, evStore, evBox, evAlloc, evBuildSlice, evMakeSlice, evAppend, fillRows, zcells, elemsOf, putAll, PV.one, Nat.reduceAdd, Nat.reduceMul, Int.cast_ofNat_Int, Int.reduceEq, Int.reduceLT, Int.reduceLE, Nat.reduceLeDiff, List.reduceReplicate, reduceCtorEq, drcs, drc, flat]; done) | simp -dsimp [evl, drcs, drc, flat, i64, u32, bl, encL, encB, encLL]) (by first | exact .inl rfl | exact .inr rfl | exact .inr scalB | exact .inr scalI | exact .inr scalT) ?_
    simp -dsimp (maxSteps := 2000000) (disch := first | omega | decide +kernel) only [↓vcl, ↓vcy, ↓vco, vck, gR, evl, evb, evBuiltin, evLen, evIdxA, evLoad, loadP, aggD, tis, i64, u32, bl, encL, encB, encLL, reduceIte, Nat.reduceEqDiff, forget, forget1, wantd, tzs, eve, evStore, evBox, evAlloc, evBuildSlice, evMakeSlice, evAppend, fillRows, zcells, elemsOf, putAll, PV.one, Nat.reduceAdd, Nat.reduceMul, Int.cast_ofNat_Int, Int.reduceEq, Int.reduceLT, Int.reduceLE, Nat.reduceLeDiff, List.reduceReplicate, reduceCtorEq, retQ, resL, finL, newL, flat, tupOf, List.toList_toArray, newI]
    refine ⟨?_, int_eq hz'.symm, trivial⟩
    rw [ancL, if_pos hz']
    exact .rfl'

open Classical in
noncomputable def isA (h : List (List Int)) (a of : Int) : Bool := if hasked h [a, of] = 0 then decide (Anc (fromI h) [of.toNat] a.toNat) else false

theorem s13 (a of : Int) : CallSpec cx 27 [encLL h, i64 a, i64 of] (.tup [bl (isA h a of), i64 (hasked h [a, of])]) := by
  refine callSpec_of_vc Tryd.func27 rfl (by decide) (by kernel_rfl) (Nat.le_of_ble_eq_true rfl) ?_
  try simp -dsimp (maxSteps := 2000000) (disch := first | omega | decide +kernel) only [↓vcl, ↓vcy, ↓vco, vck, gR, evl, evb, evBuiltin, evLen, evIdxA, evLoad, loadP, aggD, tis, i64, u32, bl, encL, encB, encLL, reduceIte, Nat.reduceEqDiff, forget, forget1, wantd, tzs, eve, evStore, evBox, evAlloc, evBuildSlice, evMakeSlice, evAppend, fillRows, zcells, elemsOf, putAll, PV.one, Nat.reduceAdd, Nat.reduceMul, Int.cast_ofNat_Int, Int.reduceEq, Int.reduceLT, Int.reduceLE, Nat.reduceLeDiff, List.reduceReplicate, reduceCtorEq, Tryd.f27]
  refine CallQ.imm (s32 h [a, of] hl hp (by simp)) (by rfl) (by first | rfl | (simp -dsimp (maxSteps := 2000000) (disch := first | omega | decide +kernel) only [↓vcl, ↓vcy, ↓vco, vck, gR, evl, evb, evBuiltin, evLen, evIdxA, evLoad, loadP, aggD, tis, i64, u32, bl, encL, encB, encLL, reduceIte, Nat.reduceEqDiff, forget, forget1, wantd, tzs, eve, evStore, evBox, evAlloc, evBuildSlice, evMakeSlice, evAppend, fillRows, zcells, elemsOf, putAll, PV.one, Nat.reduceAdd, Nat.reduceMul, Int.cast_ofNat_Int, Int.reduceEq, Int.reduceLT, Int.reduceLE, Nat.reduceLeDiff, List.reduceReplicate, reduceCtorEq, drcs, drc, flat]; done) | simp -dsimp [evl, drcs, drc, flat, i64, u32, bl, encL, encB, encLL]) (by first | exact .inl rfl | exact .inr rfl | exact .inr scalB | exact .inr scalI | exact .inr scalT) ?_
  cases hz : decide (hasked h [a, of] = 0)
  · have hz' := of_decide_eq_false hz
    simp -dsimp (maxSteps := 2000000) (disch := first | omega | decide +kernel) only [↓vcl, ↓vcy, ↓vco, vck, gR, evl, evb, evBuiltin, evLen, evIdxA, evLoad, loadP, aggD, tis, i64, u32, bl, encL, encB, encLL, reduceIte, Nat.reduceEqDiff, forget, forget1, wantd, tzs, eve, evStore, evBox, evAlloc, evBuildSlice, evMakeSlice, evAppend, fillRows, zcells, elemsOf, putAll, PV.one, Nat.reduceAdd, Nat.reduceMul, Int.cast_ofNat_Int, Int.reduceEq, Int.reduceLT, Int.reduceLE, Nat.reduceLeDiff, List.reduceReplicate, reduceCtorEq, retQ, resL, finL, newL, flat, tupOf, List.toList_toArray, Tryd.f27, hz]
    refine ⟨bl_eq ?_, .rfl', trivial⟩
    rw [isA, if_neg hz']
  · have hz' := of_decide_eq_true hz
    obtain ⟨g1, g2⟩ := asked_of hz'
    obtain ⟨v1, v2, v3, v4⟩ := valid_of g1
    have hof := g2 of (by simp)
    have ha := g2 a (by simp)
    have hlen : (fromI h).length = h.length := by simp [fromI]
    obtain ⟨o, rfl⟩ : ∃ o : Nat, of = o := ⟨of.toNat, by omega⟩
    obtain ⟨a, rfl⟩ : ∃ o : Nat, a = o := ⟨a.toNat, by omega⟩
    have ho : o < (fromI h).length := by omega
    have hget := setsL_get ho
    try simp -dsimp (maxSteps := 2000000) (disch := first | omega | decide +kernel) only [↓vcl, ↓vcy, ↓vco, vck, gR, evl, evb, evBuiltin, evLen, evIdxA, evLoad, loadP, aggD, tis, i64, u32, bl, encL, encB, encLL, reduceIte, Nat.reduceEqDiff, forget, forget1, wantd, tzs, eve, evStore, evBox, evAlloc, evBuildSlice, evMakeSlice, evAppend, fillRows, zcells, elemsOf, putAll, PV.one, Nat.reduceAdd, Nat.reduceMul, Int.cast_ofNat_Int, Int.reduceEq, Int.reduceLT, Int.reduceLE, Nat.reduceLeDiff, List.reduceReplicate, reduceCtorEq, Tryd.f27, hz]
    refine CallQ.imm (s33' g1) (by rfl) (by first | rfl | (simp -dsimp (maxSteps := 2000000) (disch := first | omega | decide +kernel) only [↓vcl, ↓vcy, ↓vco, vck, gR, evl, evb, evBuiltin, evLen, evIdxA, evLoad, loadP, aggD, tis, i64, u32, bl, encL, encB, encLL, reduceIte, Nat.reduceEqDiff, forget, forget1, wantd, tzs, eve, evStore, evBox, evAlloc, evBuildSlice, evMakeSlice, evAppend, fillRows, zcells, elemsOf, putAll, PV.one, Nat.reduceAdd, Nat.reduceMul, Int.cast_ofNat_Int, Int.reduceEq, Int.reduceLT, Int.reduceLE, Nat.reduceLeDiff, List.reduceReplicate, reduceCtorEq, drcs, drc, flat]; done) | simp -dsimp [evl, drcs, drc, flat, i64, u32, bl, encL, encB, encLL]) (by first | exact .inl rfl | exact .inr rfl | exact .inr scalB | exact .inr scalI | exact .inr scalT) ?_
    try simp -dsimp (maxSteps := 2000000) (disch := first | omega | decide +kernel) only [↓vcl, ↓vcy, ↓vco, vck, gR, evl, evb, evBuiltin, evLen, evIdxA, evLoad, loadP, aggD, tis, i64, u32, bl, encL, encB, encLL, reduceIte, Nat.reduceEqDiff, forget, forget1, wantd, tzs, eve, evStore, evBox, evAlloc, evBuildSlice, evMakeSlice, evAppend, fillRows, zcells, elemsOf, putAll, PV.one, Nat.reduceAdd, Nat.reduceMul, Int.cast_ofNat_Int, Int.reduceEq, Int.reduceLT, Int.reduceLE, Nat.reduceLeDiff, List.reduceReplicate, reduceCtorEq, hget]
    refine CallQ.imm (s37 (ancW (fromI h) o) a) (by rfl) (by first | rfl | (simp -dsimp (maxSteps := 2000000) (disch := first | omega | decide +kernel) only [↓vcl, ↓vcy, ↓vco, vck, gR, evl, evb, evBuiltin, evLen, evIdxA, evLoad, loadP, aggD, tis, i64, u32, bl, encL, encB, encLL, reduceIte, Nat.reduceEqDiff, forget, forget1, wantd, tzs, eve, evStore, evBox, evAlloc, evBuildSlice, evMakeSlice, evAppend, fillRows, zcells, elemsOf, putAll, PV.one, Nat.reduceAdd, Nat.reduceMul, Int.cast_ofNat_Int, Int.reduceEq, Int.reduceLT, Int.reduceLE, Nat.reduceLeDiff, List.reduceReplicate, reduceCtorEq, drcs, drc, flat]; done) | simp -dsimp [evl, drcs, drc, flat, i64, u32, bl, encL, encB, encLL]) (by first | exact .inl rfl | exact .inr rfl | exact .inr scalB | exact .inr scalI | exact .inr scalT) ?_
    simp -dsimp (maxSteps := 2000000) (disch := first | omega | decide +kernel) only [↓vcl, ↓vcy, ↓vco, vck, gR, evl, evb, evBuiltin, evLen, evIdxA, evLoad, loadP, aggD, tis, i64, u32, bl, encL, encB, encLL, reduceIte, Nat.reduceEqDiff, forget, forget1, wantd, tzs, eve, evStore, evBox, evAlloc, evBuildSlice, evMakeSlice, evAppend, fillRows, zcells, elemsOf, putAll, PV.one, Nat.reduceAdd, Nat.reduceMul, Int.cast_ofNat_Int, Int.reduceEq, Int.reduceLT, Int.reduceLE, Nat.reduceLeDiff, List.reduceReplicate, reduceCtorEq, retQ, resL, finL, newL, flat, tupOf, List.toList_toArray]
    refine ⟨bl_eq ?_, int_eq hz'.symm, trivial⟩
    rw [isA, if_pos hz', decide_eq_decide]
    rw [bit_at, ancW_get]
    simp; intro; omega

theorem s14 (a of : Int) : CallSpec cx 38 [encLL h, i64 a, i64 of] (.tup [bl (isA h a of), i64 (hasked h [a, of])]) := by
  refine callSpec_of_vc Tryd.func38 rfl (by decide) (by kernel_rfl) (Nat.le_of_ble_eq_true rfl) ?_
  try simp -dsimp (maxSteps := 2000000) (disch := first | omega | decide +kernel) only [↓vcl, ↓vcy, ↓vco, vck, gR, evl, evb, evBuiltin, evLen, evIdxA, evLoad, loadP, aggD, tis, i64, u32, bl, encL, encB, encLL, reduceIte, Nat.reduceEqDiff, forget, forget1, wantd, tzs, eve, evStore, evBox, evAlloc, evBuildSlice, evMakeSlice, evAppend, fillRows, zcells, elemsOf, putAll, PV.one, Nat.reduceAdd, Nat.reduceMul, Int.cast_ofNat_Int, Int.reduceEq, Int.reduceLT, Int.reduceLE, Nat.reduceLeDiff, List.reduceReplicate, reduceCtorEq, Tryd.f38]
  refine CallQ.imm (s29 h [a, of] hl hp (by simp)) (by rfl) (by first | rfl | (simp -dsimp (maxSteps := 2000000) (disch := first | omega | decide +kernel) only [↓vcl, ↓vcy, ↓vco, vck, gR, evl, evb, evBuiltin, evLen, evIdxA, evLoad, loadP, aggD, tis, i64, u32, bl, encL, encB, encLL, reduceIte, Nat.reduceEqDiff, forget, forget1, wantd, tzs, eve, evStore, evBox, evAlloc, evBuildSlice, evMakeSlice, evAppend, fillRows, zcells, elemsOf, putAll, PV.one, Nat.reduceAdd, Nat.reduceMul, Int.cast_ofNat_Int, Int.reduceEq, Int.reduceLT, Int.reduceLE, Nat.reduceLeDiff, List.reduceReplicate, reduceCtorEq, drcs, drc, flat]; done) | simp -dsimp [evl, drcs, drc, flat, i64, u32, bl, encL, encB, encLL]) (by first | exact .inl rfl | exact .inr rfl | exact .inr scalB | exact .inr scalI | exact .inr scalT) ?_
  cases hz : decide (hasked h [a, of] = 0)
  · have hz' := of_decide_eq_false hz
    simp -dsimp (maxSteps := 2000000) (disch := first | omega | decide +kernel) only [↓vcl, ↓vcy, ↓vco, vck, gR, evl, evb, evBuiltin, evLen, evIdxA, evLoad, loadP, aggD, tis, i64, u32, bl, encL, encB, encLL, reduceIte, Nat.reduceEqDiff, forget, forget1, wantd, tzs, eve, evStore, evBox, evAlloc, evBuildSlice, evMakeSlice, evAppend, fillRows, zcells, elemsOf, putAll, PV.one, Nat.reduceAdd, Nat.reduceMul, Int.cast_ofNat_Int, Int.reduceEq, Int.reduceLT, Int.reduceLE, Nat.reduceLeDiff, List.reduceReplicate, reduceCtorEq, retQ, resL, finL, newL, flat, tupOf, List.toList_toArray, Tryd.f38, hz]
    refine ⟨bl_eq ?_, .rfl', trivial⟩
    rw [isA, if_neg hz']
  · have hz' := of_decide_eq_true hz
    obtain ⟨g1, g2⟩ := asked_of hz'
    obtain ⟨v1, v2, v3, v4⟩ := valid_of g1
    have hof := g2 of (by simp)
    have ha := g2 a (by simp)
    have hlen : (fromI h).length = h.length := by simp [fromI]
    obtain ⟨o, rfl⟩ : ∃ o : Nat, of = o := ⟨of.toNat, by omega⟩
    obtain ⟨a, rfl⟩ : ∃ o : Nat, a = o := ⟨a.toNat, by omega⟩
    have ho : o < (fromI h).length := by omega
    obtain ⟨b, hb1, hb2⟩ := ancs_get (H := fromI h) (F := [o]) (show a < (fromI h).length by omega)
    try simp -dsimp (maxSteps := 2000000) (disch := first | omega | decide +kernel) only [↓vcl, ↓vcy, ↓vco, vck, gR, evl, evb, evBuiltin, evLen, evIdxA, evLoad, loadP, aggD, tis, i64, u32, bl, encL, encB, encLL, reduceIte, Nat.reduceEqDiff, forget, forget1, wantd, tzs, eve, evStore, evBox, evAlloc, evBuildSlice, evMakeSlice, evAppend, fillRows, zcells, elemsOf, putAll, PV.one, Nat.reduceAdd, Nat.reduceMul, Int.cast_ofNat_Int, Int.reduceEq, Int.reduceLT, Int.reduceLE, Nat.reduceLeDiff, List.reduceReplicate, reduceCtorEq, Tryd.f38, hz]
    refine CallQ.imm (s36' g1 [o] (by simp; omega) (by simp)) (by rfl) (by first | rfl | (simp -dsimp (maxSteps := 2000000) (disch := first | omega | decide +kernel) only [↓vcl, ↓vcy, ↓vco, vck, gR, evl, evb, evBuiltin, evLen, evIdxA, evLoad, loadP, aggD, tis, i64, u32, bl, encL, encB, encLL, reduceIte, Nat.reduceEqDiff, forget, forget1, wantd, tzs, eve, evStore, evBox, evAlloc, evBuildSlice, evMakeSlice, evAppend, fillRows, zcells, elemsOf, putAll, PV.one, Nat.reduceAdd, Nat.reduceMul, Int.cast_ofNat_Int, Int.reduceEq, Int.reduceLT, Int.reduceLE, Nat.reduceLeDiff, List.reduceReplicate, reduceCtorEq, drcs, drc, flat]; done) | simp -dsimp [evl, drcs, drc, flat, i64, u32, bl, encL, encB, encLL]) (by first | exact .inl rfl | exact .inr rfl | exact .inr scalB | exact .inr scalI | exact .inr scalT) ?_
    simp -dsimp (maxSteps := 2000000) (disch := first | omega | decide +kernel) only [↓vcl, ↓vcy, ↓vco, vck, gR, evl, evb, evBuiltin, evLen, evIdxA, evLoad, loadP, aggD, tis, i64, u32, bl, encL, encB, encLL, reduceIte, Nat.reduceEqDiff, forget, forget1, wantd, tzs, eve, evStore, evBox, evAlloc, evBuildSlice, evMakeSlice, evAppend, fillRows, zcells, elemsOf, putAll, PV.one, Nat.reduceAdd, Nat.reduceMul, Int.cast_ofNat_Int, Int.reduceEq, Int.reduceLT, Int.reduceLE, Nat.reduceLeDiff, List.reduceReplicate, reduceCtorEq, retQ, resL, finL, newL, flat, tupOf, List.toList_toArray, newB, hb1]
    refine ⟨bl_eq ?_, int_eq hz'.symm, trivial⟩
    rw [isA, if_pos hz', Bool.eq_iff_iff, hb2]
    simp
end
end Go.Ab
end

section
set_option maxRecDepth 100000
set_option maxHeartbeats 8000000
namespace Go.Ab
open Go Go.Proofs

open Classical in
noncomputable def betB (H : List (List Nat)) (a b : Nat) : List Bool := (List.range H.length).map fun x => decide (Anc H [b] x ∧ ¬ Anc H [a] x)
noncomputable def betI (h : List (List Int)) (a b : Int) : List Int := if hasked h [a, b] = 0 then lst 0 (betB (fromI h) a.toNat b.toNat) else []
def Cm (H : List (List Nat)) (a b x : Nat) : Prop := Anc H [a] x ∧ Anc H [b] x
open Classical in
noncomputable def basB (H : List (List Nat)) (a b : Nat) : List Bool := (List.range H.length).map fun x => decide (Cm H a b x ∧ ∀ k, Cm H a b k → k ≠ x → ¬ Anc H [k] x)
noncomputable def basI (h : List (List Int)) (a b : Int) : List Int := if hasked h [a, b] = 0 then lst 0 (basB (fromI h) a.toNat b.toNat) else []

/-- Words and lists that say the same. -/
theorem bits_dec {y : BitVec 32} {n : Nat} {P : Nat → Prop} (hn : n ≤ 32) {_ : DecidablePred P} (h : ∀ j, y.getLsbD j = true ↔ j < n ∧ P j) : bitsL y = lst 0 ((List.range n).map fun x => decide (P x)) := by
  apply bits_of (by simp; omega)
  intro j
  rw [Bool.eq_iff_iff, h j, List.getElem?_map]
  by_cases hj : j < n
  · rw [List.getElem?_range hj]; simp [hj]
  · rw [List.getElem?_eq_none (by simp; omega)]; simp [hj]
theorem bools_dec {out : List Bool} {n : Nat} {P : Nat → Prop} {_ : DecidablePred P} (hol : out.length = n) (h : ∀ x, x < n → (Tr out x ↔ P x)) : out = (List.range n).map fun x => decide (P x) := by
  apply List.ext_getElem?
  intro x
  rw [List.getElem?_map]
  by_cases hx : x < n
  · have hg : out[x]? = some out[x] := List.getElem?_eq_getElem (by omega)
    rw [List.getElem?_range hx, hg, Option.map_some]
    congr 1
    have := h x hx
    unfold Tr at this; rw [hg] at this
    simp only [Option.some.injEq] at this
    rw [Bool.eq_iff_iff, this]; simp
  · rw [List.getElem?_eq_none (by omega), List.getElem?_eq_none (by simp; omega)]; rfl

theorem ancs_len {H : List (List Nat)} {F : List Nat} : (ancs H F).length = H.length := by simp [ancs]
theorem anc_ltH {H : List (List Nat)} (hv : Vd H) {a j : Nat} (ha : a < H.length) (h : Anc H [a] j) : j < H.length := anc_lt hv (F := [a]) (by simp [ha]) h

section
variable (h : List (List Int)) (hl : h.length ≤ 9223372036854775807) (hp : ∀ p ∈ h, p.length ≤ 9223372036854775807)
include hl hp

theorem s24 (a b : Int) : CallSpec cx 31 [encLL h, i64 a, i64 b] (.tup [encL (betI h a b), i64 (hasked h [a, b])]) := by
  refine callSpec_of_vc Tryd.func31 rfl (by decide) (by kernel_rfl) (Nat.le_of_ble_eq_true rfl) ?_
  try simp -dsimp (maxSteps := 2000000) (disch := first | omega | decide +kernel) only [↓vcl, ↓vcy, ↓vco, vck, gR, evl, evb, evBuiltin, evLen, evIdxA, evLoad, loadP, aggD, tis, i64, u32, bl, encL, encB, encLL, reduceIte, Nat.reduceEqDiff, forget, forget1, wantd, tzs, eve, evStore, evBox, evAlloc, evBuildSlice, evMakeSlice, evAppend, fillRows, zcells, elemsOf, putAll, PV.one, Nat.reduceAdd, Nat.reduceMul, Int.cast_ofNat_Int, Int.reduceEq, Int.reduceLT, Int.reduceLE, Nat.reduceLeDiff, List.reduceReplicate, reduceCtorEq, Tryd.f31]
  refine CallQ.imm (s32 h [a, b] hl hp (by simp)) (by rfl) (by first | rfl | (simp -dsimp (maxSteps := 2000000) (disch := first | omega | decide +kernel) only [↓vcl, ↓vcy, ↓vco, vck, gR, evl, evb, evBuiltin, evLen, evIdxA, evLoad, loadP, aggD, tis, i64, u32, bl, encL, encB, encLL, reduceIte, Nat.reduceEqDiff, forget, forget1, wantd, tzs, eve, evStore, evBox, evAlloc, evBuildSlice, evMakeSlice, evAppend, fillRows, zcells, elemsOf, putAll, PV.one, Nat.reduceAdd, Nat.reduceMul, Int.cast_ofNat_Int, Int.reduceEq, Int.reduceLT, Int.reduceLE, Nat.reduceLeDiff, List.reduceReplicate, reduceCtorEq, drcs, drc, flat]; done) | simp -dsimp [evl, drcs, drc, flat, i64, u32, bl, encL, encB, encLL]) (by first | exact .inl rfl | exact .inr rfl | exact .inr scalB | exact .inr scalI | exact .inr scalT) ?_
  cases hz : decide (hasked h [a, b] = 0)
  · have hz' := of_decide_eq_false hz
    simp -dsimp (maxSteps := 2000000) (disch := first | omega | decide +kernel) only [↓vcl, ↓vcy, ↓vco, vck, gR, evl, evb, evBuiltin, evLen, evIdxA, evLoad, loadP, aggD, tis, i64, u32, bl, encL, encB, encLL, reduceIte, Nat.reduceEqDiff, forget, forget1, wantd, tzs, eve, evStore, evBox, evAlloc, evBuildSlice, evMakeSlice, evAppend, fillRows, zcells, elemsOf, putAll, PV.one, Nat.reduceAdd, Nat.reduceMul, Int.cast_ofNat_Int, Int.reduceEq, Int.reduceLT, Int.reduceLE, Nat.reduceLeDiff, List.reduceReplicate, reduceCtorEq, retQ, resL, finL, newL, flat, tupOf, List.toList_toArray, Tryd.f31, hz]
    refine ⟨.inl (.inr (.inr ⟨rfl, ?_⟩)), .rfl', trivial⟩
    rw [betI, if_neg hz']; rfl
  · have hz' := of_decide_eq_true hz
    obtain ⟨g1, g2⟩ := asked_of hz'
    obtain ⟨v1, v2, v3, v4⟩ := valid_of g1
    have ha := g2 a (by simp)
    have hb := g2 b (by simp)
    have hlen : (fromI h).length = h.length := by simp [fromI]
    obtain ⟨a, rfl⟩ : ∃ o : Nat, a = o := ⟨a.toNat, by omega⟩
    obtain ⟨b, rfl⟩ : ∃ o : Nat, b = o := ⟨b.toNat, by omega⟩
    have hga := setsL_get (H := fromI h) (i := a) (by omega)
    have hgb := setsL_get (H := fromI h) (i := b) (by omega)
    try simp -dsimp (maxSteps := 2000000) (disch := first | omega | decide +kernel) only [↓vcl, ↓vcy, ↓vco, vck, gR, evl, evb, evBuiltin, evLen, evIdxA, evLoad, loadP, aggD, tis, i64, u32, bl, encL, encB, encLL, reduceIte, Nat.reduceEqDiff, forget, forget1, wantd, tzs, eve, evStore, evBox, evAlloc, evBuildSlice, evMakeSlice, evAppend, fillRows, zcells, elemsOf, putAll, PV.one, Nat.reduceAdd, Nat.reduceMul, Int.cast_ofNat_Int, Int.reduceEq, Int.reduceLT, Int.reduceLE, Nat.reduceLeDiff, List.reduceReplicate, reduceCtorEq, Tryd.f31, hz]
    refine CallQ.imm (s33' g1) (by rfl) (by first | rfl | (simp -dsimp (maxSteps := 2000000) (disch := first | omega | decide +kernel) only [↓vcl, ↓vcy, ↓vco, vck, gR, evl, evb, evBuiltin, evLen, evIdxA, evLoad, loadP, aggD, tis, i64, u32, bl, encL, encB, encLL, reduceIte, Nat.reduceEqDiff, forget, forget1, wantd, tzs, eve, evStore, evBox, evAlloc, evBuildSlice, evMakeSlice, evAppend, fillRows, zcells, elemsOf, putAll, PV.one, Nat.reduceAdd, Nat.reduceMul, Int.cast_ofNat_Int, Int.reduceEq, Int.reduceLT, Int.reduceLE, Nat.reduceLeDiff, List.reduceReplicate, reduceCtorEq, drcs, drc, flat]; done) | simp -dsimp [evl, drcs, drc, flat, i64, u32, bl, encL, encB, encLL]) (by first | exact .inl rfl | exact .inr rfl | exact .inr scalB | exact .inr scalI | exact .inr scalT) ?_
    try simp -dsimp (maxSteps := 2000000) (disch := first | omega | decide +kernel) only [↓vcl, ↓vcy, ↓vco, vck, gR, evl, evb, evBuiltin, evLen, evIdxA, evLoad, loadP, aggD, tis, i64, u32, bl, encL, encB, encLL, reduceIte, Nat.reduceEqDiff, forget, forget1, wantd, tzs, eve, evStore, evBox, evAlloc, evBuildSlice, evMakeSlice, evAppend, fillRows, zcells, elemsOf, putAll, PV.one, Nat.reduceAdd, Nat.reduceMul, Int.cast_ofNat_Int, Int.reduceEq, Int.reduceLT, Int.reduceLE, Nat.reduceLeDiff, List.reduceReplicate, reduceCtorEq, hga, hgb, w32, uRules, uBits]
    refine CallY.imm (s34 (ancW (fromI h) b &&& ~~~ ancW (fromI h) a)) (by rfl) (by first | rfl | (simp -dsimp (maxSteps := 2000000) (disch := first | omega | decide +kernel) only [↓vcl, ↓vcy, ↓vco, vck, gR, evl, evb, evBuiltin, evLen, evIdxA, evLoad, loadP, aggD, tis, i64, u32, bl, encL, encB, encLL, reduceIte, Nat.reduceEqDiff, forget, forget1, wantd, tzs, eve, evStore, evBox, evAlloc, evBuildSlice, evMakeSlice, evAppend, fillRows, zcells, elemsOf, putAll, PV.one, Nat.reduceAdd, Nat.reduceMul, Int.cast_ofNat_Int, Int.reduceEq, Int.reduceLT, Int.reduceLE, Nat.reduceLeDiff, List.reduceReplicate, reduceCtorEq, drcs, drc, flat]; done) | simp -dsimp [evl, drcs, drc, flat, i64, u32, bl, encL, encB, encLL]) (by first | exact .inl rfl | exact .inr rfl | exact .inr scalB | exact .inr scalI | exact .inr scalT) ?_
    simp -dsimp (maxSteps := 2000000) (disch := first | omega | decide +kernel) only [↓vcl, ↓vcy, ↓vco, vck, gR, evl, evb, evBuiltin, evLen, evIdxA, evLoad, loadP, aggD, tis, i64, u32, bl, encL, encB, encLL, reduceIte, Nat.reduceEqDiff, forget, forget1, wantd, tzs, eve, evStore, evBox, evAlloc, evBuildSlice, evMakeSlice, evAppend, fillRows, zcells, elemsOf, putAll, PV.one, Nat.reduceAdd, Nat.reduceMul, Int.cast_ofNat_Int, Int.reduceEq, Int.reduceLT, Int.reduceLE, Nat.reduceLeDiff, List.reduceReplicate, reduceCtorEq, retQ, resL, finL, newL, flat, tupOf, List.toList_toArray, Tryd.f31, newI]
    refine ⟨?_, int_eq hz'.symm, trivial⟩
    rw [betI, if_pos hz', Int.toNat_natCast, Int.toNat_natCast]
    have e : bitsL (ancW (fromI h) b &&& ~~~ ancW (fromI h) a) = lst 0 (betB (fromI h) a b) := by
      apply bits_dec (by omega)
      intro j
      rw [BitVec.getLsbD_and, BitVec.getLsbD_not, Bool.and_eq_true, ancW_get]
      constructor
      · rintro ⟨⟨h1, h2⟩, h3⟩
        have h4 := anc_ltH v3 (by omega) h2
        refine ⟨h4, h2, fun h5 => ?_⟩
        have := (ancW_get (H := fromI h) (i := a) (j := j)).2 ⟨h1, h5⟩
        simp [this] at h3
      · rintro ⟨h1, h2, h3⟩
        refine ⟨⟨by omega, h2⟩, ?_⟩
        have : ¬ (ancW (fromI h) a).getLsbD j = true := fun h5 => h3 (ancW_get.1 h5).2
        simp [this]; omega
    rw [e]; exact .rfl'

end
end Go.Ab
end
