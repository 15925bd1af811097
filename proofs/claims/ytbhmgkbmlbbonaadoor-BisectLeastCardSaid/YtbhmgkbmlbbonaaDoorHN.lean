import Derived.Test.YtbhmgkbmlbbonaaDoorHJ
set_option linter.unusedSimpArgs false
set_option linter.unusedVariables false
set_option maxRecDepth 100000
set_option maxHeartbeats 8000000
namespace Go.Ab
open Go Go.Proofs

open Classical in
noncomputable def betB (H : List (List Nat)) (a b : Nat) : List Bool := (List.range H.length).map fun x => decide (Anc H [b] x ∧ ¬ Anc H [a] x)
noncomputable def betI (h : List (List Int)) (a b : Int) : List Int := if hasked h [a, b] = 0 then lst 0 (betB (fromI h) a.toNat b.toNat) else []
def Cm (H : List (List Nat)) (a b x : Nat) : Prop := Anc H [a] x ∧ Anc H [b] x
open Classical in
noncomputable def basB (H : List (List Nat)) (a b : Nat) : List Bool := (List.range H.length).map fun x => decide (Cm H a b x ∧ ∀ k, Cm H a b k → k ≠ x → ¬ Anc H [k] x)
noncomputable def basI (h : List (List Int)) (a b : Int) : List Int := if hasked h [a, b] = 0 then lst 0 (basB (fromI h) a.toNat b.toNat) else []

/-- Words and lists that say the same. -/
theorem bits_dec {y : BitVec 32} {n : Nat} {P : Nat → Prop} (hn : n ≤ 32) {_ : DecidablePred P} (h : ∀ j, y.getLsbD j = true ↔ j < n ∧ P j) : bitsL y = lst 0 ((List.range n).map fun x => decide (P x)) := by
  apply bits_of (by simp; omega)
  intro j
  rw [Bool.eq_iff_iff, h j, List.getElem?_map]
  by_cases hj : j < n
  · rw [List.getElem?_range hj]; simp [hj]
  · rw [List.getElem?_eq_none (by simp; omega)]; simp [hj]
theorem bools_dec {out : List Bool} {n : Nat} {P : Nat → Prop} {_ : DecidablePred P} (hol : out.length = n) (h : ∀ x, x < n → (Tr out x ↔ P x)) : out = (List.range n).map fun x => decide (P x) := by
  apply List.ext_getElem?
  intro x
  rw [List.getElem?_map]
  by_cases hx : x < n
  · have hg : out[x]? = some out[x] := List.getElem?_eq_getElem (by omega)
    rw [List.getElem?_range hx, hg, Option.map_some]
    congr 1
    have := h x hx
    unfold Tr at this; rw [hg] at this
    simp only [Option.some.injEq] at this
    rw [Bool.eq_iff_iff, this]; simp
  · rw [List.getElem?_eq_none (by omega), List.getElem?_eq_none (by simp; omega)]; rfl

theorem ancs_len {H : List (List Nat)} {F : List Nat} : (ancs H F).length = H.length := by simp [ancs]
theorem anc_ltH {H : List (List Nat)} (hv : Vd H) {a j : Nat} (ha : a < H.length) (h : Anc H [a] j) : j < H.length := anc_lt hv (F := [a]) (by simp [ha]) h

section
variable (h : List (List Int)) (hl : h.length ≤ 9223372036854775807) (hp : ∀ p ∈ h, p.length ≤ 9223372036854775807)
include hl hp

theorem s24 (a b : Int) : CallSpec cx 31 [encLL h, i64 a, i64 b] (.tup [encL (betI h a b), i64 (hasked h [a, b])]) := by
  refine callSpec_of_vc Tryd.func31 rfl (by decide) (by kernel_rfl) (Nat.le_of_ble_eq_true rfl) ?_
  try simp -dsimp (maxSteps := 2000000) (disch := first | omega | decide +kernel) only [↓vcl, ↓vcy, ↓vco, vck, gR, evl, evb, evBuiltin, evLen, evIdxA, evLoad, loadP, aggD, tis, i64, u32, bl, encL, encB, encLL, reduceIte, Nat.reduceEqDiff, forget, forget1, wantd, tzs, eve, evStore, evBox, evAlloc, evBuildSlice, evMakeSlice, evAppend, fillRows, zcells, elemsOf, putAll, PV.one, Nat.reduceAdd, Nat.reduceMul, Int.cast_ofNat_Int, Int.reduceEq, Int.reduceLT, Int.reduceLE, Nat.reduceLeDiff, List.reduceReplicate, reduceCtorEq, Tryd.f31]
  refine CallQ.imm (s32 h [a, b] hl hp (by simp)) (by rfl) (by first | rfl | (simp -dsimp (maxSteps := 2000000) (disch := first | omega | decide +kernel) only [↓vcl, ↓vcy, ↓vco, vck, gR, evl, evb, evBuiltin, evLen, evIdxA, evLoad, loadP, aggD, tis, i64, u32, bl, encL, encB, encLL, reduceIte, Nat.reduceEqDiff, forget, forget1, wantd, tzs, eve, evStore, evBox, evAlloc, evBuildSlice, evMakeSlice, evAppend, fillRows, zcells, elemsOf, putAll, PV.one, Nat.reduceAdd, Nat.reduceMul, Int.cast_ofNat_Int, Int.reduceEq, Int.reduceLT, Int.reduceLE, Nat.reduceLeDiff, List.reduceReplicate, reduceCtorEq, drcs, drc, flat]; done) | simp -dsimp [evl, drcs, drc, flat, i64, u32, bl, encL, encB, encLL]) (by first | exact .inl rfl | exact .inr rfl | exact .inr scalB | exact .inr scalI | exact .inr scalT) ?_
  cases hz : decide (hasked h [a, b] = 0)
  · have hz' := of_decide_eq_false hz
    simp -dsimp (maxSteps := 2000000) (disch := first | omega | decide +kernel) only [↓vcl, ↓vcy, ↓vco, vck, gR, evl, evb, evBuiltin, evLen, evIdxA, evLoad, loadP, aggD, tis, i64, u32, bl, encL, encB, encLL, reduceIte, Nat.reduceEqDiff, forget, forget1, wantd, tzs, eve, evStore, evBox, evAlloc, evBuildSlice, evMakeSlice, evAppend, fillRows, zcells, elemsOf, putAll, PV.one, Nat.reduceAdd, Nat.reduceMul, Int.cast_ofNat_Int, Int.reduceEq, Int.reduceLT, Int.reduceLE, Nat.reduceLeDiff, List.reduceReplicate, reduceCtorEq, retQ, resL, finL, newL, flat, tupOf, List.toList_toArray, Tryd.f31, hz]
    refine ⟨.inl (.inr (.inr ⟨rfl, ?_⟩)), .rfl', trivial⟩
    rw [betI, if_neg hz']; rfl
  · have hz' := of_decide_eq_true hz
    obtain ⟨g1, g2⟩ := asked_of hz'
    obtain ⟨v1, v2, v3, v4⟩ := valid_of g1
    have ha := g2 a (by simp)
    have hb := g2 b (by simp)
    have hlen : (fromI h).length = h.length := by simp [fromI]
    obtain ⟨a, rfl⟩ : ∃ o : Nat, a = o := ⟨a.toNat, by omega⟩
    obtain ⟨b, rfl⟩ : ∃ o : Nat, b = o := ⟨b.toNat, by omega⟩
    have hga := setsL_get (H := fromI h) (i := a) (by omega)
    have hgb := setsL_get (H := fromI h) (i := b) (by omega)
    try simp -dsimp (maxSteps := 2000000) (disch := first | omega | decide +kernel) only [↓vcl, ↓vcy, ↓vco, vck, gR, evl, evb, evBuiltin, evLen, evIdxA, evLoad, loadP, aggD, tis, i64, u32, bl, encL, encB, encLL, reduceIte, Nat.reduceEqDiff, forget, forget1, wantd, tzs, eve, evStore, evBox, evAlloc, evBuildSlice, evMakeSlice, evAppend, fillRows, zcells, elemsOf, putAll, PV.one, Nat.reduceAdd, Nat.reduceMul, Int.cast_ofNat_Int, Int.reduceEq, Int.reduceLT, Int.reduceLE, Nat.reduceLeDiff, List.reduceReplicate, reduceCtorEq, Tryd.f31, hz]
    refine CallQ.imm (s33' g1) (by rfl) (by first | rfl | (simp -dsimp (maxSteps := 2000000) (disch := first | omega | decide +kernel) only [↓vcl, ↓vcy, ↓vco, vck, gR, evl, evb, evBuiltin, evLen, evIdxA, evLoad, loadP, aggD, tis, i64, u32, bl, encL, encB, encLL, reduceIte, Nat.reduceEqDiff, forget, forget1, wantd, tzs, eve, evStore, evBox, evAlloc, evBuildSlice, evMakeSlice, evAppend, fillRows, zcells, elemsOf, putAll, PV.one, Nat.reduceAdd, Nat.reduceMul, Int.cast_ofNat_Int, Int.reduceEq, Int.reduceLT, Int.reduceLE, Nat.reduceLeDiff, List.reduceReplicate, reduceCtorEq, drcs, drc, flat]; done) | simp -dsimp [evl, drcs, drc, flat, i64, u32, bl, encL, encB, encLL]) (by first | exact .inl rfl | exact .inr rfl | exact .inr scalB | exact .inr scalI | exact .inr scalT) ?_
    try simp -dsimp (maxSteps := 2000000) (disch := first | omega | decide +kernel) only [↓vcl, ↓vcy, ↓vco, vck, gR, evl, evb, evBuiltin, evLen, evIdxA, evLoad, loadP, aggD, tis, i64, u32, bl, encL, encB, encLL, reduceIte, Nat.reduceEqDiff, forget, forget1, wantd, tzs, eve, evStore, evBox, evAlloc, evBuildSlice, evMakeSlice, evAppend, fillRows, zcells, elemsOf, putAll, PV.one, Nat.reduceAdd, Nat.reduceMul, Int.cast_ofNat_Int, Int.reduceEq, Int.reduceLT, Int.reduceLE, Nat.reduceLeDiff, List.reduceReplicate, reduceCtorEq, hga, hgb, w32, uRules, uBits]
    refine CallY.imm (s34 (ancW (fromI h) b &&& ~~~ ancW (fromI h) a)) (by rfl) (by first | rfl | (simp -dsimp (maxSteps := 2000000) (disch := first | omega | decide +kernel) only [↓vcl, ↓vcy, ↓vco, vck, gR, evl, evb, evBuiltin, evLen, evIdxA, evLoad, loadP, aggD, tis, i64, u32, bl, encL, encB, encLL, reduceIte, Nat.reduceEqDiff, forget, forget1, wantd, tzs, eve, evStore, evBox, evAlloc, evBuildSlice, evMakeSlice, evAppend, fillRows, zcells, elemsOf, putAll, PV.one, Nat.reduceAdd, Nat.reduceMul, Int.cast_ofNat_Int, Int.reduceEq, Int.reduceLT, Int.reduceLE, Nat.reduceLeDiff, List.reduceReplicate, reduceCtorEq, drcs, drc, flat]; done) | simp -dsimp [evl, drcs, drc, flat, i64, u32, bl, encL, encB, encLL]) (by first | exact .inl rfl | exact .inr rfl | exact .inr scalB | exact .inr scalI | exact .inr scalT) ?_
    simp -dsimp (maxSteps := 2000000) (disch := first | omega | decide +kernel) only [↓vcl, ↓vcy, ↓vco, vck, gR, evl, evb, evBuiltin, evLen, evIdxA, evLoad, loadP, aggD, tis, i64, u32, bl, encL, encB, encLL, reduceIte, Nat.reduceEqDiff, forget, forget1, wantd, tzs, eve, evStore, evBox, evAlloc, evBuildSlice, evMakeSlice, evAppend, fillRows, zcells, elemsOf, putAll, PV.one, Nat.reduceAdd, Nat.reduceMul, Int.cast_ofNat_Int, Int.reduceEq, Int.reduceLT, Int.reduceLE, Nat.reduceLeDiff, List.reduceReplicate, reduceCtorEq, retQ, resL, finL, newL, flat, tupOf, List.toList_toArray, Tryd.f31, newI]
    refine ⟨?_, int_eq hz'.symm, trivial⟩
    rw [betI, if_pos hz', Int.toNat_natCast, Int.toNat_natCast]
    have e : bitsL (ancW (fromI h) b &&& ~~~ ancW (fromI h) a) = lst 0 (betB (fromI h) a b) := by
      apply bits_dec (by omega)
      intro j
      rw [BitVec.getLsbD_and, BitVec.getLsbD_not, Bool.and_eq_true, ancW_get]
      constructor
      · rintro ⟨⟨h1, h2⟩, h3⟩
        have h4 := anc_ltH v3 (by omega) h2
        refine ⟨h4, h2, fun h5 => ?_⟩
        have := (ancW_get (H := fromI h) (i := a) (j := j)).2 ⟨h1, h5⟩
        simp [this] at h3
      · rintro ⟨h1, h2, h3⟩
        refine ⟨⟨by omega, h2⟩, ?_⟩
        have : ¬ (ancW (fromI h) a).getLsbD j = true := fun h5 => h3 (ancW_get.1 h5).2
        simp [this]; omega
    rw [e]; exact .rfl'

end
end Go.Ab
