import Derived.Test.YtlfllbelabkaeaaDoorDC
set_option linter.unusedSimpArgs false
set_option linter.unusedVariables false
set_option maxRecDepth 100000
namespace Go.Ab
open Go Go.Proofs W16

/-! ### Check, of the program -/
theorem countP_upd {p : Nat → Bool} {c : Nat} (hp : p c = false) : ∀ L : List Nat, L.Nodup → c ∈ L → L.countP (fun j => p j || decide (j = c)) = L.countP p + 1
  | [], _, h => by cases h
  | j :: L, hn, hm => by
    rw [List.nodup_cons] at hn
    rw [List.countP_cons, List.countP_cons]
    rcases List.mem_cons.1 hm with rfl | hm
    · have : L.countP (fun j => p j || decide (j = c)) = L.countP p := by
        apply List.countP_congr
        intro j hj
        have : j ≠ c := fun e => hn.1 (e ▸ hj)
        simp [this]
      rw [this]; simp [hp]
    · have := countP_upd hp L hn.2 hm
      have hne : j ≠ c := fun e => hn.1 (e ▸ hm)
      rw [this]; simp [hne]; omega
theorem pc_or {x : BitVec 16} {c : Nat} (hc : c < 16) : pc (x ||| bit c) = pc x + if x.getLsbD c then 0 else 1 := by
  rw [pc_count, pc_count]
  have hx : (List.range 16).countP (x ||| bit c).getLsbD = (List.range 16).countP fun j => x.getLsbD j || decide (j = c) := by
    apply List.countP_congr
    intro j hj
    have : j < 16 := by simpa using hj
    rw [BitVec.getLsbD_or, bit_get]; simp only [this, decide_true, Bool.and_true]
  rw [hx]
  cases h : x.getLsbD c
  · rw [countP_upd h _ List.nodup_range (by simpa using hc)]; simp
  · simp only [if_true, Nat.add_zero]
    apply List.countP_congr
    intro j hj
    by_cases e : j = c
    · subst e; simp [h]
    · simp [e]
theorem pc_ofL : ∀ (n : Nat) (g : List Int), g.length = n → (∀ c ∈ g, 0 ≤ c ∧ c < 16) → pc (ofL g) ≤ g.length ∧ (pc (ofL g) = g.length ↔ g.Nodup)
  | 0, g, hn, _ => by
    have : g = [] := List.eq_nil_of_length_eq_zero hn
    subst this
    simp [ofL, pc, bits_zero]
  | n + 1, g, hn, hc => by
    rcases List.eq_nil_or_concat g with rfl | ⟨g', c, rfl⟩
    · simp at hn
    · simp only [List.concat_eq_append] at *
      have hlen : g'.length = n := by simpa using hn
      have hc' : ∀ c ∈ g', 0 ≤ c ∧ c < 16 := fun d hd => hc d (by simp [hd])
      have h1 := hc c (by simp)
      obtain ⟨i1, i2⟩ := pc_ofL n g' hlen hc'
      rw [ofL_snoc, pc_or (by omega)]
      have hb : (ofL g').getLsbD c.toNat = true ↔ c ∈ g' := by
        rw [ofL_get hc', show ((c.toNat : Nat) : Int) = c from by omega]
      rw [List.nodup_append]
      cases hx : (ofL g').getLsbD c.toNat
      · have hm : c ∉ g' := fun hm => by rw [hb.2 hm] at hx; cases hx
        refine ⟨by simp; omega, ?_⟩
        constructor
        · intro h
          refine ⟨i2.1 (by simp at h; omega), by simp, fun a ha b hbm => ?_⟩
          simp at hbm; subst hbm; intro e; subst e; exact hm ha
        · rintro ⟨h, _⟩
          have := i2.2 h
          simp; omega
      · have hm := hb.1 hx
        refine ⟨by simp; omega, ?_⟩
        constructor
        · intro h; simp at h; omega
        · rintro ⟨_, _, h⟩
          exact absurd rfl (h c hm c (by simp))
theorem dup_pc {g : List Int} (hc : ∀ c ∈ g, 0 ≤ c ∧ c < 16) : (pc (ofL g) < g.length) ↔ ¬ g.Nodup := by
  obtain ⟨h1, h2⟩ := pc_ofL _ g rfl hc
  rw [← h2]; omega

theorem d_Check1 (n : Nd) (h : fits [n]) : CallSpec cx 41 [agN n] (bl (manyN n)) := by
  have hn := h.2 n (by simp)
  refine callSpec_of_vc Tryd.func41 rfl (by decide) (by kernel_rfl) (Nat.le_of_ble_eq_true rfl) ?_
  cases hA : decide ((4 : Int) < (n.2.length : Int))
  · try simp -dsimp (maxSteps := 2000000) (disch := first | omega | decide +kernel) only [↓vcl, ↓vcy, ↓vco, vck, gR, evl, evb, evBuiltin, evLen, evIdxA, evLoad, loadP, aggD, tis, i64, u32, bl, encL, encB, encLL, reduceIte, Nat.reduceEqDiff, forget, forget1, wantd, tzs, eve, evStore, evBox, evAlloc, evBuildSlice, evMakeSlice, evAppend, fillRows, zcells, elemsOf, putAll, PV.one, Nat.reduceAdd, Nat.reduceMul, Int.cast_ofNat_Int, Int.reduceEq, Int.reduceLT, Int.reduceLE, Nat.reduceLeDiff, List.reduceReplicate, reduceCtorEq, Tryd.f41, agN, encN, PV.cellsP, fldN, hA]
    refine CallQ.imm (ll_contains n.2 hn.1 43 [] rfl _ fun g _ => d_Check11 g) (by rfl) (by first | rfl | (simp -dsimp (maxSteps := 2000000) (disch := first | omega | decide +kernel) only [↓vcl, ↓vcy, ↓vco, vck, gR, evl, evb, evBuiltin, evLen, evIdxA, evLoad, loadP, aggD, tis, i64, u32, bl, encL, encB, encLL, reduceIte, Nat.reduceEqDiff, forget, forget1, wantd, tzs, eve, evStore, evBox, evAlloc, evBuildSlice, evMakeSlice, evAppend, fillRows, zcells, elemsOf, putAll, PV.one, Nat.reduceAdd, Nat.reduceMul, Int.cast_ofNat_Int, Int.reduceEq, Int.reduceLT, Int.reduceLE, Nat.reduceLeDiff, List.reduceReplicate, reduceCtorEq, drcs, drc, flat]; done) | simp -dsimp [evl, drcs, drc, flat, i64, u32, bl, encL, encB, encLL]) (by first | exact .inl rfl | exact .inr rfl | exact .inr scalB | exact .inr scalI | exact .inr scalT) ?_
    simp -dsimp (maxSteps := 2000000) (disch := first | omega | decide +kernel) only [↓vcl, ↓vcy, ↓vco, vck, gR, evl, evb, evBuiltin, evLen, evIdxA, evLoad, loadP, aggD, tis, i64, u32, bl, encL, encB, encLL, reduceIte, Nat.reduceEqDiff, forget, forget1, wantd, tzs, eve, evStore, evBox, evAlloc, evBuildSlice, evMakeSlice, evAppend, fillRows, zcells, elemsOf, putAll, PV.one, Nat.reduceAdd, Nat.reduceMul, Int.cast_ofNat_Int, Int.reduceEq, Int.reduceLT, Int.reduceLE, Nat.reduceLeDiff, List.reduceReplicate, reduceCtorEq, retQ, resL, finL, newL, flat, tupOf, List.toList_toArray, Tryd.f41]
    refine leT_one (bl_eq ?_) (by simp)
    have := of_decide_eq_false hA
    unfold manyN
    rw [decide_eq_false (by omega)]; rfl
  · simp -dsimp (maxSteps := 2000000) (disch := first | omega | decide +kernel) only [↓vcl, ↓vcy, ↓vco, vck, gR, evl, evb, evBuiltin, evLen, evIdxA, evLoad, loadP, aggD, tis, i64, u32, bl, encL, encB, encLL, reduceIte, Nat.reduceEqDiff, forget, forget1, wantd, tzs, eve, evStore, evBox, evAlloc, evBuildSlice, evMakeSlice, evAppend, fillRows, zcells, elemsOf, putAll, PV.one, Nat.reduceAdd, Nat.reduceMul, Int.cast_ofNat_Int, Int.reduceEq, Int.reduceLT, Int.reduceLE, Nat.reduceLeDiff, List.reduceReplicate, reduceCtorEq, retQ, resL, finL, newL, flat, tupOf, List.toList_toArray, Tryd.f41, agN, encN, PV.cellsP, fldN, hA]
    refine leT_one (bl_eq ?_) (by simp)
    have := of_decide_eq_true hA
    unfold manyN
    rw [decide_eq_true (by omega)]; rfl
theorem d_Check21 (g : List Int) (hg : g.length ≤ 9223372036854775807) : CallSpec cx 46 [encL g] (bl (badG g)) := by
  refine callSpec_of_vc Tryd.func46 rfl (by decide) (by kernel_rfl) (Nat.le_of_ble_eq_true rfl) ?_
  cases hA : decide ((g.length : Int) = 0)
  · try simp -dsimp (maxSteps := 2000000) (disch := first | omega | decide +kernel) only [↓vcl, ↓vcy, ↓vco, vck, gR, evl, evb, evBuiltin, evLen, evIdxA, evLoad, loadP, aggD, tis, i64, u32, bl, encL, encB, encLL, reduceIte, Nat.reduceEqDiff, forget, forget1, wantd, tzs, eve, evStore, evBox, evAlloc, evBuildSlice, evMakeSlice, evAppend, fillRows, zcells, elemsOf, putAll, PV.one, Nat.reduceAdd, Nat.reduceMul, Int.cast_ofNat_Int, Int.reduceEq, Int.reduceLT, Int.reduceLE, Nat.reduceLeDiff, List.reduceReplicate, reduceCtorEq, Tryd.f46, hA]
    refine CallQ.imm (li_contains g hg 48 [] rfl _ fun c _ => d_Check111 c) (by rfl) (by first | rfl | (simp -dsimp (maxSteps := 2000000) (disch := first | omega | decide +kernel) only [↓vcl, ↓vcy, ↓vco, vck, gR, evl, evb, evBuiltin, evLen, evIdxA, evLoad, loadP, aggD, tis, i64, u32, bl, encL, encB, encLL, reduceIte, Nat.reduceEqDiff, forget, forget1, wantd, tzs, eve, evStore, evBox, evAlloc, evBuildSlice, evMakeSlice, evAppend, fillRows, zcells, elemsOf, putAll, PV.one, Nat.reduceAdd, Nat.reduceMul, Int.cast_ofNat_Int, Int.reduceEq, Int.reduceLT, Int.reduceLE, Nat.reduceLeDiff, List.reduceReplicate, reduceCtorEq, drcs, drc, flat]; done) | simp -dsimp [evl, drcs, drc, flat, i64, u32, bl, encL, encB, encLL]) (by first | exact .inl rfl | exact .inr rfl | exact .inr scalB | exact .inr scalI | exact .inr scalT) ?_
    simp -dsimp (maxSteps := 2000000) (disch := first | omega | decide +kernel) only [↓vcl, ↓vcy, ↓vco, vck, gR, evl, evb, evBuiltin, evLen, evIdxA, evLoad, loadP, aggD, tis, i64, u32, bl, encL, encB, encLL, reduceIte, Nat.reduceEqDiff, forget, forget1, wantd, tzs, eve, evStore, evBox, evAlloc, evBuildSlice, evMakeSlice, evAppend, fillRows, zcells, elemsOf, putAll, PV.one, Nat.reduceAdd, Nat.reduceMul, Int.cast_ofNat_Int, Int.reduceEq, Int.reduceLT, Int.reduceLE, Nat.reduceLeDiff, List.reduceReplicate, reduceCtorEq, retQ, resL, finL, newL, flat, tupOf, List.toList_toArray, Tryd.f46]
    refine leT_one (bl_eq ?_) (by simp)
    have := of_decide_eq_false hA
    unfold badG
    rw [decide_eq_false (by omega)]; rfl
  · simp -dsimp (maxSteps := 2000000) (disch := first | omega | decide +kernel) only [↓vcl, ↓vcy, ↓vco, vck, gR, evl, evb, evBuiltin, evLen, evIdxA, evLoad, loadP, aggD, tis, i64, u32, bl, encL, encB, encLL, reduceIte, Nat.reduceEqDiff, forget, forget1, wantd, tzs, eve, evStore, evBox, evAlloc, evBuildSlice, evMakeSlice, evAppend, fillRows, zcells, elemsOf, putAll, PV.one, Nat.reduceAdd, Nat.reduceMul, Int.cast_ofNat_Int, Int.reduceEq, Int.reduceLT, Int.reduceLE, Nat.reduceLeDiff, List.reduceReplicate, reduceCtorEq, retQ, resL, finL, newL, flat, tupOf, List.toList_toArray, Tryd.f46, hA]
    refine leT_one (bl_eq ?_) (by simp)
    have := of_decide_eq_true hA
    unfold badG
    rw [decide_eq_true (by omega)]; rfl
theorem d_Check2 (n : Nd) (h : fits [n]) : CallSpec cx 45 [agN n] (bl (badN n)) := by
  have hn := h.2 n (by simp)
  refine callSpec_of_vc Tryd.func45 rfl (by decide) (by kernel_rfl) (Nat.le_of_ble_eq_true rfl) ?_
  try simp -dsimp (maxSteps := 2000000) (disch := first | omega | decide +kernel) only [↓vcl, ↓vcy, ↓vco, vck, gR, evl, evb, evBuiltin, evLen, evIdxA, evLoad, loadP, aggD, tis, i64, u32, bl, encL, encB, encLL, reduceIte, Nat.reduceEqDiff, forget, forget1, wantd, tzs, eve, evStore, evBox, evAlloc, evBuildSlice, evMakeSlice, evAppend, fillRows, zcells, elemsOf, putAll, PV.one, Nat.reduceAdd, Nat.reduceMul, Int.cast_ofNat_Int, Int.reduceEq, Int.reduceLT, Int.reduceLE, Nat.reduceLeDiff, List.reduceReplicate, reduceCtorEq, Tryd.f45, agN, encN, PV.cellsP, fldN]
  refine CallQ.imm (d_isClass n.1) (by rfl) (by first | rfl | (simp -dsimp (maxSteps := 2000000) (disch := first | omega | decide +kernel) only [↓vcl, ↓vcy, ↓vco, vck, gR, evl, evb, evBuiltin, evLen, evIdxA, evLoad, loadP, aggD, tis, i64, u32, bl, encL, encB, encLL, reduceIte, Nat.reduceEqDiff, forget, forget1, wantd, tzs, eve, evStore, evBox, evAlloc, evBuildSlice, evMakeSlice, evAppend, fillRows, zcells, elemsOf, putAll, PV.one, Nat.reduceAdd, Nat.reduceMul, Int.cast_ofNat_Int, Int.reduceEq, Int.reduceLT, Int.reduceLE, Nat.reduceLeDiff, List.reduceReplicate, reduceCtorEq, drcs, drc, flat]; done) | simp -dsimp [evl, drcs, drc, flat, i64, u32, bl, encL, encB, encLL]) (by first | exact .inl rfl | exact .inr rfl | exact .inr scalB | exact .inr scalI | exact .inr scalT) ?_
  cases hA : cls n.1
  · simp -dsimp (maxSteps := 2000000) (disch := first | omega | decide +kernel) only [↓vcl, ↓vcy, ↓vco, vck, gR, evl, evb, evBuiltin, evLen, evIdxA, evLoad, loadP, aggD, tis, i64, u32, bl, encL, encB, encLL, reduceIte, Nat.reduceEqDiff, forget, forget1, wantd, tzs, eve, evStore, evBox, evAlloc, evBuildSlice, evMakeSlice, evAppend, fillRows, zcells, elemsOf, putAll, PV.one, Nat.reduceAdd, Nat.reduceMul, Int.cast_ofNat_Int, Int.reduceEq, Int.reduceLT, Int.reduceLE, Nat.reduceLeDiff, List.reduceReplicate, reduceCtorEq, retQ, resL, finL, newL, flat, tupOf, List.toList_toArray, Tryd.f45, uUn, Option.bind_some]
    refine leT_one (bl_eq ?_) (by simp)
    unfold badN; rw [hA]; rfl
  · try simp -dsimp (maxSteps := 2000000) (disch := first | omega | decide +kernel) only [↓vcl, ↓vcy, ↓vco, vck, gR, evl, evb, evBuiltin, evLen, evIdxA, evLoad, loadP, aggD, tis, i64, u32, bl, encL, encB, encLL, reduceIte, Nat.reduceEqDiff, forget, forget1, wantd, tzs, eve, evStore, evBox, evAlloc, evBuildSlice, evMakeSlice, evAppend, fillRows, zcells, elemsOf, putAll, PV.one, Nat.reduceAdd, Nat.reduceMul, Int.cast_ofNat_Int, Int.reduceEq, Int.reduceLT, Int.reduceLE, Nat.reduceLeDiff, List.reduceReplicate, reduceCtorEq, uUn, Option.bind_some, fldN]
    refine CallQ.imm (ll_contains n.2 hn.1 46 [] rfl _ fun g hg => d_Check21 g (hn.2 g hg)) (by rfl) (by first | rfl | (simp -dsimp (maxSteps := 2000000) (disch := first | omega | decide +kernel) only [↓vcl, ↓vcy, ↓vco, vck, gR, evl, evb, evBuiltin, evLen, evIdxA, evLoad, loadP, aggD, tis, i64, u32, bl, encL, encB, encLL, reduceIte, Nat.reduceEqDiff, forget, forget1, wantd, tzs, eve, evStore, evBox, evAlloc, evBuildSlice, evMakeSlice, evAppend, fillRows, zcells, elemsOf, putAll, PV.one, Nat.reduceAdd, Nat.reduceMul, Int.cast_ofNat_Int, Int.reduceEq, Int.reduceLT, Int.reduceLE, Nat.reduceLeDiff, List.reduceReplicate, reduceCtorEq, drcs, drc, flat]; done) | simp -dsimp [evl, drcs, drc, flat, i64, u32, bl, encL, encB, encLL]) (by first | exact .inl rfl | exact .inr rfl | exact .inr scalB | exact .inr scalI | exact .inr scalT) ?_
    simp -dsimp (maxSteps := 2000000) (disch := first | omega | decide +kernel) only [↓vcl, ↓vcy, ↓vco, vck, gR, evl, evb, evBuiltin, evLen, evIdxA, evLoad, loadP, aggD, tis, i64, u32, bl, encL, encB, encLL, reduceIte, Nat.reduceEqDiff, forget, forget1, wantd, tzs, eve, evStore, evBox, evAlloc, evBuildSlice, evMakeSlice, evAppend, fillRows, zcells, elemsOf, putAll, PV.one, Nat.reduceAdd, Nat.reduceMul, Int.cast_ofNat_Int, Int.reduceEq, Int.reduceLT, Int.reduceLE, Nat.reduceLeDiff, List.reduceReplicate, reduceCtorEq, retQ, resL, finL, newL, flat, tupOf, List.toList_toArray, Tryd.f45]
    refine leT_one (bl_eq ?_) (by simp)
    unfold badN; rw [hA]; rfl
theorem d_Check3 (g : List Int) (hg : g.length ≤ 9223372036854775807) (hc : ∀ c ∈ g, 0 ≤ c ∧ c < 16) : CallSpec cx 49 [encL g] (bl (decide (pc (ofL g) < g.length))) := by
  refine callSpec_of_vc Tryd.func49 rfl (by decide) (by kernel_rfl) (Nat.le_of_ble_eq_true rfl) ?_
  try simp -dsimp (maxSteps := 2000000) (disch := first | omega | decide +kernel) only [↓vcl, ↓vcy, ↓vco, vck, gR, evl, evb, evBuiltin, evLen, evIdxA, evLoad, loadP, aggD, tis, i64, u32, bl, encL, encB, encLL, reduceIte, Nat.reduceEqDiff, forget, forget1, wantd, tzs, eve, evStore, evBox, evAlloc, evBuildSlice, evMakeSlice, evAppend, fillRows, zcells, elemsOf, putAll, PV.one, Nat.reduceAdd, Nat.reduceMul, Int.cast_ofNat_Int, Int.reduceEq, Int.reduceLT, Int.reduceLE, Nat.reduceLeDiff, List.reduceReplicate, reduceCtorEq, Tryd.f49]
  refine CallQ.imm (d_of g hg hc) (by rfl) (by first | rfl | (simp -dsimp (maxSteps := 2000000) (disch := first | omega | decide +kernel) only [↓vcl, ↓vcy, ↓vco, vck, gR, evl, evb, evBuiltin, evLen, evIdxA, evLoad, loadP, aggD, tis, i64, u32, bl, encL, encB, encLL, reduceIte, Nat.reduceEqDiff, forget, forget1, wantd, tzs, eve, evStore, evBox, evAlloc, evBuildSlice, evMakeSlice, evAppend, fillRows, zcells, elemsOf, putAll, PV.one, Nat.reduceAdd, Nat.reduceMul, Int.cast_ofNat_Int, Int.reduceEq, Int.reduceLT, Int.reduceLE, Nat.reduceLeDiff, List.reduceReplicate, reduceCtorEq, drcs, drc, flat]; done) | simp -dsimp [evl, drcs, drc, flat, i64, u32, bl, encL, encB, encLL]) (by first | exact .inl rfl | exact .inr rfl | exact .inr scalB | exact .inr scalI | exact .inr scalT) ?_
  try simp -dsimp (maxSteps := 2000000) (disch := first | omega | decide +kernel) only [↓vcl, ↓vcy, ↓vco, vck, gR, evl, evb, evBuiltin, evLen, evIdxA, evLoad, loadP, aggD, tis, i64, u32, bl, encL, encB, encLL, reduceIte, Nat.reduceEqDiff, forget, forget1, wantd, tzs, eve, evStore, evBox, evAlloc, evBuildSlice, evMakeSlice, evAppend, fillRows, zcells, elemsOf, putAll, PV.one, Nat.reduceAdd, Nat.reduceMul, Int.cast_ofNat_Int, Int.reduceEq, Int.reduceLT, Int.reduceLE, Nat.reduceLeDiff, List.reduceReplicate, reduceCtorEq, wd]
  refine CallQ.imm (d_size (ofL g)) (by rfl) (by first | rfl | (simp -dsimp (maxSteps := 2000000) (disch := first | omega | decide +kernel) only [↓vcl, ↓vcy, ↓vco, vck, gR, evl, evb, evBuiltin, evLen, evIdxA, evLoad, loadP, aggD, tis, i64, u32, bl, encL, encB, encLL, reduceIte, Nat.reduceEqDiff, forget, forget1, wantd, tzs, eve, evStore, evBox, evAlloc, evBuildSlice, evMakeSlice, evAppend, fillRows, zcells, elemsOf, putAll, PV.one, Nat.reduceAdd, Nat.reduceMul, Int.cast_ofNat_Int, Int.reduceEq, Int.reduceLT, Int.reduceLE, Nat.reduceLeDiff, List.reduceReplicate, reduceCtorEq, drcs, drc, flat]; done) | simp -dsimp [evl, drcs, drc, flat, i64, u32, bl, encL, encB, encLL]) (by first | exact .inl rfl | exact .inr rfl | exact .inr scalB | exact .inr scalI | exact .inr scalT) ?_
  simp -dsimp (maxSteps := 2000000) (disch := first | omega | decide +kernel) only [↓vcl, ↓vcy, ↓vco, vck, gR, evl, evb, evBuiltin, evLen, evIdxA, evLoad, loadP, aggD, tis, i64, u32, bl, encL, encB, encLL, reduceIte, Nat.reduceEqDiff, forget, forget1, wantd, tzs, eve, evStore, evBox, evAlloc, evBuildSlice, evMakeSlice, evAppend, fillRows, zcells, elemsOf, putAll, PV.one, Nat.reduceAdd, Nat.reduceMul, Int.cast_ofNat_Int, Int.reduceEq, Int.reduceLT, Int.reduceLE, Nat.reduceLeDiff, List.reduceReplicate, reduceCtorEq, retQ, resL, finL, newL, flat, tupOf, List.toList_toArray, Tryd.f49]
  exact leT_one (bl_eq (by rw [decide_eq_decide]; omega)) (by simp)

theorem fits_one {l : List Nd} (h : fits l) {n : Nd} (hn : n ∈ l) : fits [n] := ⟨by simp, fun m hm => by simp at hm; subst hm; exact h.2 m hn⟩

open Classical in
theorem d_Check (l : List Nd) (h : fits l) : CallSpec cx 17 [encNs l] (i64 (dcheck l)) := by
  refine callSpec_of_vc Tryd.func17 rfl (by decide) (by kernel_rfl) (Nat.le_of_ble_eq_true rfl) ?_
  cases hA : decide ((10 : Int) < (l.length : Int))
  case true =>
    simp -dsimp (maxSteps := 2000000) (disch := first | omega | decide +kernel) only [↓vcl, ↓vcy, ↓vco, vck, gR, evl, evb, evBuiltin, evLen, evIdxA, evLoad, loadP, aggD, tis, i64, u32, bl, encL, encB, encLL, reduceIte, Nat.reduceEqDiff, forget, forget1, wantd, tzs, eve, evStore, evBox, evAlloc, evBuildSlice, evMakeSlice, evAppend, fillRows, zcells, elemsOf, putAll, PV.one, Nat.reduceAdd, Nat.reduceMul, Int.cast_ofNat_Int, Int.reduceEq, Int.reduceLT, Int.reduceLE, Nat.reduceLeDiff, List.reduceReplicate, reduceCtorEq, retQ, resL, finL, newL, flat, tupOf, List.toList_toArray, Tryd.f17, encNs, hA]
    refine leT_one (int_eq ?_) (by simp)
    have := of_decide_eq_true hA
    rw [dcheck, if_pos (by omega)]
  have hA' := of_decide_eq_false hA
  try simp -dsimp (maxSteps := 2000000) (disch := first | omega | decide +kernel) only [↓vcl, ↓vcy, ↓vco, vck, gR, evl, evb, evBuiltin, evLen, evIdxA, evLoad, loadP, aggD, tis, i64, u32, bl, encL, encB, encLL, reduceIte, Nat.reduceEqDiff, forget, forget1, wantd, tzs, eve, evStore, evBox, evAlloc, evBuildSlice, evMakeSlice, evAppend, fillRows, zcells, elemsOf, putAll, PV.one, Nat.reduceAdd, Nat.reduceMul, Int.cast_ofNat_Int, Int.reduceEq, Int.reduceLT, Int.reduceLE, Nat.reduceLeDiff, List.reduceReplicate, reduceCtorEq, Tryd.f17, encNs, hA]
  refine CallQ.imm (ln_contains l h.1 41 [] rfl _ fun n hn => d_Check1 n (fits_one h hn)) (by rfl) (by first | rfl | (simp -dsimp (maxSteps := 2000000) (disch := first | omega | decide +kernel) only [↓vcl, ↓vcy, ↓vco, vck, gR, evl, evb, evBuiltin, evLen, evIdxA, evLoad, loadP, aggD, tis, i64, u32, bl, encL, encB, encLL, reduceIte, Nat.reduceEqDiff, forget, forget1, wantd, tzs, eve, evStore, evBox, evAlloc, evBuildSlice, evMakeSlice, evAppend, fillRows, zcells, elemsOf, putAll, PV.one, Nat.reduceAdd, Nat.reduceMul, Int.cast_ofNat_Int, Int.reduceEq, Int.reduceLT, Int.reduceLE, Nat.reduceLeDiff, List.reduceReplicate, reduceCtorEq, drcs, drc, flat]; done) | simp -dsimp [evl, drcs, drc, flat, i64, u32, bl, encL, encB, encLL]) (by first | exact .inl rfl | exact .inr rfl | exact .inr scalB | exact .inr scalI | exact .inr scalT) ?_
  cases hB : l.any manyN
  case true =>
    simp -dsimp (maxSteps := 2000000) (disch := first | omega | decide +kernel) only [↓vcl, ↓vcy, ↓vco, vck, gR, evl, evb, evBuiltin, evLen, evIdxA, evLoad, loadP, aggD, tis, i64, u32, bl, encL, encB, encLL, reduceIte, Nat.reduceEqDiff, forget, forget1, wantd, tzs, eve, evStore, evBox, evAlloc, evBuildSlice, evMakeSlice, evAppend, fillRows, zcells, elemsOf, putAll, PV.one, Nat.reduceAdd, Nat.reduceMul, Int.cast_ofNat_Int, Int.reduceEq, Int.reduceLT, Int.reduceLE, Nat.reduceLeDiff, List.reduceReplicate, reduceCtorEq, retQ, resL, finL, newL, flat, tupOf, List.toList_toArray, Tryd.f17, encNs, hB]
    refine leT_one (int_eq ?_) (by simp)
    rw [dcheck, if_neg (by omega), if_pos hB]
  try simp -dsimp (maxSteps := 2000000) (disch := first | omega | decide +kernel) only [↓vcl, ↓vcy, ↓vco, vck, gR, evl, evb, evBuiltin, evLen, evIdxA, evLoad, loadP, aggD, tis, i64, u32, bl, encL, encB, encLL, reduceIte, Nat.reduceEqDiff, forget, forget1, wantd, tzs, eve, evStore, evBox, evAlloc, evBuildSlice, evMakeSlice, evAppend, fillRows, zcells, elemsOf, putAll, PV.one, Nat.reduceAdd, Nat.reduceMul, Int.cast_ofNat_Int, Int.reduceEq, Int.reduceLT, Int.reduceLE, Nat.reduceLeDiff, List.reduceReplicate, reduceCtorEq, hB, encNs]
  refine CallQ.imm (ln_contains l h.1 45 [] rfl _ fun n hn => d_Check2 n (fits_one h hn)) (by rfl) (by first | rfl | (simp -dsimp (maxSteps := 2000000) (disch := first | omega | decide +kernel) only [↓vcl, ↓vcy, ↓vco, vck, gR, evl, evb, evBuiltin, evLen, evIdxA, evLoad, loadP, aggD, tis, i64, u32, bl, encL, encB, encLL, reduceIte, Nat.reduceEqDiff, forget, forget1, wantd, tzs, eve, evStore, evBox, evAlloc, evBuildSlice, evMakeSlice, evAppend, fillRows, zcells, elemsOf, putAll, PV.one, Nat.reduceAdd, Nat.reduceMul, Int.cast_ofNat_Int, Int.reduceEq, Int.reduceLT, Int.reduceLE, Nat.reduceLeDiff, List.reduceReplicate, reduceCtorEq, drcs, drc, flat]; done) | simp -dsimp [evl, drcs, drc, flat, i64, u32, bl, encL, encB, encLL]) (by first | exact .inl rfl | exact .inr rfl | exact .inr scalB | exact .inr scalI | exact .inr scalT) ?_
  cases hC : l.any badN
  case true =>
    simp -dsimp (maxSteps := 2000000) (disch := first | omega | decide +kernel) only [↓vcl, ↓vcy, ↓vco, vck, gR, evl, evb, evBuiltin, evLen, evIdxA, evLoad, loadP, aggD, tis, i64, u32, bl, encL, encB, encLL, reduceIte, Nat.reduceEqDiff, forget, forget1, wantd, tzs, eve, evStore, evBox, evAlloc, evBuildSlice, evMakeSlice, evAppend, fillRows, zcells, elemsOf, putAll, PV.one, Nat.reduceAdd, Nat.reduceMul, Int.cast_ofNat_Int, Int.reduceEq, Int.reduceLT, Int.reduceLE, Nat.reduceLeDiff, List.reduceReplicate, reduceCtorEq, retQ, resL, finL, newL, flat, tupOf, List.toList_toArray, Tryd.f17, encNs, hC]
    refine leT_one (int_eq ?_) (by simp)
    rw [dcheck, if_neg (by omega), if_neg (by rw [hB]; simp), if_pos hC]
  have hd : dcheck l = if twiceN l then 14 else 0 := by rw [dcheck, if_neg (by omega), if_neg (by rw [hB]; simp), if_neg (by rw [hC]; simp)]
  have hcl : ∀ n ∈ l, 0 ≤ n.1 ∧ n.1 < 10 ∧ ∀ g ∈ n.2, ∀ c ∈ g, 0 ≤ c ∧ c < 16 := fun n hn => by
    have h5 := List.any_eq_false.1 hC n hn
    unfold badN cls at h5
    simp only [Bool.or_eq_true, not_or] at h5
    have h6 := h5.1
    simp at h6
    refine ⟨h6.1, h6.2, fun g hg c hc => ?_⟩
    have h7 : badG g = false := by
      rw [Bool.eq_false_iff]; intro h8; exact h5.2 (List.any_eq_true.2 ⟨g, hg, h8⟩)
    unfold badG at h7
    simp [cls] at h7
    have := h7.2 c hc
    omega
  try simp -dsimp (maxSteps := 2000000) (disch := first | omega | decide +kernel) only [↓vcl, ↓vcy, ↓vco, vck, gR, evl, evb, evBuiltin, evLen, evIdxA, evLoad, loadP, aggD, tis, i64, u32, bl, encL, encB, encLL, reduceIte, Nat.reduceEqDiff, forget, forget1, wantd, tzs, eve, evStore, evBox, evAlloc, evBuildSlice, evMakeSlice, evAppend, fillRows, zcells, elemsOf, putAll, PV.one, Nat.reduceAdd, Nat.reduceMul, Int.cast_ofNat_Int, Int.reduceEq, Int.reduceLT, Int.reduceLE, Nat.reduceLeDiff, List.reduceReplicate, reduceCtorEq, hC, encNs]
  refine LoopQ.rule (fun m st => ∃ i nx : Nat, i ≤ l.length ∧ (∀ j, j < i → ∀ n, l[j]? = some n → (∀ k m, k < j → l[k]? = some m → m.1 ≠ n.1) ∧ ∀ g ∈ n.2, g.Nodup) ∧ m = l.length - i ∧
    st = ⟨mkE [(5, wd (ofL ((l.take i).map (·.1)))), (19, encNs l), (20, i64 l.length), (21, i64 i)], mkS [], nx⟩) _ _ (weak_of ?_) ⟨0, 0, by omega, by omega, rfl, rfl⟩ ?_
  · first | (simp -dsimp (maxSteps := 2000000) (disch := first | omega | decide +kernel) only [↓vcl, ↓vcy, ↓vco, vck, gR, evl, evb, evBuiltin, evLen, evIdxA, evLoad, loadP, aggD, tis, i64, u32, bl, encL, encB, encLL, reduceIte, Nat.reduceEqDiff, forget, forget1, wantd, tzs, eve, evStore, evBox, evAlloc, evBuildSlice, evMakeSlice, evAppend, fillRows, zcells, elemsOf, putAll, PV.one, Nat.reduceAdd, Nat.reduceMul, Int.cast_ofNat_Int, Int.reduceEq, Int.reduceLT, Int.reduceLE, Nat.reduceLeDiff, List.reduceReplicate, reduceCtorEq, encNs, wd, ofL]; done) | simp -dsimp [evl, putN, i64, u32, bl, encL, encB, encLL, encNs, wd, ofL]
  rintro m st ⟨i, nx, hi, hpre, rfl, rfl⟩
  try simp -dsimp (maxSteps := 2000000) (disch := first | omega | decide +kernel) only [↓vcl, ↓vcy, ↓vco, vck, gR, evl, evb, evBuiltin, evLen, evIdxA, evLoad, loadP, aggD, tis, i64, u32, bl, encL, encB, encLL, reduceIte, Nat.reduceEqDiff, forget, forget1, wantd, tzs, eve, evStore, evBox, evAlloc, evBuildSlice, evMakeSlice, evAppend, fillRows, zcells, elemsOf, putAll, PV.one, Nat.reduceAdd, Nat.reduceMul, Int.cast_ofNat_Int, Int.reduceEq, Int.reduceLT, Int.reduceLE, Nat.reduceLeDiff, List.reduceReplicate, reduceCtorEq, encNs]
  refine onC_nlt (fun h2 => ?_) (fun h2 => ?_)
  · obtain ⟨n, hn, hnm⟩ := get_of_lt h2
    obtain ⟨n1, n2⟩ := n
    have hcn := hcl _ hnm
    have hfn := h.2 _ hnm
    simp only at hcn hfn
    obtain ⟨c, rfl⟩ : ∃ o : Nat, n1 = o := ⟨n1.toNat, by omega⟩
    have hseen : ∀ m ∈ (l.take i).map (·.1), 0 ≤ m ∧ m < 16 := fun m hm => by
      obtain ⟨n', h3, rfl⟩ := List.mem_map.1 hm
      have := hcl n' (List.mem_of_mem_take h3)
      omega
    have hmem : (ofL ((l.take i).map (·.1))).getLsbD c = true ↔ ∃ k m, k < i ∧ l[k]? = some m ∧ m.1 = c := by
      rw [ofL_get hseen, List.mem_map]
      constructor
      · rintro ⟨m, h3, h4⟩
        obtain ⟨k, hk⟩ := List.getElem?_of_mem h3
        rw [List.getElem?_take] at hk
        split at hk
        · exact ⟨k, m, by assumption, hk, h4⟩
        · cases hk
      · rintro ⟨k, m, h3, h4, h5⟩
        exact ⟨m, List.mem_of_getElem? (i := k) (by rw [List.getElem?_take, if_pos h3]; exact h4), h5⟩
    have e := ofL_snoc (l := (l.take i).map (·.1)) (c := (c : Int))
    rw [show (l.take i).map (·.1) ++ [(c : Int)] = (l.take (i + 1)).map (·.1) from by rw [take_succ hn, List.map_append]; rfl, Int.toNat_natCast, bit] at e
    cases hS : decide (ofL ((l.take i).map (·.1)) >>> c &&& 1#16 = 1#16)
    · have hS' : ¬ (ofL ((l.take i).map (·.1))).getLsbD c = true := fun hb => of_decide_eq_false hS (bit_at.2 hb)
      rw [hmem] at hS'
      try simp -dsimp (maxSteps := 2000000) (disch := first | omega | decide +kernel) only [↓vcl, ↓vcy, ↓vco, vck, gR, evl, evb, evBuiltin, evLen, evIdxA, evLoad, loadP, aggD, tis, i64, u32, bl, encL, encB, encLL, reduceIte, Nat.reduceEqDiff, forget, forget1, wantd, tzs, eve, evStore, evBox, evAlloc, evBuildSlice, evMakeSlice, evAppend, fillRows, zcells, elemsOf, putAll, PV.one, Nat.reduceAdd, Nat.reduceMul, Int.cast_ofNat_Int, Int.reduceEq, Int.reduceLT, Int.reduceLE, Nat.reduceLeDiff, List.reduceReplicate, reduceCtorEq, encNs, hn, encN, tzN, PV.cellsP, fldN, wd, uRules, uBits, uShr, hS, List.set_cons_succ, List.getElem?_cons_zero, List.getElem?_cons_succ, Nat.reduceLT, List.length_set]
      refine CallQ.imm (ll_contains n2 hfn.1 49 [] rfl _ fun g hg => d_Check3 g (hfn.2 g hg) (hcn.2.2 g hg)) (by rfl) (by first | rfl | (simp -dsimp (maxSteps := 2000000) (disch := first | omega | decide +kernel) only [↓vcl, ↓vcy, ↓vco, vck, gR, evl, evb, evBuiltin, evLen, evIdxA, evLoad, loadP, aggD, tis, i64, u32, bl, encL, encB, encLL, reduceIte, Nat.reduceEqDiff, forget, forget1, wantd, tzs, eve, evStore, evBox, evAlloc, evBuildSlice, evMakeSlice, evAppend, fillRows, zcells, elemsOf, putAll, PV.one, Nat.reduceAdd, Nat.reduceMul, Int.cast_ofNat_Int, Int.reduceEq, Int.reduceLT, Int.reduceLE, Nat.reduceLeDiff, List.reduceReplicate, reduceCtorEq, drcs, drc, flat]; done) | simp -dsimp [evl, drcs, drc, flat, i64, u32, bl, encL, encB, encLL]) (by first | exact .inl rfl | exact .inr rfl | exact .inr scalB | exact .inr scalI | exact .inr scalT) ?_
      cases hD : n2.any fun g => decide (pc (ofL g) < g.length)
      · try simp -dsimp (maxSteps := 2000000) (disch := first | omega | decide +kernel) only [↓vcl, ↓vcy, ↓vco, vck, gR, evl, evb, evBuiltin, evLen, evIdxA, evLoad, loadP, aggD, tis, i64, u32, bl, encL, encB, encLL, reduceIte, Nat.reduceEqDiff, forget, forget1, wantd, tzs, eve, evStore, evBox, evAlloc, evBuildSlice, evMakeSlice, evAppend, fillRows, zcells, elemsOf, putAll, PV.one, Nat.reduceAdd, Nat.reduceMul, Int.cast_ofNat_Int, Int.reduceEq, Int.reduceLT, Int.reduceLE, Nat.reduceLeDiff, List.reduceReplicate, reduceCtorEq, fldN, List.set_cons_succ, List.getElem?_cons_zero, List.getElem?_cons_succ, Nat.reduceLT, List.length_set, wd, uRules, uBits, uShl]
        refine ⟨_, _, ?_, weak_of ?_, i + 1, nx + 1, h2, fun j hj n hnj => ?_, rfl, rfl⟩
        · omega
        · first | (simp -dsimp (maxSteps := 2000000) (disch := first | omega | decide +kernel) only [↓vcl, ↓vcy, ↓vco, vck, gR, evl, evb, evBuiltin, evLen, evIdxA, evLoad, loadP, aggD, tis, i64, u32, bl, encL, encB, encLL, reduceIte, Nat.reduceEqDiff, forget, forget1, wantd, tzs, eve, evStore, evBox, evAlloc, evBuildSlice, evMakeSlice, evAppend, fillRows, zcells, elemsOf, putAll, PV.one, Nat.reduceAdd, Nat.reduceMul, Int.cast_ofNat_Int, Int.reduceEq, Int.reduceLT, Int.reduceLE, Nat.reduceLeDiff, List.reduceReplicate, reduceCtorEq, encNs, wrapS h2 h.1, wd, e]; done) | simp -dsimp [evl, putN, i64, u32, bl, encL, encB, encLL, encNs, wrapS h2 h.1, wd, e]
        · by_cases hji : j = i
          · subst hji; rw [hn] at hnj; cases hnj
            refine ⟨fun k m h3 h4 h5 => hS' ⟨k, m, h3, h4, h5⟩, fun g hg => ?_⟩
            have h6 := List.any_eq_false.1 hD g hg
            simp only [decide_eq_true_eq] at h6
            apply Classical.byContradiction; intro h7
            exact h6 ((dup_pc (hcn.2.2 g hg)).2 h7)
          · exact hpre j (by omega) n hnj
      · simp -dsimp (maxSteps := 2000000) (disch := first | omega | decide +kernel) only [↓vcl, ↓vcy, ↓vco, vck, gR, evl, evb, evBuiltin, evLen, evIdxA, evLoad, loadP, aggD, tis, i64, u32, bl, encL, encB, encLL, reduceIte, Nat.reduceEqDiff, forget, forget1, wantd, tzs, eve, evStore, evBox, evAlloc, evBuildSlice, evMakeSlice, evAppend, fillRows, zcells, elemsOf, putAll, PV.one, Nat.reduceAdd, Nat.reduceMul, Int.cast_ofNat_Int, Int.reduceEq, Int.reduceLT, Int.reduceLE, Nat.reduceLeDiff, List.reduceReplicate, reduceCtorEq, retQ, resL, finL, newL, flat, tupOf, List.toList_toArray, Tryd.f17]
        refine leT_one (int_eq ?_) (by simp)
        obtain ⟨g, hg, h6⟩ := List.any_eq_true.1 hD
        rw [hd, if_pos]
        unfold twiceN
        rw [decide_eq_true_iff]
        exact ⟨i, _, hn, .inr ⟨g, hg, (dup_pc (hcn.2.2 g hg)).1 (of_decide_eq_true h6)⟩⟩
    · have hS' := bit_at.1 (of_decide_eq_true hS)
      rw [hmem] at hS'
      simp -dsimp (maxSteps := 2000000) (disch := first | omega | decide +kernel) only [↓vcl, ↓vcy, ↓vco, vck, gR, evl, evb, evBuiltin, evLen, evIdxA, evLoad, loadP, aggD, tis, i64, u32, bl, encL, encB, encLL, reduceIte, Nat.reduceEqDiff, forget, forget1, wantd, tzs, eve, evStore, evBox, evAlloc, evBuildSlice, evMakeSlice, evAppend, fillRows, zcells, elemsOf, putAll, PV.one, Nat.reduceAdd, Nat.reduceMul, Int.cast_ofNat_Int, Int.reduceEq, Int.reduceLT, Int.reduceLE, Nat.reduceLeDiff, List.reduceReplicate, reduceCtorEq, retQ, resL, finL, newL, flat, tupOf, List.toList_toArray, Tryd.f17, encNs, hn, encN, tzN, PV.cellsP, fldN, wd, uRules, uBits, uShr, hS, List.set_cons_succ, List.getElem?_cons_zero, List.getElem?_cons_succ, Nat.reduceLT, List.length_set]
      refine leT_one (int_eq ?_) (by simp)
      rw [hd, if_pos]
      unfold twiceN
      rw [decide_eq_true_iff]
      exact ⟨i, _, hn, .inl hS'⟩
  · simp -dsimp (maxSteps := 2000000) (disch := first | omega | decide +kernel) only [↓vcl, ↓vcy, ↓vco, vck, gR, evl, evb, evBuiltin, evLen, evIdxA, evLoad, loadP, aggD, tis, i64, u32, bl, encL, encB, encLL, reduceIte, Nat.reduceEqDiff, forget, forget1, wantd, tzs, eve, evStore, evBox, evAlloc, evBuildSlice, evMakeSlice, evAppend, fillRows, zcells, elemsOf, putAll, PV.one, Nat.reduceAdd, Nat.reduceMul, Int.cast_ofNat_Int, Int.reduceEq, Int.reduceLT, Int.reduceLE, Nat.reduceLeDiff, List.reduceReplicate, reduceCtorEq, retQ, resL, finL, newL, flat, tupOf, List.toList_toArray, Tryd.f17]
    refine leT_one (int_eq ?_) (by simp)
    rw [hd, if_neg]
    unfold twiceN
    rw [decide_eq_true_iff]
    rintro ⟨j, n, h3, h4⟩
    have h5 := hpre j (by have := (List.getElem?_eq_some_iff.1 h3).1; omega) n h3
    rcases h4 with ⟨k, m, h6, h7, h8⟩ | ⟨g, h6, h7⟩
    · exact h5.1 k m h6 h7 h8
    · exact h7 (h5.2 g h6)
end Go.Ab
