import Derived.Test.YtbhmgkbmlbbonaaDoorBN
set_option linter.unusedSimpArgs false
set_option linter.unusedVariables false
set_option maxRecDepth 100000
set_option maxHeartbeats 8000000
namespace Go.Ab
open Go Go.Proofs

theorem Kor.at {R : Int → Int → Bool} {l : List Int} {K : List Int} (h : Kor R l K) {s : BitVec 64} (hs : ∀ i, s.getLsbD i = true → i < l.length) : ∃ v, K[s.toNat]? = some v ∧ (v = 0 ∨ v = (D R (sel l s) : Int) + 1) := by
  rcases h.known s hs with h1 | h1
  · exact ⟨_, h1, .inl rfl⟩
  · exact ⟨_, h1, .inr rfl⟩
theorem vbit_lt {R : Int → Int → Bool} {l : List Int} {s : BitVec 64} (hok : Ok R l) {i d : Nat} (h : vbit R l s i = some d) : d < l.length := by
  unfold vbit at h
  split at h
  · cases hx : l[i]? with
    | none => rw [hx] at h; cases h
    | some c =>
      rw [hx] at h
      obtain ⟨h1, h2, h3⟩ := val_spec (show val R (sel l s) c = some d from h)
      have hso := hok.sub (sel_sub (l := l) (s := s))
      have := two_parts (sel l s) fun x => R x c
      have := List.length_pos_iff.2 h1
      have := List.length_pos_iff.2 h2
      have := D_lt _ _ rfl (hso.filt fun x => R x c) (by omega)
      have := D_lt _ _ rfl (hso.filt fun x => !R x c) (by omega)
      have := List.Sublist.length_le (sel_sub (l := l) (s := s))
      omega
  · cases h

section
variable (R : Int → Int → Bool) (l : List Int) (u : List (BitVec 64)) (v : Nat)
variable (hok : Ok R l) (hn : l.length ≤ 12) (hul : u.length = l.length)
include hok hn hul
theorem depr_of (s : BitVec 64) (hs : ∀ i, s.getLsbD i = true → i < l.length) (h1 : 1 ≤ (sel l s).length)
    (hby : ∀ i, i < l.length → ByR R l u v s i) : DepR R l u v s := by
  intro σ nx K hB hK
  have hsame := put_same hB.k
  have hselle := List.Sublist.length_le (sel_sub (l := l) (s := s))
  have hso := hok.sub (sel_sub (l := l) (s := s))
  obtain ⟨hlow, hs0⟩ := low_sel hn hs h1
  have hsb := small_bits hn hs
  have hsl : s.toNat < 2 ^ l.length := bits_lt hs
  have hsub := sub_one hs0 hsb
  have hDl := D_lt _ _ rfl hso h1
  have hwA : IntKind.i64.wrap ((s &&& (s - 1#64)).toNat : Int) = ((s &&& (s - 1#64)).toNat : Int) := wrap_bits hn fun i hi => hs i (by rw [BitVec.getLsbD_and, Bool.and_eq_true] at hi; exact hi.1)
  have hw1 : IntKind.i64.wrap ((D R (sel l s) : Int) + 1 - 1) = (D R (sel l s) : Int) := by rw [IntWalk.i64_in _ (by omega)]; omega
  have hwD : IntKind.i64.wrap ((D R (sel l s) : Int) + 1) = (D R (sel l s) : Int) + 1 := IntWalk.i64_in _ (by omega)
  have hbt := hB.t
  have hbk := hB.k
  simp only [i64] at hbk
  obtain ⟨kv, hkv, hkv2⟩ := hK.at hs
  have hkc : (K.map fun x => [PV.lit (.int .i64 x)])[s.toNat]? = some [PV.lit (.int .i64 kv)] := by rw [List.getElem?_map, hkv]; rfl
  refine stSpec_of_vc Tryd.func45 rfl (by decide) (by kernel_rfl) (Nat.le_of_ble_eq_true rfl) ?_
  rcases hkv2 with rfl | rfl
  rotate_left
  · have hz1 : decide ((D R (sel l s) : Int) + 1 = 0) = false := decide_eq_false (by omega)
    simp -dsimp (maxSteps := 2000000) (disch := first | omega | decide +kernel) only [↓vcl, ↓vcy, ↓vco, vck, gR, evl, evb, evBuiltin, evLen, evIdxA, evLoad, loadP, aggD, tis, i64, u32, bl, encL, encB, encLL, reduceIte, Nat.reduceEqDiff, forget, forget1, wantd, tzs, eve, evStore, evBox, evAlloc, evBuildSlice, evMakeSlice, evAppend, fillRows, zcells, elemsOf, putAll, PV.one, Nat.reduceAdd, Nat.reduceMul, Int.cast_ofNat_Int, Int.reduceEq, Int.reduceLT, Int.reduceLE, Nat.reduceLeDiff, List.reduceReplicate, reduceCtorEq, stQ, resL, tupOf, List.toList_toArray, Tryd.f45, hbt, hbk, fldT, tisT, List.set_cons_succ, List.getElem?_cons_zero, List.getElem?_cons_succ, Nat.reduceLT, List.length_set, iw, hsl, hkv, hz1, hw1]
    exact ⟨_, _, .refl _, rfl, K, hK, hsame.symm⟩
  have hz0 : decide ((0 : Int) = 0) = true := rfl
  by_cases hone : (sel l s).length ≤ 1
  · have hD0 : D R (sel l s) = 0 := by rw [D_eq, if_pos hone]
    have hlo : decide (s &&& (s - 1#64) = 0#64) = true := by rw [hlow]; exact decide_eq_true hone
    have hset := hK.set s
    rw [hD0] at hset hwD hw1
    have hl2 : s.toNat < K.length := by rw [hK.len]; exact hsl
    have hs2 : ((K.map fun x => [PV.lit (.int .i64 x)]).set s.toNat [PV.lit (.int .i64 1)])[s.toNat]? = some [PV.lit (.int .i64 1)] := by
      rw [List.getElem?_set_self (by rw [List.length_map]; omega)]
    have wr1 : IntKind.i64.wrap (0 + 1) = 1 ∧ IntKind.i64.wrap (1 - 1) = 0 := by decide
    rw [hD0]
    simp -dsimp (maxSteps := 2000000) (disch := first | omega | decide +kernel) only [↓vcl, ↓vcy, ↓vco, vck, gR, evl, evb, evBuiltin, evLen, evIdxA, evLoad, loadP, aggD, tis, i64, u32, bl, encL, encB, encLL, reduceIte, Nat.reduceEqDiff, forget, forget1, wantd, tzs, eve, evStore, evBox, evAlloc, evBuildSlice, evMakeSlice, evAppend, fillRows, zcells, elemsOf, putAll, PV.one, Nat.reduceAdd, Nat.reduceMul, Int.cast_ofNat_Int, Int.reduceEq, Int.reduceLT, Int.reduceLE, Nat.reduceLeDiff, List.reduceReplicate, reduceCtorEq, stQ, resL, tupOf, List.toList_toArray, Tryd.f45, hbt, hbk, fldT, tisT, List.set_cons_succ, List.getElem?_cons_zero, List.getElem?_cons_succ, Nat.reduceLT, List.length_set, iw, hsl, hkv, hz0, hsub, iBits, hwA, W64.uEq0, hlo, wr1, hs2, put_put]
    exact ⟨_, _, .refl _, rfl, K.set s.toNat 1, by simpa using hset, by rw [List.map_set]⟩
  have hlo : decide (s &&& (s - 1#64) = 0#64) = false := by rw [hlow]; exact decide_eq_false (by omega)
  try simp -dsimp (maxSteps := 2000000) (disch := first | omega | decide +kernel) only [↓vcl, ↓vcy, ↓vco, vck, gR, evl, evb, evBuiltin, evLen, evIdxA, evLoad, loadP, aggD, tis, i64, u32, bl, encL, encB, encLL, reduceIte, Nat.reduceEqDiff, forget, forget1, wantd, tzs, eve, evStore, evBox, evAlloc, evBuildSlice, evMakeSlice, evAppend, fillRows, zcells, elemsOf, putAll, PV.one, Nat.reduceAdd, Nat.reduceMul, Int.cast_ofNat_Int, Int.reduceEq, Int.reduceLT, Int.reduceLE, Nat.reduceLeDiff, List.reduceReplicate, reduceCtorEq, Tryd.f45, hbt, hbk, fldT, tisT, List.set_cons_succ, List.getElem?_cons_zero, List.getElem?_cons_succ, Nat.reduceLT, List.length_set, iw, hsl, hkv, hz0, hsub, iBits, hwA, W64.uEq0, hlo]
  refine LoopQ.rule (fun m st => ∃ (i : Nat) (K' : List Int), i ≤ l.length ∧ Kor R l K' ∧ m = l.length - i ∧
    st = ⟨mkE [(0, .ptr 1 0 0 0), (1, iw s), (5, i64 (bst l.length (vbit R l s) i)), (6, i64 i)], σ.put 0 (.row 0 1 (K'.map fun x => [i64 x]) false), nx⟩) _ _ (weak_ofS ?_)
    ⟨0, K, by omega, hK, rfl, rfl⟩ ?_
  · have hb0 : bst l.length (vbit R l s) 0 = -1 := by unfold bst; rw [if_neg (by simp [scan])]
    simp only [i64] at hsame
    first | (simp -dsimp (maxSteps := 2000000) (disch := first | omega | decide +kernel) only [↓vcl, ↓vcy, ↓vco, vck, gR, evl, evb, evBuiltin, evLen, evIdxA, evLoad, loadP, aggD, tis, i64, u32, bl, encL, encB, encLL, reduceIte, Nat.reduceEqDiff, forget, forget1, wantd, tzs, eve, evStore, evBox, evAlloc, evBuildSlice, evMakeSlice, evAppend, fillRows, zcells, elemsOf, putAll, PV.one, Nat.reduceAdd, Nat.reduceMul, Int.cast_ofNat_Int, Int.reduceEq, Int.reduceLT, Int.reduceLE, Nat.reduceLeDiff, List.reduceReplicate, reduceCtorEq, hsame, hb0, iw]; done) | simp -dsimp [evl, putN, i64, u32, bl, encL, encB, encLL, hsame, hb0, iw]
  rintro m st ⟨i, K', hi, hK', rfl, rfl⟩
  try simp -dsimp (maxSteps := 2000000) (disch := first | omega | decide +kernel) only [↓vcl, ↓vcy, ↓vco, vck, gR, evl, evb, evBuiltin, evLen, evIdxA, evLoad, loadP, aggD, tis, i64, u32, bl, encL, encB, encLL, reduceIte, Nat.reduceEqDiff, forget, forget1, wantd, tzs, eve, evStore, evBox, evAlloc, evBuildSlice, evMakeSlice, evAppend, fillRows, zcells, elemsOf, putAll, PV.one, Nat.reduceAdd, Nat.reduceMul, Int.cast_ofNat_Int, Int.reduceEq, Int.reduceLT, Int.reduceLE, Nat.reduceLeDiff, List.reduceReplicate, reduceCtorEq, hbt, fldT, tisT, List.set_cons_succ, List.getElem?_cons_zero, List.getElem?_cons_succ, Nat.reduceLT, List.length_set]
  refine onC_nlt (fun h3 => ?_) (fun h3 => ?_)
  · try simp -dsimp (maxSteps := 2000000) (disch := first | omega | decide +kernel) only [↓vcl, ↓vcy, ↓vco, vck, gR, evl, evb, evBuiltin, evLen, evIdxA, evLoad, loadP, aggD, tis, i64, u32, bl, encL, encB, encLL, reduceIte, Nat.reduceEqDiff, forget, forget1, wantd, tzs, eve, evStore, evBox, evAlloc, evBuildSlice, evMakeSlice, evAppend, fillRows, zcells, elemsOf, putAll, PV.one, Nat.reduceAdd, Nat.reduceMul, Int.cast_ofNat_Int, Int.reduceEq, Int.reduceLT, Int.reduceLE, Nat.reduceLeDiff, List.reduceReplicate, reduceCtorEq]
    refine CallQ.inm (hby i h3 _ _ K' hB.upd hK') (by rfl) ?_
    rintro r σ' nx' ⟨rfl, rfl, K2, hK2, rfl⟩
    cases hvb : vbit R l s i with
    | none =>
      have hb1 : bst l.length (vbit R l s) (i + 1) = bst l.length (vbit R l s) i := by unfold bst; rw [scan, hvb]
      have hd1 : decide ((0 : Int) ≤ -1) = false := rfl
      try simp -dsimp (maxSteps := 2000000) (disch := first | omega | decide +kernel) only [↓vcl, ↓vcy, ↓vco, vck, gR, evl, evb, evBuiltin, evLen, evIdxA, evLoad, loadP, aggD, tis, i64, u32, bl, encL, encB, encLL, reduceIte, Nat.reduceEqDiff, forget, forget1, wantd, tzs, eve, evStore, evBox, evAlloc, evBuildSlice, evMakeSlice, evAppend, fillRows, zcells, elemsOf, putAll, PV.one, Nat.reduceAdd, Nat.reduceMul, Int.cast_ofNat_Int, Int.reduceEq, Int.reduceLT, Int.reduceLE, Nat.reduceLeDiff, List.reduceReplicate, reduceCtorEq, oint, hd1]
      refine ⟨_, _, ?_, weak_ofS ?_, i + 1, K2, h3, hK2, rfl, rfl⟩
      · omega
      · first | (simp -dsimp (maxSteps := 2000000) (disch := first | omega | decide +kernel) only [↓vcl, ↓vcy, ↓vco, vck, gR, evl, evb, evBuiltin, evLen, evIdxA, evLoad, loadP, aggD, tis, i64, u32, bl, encL, encB, encLL, reduceIte, Nat.reduceEqDiff, forget, forget1, wantd, tzs, eve, evStore, evBox, evAlloc, evBuildSlice, evMakeSlice, evAppend, fillRows, zcells, elemsOf, putAll, PV.one, Nat.reduceAdd, Nat.reduceMul, Int.cast_ofNat_Int, Int.reduceEq, Int.reduceLT, Int.reduceLE, Nat.reduceLeDiff, List.reduceReplicate, reduceCtorEq, wrapS h3 (show l.length ≤ 9223372036854775807 by omega), put_put, hb1, iw]; done) | simp -dsimp [evl, putN, i64, u32, bl, encL, encB, encLL, wrapS h3 (show l.length ≤ 9223372036854775807 by omega), put_put, hb1, iw]
    | some d =>
      have hdn := vbit_lt hok hvb
      have hd1 : decide ((0 : Int) ≤ (d : Int)) = true := decide_eq_true (by omega)
      by_cases hsc : (scan l.length (vbit R l s) i).1 < l.length
      · have hb0 : bst l.length (vbit R l s) i = ((scan l.length (vbit R l s) i).1 : Int) := by unfold bst; rw [if_pos hsc]
        have hd2 : decide (((scan l.length (vbit R l s) i).1 : Int) < 0) = false := decide_eq_false (by omega)
        by_cases hlt : d < (scan l.length (vbit R l s) i).1
        · have hd3 : decide ((d : Int) < ((scan l.length (vbit R l s) i).1 : Int)) = true := decide_eq_true (by omega)
          have hb1 : bst l.length (vbit R l s) (i + 1) = (d : Int) := by unfold bst; rw [scan, hvb]; simp only; rw [if_pos hlt, if_pos hdn]
          try simp -dsimp (maxSteps := 2000000) (disch := first | omega | decide +kernel) only [↓vcl, ↓vcy, ↓vco, vck, gR, evl, evb, evBuiltin, evLen, evIdxA, evLoad, loadP, aggD, tis, i64, u32, bl, encL, encB, encLL, reduceIte, Nat.reduceEqDiff, forget, forget1, wantd, tzs, eve, evStore, evBox, evAlloc, evBuildSlice, evMakeSlice, evAppend, fillRows, zcells, elemsOf, putAll, PV.one, Nat.reduceAdd, Nat.reduceMul, Int.cast_ofNat_Int, Int.reduceEq, Int.reduceLT, Int.reduceLE, Nat.reduceLeDiff, List.reduceReplicate, reduceCtorEq, oint, hd1, hb0, hd2, hd3]
          refine ⟨_, _, ?_, weak_ofS ?_, i + 1, K2, h3, hK2, rfl, rfl⟩
          · omega
          · first | (simp -dsimp (maxSteps := 2000000) (disch := first | omega | decide +kernel) only [↓vcl, ↓vcy, ↓vco, vck, gR, evl, evb, evBuiltin, evLen, evIdxA, evLoad, loadP, aggD, tis, i64, u32, bl, encL, encB, encLL, reduceIte, Nat.reduceEqDiff, forget, forget1, wantd, tzs, eve, evStore, evBox, evAlloc, evBuildSlice, evMakeSlice, evAppend, fillRows, zcells, elemsOf, putAll, PV.one, Nat.reduceAdd, Nat.reduceMul, Int.cast_ofNat_Int, Int.reduceEq, Int.reduceLT, Int.reduceLE, Nat.reduceLeDiff, List.reduceReplicate, reduceCtorEq, wrapS h3 (show l.length ≤ 9223372036854775807 by omega), put_put, hb1, iw]; done) | simp -dsimp [evl, putN, i64, u32, bl, encL, encB, encLL, wrapS h3 (show l.length ≤ 9223372036854775807 by omega), put_put, hb1, iw]
        · have hd3 : decide ((d : Int) < ((scan l.length (vbit R l s) i).1 : Int)) = false := decide_eq_false (by omega)
          have hb1 : bst l.length (vbit R l s) (i + 1) = ((scan l.length (vbit R l s) i).1 : Int) := by unfold bst; rw [scan, hvb]; simp only; rw [if_neg hlt, if_pos hsc]
          try simp -dsimp (maxSteps := 2000000) (disch := first | omega | decide +kernel) only [↓vcl, ↓vcy, ↓vco, vck, gR, evl, evb, evBuiltin, evLen, evIdxA, evLoad, loadP, aggD, tis, i64, u32, bl, encL, encB, encLL, reduceIte, Nat.reduceEqDiff, forget, forget1, wantd, tzs, eve, evStore, evBox, evAlloc, evBuildSlice, evMakeSlice, evAppend, fillRows, zcells, elemsOf, putAll, PV.one, Nat.reduceAdd, Nat.reduceMul, Int.cast_ofNat_Int, Int.reduceEq, Int.reduceLT, Int.reduceLE, Nat.reduceLeDiff, List.reduceReplicate, reduceCtorEq, oint, hd1, hb0, hd2, hd3]
          refine ⟨_, _, ?_, weak_ofS ?_, i + 1, K2, h3, hK2, rfl, rfl⟩
          · omega
          · first | (simp -dsimp (maxSteps := 2000000) (disch := first | omega | decide +kernel) only [↓vcl, ↓vcy, ↓vco, vck, gR, evl, evb, evBuiltin, evLen, evIdxA, evLoad, loadP, aggD, tis, i64, u32, bl, encL, encB, encLL, reduceIte, Nat.reduceEqDiff, forget, forget1, wantd, tzs, eve, evStore, evBox, evAlloc, evBuildSlice, evMakeSlice, evAppend, fillRows, zcells, elemsOf, putAll, PV.one, Nat.reduceAdd, Nat.reduceMul, Int.cast_ofNat_Int, Int.reduceEq, Int.reduceLT, Int.reduceLE, Nat.reduceLeDiff, List.reduceReplicate, reduceCtorEq, wrapS h3 (show l.length ≤ 9223372036854775807 by omega), put_put, hb1, hb0, iw]; done) | simp -dsimp [evl, putN, i64, u32, bl, encL, encB, encLL, wrapS h3 (show l.length ≤ 9223372036854775807 by omega), put_put, hb1, hb0, iw]
      · have hb0 : bst l.length (vbit R l s) i = -1 := by unfold bst; rw [if_neg hsc]
        have hd2 : decide ((-1 : Int) < 0) = true := rfl
        have hb1 : bst l.length (vbit R l s) (i + 1) = (d : Int) := by unfold bst; rw [scan, hvb]; simp only; rw [if_pos (show d < (scan l.length (vbit R l s) i).1 by omega), if_pos hdn]
        try simp -dsimp (maxSteps := 2000000) (disch := first | omega | decide +kernel) only [↓vcl, ↓vcy, ↓vco, vck, gR, evl, evb, evBuiltin, evLen, evIdxA, evLoad, loadP, aggD, tis, i64, u32, bl, encL, encB, encLL, reduceIte, Nat.reduceEqDiff, forget, forget1, wantd, tzs, eve, evStore, evBox, evAlloc, evBuildSlice, evMakeSlice, evAppend, fillRows, zcells, elemsOf, putAll, PV.one, Nat.reduceAdd, Nat.reduceMul, Int.cast_ofNat_Int, Int.reduceEq, Int.reduceLT, Int.reduceLE, Nat.reduceLeDiff, List.reduceReplicate, reduceCtorEq, oint, hd1, hb0, hd2]
        refine ⟨_, _, ?_, weak_ofS ?_, i + 1, K2, h3, hK2, rfl, rfl⟩
        · omega
        · first | (simp -dsimp (maxSteps := 2000000) (disch := first | omega | decide +kernel) only [↓vcl, ↓vcy, ↓vco, vck, gR, evl, evb, evBuiltin, evLen, evIdxA, evLoad, loadP, aggD, tis, i64, u32, bl, encL, encB, encLL, reduceIte, Nat.reduceEqDiff, forget, forget1, wantd, tzs, eve, evStore, evBox, evAlloc, evBuildSlice, evMakeSlice, evAppend, fillRows, zcells, elemsOf, putAll, PV.one, Nat.reduceAdd, Nat.reduceMul, Int.cast_ofNat_Int, Int.reduceEq, Int.reduceLT, Int.reduceLE, Nat.reduceLeDiff, List.reduceReplicate, reduceCtorEq, wrapS h3 (show l.length ≤ 9223372036854775807 by omega), put_put, hb1, iw]; done) | simp -dsimp [evl, putN, i64, u32, bl, encL, encB, encLL, wrapS h3 (show l.length ≤ 9223372036854775807 by omega), put_put, hb1, iw]
  have hil : i = l.length := by omega
  subst hil
  obtain ⟨a, ha1, _, _⟩ := scan_best (s := s) hok (by omega) hselle
  have hbD : bst l.length (vbit R l s) l.length = (D R (sel l s) : Int) := by unfold bst; rw [ha1, if_pos (by omega)]
  have hset := hK'.set s
  have hl2 : s.toNat < K'.length := by rw [hK'.len]; exact hsl
  obtain ⟨kv2, hkv2, _⟩ := hK'.at hs
  have hs2 : ((K'.map fun x => [PV.lit (.int .i64 x)]).set s.toNat [PV.lit (.int .i64 ((D R (sel l s) : Int) + 1))])[s.toNat]? = some [PV.lit (.int .i64 ((D R (sel l s) : Int) + 1))] := by
    rw [List.getElem?_set_self (by rw [List.length_map]; omega)]
  simp -dsimp (maxSteps := 2000000) (disch := first | omega | decide +kernel) only [↓vcl, ↓vcy, ↓vco, vck, gR, evl, evb, evBuiltin, evLen, evIdxA, evLoad, loadP, aggD, tis, i64, u32, bl, encL, encB, encLL, reduceIte, Nat.reduceEqDiff, forget, forget1, wantd, tzs, eve, evStore, evBox, evAlloc, evBuildSlice, evMakeSlice, evAppend, fillRows, zcells, elemsOf, putAll, PV.one, Nat.reduceAdd, Nat.reduceMul, Int.cast_ofNat_Int, Int.reduceEq, Int.reduceLT, Int.reduceLE, Nat.reduceLeDiff, List.reduceReplicate, reduceCtorEq, stQ, resL, tupOf, List.toList_toArray, Tryd.f45, hbt, fldT, tisT, List.set_cons_succ, List.getElem?_cons_zero, List.getElem?_cons_succ, Nat.reduceLT, List.length_set, iw, hbD, hsl, hkv2, hwD, hs2, hw1, put_put]
  exact ⟨_, _, .refl _, rfl, K'.set s.toNat ((D R (sel l s) : Int) + 1), hset, by rw [List.map_set]⟩

theorem all_depr (hU : ∀ (i j : Nat) (c d : Int) (x : BitVec 64), l[i]? = some c → l[j]? = some d → u[i]? = some x → x.getLsbD j = R d c) :
    ∀ (n : Nat) (s : BitVec 64), (sel l s).length = n → (∀ i, s.getLsbD i = true → i < l.length) → 1 ≤ n → (∀ i, i < l.length → ByR R l u v s i) ∧ DepR R l u v s := by
  intro n
  induction n using Nat.strongRecOn with
  | _ n ih =>
    intro s hl hs h1
    have hb : ∀ i, i < l.length → ByR R l u v s i := fun i hi => by_of R l u v hok hn hul hU s hs i hi fun t ht h3 h4 => (ih _ (by omega) t rfl ht h3).2
    exact ⟨hb, depr_of R l u v hok hn hul s hs (by omega) hb⟩
end
end Go.Ab
