/- The reference: a score. -/
import Derived.Test.YtgcodedanljhpaaMO
import Derived.Test.YtgcodedanljhpaaMH
set_option linter.unusedSimpArgs false
set_option linter.unusedVariables false
section
set_option maxRecDepth 1000000
set_option maxHeartbeats 8000000
namespace Go.Ab
open Go Go.Proofs Go.Sort
theorem bd_MP : type_of% (And.intro @gR (And.intro @tis (And.intro @i64.eq_1 (And.intro @u32.eq_1 (And.intro @bl.eq_1 (And.intro @encL.eq_1 (And.intro @encB.eq_1 (And.intro @encLL.eq_1 (And.intro @tzs (And.intro @Int.cast_ofNat_Int (And.intro @fld (And.intro @nit (And.intro @nxE (And.intro @ghR (And.intro @ovR (And.intro @evBin_seql (And.intro @evBin_sneq (And.intro @str.eq_1 (And.intro @u8.eq_1 (And.intro @encBrs.eq_1 (And.intro @cBr.eq_1 (And.intro @encLdg.eq_1 (And.intro @encKws.eq_1 (And.intro @cKw.eq_1 (And.intro @encEvss.eq_1 (And.intro @encEvs.eq_1 (And.intro @cEv.eq_1 (And.intro @encMks.eq_1 (And.intro @cMk.eq_1 (And.intro @encStrs.eq_1 (And.intro @encFxs.eq_1 (And.intro @cFx.eq_1 (And.intro @cGp.eq_1 (And.intro @tk2 (And.intro @tk3 (And.intro @List.set_cons_succ.{0} (And.intro @List.getElem?_cons_zero.{0} (And.intro @List.getElem?_cons_succ.{0} (@List.length_set.{0}))))))))))))))))))))))))))))))))))))))) := And.intro @gR (And.intro @tis (And.intro @i64.eq_1 (And.intro @u32.eq_1 (And.intro @bl.eq_1 (And.intro @encL.eq_1 (And.intro @encB.eq_1 (And.intro @encLL.eq_1 (And.intro @tzs (And.intro @Int.cast_ofNat_Int (And.intro @fld (And.intro @nit (And.intro @nxE (And.intro @ghR (And.intro @ovR (And.intro @evBin_seql (And.intro @evBin_sneq (And.intro @str.eq_1 (And.intro @u8.eq_1 (And.intro @encBrs.eq_1 (And.intro @cBr.eq_1 (And.intro @encLdg.eq_1 (And.intro @encKws.eq_1 (And.intro @cKw.eq_1 (And.intro @encEvss.eq_1 (And.intro @encEvs.eq_1 (And.intro @cEv.eq_1 (And.intro @encMks.eq_1 (And.intro @cMk.eq_1 (And.intro @encStrs.eq_1 (And.intro @encFxs.eq_1 (And.intro @cFx.eq_1 (And.intro @cGp.eq_1 (And.intro @tk2 (And.intro @tk3 (And.intro @List.set_cons_succ.{0} (And.intro @List.getElem?_cons_zero.{0} (And.intro @List.getElem?_cons_succ.{0} (@List.length_set.{0}))))))))))))))))))))))))))))))))))))))
theorem r_Score (l : Ldg) (x : List Fx) (b : Str) (hz : LSz l) (hn : LNm l) (hx40 : x.length ≤ 2^40) (hb40 : ∀ f ∈ x, f.brs.length ≤ 2^40) : CallSpec cx 8 [encLdg l, encFxs x, str b] (.tup [i64 (mscore l x b).1, i64 (mscore l x b).2]) := by
  have hbl := hz.brs
  refine callSpec_of_vc Try.func8 rfl (by decide) (by kernel_rfl) (Nat.le_of_ble_eq_true rfl) ?_
  try simp -dsimp (maxSteps := 2000000) (disch := first | omega | decide +kernel) only [↓vcl, ↓vcy, ↓vco, bd_MP, vck, evl, evb, evBuiltin, evLen, evIdxA, evLoad, loadP, aggD, reduceIte, Nat.reduceEqDiff, forget, forget1, wantd, eve, evStore, evBox, evAlloc, evBuildSlice, evMakeSlice, evAppend, fillRows, zcells, elemsOf, putAll, PV.one, Nat.reduceAdd, Nat.reduceMul, Int.reduceEq, Int.reduceLT, Int.reduceLE, Nat.reduceLeDiff, List.reduceReplicate, reduceCtorEq, evRange, evNext, Nat.reduceLT, Try.f8]
  refine CallQ.imm (r_mGaps l x hz hn hx40 hb40) (by rfl) (by first | rfl | (simp -dsimp (maxSteps := 2000000) (disch := first | omega | decide +kernel) only [↓vcl, ↓vcy, ↓vco, bd_MP, vck, evl, evb, evBuiltin, evLen, evIdxA, evLoad, loadP, aggD, reduceIte, Nat.reduceEqDiff, forget, forget1, wantd, eve, evStore, evBox, evAlloc, evBuildSlice, evMakeSlice, evAppend, fillRows, zcells, elemsOf, putAll, PV.one, Nat.reduceAdd, Nat.reduceMul, Int.reduceEq, Int.reduceLT, Int.reduceLE, Nat.reduceLeDiff, List.reduceReplicate, reduceCtorEq, evRange, evNext, Nat.reduceLT, drcs, drc, flat]; done) | simp -dsimp [evl, drcs, drc, flat, i64, u32, bl, encL, encB, encLL]) (by first | exact .inl rfl | exact .inr rfl | exact .inr scalB | exact .inr scalI | exact .inr scalT | exact .inr scalM | exact .inr scalMT | exact .inr scalGT) ?_
  cases h0 : decide (mchk l x = 0)
  · simp -dsimp (maxSteps := 2000000) (disch := first | omega | decide +kernel) only [↓vcl, ↓vcy, ↓vco, bd_MP, vck, evl, evb, evBuiltin, evLen, evIdxA, evLoad, loadP, aggD, reduceIte, Nat.reduceEqDiff, forget, forget1, wantd, eve, evStore, evBox, evAlloc, evBuildSlice, evMakeSlice, evAppend, fillRows, zcells, elemsOf, putAll, PV.one, Nat.reduceAdd, Nat.reduceMul, Int.reduceEq, Int.reduceLT, Int.reduceLE, Nat.reduceLeDiff, List.reduceReplicate, reduceCtorEq, evRange, evNext, Nat.reduceLT, retQ, resL, finL, newL, flat, tupOf, List.toList_toArray, Try.f8, newGps, h0]
    rw [mscore, if_pos (of_decide_eq_false h0)]
    exact ⟨.rfl', .rfl', trivial⟩
  have h0' := of_decide_eq_true h0
  try simp -dsimp (maxSteps := 2000000) (disch := first | omega | decide +kernel) only [↓vcl, ↓vcy, ↓vco, bd_MP, vck, evl, evb, evBuiltin, evLen, evIdxA, evLoad, loadP, aggD, reduceIte, Nat.reduceEqDiff, forget, forget1, wantd, eve, evStore, evBox, evAlloc, evBuildSlice, evMakeSlice, evAppend, fillRows, zcells, elemsOf, putAll, PV.one, Nat.reduceAdd, Nat.reduceMul, Int.reduceEq, Int.reduceLT, Int.reduceLE, Nat.reduceLeDiff, List.reduceReplicate, reduceCtorEq, evRange, evNext, Nat.reduceLT, newGps, h0]
  refine CallQ.imm (r_Index l.brs b (by omega)) (by rfl) (by first | rfl | (simp -dsimp (maxSteps := 2000000) (disch := first | omega | decide +kernel) only [↓vcl, ↓vcy, ↓vco, bd_MP, vck, evl, evb, evBuiltin, evLen, evIdxA, evLoad, loadP, aggD, reduceIte, Nat.reduceEqDiff, forget, forget1, wantd, eve, evStore, evBox, evAlloc, evBuildSlice, evMakeSlice, evAppend, fillRows, zcells, elemsOf, putAll, PV.one, Nat.reduceAdd, Nat.reduceMul, Int.reduceEq, Int.reduceLT, Int.reduceLE, Nat.reduceLeDiff, List.reduceReplicate, reduceCtorEq, evRange, evNext, Nat.reduceLT, drcs, drc, flat]; done) | simp -dsimp [evl, drcs, drc, flat, i64, u32, bl, encL, encB, encLL]) (by first | exact .inl rfl | exact .inr rfl | exact .inr scalB | exact .inr scalI | exact .inr scalT | exact .inr scalM | exact .inr scalMT | exact .inr scalGT) ?_
  cases h1 : decide (idx l.brs b < 0)
  case true =>
    simp -dsimp (maxSteps := 2000000) (disch := first | omega | decide +kernel) only [↓vcl, ↓vcy, ↓vco, bd_MP, vck, evl, evb, evBuiltin, evLen, evIdxA, evLoad, loadP, aggD, reduceIte, Nat.reduceEqDiff, forget, forget1, wantd, eve, evStore, evBox, evAlloc, evBuildSlice, evMakeSlice, evAppend, fillRows, zcells, elemsOf, putAll, PV.one, Nat.reduceAdd, Nat.reduceMul, Int.reduceEq, Int.reduceLT, Int.reduceLE, Nat.reduceLeDiff, List.reduceReplicate, reduceCtorEq, evRange, evNext, Nat.reduceLT, retQ, resL, finL, newL, flat, tupOf, List.toList_toArray, Try.f8, h1]
    rw [mscore, if_neg (by rw [Decidable.not_not]; exact h0'), if_pos (of_decide_eq_true h1)]
    exact ⟨.rfl', .rfl', trivial⟩
  have hGe : gapR l x = gapL l x := by rw [gapR, if_neg (by rw [Decidable.not_not]; exact h0')]
  have hGw : ∀ g ∈ gapL l x, 1 ≤ g.wgt ∧ g.wgt ≤ 9 := fun g hg => (gapL_wgt h0' hg).1
  have hGl : (gapL l x).length ≤ 2^20 := gapL_len h0'
  have he : mscore l x b = (scr (gapL l x) b, 0) := by rw [mscore, if_neg (by rw [Decidable.not_not]; exact h0'), if_neg (of_decide_eq_false h1)]
  rw [he, gapR_refR, hGe]
  revert hGw hGl
  generalize gapL l x = G
  intro hGw hGl
  try simp -dsimp (maxSteps := 2000000) (disch := first | omega | decide +kernel) only [↓vcl, ↓vcy, ↓vco, bd_MP, vck, evl, evb, evBuiltin, evLen, evIdxA, evLoad, loadP, aggD, reduceIte, Nat.reduceEqDiff, forget, forget1, wantd, eve, evStore, evBox, evAlloc, evBuildSlice, evMakeSlice, evAppend, fillRows, zcells, elemsOf, putAll, PV.one, Nat.reduceAdd, Nat.reduceMul, Int.reduceEq, Int.reduceLT, Int.reduceLE, Nat.reduceLeDiff, List.reduceReplicate, reduceCtorEq, evRange, evNext, Nat.reduceLT, h1]
  refine LoopQ.rule (fun m st => ∃ (i : Nat), i ≤ G.length ∧ m = G.length - i ∧
    st = ⟨mkE [(2, str b), (8, encGps G), (10, i64 (scr (G.take i) b)), (11, i64 i)], mkS [], 1⟩) _ _ (weak_of ?_)
    ⟨0, by omega, rfl, rfl⟩ ?_
  · first | (simp -dsimp (maxSteps := 2000000) (disch := first | omega | decide +kernel) only [↓vcl, ↓vcy, ↓vco, bd_MP, vck, evl, evb, evBuiltin, evLen, evIdxA, evLoad, loadP, aggD, reduceIte, Nat.reduceEqDiff, forget, forget1, wantd, eve, evStore, evBox, evAlloc, evBuildSlice, evMakeSlice, evAppend, fillRows, zcells, elemsOf, putAll, PV.one, Nat.reduceAdd, Nat.reduceMul, Int.reduceEq, Int.reduceLT, Int.reduceLE, Nat.reduceLeDiff, List.reduceReplicate, reduceCtorEq, evRange, evNext, Nat.reduceLT, encGps, List.take_zero, scr]; done) | simp -dsimp [evl, putN, i64, u32, bl, encL, encB, encLL, encGps, List.take_zero, scr]
  rintro m st ⟨i, hi, rfl, rfl⟩
  try simp -dsimp (maxSteps := 2000000) (disch := first | omega | decide +kernel) only [↓vcl, ↓vcy, ↓vco, bd_MP, vck, evl, evb, evBuiltin, evLen, evIdxA, evLoad, loadP, aggD, reduceIte, Nat.reduceEqDiff, forget, forget1, wantd, eve, evStore, evBox, evAlloc, evBuildSlice, evMakeSlice, evAppend, fillRows, zcells, elemsOf, putAll, PV.one, Nat.reduceAdd, Nat.reduceMul, Int.reduceEq, Int.reduceLT, Int.reduceLE, Nat.reduceLeDiff, List.reduceReplicate, reduceCtorEq, evRange, evNext, Nat.reduceLT, encGps, List.length_map]
  refine onC_nlt (fun h2 => ?_) (fun h2 => ?_)
  · obtain ⟨g, hx, hxm⟩ := get_of_lt h2
    have hw := hGw g hxm
    have hsb := scr_bd (s := b) (G.take i) fun q hq => hGw q (List.mem_of_mem_take hq)
    rw [List.length_take] at hsb
    have hwr : IntKind.i64.wrap (scr (G.take i) b + g.wgt) = scr (G.take i) b + g.wgt := IntWalk.i64_in _ (by omega)
    have hst : scr (G.take (i + 1)) b = scr (G.take i) b + if b = g.br then g.wgt else 0 := by rw [take_succ hx, scr_snoc]
    cases c1 : decide (g.br = b)
    · have hs2 : scr (G.take (i + 1)) b = scr (G.take i) b := by rw [hst, if_neg fun e => of_decide_eq_false c1 e.symm]; omega
      try simp -dsimp (maxSteps := 2000000) (disch := first | omega | decide +kernel) only [↓vcl, ↓vcy, ↓vco, bd_MP, vck, evl, evb, evBuiltin, evLen, evIdxA, evLoad, loadP, aggD, reduceIte, Nat.reduceEqDiff, forget, forget1, wantd, eve, evStore, evBox, evAlloc, evBuildSlice, evMakeSlice, evAppend, fillRows, zcells, elemsOf, putAll, PV.one, Nat.reduceAdd, Nat.reduceMul, Int.reduceEq, Int.reduceLT, Int.reduceLE, Nat.reduceLeDiff, List.reduceReplicate, reduceCtorEq, evRange, evNext, Nat.reduceLT, hx, encGps, c1]
      refine ⟨_, _, ?_, weak_of ?_, i + 1, h2, rfl, rfl⟩
      · omega
      · first | (simp -dsimp (maxSteps := 2000000) (disch := first | omega | decide +kernel) only [↓vcl, ↓vcy, ↓vco, bd_MP, vck, evl, evb, evBuiltin, evLen, evIdxA, evLoad, loadP, aggD, reduceIte, Nat.reduceEqDiff, forget, forget1, wantd, eve, evStore, evBox, evAlloc, evBuildSlice, evMakeSlice, evAppend, fillRows, zcells, elemsOf, putAll, PV.one, Nat.reduceAdd, Nat.reduceMul, Int.reduceEq, Int.reduceLT, Int.reduceLE, Nat.reduceLeDiff, List.reduceReplicate, reduceCtorEq, evRange, evNext, Nat.reduceLT, wrapS h2 (show G.length ≤ 9223372036854775807 by omega), encGps, hs2]; done) | simp -dsimp [evl, putN, i64, u32, bl, encL, encB, encLL, wrapS h2 (show G.length ≤ 9223372036854775807 by omega), encGps, hs2]
    · have hs2 : scr (G.take (i + 1)) b = scr (G.take i) b + g.wgt := by rw [hst, if_pos (of_decide_eq_true c1).symm]
      try simp -dsimp (maxSteps := 2000000) (disch := first | omega | decide +kernel) only [↓vcl, ↓vcy, ↓vco, bd_MP, vck, evl, evb, evBuiltin, evLen, evIdxA, evLoad, loadP, aggD, reduceIte, Nat.reduceEqDiff, forget, forget1, wantd, eve, evStore, evBox, evAlloc, evBuildSlice, evMakeSlice, evAppend, fillRows, zcells, elemsOf, putAll, PV.one, Nat.reduceAdd, Nat.reduceMul, Int.reduceEq, Int.reduceLT, Int.reduceLE, Nat.reduceLeDiff, List.reduceReplicate, reduceCtorEq, evRange, evNext, Nat.reduceLT, hx, encGps, c1, hwr]
      refine ⟨_, _, ?_, weak_of ?_, i + 1, h2, rfl, rfl⟩
      · omega
      · first | (simp -dsimp (maxSteps := 2000000) (disch := first | omega | decide +kernel) only [↓vcl, ↓vcy, ↓vco, bd_MP, vck, evl, evb, evBuiltin, evLen, evIdxA, evLoad, loadP, aggD, reduceIte, Nat.reduceEqDiff, forget, forget1, wantd, eve, evStore, evBox, evAlloc, evBuildSlice, evMakeSlice, evAppend, fillRows, zcells, elemsOf, putAll, PV.one, Nat.reduceAdd, Nat.reduceMul, Int.reduceEq, Int.reduceLT, Int.reduceLE, Nat.reduceLeDiff, List.reduceReplicate, reduceCtorEq, evRange, evNext, Nat.reduceLT, wrapS h2 (show G.length ≤ 9223372036854775807 by omega), encGps, hs2, hwr]; done) | simp -dsimp [evl, putN, i64, u32, bl, encL, encB, encLL, wrapS h2 (show G.length ≤ 9223372036854775807 by omega), encGps, hs2, hwr]
  · rw [List.take_of_length_le (by omega)]
    simp -dsimp (maxSteps := 2000000) (disch := first | omega | decide +kernel) only [↓vcl, ↓vcy, ↓vco, bd_MP, vck, evl, evb, evBuiltin, evLen, evIdxA, evLoad, loadP, aggD, reduceIte, Nat.reduceEqDiff, forget, forget1, wantd, eve, evStore, evBox, evAlloc, evBuildSlice, evMakeSlice, evAppend, fillRows, zcells, elemsOf, putAll, PV.one, Nat.reduceAdd, Nat.reduceMul, Int.reduceEq, Int.reduceLT, Int.reduceLE, Nat.reduceLeDiff, List.reduceReplicate, reduceCtorEq, evRange, evNext, Nat.reduceLT, retQ, resL, finL, newL, flat, tupOf, List.toList_toArray, Try.f8]
    exact ⟨.rfl', .rfl', trivial⟩
end Go.Ab
end

section
/- The worst score. -/
set_option maxRecDepth 1000000
set_option maxHeartbeats 8000000
namespace Go.Ab
open Go Go.Proofs Go.Sort
theorem bd_MQ : type_of% (And.intro @gR (And.intro @tis (And.intro @i64.eq_1 (And.intro @u32.eq_1 (And.intro @bl.eq_1 (And.intro @encL.eq_1 (And.intro @encB.eq_1 (And.intro @encLL.eq_1 (And.intro @tzs (And.intro @Int.cast_ofNat_Int (And.intro @fld (And.intro @nit (And.intro @nxE (And.intro @ghR (And.intro @ovR (And.intro @evBin_seql (And.intro @evBin_sneq (And.intro @str.eq_1 (And.intro @u8.eq_1 (And.intro @encBrs.eq_1 (And.intro @cBr.eq_1 (And.intro @encLdg.eq_1 (And.intro @encKws.eq_1 (And.intro @cKw.eq_1 (And.intro @encEvss.eq_1 (And.intro @encEvs.eq_1 (And.intro @cEv.eq_1 (And.intro @encMks.eq_1 (And.intro @cMk.eq_1 (And.intro @encStrs.eq_1 (And.intro @encFxs.eq_1 (And.intro @cFx.eq_1 (And.intro @cGp.eq_1 (And.intro @tk2 (And.intro @tk3 (And.intro @List.set_cons_succ.{0} (And.intro @List.getElem?_cons_zero.{0} (And.intro @List.getElem?_cons_succ.{0} (@List.length_set.{0}))))))))))))))))))))))))))))))))))))))) := And.intro @gR (And.intro @tis (And.intro @i64.eq_1 (And.intro @u32.eq_1 (And.intro @bl.eq_1 (And.intro @encL.eq_1 (And.intro @encB.eq_1 (And.intro @encLL.eq_1 (And.intro @tzs (And.intro @Int.cast_ofNat_Int (And.intro @fld (And.intro @nit (And.intro @nxE (And.intro @ghR (And.intro @ovR (And.intro @evBin_seql (And.intro @evBin_sneq (And.intro @str.eq_1 (And.intro @u8.eq_1 (And.intro @encBrs.eq_1 (And.intro @cBr.eq_1 (And.intro @encLdg.eq_1 (And.intro @encKws.eq_1 (And.intro @cKw.eq_1 (And.intro @encEvss.eq_1 (And.intro @encEvs.eq_1 (And.intro @cEv.eq_1 (And.intro @encMks.eq_1 (And.intro @cMk.eq_1 (And.intro @encStrs.eq_1 (And.intro @encFxs.eq_1 (And.intro @cFx.eq_1 (And.intro @cGp.eq_1 (And.intro @tk2 (And.intro @tk3 (And.intro @List.set_cons_succ.{0} (And.intro @List.getElem?_cons_zero.{0} (And.intro @List.getElem?_cons_succ.{0} (@List.length_set.{0}))))))))))))))))))))))))))))))))))))))
theorem sc_look {G : List Gp} {kvs : List (Value × PV × Nat)} (h : ScM G kvs) (s : Str) : (findP .string (.string s) kvs = some none ∧ scr G s = 0) ∨ findP .string (.string s) kvs = some (some (.lit (.int .i64 (scr G s)))) := by
  have : findP .string (.string s) kvs = some (if hasG G s then some (.lit (.int .i64 (scr G s))) else none) := h.map s
  cases hc : hasG G s
  · rw [hc] at this; exact .inl ⟨this, scr_no _ hc⟩
  · rw [hc] at this; exact .inr this
theorem wstF_if {G : List Gp} {w : Str} {b : Br} : (decide (scr G w < scr G b.name) = false → wstF G w b = w) ∧ (decide (scr G w < scr G b.name) = true → wstF G w b = b.name) :=
  ⟨fun h => by unfold wstF; rw [if_neg (of_decide_eq_false h)], fun h => by unfold wstF; rw [if_pos (of_decide_eq_true h)]⟩
theorem m_Worst (l : Ldg) (x : List Fx) (hz : LSz l) (hx40 : x.length ≤ 2^40) (hb40 : ∀ f ∈ x, f.brs.length ≤ 2^40) : CallSpec cx 9 [encLdg l, encFxs x] (.tup [str (mworst l x).1, i64 (mworst l x).2.1, i64 (mworst l x).2.2]) := by
  have hbl := hz.brs
  refine callSpec_of_vc Try.func9 rfl (by decide) (by kernel_rfl) (Nat.le_of_ble_eq_true rfl) ?_
  try simp -dsimp (maxSteps := 2000000) (disch := first | omega | decide +kernel) only [↓vcl, ↓vcy, ↓vco, bd_MQ, vck, evl, evb, evBuiltin, evLen, evIdxA, evLoad, loadP, aggD, reduceIte, Nat.reduceEqDiff, forget, forget1, wantd, eve, evStore, evBox, evAlloc, evBuildSlice, evMakeSlice, evAppend, fillRows, zcells, elemsOf, putAll, PV.one, Nat.reduceAdd, Nat.reduceMul, Int.reduceEq, Int.reduceLT, Int.reduceLE, Nat.reduceLeDiff, List.reduceReplicate, reduceCtorEq, evRange, evNext, Nat.reduceLT, Try.f9]
  refine CallQ.inm (m_scores l x hz hx40 hb40 _ _) (by rfl) ?_
  rintro r σ' nx1 (⟨h0, hn, rfl, rfl⟩ | ⟨h0, id, kvs, ck, hid, hid2, rfl, rfl, hM⟩)
  · have h0d : decide (mchk l x = 0) = false := decide_eq_false h0
    simp -dsimp (maxSteps := 2000000) (disch := first | omega | decide +kernel) only [↓vcl, ↓vcy, ↓vco, bd_MQ, vck, evl, evb, evBuiltin, evLen, evIdxA, evLoad, loadP, aggD, reduceIte, Nat.reduceEqDiff, forget, forget1, wantd, eve, evStore, evBox, evAlloc, evBuildSlice, evMakeSlice, evAppend, fillRows, zcells, elemsOf, putAll, PV.one, Nat.reduceAdd, Nat.reduceMul, Int.reduceEq, Int.reduceLT, Int.reduceLE, Nat.reduceLeDiff, List.reduceReplicate, reduceCtorEq, evRange, evNext, Nat.reduceLT, retQ, resL, finL, newL, flat, tupOf, List.toList_toArray, Try.f9, h0d]
    rw [mworst, if_pos h0]
    exact ⟨.rfl', .rfl', .rfl', trivial⟩
  have hid' : 1 ≤ id := hid
  have hE1_0a : (id = 0) = False := by simp; omega
  have hE1_0b : (0 = id) = False := by simp; omega
  cases h1 : decide ((kvs.length : Int) = 0)
  case true =>
    have h1' : gapL l x = [] := hM.len.1 (by have := of_decide_eq_true h1; omega)
    simp -dsimp (maxSteps := 2000000) (disch := first | omega | decide +kernel) only [↓vcl, ↓vcy, ↓vco, bd_MQ, vck, evl, evb, evBuiltin, evLen, evIdxA, evLoad, loadP, aggD, reduceIte, Nat.reduceEqDiff, forget, forget1, wantd, eve, evStore, evBox, evAlloc, evBuildSlice, evMakeSlice, evAppend, fillRows, zcells, elemsOf, putAll, PV.one, Nat.reduceAdd, Nat.reduceMul, Int.reduceEq, Int.reduceLT, Int.reduceLE, Nat.reduceLeDiff, List.reduceReplicate, reduceCtorEq, evRange, evNext, Nat.reduceLT, retQ, resL, finL, newL, flat, tupOf, List.toList_toArray, Try.f9, h1, hE1_0a, hE1_0b]
    rw [mworst, if_neg (by rw [Decidable.not_not]; exact h0), if_pos h1']
    exact ⟨.rfl', .rfl', .rfl', trivial⟩
  have h1' : gapL l x ≠ [] := fun e => by have := hM.len.2 e; have := of_decide_eq_false h1; omega
  have he : mworst l x = (wst (gapL l x) l.brs, scr (gapL l x) (wst (gapL l x) l.brs), 0) := by rw [mworst, if_neg (by rw [Decidable.not_not]; exact h0), if_neg h1']
  rw [he]
  clear he h1'
  revert hM
  generalize gapL l x = G
  intro hM
  try simp -dsimp (maxSteps := 2000000) (disch := first | omega | decide +kernel) only [↓vcl, ↓vcy, ↓vco, bd_MQ, vck, evl, evb, evBuiltin, evLen, evIdxA, evLoad, loadP, aggD, reduceIte, Nat.reduceEqDiff, forget, forget1, wantd, eve, evStore, evBox, evAlloc, evBuildSlice, evMakeSlice, evAppend, fillRows, zcells, elemsOf, putAll, PV.one, Nat.reduceAdd, Nat.reduceMul, Int.reduceEq, Int.reduceLT, Int.reduceLE, Nat.reduceLeDiff, List.reduceReplicate, reduceCtorEq, evRange, evNext, Nat.reduceLT, h1, hE1_0a, hE1_0b]
  refine LoopQ.rule (fun m st => ∃ (i nx : Nat) (w : Str), i ≤ l.brs.length ∧ id < nx ∧ w = wst G (l.brs.take i) ∧ m = l.brs.length - i ∧
    st = ⟨mkE [(2, .ptr 0 0 0 0), (7, .mp id), (9, str w), (25, encBrs l.brs), (26, i64 l.brs.length), (27, i64 i)], mkS [(0, .row 0 3 [[encKws l.known, encBrs l.brs, encEvss l.evs]] false), (id, .map kvs ck false)], nx⟩) _ _ (weak_of ?_)
    ⟨0, nx1, ⟨#[]⟩, by omega, hid2, rfl, rfl, rfl⟩ ?_
  · first | (simp -dsimp (maxSteps := 2000000) (disch := first | omega | decide +kernel) only [↓vcl, ↓vcy, ↓vco, bd_MQ, vck, evl, evb, evBuiltin, evLen, evIdxA, evLoad, loadP, aggD, reduceIte, Nat.reduceEqDiff, forget, forget1, wantd, eve, evStore, evBox, evAlloc, evBuildSlice, evMakeSlice, evAppend, fillRows, zcells, elemsOf, putAll, PV.one, Nat.reduceAdd, Nat.reduceMul, Int.reduceEq, Int.reduceLT, Int.reduceLE, Nat.reduceLeDiff, List.reduceReplicate, reduceCtorEq, evRange, evNext, Nat.reduceLT, hE1_0a, hE1_0b]; done) | simp -dsimp [evl, putN, i64, u32, bl, encL, encB, encLL, hE1_0a, hE1_0b]
  rintro m st ⟨i, nx, w, hi, hnx, hw, rfl, rfl⟩
  have hE2_0a : (id = 0) = False := by simp; omega
  have hE2_0b : (0 = id) = False := by simp; omega
  have hE2_1a : (id = nx) = False := by simp; omega
  have hE2_1b : (nx = id) = False := by simp; omega
  have hE2_2a : (nx = 0) = False := by simp; omega
  have hE2_2b : (0 = nx) = False := by simp; omega
  try simp -dsimp (maxSteps := 2000000) (disch := first | omega | decide +kernel) only [↓vcl, ↓vcy, ↓vco, bd_MQ, vck, evl, evb, evBuiltin, evLen, evIdxA, evLoad, loadP, aggD, reduceIte, Nat.reduceEqDiff, forget, forget1, wantd, eve, evStore, evBox, evAlloc, evBuildSlice, evMakeSlice, evAppend, fillRows, zcells, elemsOf, putAll, PV.one, Nat.reduceAdd, Nat.reduceMul, Int.reduceEq, Int.reduceLT, Int.reduceLE, Nat.reduceLeDiff, List.reduceReplicate, reduceCtorEq, evRange, evNext, Nat.reduceLT, hE2_0a, hE2_0b, hE2_1a, hE2_1b, hE2_2a, hE2_2b]
  refine onC_nlt (fun h2 => ?_) (fun h2 => ?_)
  · obtain ⟨b, hx, hxm⟩ := get_of_lt h2
    have hst : wst G (l.brs.take (i + 1)) = wstF G w b := by rw [take_succ hx, wst_snoc, hw]
    cases c1 : decide (scr G w < scr G b.name)
    · have hf := wstF_if.1 c1
      rcases sc_look hM b.name with ⟨a1, a2⟩ | a1 <;> rcases sc_look hM w with ⟨b1, b2⟩ | b1
      all_goals
        (try rw [a2] at c1)
        (try rw [b2] at c1)
        try simp -dsimp (maxSteps := 2000000) (disch := first | omega | decide +kernel) only [↓vcl, ↓vcy, ↓vco, bd_MQ, vck, evl, evb, evBuiltin, evLen, evIdxA, evLoad, loadP, aggD, reduceIte, Nat.reduceEqDiff, forget, forget1, wantd, eve, evStore, evBox, evAlloc, evBuildSlice, evMakeSlice, evAppend, fillRows, zcells, elemsOf, putAll, PV.one, Nat.reduceAdd, Nat.reduceMul, Int.reduceEq, Int.reduceLT, Int.reduceLE, Nat.reduceLeDiff, List.reduceReplicate, reduceCtorEq, evRange, evNext, Nat.reduceLT, hx, a1, b1, c1, evLookup, keyS, hE2_0a, hE2_0b, hE2_1a, hE2_1b, hE2_2a, hE2_2b]
        refine ⟨_, _, ?_, weak_of ?_, i + 1, nx + 1, w, h2, by omega, by rw [hst, hf], rfl, rfl⟩
        · omega
        · first | (simp -dsimp (maxSteps := 2000000) (disch := first | omega | decide +kernel) only [↓vcl, ↓vcy, ↓vco, bd_MQ, vck, evl, evb, evBuiltin, evLen, evIdxA, evLoad, loadP, aggD, reduceIte, Nat.reduceEqDiff, forget, forget1, wantd, eve, evStore, evBox, evAlloc, evBuildSlice, evMakeSlice, evAppend, fillRows, zcells, elemsOf, putAll, PV.one, Nat.reduceAdd, Nat.reduceMul, Int.reduceEq, Int.reduceLT, Int.reduceLE, Nat.reduceLeDiff, List.reduceReplicate, reduceCtorEq, evRange, evNext, Nat.reduceLT, wrapS h2 (show l.brs.length ≤ 9223372036854775807 by omega), hE2_0a, hE2_0b, hE2_1a, hE2_1b, hE2_2a, hE2_2b]; done) | simp -dsimp [evl, putN, i64, u32, bl, encL, encB, encLL, wrapS h2 (show l.brs.length ≤ 9223372036854775807 by omega), hE2_0a, hE2_0b, hE2_1a, hE2_1b, hE2_2a, hE2_2b]
    · have hf := wstF_if.2 c1
      rcases sc_look hM b.name with ⟨a1, a2⟩ | a1 <;> rcases sc_look hM w with ⟨b1, b2⟩ | b1
      all_goals
        (try rw [a2] at c1)
        (try rw [b2] at c1)
      · exact absurd (of_decide_eq_true c1) (by omega)
      all_goals
        try simp -dsimp (maxSteps := 2000000) (disch := first | omega | decide +kernel) only [↓vcl, ↓vcy, ↓vco, bd_MQ, vck, evl, evb, evBuiltin, evLen, evIdxA, evLoad, loadP, aggD, reduceIte, Nat.reduceEqDiff, forget, forget1, wantd, eve, evStore, evBox, evAlloc, evBuildSlice, evMakeSlice, evAppend, fillRows, zcells, elemsOf, putAll, PV.one, Nat.reduceAdd, Nat.reduceMul, Int.reduceEq, Int.reduceLT, Int.reduceLE, Nat.reduceLeDiff, List.reduceReplicate, reduceCtorEq, evRange, evNext, Nat.reduceLT, hx, a1, b1, c1, evLookup, keyS, hE2_0a, hE2_0b, hE2_1a, hE2_1b, hE2_2a, hE2_2b]
        refine ⟨_, _, ?_, weak_of ?_, i + 1, nx + 1, b.name, h2, by omega, by rw [hst, hf], rfl, rfl⟩
        · omega
        · first | (simp -dsimp (maxSteps := 2000000) (disch := first | omega | decide +kernel) only [↓vcl, ↓vcy, ↓vco, bd_MQ, vck, evl, evb, evBuiltin, evLen, evIdxA, evLoad, loadP, aggD, reduceIte, Nat.reduceEqDiff, forget, forget1, wantd, eve, evStore, evBox, evAlloc, evBuildSlice, evMakeSlice, evAppend, fillRows, zcells, elemsOf, putAll, PV.one, Nat.reduceAdd, Nat.reduceMul, Int.reduceEq, Int.reduceLT, Int.reduceLE, Nat.reduceLeDiff, List.reduceReplicate, reduceCtorEq, evRange, evNext, Nat.reduceLT, hx, wrapS h2 (show l.brs.length ≤ 9223372036854775807 by omega), hE2_0a, hE2_0b, hE2_1a, hE2_1b, hE2_2a, hE2_2b]; done) | simp -dsimp [evl, putN, i64, u32, bl, encL, encB, encLL, hx, wrapS h2 (show l.brs.length ≤ 9223372036854775807 by omega), hE2_0a, hE2_0b, hE2_1a, hE2_1b, hE2_2a, hE2_2b]
  · rw [List.take_of_length_le (by omega)] at hw
    rw [← hw]
    rcases sc_look hM w with ⟨b1, b2⟩ | b1
    · try simp -dsimp (maxSteps := 2000000) (disch := first | omega | decide +kernel) only [↓vcl, ↓vcy, ↓vco, bd_MQ, vck, evl, evb, evBuiltin, evLen, evIdxA, evLoad, loadP, aggD, reduceIte, Nat.reduceEqDiff, forget, forget1, wantd, eve, evStore, evBox, evAlloc, evBuildSlice, evMakeSlice, evAppend, fillRows, zcells, elemsOf, putAll, PV.one, Nat.reduceAdd, Nat.reduceMul, Int.reduceEq, Int.reduceLT, Int.reduceLE, Nat.reduceLeDiff, List.reduceReplicate, reduceCtorEq, evRange, evNext, Nat.reduceLT, b1, evLookup, keyS, hE2_0a, hE2_0b, hE2_1a, hE2_1b, hE2_2a, hE2_2b]
      first | refine vc_text (by kernel_rfl) ?_ | skip
      simp -dsimp (maxSteps := 2000000) (disch := first | omega | decide +kernel) only [↓vcl, ↓vcy, ↓vco, bd_MQ, vck, evl, evb, evBuiltin, evLen, evIdxA, evLoad, loadP, aggD, reduceIte, Nat.reduceEqDiff, forget, forget1, wantd, eve, evStore, evBox, evAlloc, evBuildSlice, evMakeSlice, evAppend, fillRows, zcells, elemsOf, putAll, PV.one, Nat.reduceAdd, Nat.reduceMul, Int.reduceEq, Int.reduceLT, Int.reduceLE, Nat.reduceLeDiff, List.reduceReplicate, reduceCtorEq, evRange, evNext, Nat.reduceLT, retQ, resL, finL, newL, flat, tupOf, List.toList_toArray, Try.f9, b1, evLookup, keyS, hE2_0a, hE2_0b, hE2_1a, hE2_1b, hE2_2a, hE2_2b]
      rw [b2]
      exact ⟨.rfl', .rfl', .rfl', trivial⟩
    · try simp -dsimp (maxSteps := 2000000) (disch := first | omega | decide +kernel) only [↓vcl, ↓vcy, ↓vco, bd_MQ, vck, evl, evb, evBuiltin, evLen, evIdxA, evLoad, loadP, aggD, reduceIte, Nat.reduceEqDiff, forget, forget1, wantd, eve, evStore, evBox, evAlloc, evBuildSlice, evMakeSlice, evAppend, fillRows, zcells, elemsOf, putAll, PV.one, Nat.reduceAdd, Nat.reduceMul, Int.reduceEq, Int.reduceLT, Int.reduceLE, Nat.reduceLeDiff, List.reduceReplicate, reduceCtorEq, evRange, evNext, Nat.reduceLT, b1, evLookup, keyS, hE2_0a, hE2_0b, hE2_1a, hE2_1b, hE2_2a, hE2_2b]
      first | refine vc_text (by kernel_rfl) ?_ | skip
      simp -dsimp (maxSteps := 2000000) (disch := first | omega | decide +kernel) only [↓vcl, ↓vcy, ↓vco, bd_MQ, vck, evl, evb, evBuiltin, evLen, evIdxA, evLoad, loadP, aggD, reduceIte, Nat.reduceEqDiff, forget, forget1, wantd, eve, evStore, evBox, evAlloc, evBuildSlice, evMakeSlice, evAppend, fillRows, zcells, elemsOf, putAll, PV.one, Nat.reduceAdd, Nat.reduceMul, Int.reduceEq, Int.reduceLT, Int.reduceLE, Nat.reduceLeDiff, List.reduceReplicate, reduceCtorEq, evRange, evNext, Nat.reduceLT, retQ, resL, finL, newL, flat, tupOf, List.toList_toArray, Try.f9, b1, evLookup, keyS, hE2_0a, hE2_0b, hE2_1a, hE2_1b, hE2_2a, hE2_2b]
      exact ⟨.rfl', .rfl', .rfl', trivial⟩
theorem r_Worst (l : Ldg) (x : List Fx) (hz : LSz l) (hn : LNm l) (hx40 : x.length ≤ 2^40) (hb40 : ∀ f ∈ x, f.brs.length ≤ 2^40) : CallSpec cx 10 [encLdg l, encFxs x] (.tup [str (mworst l x).1, i64 (mworst l x).2.1, i64 (mworst l x).2.2]) := by
  have hbl := hz.brs
  refine callSpec_of_vc Try.func10 rfl (by decide) (by kernel_rfl) (Nat.le_of_ble_eq_true rfl) ?_
  try simp -dsimp (maxSteps := 2000000) (disch := first | omega | decide +kernel) only [↓vcl, ↓vcy, ↓vco, bd_MQ, vck, evl, evb, evBuiltin, evLen, evIdxA, evLoad, loadP, aggD, reduceIte, Nat.reduceEqDiff, forget, forget1, wantd, eve, evStore, evBox, evAlloc, evBuildSlice, evMakeSlice, evAppend, fillRows, zcells, elemsOf, putAll, PV.one, Nat.reduceAdd, Nat.reduceMul, Int.reduceEq, Int.reduceLT, Int.reduceLE, Nat.reduceLeDiff, List.reduceReplicate, reduceCtorEq, evRange, evNext, Nat.reduceLT, Try.f10]
  refine CallQ.imm (r_mCheck l x hz hn hx40 hb40) (by rfl) (by first | rfl | (simp -dsimp (maxSteps := 2000000) (disch := first | omega | decide +kernel) only [↓vcl, ↓vcy, ↓vco, bd_MQ, vck, evl, evb, evBuiltin, evLen, evIdxA, evLoad, loadP, aggD, reduceIte, Nat.reduceEqDiff, forget, forget1, wantd, eve, evStore, evBox, evAlloc, evBuildSlice, evMakeSlice, evAppend, fillRows, zcells, elemsOf, putAll, PV.one, Nat.reduceAdd, Nat.reduceMul, Int.reduceEq, Int.reduceLT, Int.reduceLE, Nat.reduceLeDiff, List.reduceReplicate, reduceCtorEq, evRange, evNext, Nat.reduceLT, drcs, drc, flat]; done) | simp -dsimp [evl, drcs, drc, flat, i64, u32, bl, encL, encB, encLL]) (by first | exact .inl rfl | exact .inr rfl | exact .inr scalB | exact .inr scalI | exact .inr scalT | exact .inr scalM | exact .inr scalMT | exact .inr scalGT) ?_
  cases h0 : decide (mchk l x = 0)
  · try simp -dsimp (maxSteps := 2000000) (disch := first | omega | decide +kernel) only [↓vcl, ↓vcy, ↓vco, bd_MQ, vck, evl, evb, evBuiltin, evLen, evIdxA, evLoad, loadP, aggD, reduceIte, Nat.reduceEqDiff, forget, forget1, wantd, eve, evStore, evBox, evAlloc, evBuildSlice, evMakeSlice, evAppend, fillRows, zcells, elemsOf, putAll, PV.one, Nat.reduceAdd, Nat.reduceMul, Int.reduceEq, Int.reduceLT, Int.reduceLE, Nat.reduceLeDiff, List.reduceReplicate, reduceCtorEq, evRange, evNext, Nat.reduceLT, h0]
    refine CallQ.imm (r_mCheck l x hz hn hx40 hb40) (by rfl) (by first | rfl | (simp -dsimp (maxSteps := 2000000) (disch := first | omega | decide +kernel) only [↓vcl, ↓vcy, ↓vco, bd_MQ, vck, evl, evb, evBuiltin, evLen, evIdxA, evLoad, loadP, aggD, reduceIte, Nat.reduceEqDiff, forget, forget1, wantd, eve, evStore, evBox, evAlloc, evBuildSlice, evMakeSlice, evAppend, fillRows, zcells, elemsOf, putAll, PV.one, Nat.reduceAdd, Nat.reduceMul, Int.reduceEq, Int.reduceLT, Int.reduceLE, Nat.reduceLeDiff, List.reduceReplicate, reduceCtorEq, evRange, evNext, Nat.reduceLT, drcs, drc, flat]; done) | simp -dsimp [evl, drcs, drc, flat, i64, u32, bl, encL, encB, encLL]) (by first | exact .inl rfl | exact .inr rfl | exact .inr scalB | exact .inr scalI | exact .inr scalT | exact .inr scalM | exact .inr scalMT | exact .inr scalGT) ?_
    simp -dsimp (maxSteps := 2000000) (disch := first | omega | decide +kernel) only [↓vcl, ↓vcy, ↓vco, bd_MQ, vck, evl, evb, evBuiltin, evLen, evIdxA, evLoad, loadP, aggD, reduceIte, Nat.reduceEqDiff, forget, forget1, wantd, eve, evStore, evBox, evAlloc, evBuildSlice, evMakeSlice, evAppend, fillRows, zcells, elemsOf, putAll, PV.one, Nat.reduceAdd, Nat.reduceMul, Int.reduceEq, Int.reduceLT, Int.reduceLE, Nat.reduceLeDiff, List.reduceReplicate, reduceCtorEq, evRange, evNext, Nat.reduceLT, retQ, resL, finL, newL, flat, tupOf, List.toList_toArray, Try.f10, h0]
    rw [mworst, if_pos (of_decide_eq_false h0)]
    exact ⟨.rfl', .rfl', .rfl', trivial⟩
  have h0' := of_decide_eq_true h0
  have hok := lok_of (mchk_zero h0').1
  have he : mworst l x = if scr (gapL l x) (wst (gapL l x) l.brs) = 0 then (⟨#[]⟩, 0, 6) else (wst (gapL l x) l.brs, scr (gapL l x) (wst (gapL l x) l.brs), 0) := by
    rw [mworst, if_neg (by rw [Decidable.not_not]; exact h0')]
    by_cases e : gapL l x = []
    · rw [if_pos e, if_pos ((wst_zero h0').2 e)]
    · rw [if_neg e, if_neg fun h => e ((wst_zero h0').1 h)]
  have hms : ∀ (i : Nat) b, l.brs[i]? = some b → mscore l x b.name = (scr (gapL l x) b.name, 0) := fun i b hb => by
    rw [mscore, if_neg (by rw [Decidable.not_not]; exact h0'), if_neg]
    rw [(tok_fits hok.fits).uniq hb]; omega
  have hse := scr_empty h0'
  rw [he]
  clear he
  revert hms hse
  generalize gapL l x = G
  intro hms hse
  try simp -dsimp (maxSteps := 2000000) (disch := first | omega | decide +kernel) only [↓vcl, ↓vcy, ↓vco, bd_MQ, vck, evl, evb, evBuiltin, evLen, evIdxA, evLoad, loadP, aggD, reduceIte, Nat.reduceEqDiff, forget, forget1, wantd, eve, evStore, evBox, evAlloc, evBuildSlice, evMakeSlice, evAppend, fillRows, zcells, elemsOf, putAll, PV.one, Nat.reduceAdd, Nat.reduceMul, Int.reduceEq, Int.reduceLT, Int.reduceLE, Nat.reduceLeDiff, List.reduceReplicate, reduceCtorEq, evRange, evNext, Nat.reduceLT, h0]
  refine LoopQ.rule (fun m st => ∃ (i : Nat) (w : Str) (v : Int), i ≤ l.brs.length ∧ w = wst G (l.brs.take i) ∧ v = scr G w ∧ m = l.brs.length - i ∧
    st = ⟨mkE [(1, encFxs x), (2, .ptr 0 0 0 0), (7, str w), (8, i64 v), (9, i64 i)], mkS [(0, .row 0 3 [[encKws l.known, encBrs l.brs, encEvss l.evs]] false)], 1⟩) _ _ (weak_of ?_)
    ⟨0, ⟨#[]⟩, 0, by omega, rfl, hse.symm, rfl, rfl⟩ ?_
  · first | (simp -dsimp (maxSteps := 2000000) (disch := first | omega | decide +kernel) only [↓vcl, ↓vcy, ↓vco, bd_MQ, vck, evl, evb, evBuiltin, evLen, evIdxA, evLoad, loadP, aggD, reduceIte, Nat.reduceEqDiff, forget, forget1, wantd, eve, evStore, evBox, evAlloc, evBuildSlice, evMakeSlice, evAppend, fillRows, zcells, elemsOf, putAll, PV.one, Nat.reduceAdd, Nat.reduceMul, Int.reduceEq, Int.reduceLT, Int.reduceLE, Nat.reduceLeDiff, List.reduceReplicate, reduceCtorEq, evRange, evNext, Nat.reduceLT]; done) | simp -dsimp [evl, putN, i64, u32, bl, encL, encB, encLL]
  rintro m st ⟨i, w, v, hi, hw, hv, rfl, rfl⟩
  try simp -dsimp (maxSteps := 2000000) (disch := first | omega | decide +kernel) only [↓vcl, ↓vcy, ↓vco, bd_MQ, vck, evl, evb, evBuiltin, evLen, evIdxA, evLoad, loadP, aggD, reduceIte, Nat.reduceEqDiff, forget, forget1, wantd, eve, evStore, evBox, evAlloc, evBuildSlice, evMakeSlice, evAppend, fillRows, zcells, elemsOf, putAll, PV.one, Nat.reduceAdd, Nat.reduceMul, Int.reduceEq, Int.reduceLT, Int.reduceLE, Nat.reduceLeDiff, List.reduceReplicate, reduceCtorEq, evRange, evNext, Nat.reduceLT]
  refine onC_nlt (fun h2 => ?_) (fun h2 => ?_)
  · obtain ⟨b, hx, hxm⟩ := get_of_lt h2
    have hst : wst G (l.brs.take (i + 1)) = wstF G w b := by rw [take_succ hx, wst_snoc, hw]
    have hsc := r_Score l x b.name hz hn hx40 hb40
    rw [hms i b hx] at hsc
    try simp -dsimp (maxSteps := 2000000) (disch := first | omega | decide +kernel) only [↓vcl, ↓vcy, ↓vco, bd_MQ, vck, evl, evb, evBuiltin, evLen, evIdxA, evLoad, loadP, aggD, reduceIte, Nat.reduceEqDiff, forget, forget1, wantd, eve, evStore, evBox, evAlloc, evBuildSlice, evMakeSlice, evAppend, fillRows, zcells, elemsOf, putAll, PV.one, Nat.reduceAdd, Nat.reduceMul, Int.reduceEq, Int.reduceLT, Int.reduceLE, Nat.reduceLeDiff, List.reduceReplicate, reduceCtorEq, evRange, evNext, Nat.reduceLT, hx]
    first | refine vc_text (by kernel_rfl) ?_ | skip
    try simp -dsimp (maxSteps := 2000000) (disch := first | omega | decide +kernel) only [↓vcl, ↓vcy, ↓vco, bd_MQ, vck, evl, evb, evBuiltin, evLen, evIdxA, evLoad, loadP, aggD, reduceIte, Nat.reduceEqDiff, forget, forget1, wantd, eve, evStore, evBox, evAlloc, evBuildSlice, evMakeSlice, evAppend, fillRows, zcells, elemsOf, putAll, PV.one, Nat.reduceAdd, Nat.reduceMul, Int.reduceEq, Int.reduceLT, Int.reduceLE, Nat.reduceLeDiff, List.reduceReplicate, reduceCtorEq, evRange, evNext, Nat.reduceLT, hx]
    refine CallY.imm (hsc) (by rfl) (by first | rfl | (simp -dsimp (maxSteps := 2000000) (disch := first | omega | decide +kernel) only [↓vcl, ↓vcy, ↓vco, bd_MQ, vck, evl, evb, evBuiltin, evLen, evIdxA, evLoad, loadP, aggD, reduceIte, Nat.reduceEqDiff, forget, forget1, wantd, eve, evStore, evBox, evAlloc, evBuildSlice, evMakeSlice, evAppend, fillRows, zcells, elemsOf, putAll, PV.one, Nat.reduceAdd, Nat.reduceMul, Int.reduceEq, Int.reduceLT, Int.reduceLE, Nat.reduceLeDiff, List.reduceReplicate, reduceCtorEq, evRange, evNext, Nat.reduceLT, drcs, drc, flat]; done) | simp -dsimp [evl, drcs, drc, flat, i64, u32, bl, encL, encB, encLL]) (by first | exact .inl rfl | exact .inr rfl | exact .inr scalB | exact .inr scalI | exact .inr scalT | exact .inr scalM | exact .inr scalMT | exact .inr scalGT) ?_
    cases c1 : decide (v < scr G b.name)
    · have hf := wstF_if.1 (hv ▸ c1)
      try simp -dsimp (maxSteps := 2000000) (disch := first | omega | decide +kernel) only [↓vcl, ↓vcy, ↓vco, bd_MQ, vck, evl, evb, evBuiltin, evLen, evIdxA, evLoad, loadP, aggD, reduceIte, Nat.reduceEqDiff, forget, forget1, wantd, eve, evStore, evBox, evAlloc, evBuildSlice, evMakeSlice, evAppend, fillRows, zcells, elemsOf, putAll, PV.one, Nat.reduceAdd, Nat.reduceMul, Int.reduceEq, Int.reduceLT, Int.reduceLE, Nat.reduceLeDiff, List.reduceReplicate, reduceCtorEq, evRange, evNext, Nat.reduceLT, hx, c1]
      refine ⟨_, _, ?_, weak_of ?_, i + 1, w, v, h2, by rw [hst, hf], hv, rfl, rfl⟩
      · omega
      · first | (simp -dsimp (maxSteps := 2000000) (disch := first | omega | decide +kernel) only [↓vcl, ↓vcy, ↓vco, bd_MQ, vck, evl, evb, evBuiltin, evLen, evIdxA, evLoad, loadP, aggD, reduceIte, Nat.reduceEqDiff, forget, forget1, wantd, eve, evStore, evBox, evAlloc, evBuildSlice, evMakeSlice, evAppend, fillRows, zcells, elemsOf, putAll, PV.one, Nat.reduceAdd, Nat.reduceMul, Int.reduceEq, Int.reduceLT, Int.reduceLE, Nat.reduceLeDiff, List.reduceReplicate, reduceCtorEq, evRange, evNext, Nat.reduceLT, wrapS h2 (show l.brs.length ≤ 9223372036854775807 by omega)]; done) | simp -dsimp [evl, putN, i64, u32, bl, encL, encB, encLL, wrapS h2 (show l.brs.length ≤ 9223372036854775807 by omega)]
    · have hf := wstF_if.2 (hv ▸ c1)
      try simp -dsimp (maxSteps := 2000000) (disch := first | omega | decide +kernel) only [↓vcl, ↓vcy, ↓vco, bd_MQ, vck, evl, evb, evBuiltin, evLen, evIdxA, evLoad, loadP, aggD, reduceIte, Nat.reduceEqDiff, forget, forget1, wantd, eve, evStore, evBox, evAlloc, evBuildSlice, evMakeSlice, evAppend, fillRows, zcells, elemsOf, putAll, PV.one, Nat.reduceAdd, Nat.reduceMul, Int.reduceEq, Int.reduceLT, Int.reduceLE, Nat.reduceLeDiff, List.reduceReplicate, reduceCtorEq, evRange, evNext, Nat.reduceLT, hx, c1]
      refine ⟨_, _, ?_, weak_of ?_, i + 1, b.name, scr G b.name, h2, by rw [hst, hf], rfl, rfl, rfl⟩
      · omega
      · first | (simp -dsimp (maxSteps := 2000000) (disch := first | omega | decide +kernel) only [↓vcl, ↓vcy, ↓vco, bd_MQ, vck, evl, evb, evBuiltin, evLen, evIdxA, evLoad, loadP, aggD, reduceIte, Nat.reduceEqDiff, forget, forget1, wantd, eve, evStore, evBox, evAlloc, evBuildSlice, evMakeSlice, evAppend, fillRows, zcells, elemsOf, putAll, PV.one, Nat.reduceAdd, Nat.reduceMul, Int.reduceEq, Int.reduceLT, Int.reduceLE, Nat.reduceLeDiff, List.reduceReplicate, reduceCtorEq, evRange, evNext, Nat.reduceLT, hx, wrapS h2 (show l.brs.length ≤ 9223372036854775807 by omega)]; done) | simp -dsimp [evl, putN, i64, u32, bl, encL, encB, encLL, hx, wrapS h2 (show l.brs.length ≤ 9223372036854775807 by omega)]
  · rw [List.take_of_length_le (by omega)] at hw
    rw [← hw, ← hv]
    cases c2 : decide (v = 0)
    · simp -dsimp (maxSteps := 2000000) (disch := first | omega | decide +kernel) only [↓vcl, ↓vcy, ↓vco, bd_MQ, vck, evl, evb, evBuiltin, evLen, evIdxA, evLoad, loadP, aggD, reduceIte, Nat.reduceEqDiff, forget, forget1, wantd, eve, evStore, evBox, evAlloc, evBuildSlice, evMakeSlice, evAppend, fillRows, zcells, elemsOf, putAll, PV.one, Nat.reduceAdd, Nat.reduceMul, Int.reduceEq, Int.reduceLT, Int.reduceLE, Nat.reduceLeDiff, List.reduceReplicate, reduceCtorEq, evRange, evNext, Nat.reduceLT, retQ, resL, finL, newL, flat, tupOf, List.toList_toArray, Try.f10, c2]
      rw [if_neg (of_decide_eq_false c2)]
      exact ⟨.rfl', .rfl', .rfl', trivial⟩
    · simp -dsimp (maxSteps := 2000000) (disch := first | omega | decide +kernel) only [↓vcl, ↓vcy, ↓vco, bd_MQ, vck, evl, evb, evBuiltin, evLen, evIdxA, evLoad, loadP, aggD, reduceIte, Nat.reduceEqDiff, forget, forget1, wantd, eve, evStore, evBox, evAlloc, evBuildSlice, evMakeSlice, evAppend, fillRows, zcells, elemsOf, putAll, PV.one, Nat.reduceAdd, Nat.reduceMul, Int.reduceEq, Int.reduceLT, Int.reduceLE, Nat.reduceLeDiff, List.reduceReplicate, reduceCtorEq, evRange, evNext, Nat.reduceLT, retQ, resL, finL, newL, flat, tupOf, List.toList_toArray, Try.f10, c2]
      rw [if_pos (of_decide_eq_true c2)]
      exact ⟨.rfl', .rfl', .rfl', trivial⟩
theorem r_Same (g : List Gp) (hg : g.length ≤ 9223372036854775807) : CallSpec cx 13 [encGps g, encGps g] (bl true) := by
  refine callSpec_of_vc Try.func13 rfl (by decide) (by kernel_rfl) (Nat.le_of_ble_eq_true rfl) ?_
  try simp -dsimp (maxSteps := 2000000) (disch := first | omega | decide +kernel) only [↓vcl, ↓vcy, ↓vco, bd_MQ, vck, evl, evb, evBuiltin, evLen, evIdxA, evLoad, loadP, aggD, reduceIte, Nat.reduceEqDiff, forget, forget1, wantd, eve, evStore, evBox, evAlloc, evBuildSlice, evMakeSlice, evAppend, fillRows, zcells, elemsOf, putAll, PV.one, Nat.reduceAdd, Nat.reduceMul, Int.reduceEq, Int.reduceLT, Int.reduceLE, Nat.reduceLeDiff, List.reduceReplicate, reduceCtorEq, evRange, evNext, Nat.reduceLT, Try.f13, encGps, List.length_map]
  refine LoopQ.rule (fun m st => ∃ (i : Nat), i ≤ g.length ∧ m = g.length - i ∧
    st = ⟨mkE [(0, encGps g), (1, encGps g), (5, i64 i)], mkS [], 0⟩) _ _ (weak_of ?_)
    ⟨0, by omega, rfl, rfl⟩ ?_
  · first | (simp -dsimp (maxSteps := 2000000) (disch := first | omega | decide +kernel) only [↓vcl, ↓vcy, ↓vco, bd_MQ, vck, evl, evb, evBuiltin, evLen, evIdxA, evLoad, loadP, aggD, reduceIte, Nat.reduceEqDiff, forget, forget1, wantd, eve, evStore, evBox, evAlloc, evBuildSlice, evMakeSlice, evAppend, fillRows, zcells, elemsOf, putAll, PV.one, Nat.reduceAdd, Nat.reduceMul, Int.reduceEq, Int.reduceLT, Int.reduceLE, Nat.reduceLeDiff, List.reduceReplicate, reduceCtorEq, evRange, evNext, Nat.reduceLT, encGps]; done) | simp -dsimp [evl, putN, i64, u32, bl, encL, encB, encLL, encGps]
  rintro m st ⟨i, hi, rfl, rfl⟩
  try simp -dsimp (maxSteps := 2000000) (disch := first | omega | decide +kernel) only [↓vcl, ↓vcy, ↓vco, bd_MQ, vck, evl, evb, evBuiltin, evLen, evIdxA, evLoad, loadP, aggD, reduceIte, Nat.reduceEqDiff, forget, forget1, wantd, eve, evStore, evBox, evAlloc, evBuildSlice, evMakeSlice, evAppend, fillRows, zcells, elemsOf, putAll, PV.one, Nat.reduceAdd, Nat.reduceMul, Int.reduceEq, Int.reduceLT, Int.reduceLE, Nat.reduceLeDiff, List.reduceReplicate, reduceCtorEq, evRange, evNext, Nat.reduceLT, encGps, List.length_map]
  refine onC_nlt (fun h2 => ?_) (fun h2 => ?_)
  · obtain ⟨a, hx, hxm⟩ := get_of_lt h2
    try simp -dsimp (maxSteps := 2000000) (disch := first | omega | decide +kernel) only [↓vcl, ↓vcy, ↓vco, bd_MQ, vck, evl, evb, evBuiltin, evLen, evIdxA, evLoad, loadP, aggD, reduceIte, Nat.reduceEqDiff, forget, forget1, wantd, eve, evStore, evBox, evAlloc, evBuildSlice, evMakeSlice, evAppend, fillRows, zcells, elemsOf, putAll, PV.one, Nat.reduceAdd, Nat.reduceMul, Int.reduceEq, Int.reduceLT, Int.reduceLE, Nat.reduceLeDiff, List.reduceReplicate, reduceCtorEq, evRange, evNext, Nat.reduceLT, hx, encGps, ev_neq_gap]
    refine ⟨_, _, ?_, weak_of ?_, i + 1, h2, rfl, rfl⟩
    · omega
    · first | (simp -dsimp (maxSteps := 2000000) (disch := first | omega | decide +kernel) only [↓vcl, ↓vcy, ↓vco, bd_MQ, vck, evl, evb, evBuiltin, evLen, evIdxA, evLoad, loadP, aggD, reduceIte, Nat.reduceEqDiff, forget, forget1, wantd, eve, evStore, evBox, evAlloc, evBuildSlice, evMakeSlice, evAppend, fillRows, zcells, elemsOf, putAll, PV.one, Nat.reduceAdd, Nat.reduceMul, Int.reduceEq, Int.reduceLT, Int.reduceLE, Nat.reduceLeDiff, List.reduceReplicate, reduceCtorEq, evRange, evNext, Nat.reduceLT, wrapS h2 hg, encGps]; done) | simp -dsimp [evl, putN, i64, u32, bl, encL, encB, encLL, wrapS h2 hg, encGps]
  · simp -dsimp (maxSteps := 2000000) (disch := first | omega | decide +kernel) only [↓vcl, ↓vcy, ↓vco, bd_MQ, vck, evl, evb, evBuiltin, evLen, evIdxA, evLoad, loadP, aggD, reduceIte, Nat.reduceEqDiff, forget, forget1, wantd, eve, evStore, evBox, evAlloc, evBuildSlice, evMakeSlice, evAppend, fillRows, zcells, elemsOf, putAll, PV.one, Nat.reduceAdd, Nat.reduceMul, Int.reduceEq, Int.reduceLT, Int.reduceLE, Nat.reduceLeDiff, List.reduceReplicate, reduceCtorEq, evRange, evNext, Nat.reduceLT, retQ, resL, finL, newL, flat, tupOf, List.toList_toArray, Try.f13]
    exact leT_one .rfl' (by simp)
end Go.Ab
end
