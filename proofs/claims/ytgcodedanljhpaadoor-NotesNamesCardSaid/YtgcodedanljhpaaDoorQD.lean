/- The law's helpers of notes; the chapter's example. -/
import Derived.Test.YtgcodedanljhpaaDoorPM
import Derived.Test.YtgcodedanljhpaaDoorAcAgg
import Derived.Test.YtgcodedanljhpaaDoorOA
import Derived.Test.YtgcodedanljhpaaDoorPH
set_option linter.unusedSimpArgs false
set_option linter.unusedVariables false
section
set_option maxRecDepth 1000000
set_option maxHeartbeats 8000000
namespace Go.Ab
open Go Go.Proofs Go.Sort
def sMn : Str := ⟨#[109, 97, 105, 110]⟩
def sRo : Str := ⟨#[114, 49]⟩
def sFix : Str := ⟨#[102, 105, 120]⟩
def sDocs : Str := ⟨#[100, 111, 99, 115]⟩
def sOther : Str := ⟨#[111, 116, 104, 101, 114]⟩
def gvL : Ldg := ⟨[⟨sFix, 3⟩, ⟨sDocs, 0⟩, ⟨sOther, 5⟩], [⟨sMn, ⟨#[]⟩, 0⟩, ⟨sRo, sMn, 1⟩], [[⟨1, sFix⟩, ⟨1, sDocs⟩], [⟨3, sFix⟩, ⟨1, sOther⟩]]⟩
def gvN : List Nt := [⟨5, sOther, 1, 2⟩]
def gvG : List Nt := [⟨0, sDocs, 1, -1⟩, ⟨3, sFix, 3, 1⟩]
theorem gv_sz : LSz gvL := ⟨by decide, by decide, by decide, by intro s hs; simp only [gvL, List.mem_cons, List.not_mem_nil, or_false] at hs; rcases hs with rfl | rfl <;> decide⟩
theorem gv_diff : ldiff gvL sMn sRo = ([0, 3], [5], 0) := by kernel_rfl
theorem gv_news : nnews gvL sMn sRo = (gvN, 0) := by kernel_rfl
theorem gv_gone0 : goneO (clsI gvL.known) (evV gvL sMn) (evV gvL sRo) [0, 3] = [⟨0, sDocs, 1, -1⟩] := by kernel_rfl
theorem gv_gone1 : lastsF (clsI gvL.known) (evV gvL sRo) [0, 3] = [⟨3, sFix, 3, 1⟩] := by kernel_rfl
theorem srtN_one (n : Nt) : srtN [n] = [n] := by
  have : srtA [n] (List.finRange 1) = List.finRange 1 := by
    have e : List.finRange 1 = [0] := rfl
    rw [e]; simp [srtA]
  unfold srtN
  rw [show List.finRange [n].length = List.finRange 1 from rfl, this]
  rfl
theorem gv_gone : ngone gvL sMn sRo = (gvG, 0) := by
  rw [ngone, gv_diff]
  simp only
  rw [if_neg (by simp), gv_gone0, gv_gone1, srtN_one]; rfl
theorem gv_text : ntext gvL sMn sRo = (⟨#[99, 97, 109, 101, 32, 53, 32, 111, 116, 104, 101, 114, 32, 108, 97, 110, 100, 10, 119, 101, 110, 116, 32, 48, 32, 100, 111, 99, 115, 10, 119, 101, 110, 116, 32, 51, 32, 102, 105, 120, 32, 114, 101, 118, 101, 114, 116, 10]⟩, 0) := by
  rw [ntext, gv_diff, gv_news, gv_gone]
  simp only
  rw [if_neg (by simp)]
  congr 1
theorem bKw : ∀ a b, evBuild cx 29 [(0, .lit a), (1, .lit b)] = some (.agg [.lit a, .lit b]) := fun _ _ => by kernel_rfl
theorem bEv : ∀ a b, evBuild cx 60 [(0, .lit a), (1, .lit b)] = some (.agg [.lit a, .lit b]) := fun _ _ => by kernel_rfl
theorem bBr1 : ∀ a, evBuild cx 62 [(0, .lit a)] = some (.agg [.lit a, .lit (.string ⟨#[]⟩), .lit (.int .i64 0)]) := fun _ => by kernel_rfl
theorem bBr3 : ∀ a b c, evBuild cx 62 [(0, .lit a), (1, .lit b), (2, .lit c)] = some (.agg [.lit a, .lit b, .lit c]) := fun _ _ _ => by kernel_rfl
theorem bLdg : ∀ i v o n c i' v' o' n' c' i2 v2 o2 n2 c2, evBuild cx 26 [(0, .own i v o n c), (1, .own i' v' o' n' c'), (2, .own i2 v2 o2 n2 c2)] = some (.agg [.own i v o n c, .own i' v' o' n' c', .own i2 v2 o2 n2 c2]) := fun _ _ _ _ _ _ _ _ _ _ _ _ _ _ _ => by kernel_rfl
theorem v_given : CallSpec cx 15 [] (encLdg gvL) := by
  refine callSpec_of_vc Tryd.func15 rfl (by decide) (by kernel_rfl) (Nat.le_of_ble_eq_true rfl) ?_
  simp -dsimp (disch := omega) only [↓vcl, ↓vcy, ↓vco, vck, gR, evl, evb, evBuiltin, evLen, evIdxA, evLoad, loadP, aggD, tis, i64, u32, bl, encL, encB, encLL, forget, forget1, wantd, tzs, eve, evStore, evBox, evAlloc, evBuildSlice, evMakeSlice, evAppend, fillRows, zcells, elemsOf, putAll, PV.one, Int.cast_ofNat_Int, evRange, evNext, fld, nit, nxE, ghR, ovR, evBin_seql, evBin_sneq, str, u8, encBrs, cBr, encLdg, encKws, cKw, encEvss, encEvs, cEv, encMks, cMk, encStrs, cNt, tk4, tk2, tk3, List.set_cons_succ, List.getElem?_cons_zero, List.getElem?_cons_succ, List.length_set, retQ, resL, finL, newL, flat, tupOf, List.toList_toArray, Tryd.f15, PV.cellsP, Bool.and_false, drcs, drc, dr1, dr1s, drRows, bKw, bBr1, bBr3, bEv, bLdg, simprocAttr]
  exact leT_one (.inl (.inl rfl)) (fun _ h => by cases h)
theorem r_SameN (g : List Nt) (hg : g.length ≤ 9223372036854775807) (h : ∀ n ∈ g, ∀ x y, evBin cx .neq 57 x y (.agg [.lit (.int .i64 n.cls), .lit (.string n.chg), .lit (.int .u8 n.kind), .lit (.int .i64 n.pl)]) (.agg [.lit (.int .i64 n.cls), .lit (.string n.chg), .lit (.int .u8 n.kind), .lit (.int .i64 n.pl)]) = some (.lit (.bool false))) : CallSpec cx 19 [encNts g, encNts g] (bl true) := by
  refine callSpec_of_vc Tryd.func19 rfl (by decide) (by kernel_rfl) (Nat.le_of_ble_eq_true rfl) ?_
  try simp -dsimp (maxSteps := 9^9) (disch := first | omega | decide +kernel) only [↓vcl, ↓vcy, ↓vco, vck, gR, evl, evb, evBuiltin, evLen, evIdxA, evLoad, loadP, aggD, tis, i64, u32, bl, encL, encB, encLL, reduceIte, Nat.reduceEqDiff, forget, forget1, wantd, tzs, eve, evStore, evBox, evAlloc, evBuildSlice, evMakeSlice, evAppend, fillRows, zcells, elemsOf, putAll, PV.one, Nat.reduceAdd, Nat.reduceMul, Int.cast_ofNat_Int, Int.reduceEq, Int.reduceLT, Int.reduceLE, Nat.reduceLeDiff, List.reduceReplicate, reduceCtorEq, evRange, evNext, fld, nit, nxE, ghR, ovR, evBin_seql, evBin_sneq, str, u8, encBrs, cBr, encLdg, encKws, cKw, encEvss, encEvs, cEv, encMks, cMk, encStrs, cNt, tk4, tk2, tk3, List.set_cons_succ, List.getElem?_cons_zero, List.getElem?_cons_succ, Nat.reduceLT, List.length_set, Tryd.f19, encNts, List.length_map]
  refine LoopQ.rule (fun m st => ∃ (i : Nat), i ≤ g.length ∧ m = g.length - i ∧
    st = ⟨mkE [(0, encNts g), (1, encNts g), (5, i64 i)], mkS [], 0⟩) _ _ (weak_of ?_)
    ⟨0, by omega, rfl, rfl⟩ ?_
  · first | (simp -dsimp (maxSteps := 9^9) (disch := first | omega | decide +kernel) only [↓vcl, ↓vcy, ↓vco, vck, gR, evl, evb, evBuiltin, evLen, evIdxA, evLoad, loadP, aggD, tis, i64, u32, bl, encL, encB, encLL, reduceIte, Nat.reduceEqDiff, forget, forget1, wantd, tzs, eve, evStore, evBox, evAlloc, evBuildSlice, evMakeSlice, evAppend, fillRows, zcells, elemsOf, putAll, PV.one, Nat.reduceAdd, Nat.reduceMul, Int.cast_ofNat_Int, Int.reduceEq, Int.reduceLT, Int.reduceLE, Nat.reduceLeDiff, List.reduceReplicate, reduceCtorEq, evRange, evNext, fld, nit, nxE, ghR, ovR, evBin_seql, evBin_sneq, str, u8, encBrs, cBr, encLdg, encKws, cKw, encEvss, encEvs, cEv, encMks, cMk, encStrs, cNt, tk4, tk2, tk3, List.set_cons_succ, List.getElem?_cons_zero, List.getElem?_cons_succ, Nat.reduceLT, List.length_set, encNts]; done) | simp -dsimp [evl, putN, i64, u32, bl, encL, encB, encLL, encNts]
  rintro m st ⟨i, hi, rfl, rfl⟩
  try simp -dsimp (maxSteps := 9^9) (disch := first | omega | decide +kernel) only [↓vcl, ↓vcy, ↓vco, vck, gR, evl, evb, evBuiltin, evLen, evIdxA, evLoad, loadP, aggD, tis, i64, u32, bl, encL, encB, encLL, reduceIte, Nat.reduceEqDiff, forget, forget1, wantd, tzs, eve, evStore, evBox, evAlloc, evBuildSlice, evMakeSlice, evAppend, fillRows, zcells, elemsOf, putAll, PV.one, Nat.reduceAdd, Nat.reduceMul, Int.cast_ofNat_Int, Int.reduceEq, Int.reduceLT, Int.reduceLE, Nat.reduceLeDiff, List.reduceReplicate, reduceCtorEq, evRange, evNext, fld, nit, nxE, ghR, ovR, evBin_seql, evBin_sneq, str, u8, encBrs, cBr, encLdg, encKws, cKw, encEvss, encEvs, cEv, encMks, cMk, encStrs, cNt, tk4, tk2, tk3, List.set_cons_succ, List.getElem?_cons_zero, List.getElem?_cons_succ, Nat.reduceLT, List.length_set, encNts, List.length_map]
  refine onC_nlt (fun h2 => ?_) (fun h2 => ?_)
  · obtain ⟨a, hx, hxm⟩ := get_of_lt h2
    have hq := fun x y => h a hxm x y
    try simp -dsimp (maxSteps := 9^9) (disch := first | omega | decide +kernel) only [↓vcl, ↓vcy, ↓vco, vck, gR, evl, evb, evBuiltin, evLen, evIdxA, evLoad, loadP, aggD, tis, i64, u32, bl, encL, encB, encLL, reduceIte, Nat.reduceEqDiff, forget, forget1, wantd, tzs, eve, evStore, evBox, evAlloc, evBuildSlice, evMakeSlice, evAppend, fillRows, zcells, elemsOf, putAll, PV.one, Nat.reduceAdd, Nat.reduceMul, Int.cast_ofNat_Int, Int.reduceEq, Int.reduceLT, Int.reduceLE, Nat.reduceLeDiff, List.reduceReplicate, reduceCtorEq, evRange, evNext, fld, nit, nxE, ghR, ovR, evBin_seql, evBin_sneq, str, u8, encBrs, cBr, encLdg, encKws, cKw, encEvss, encEvs, cEv, encMks, cMk, encStrs, cNt, tk4, tk2, tk3, List.set_cons_succ, List.getElem?_cons_zero, List.getElem?_cons_succ, Nat.reduceLT, List.length_set, hx, encNts, hq]
    refine ⟨_, _, ?_, weak_of ?_, i + 1, h2, rfl, rfl⟩
    · omega
    · first | (simp -dsimp (maxSteps := 9^9) (disch := first | omega | decide +kernel) only [↓vcl, ↓vcy, ↓vco, vck, gR, evl, evb, evBuiltin, evLen, evIdxA, evLoad, loadP, aggD, tis, i64, u32, bl, encL, encB, encLL, reduceIte, Nat.reduceEqDiff, forget, forget1, wantd, tzs, eve, evStore, evBox, evAlloc, evBuildSlice, evMakeSlice, evAppend, fillRows, zcells, elemsOf, putAll, PV.one, Nat.reduceAdd, Nat.reduceMul, Int.cast_ofNat_Int, Int.reduceEq, Int.reduceLT, Int.reduceLE, Nat.reduceLeDiff, List.reduceReplicate, reduceCtorEq, evRange, evNext, fld, nit, nxE, ghR, ovR, evBin_seql, evBin_sneq, str, u8, encBrs, cBr, encLdg, encKws, cKw, encEvss, encEvs, cEv, encMks, cMk, encStrs, cNt, tk4, tk2, tk3, List.set_cons_succ, List.getElem?_cons_zero, List.getElem?_cons_succ, Nat.reduceLT, List.length_set, wrapS h2 hg, encNts]; done) | simp -dsimp [evl, putN, i64, u32, bl, encL, encB, encLL, wrapS h2 hg, encNts]
  · simp -dsimp (maxSteps := 9^9) (disch := first | omega | decide +kernel) only [↓vcl, ↓vcy, ↓vco, vck, gR, evl, evb, evBuiltin, evLen, evIdxA, evLoad, loadP, aggD, tis, i64, u32, bl, encL, encB, encLL, reduceIte, Nat.reduceEqDiff, forget, forget1, wantd, tzs, eve, evStore, evBox, evAlloc, evBuildSlice, evMakeSlice, evAppend, fillRows, zcells, elemsOf, putAll, PV.one, Nat.reduceAdd, Nat.reduceMul, Int.cast_ofNat_Int, Int.reduceEq, Int.reduceLT, Int.reduceLE, Nat.reduceLeDiff, List.reduceReplicate, reduceCtorEq, evRange, evNext, fld, nit, nxE, ghR, ovR, evBin_seql, evBin_sneq, str, u8, encBrs, cBr, encLdg, encKws, cKw, encEvss, encEvs, cEv, encMks, cMk, encStrs, cNt, tk4, tk2, tk3, List.set_cons_succ, List.getElem?_cons_zero, List.getElem?_cons_succ, Nat.reduceLT, List.length_set, retQ, resL, finL, newL, flat, tupOf, List.toList_toArray, Tryd.f19]
    exact leT_one .rfl' (by simp)
theorem gvN_eq : CallSpec cx 19 [encNts gvN, encNts gvN] (bl true) := r_SameN gvN (by decide) fun n hn x y => by
  simp only [gvN, List.mem_cons, List.not_mem_nil, or_false] at hn
  subst hn
  kernel_rfl
theorem gvG_eq : CallSpec cx 19 [encNts gvG, encNts gvG] (bl true) := r_SameN gvG (by decide) fun n hn x y => by
  simp only [gvG, List.mem_cons, List.not_mem_nil, or_false] at hn
  rcases hn with rfl | rfl
  · kernel_rfl
  · kernel_rfl
def bothE (l : Ldg) (a b : Str) : Int := if lchk l ≠ 0 then lchk l else if idx l.brs a < 0 ∨ idx l.brs b < 0 then 6 else 0
theorem v_alive : CallSpec cx 20 [] (bl true) := by
  have c1 := n_News gvL sMn sRo gv_sz
  have c2 := n_Gone gvL sMn sRo gv_sz
  have c3 := n_Text gvL sMn sRo gv_sz
  rw [gv_news] at c1
  rw [gv_gone] at c2
  rw [gv_text] at c3
  simp only at c1 c2 c3
  refine callSpec_of_vc Tryd.func20 rfl (by decide) (by kernel_rfl) (Nat.le_of_ble_eq_true rfl) ?_
  try simp -dsimp (disch := omega) only [↓vcl, ↓vcy, ↓vco, vck, gR, evl, evb, evBuiltin, evLen, evIdxA, evLoad, loadP, aggD, tis, i64, u32, bl, encL, encB, encLL, forget, forget1, wantd, tzs, eve, evStore, evBox, evAlloc, evBuildSlice, evMakeSlice, evAppend, fillRows, zcells, elemsOf, putAll, PV.one, Int.cast_ofNat_Int, evRange, evNext, fld, nit, nxE, ghR, ovR, evBin_seql, evBin_sneq, str, u8, encBrs, cBr, encLdg, encKws, cKw, encEvss, encEvs, cEv, encMks, cMk, encStrs, cNt, tk4, tk2, tk3, List.set_cons_succ, List.getElem?_cons_zero, List.getElem?_cons_succ, List.length_set, Tryd.f20, simprocAttr]
  refine CallQ.imm (v_given) (by rfl) (by rfl) (by first | exact .inl rfl | exact .inr rfl | exact .inr scalB | exact .inr scalI | exact .inr scalT | exact .inr scalM | exact .inr scalMT | exact .inr scalE | exact .inr scalET | exact .inr scalN | exact .inr scalNT) ?_
  try simp -dsimp (disch := omega) only [↓vcl, ↓vcy, ↓vco, vck, gR, evl, evb, evBuiltin, evLen, evIdxA, evLoad, loadP, aggD, tis, i64, u32, bl, encL, encB, encLL, forget, forget1, wantd, tzs, eve, evStore, evBox, evAlloc, evBuildSlice, evMakeSlice, evAppend, fillRows, zcells, elemsOf, putAll, PV.one, Int.cast_ofNat_Int, evRange, evNext, fld, nit, nxE, ghR, ovR, evBin_seql, evBin_sneq, str, u8, encBrs, cBr, encLdg, encKws, cKw, encEvss, encEvs, cEv, encMks, cMk, encStrs, cNt, tk4, tk2, tk3, List.set_cons_succ, List.getElem?_cons_zero, List.getElem?_cons_succ, List.length_set, simprocAttr]
  refine CallQ.imm (c1) (by rfl) (by rfl) (by first | exact .inl rfl | exact .inr rfl | exact .inr scalB | exact .inr scalI | exact .inr scalT | exact .inr scalM | exact .inr scalMT | exact .inr scalE | exact .inr scalET | exact .inr scalN | exact .inr scalNT) ?_
  try simp -dsimp (disch := omega) only [↓vcl, ↓vcy, ↓vco, vck, gR, evl, evb, evBuiltin, evLen, evIdxA, evLoad, loadP, aggD, tis, i64, u32, bl, encL, encB, encLL, forget, forget1, wantd, tzs, eve, evStore, evBox, evAlloc, evBuildSlice, evMakeSlice, evAppend, fillRows, zcells, elemsOf, putAll, PV.one, Int.cast_ofNat_Int, evRange, evNext, fld, nit, nxE, ghR, ovR, evBin_seql, evBin_sneq, str, u8, encBrs, cBr, encLdg, encKws, cKw, encEvss, encEvs, cEv, encMks, cMk, encStrs, cNt, tk4, tk2, tk3, List.set_cons_succ, List.getElem?_cons_zero, List.getElem?_cons_succ, List.length_set, newNts, simprocAttr]
  refine CallQ.imm (v_given) (by rfl) (by rfl) (by first | exact .inl rfl | exact .inr rfl | exact .inr scalB | exact .inr scalI | exact .inr scalT | exact .inr scalM | exact .inr scalMT | exact .inr scalE | exact .inr scalET | exact .inr scalN | exact .inr scalNT) ?_
  try simp -dsimp (disch := omega) only [↓vcl, ↓vcy, ↓vco, vck, gR, evl, evb, evBuiltin, evLen, evIdxA, evLoad, loadP, aggD, tis, i64, u32, bl, encL, encB, encLL, forget, forget1, wantd, tzs, eve, evStore, evBox, evAlloc, evBuildSlice, evMakeSlice, evAppend, fillRows, zcells, elemsOf, putAll, PV.one, Int.cast_ofNat_Int, evRange, evNext, fld, nit, nxE, ghR, ovR, evBin_seql, evBin_sneq, str, u8, encBrs, cBr, encLdg, encKws, cKw, encEvss, encEvs, cEv, encMks, cMk, encStrs, cNt, tk4, tk2, tk3, List.set_cons_succ, List.getElem?_cons_zero, List.getElem?_cons_succ, List.length_set, simprocAttr]
  refine CallQ.imm (c2) (by rfl) (by rfl) (by first | exact .inl rfl | exact .inr rfl | exact .inr scalB | exact .inr scalI | exact .inr scalT | exact .inr scalM | exact .inr scalMT | exact .inr scalE | exact .inr scalET | exact .inr scalN | exact .inr scalNT) ?_
  try simp -dsimp (disch := omega) only [↓vcl, ↓vcy, ↓vco, vck, gR, evl, evb, evBuiltin, evLen, evIdxA, evLoad, loadP, aggD, tis, i64, u32, bl, encL, encB, encLL, forget, forget1, wantd, tzs, eve, evStore, evBox, evAlloc, evBuildSlice, evMakeSlice, evAppend, fillRows, zcells, elemsOf, putAll, PV.one, Int.cast_ofNat_Int, evRange, evNext, fld, nit, nxE, ghR, ovR, evBin_seql, evBin_sneq, str, u8, encBrs, cBr, encLdg, encKws, cKw, encEvss, encEvs, cEv, encMks, cMk, encStrs, cNt, tk4, tk2, tk3, List.set_cons_succ, List.getElem?_cons_zero, List.getElem?_cons_succ, List.length_set, newNts, simprocAttr]
  refine CallQ.imm (v_given) (by rfl) (by rfl) (by first | exact .inl rfl | exact .inr rfl | exact .inr scalB | exact .inr scalI | exact .inr scalT | exact .inr scalM | exact .inr scalMT | exact .inr scalE | exact .inr scalET | exact .inr scalN | exact .inr scalNT) ?_
  try simp -dsimp (disch := omega) only [↓vcl, ↓vcy, ↓vco, vck, gR, evl, evb, evBuiltin, evLen, evIdxA, evLoad, loadP, aggD, tis, i64, u32, bl, encL, encB, encLL, forget, forget1, wantd, tzs, eve, evStore, evBox, evAlloc, evBuildSlice, evMakeSlice, evAppend, fillRows, zcells, elemsOf, putAll, PV.one, Int.cast_ofNat_Int, evRange, evNext, fld, nit, nxE, ghR, ovR, evBin_seql, evBin_sneq, str, u8, encBrs, cBr, encLdg, encKws, cKw, encEvss, encEvs, cEv, encMks, cMk, encStrs, cNt, tk4, tk2, tk3, List.set_cons_succ, List.getElem?_cons_zero, List.getElem?_cons_succ, List.length_set, simprocAttr]
  refine CallQ.imm (c3) (by rfl) (by rfl) (by first | exact .inl rfl | exact .inr rfl | exact .inr scalB | exact .inr scalI | exact .inr scalT | exact .inr scalM | exact .inr scalMT | exact .inr scalE | exact .inr scalET | exact .inr scalN | exact .inr scalNT) ?_
  try simp -dsimp (disch := omega) only [↓vcl, ↓vcy, ↓vco, vck, gR, evl, evb, evBuiltin, evLen, evIdxA, evLoad, loadP, aggD, tis, i64, u32, bl, encL, encB, encLL, forget, forget1, wantd, tzs, eve, evStore, evBox, evAlloc, evBuildSlice, evMakeSlice, evAppend, fillRows, zcells, elemsOf, putAll, PV.one, Int.cast_ofNat_Int, evRange, evNext, fld, nit, nxE, ghR, ovR, evBin_seql, evBin_sneq, str, u8, encBrs, cBr, encLdg, encKws, cKw, encEvss, encEvs, cEv, encMks, cMk, encStrs, cNt, tk4, tk2, tk3, List.set_cons_succ, List.getElem?_cons_zero, List.getElem?_cons_succ, List.length_set, newNts, bldNt, PV.cellsP, simprocAttr]
  refine CallQ.imm (gvN_eq) (by rfl) (by rfl) (by first | exact .inl rfl | exact .inr rfl | exact .inr scalB | exact .inr scalI | exact .inr scalT | exact .inr scalM | exact .inr scalMT | exact .inr scalE | exact .inr scalET | exact .inr scalN | exact .inr scalNT) ?_
  try simp -dsimp (disch := omega) only [↓vcl, ↓vcy, ↓vco, vck, gR, evl, evb, evBuiltin, evLen, evIdxA, evLoad, loadP, aggD, tis, i64, u32, bl, encL, encB, encLL, forget, forget1, wantd, tzs, eve, evStore, evBox, evAlloc, evBuildSlice, evMakeSlice, evAppend, fillRows, zcells, elemsOf, putAll, PV.one, Int.cast_ofNat_Int, evRange, evNext, fld, nit, nxE, ghR, ovR, evBin_seql, evBin_sneq, str, u8, encBrs, cBr, encLdg, encKws, cKw, encEvss, encEvs, cEv, encMks, cMk, encStrs, cNt, tk4, tk2, tk3, List.set_cons_succ, List.getElem?_cons_zero, List.getElem?_cons_succ, List.length_set, newNts, bldNt, PV.cellsP, simprocAttr]
  refine CallQ.imm (gvG_eq) (by rfl) (by rfl) (by first | exact .inl rfl | exact .inr rfl | exact .inr scalB | exact .inr scalI | exact .inr scalT | exact .inr scalM | exact .inr scalMT | exact .inr scalE | exact .inr scalET | exact .inr scalN | exact .inr scalNT) ?_
  simp -dsimp (disch := omega) only [↓vcl, ↓vcy, ↓vco, vck, gR, evl, evb, evBuiltin, evLen, evIdxA, evLoad, loadP, aggD, tis, i64, u32, bl, encL, encB, encLL, forget, forget1, wantd, tzs, eve, evStore, evBox, evAlloc, evBuildSlice, evMakeSlice, evAppend, fillRows, zcells, elemsOf, putAll, PV.one, Int.cast_ofNat_Int, evRange, evNext, fld, nit, nxE, ghR, ovR, evBin_seql, evBin_sneq, str, u8, encBrs, cBr, encLdg, encKws, cKw, encEvss, encEvs, cEv, encMks, cMk, encStrs, cNt, tk4, tk2, tk3, List.set_cons_succ, List.getElem?_cons_zero, List.getElem?_cons_succ, List.length_set, retQ, resL, finL, newL, flat, tupOf, List.toList_toArray, Tryd.f20, decide_true, simprocAttr]
  exact leT_one .rfl' (by simp)
end Go.Ab
end

section
/- Classes told once; what is gone one way is news the other way. -/
set_option maxRecDepth 1000000
set_option maxHeartbeats 8000000
namespace Go.Ab
open Go Go.Proofs Go.Sort
/-! ### classes -/
def clsN (L : List Nt) : List Int := L.map (·.cls)
end Go.Ab
end

section
/- NotesTurn. -/
set_option maxRecDepth 1000000
set_option maxHeartbeats 16000000
namespace Go.Ab
open Go Go.Proofs Go.Sort
end Go.Ab
end

section
/- ledger.Last. -/
set_option maxRecDepth 1000000
set_option maxHeartbeats 16000000
namespace Go.Ab
open Go Go.Proofs
def lastM (l : Ldg) (n : Str) (c : Int) : Option (Nat × Nat) := (lview l n).1.reverse.find? fun m => decide (cls0 l.known (evAt l m).chg = c)
def lastMk (o : Option (Nat × Nat)) : Nat × Nat := o.getD (0, 0)
def lastKd (l : Ldg) (o : Option (Nat × Nat)) : Int := match o with
  | some m => (evAt l m).kind
  | none => 0
def lastEr (o : Option (Nat × Nat)) : Int := match o with
  | some _ => 0
  | none => 6
end Go.Ab
end
