import Derived.Test.YtbhmgkbmlbbonaaDoorBS
import Derived.Test.YtbhmgkbmlbbonaaDoorAbFz
set_option linter.unusedSimpArgs false
set_option linter.unusedVariables false
set_option maxRecDepth 100000
set_option maxHeartbeats 8000000
namespace Go.Ab
open Go Go.Proofs

/-- A result that is handed over, held as memory that nobody writes. -/
theorem CallSpec.shut {C : Ctx} {f : FuncId} {args : List PV} {sz : Nat} {es : List (List PV)} (h : CallSpec C f args (.new sz es)) : CallSpec C f args (.imm es false) :=
  ⟨h.1, fun w fz vs h1 h2 h3 => (h.2 w fz vs h1 h2 h3).mono fun e w' ⟨v, us, g1, g2, g3, g4, A, cap, g5, g6, g7, g8⟩ => by
    refine ⟨v, [], g1, g2, by simp, by simp, rfl, ?_⟩
    simp only [Rel]
    refine ⟨A, es.length, cap, g5, rfl, g6, by simp, ?_⟩
    rcases g8 with ⟨b, o, c, elem, fr, rfl, rfl, k1, k2, k3, k4⟩ | ⟨rfl, rfl⟩
    · refine .inr ⟨b, o, sz, rfl, ⟨.inr (g4 b (by simp)), by simp⟩, ?_⟩
      exact RelRows.mono (κ := (retKn fz w w' [b]).bare) (κ' := (retKn fz w w' []).bare) ⟨fun _ _ _ h => (by cases h), fun _ _ h => (by cases h), fun x hx => ⟨hx.1, by simp⟩⟩ (fun _ _ => rfl) _ _ _ _ rfl k4
    · exact .inl (List.eq_nil_of_length_eq_zero (by omega))⟩
theorem leDR_map {α : Type} {f g : α → List PV} : ∀ {l : List α}, (∀ x ∈ l, leDs (f x) (g x)) → leDR (l.map f) (l.map g)
  | [], _ => by simp [leDR]
  | x :: l, h => by
    simp only [List.map_cons, leDR]
    exact ⟨g x, l.map g, rfl, h x List.mem_cons_self, leDR_map fun y hy => h y (List.mem_cons_of_mem _ hy)⟩
theorem frzR : (∀ {st : St} {i ver : Nat} {es : List (List PV)} {t : Nat}, (st.freeze i ver es).env t = (st.env t).map (fzV i ver es)) ∧ (∀ {st : St} {i ver : Nat} {es : List (List PV)} {j : Nat}, (st.freeze i ver es).σ j = if j = i then none else (st.σ j).map (fzB i ver es)) ∧
    (∀ {st : St} {i ver : Nat} {es : List (List PV)}, (st.freeze i ver es).nx = st.nx) := ⟨rfl, rfl, rfl⟩

/-! ### the laws' histories -/
def lnRow (i : Nat) : List Int := if i = 0 then [] else [(i : Int) - 1]
def lineH (n : Nat) : List (List Int) := (List.range n).map lnRow
def lnCell (i : Nat) : List PV := if i = 0 then [nn] else [encL (lnRow i)]
def starH (n : Nat) : List (List Int) := [] :: List.replicate n [0]
theorem fz_cells {i v : Nat} {es : List (List PV)} {n : Nat} : ((List.range n).map lnCell).map (fun r => r.map (fzV i v es)) = (List.range n).map lnCell := by
  rw [List.map_map]
  apply List.map_congr_left
  intro k _
  simp only [Function.comp, lnCell]
  split <;> rfl
theorem ln_flat {n : Nat} : ((List.range n).map lnCell).all (fun e => e.all flat) = true := by
  rw [List.all_map, List.all_eq_true]
  intro k _
  simp only [Function.comp, lnCell]
  split <;> rfl

theorem nit : notIntT cx.P 22 = true := by kernel_rfl
theorem b_line (n : Nat) (hn : n ≤ 100) : CallSpec cx 23 [i64 n] (encLL (lineH n)) := by
  refine CallSpec.deep (es := (List.range n).map lnCell) (c := false) (CallSpec.shut (sz := 1) ?_) ?_
  rotate_left
  · unfold leD
    refine ⟨(List.range n).map fun k => [encL (lnRow k)], false, by simp [encLL, lineH], .inl rfl, leDR_map fun k _ => ?_⟩
    simp only [lnCell]
    split
    · rename_i e; subst e; exact ⟨encL [], [], rfl, .inr ⟨rfl, rfl⟩, rfl⟩
    · exact leDs_refl _
  refine callSpec_of_vc Tryd.func23 rfl (by decide) (by kernel_rfl) (Nat.le_of_ble_eq_true rfl) ?_
  try simp -dsimp (maxSteps := 2000000) (disch := first | omega | decide +kernel) only [↓vcl, ↓vcy, ↓vco, vck, gR, evl, evb, evBuiltin, evLen, evIdxA, evLoad, loadP, aggD, tis, i64, u32, bl, encL, encB, encLL, reduceIte, Nat.reduceEqDiff, forget, forget1, wantd, tzs, eve, evStore, evBox, evAlloc, evBuildSlice, evMakeSlice, evAppend, fillRows, zcells, elemsOf, putAll, PV.one, Nat.reduceAdd, Nat.reduceMul, Int.cast_ofNat_Int, Int.reduceEq, Int.reduceLT, Int.reduceLE, Nat.reduceLeDiff, List.reduceReplicate, reduceCtorEq, Tryd.f23]
  refine LoopQ.ghost 3 1 (by rfl) ?_
  refine LoopQ.ruleC (fun m st => ∃ (i ver nx : Nat), i ≤ n ∧ 1 ≤ nx ∧ m = n - i ∧
    st = ⟨mkE [(0, i64 n), (3, .own 0 ver 0 i false), (4, i64 i)], mkS [(0, .row ver 1 ((List.range i).map lnCell) false)], nx⟩) _ _ (.weak (weak_of ?_))
    ⟨0, 0, 1, by omega, by omega, rfl, rfl⟩ ?_
  · first | (simp -dsimp (maxSteps := 2000000) (disch := first | omega | decide +kernel) only [↓vcl, ↓vcy, ↓vco, vck, gR, evl, evb, evBuiltin, evLen, evIdxA, evLoad, loadP, aggD, tis, i64, u32, bl, encL, encB, encLL, reduceIte, Nat.reduceEqDiff, forget, forget1, wantd, tzs, eve, evStore, evBox, evAlloc, evBuildSlice, evMakeSlice, evAppend, fillRows, zcells, elemsOf, putAll, PV.one, Nat.reduceAdd, Nat.reduceMul, Int.cast_ofNat_Int, Int.reduceEq, Int.reduceLT, Int.reduceLE, Nat.reduceLeDiff, List.reduceReplicate, reduceCtorEq, ghR, List.range_zero, List.map_nil]; done) | simp -dsimp [evl, putN, i64, u32, bl, encL, encB, encLL, ghR, List.range_zero, List.map_nil]
  rintro m st ⟨i, ver, nx, hi, hnx, rfl, rfl⟩
  have hbd : (i + 1) * 24 ≤ 140737488355328 := by omega
  have hns : ((nx = 0) = False) ∧ ((0 = nx) = False) ∧ ((nx + 1 = 0) = False) ∧ ((0 = nx + 1) = False) ∧ ((nx + 1 + 1 = 0) = False) ∧ ((0 = nx + 1 + 1) = False) ∧ ((nx = nx + 1) = False) ∧ ((nx + 1 = nx) = False) ∧ ((nx + 1 + 1 = nx + 1) = False) ∧ ((nx + 1 = nx + 1 + 1) = False) := by
    simp only [eq_iff_iff, iff_false]; omega
  try simp -dsimp (maxSteps := 2000000) (disch := first | omega | decide +kernel) only [↓vcl, ↓vcy, ↓vco, vck, gR, evl, evb, evBuiltin, evLen, evIdxA, evLoad, loadP, aggD, tis, i64, u32, bl, encL, encB, encLL, reduceIte, Nat.reduceEqDiff, forget, forget1, wantd, tzs, eve, evStore, evBox, evAlloc, evBuildSlice, evMakeSlice, evAppend, fillRows, zcells, elemsOf, putAll, PV.one, Nat.reduceAdd, Nat.reduceMul, Int.cast_ofNat_Int, Int.reduceEq, Int.reduceLT, Int.reduceLE, Nat.reduceLeDiff, List.reduceReplicate, reduceCtorEq]
  refine onC_nlt (fun h2 => ?_) (fun h2 => ?_)
  · by_cases h0 : i = 0
    · subst h0
      have hd : decide ((0 : Int) < ((0 : Nat) : Int)) = false := rfl
      try simp -dsimp (maxSteps := 2000000) (disch := first | omega | decide +kernel) only [↓vcl, ↓vcy, ↓vco, vck, gR, evl, evb, evBuiltin, evLen, evIdxA, evLoad, loadP, aggD, tis, i64, u32, bl, encL, encB, encLL, reduceIte, Nat.reduceEqDiff, forget, forget1, wantd, tzs, eve, evStore, evBox, evAlloc, evBuildSlice, evMakeSlice, evAppend, fillRows, zcells, elemsOf, putAll, PV.one, Nat.reduceAdd, Nat.reduceMul, Int.cast_ofNat_Int, Int.reduceEq, Int.reduceLT, Int.reduceLE, Nat.reduceLeDiff, List.reduceReplicate, reduceCtorEq, hd, tzL, List.set_cons_succ, List.getElem?_cons_zero, List.getElem?_cons_succ, Nat.reduceLT, List.length_set, hns, hbd, nit, List.length_range]
      refine ⟨_, _, ?_, .weak (weak_of ?_), 1, ver + 1, nx + 1, by omega, by omega, rfl, rfl⟩
      · omega
      · first | (simp -dsimp (maxSteps := 2000000) (disch := first | omega | decide +kernel) only [↓vcl, ↓vcy, ↓vco, vck, gR, evl, evb, evBuiltin, evLen, evIdxA, evLoad, loadP, aggD, tis, i64, u32, bl, encL, encB, encLL, reduceIte, Nat.reduceEqDiff, forget, forget1, wantd, tzs, eve, evStore, evBox, evAlloc, evBuildSlice, evMakeSlice, evAppend, fillRows, zcells, elemsOf, putAll, PV.one, Nat.reduceAdd, Nat.reduceMul, Int.cast_ofNat_Int, Int.reduceEq, Int.reduceLT, Int.reduceLE, Nat.reduceLeDiff, List.reduceReplicate, reduceCtorEq, frzR, fzB, fzV, hns, List.range_succ, List.map_append, lnCell, nn, fz_cells, encL, lnRow]; done) | simp -dsimp [evl, putN, i64, u32, bl, encL, encB, encLL, frzR, fzB, fzV, hns, List.range_succ, List.map_append, lnCell, nn, fz_cells, encL, lnRow]
        rfl
    · have hd : decide ((0 : Int) < (i : Int)) = true := decide_eq_true (by omega)
      have hw : IntKind.i64.wrap ((i : Int) - 1) = (i : Int) - 1 := wrapP (n := n) hi (by omega)
      try simp -dsimp (maxSteps := 2000000) (disch := first | omega | decide +kernel) only [↓vcl, ↓vcy, ↓vco, vck, gR, evl, evb, evBuiltin, evLen, evIdxA, evLoad, loadP, aggD, tis, i64, u32, bl, encL, encB, encLL, reduceIte, Nat.reduceEqDiff, forget, forget1, wantd, tzs, eve, evStore, evBox, evAlloc, evBuildSlice, evMakeSlice, evAppend, fillRows, zcells, elemsOf, putAll, PV.one, Nat.reduceAdd, Nat.reduceMul, Int.cast_ofNat_Int, Int.reduceEq, Int.reduceLT, Int.reduceLE, Nat.reduceLeDiff, List.reduceReplicate, reduceCtorEq, hd, hw, tzL, List.set_cons_succ, List.getElem?_cons_zero, List.getElem?_cons_succ, Nat.reduceLT, List.length_set, hns, hbd, nit, List.length_range]
      refine ⟨_, _, ?_, (freeze_cvt (i := nx + 1) (ver := 0) (sz := 1) (es := [[i64 ((i : Int) - 1)]]) (f := false) (by simp -dsimp (maxSteps := 2000000) (disch := first | omega | decide +kernel) only [↓vcl, ↓vcy, ↓vco, vck, gR, evl, evb, evBuiltin, evLen, evIdxA, evLoad, loadP, aggD, tis, i64, u32, bl, encL, encB, encLL, reduceIte, Nat.reduceEqDiff, forget, forget1, wantd, tzs, eve, evStore, evBox, evAlloc, evBuildSlice, evMakeSlice, evAppend, fillRows, zcells, elemsOf, putAll, PV.one, Nat.reduceAdd, Nat.reduceMul, Int.cast_ofNat_Int, Int.reduceEq, Int.reduceLT, Int.reduceLE, Nat.reduceLeDiff, List.reduceReplicate, reduceCtorEq, hns]) (by rfl)).trans (.weak (weak_of ?_)), i + 1, ver + 1, nx + 1 + 1 + 1, h2, by omega, rfl, rfl⟩
      · omega
      · first | (simp -dsimp (maxSteps := 2000000) (disch := first | omega | decide +kernel) only [↓vcl, ↓vcy, ↓vco, vck, gR, evl, evb, evBuiltin, evLen, evIdxA, evLoad, loadP, aggD, tis, i64, u32, bl, encL, encB, encLL, reduceIte, Nat.reduceEqDiff, forget, forget1, wantd, tzs, eve, evStore, evBox, evAlloc, evBuildSlice, evMakeSlice, evAppend, fillRows, zcells, elemsOf, putAll, PV.one, Nat.reduceAdd, Nat.reduceMul, Int.cast_ofNat_Int, Int.reduceEq, Int.reduceLT, Int.reduceLE, Nat.reduceLeDiff, List.reduceReplicate, reduceCtorEq, frzR, fzB, fzV, hns, hw, h0, List.range_succ, List.map_append, lnCell, nn, fz_cells, encL, lnRow]; done) | simp -dsimp [evl, putN, i64, u32, bl, encL, encB, encLL, frzR, fzB, fzV, hns, hw, h0, List.range_succ, List.map_append, lnCell, nn, fz_cells, encL, lnRow]
        exact ⟨wrapS (n := n) h2 (by omega), fun a _ => by split <;> rfl⟩
  have hin : i = n := by omega
  subst hin
  have htk : List.take i ((List.range i).map lnCell) = (List.range i).map lnCell := List.take_of_length_le (by simp)
  simp -dsimp (maxSteps := 2000000) (disch := first | omega | decide +kernel) only [↓vcl, ↓vcy, ↓vco, vck, gR, evl, evb, evBuiltin, evLen, evIdxA, evLoad, loadP, aggD, tis, i64, u32, bl, encL, encB, encLL, reduceIte, Nat.reduceEqDiff, forget, forget1, wantd, tzs, eve, evStore, evBox, evAlloc, evBuildSlice, evMakeSlice, evAppend, fillRows, zcells, elemsOf, putAll, PV.one, Nat.reduceAdd, Nat.reduceMul, Int.cast_ofNat_Int, Int.reduceEq, Int.reduceLT, Int.reduceLE, Nat.reduceLeDiff, List.reduceReplicate, reduceCtorEq, retQ, resL, finL, newL, flat, tupOf, List.toList_toArray, Tryd.f23, ln_flat, List.length_range, Nat.le_refl, htk]
  exact leT_refl _


def stCell : List PV := [encL [0]]
theorem fz_st {i v : Nat} {es : List (List PV)} {n : Nat} : (List.replicate n stCell).map (fun r => r.map (fzV i v es)) = List.replicate n stCell := by
  rw [List.map_replicate]; rfl
theorem fz_n {i v : Nat} {es : List (List PV)} : [nn].map (fzV i v es) = [nn] := rfl
theorem b_star (n : Nat) (hn : n ≤ 100) : CallSpec cx 24 [i64 n] (encLL (starH n)) := by
  refine CallSpec.deep (es := [nn] :: List.replicate n stCell) (c := false) (CallSpec.shut (sz := 1) ?_) ?_
  rotate_left
  · unfold leD
    refine ⟨[encL []] :: List.replicate n stCell, false, by simp [encLL, starH, stCell], .inl rfl, ?_⟩
    simp only [leDR]
    exact ⟨_, _, rfl, ⟨encL [], [], rfl, .inr ⟨rfl, rfl⟩, rfl⟩, leDR_refl _⟩
  refine callSpec_of_vc Tryd.func24 rfl (by decide) (by kernel_rfl) (Nat.le_of_ble_eq_true rfl) ?_
  try simp -dsimp (maxSteps := 2000000) (disch := first | omega | decide +kernel) only [↓vcl, ↓vcy, ↓vco, vck, gR, evl, evb, evBuiltin, evLen, evIdxA, evLoad, loadP, aggD, tis, i64, u32, bl, encL, encB, encLL, reduceIte, Nat.reduceEqDiff, forget, forget1, wantd, tzs, eve, evStore, evBox, evAlloc, evBuildSlice, evMakeSlice, evAppend, fillRows, zcells, elemsOf, putAll, PV.one, Nat.reduceAdd, Nat.reduceMul, Int.cast_ofNat_Int, Int.reduceEq, Int.reduceLT, Int.reduceLE, Nat.reduceLeDiff, List.reduceReplicate, reduceCtorEq, Tryd.f24, tzL]
  refine LoopQ.ruleC (fun m st => ∃ (i ver nx : Nat), i ≤ n ∧ 1 ≤ nx ∧ m = n - i ∧
    st = ⟨mkE [(0, i64 n), (3, .own 0 ver 0 (i + 1) false), (4, i64 i)], mkS [(0, .row ver 1 ([nn] :: List.replicate i stCell) false)], nx⟩) _ _ (.weak (weak_of ?_))
    ⟨0, 0, 1, by omega, by omega, rfl, rfl⟩ ?_
  · first | (simp -dsimp (maxSteps := 2000000) (disch := first | omega | decide +kernel) only [↓vcl, ↓vcy, ↓vco, vck, gR, evl, evb, evBuiltin, evLen, evIdxA, evLoad, loadP, aggD, tis, i64, u32, bl, encL, encB, encLL, reduceIte, Nat.reduceEqDiff, forget, forget1, wantd, tzs, eve, evStore, evBox, evAlloc, evBuildSlice, evMakeSlice, evAppend, fillRows, zcells, elemsOf, putAll, PV.one, Nat.reduceAdd, Nat.reduceMul, Int.cast_ofNat_Int, Int.reduceEq, Int.reduceLT, Int.reduceLE, Nat.reduceLeDiff, List.reduceReplicate, reduceCtorEq, List.replicate_zero, nn]; done) | simp -dsimp [evl, putN, i64, u32, bl, encL, encB, encLL, List.replicate_zero, nn]
  rintro m st ⟨i, ver, nx, hi, hnx, rfl, rfl⟩
  have hbd : (i + 1 + 1) * 24 ≤ 140737488355328 := by omega
  have hns : ((nx = 0) = False) ∧ ((0 = nx) = False) ∧ ((nx + 1 = 0) = False) ∧ ((0 = nx + 1) = False) ∧ ((nx + 1 + 1 = 0) = False) ∧ ((0 = nx + 1 + 1) = False) ∧ ((nx = nx + 1) = False) ∧ ((nx + 1 = nx) = False) ∧ ((nx + 1 + 1 = nx + 1) = False) ∧ ((nx + 1 = nx + 1 + 1) = False) := by
    simp only [eq_iff_iff, iff_false]; omega
  try simp -dsimp (maxSteps := 2000000) (disch := first | omega | decide +kernel) only [↓vcl, ↓vcy, ↓vco, vck, gR, evl, evb, evBuiltin, evLen, evIdxA, evLoad, loadP, aggD, tis, i64, u32, bl, encL, encB, encLL, reduceIte, Nat.reduceEqDiff, forget, forget1, wantd, tzs, eve, evStore, evBox, evAlloc, evBuildSlice, evMakeSlice, evAppend, fillRows, zcells, elemsOf, putAll, PV.one, Nat.reduceAdd, Nat.reduceMul, Int.cast_ofNat_Int, Int.reduceEq, Int.reduceLT, Int.reduceLE, Nat.reduceLeDiff, List.reduceReplicate, reduceCtorEq]
  refine onC_nlt (fun h2 => ?_) (fun h2 => ?_)
  · try simp -dsimp (maxSteps := 2000000) (disch := first | omega | decide +kernel) only [↓vcl, ↓vcy, ↓vco, vck, gR, evl, evb, evBuiltin, evLen, evIdxA, evLoad, loadP, aggD, tis, i64, u32, bl, encL, encB, encLL, reduceIte, Nat.reduceEqDiff, forget, forget1, wantd, tzs, eve, evStore, evBox, evAlloc, evBuildSlice, evMakeSlice, evAppend, fillRows, zcells, elemsOf, putAll, PV.one, Nat.reduceAdd, Nat.reduceMul, Int.cast_ofNat_Int, Int.reduceEq, Int.reduceLT, Int.reduceLE, Nat.reduceLeDiff, List.reduceReplicate, reduceCtorEq, tzL, List.set_cons_succ, List.getElem?_cons_zero, List.getElem?_cons_succ, Nat.reduceLT, List.length_set, hns, hbd, nit, List.length_range, List.length_replicate, List.length_cons]
    refine ⟨_, _, ?_, (freeze_cvt (i := nx) (ver := 0) (sz := 1) (es := [[i64 0]]) (f := false) (by simp -dsimp (maxSteps := 2000000) (disch := first | omega | decide +kernel) only [↓vcl, ↓vcy, ↓vco, vck, gR, evl, evb, evBuiltin, evLen, evIdxA, evLoad, loadP, aggD, tis, i64, u32, bl, encL, encB, encLL, reduceIte, Nat.reduceEqDiff, forget, forget1, wantd, tzs, eve, evStore, evBox, evAlloc, evBuildSlice, evMakeSlice, evAppend, fillRows, zcells, elemsOf, putAll, PV.one, Nat.reduceAdd, Nat.reduceMul, Int.cast_ofNat_Int, Int.reduceEq, Int.reduceLT, Int.reduceLE, Nat.reduceLeDiff, List.reduceReplicate, reduceCtorEq, hns]) (by rfl)).trans (.weak (weak_of ?_)), i + 1, ver + 1, nx + 1 + 1, h2, by omega, rfl, rfl⟩
    · omega
    · first | (simp -dsimp (maxSteps := 2000000) (disch := first | omega | decide +kernel) only [↓vcl, ↓vcy, ↓vco, vck, gR, evl, evb, evBuiltin, evLen, evIdxA, evLoad, loadP, aggD, tis, i64, u32, bl, encL, encB, encLL, reduceIte, Nat.reduceEqDiff, forget, forget1, wantd, tzs, eve, evStore, evBox, evAlloc, evBuildSlice, evMakeSlice, evAppend, fillRows, zcells, elemsOf, putAll, PV.one, Nat.reduceAdd, Nat.reduceMul, Int.cast_ofNat_Int, Int.reduceEq, Int.reduceLT, Int.reduceLE, Nat.reduceLeDiff, List.reduceReplicate, reduceCtorEq, frzR, fzB, fzV, hns, List.replicate_succ', List.map_append, nn, fz_st, fz_n, encL, stCell, List.map_replicate]; done) | simp -dsimp [evl, putN, i64, u32, bl, encL, encB, encLL, frzR, fzB, fzV, hns, List.replicate_succ', List.map_append, nn, fz_st, fz_n, encL, stCell, List.map_replicate]
      exact wrapS (n := n) h2 (by omega)
  have hin : i = n := by omega
  subst hin
  have hfl : (([nn] :: List.replicate i stCell).all (fun e => e.all flat)) = true := by
    rw [List.all_cons, List.all_replicate]; simp [stCell, flat, nn, encL]
  have htk : List.take (i + 1) ([nn] :: List.replicate i stCell) = [nn] :: List.replicate i stCell := List.take_of_length_le (by simp)
  simp -dsimp (maxSteps := 2000000) (disch := first | omega | decide +kernel) only [↓vcl, ↓vcy, ↓vco, vck, gR, evl, evb, evBuiltin, evLen, evIdxA, evLoad, loadP, aggD, tis, i64, u32, bl, encL, encB, encLL, reduceIte, Nat.reduceEqDiff, forget, forget1, wantd, tzs, eve, evStore, evBox, evAlloc, evBuildSlice, evMakeSlice, evAppend, fillRows, zcells, elemsOf, putAll, PV.one, Nat.reduceAdd, Nat.reduceMul, Int.cast_ofNat_Int, Int.reduceEq, Int.reduceLT, Int.reduceLE, Nat.reduceLeDiff, List.reduceReplicate, reduceCtorEq, retQ, resL, finL, newL, flat, tupOf, List.toList_toArray, Tryd.f24, List.length_replicate, List.length_cons, Nat.le_refl, htk, hfl]
  exact leT_refl _
end Go.Ab
