/- Gaps in order. -/
import Derived.Test.YtgcodedanljhpaaMC
import Derived.Test.YtgcodedanljhpaaAcSort
import Derived.Ground.SlsfProg
set_option linter.unusedSimpArgs false
set_option linter.unusedVariables false
set_option maxRecDepth 1000000
set_option maxHeartbeats 8000000
namespace Go.Proofs
open Go.Shelf Go.RowKit Go.Lib Go.Sort
def gapSort_ren : Go.Shelf.Ren := ⟨fun | 6 => 34 | 15 => 66 | 14 => 65 | 28 => 85 | 29 => 86 | 20 => 77 | 21 => 78 | 22 => 79 | 23 => 80 | 24 => 81 | 25 => 82 | 26 => 83 | 27 => 84 | 46 => 91 | 47 => 92 | 48 => 93 | 49 => 94 | 50 => 95 | 57 => 96 | n => n, fun | 22 => 29 | 24 => 68 | 25 => 91 | 3 => 3 | 39 => 125 | 0 => 0 | 53 => 145 | 55 => 147 | 4 => 4 | 46 => 139 | 45 => 138 | 50 => 105 | 5 => 5 | 9 => 9 | 66 => 150 | 70 => 154 | 76 => 156 | 77 => 37 | n => n, fun | n => n⟩
theorem gapSort : Go.Proofs.SlLaysF0.n6 Try.prog gapSort_ren := {
  mixed := by kernel_rfl
  f6 := ⟨Try.f34.name, by decide, Try.func34.trans (congrArg some (by kernel_rfl))⟩
  f14 := ⟨Try.f65.name, by decide, Try.func65.trans (congrArg some (by kernel_rfl))⟩
  f15 := Try.func66.trans (congrArg some (by kernel_rfl))
  f20 := ⟨Try.f77.name, by decide, Try.func77.trans (congrArg some (by kernel_rfl))⟩
  f21 := ⟨Try.f78.name, by decide, Try.func78.trans (congrArg some (by kernel_rfl))⟩
  f22 := ⟨Try.f79.name, by decide, Try.func79.trans (congrArg some (by kernel_rfl))⟩
  f23 := ⟨Try.f80.name, by decide, Try.func80.trans (congrArg some (by kernel_rfl))⟩
  f24 := ⟨Try.f81.name, by decide, Try.func81.trans (congrArg some (by kernel_rfl))⟩
  f25 := ⟨Try.f82.name, by decide, Try.func82.trans (congrArg some (by kernel_rfl))⟩
  f26 := ⟨Try.f83.name, by decide, Try.func83.trans (congrArg some (by kernel_rfl))⟩
  f27 := ⟨Try.f84.name, by decide, Try.func84.trans (congrArg some (by kernel_rfl))⟩
  f28 := Try.func85.trans (congrArg some (by kernel_rfl))
  f29 := Try.func86.trans (congrArg some (by kernel_rfl))
  f46 := ⟨Try.f91.name, by decide, Try.func91.trans (congrArg some (by kernel_rfl))⟩
  f47 := Try.func92.trans (congrArg some (by kernel_rfl))
  f48 := Try.func93.trans (congrArg some (by kernel_rfl))
  f49 := ⟨Try.f94.name, by decide, Try.func94.trans (congrArg some (by kernel_rfl))⟩
  f50 := ⟨Try.f95.name, by decide, Try.func95.trans (congrArg some (by kernel_rfl))⟩
  f57 := ⟨Try.f96.name, by decide, Try.func96.trans (congrArg some (by kernel_rfl))⟩
  t0 := Try.underlying0
  a0 := Try.isAgg0
  z0 := Try.sizeOf0
  v0 := Try.zeroValue0
  t3 := Try.underlying3
  a3 := Try.isAgg3
  z3 := Try.sizeOf3
  v3 := Try.zeroValue3
  t4 := Try.underlying4
  a4 := Try.isAgg4
  z4 := Try.sizeOf4
  v4 := Try.zeroValue4
  t5 := Try.underlying5
  a5 := Try.isAgg5
  z5 := Try.sizeOf5
  v5 := Try.zeroValue5
  t9 := Try.underlying9
  a9 := Try.isAgg9
  z9 := Try.sizeOf9
  v9 := Try.zeroValue9
  t22 := Try.underlying29
  a22 := Try.isAgg29
  z22 := Try.sizeOf29
  v22 := Try.zeroValue29
  t25 := Try.underlying91
  a25 := Try.isAgg91
  z25 := Try.sizeOf91
  v25 := Try.zeroValue91
  t39 := Try.underlying125
  a39 := Try.isAgg125
  z39 := Try.sizeOf125
  v39 := Try.zeroValue125
  t45 := Try.underlying138
  a45 := Try.isAgg138
  z45 := Try.sizeOf138
  v45 := Try.zeroValue138
  t46 := Try.underlying139
  a46 := Try.isAgg139
  z46 := Try.sizeOf139
  v46 := Try.zeroValue139
  t50 := Try.underlying105
  a50 := Try.isAgg105
  z50 := Try.sizeOf105
  v50 := Try.zeroValue105
  t53 := Try.underlying145
  a53 := Try.isAgg145
  z53 := Try.sizeOf145
  v53 := Try.zeroValue145
  t55 := Try.underlying147
  a55 := Try.isAgg147
  z55 := Try.sizeOf147
  v55 := Try.zeroValue147
  t66 := Try.underlying150
  a66 := Try.isAgg150
  z66 := Try.sizeOf150
  v66 := Try.zeroValue150
  t70 := Try.underlying154
  a70 := Try.isAgg154
  z70 := Try.sizeOf154
  v70 := Try.zeroValue154
  t76 := Try.underlying156
  a76 := Try.isAgg156
  z76 := Try.sizeOf156
  v76 := Try.zeroValue156
  t77 := Try.underlying37
  a77 := Try.isAgg37
  z77 := Try.sizeOf37
  v77 := Try.zeroValue37 }
end Go.Proofs
namespace Go.Ab
open Go Go.Proofs Go.Sort
theorem bd_MD : type_of% (And.intro @gR (And.intro @tis (And.intro @i64.eq_1 (And.intro @u32.eq_1 (And.intro @bl.eq_1 (And.intro @encL.eq_1 (And.intro @encB.eq_1 (And.intro @encLL.eq_1 (And.intro @tzs (And.intro @Int.cast_ofNat_Int (And.intro @fld (And.intro @nit (And.intro @nxE (And.intro @ovR (And.intro @evBin_seql (And.intro @evBin_sneq (And.intro @str.eq_1 (And.intro @u8.eq_1 (And.intro @encBrs.eq_1 (And.intro @cBr.eq_1 (And.intro @encLdg.eq_1 (And.intro @encKws.eq_1 (And.intro @cKw.eq_1 (And.intro @encEvss.eq_1 (And.intro @encEvs.eq_1 (And.intro @cEv.eq_1 (And.intro @encMks.eq_1 (And.intro @cMk.eq_1 (And.intro @encStrs.eq_1 (And.intro @encFxs.eq_1 (And.intro @cFx.eq_1 (And.intro @cGp.eq_1 (And.intro @tk2 (And.intro @tk3 (And.intro @List.set_cons_succ.{0} (And.intro @List.getElem?_cons_zero.{0} (And.intro @List.getElem?_cons_succ.{0} (@List.length_set.{0})))))))))))))))))))))))))))))))))))))) := And.intro @gR (And.intro @tis (And.intro @i64.eq_1 (And.intro @u32.eq_1 (And.intro @bl.eq_1 (And.intro @encL.eq_1 (And.intro @encB.eq_1 (And.intro @encLL.eq_1 (And.intro @tzs (And.intro @Int.cast_ofNat_Int (And.intro @fld (And.intro @nit (And.intro @nxE (And.intro @ovR (And.intro @evBin_seql (And.intro @evBin_sneq (And.intro @str.eq_1 (And.intro @u8.eq_1 (And.intro @encBrs.eq_1 (And.intro @cBr.eq_1 (And.intro @encLdg.eq_1 (And.intro @encKws.eq_1 (And.intro @cKw.eq_1 (And.intro @encEvss.eq_1 (And.intro @encEvs.eq_1 (And.intro @cEv.eq_1 (And.intro @encMks.eq_1 (And.intro @cMk.eq_1 (And.intro @encStrs.eq_1 (And.intro @encFxs.eq_1 (And.intro @cFx.eq_1 (And.intro @cGp.eq_1 (And.intro @tk2 (And.intro @tk3 (And.intro @List.set_cons_succ.{0} (And.intro @List.getElem?_cons_zero.{0} (And.intro @List.getElem?_cons_succ.{0} (@List.length_set.{0})))))))))))))))))))))))))))))))))))))
def orL : List Int → Int
  | [] => 0
  | a :: r => if a ≠ 0 then a else orL r
theorem m_Or (l : List Int) (hl : l.length ≤ 9223372036854775807) : CallSpec cx 36 [encL l] (i64 (orL l)) := by
  refine callSpec_of_vc Try.func36 rfl (by decide) (by kernel_rfl) (Nat.le_of_ble_eq_true rfl) ?_
  try simp -dsimp (maxSteps := 2000000) (disch := first | omega | decide +kernel) only [↓vcl, ↓vcy, ↓vco, bd_MD, vck, evl, evb, evBuiltin, evLen, evIdxA, evLoad, loadP, aggD, reduceIte, Nat.reduceEqDiff, forget, forget1, wantd, eve, evStore, evBox, evAlloc, evBuildSlice, evMakeSlice, evAppend, fillRows, zcells, elemsOf, putAll, PV.one, Nat.reduceAdd, Nat.reduceMul, Int.reduceEq, Int.reduceLT, Int.reduceLE, Nat.reduceLeDiff, List.reduceReplicate, reduceCtorEq, evRange, evNext, Nat.reduceLT, Try.f36]
  refine LoopQ.rule (fun m st => ∃ i : Nat, i ≤ l.length ∧ orL l = orL (l.drop i) ∧ m = l.length - i ∧
    st = ⟨mkE [(3, i64 0), (6, encL l), (7, i64 l.length), (8, i64 i)], mkS [], 0⟩) _ _ (weak_of ?_) ⟨0, by omega, rfl, rfl, rfl⟩ ?_
  · first | (simp -dsimp (maxSteps := 2000000) (disch := first | omega | decide +kernel) only [↓vcl, ↓vcy, ↓vco, bd_MD, vck, evl, evb, evBuiltin, evLen, evIdxA, evLoad, loadP, aggD, reduceIte, Nat.reduceEqDiff, forget, forget1, wantd, eve, evStore, evBox, evAlloc, evBuildSlice, evMakeSlice, evAppend, fillRows, zcells, elemsOf, putAll, PV.one, Nat.reduceAdd, Nat.reduceMul, Int.reduceEq, Int.reduceLT, Int.reduceLE, Nat.reduceLeDiff, List.reduceReplicate, reduceCtorEq, evRange, evNext, Nat.reduceLT]; done) | simp -dsimp [evl, putN, i64, u32, bl, encL, encB, encLL]
  rintro m st ⟨i, hi, hE, rfl, rfl⟩
  try simp -dsimp (maxSteps := 2000000) (disch := first | omega | decide +kernel) only [↓vcl, ↓vcy, ↓vco, bd_MD, vck, evl, evb, evBuiltin, evLen, evIdxA, evLoad, loadP, aggD, reduceIte, Nat.reduceEqDiff, forget, forget1, wantd, eve, evStore, evBox, evAlloc, evBuildSlice, evMakeSlice, evAppend, fillRows, zcells, elemsOf, putAll, PV.one, Nat.reduceAdd, Nat.reduceMul, Int.reduceEq, Int.reduceLT, Int.reduceLE, Nat.reduceLeDiff, List.reduceReplicate, reduceCtorEq, evRange, evNext, Nat.reduceLT]
  refine onC_nlt (fun h2 => ?_) (fun h2 => ?_)
  · obtain ⟨a, hx, hxm⟩ := get_of_lt h2
    have hdr : l.drop i = a :: l.drop (i + 1) := by rw [List.drop_eq_getElem_cons h2]; congr 1; rw [List.getElem?_eq_getElem h2] at hx; exact Option.some.inj hx
    rw [hdr, orL] at hE
    cases he : decide (a = 0)
    · simp -dsimp (maxSteps := 2000000) (disch := first | omega | decide +kernel) only [↓vcl, ↓vcy, ↓vco, bd_MD, vck, evl, evb, evBuiltin, evLen, evIdxA, evLoad, loadP, aggD, reduceIte, Nat.reduceEqDiff, forget, forget1, wantd, eve, evStore, evBox, evAlloc, evBuildSlice, evMakeSlice, evAppend, fillRows, zcells, elemsOf, putAll, PV.one, Nat.reduceAdd, Nat.reduceMul, Int.reduceEq, Int.reduceLT, Int.reduceLE, Nat.reduceLeDiff, List.reduceReplicate, reduceCtorEq, evRange, evNext, Nat.reduceLT, retQ, resL, finL, newL, flat, tupOf, List.toList_toArray, Try.f36, hx, he]
      rw [if_pos (of_decide_eq_false he)] at hE
      exact leT_one (int_eq hE.symm) (by simp)
    · rw [if_neg (by rw [Decidable.not_not]; exact of_decide_eq_true he)] at hE
      try simp -dsimp (maxSteps := 2000000) (disch := first | omega | decide +kernel) only [↓vcl, ↓vcy, ↓vco, bd_MD, vck, evl, evb, evBuiltin, evLen, evIdxA, evLoad, loadP, aggD, reduceIte, Nat.reduceEqDiff, forget, forget1, wantd, eve, evStore, evBox, evAlloc, evBuildSlice, evMakeSlice, evAppend, fillRows, zcells, elemsOf, putAll, PV.one, Nat.reduceAdd, Nat.reduceMul, Int.reduceEq, Int.reduceLT, Int.reduceLE, Nat.reduceLeDiff, List.reduceReplicate, reduceCtorEq, evRange, evNext, Nat.reduceLT, hx, he]
      refine ⟨_, _, ?_, weak_of ?_, i + 1, h2, hE, rfl, rfl⟩
      · omega
      · first | (simp -dsimp (maxSteps := 2000000) (disch := first | omega | decide +kernel) only [↓vcl, ↓vcy, ↓vco, bd_MD, vck, evl, evb, evBuiltin, evLen, evIdxA, evLoad, loadP, aggD, reduceIte, Nat.reduceEqDiff, forget, forget1, wantd, eve, evStore, evBox, evAlloc, evBuildSlice, evMakeSlice, evAppend, fillRows, zcells, elemsOf, putAll, PV.one, Nat.reduceAdd, Nat.reduceMul, Int.reduceEq, Int.reduceLT, Int.reduceLE, Nat.reduceLeDiff, List.reduceReplicate, reduceCtorEq, evRange, evNext, Nat.reduceLT, wrapS h2 hl]; done) | simp -dsimp [evl, putN, i64, u32, bl, encL, encB, encLL, wrapS h2 hl]
  · rw [List.drop_of_length_le (by omega)] at hE
    simp -dsimp (maxSteps := 2000000) (disch := first | omega | decide +kernel) only [↓vcl, ↓vcy, ↓vco, bd_MD, vck, evl, evb, evBuiltin, evLen, evIdxA, evLoad, loadP, aggD, reduceIte, Nat.reduceEqDiff, forget, forget1, wantd, eve, evStore, evBox, evAlloc, evBuildSlice, evMakeSlice, evAppend, fillRows, zcells, elemsOf, putAll, PV.one, Nat.reduceAdd, Nat.reduceMul, Int.reduceEq, Int.reduceLT, Int.reduceLE, Nat.reduceLeDiff, List.reduceReplicate, reduceCtorEq, evRange, evNext, Nat.reduceLT, retQ, resL, finL, newL, flat, tupOf, List.toList_toArray, Try.f36]
    exact leT_one (int_eq hE.symm) (by simp)
abbrev GA (n : Nat) := Fin 10 × Fin 30 × Fin n
def encG (l : Ldg) (a : GA l.brs.length) : List Value := [.string (l.brs[a.2.2]).name, .int .i64 (a.2.1.val : Int), .int .i64 (a.1.val : Int)]
def cfG {n : Nat} (a b : GA n) : Int := orL [(b.1.val : Int) - a.1.val, (a.2.1.val : Int) - b.2.1.val, (a.2.2.val : Int) - b.2.2.val]
def ltG {n : Nat} (a b : GA n) : Prop := b.1.val < a.1.val ∨ (a.1.val = b.1.val ∧ (a.2.1.val < b.2.1.val ∨ (a.2.1.val = b.2.1.val ∧ a.2.2.val < b.2.2.val)))
theorem cfG_lt {n : Nat} (a b : GA n) : cfG a b < 0 ↔ ltG a b := by
  unfold cfG ltG
  simp only [orL]
  repeat' split
  all_goals omega
theorem ltOf_G {n : Nat} (a b : GA n) : ltOf cfG a b = true ↔ ltG a b := by
  unfold ltOf; rw [decide_eq_true_iff, cfG_lt]
theorem ltOf_Gf {n : Nat} (a b : GA n) : ltOf cfG a b = false ↔ ¬ ltG a b := by rw [← Bool.not_eq_true, ltOf_G]
theorem swoG {n : Nat} : SWO (ltOf (cfG (n := n))) where
  irrefl x := by rw [ltOf_Gf]; unfold ltG; omega
  trans x y z h1 h2 := by rw [ltOf_G] at *; unfold ltG at *; omega
  ntrans x y z h1 h2 := by rw [ltOf_Gf] at *; unfold ltG at *; omega
theorem totG {n : Nat} (x y : GA n) (h1 : ltOf cfG x y = false) (h2 : ltOf cfG y x = false) : x = y := by
  rw [ltOf_Gf] at *
  unfold ltG at *
  obtain ⟨a, b, c⟩ := x
  obtain ⟨a', b', c'⟩ := y
  simp only at h1 h2
  have e1 : a = a' := Fin.ext (by omega)
  have e2 : b = b' := Fin.ext (by omega)
  have e3 : c = c' := Fin.ext (by omega)
  rw [e1, e2, e3]
def srtG {n : Nat} (d : List (GA n)) : List (GA n) := d.mergeSort fun x y => !(ltOf cfG) y x
theorem m_order1 (l : Ldg) (h : LOk l) (x y : GA l.brs.length) : CallSpec cx 35 ([.agg ((encG l x).map .lit), .agg ((encG l y).map .lit)] ++ [.cptr (cLdg l)]) (.lit (.int .i64 (cfG x y))) := by
  have hu : ∀ i : Fin l.brs.length, idx l.brs (l.brs[i]).name = (i.val : Int) := fun i => (tok_fits h.fits).uniq (List.getElem?_eq_getElem i.isLt)
  have hle := h.vok.le8
  obtain ⟨w, c, i⟩ := x
  obtain ⟨w', c', i'⟩ := y
  have hw1 : IntKind.i64.wrap ((w'.val : Int) - w.val) = (w'.val : Int) - w.val := IntWalk.i64_in _ (by omega)
  have hw2 : IntKind.i64.wrap ((c.val : Int) - c'.val) = (c.val : Int) - c'.val := IntWalk.i64_in _ (by omega)
  have hw3 : IntKind.i64.wrap ((i.val : Int) - i'.val) = (i.val : Int) - i'.val := IntWalk.i64_in _ (by omega)
  simp only [encG, List.map_cons, List.map_nil, List.cons_append, List.nil_append]
  refine callSpec_of_vc Try.func35 rfl (by decide) (by kernel_rfl) (Nat.le_of_ble_eq_true rfl) ?_
  try simp -dsimp (maxSteps := 2000000) (disch := first | omega | decide +kernel) only [↓vcl, ↓vcy, ↓vco, bd_MD, vck, evl, evb, evBuiltin, evLen, evIdxA, evLoad, loadP, aggD, reduceIte, Nat.reduceEqDiff, forget, forget1, wantd, eve, evStore, evBox, evAlloc, evBuildSlice, evMakeSlice, evAppend, fillRows, zcells, elemsOf, putAll, PV.one, Nat.reduceAdd, Nat.reduceMul, Int.reduceEq, Int.reduceLT, Int.reduceLE, Nat.reduceLeDiff, List.reduceReplicate, reduceCtorEq, evRange, evNext, Nat.reduceLT, Try.f35, cLdg, List.map_cons, List.map_nil]
  first | refine vc_text (by kernel_rfl) ?_ | skip
  try simp -dsimp (maxSteps := 2000000) (disch := first | omega | decide +kernel) only [↓vcl, ↓vcy, ↓vco, bd_MD, vck, evl, evb, evBuiltin, evLen, evIdxA, evLoad, loadP, aggD, reduceIte, Nat.reduceEqDiff, forget, forget1, wantd, eve, evStore, evBox, evAlloc, evBuildSlice, evMakeSlice, evAppend, fillRows, zcells, elemsOf, putAll, PV.one, Nat.reduceAdd, Nat.reduceMul, Int.reduceEq, Int.reduceLT, Int.reduceLE, Nat.reduceLeDiff, List.reduceReplicate, reduceCtorEq, evRange, evNext, Nat.reduceLT, hw1, hw2]
  refine CallY.imm (m_index l _ (by omega)) (by rfl) (by first | rfl | (simp -dsimp (maxSteps := 2000000) (disch := first | omega | decide +kernel) only [↓vcl, ↓vcy, ↓vco, bd_MD, vck, evl, evb, evBuiltin, evLen, evIdxA, evLoad, loadP, aggD, reduceIte, Nat.reduceEqDiff, forget, forget1, wantd, eve, evStore, evBox, evAlloc, evBuildSlice, evMakeSlice, evAppend, fillRows, zcells, elemsOf, putAll, PV.one, Nat.reduceAdd, Nat.reduceMul, Int.reduceEq, Int.reduceLT, Int.reduceLE, Nat.reduceLeDiff, List.reduceReplicate, reduceCtorEq, evRange, evNext, Nat.reduceLT, drcs, drc, flat]; done) | simp -dsimp [evl, drcs, drc, flat, i64, u32, bl, encL, encB, encLL]) (by first | exact .inl rfl | exact .inr rfl | exact .inr scalB | exact .inr scalI | exact .inr scalT | exact .inr scalM | exact .inr scalMT) ?_
  try simp -dsimp (maxSteps := 2000000) (disch := first | omega | decide +kernel) only [↓vcl, ↓vcy, ↓vco, bd_MD, vck, evl, evb, evBuiltin, evLen, evIdxA, evLoad, loadP, aggD, reduceIte, Nat.reduceEqDiff, forget, forget1, wantd, eve, evStore, evBox, evAlloc, evBuildSlice, evMakeSlice, evAppend, fillRows, zcells, elemsOf, putAll, PV.one, Nat.reduceAdd, Nat.reduceMul, Int.reduceEq, Int.reduceLT, Int.reduceLE, Nat.reduceLeDiff, List.reduceReplicate, reduceCtorEq, evRange, evNext, Nat.reduceLT]
  refine CallY.imm (m_index l _ (by omega)) (by rfl) (by first | rfl | (simp -dsimp (maxSteps := 2000000) (disch := first | omega | decide +kernel) only [↓vcl, ↓vcy, ↓vco, bd_MD, vck, evl, evb, evBuiltin, evLen, evIdxA, evLoad, loadP, aggD, reduceIte, Nat.reduceEqDiff, forget, forget1, wantd, eve, evStore, evBox, evAlloc, evBuildSlice, evMakeSlice, evAppend, fillRows, zcells, elemsOf, putAll, PV.one, Nat.reduceAdd, Nat.reduceMul, Int.reduceEq, Int.reduceLT, Int.reduceLE, Nat.reduceLeDiff, List.reduceReplicate, reduceCtorEq, evRange, evNext, Nat.reduceLT, drcs, drc, flat]; done) | simp -dsimp [evl, drcs, drc, flat, i64, u32, bl, encL, encB, encLL]) (by first | exact .inl rfl | exact .inr rfl | exact .inr scalB | exact .inr scalI | exact .inr scalT | exact .inr scalM | exact .inr scalMT) ?_
  try simp -dsimp (maxSteps := 2000000) (disch := first | omega | decide +kernel) only [↓vcl, ↓vcy, ↓vco, bd_MD, vck, evl, evb, evBuiltin, evLen, evIdxA, evLoad, loadP, aggD, reduceIte, Nat.reduceEqDiff, forget, forget1, wantd, eve, evStore, evBox, evAlloc, evBuildSlice, evMakeSlice, evAppend, fillRows, zcells, elemsOf, putAll, PV.one, Nat.reduceAdd, Nat.reduceMul, Int.reduceEq, Int.reduceLT, Int.reduceLE, Nat.reduceLeDiff, List.reduceReplicate, reduceCtorEq, evRange, evNext, Nat.reduceLT, hu, hw3]
  refine CallY.imm (m_Or [(w'.val : Int) - w.val, (c.val : Int) - c'.val, (i.val : Int) - i'.val] (by simp)) (by rfl) (by first | rfl | (simp -dsimp (maxSteps := 2000000) (disch := first | omega | decide +kernel) only [↓vcl, ↓vcy, ↓vco, bd_MD, vck, evl, evb, evBuiltin, evLen, evIdxA, evLoad, loadP, aggD, reduceIte, Nat.reduceEqDiff, forget, forget1, wantd, eve, evStore, evBox, evAlloc, evBuildSlice, evMakeSlice, evAppend, fillRows, zcells, elemsOf, putAll, PV.one, Nat.reduceAdd, Nat.reduceMul, Int.reduceEq, Int.reduceLT, Int.reduceLE, Nat.reduceLeDiff, List.reduceReplicate, reduceCtorEq, evRange, evNext, Nat.reduceLT, drcs, drc, flat, List.map_cons, List.map_nil, List.drop_zero, List.take_succ_cons, List.take_zero]; done) | simp -dsimp [evl, drcs, drc, flat, i64, u32, bl, encL, encB, encLL]) (by first | exact .inl rfl | exact .inr rfl | exact .inr scalB | exact .inr scalI | exact .inr scalT | exact .inr scalM | exact .inr scalMT) ?_
  simp -dsimp (maxSteps := 2000000) (disch := first | omega | decide +kernel) only [↓vcl, ↓vcy, ↓vco, bd_MD, vck, evl, evb, evBuiltin, evLen, evIdxA, evLoad, loadP, aggD, reduceIte, Nat.reduceEqDiff, forget, forget1, wantd, eve, evStore, evBox, evAlloc, evBuildSlice, evMakeSlice, evAppend, fillRows, zcells, elemsOf, putAll, PV.one, Nat.reduceAdd, Nat.reduceMul, Int.reduceEq, Int.reduceLT, Int.reduceLE, Nat.reduceLeDiff, List.reduceReplicate, reduceCtorEq, evRange, evNext, Nat.reduceLT, retQ, resL, finL, newL, flat, tupOf, List.toList_toArray, Try.f35]
  exact leT_one .rfl' (by simp)
theorem tisGap : ti cx.P 68 = some ⟨.struct (sfOf 68), 3, 32⟩ := by kernel_rfl
theorem isAggG (w : World) : (isAgg 68).run cx.P w = .ok true w := by rw [run_isAgg tisGap]; rfl
theorem sizeG (w : World) : (sizeOf 68).run cx.P w = .ok 3 w := run_sizeOf tisGap
theorem g_sort (l : Ldg) (h : LOk l) {σ : Store} {nx id ver : Nat} {d : List (GA l.brs.length)} {clip : Bool} {caps : List PV} (hσ : σ id = some (.row ver 3 (rowsOf (encG l) d) false)) (hcap : rdAs (σ.del id) caps = some [.cptr (cLdg l)]) (hsz : d.length < 4611686018427387904) :
    StSpec cx 34 [.own id ver 0 d.length clip, .clo (.func 35) [] caps] σ nx (fun r σ' nx' => r = .tup [] ∧ nx' = nx ∧ σ' = σ.put id (.row ver 3 (rowsOf (encG l) (srtG d)) false)) := by
  haveI : Inhabited (GA l.brs.length) := ⟨(0, 0, ⟨0, h.vok.pos⟩)⟩
  refine sort_st (k := 3) (cf := cfG) (srt := srtG) (fun _ => rfl) (fun x => rfl) ?_ ?_ (by kernel_rfl) (by kernel_rfl) (fun d => List.length_mergeSort d) hσ hcap (m_order1 l h) hsz
  · intro cb blk off cap d w eg hcmp hH hblk hsz
    exact AnyQ.slices_SortFunc_total gapSort 3 isAggG sizeG (encG l) (fun _ => rfl) (fun x v hv => by simp [encG] at hv; rcases hv with rfl | rfl | rfl <;> rfl) cfG swoG 35 cb blk off cap d w eg hcmp hH hblk hsz totG
  · intro p cap fv w
    exact AnyF.slices_SortFunc_none gapSort p cap fv w
end Go.Ab
