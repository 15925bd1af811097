/- Gaps in order. -/
import Derived.Test.YtgcodedanljhpaaDoorMC
import Derived.Test.YtgcodedanljhpaaDoorAcSort
import Derived.Ground.SlsfProg
set_option linter.unusedSimpArgs false
set_option linter.unusedVariables false
set_option maxRecDepth 1000000
set_option maxHeartbeats 8000000
namespace Go.Proofs
open Go.Shelf Go.RowKit Go.Lib Go.Sort
def gapSort_ren : Go.Shelf.Ren := ⟨fun | 6 => 66 | 15 => 78 | 14 => 87 | 28 => 100 | 29 => 101 | 20 => 104 | 21 => 105 | 22 => 106 | 23 => 107 | 24 => 108 | 25 => 109 | 26 => 110 | 27 => 111 | 46 => 122 | 47 => 118 | 48 => 119 | 49 => 123 | 50 => 124 | 57 => 130 | n => n, fun | 22 => 42 | 24 => 49 | 25 => 126 | 3 => 3 | 39 => 142 | 0 => 0 | 53 => 163 | 55 => 165 | 4 => 4 | 46 => 157 | 45 => 156 | 50 => 112 | 5 => 5 | 9 => 9 | 66 => 176 | 70 => 180 | 76 => 188 | 77 => 189 | n => n, fun | n => n⟩
theorem gapSort : Go.Proofs.SlLaysF0.n6 Tryd.prog gapSort_ren := {
  mixed := by kernel_rfl
  f6 := ⟨Tryd.f66.name, by decide, Tryd.func66.trans (congrArg some (by kernel_rfl))⟩
  f14 := ⟨Tryd.f87.name, by decide, Tryd.func87.trans (congrArg some (by kernel_rfl))⟩
  f15 := Tryd.func78.trans (congrArg some (by kernel_rfl))
  f20 := ⟨Tryd.f104.name, by decide, Tryd.func104.trans (congrArg some (by kernel_rfl))⟩
  f21 := ⟨Tryd.f105.name, by decide, Tryd.func105.trans (congrArg some (by kernel_rfl))⟩
  f22 := ⟨Tryd.f106.name, by decide, Tryd.func106.trans (congrArg some (by kernel_rfl))⟩
  f23 := ⟨Tryd.f107.name, by decide, Tryd.func107.trans (congrArg some (by kernel_rfl))⟩
  f24 := ⟨Tryd.f108.name, by decide, Tryd.func108.trans (congrArg some (by kernel_rfl))⟩
  f25 := ⟨Tryd.f109.name, by decide, Tryd.func109.trans (congrArg some (by kernel_rfl))⟩
  f26 := ⟨Tryd.f110.name, by decide, Tryd.func110.trans (congrArg some (by kernel_rfl))⟩
  f27 := ⟨Tryd.f111.name, by decide, Tryd.func111.trans (congrArg some (by kernel_rfl))⟩
  f28 := Tryd.func100.trans (congrArg some (by kernel_rfl))
  f29 := Tryd.func101.trans (congrArg some (by kernel_rfl))
  f46 := ⟨Tryd.f122.name, by decide, Tryd.func122.trans (congrArg some (by kernel_rfl))⟩
  f47 := Tryd.func118.trans (congrArg some (by kernel_rfl))
  f48 := Tryd.func119.trans (congrArg some (by kernel_rfl))
  f49 := ⟨Tryd.f123.name, by decide, Tryd.func123.trans (congrArg some (by kernel_rfl))⟩
  f50 := ⟨Tryd.f124.name, by decide, Tryd.func124.trans (congrArg some (by kernel_rfl))⟩
  f57 := ⟨Tryd.f130.name, by decide, Tryd.func130.trans (congrArg some (by kernel_rfl))⟩
  t0 := Tryd.underlying0
  a0 := Tryd.isAgg0
  z0 := Tryd.sizeOf0
  v0 := Tryd.zeroValue0
  t3 := Tryd.underlying3
  a3 := Tryd.isAgg3
  z3 := Tryd.sizeOf3
  v3 := Tryd.zeroValue3
  t4 := Tryd.underlying4
  a4 := Tryd.isAgg4
  z4 := Tryd.sizeOf4
  v4 := Tryd.zeroValue4
  t5 := Tryd.underlying5
  a5 := Tryd.isAgg5
  z5 := Tryd.sizeOf5
  v5 := Tryd.zeroValue5
  t9 := Tryd.underlying9
  a9 := Tryd.isAgg9
  z9 := Tryd.sizeOf9
  v9 := Tryd.zeroValue9
  t22 := Tryd.underlying42
  a22 := Tryd.isAgg42
  z22 := Tryd.sizeOf42
  v22 := Tryd.zeroValue42
  t25 := Tryd.underlying126
  a25 := Tryd.isAgg126
  z25 := Tryd.sizeOf126
  v25 := Tryd.zeroValue126
  t39 := Tryd.underlying142
  a39 := Tryd.isAgg142
  z39 := Tryd.sizeOf142
  v39 := Tryd.zeroValue142
  t45 := Tryd.underlying156
  a45 := Tryd.isAgg156
  z45 := Tryd.sizeOf156
  v45 := Tryd.zeroValue156
  t46 := Tryd.underlying157
  a46 := Tryd.isAgg157
  z46 := Tryd.sizeOf157
  v46 := Tryd.zeroValue157
  t50 := Tryd.underlying112
  a50 := Tryd.isAgg112
  z50 := Tryd.sizeOf112
  v50 := Tryd.zeroValue112
  t53 := Tryd.underlying163
  a53 := Tryd.isAgg163
  z53 := Tryd.sizeOf163
  v53 := Tryd.zeroValue163
  t55 := Tryd.underlying165
  a55 := Tryd.isAgg165
  z55 := Tryd.sizeOf165
  v55 := Tryd.zeroValue165
  t66 := Tryd.underlying176
  a66 := Tryd.isAgg176
  z66 := Tryd.sizeOf176
  v66 := Tryd.zeroValue176
  t70 := Tryd.underlying180
  a70 := Tryd.isAgg180
  z70 := Tryd.sizeOf180
  v70 := Tryd.zeroValue180
  t76 := Tryd.underlying188
  a76 := Tryd.isAgg188
  z76 := Tryd.sizeOf188
  v76 := Tryd.zeroValue188
  t77 := Tryd.underlying189
  a77 := Tryd.isAgg189
  z77 := Tryd.sizeOf189
  v77 := Tryd.zeroValue189 }
end Go.Proofs
namespace Go.Ab
open Go Go.Proofs Go.Sort
theorem bd_MD : type_of% (And.intro @evNext.eq_1 (And.intro @fld (And.intro @nit (And.intro @nxE (And.intro @ovR (And.intro @evBin_seql (And.intro @evBin_sneq (And.intro @str.eq_1 (And.intro @u8.eq_1 (And.intro @encBrs.eq_1 (And.intro @cBr.eq_1 (And.intro @encLdg.eq_1 (And.intro @encKws.eq_1 (And.intro @cKw.eq_1 (And.intro @encEvss.eq_1 (And.intro @encEvs.eq_1 (And.intro @cEv.eq_1 (And.intro @encMks.eq_1 (And.intro @cMk.eq_1 (And.intro @encStrs.eq_1 (And.intro @encFxs.eq_1 (And.intro @cFx.eq_1 (And.intro @cGp.eq_1 (And.intro @tk2 (And.intro @tk3 (And.intro @List.set_cons_succ.{0} (And.intro @List.getElem?_cons_zero.{0} (And.intro @List.getElem?_cons_succ.{0} (@List.length_set.{0}))))))))))))))))))))))))))))) := And.intro @evNext.eq_1 (And.intro @fld (And.intro @nit (And.intro @nxE (And.intro @ovR (And.intro @evBin_seql (And.intro @evBin_sneq (And.intro @str.eq_1 (And.intro @u8.eq_1 (And.intro @encBrs.eq_1 (And.intro @cBr.eq_1 (And.intro @encLdg.eq_1 (And.intro @encKws.eq_1 (And.intro @cKw.eq_1 (And.intro @encEvss.eq_1 (And.intro @encEvs.eq_1 (And.intro @cEv.eq_1 (And.intro @encMks.eq_1 (And.intro @cMk.eq_1 (And.intro @encStrs.eq_1 (And.intro @encFxs.eq_1 (And.intro @cFx.eq_1 (And.intro @cGp.eq_1 (And.intro @tk2 (And.intro @tk3 (And.intro @List.set_cons_succ.{0} (And.intro @List.getElem?_cons_zero.{0} (And.intro @List.getElem?_cons_succ.{0} (@List.length_set.{0}))))))))))))))))))))))))))))
def orL : List Int → Int
  | [] => 0
  | a :: r => if a ≠ 0 then a else orL r
theorem m_Or (l : List Int) (hl : l.length ≤ 9223372036854775807) : CallSpec cx 68 [encL l] (i64 (orL l)) := by
  refine callSpec_of_vc Tryd.func68 rfl (by decide) (by kernel_rfl) (Nat.le_of_ble_eq_true rfl) ?_
  try simp -dsimp (disch := first | omega | decide +kernel) only [↓bp0, bd0, bd_MD, reduceIte, Nat.reduceEqDiff, evStore, Nat.reduceAdd, Nat.reduceMul, Int.reduceEq, Int.reduceLT, Int.reduceLE, Nat.reduceLeDiff, List.reduceReplicate, reduceCtorEq, evRange, Nat.reduceLT, Tryd.f68]
  refine LoopQ.rule (fun m st => ∃ i : Nat, i ≤ l.length ∧ orL l = orL (l.drop i) ∧ m = l.length - i ∧
    st = ⟨mkE [(3, i64 0), (6, encL l), (7, i64 l.length), (8, i64 i)], mkS [], 0⟩) _ _ (weak_of ?_) ⟨0, by omega, rfl, rfl, rfl⟩ ?_
  · first | (simp -dsimp (disch := first | omega | decide +kernel) only [↓bp0, bd0, bd_MD, reduceIte, Nat.reduceEqDiff, evStore, Nat.reduceAdd, Nat.reduceMul, Int.reduceEq, Int.reduceLT, Int.reduceLE, Nat.reduceLeDiff, List.reduceReplicate, reduceCtorEq, evRange, Nat.reduceLT]; done) | simp -dsimp [evl, putN, i64, u32, bl, encL, encB, encLL]
  rintro m st ⟨i, hi, hE, rfl, rfl⟩
  try simp -dsimp (disch := first | omega | decide +kernel) only [↓bp0, bd0, bd_MD, reduceIte, Nat.reduceEqDiff, evStore, Nat.reduceAdd, Nat.reduceMul, Int.reduceEq, Int.reduceLT, Int.reduceLE, Nat.reduceLeDiff, List.reduceReplicate, reduceCtorEq, evRange, Nat.reduceLT]
  refine onC_nlt (fun h2 => ?_) (fun h2 => ?_)
  · obtain ⟨a, hx, hxm⟩ := get_of_lt h2
    have hdr : l.drop i = a :: l.drop (i + 1) := by rw [List.drop_eq_getElem_cons h2]; congr 1; rw [List.getElem?_eq_getElem h2] at hx; exact Option.some.inj hx
    rw [hdr, orL] at hE
    cases he : decide (a = 0)
    · simp -dsimp (disch := first | omega | decide +kernel) only [↓bp0, bd0, bd_MD, reduceIte, Nat.reduceEqDiff, evStore, Nat.reduceAdd, Nat.reduceMul, Int.reduceEq, Int.reduceLT, Int.reduceLE, Nat.reduceLeDiff, List.reduceReplicate, reduceCtorEq, evRange, Nat.reduceLT, retQ, resL, finL, newL, flat, tupOf, List.toList_toArray, Tryd.f68, hx, he]
      rw [if_pos (of_decide_eq_false he)] at hE
      exact leT_one (int_eq hE.symm) (by simp)
    · rw [if_neg (by rw [Decidable.not_not]; exact of_decide_eq_true he)] at hE
      try simp -dsimp (disch := first | omega | decide +kernel) only [↓bp0, bd0, bd_MD, reduceIte, Nat.reduceEqDiff, evStore, Nat.reduceAdd, Nat.reduceMul, Int.reduceEq, Int.reduceLT, Int.reduceLE, Nat.reduceLeDiff, List.reduceReplicate, reduceCtorEq, evRange, Nat.reduceLT, hx, he]
      refine ⟨_, _, ?_, weak_of ?_, i + 1, h2, hE, rfl, rfl⟩
      · omega
      · first | (simp -dsimp (disch := first | omega | decide +kernel) only [↓bp0, bd0, bd_MD, reduceIte, Nat.reduceEqDiff, evStore, Nat.reduceAdd, Nat.reduceMul, Int.reduceEq, Int.reduceLT, Int.reduceLE, Nat.reduceLeDiff, List.reduceReplicate, reduceCtorEq, evRange, Nat.reduceLT, wrapS h2 hl]; done) | simp -dsimp [evl, putN, i64, u32, bl, encL, encB, encLL, wrapS h2 hl]
  · rw [List.drop_of_length_le (by omega)] at hE
    simp -dsimp (disch := first | omega | decide +kernel) only [↓bp0, bd0, bd_MD, reduceIte, Nat.reduceEqDiff, evStore, Nat.reduceAdd, Nat.reduceMul, Int.reduceEq, Int.reduceLT, Int.reduceLE, Nat.reduceLeDiff, List.reduceReplicate, reduceCtorEq, evRange, Nat.reduceLT, retQ, resL, finL, newL, flat, tupOf, List.toList_toArray, Tryd.f68]
    exact leT_one (int_eq hE.symm) (by simp)
abbrev GA (n : Nat) := Fin 10 × Fin 30 × Fin n
def encG (l : Ldg) (a : GA l.brs.length) : List Value := [.string (l.brs[a.2.2]).name, .int .i64 (a.2.1.val : Int), .int .i64 (a.1.val : Int)]
def cfG {n : Nat} (a b : GA n) : Int := orL [(b.1.val : Int) - a.1.val, (a.2.1.val : Int) - b.2.1.val, (a.2.2.val : Int) - b.2.2.val]
def ltG {n : Nat} (a b : GA n) : Prop := b.1.val < a.1.val ∨ (a.1.val = b.1.val ∧ (a.2.1.val < b.2.1.val ∨ (a.2.1.val = b.2.1.val ∧ a.2.2.val < b.2.2.val)))
theorem cfG_lt {n : Nat} (a b : GA n) : cfG a b < 0 ↔ ltG a b := by
  unfold cfG ltG
  simp only [orL]
  repeat' split
  all_goals omega
theorem ltOf_G {n : Nat} (a b : GA n) : ltOf cfG a b = true ↔ ltG a b := by
  unfold ltOf; rw [decide_eq_true_iff, cfG_lt]
theorem ltOf_Gf {n : Nat} (a b : GA n) : ltOf cfG a b = false ↔ ¬ ltG a b := by rw [← Bool.not_eq_true, ltOf_G]
theorem swoG {n : Nat} : SWO (ltOf (cfG (n := n))) where
  irrefl x := by rw [ltOf_Gf]; unfold ltG; omega
  trans x y z h1 h2 := by rw [ltOf_G] at *; unfold ltG at *; omega
  ntrans x y z h1 h2 := by rw [ltOf_Gf] at *; unfold ltG at *; omega
theorem totG {n : Nat} (x y : GA n) (h1 : ltOf cfG x y = false) (h2 : ltOf cfG y x = false) : x = y := by
  rw [ltOf_Gf] at *
  unfold ltG at *
  obtain ⟨a, b, c⟩ := x
  obtain ⟨a', b', c'⟩ := y
  simp only at h1 h2
  have e1 : a = a' := Fin.ext (by omega)
  have e2 : b = b' := Fin.ext (by omega)
  have e3 : c = c' := Fin.ext (by omega)
  rw [e1, e2, e3]
def srtG {n : Nat} (d : List (GA n)) : List (GA n) := d.mergeSort fun x y => !(ltOf cfG) y x
theorem m_order1 (l : Ldg) (h : LOk l) (x y : GA l.brs.length) : CallSpec cx 67 ([.agg ((encG l x).map .lit), .agg ((encG l y).map .lit)] ++ [.cptr (cLdg l)]) (.lit (.int .i64 (cfG x y))) := by
  have hu : ∀ i : Fin l.brs.length, idx l.brs (l.brs[i]).name = (i.val : Int) := fun i => (tok_fits h.fits).uniq (List.getElem?_eq_getElem i.isLt)
  have hle := h.vok.le8
  obtain ⟨w, c, i⟩ := x
  obtain ⟨w', c', i'⟩ := y
  have hw1 : IntKind.i64.wrap ((w'.val : Int) - w.val) = (w'.val : Int) - w.val := IntWalk.i64_in _ (by omega)
  have hw2 : IntKind.i64.wrap ((c.val : Int) - c'.val) = (c.val : Int) - c'.val := IntWalk.i64_in _ (by omega)
  have hw3 : IntKind.i64.wrap ((i.val : Int) - i'.val) = (i.val : Int) - i'.val := IntWalk.i64_in _ (by omega)
  simp only [encG, List.map_cons, List.map_nil, List.cons_append, List.nil_append]
  refine callSpec_of_vc Tryd.func67 rfl (by decide) (by kernel_rfl) (Nat.le_of_ble_eq_true rfl) ?_
  try simp -dsimp (disch := first | omega | decide +kernel) only [↓bp0, bd0, bd_MD, reduceIte, Nat.reduceEqDiff, evStore, Nat.reduceAdd, Nat.reduceMul, Int.reduceEq, Int.reduceLT, Int.reduceLE, Nat.reduceLeDiff, List.reduceReplicate, reduceCtorEq, evRange, Nat.reduceLT, Tryd.f67, cLdg, List.map_cons, List.map_nil]
  first | refine vc_text (by kernel_rfl) ?_ | skip
  try simp -dsimp (disch := first | omega | decide +kernel) only [↓bp0, bd0, bd_MD, reduceIte, Nat.reduceEqDiff, evStore, Nat.reduceAdd, Nat.reduceMul, Int.reduceEq, Int.reduceLT, Int.reduceLE, Nat.reduceLeDiff, List.reduceReplicate, reduceCtorEq, evRange, Nat.reduceLT, hw1, hw2]
  refine CallY.imm (m_index l _ (by omega)) (by rfl) (by rfl) (by first | exact .inl rfl | exact .inr rfl | exact .inr scalB | exact .inr scalI | exact .inr scalT | exact .inr scalM | exact .inr scalMT) ?_
  try simp -dsimp (disch := first | omega | decide +kernel) only [↓bp0, bd0, bd_MD, reduceIte, Nat.reduceEqDiff, evStore, Nat.reduceAdd, Nat.reduceMul, Int.reduceEq, Int.reduceLT, Int.reduceLE, Nat.reduceLeDiff, List.reduceReplicate, reduceCtorEq, evRange, Nat.reduceLT]
  refine CallY.imm (m_index l _ (by omega)) (by rfl) (by rfl) (by first | exact .inl rfl | exact .inr rfl | exact .inr scalB | exact .inr scalI | exact .inr scalT | exact .inr scalM | exact .inr scalMT) ?_
  try simp -dsimp (disch := first | omega | decide +kernel) only [↓bp0, bd0, bd_MD, reduceIte, Nat.reduceEqDiff, evStore, Nat.reduceAdd, Nat.reduceMul, Int.reduceEq, Int.reduceLT, Int.reduceLE, Nat.reduceLeDiff, List.reduceReplicate, reduceCtorEq, evRange, Nat.reduceLT, hu, hw3]
  refine CallY.imm (m_Or [(w'.val : Int) - w.val, (c.val : Int) - c'.val, (i.val : Int) - i'.val] (by simp)) (by rfl) (by rfl) (by first | exact .inl rfl | exact .inr rfl | exact .inr scalB | exact .inr scalI | exact .inr scalT | exact .inr scalM | exact .inr scalMT) ?_
  simp -dsimp (disch := first | omega | decide +kernel) only [↓bp0, bd0, bd_MD, reduceIte, Nat.reduceEqDiff, evStore, Nat.reduceAdd, Nat.reduceMul, Int.reduceEq, Int.reduceLT, Int.reduceLE, Nat.reduceLeDiff, List.reduceReplicate, reduceCtorEq, evRange, Nat.reduceLT, retQ, resL, finL, newL, flat, tupOf, List.toList_toArray, Tryd.f67]
  exact leT_one .rfl' (by simp)
theorem tisGap : ti cx.P 49 = some ⟨.struct (sfOf 49), 3, 32⟩ := by kernel_rfl
theorem isAggG (w : World) : (isAgg 49).run cx.P w = .ok true w := by rw [run_isAgg tisGap]; rfl
theorem sizeG (w : World) : (sizeOf 49).run cx.P w = .ok 3 w := run_sizeOf tisGap
theorem g_sort (l : Ldg) (h : LOk l) {σ : Store} {nx id ver : Nat} {d : List (GA l.brs.length)} {clip : Bool} {caps : List PV} (hσ : σ id = some (.row ver 3 (rowsOf (encG l) d) false)) (hcap : rdAs (σ.del id) caps = some [.cptr (cLdg l)]) (hsz : d.length < 4611686018427387904) :
    StSpec cx 66 [.own id ver 0 d.length clip, .clo (.func 67) [] caps] σ nx (fun r σ' nx' => r = .tup [] ∧ nx' = nx ∧ σ' = σ.put id (.row ver 3 (rowsOf (encG l) (srtG d)) false)) := by
  haveI : Inhabited (GA l.brs.length) := ⟨(0, 0, ⟨0, h.vok.pos⟩)⟩
  refine sort_st (k := 3) (cf := cfG) (srt := srtG) (fun _ => rfl) (fun x => rfl) ?_ ?_ (by kernel_rfl) (by kernel_rfl) (fun d => List.length_mergeSort d) hσ hcap (m_order1 l h) hsz
  · intro cb blk off cap d w eg hcmp hH hblk hsz
    exact AnyQ.slices_SortFunc_total gapSort 3 isAggG sizeG (encG l) (fun _ => rfl) (fun x v hv => by simp [encG] at hv; rcases hv with rfl | rfl | rfl <;> rfl) cfG swoG 67 cb blk off cap d w eg hcmp hH hblk hsz totG
  · intro p cap fv w
    exact AnyF.slices_SortFunc_none gapSort p cap fv w
end Go.Ab
