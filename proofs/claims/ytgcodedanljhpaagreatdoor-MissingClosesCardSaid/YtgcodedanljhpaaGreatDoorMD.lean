/- Gaps in order. -/
import Derived.Test.YtgcodedanljhpaaGreatDoorMC
import Derived.Test.YtgcodedanljhpaaGreatDoorAcSort
import Derived.Ground.SlsfProg
set_option linter.unusedSimpArgs false
set_option linter.unusedVariables false
set_option maxRecDepth 1000000
set_option maxHeartbeats 8000000
namespace Go.Proofs
open Go.Shelf Go.RowKit Go.Lib Go.Sort
def gapSort_ren : Go.Shelf.Ren := ⟨fun | 6 => 115 | 15 => 136 | 14 => 150 | 28 => 162 | 29 => 163 | 20 => 171 | 21 => 172 | 22 => 173 | 23 => 174 | 24 => 175 | 25 => 176 | 26 => 177 | 27 => 178 | 46 => 188 | 47 => 184 | 48 => 185 | 49 => 189 | 50 => 190 | 57 => 196 | n => n, fun | 22 => 29 | 24 => 47 | 25 => 186 | 3 => 3 | 39 => 203 | 0 => 0 | 53 => 227 | 55 => 229 | 4 => 4 | 46 => 221 | 45 => 220 | 50 => 141 | 5 => 5 | 9 => 9 | 66 => 244 | 70 => 248 | 76 => 256 | 77 => 257 | n => n, fun | n => n⟩
theorem gapSort : Go.Proofs.SlLaysF0.n6 Tryz.prog gapSort_ren := {
  mixed := by kernel_rfl
  f6 := ⟨Tryz.f115.name, by decide, Tryz.func115.trans (congrArg some (by kernel_rfl))⟩
  f14 := ⟨Tryz.f150.name, by decide, Tryz.func150.trans (congrArg some (by kernel_rfl))⟩
  f15 := Tryz.func136.trans (congrArg some (by kernel_rfl))
  f20 := ⟨Tryz.f171.name, by decide, Tryz.func171.trans (congrArg some (by kernel_rfl))⟩
  f21 := ⟨Tryz.f172.name, by decide, Tryz.func172.trans (congrArg some (by kernel_rfl))⟩
  f22 := ⟨Tryz.f173.name, by decide, Tryz.func173.trans (congrArg some (by kernel_rfl))⟩
  f23 := ⟨Tryz.f174.name, by decide, Tryz.func174.trans (congrArg some (by kernel_rfl))⟩
  f24 := ⟨Tryz.f175.name, by decide, Tryz.func175.trans (congrArg some (by kernel_rfl))⟩
  f25 := ⟨Tryz.f176.name, by decide, Tryz.func176.trans (congrArg some (by kernel_rfl))⟩
  f26 := ⟨Tryz.f177.name, by decide, Tryz.func177.trans (congrArg some (by kernel_rfl))⟩
  f27 := ⟨Tryz.f178.name, by decide, Tryz.func178.trans (congrArg some (by kernel_rfl))⟩
  f28 := Tryz.func162.trans (congrArg some (by kernel_rfl))
  f29 := Tryz.func163.trans (congrArg some (by kernel_rfl))
  f46 := ⟨Tryz.f188.name, by decide, Tryz.func188.trans (congrArg some (by kernel_rfl))⟩
  f47 := Tryz.func184.trans (congrArg some (by kernel_rfl))
  f48 := Tryz.func185.trans (congrArg some (by kernel_rfl))
  f49 := ⟨Tryz.f189.name, by decide, Tryz.func189.trans (congrArg some (by kernel_rfl))⟩
  f50 := ⟨Tryz.f190.name, by decide, Tryz.func190.trans (congrArg some (by kernel_rfl))⟩
  f57 := ⟨Tryz.f196.name, by decide, Tryz.func196.trans (congrArg some (by kernel_rfl))⟩
  t0 := Tryz.underlying0
  a0 := Tryz.isAgg0
  z0 := Tryz.sizeOf0
  v0 := Tryz.zeroValue0
  t3 := Tryz.underlying3
  a3 := Tryz.isAgg3
  z3 := Tryz.sizeOf3
  v3 := Tryz.zeroValue3
  t4 := Tryz.underlying4
  a4 := Tryz.isAgg4
  z4 := Tryz.sizeOf4
  v4 := Tryz.zeroValue4
  t5 := Tryz.underlying5
  a5 := Tryz.isAgg5
  z5 := Tryz.sizeOf5
  v5 := Tryz.zeroValue5
  t9 := Tryz.underlying9
  a9 := Tryz.isAgg9
  z9 := Tryz.sizeOf9
  v9 := Tryz.zeroValue9
  t22 := Tryz.underlying29
  a22 := Tryz.isAgg29
  z22 := Tryz.sizeOf29
  v22 := Tryz.zeroValue29
  t25 := Tryz.underlying186
  a25 := Tryz.isAgg186
  z25 := Tryz.sizeOf186
  v25 := Tryz.zeroValue186
  t39 := Tryz.underlying203
  a39 := Tryz.isAgg203
  z39 := Tryz.sizeOf203
  v39 := Tryz.zeroValue203
  t45 := Tryz.underlying220
  a45 := Tryz.isAgg220
  z45 := Tryz.sizeOf220
  v45 := Tryz.zeroValue220
  t46 := Tryz.underlying221
  a46 := Tryz.isAgg221
  z46 := Tryz.sizeOf221
  v46 := Tryz.zeroValue221
  t50 := Tryz.underlying141
  a50 := Tryz.isAgg141
  z50 := Tryz.sizeOf141
  v50 := Tryz.zeroValue141
  t53 := Tryz.underlying227
  a53 := Tryz.isAgg227
  z53 := Tryz.sizeOf227
  v53 := Tryz.zeroValue227
  t55 := Tryz.underlying229
  a55 := Tryz.isAgg229
  z55 := Tryz.sizeOf229
  v55 := Tryz.zeroValue229
  t66 := Tryz.underlying244
  a66 := Tryz.isAgg244
  z66 := Tryz.sizeOf244
  v66 := Tryz.zeroValue244
  t70 := Tryz.underlying248
  a70 := Tryz.isAgg248
  z70 := Tryz.sizeOf248
  v70 := Tryz.zeroValue248
  t76 := Tryz.underlying256
  a76 := Tryz.isAgg256
  z76 := Tryz.sizeOf256
  v76 := Tryz.zeroValue256
  t77 := Tryz.underlying257
  a77 := Tryz.isAgg257
  z77 := Tryz.sizeOf257
  v77 := Tryz.zeroValue257 }
end Go.Proofs
namespace Go.Ab
open Go Go.Proofs Go.Sort
theorem bd_MD : type_of% (And.intro @evNext.eq_1 (And.intro @fld (And.intro @nit (And.intro @nxE (And.intro @ovR (And.intro @evBin_seql (And.intro @evBin_sneq (And.intro @str.eq_1 (And.intro @u8.eq_1 (And.intro @encBrs.eq_1 (And.intro @cBr.eq_1 (And.intro @encLdg.eq_1 (And.intro @encKws.eq_1 (And.intro @cKw.eq_1 (And.intro @encEvss.eq_1 (And.intro @encEvs.eq_1 (And.intro @cEv.eq_1 (And.intro @encMks.eq_1 (And.intro @cMk.eq_1 (And.intro @encStrs.eq_1 (And.intro @encFxs.eq_1 (And.intro @cFx.eq_1 (And.intro @cGp.eq_1 (And.intro @tk2 (And.intro @tk3 (And.intro @List.set_cons_succ.{0} (And.intro @List.getElem?_cons_zero.{0} (And.intro @List.getElem?_cons_succ.{0} (@List.length_set.{0}))))))))))))))))))))))))))))) := And.intro @evNext.eq_1 (And.intro @fld (And.intro @nit (And.intro @nxE (And.intro @ovR (And.intro @evBin_seql (And.intro @evBin_sneq (And.intro @str.eq_1 (And.intro @u8.eq_1 (And.intro @encBrs.eq_1 (And.intro @cBr.eq_1 (And.intro @encLdg.eq_1 (And.intro @encKws.eq_1 (And.intro @cKw.eq_1 (And.intro @encEvss.eq_1 (And.intro @encEvs.eq_1 (And.intro @cEv.eq_1 (And.intro @encMks.eq_1 (And.intro @cMk.eq_1 (And.intro @encStrs.eq_1 (And.intro @encFxs.eq_1 (And.intro @cFx.eq_1 (And.intro @cGp.eq_1 (And.intro @tk2 (And.intro @tk3 (And.intro @List.set_cons_succ.{0} (And.intro @List.getElem?_cons_zero.{0} (And.intro @List.getElem?_cons_succ.{0} (@List.length_set.{0}))))))))))))))))))))))))))))
def orL : List Int → Int
  | [] => 0
  | a :: r => if a ≠ 0 then a else orL r
theorem m_Or (l : List Int) (hl : l.length ≤ 9223372036854775807) : CallSpec cx 117 [encL l] (i64 (orL l)) := by
  refine callSpec_of_vc Tryz.func117 rfl (by decide) (by kernel_rfl) (Nat.le_of_ble_eq_true rfl) ?_
  try simp -dsimp (disch := first | omega | decide +kernel) only [↓bp0, bd0, bd_MD, reduceIte, Nat.reduceEqDiff, evStore, Nat.reduceAdd, Nat.reduceMul, Int.reduceEq, Int.reduceLT, Int.reduceLE, Nat.reduceLeDiff, List.reduceReplicate, reduceCtorEq, evRange, Nat.reduceLT, Tryz.f117]
  refine LoopQ.rule (fun m st => ∃ i : Nat, i ≤ l.length ∧ orL l = orL (l.drop i) ∧ m = l.length - i ∧
    st = ⟨mkE [(3, i64 0), (6, encL l), (7, i64 l.length), (8, i64 i)], mkS [], 0⟩) _ _ (weak_of ?_) ⟨0, by omega, rfl, rfl, rfl⟩ ?_
  · first | (simp -dsimp (disch := first | omega | decide +kernel) only [↓bp0, bd0, bd_MD, reduceIte, Nat.reduceEqDiff, evStore, Nat.reduceAdd, Nat.reduceMul, Int.reduceEq, Int.reduceLT, Int.reduceLE, Nat.reduceLeDiff, List.reduceReplicate, reduceCtorEq, evRange, Nat.reduceLT]; done) | simp -dsimp [evl, putN, i64, u32, bl, encL, encB, encLL]
  rintro m st ⟨i, hi, hE, rfl, rfl⟩
  try simp -dsimp (disch := first | omega | decide +kernel) only [↓bp0, bd0, bd_MD, reduceIte, Nat.reduceEqDiff, evStore, Nat.reduceAdd, Nat.reduceMul, Int.reduceEq, Int.reduceLT, Int.reduceLE, Nat.reduceLeDiff, List.reduceReplicate, reduceCtorEq, evRange, Nat.reduceLT]
  refine onC_nlt (fun h2 => ?_) (fun h2 => ?_)
  · obtain ⟨a, hx, hxm⟩ := get_of_lt h2
    have hdr : l.drop i = a :: l.drop (i + 1) := by rw [List.drop_eq_getElem_cons h2]; congr 1; rw [List.getElem?_eq_getElem h2] at hx; exact Option.some.inj hx
    rw [hdr, orL] at hE
    cases he : decide (a = 0)
    · simp -dsimp (disch := first | omega | decide +kernel) only [↓bp0, bd0, bd_MD, reduceIte, Nat.reduceEqDiff, evStore, Nat.reduceAdd, Nat.reduceMul, Int.reduceEq, Int.reduceLT, Int.reduceLE, Nat.reduceLeDiff, List.reduceReplicate, reduceCtorEq, evRange, Nat.reduceLT, retQ, resL, finL, newL, flat, tupOf, List.toList_toArray, Tryz.f117, hx, he]
      rw [if_pos (of_decide_eq_false he)] at hE
      exact leT_one (int_eq hE.symm) (by simp)
    · rw [if_neg (by rw [Decidable.not_not]; exact of_decide_eq_true he)] at hE
      try simp -dsimp (disch := first | omega | decide +kernel) only [↓bp0, bd0, bd_MD, reduceIte, Nat.reduceEqDiff, evStore, Nat.reduceAdd, Nat.reduceMul, Int.reduceEq, Int.reduceLT, Int.reduceLE, Nat.reduceLeDiff, List.reduceReplicate, reduceCtorEq, evRange, Nat.reduceLT, hx, he]
      refine ⟨_, _, ?_, weak_of ?_, i + 1, h2, hE, rfl, rfl⟩
      · omega
      · first | (simp -dsimp (disch := first | omega | decide +kernel) only [↓bp0, bd0, bd_MD, reduceIte, Nat.reduceEqDiff, evStore, Nat.reduceAdd, Nat.reduceMul, Int.reduceEq, Int.reduceLT, Int.reduceLE, Nat.reduceLeDiff, List.reduceReplicate, reduceCtorEq, evRange, Nat.reduceLT, wrapS h2 hl]; done) | simp -dsimp [evl, putN, i64, u32, bl, encL, encB, encLL, wrapS h2 hl]
  · rw [List.drop_of_length_le (by omega)] at hE
    simp -dsimp (disch := first | omega | decide +kernel) only [↓bp0, bd0, bd_MD, reduceIte, Nat.reduceEqDiff, evStore, Nat.reduceAdd, Nat.reduceMul, Int.reduceEq, Int.reduceLT, Int.reduceLE, Nat.reduceLeDiff, List.reduceReplicate, reduceCtorEq, evRange, Nat.reduceLT, retQ, resL, finL, newL, flat, tupOf, List.toList_toArray, Tryz.f117]
    exact leT_one (int_eq hE.symm) (by simp)
abbrev GA (n : Nat) := Fin 10 × Fin 30 × Fin n
def encG (l : Ldg) (a : GA l.brs.length) : List Value := [.string (l.brs[a.2.2]).name, .int .i64 (a.2.1.val : Int), .int .i64 (a.1.val : Int)]
def cfG {n : Nat} (a b : GA n) : Int := orL [(b.1.val : Int) - a.1.val, (a.2.1.val : Int) - b.2.1.val, (a.2.2.val : Int) - b.2.2.val]
def ltG {n : Nat} (a b : GA n) : Prop := b.1.val < a.1.val ∨ (a.1.val = b.1.val ∧ (a.2.1.val < b.2.1.val ∨ (a.2.1.val = b.2.1.val ∧ a.2.2.val < b.2.2.val)))
theorem cfG_lt {n : Nat} (a b : GA n) : cfG a b < 0 ↔ ltG a b := by
  unfold cfG ltG
  simp only [orL]
  repeat' split
  all_goals omega
theorem ltOf_G {n : Nat} (a b : GA n) : ltOf cfG a b = true ↔ ltG a b := by
  unfold ltOf; rw [decide_eq_true_iff, cfG_lt]
theorem ltOf_Gf {n : Nat} (a b : GA n) : ltOf cfG a b = false ↔ ¬ ltG a b := by rw [← Bool.not_eq_true, ltOf_G]
theorem swoG {n : Nat} : SWO (ltOf (cfG (n := n))) where
  irrefl x := by rw [ltOf_Gf]; unfold ltG; omega
  trans x y z h1 h2 := by rw [ltOf_G] at *; unfold ltG at *; omega
  ntrans x y z h1 h2 := by rw [ltOf_Gf] at *; unfold ltG at *; omega
theorem totG {n : Nat} (x y : GA n) (h1 : ltOf cfG x y = false) (h2 : ltOf cfG y x = false) : x = y := by
  rw [ltOf_Gf] at *
  unfold ltG at *
  obtain ⟨a, b, c⟩ := x
  obtain ⟨a', b', c'⟩ := y
  simp only at h1 h2
  have e1 : a = a' := Fin.ext (by omega)
  have e2 : b = b' := Fin.ext (by omega)
  have e3 : c = c' := Fin.ext (by omega)
  rw [e1, e2, e3]
def srtG {n : Nat} (d : List (GA n)) : List (GA n) := d.mergeSort fun x y => !(ltOf cfG) y x
theorem m_order1 (l : Ldg) (h : LOk l) (x y : GA l.brs.length) : CallSpec cx 116 ([.agg ((encG l x).map .lit), .agg ((encG l y).map .lit)] ++ [.cptr (cLdg l)]) (.lit (.int .i64 (cfG x y))) := by
  have hu : ∀ i : Fin l.brs.length, idx l.brs (l.brs[i]).name = (i.val : Int) := fun i => (tok_fits h.fits).uniq (List.getElem?_eq_getElem i.isLt)
  have hle := h.vok.le8
  obtain ⟨w, c, i⟩ := x
  obtain ⟨w', c', i'⟩ := y
  have hw1 : IntKind.i64.wrap ((w'.val : Int) - w.val) = (w'.val : Int) - w.val := IntWalk.i64_in _ (by omega)
  have hw2 : IntKind.i64.wrap ((c.val : Int) - c'.val) = (c.val : Int) - c'.val := IntWalk.i64_in _ (by omega)
  have hw3 : IntKind.i64.wrap ((i.val : Int) - i'.val) = (i.val : Int) - i'.val := IntWalk.i64_in _ (by omega)
  simp only [encG, List.map_cons, List.map_nil, List.cons_append, List.nil_append]
  refine callSpec_of_vc Tryz.func116 rfl (by decide) (by kernel_rfl) (Nat.le_of_ble_eq_true rfl) ?_
  try simp -dsimp (disch := first | omega | decide +kernel) only [↓bp0, bd0, bd_MD, reduceIte, Nat.reduceEqDiff, evStore, Nat.reduceAdd, Nat.reduceMul, Int.reduceEq, Int.reduceLT, Int.reduceLE, Nat.reduceLeDiff, List.reduceReplicate, reduceCtorEq, evRange, Nat.reduceLT, Tryz.f116, cLdg, List.map_cons, List.map_nil]
  first | refine vc_text (by kernel_rfl) ?_ | skip
  try simp -dsimp (disch := first | omega | decide +kernel) only [↓bp0, bd0, bd_MD, reduceIte, Nat.reduceEqDiff, evStore, Nat.reduceAdd, Nat.reduceMul, Int.reduceEq, Int.reduceLT, Int.reduceLE, Nat.reduceLeDiff, List.reduceReplicate, reduceCtorEq, evRange, Nat.reduceLT, hw1, hw2]
  refine CallY.imm (m_index l _ (by omega)) (by rfl) (by rfl) (by first | exact .inl rfl | exact .inr rfl | exact .inr scalB | exact .inr scalI | exact .inr scalT | exact .inr scalM | exact .inr scalMT) ?_
  try simp -dsimp (disch := first | omega | decide +kernel) only [↓bp0, bd0, bd_MD, reduceIte, Nat.reduceEqDiff, evStore, Nat.reduceAdd, Nat.reduceMul, Int.reduceEq, Int.reduceLT, Int.reduceLE, Nat.reduceLeDiff, List.reduceReplicate, reduceCtorEq, evRange, Nat.reduceLT]
  refine CallY.imm (m_index l _ (by omega)) (by rfl) (by rfl) (by first | exact .inl rfl | exact .inr rfl | exact .inr scalB | exact .inr scalI | exact .inr scalT | exact .inr scalM | exact .inr scalMT) ?_
  try simp -dsimp (disch := first | omega | decide +kernel) only [↓bp0, bd0, bd_MD, reduceIte, Nat.reduceEqDiff, evStore, Nat.reduceAdd, Nat.reduceMul, Int.reduceEq, Int.reduceLT, Int.reduceLE, Nat.reduceLeDiff, List.reduceReplicate, reduceCtorEq, evRange, Nat.reduceLT, hu, hw3]
  refine CallY.imm (m_Or [(w'.val : Int) - w.val, (c.val : Int) - c'.val, (i.val : Int) - i'.val] (by simp)) (by rfl) (by rfl) (by first | exact .inl rfl | exact .inr rfl | exact .inr scalB | exact .inr scalI | exact .inr scalT | exact .inr scalM | exact .inr scalMT) ?_
  simp -dsimp (disch := first | omega | decide +kernel) only [↓bp0, bd0, bd_MD, reduceIte, Nat.reduceEqDiff, evStore, Nat.reduceAdd, Nat.reduceMul, Int.reduceEq, Int.reduceLT, Int.reduceLE, Nat.reduceLeDiff, List.reduceReplicate, reduceCtorEq, evRange, Nat.reduceLT, retQ, resL, finL, newL, flat, tupOf, List.toList_toArray, Tryz.f116]
  exact leT_one .rfl' (by simp)
theorem tisGap : ti cx.P 47 = some ⟨.struct (sfOf 47), 3, 32⟩ := by kernel_rfl
theorem isAggG (w : World) : (isAgg 47).run cx.P w = .ok true w := by rw [run_isAgg tisGap]; rfl
theorem sizeG (w : World) : (sizeOf 47).run cx.P w = .ok 3 w := run_sizeOf tisGap
theorem g_sort (l : Ldg) (h : LOk l) {σ : Store} {nx id ver : Nat} {d : List (GA l.brs.length)} {clip : Bool} {caps : List PV} (hσ : σ id = some (.row ver 3 (rowsOf (encG l) d) false)) (hcap : rdAs (σ.del id) caps = some [.cptr (cLdg l)]) (hsz : d.length < 4611686018427387904) :
    StSpec cx 115 [.own id ver 0 d.length clip, .clo (.func 116) [] caps] σ nx (fun r σ' nx' => r = .tup [] ∧ nx' = nx ∧ σ' = σ.put id (.row ver 3 (rowsOf (encG l) (srtG d)) false)) := by
  haveI : Inhabited (GA l.brs.length) := ⟨(0, 0, ⟨0, h.vok.pos⟩)⟩
  refine sort_st (k := 3) (cf := cfG) (srt := srtG) (fun _ => rfl) (fun x => rfl) ?_ ?_ (by kernel_rfl) (by kernel_rfl) (fun d => List.length_mergeSort d) hσ hcap (m_order1 l h) hsz
  · intro cb blk off cap d w eg hcmp hH hblk hsz
    exact AnyQ.slices_SortFunc_total gapSort 3 isAggG sizeG (encG l) (fun _ => rfl) (fun x v hv => by simp [encG] at hv; rcases hv with rfl | rfl | rfl <;> rfl) cfG swoG 116 cb blk off cap d w eg hcmp hH hblk hsz totG
  · intro p cap fv w
    exact AnyF.slices_SortFunc_none gapSort p cap fv w
end Go.Ab
