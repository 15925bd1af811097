/- MissingTells. -/
import Derived.Test.YtgcodedanljhpaaGreatDoorNF
import Derived.Test.YtgcodedanljhpaaGreatDoorAcAgg
set_option linter.unusedSimpArgs false
set_option linter.unusedVariables false
section
set_option maxRecDepth 1000000
set_option maxHeartbeats 8000000
namespace Go.Ab
open Go Go.Proofs Go.Sort
theorem any_false {α : Type} {l : List α} {p : α → Bool} (h : l.any p = false) : ∀ a ∈ l, p a = false := fun a ha => by
  have := List.any_eq_false.1 h a ha; simpa using this
theorem big_no {s : Str} (h : big s = false) : s.size ≤ 100 := by
  have := of_decide_eq_false h; omega
theorem grt26_no {l : List Br} (h : grt26 l = false) : l.length ≤ 20 ∧ ∀ b ∈ l, b.name.size ≤ 100 := by
  rw [grt26, Bool.or_eq_false_iff] at h
  refine ⟨by have := of_decide_eq_false h.2; omega, fun b hb => ?_⟩
  have := any_false h.1 b hb
  rw [Bool.or_eq_false_iff] at this
  exact big_no this.1
theorem grt29_no {l : Ldg} (h : grt29 l = false) : LSz l ∧ LNm l := by
  unfold grt29 at h
  simp only [Bool.or_eq_false_iff] at h
  obtain ⟨⟨⟨⟨h1, h2⟩, h3⟩, h4⟩, h5⟩ := h
  have h6 := grt26_no h4
  have h3' := of_decide_eq_false h3
  have h5' := of_decide_eq_false h5
  refine ⟨⟨by omega, by omega, by omega, fun s hs => ?_⟩, ⟨fun b hb => by have := h6.2 b hb; omega, fun k hk => by have := big_no (any_false h1 k hk); omega⟩⟩
  have := any_false h2 s hs
  unfold grtE at this
  simp only [Bool.or_eq_false_iff] at this
  have := of_decide_eq_false this.1.2
  omega
theorem grt34_no {l : Ldg} {x : List Fx} (h : grt34 l x = false) : LSz l ∧ LNm l ∧ x.length ≤ 2^40 ∧ ∀ f ∈ x, f.brs.length ≤ 2^40 := by
  unfold grt34 at h
  simp only [Bool.or_eq_false_iff] at h
  obtain ⟨⟨⟨h1, h2⟩, h3⟩, h4⟩ := h
  have h5 := grt29_no h2
  refine ⟨h5.1, h5.2, by have := of_decide_eq_false h4; omega, fun f hf => ?_⟩
  have := any_false h1 f hf
  unfold grtF at this
  simp only [Bool.or_eq_false_iff] at this
  have := of_decide_eq_false this.1
  omega
end Go.Ab
end

section
/- The chapter's example. -/
set_option maxRecDepth 1000000
set_option maxHeartbeats 8000000
namespace Go.Ab
open Go Go.Proofs Go.Sort
theorem bd_NH : type_of% (And.intro @evNext.eq_1 (And.intro @fld (And.intro @nit (And.intro @nxE (And.intro @ghR (And.intro @ovR (And.intro @evBin_seql (And.intro @evBin_sneq (And.intro @str.eq_1 (And.intro @u8.eq_1 (And.intro @encBrs.eq_1 (And.intro @cBr.eq_1 (And.intro @encLdg.eq_1 (And.intro @encKws.eq_1 (And.intro @cKw.eq_1 (And.intro @encEvss.eq_1 (And.intro @encEvs.eq_1 (And.intro @cEv.eq_1 (And.intro @encMks.eq_1 (And.intro @cMk.eq_1 (And.intro @encStrs.eq_1 (And.intro @encFxs.eq_1 (And.intro @cFx.eq_1 (And.intro @cGp.eq_1 (And.intro @tk2 (And.intro @tk3 (And.intro @List.set_cons_succ.{0} (And.intro @List.getElem?_cons_zero.{0} (And.intro @List.getElem?_cons_succ.{0} (@List.length_set.{0})))))))))))))))))))))))))))))) := And.intro @evNext.eq_1 (And.intro @fld (And.intro @nit (And.intro @nxE (And.intro @ghR (And.intro @ovR (And.intro @evBin_seql (And.intro @evBin_sneq (And.intro @str.eq_1 (And.intro @u8.eq_1 (And.intro @encBrs.eq_1 (And.intro @cBr.eq_1 (And.intro @encLdg.eq_1 (And.intro @encKws.eq_1 (And.intro @cKw.eq_1 (And.intro @encEvss.eq_1 (And.intro @encEvs.eq_1 (And.intro @cEv.eq_1 (And.intro @encMks.eq_1 (And.intro @cMk.eq_1 (And.intro @encStrs.eq_1 (And.intro @encFxs.eq_1 (And.intro @cFx.eq_1 (And.intro @cGp.eq_1 (And.intro @tk2 (And.intro @tk3 (And.intro @List.set_cons_succ.{0} (And.intro @List.getElem?_cons_zero.{0} (And.intro @List.getElem?_cons_succ.{0} (@List.length_set.{0})))))))))))))))))))))))))))))
def sMain : Str := ⟨#[109, 97, 105, 110]⟩
def sR1 : Str := ⟨#[114, 49]⟩
def exL : Ldg := ⟨[⟨⟨#[97]⟩, 3⟩], [⟨sMain, ⟨#[]⟩, 0⟩, ⟨sR1, sMain, 0⟩], [[⟨1, ⟨#[97]⟩⟩], []]⟩
def exX : List Fx := [⟨3, 5, [sMain, sR1]⟩, ⟨1, 9, [sR1]⟩]
def exG : List Gp := [⟨sR1, 1, 9⟩, ⟨sR1, 3, 5⟩]
theorem gapL_ref {l : Ldg} {x : List Fx} (h : mchk l x = 0) : gapL l x = refG l x := by rw [gapL, srt_ref h, refA_toG]
theorem ex_chk : mchk exL exX = 0 := by decide +kernel
theorem ex_ref : refG exL exX = exG := by kernel_rfl
theorem ex_gap : gapL exL exX = exG := by rw [gapL_ref ex_chk, ex_ref]
theorem ex_text : mlines exG = ⟨#[57, 32, 49, 32, 114, 49, 10, 53, 32, 51, 32, 114, 49, 10]⟩ := by decide +kernel
theorem ex_wst : wst exG exL.brs = sR1 := by decide +kernel
theorem ex_scr : scr exG sR1 = 14 := by decide +kernel
theorem ex_sz : LSz exL := ⟨by decide, by decide, by decide, by intro s hs; simp only [exL, List.mem_cons, List.not_mem_nil, or_false] at hs; rcases hs with rfl | rfl <;> decide⟩
theorem ex_fx : ∀ f ∈ exX, f.brs.length ≤ 2^40 := by intro s hs; simp only [exX, List.mem_cons, List.not_mem_nil, or_false] at hs; rcases hs with rfl | rfl <;> decide
theorem bldFx : ∀ a b i v o n c, evBuild cx 65 [(0, .lit a), (1, .lit b), (2, .own i v o n c)] = some (.agg [.lit a, .lit b, .own i v o n c]) := fun _ _ _ _ _ _ _ => by kernel_rfl
theorem bldKw : ∀ a b, evBuild cx 138 [(0, .lit a), (1, .lit b)] = some (.agg [.lit a, .lit b]) := fun _ _ => by kernel_rfl
theorem bldEv : ∀ a b, evBuild cx 61 [(0, .lit a), (1, .lit b)] = some (.agg [.lit a, .lit b]) := fun _ _ => by kernel_rfl
theorem bldBr1 : ∀ a, evBuild cx 51 [(0, .lit a)] = some (.agg [.lit a, .lit (.string ⟨#[]⟩), .lit (.int .i64 0)]) := fun _ => by kernel_rfl
theorem bldBr2 : ∀ a b, evBuild cx 51 [(0, .lit a), (1, .lit b)] = some (.agg [.lit a, .lit b, .lit (.int .i64 0)]) := fun _ _ => by kernel_rfl
theorem bldLdg : ∀ i v o n c i' v' o' n' c' i2 v2 o2 n2 c2, evBuild cx 26 [(0, .own i v o n c), (1, .own i' v' o' n' c'), (2, .own i2 v2 o2 n2 c2)] = some (.agg [.own i v o n c, .own i' v' o' n' c', .own i2 v2 o2 n2 c2]) := fun _ _ _ _ _ _ _ _ _ _ _ _ _ _ _ => by kernel_rfl
theorem e_fixes : CallSpec cx 67 [] (encFxs exX) := by
  refine callSpec_of_vc Tryz.func67 rfl (by decide) (by kernel_rfl) (Nat.le_of_ble_eq_true rfl) ?_
  simp -dsimp (disch := first | omega | decide +kernel) only [↓bp0, bd0, bd_NH, reduceIte, Nat.reduceEqDiff, evStore, Nat.reduceAdd, Nat.reduceMul, Int.reduceEq, Int.reduceLT, Int.reduceLE, Nat.reduceLeDiff, List.reduceReplicate, reduceCtorEq, evRange, Nat.reduceLT, retQ, resL, finL, newL, flat, tupOf, List.toList_toArray, Tryz.f67, PV.cellsP, Bool.and_false, drcs, drc, dr1, dr1s, drRows, bldFx]
  exact leT_one (le1.rfl' (p := encFxs exX)) (fun _ h => by cases h)
theorem leNil (x : PV) : leD (.imm [[x], [.lit (.slice none 0 0)]] false) (.imm [[x], [.imm [] false]] false) := by
  simp only [leD, leDR, leDs]
  exact ⟨_, _, rfl, .inl rfl, _, _, rfl, ⟨_, _, rfl, leD_refl x, rfl⟩, _, _, rfl, ⟨_, _, rfl, .inr ⟨trivial, rfl⟩, rfl⟩, rfl⟩
theorem leTwo (a b : PV) {c d : PV} (h : leD c d) : leDs [a, b, c] [a, b, d] := by
  simp only [leDs]
  exact ⟨_, _, rfl, leD_refl a, _, _, rfl, leD_refl b, _, _, rfl, h, rfl⟩
theorem e_example : CallSpec cx 66 [] (encLdg exL) := by
  refine CallSpec.deepAgg (ps := [encKws exL.known, encBrs exL.brs, .imm [[encEvs [⟨1, ⟨#[97]⟩⟩]], [.lit (.slice none 0 0)]] false]) ?_ (leTwo _ _ (leNil _))
  refine callSpec_of_vc Tryz.func66 rfl (by decide) (by kernel_rfl) (Nat.le_of_ble_eq_true rfl) ?_
  simp -dsimp (disch := first | omega | decide +kernel) only [↓bp0, bd0, bd_NH, reduceIte, Nat.reduceEqDiff, evStore, Nat.reduceAdd, Nat.reduceMul, Int.reduceEq, Int.reduceLT, Int.reduceLE, Nat.reduceLeDiff, List.reduceReplicate, reduceCtorEq, evRange, Nat.reduceLT, retQ, resL, finL, newL, flat, tupOf, List.toList_toArray, Tryz.f66, PV.cellsP, Bool.and_false, drcs, drc, dr1, dr1s, drRows, bldKw, bldBr1, bldBr2, bldEv, bldLdg]
  exact leT_one (.inl (.inl rfl)) (fun _ h => by cases h)
theorem l_alive : CallSpec cx 18 [] (bl true) := by
  have h0 := ex_chk
  have hgr : gapR exL exX = exG := by rw [gapR, if_neg (by rw [Decidable.not_not]; exact h0), ex_gap]
  have htx : mtext exL exX = (⟨#[57, 32, 49, 32, 114, 49, 10, 53, 32, 51, 32, 114, 49, 10]⟩, 0) := by rw [mtext, if_neg (by rw [Decidable.not_not]; exact h0), ex_gap, ex_text]
  have hwo : mworst exL exX = (sR1, 14, 0) := by rw [mworst, if_neg (by rw [Decidable.not_not]; exact h0), if_neg (by rw [ex_gap]; decide), ex_gap, ex_wst, ex_scr]
  have c1 := m_Gaps exL exX ex_sz (by decide) ex_fx
  have c2 := m_Text exL exX ex_sz (by decide) ex_fx
  have c3 := m_Worst exL exX ex_sz (by decide) ex_fx
  have c4 := r_Same exG (by decide)
  rw [hgr, h0] at c1
  rw [htx] at c2
  rw [hwo] at c3
  simp only at c2 c3
  have hs1 : decide (sR1 = (⟨#[114, 49]⟩ : Str)) = true := by decide +kernel
  refine callSpec_of_vc Tryz.func18 rfl (by decide) (by kernel_rfl) (Nat.le_of_ble_eq_true rfl) ?_
  try simp -dsimp (maxSteps := 9^9) (disch := first | omega | decide +kernel) only [↓bp0, bd0, bd_NH, reduceIte, Nat.reduceEqDiff, evStore, Nat.reduceAdd, Nat.reduceMul, Int.reduceEq, Int.reduceLT, Int.reduceLE, Nat.reduceLeDiff, List.reduceReplicate, reduceCtorEq, evRange, Nat.reduceLT, Tryz.f18]
  refine CallQ.imm (e_example) (by rfl) (by first | rfl | (simp -dsimp (maxSteps := 9^9) (disch := first | omega | decide +kernel) only [↓bp0, bd0, bd_NH, reduceIte, Nat.reduceEqDiff, evStore, Nat.reduceAdd, Nat.reduceMul, Int.reduceEq, Int.reduceLT, Int.reduceLE, Nat.reduceLeDiff, List.reduceReplicate, reduceCtorEq, evRange, Nat.reduceLT, drcs, drc, flat]; done) | simp -dsimp [evl, drcs, drc, flat, i64, u32, bl, encL, encB, encLL]) (by first | exact .inl rfl | exact .inr rfl | exact .inr scalB | exact .inr scalI | exact .inr scalT | exact .inr scalM | exact .inr scalMT | exact .inr scalGT) ?_
  try simp -dsimp (maxSteps := 9^9) (disch := first | omega | decide +kernel) only [↓bp0, bd0, bd_NH, reduceIte, Nat.reduceEqDiff, evStore, Nat.reduceAdd, Nat.reduceMul, Int.reduceEq, Int.reduceLT, Int.reduceLE, Nat.reduceLeDiff, List.reduceReplicate, reduceCtorEq, evRange, Nat.reduceLT]
  refine CallQ.imm (e_fixes) (by rfl) (by first | rfl | (simp -dsimp (maxSteps := 9^9) (disch := first | omega | decide +kernel) only [↓bp0, bd0, bd_NH, reduceIte, Nat.reduceEqDiff, evStore, Nat.reduceAdd, Nat.reduceMul, Int.reduceEq, Int.reduceLT, Int.reduceLE, Nat.reduceLeDiff, List.reduceReplicate, reduceCtorEq, evRange, Nat.reduceLT, drcs, drc, flat]; done) | simp -dsimp [evl, drcs, drc, flat, i64, u32, bl, encL, encB, encLL]) (by first | exact .inl rfl | exact .inr rfl | exact .inr scalB | exact .inr scalI | exact .inr scalT | exact .inr scalM | exact .inr scalMT | exact .inr scalGT) ?_
  try simp -dsimp (maxSteps := 9^9) (disch := first | omega | decide +kernel) only [↓bp0, bd0, bd_NH, reduceIte, Nat.reduceEqDiff, evStore, Nat.reduceAdd, Nat.reduceMul, Int.reduceEq, Int.reduceLT, Int.reduceLE, Nat.reduceLeDiff, List.reduceReplicate, reduceCtorEq, evRange, Nat.reduceLT]
  refine CallQ.imm (c1) (by rfl) (by first | rfl | (simp -dsimp (maxSteps := 9^9) (disch := first | omega | decide +kernel) only [↓bp0, bd0, bd_NH, reduceIte, Nat.reduceEqDiff, evStore, Nat.reduceAdd, Nat.reduceMul, Int.reduceEq, Int.reduceLT, Int.reduceLE, Nat.reduceLeDiff, List.reduceReplicate, reduceCtorEq, evRange, Nat.reduceLT, drcs, drc, flat]; done) | simp -dsimp [evl, drcs, drc, flat, i64, u32, bl, encL, encB, encLL]) (by first | exact .inl rfl | exact .inr rfl | exact .inr scalB | exact .inr scalI | exact .inr scalT | exact .inr scalM | exact .inr scalMT | exact .inr scalGT) ?_
  try simp -dsimp (maxSteps := 9^9) (disch := first | omega | decide +kernel) only [↓bp0, bd0, bd_NH, reduceIte, Nat.reduceEqDiff, evStore, Nat.reduceAdd, Nat.reduceMul, Int.reduceEq, Int.reduceLT, Int.reduceLE, Nat.reduceLeDiff, List.reduceReplicate, reduceCtorEq, evRange, Nat.reduceLT, newGps]
  refine CallQ.imm (e_example) (by rfl) (by first | rfl | (simp -dsimp (maxSteps := 9^9) (disch := first | omega | decide +kernel) only [↓bp0, bd0, bd_NH, reduceIte, Nat.reduceEqDiff, evStore, Nat.reduceAdd, Nat.reduceMul, Int.reduceEq, Int.reduceLT, Int.reduceLE, Nat.reduceLeDiff, List.reduceReplicate, reduceCtorEq, evRange, Nat.reduceLT, drcs, drc, flat]; done) | simp -dsimp [evl, drcs, drc, flat, i64, u32, bl, encL, encB, encLL]) (by first | exact .inl rfl | exact .inr rfl | exact .inr scalB | exact .inr scalI | exact .inr scalT | exact .inr scalM | exact .inr scalMT | exact .inr scalGT) ?_
  try simp -dsimp (maxSteps := 9^9) (disch := first | omega | decide +kernel) only [↓bp0, bd0, bd_NH, reduceIte, Nat.reduceEqDiff, evStore, Nat.reduceAdd, Nat.reduceMul, Int.reduceEq, Int.reduceLT, Int.reduceLE, Nat.reduceLeDiff, List.reduceReplicate, reduceCtorEq, evRange, Nat.reduceLT]
  refine CallQ.imm (e_fixes) (by rfl) (by first | rfl | (simp -dsimp (maxSteps := 9^9) (disch := first | omega | decide +kernel) only [↓bp0, bd0, bd_NH, reduceIte, Nat.reduceEqDiff, evStore, Nat.reduceAdd, Nat.reduceMul, Int.reduceEq, Int.reduceLT, Int.reduceLE, Nat.reduceLeDiff, List.reduceReplicate, reduceCtorEq, evRange, Nat.reduceLT, drcs, drc, flat]; done) | simp -dsimp [evl, drcs, drc, flat, i64, u32, bl, encL, encB, encLL]) (by first | exact .inl rfl | exact .inr rfl | exact .inr scalB | exact .inr scalI | exact .inr scalT | exact .inr scalM | exact .inr scalMT | exact .inr scalGT) ?_
  try simp -dsimp (maxSteps := 9^9) (disch := first | omega | decide +kernel) only [↓bp0, bd0, bd_NH, reduceIte, Nat.reduceEqDiff, evStore, Nat.reduceAdd, Nat.reduceMul, Int.reduceEq, Int.reduceLT, Int.reduceLE, Nat.reduceLeDiff, List.reduceReplicate, reduceCtorEq, evRange, Nat.reduceLT]
  refine CallQ.imm (c2) (by rfl) (by first | rfl | (simp -dsimp (maxSteps := 9^9) (disch := first | omega | decide +kernel) only [↓bp0, bd0, bd_NH, reduceIte, Nat.reduceEqDiff, evStore, Nat.reduceAdd, Nat.reduceMul, Int.reduceEq, Int.reduceLT, Int.reduceLE, Nat.reduceLeDiff, List.reduceReplicate, reduceCtorEq, evRange, Nat.reduceLT, drcs, drc, flat]; done) | simp -dsimp [evl, drcs, drc, flat, i64, u32, bl, encL, encB, encLL]) (by first | exact .inl rfl | exact .inr rfl | exact .inr scalB | exact .inr scalI | exact .inr scalT | exact .inr scalM | exact .inr scalMT | exact .inr scalGT) ?_
  try simp -dsimp (maxSteps := 9^9) (disch := first | omega | decide +kernel) only [↓bp0, bd0, bd_NH, reduceIte, Nat.reduceEqDiff, evStore, Nat.reduceAdd, Nat.reduceMul, Int.reduceEq, Int.reduceLT, Int.reduceLE, Nat.reduceLeDiff, List.reduceReplicate, reduceCtorEq, evRange, Nat.reduceLT]
  refine CallQ.imm (e_example) (by rfl) (by first | rfl | (simp -dsimp (maxSteps := 9^9) (disch := first | omega | decide +kernel) only [↓bp0, bd0, bd_NH, reduceIte, Nat.reduceEqDiff, evStore, Nat.reduceAdd, Nat.reduceMul, Int.reduceEq, Int.reduceLT, Int.reduceLE, Nat.reduceLeDiff, List.reduceReplicate, reduceCtorEq, evRange, Nat.reduceLT, drcs, drc, flat]; done) | simp -dsimp [evl, drcs, drc, flat, i64, u32, bl, encL, encB, encLL]) (by first | exact .inl rfl | exact .inr rfl | exact .inr scalB | exact .inr scalI | exact .inr scalT | exact .inr scalM | exact .inr scalMT | exact .inr scalGT) ?_
  try simp -dsimp (maxSteps := 9^9) (disch := first | omega | decide +kernel) only [↓bp0, bd0, bd_NH, reduceIte, Nat.reduceEqDiff, evStore, Nat.reduceAdd, Nat.reduceMul, Int.reduceEq, Int.reduceLT, Int.reduceLE, Nat.reduceLeDiff, List.reduceReplicate, reduceCtorEq, evRange, Nat.reduceLT]
  refine CallQ.imm (e_fixes) (by rfl) (by first | rfl | (simp -dsimp (maxSteps := 9^9) (disch := first | omega | decide +kernel) only [↓bp0, bd0, bd_NH, reduceIte, Nat.reduceEqDiff, evStore, Nat.reduceAdd, Nat.reduceMul, Int.reduceEq, Int.reduceLT, Int.reduceLE, Nat.reduceLeDiff, List.reduceReplicate, reduceCtorEq, evRange, Nat.reduceLT, drcs, drc, flat]; done) | simp -dsimp [evl, drcs, drc, flat, i64, u32, bl, encL, encB, encLL]) (by first | exact .inl rfl | exact .inr rfl | exact .inr scalB | exact .inr scalI | exact .inr scalT | exact .inr scalM | exact .inr scalMT | exact .inr scalGT) ?_
  try simp -dsimp (maxSteps := 9^9) (disch := first | omega | decide +kernel) only [↓bp0, bd0, bd_NH, reduceIte, Nat.reduceEqDiff, evStore, Nat.reduceAdd, Nat.reduceMul, Int.reduceEq, Int.reduceLT, Int.reduceLE, Nat.reduceLeDiff, List.reduceReplicate, reduceCtorEq, evRange, Nat.reduceLT]
  refine CallQ.imm (c3) (by rfl) (by first | rfl | (simp -dsimp (maxSteps := 9^9) (disch := first | omega | decide +kernel) only [↓bp0, bd0, bd_NH, reduceIte, Nat.reduceEqDiff, evStore, Nat.reduceAdd, Nat.reduceMul, Int.reduceEq, Int.reduceLT, Int.reduceLE, Nat.reduceLeDiff, List.reduceReplicate, reduceCtorEq, evRange, Nat.reduceLT, drcs, drc, flat]; done) | simp -dsimp [evl, drcs, drc, flat, i64, u32, bl, encL, encB, encLL]) (by first | exact .inl rfl | exact .inr rfl | exact .inr scalB | exact .inr scalI | exact .inr scalT | exact .inr scalM | exact .inr scalMT | exact .inr scalGT) ?_
  try simp -dsimp (maxSteps := 9^9) (disch := first | omega | decide +kernel) only [↓bp0, bd0, bd_NH, reduceIte, Nat.reduceEqDiff, evStore, Nat.reduceAdd, Nat.reduceMul, Int.reduceEq, Int.reduceLT, Int.reduceLE, Nat.reduceLeDiff, List.reduceReplicate, reduceCtorEq, evRange, Nat.reduceLT, newGps, bldGp, PV.cellsP]
  refine CallQ.imm (c4) (by rfl) (by first | rfl | (simp -dsimp (maxSteps := 9^9) (disch := first | omega | decide +kernel) only [↓bp0, bd0, bd_NH, reduceIte, Nat.reduceEqDiff, evStore, Nat.reduceAdd, Nat.reduceMul, Int.reduceEq, Int.reduceLT, Int.reduceLE, Nat.reduceLeDiff, List.reduceReplicate, reduceCtorEq, evRange, Nat.reduceLT, drcs, drc, flat, encGps, exG, List.map_cons, List.map_nil, List.drop_zero, drcs, drc, dr1, dr1s, drRows]; done) | simp -dsimp [evl, drcs, drc, flat, i64, u32, bl, encL, encB, encLL]) (by first | exact .inl rfl | exact .inr rfl | exact .inr scalB | exact .inr scalI | exact .inr scalT | exact .inr scalM | exact .inr scalMT | exact .inr scalGT) ?_
  simp -dsimp (maxSteps := 9^9) (disch := first | omega | decide +kernel) only [↓bp0, bd0, bd_NH, reduceIte, Nat.reduceEqDiff, evStore, Nat.reduceAdd, Nat.reduceMul, Int.reduceEq, Int.reduceLT, Int.reduceLE, Nat.reduceLeDiff, List.reduceReplicate, reduceCtorEq, evRange, Nat.reduceLT, retQ, resL, finL, newL, flat, tupOf, List.toList_toArray, Tryz.f18, decide_true, hs1]
  exact leT_one .rfl' (by simp)
end Go.Ab
end
