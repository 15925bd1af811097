/- MissingCloses. -/
import Derived.Test.YtgcodedanljhpaaGreatDoorOF
import Derived.Test.YtgcodedanljhpaaGreatDoorNH
set_option linter.unusedSimpArgs false
set_option linter.unusedVariables false
set_option maxRecDepth 1000000
set_option maxHeartbeats 16000000
namespace Go.Ab
open Go Go.Proofs Go.Sort
theorem bd_OG : type_of% (And.intro @evNext.eq_1 (And.intro @fld (And.intro @nit (And.intro @nxE (And.intro @ghR (And.intro @ovR (And.intro @evBin_seql (And.intro @evBin_sneq (And.intro @str.eq_1 (And.intro @u8.eq_1 (And.intro @encBrs.eq_1 (And.intro @cBr.eq_1 (And.intro @encLdg.eq_1 (And.intro @encKws.eq_1 (And.intro @cKw.eq_1 (And.intro @encEvss.eq_1 (And.intro @encEvs.eq_1 (And.intro @cEv.eq_1 (And.intro @encMks.eq_1 (And.intro @cMk.eq_1 (And.intro @encStrs.eq_1 (And.intro @encFxs.eq_1 (And.intro @cFx.eq_1 (And.intro @cGp.eq_1 (And.intro @tk2 (And.intro @tk3 (And.intro @List.set_cons_succ.{0} (And.intro @List.getElem?_cons_zero.{0} (And.intro @List.getElem?_cons_succ.{0} (@List.length_set.{0})))))))))))))))))))))))))))))) := And.intro @evNext.eq_1 (And.intro @fld (And.intro @nit (And.intro @nxE (And.intro @ghR (And.intro @ovR (And.intro @evBin_seql (And.intro @evBin_sneq (And.intro @str.eq_1 (And.intro @u8.eq_1 (And.intro @encBrs.eq_1 (And.intro @cBr.eq_1 (And.intro @encLdg.eq_1 (And.intro @encKws.eq_1 (And.intro @cKw.eq_1 (And.intro @encEvss.eq_1 (And.intro @encEvs.eq_1 (And.intro @cEv.eq_1 (And.intro @encMks.eq_1 (And.intro @cMk.eq_1 (And.intro @encStrs.eq_1 (And.intro @encFxs.eq_1 (And.intro @cFx.eq_1 (And.intro @cGp.eq_1 (And.intro @tk2 (And.intro @tk3 (And.intro @List.set_cons_succ.{0} (And.intro @List.getElem?_cons_zero.{0} (And.intro @List.getElem?_cons_succ.{0} (@List.length_set.{0})))))))))))))))))))))))))))))
theorem filt_at {α : Type} {F : α → Bool} : ∀ (L : List α) (k : Nat) (g : α), L[k]? = some g → F g = true → (L.filter F)[((L.take k).filter F).length]? = some g
  | [], _, _, h, _ => by simp at h
  | a :: r, 0, g, h, hF => by
    simp only [List.getElem?_cons_zero, Option.some.injEq] at h
    subst h
    rw [List.filter_cons, if_pos hF]; rfl
  | a :: r, k + 1, g, h, hF => by
    have ih := filt_at r k g (by simpa using h) hF
    rw [List.take_succ_cons, List.filter_cons, List.filter_cons]
    by_cases e : F a = true
    · rw [if_pos e, if_pos e]; simpa using ih
    · rw [if_neg e, if_neg e]; exact ih
theorem filt_take {α : Type} {F : α → Bool} {L : List α} {k : Nat} {g : α} (h : L[k]? = some g) : ((L.take (k + 1)).filter F).length = ((L.take k).filter F).length + if F g = true then 1 else 0 := by
  rw [take_succ h, List.filter_append, List.length_append]
  congr 1
  by_cases e : F g = true <;> simp [e]
theorem l_Closes (l : Ldg) (x : List Fx) (i : Int) (e : Ev) (hl : l.known.length ≤ 9223372036854775807) (hb : l.brs.length ≤ 9223372036854775807) (hv : l.evs.length ≤ 9223372036854775807) (he : ∀ s ∈ l.evs, s.length ≤ 9223372036854775807)
    (hx : x.length ≤ 9223372036854775807) (hxb : ∀ f ∈ x, f.brs.length ≤ 9223372036854775807) : CallSpec cx 6 [encLdg l, encFxs x, i64 i, .agg (cEv e)] (bl true) := by
  refine callSpec_of_vc Tryz.func6 rfl (by decide) (by kernel_rfl) (Nat.le_of_ble_eq_true rfl) ?_
  try simp -dsimp (maxSteps := 9^9) (disch := first | omega | decide +kernel) only [↓bp0, bd0, bd_OG, reduceIte, Nat.reduceEqDiff, evStore, Nat.reduceAdd, Nat.reduceMul, Int.reduceEq, Int.reduceLT, Int.reduceLE, Nat.reduceLeDiff, List.reduceReplicate, reduceCtorEq, evRange, Nat.reduceLT, Tryz.f6]
  refine CallQ.imm (l_alive) (by rfl) (by first | rfl | (simp -dsimp (maxSteps := 9^9) (disch := first | omega | decide +kernel) only [↓bp0, bd0, bd_OG, reduceIte, Nat.reduceEqDiff, evStore, Nat.reduceAdd, Nat.reduceMul, Int.reduceEq, Int.reduceLT, Int.reduceLE, Nat.reduceLeDiff, List.reduceReplicate, reduceCtorEq, evRange, Nat.reduceLT, drcs, drc, flat]; done) | simp -dsimp [evl, drcs, drc, flat, i64, u32, bl, encL, encB, encLL]) (by first | exact .inl rfl | exact .inr rfl | exact .inr scalB | exact .inr scalI | exact .inr scalT | exact .inr scalM | exact .inr scalMT | exact .inr scalGT) ?_
  try simp -dsimp (maxSteps := 9^9) (disch := first | omega | decide +kernel) only [↓bp0, bd0, bd_OG, reduceIte, Nat.reduceEqDiff, evStore, Nat.reduceAdd, Nat.reduceMul, Int.reduceEq, Int.reduceLT, Int.reduceLE, Nat.reduceLeDiff, List.reduceReplicate, reduceCtorEq, evRange, Nat.reduceLT]
  refine CallQ.imm (r_Great34 l x hl hb hv he hx hxb) (by rfl) (by first | rfl | (simp -dsimp (maxSteps := 9^9) (disch := first | omega | decide +kernel) only [↓bp0, bd0, bd_OG, reduceIte, Nat.reduceEqDiff, evStore, Nat.reduceAdd, Nat.reduceMul, Int.reduceEq, Int.reduceLT, Int.reduceLE, Nat.reduceLeDiff, List.reduceReplicate, reduceCtorEq, evRange, Nat.reduceLT, drcs, drc, flat]; done) | simp -dsimp [evl, drcs, drc, flat, i64, u32, bl, encL, encB, encLL]) (by first | exact .inl rfl | exact .inr rfl | exact .inr scalB | exact .inr scalI | exact .inr scalT | exact .inr scalM | exact .inr scalMT | exact .inr scalGT) ?_
  cases hg : grt34 l x
  case true =>
    simp -dsimp (maxSteps := 9^9) (disch := first | omega | decide +kernel) only [↓bp0, bd0, bd_OG, reduceIte, Nat.reduceEqDiff, evStore, Nat.reduceAdd, Nat.reduceMul, Int.reduceEq, Int.reduceLT, Int.reduceLE, Nat.reduceLeDiff, List.reduceReplicate, reduceCtorEq, evRange, Nat.reduceLT, retQ, resL, finL, newL, flat, tupOf, List.toList_toArray, Tryz.f6, hg]
    exact leT_one .rfl' (by simp)
  obtain ⟨hz, hn, hx40, hb40⟩ := grt34_no hg
  try simp -dsimp (maxSteps := 9^9) (disch := first | omega | decide +kernel) only [↓bp0, bd0, bd_OG, reduceIte, Nat.reduceEqDiff, evStore, Nat.reduceAdd, Nat.reduceMul, Int.reduceEq, Int.reduceLT, Int.reduceLE, Nat.reduceLeDiff, List.reduceReplicate, reduceCtorEq, evRange, Nat.reduceLT, hg]
  refine CallQ.imm (r_mCheck l x hz hn hx40 hb40) (by rfl) (by first | rfl | (simp -dsimp (maxSteps := 9^9) (disch := first | omega | decide +kernel) only [↓bp0, bd0, bd_OG, reduceIte, Nat.reduceEqDiff, evStore, Nat.reduceAdd, Nat.reduceMul, Int.reduceEq, Int.reduceLT, Int.reduceLE, Nat.reduceLeDiff, List.reduceReplicate, reduceCtorEq, evRange, Nat.reduceLT, drcs, drc, flat]; done) | simp -dsimp [evl, drcs, drc, flat, i64, u32, bl, encL, encB, encLL]) (by first | exact .inl rfl | exact .inr rfl | exact .inr scalB | exact .inr scalI | exact .inr scalT | exact .inr scalM | exact .inr scalMT | exact .inr scalGT) ?_
  cases h0 : decide (mchk l x = 0)
  · simp -dsimp (maxSteps := 9^9) (disch := first | omega | decide +kernel) only [↓bp0, bd0, bd_OG, reduceIte, Nat.reduceEqDiff, evStore, Nat.reduceAdd, Nat.reduceMul, Int.reduceEq, Int.reduceLT, Int.reduceLE, Nat.reduceLeDiff, List.reduceReplicate, reduceCtorEq, evRange, Nat.reduceLT, retQ, resL, finL, newL, flat, tupOf, List.toList_toArray, Tryz.f6, h0]
    exact leT_one .rfl' (by simp)
  cases h1 : decide (i < 0)
  case true =>
    simp -dsimp (maxSteps := 9^9) (disch := first | omega | decide +kernel) only [↓bp0, bd0, bd_OG, reduceIte, Nat.reduceEqDiff, evStore, Nat.reduceAdd, Nat.reduceMul, Int.reduceEq, Int.reduceLT, Int.reduceLE, Nat.reduceLeDiff, List.reduceReplicate, reduceCtorEq, evRange, Nat.reduceLT, retQ, resL, finL, newL, flat, tupOf, List.toList_toArray, Tryz.f6, h0, h1]
    exact leT_one .rfl' (by simp)
  cases h2 : decide ((l.brs.length : Int) ≤ i)
  case true =>
    simp -dsimp (maxSteps := 9^9) (disch := first | omega | decide +kernel) only [↓bp0, bd0, bd_OG, reduceIte, Nat.reduceEqDiff, evStore, Nat.reduceAdd, Nat.reduceMul, Int.reduceEq, Int.reduceLT, Int.reduceLE, Nat.reduceLeDiff, List.reduceReplicate, reduceCtorEq, evRange, Nat.reduceLT, retQ, resL, finL, newL, flat, tupOf, List.toList_toArray, Tryz.f6, h0, h1, h2]
    exact leT_one .rfl' (by simp)
  cases h3 : decide ((100 : Int) < (e.chg.size : Int))
  case true =>
    simp -dsimp (maxSteps := 9^9) (disch := first | omega | decide +kernel) only [↓bp0, bd0, bd_OG, reduceIte, Nat.reduceEqDiff, evStore, Nat.reduceAdd, Nat.reduceMul, Int.reduceEq, Int.reduceLT, Int.reduceLE, Nat.reduceLeDiff, List.reduceReplicate, reduceCtorEq, evRange, Nat.reduceLT, retQ, resL, finL, newL, flat, tupOf, List.toList_toArray, Tryz.f6, h0, h1, h2, h3]
    exact leT_one .rfl' (by simp)
  have h0' := of_decide_eq_true h0
  have h1' := of_decide_eq_false h1
  have h2' := of_decide_eq_false h2
  obtain ⟨k, rfl⟩ : ∃ k : Nat, i = k := ⟨i.toNat, by omega⟩
  have hk : k < l.brs.length := by omega
  obtain ⟨hl0, hx30, _⟩ := mchk_zero h0'
  have hok := lok_of hl0
  have hbk : l.brs[k]? = some l.brs[k] := List.getElem?_eq_getElem hk
  have cA := d_Append l l.brs[k].name e hz
  have hGe : gapR l x = gapL l x := by rw [gapR, if_neg (by rw [Decidable.not_not]; exact h0')]
  have hGl : (gapL l x).length ≤ 2^20 := gapL_len h0'
  have c1 := m_Gaps l x hz hx40 hb40
  rw [hGe, h0'] at c1
  have cC := r_Class l e.chg hz.known
  by_cases hE : lappE l l.brs[k].name e = 0
  rotate_left
  · have hE' : decide (lappE l l.brs[k].name e = 0) = false := decide_eq_false hE
    rw [encApp, if_neg hE] at cA
    try simp -dsimp (maxSteps := 9^9) (disch := first | omega | decide +kernel) only [↓bp0, bd0, bd_OG, reduceIte, Nat.reduceEqDiff, evStore, Nat.reduceAdd, Nat.reduceMul, Int.reduceEq, Int.reduceLT, Int.reduceLE, Nat.reduceLeDiff, List.reduceReplicate, reduceCtorEq, evRange, Nat.reduceLT, h0, h1, h2, h3, hbk, uUn, Option.bind_some]
    refine CallQ.imm (cA) (by rfl) (by first | rfl | (simp -dsimp (maxSteps := 9^9) (disch := first | omega | decide +kernel) only [↓bp0, bd0, bd_OG, reduceIte, Nat.reduceEqDiff, evStore, Nat.reduceAdd, Nat.reduceMul, Int.reduceEq, Int.reduceLT, Int.reduceLE, Nat.reduceLeDiff, List.reduceReplicate, reduceCtorEq, evRange, Nat.reduceLT, drcs, drc, flat]; done) | simp -dsimp [evl, drcs, drc, flat, i64, u32, bl, encL, encB, encLL]) (by first | exact .inl rfl | exact .inr rfl | exact .inr scalB | exact .inr scalI | exact .inr scalT | exact .inr scalM | exact .inr scalMT | exact .inr scalGT) ?_
    simp -dsimp (maxSteps := 9^9) (disch := first | omega | decide +kernel) only [↓bp0, bd0, bd_OG, reduceIte, Nat.reduceEqDiff, evStore, Nat.reduceAdd, Nat.reduceMul, Int.reduceEq, Int.reduceLT, Int.reduceLE, Nat.reduceLeDiff, List.reduceReplicate, reduceCtorEq, evRange, Nat.reduceLT, retQ, resL, finL, newL, flat, tupOf, List.toList_toArray, Tryz.f6, hE']
    exact leT_one .rfl' (by simp)
  rw [encApp, if_pos hE] at cA
  obtain ⟨_, k', own, hib, hidx, ho, hgrow, hm, hck, ha⟩ := lapp_ok hE
  have hkk : k' = k := by
    have := (tok_fits hok.fits).uniq hbk
    omega
  subst hkk
  rw [hgrow, hE] at cA
  have hgg := grow_gaps h0' hib ho hm hck ha
  have hx' := mchk_grow h0' hm (i := k') (own := own) (e := e)
  have hz' : LSz (growL l k' own e) := ⟨hz.known, hz.brs, by simp only [growL, List.length_set]; exact hz.evs, fun s hs => by have := hm.evs s hs; omega⟩
  have hn' : LNm (growL l k' own e) := ⟨hn.brs, hn.known⟩
  have hGe' : gapR (growL l k' own e) x = gapL (growL l k' own e) x := by rw [gapR, if_neg (by rw [Decidable.not_not]; exact hx')]
  have hGl' : (gapL (growL l k' own e) x).length ≤ 2^20 := gapL_len hx'
  have c2 := m_Gaps (growL l k' own e) x hz' hx40 hb40
  rw [hGe', hx'] at c2
  have cM := r_lCheck (growL l k' own e) hz' hn'
  rw [lchk_of hm] at cM
  clear hGe' hgrow hE hm hx' hz' hn' hGe ha
  generalize growL l k' own e = m at cA hgg hGl' c2 cM
  revert hgg
  simp only [show (l.brs[k']'hib).name = l.brs[k'].name from rfl]
  intro hgg
  generalize hcn : clsI l.known e.chg = cn at cC hgg
  generalize hnm : l.brs[k'].name = nm at cA hgg
  try simp -dsimp (maxSteps := 9^9) (disch := first | omega | decide +kernel) only [↓bp0, bd0, bd_OG, reduceIte, Nat.reduceEqDiff, evStore, Nat.reduceAdd, Nat.reduceMul, Int.reduceEq, Int.reduceLT, Int.reduceLE, Nat.reduceLeDiff, List.reduceReplicate, reduceCtorEq, evRange, Nat.reduceLT, h0, h1, h2, h3, hbk, hnm, uUn, Option.bind_some]
  refine CallQ.imm (cA) (by rfl) (by first | rfl | (simp -dsimp (maxSteps := 9^9) (disch := first | omega | decide +kernel) only [↓bp0, bd0, bd_OG, reduceIte, Nat.reduceEqDiff, evStore, Nat.reduceAdd, Nat.reduceMul, Int.reduceEq, Int.reduceLT, Int.reduceLE, Nat.reduceLeDiff, List.reduceReplicate, reduceCtorEq, evRange, Nat.reduceLT, drcs, drc, flat]; done) | simp -dsimp [evl, drcs, drc, flat, i64, u32, bl, encL, encB, encLL]) (by first | exact .inl rfl | exact .inr rfl | exact .inr scalB | exact .inr scalI | exact .inr scalT | exact .inr scalM | exact .inr scalMT | exact .inr scalGT) ?_
  try simp -dsimp (maxSteps := 9^9) (disch := first | omega | decide +kernel) only [↓bp0, bd0, bd_OG, reduceIte, Nat.reduceEqDiff, evStore, Nat.reduceAdd, Nat.reduceMul, Int.reduceEq, Int.reduceLT, Int.reduceLE, Nat.reduceLeDiff, List.reduceReplicate, reduceCtorEq, evRange, Nat.reduceLT]
  refine CallQ.imm (cM) (by rfl) (by first | rfl | (simp -dsimp (maxSteps := 9^9) (disch := first | omega | decide +kernel) only [↓bp0, bd0, bd_OG, reduceIte, Nat.reduceEqDiff, evStore, Nat.reduceAdd, Nat.reduceMul, Int.reduceEq, Int.reduceLT, Int.reduceLE, Nat.reduceLeDiff, List.reduceReplicate, reduceCtorEq, evRange, Nat.reduceLT, drcs, drc, flat]; done) | simp -dsimp [evl, drcs, drc, flat, i64, u32, bl, encL, encB, encLL]) (by first | exact .inl rfl | exact .inr rfl | exact .inr scalB | exact .inr scalI | exact .inr scalT | exact .inr scalM | exact .inr scalMT | exact .inr scalGT) ?_
  try simp -dsimp (maxSteps := 9^9) (disch := first | omega | decide +kernel) only [↓bp0, bd0, bd_OG, reduceIte, Nat.reduceEqDiff, evStore, Nat.reduceAdd, Nat.reduceMul, Int.reduceEq, Int.reduceLT, Int.reduceLE, Nat.reduceLeDiff, List.reduceReplicate, reduceCtorEq, evRange, Nat.reduceLT]
  refine CallQ.imm (c1) (by rfl) (by first | rfl | (simp -dsimp (maxSteps := 9^9) (disch := first | omega | decide +kernel) only [↓bp0, bd0, bd_OG, reduceIte, Nat.reduceEqDiff, evStore, Nat.reduceAdd, Nat.reduceMul, Int.reduceEq, Int.reduceLT, Int.reduceLE, Nat.reduceLeDiff, List.reduceReplicate, reduceCtorEq, evRange, Nat.reduceLT, drcs, drc, flat]; done) | simp -dsimp [evl, drcs, drc, flat, i64, u32, bl, encL, encB, encLL]) (by first | exact .inl rfl | exact .inr rfl | exact .inr scalB | exact .inr scalI | exact .inr scalT | exact .inr scalM | exact .inr scalMT | exact .inr scalGT) ?_
  try simp -dsimp (maxSteps := 9^9) (disch := first | omega | decide +kernel) only [↓bp0, bd0, bd_OG, reduceIte, Nat.reduceEqDiff, evStore, Nat.reduceAdd, Nat.reduceMul, Int.reduceEq, Int.reduceLT, Int.reduceLE, Nat.reduceLeDiff, List.reduceReplicate, reduceCtorEq, evRange, Nat.reduceLT, newGps]
  refine CallQ.imm (c2) (by rfl) (by first | rfl | (simp -dsimp (maxSteps := 9^9) (disch := first | omega | decide +kernel) only [↓bp0, bd0, bd_OG, reduceIte, Nat.reduceEqDiff, evStore, Nat.reduceAdd, Nat.reduceMul, Int.reduceEq, Int.reduceLT, Int.reduceLE, Nat.reduceLeDiff, List.reduceReplicate, reduceCtorEq, evRange, Nat.reduceLT, drcs, drc, flat]; done) | simp -dsimp [evl, drcs, drc, flat, i64, u32, bl, encL, encB, encLL]) (by first | exact .inl rfl | exact .inr rfl | exact .inr scalB | exact .inr scalI | exact .inr scalT | exact .inr scalM | exact .inr scalMT | exact .inr scalGT) ?_
  clear c1 c2 cM cA
  cases h4 : decide (e.kind = 3)
  all_goals
    first
      | (have h4' : ¬ e.kind = 3 := of_decide_eq_false h4
         rw [if_pos h4', if_pos h4'] at hgg
         generalize gapL l x = MO at hGl hGl' hgg ⊢
         generalize gapL m x = LE at hGl hGl' hgg ⊢)
      | (have h4' : e.kind = 3 := of_decide_eq_true h4
         rw [if_neg (by rw [Decidable.not_not]; exact h4'), if_neg (by rw [Decidable.not_not]; exact h4')] at hgg
         generalize gapL m x = MO at hGl hGl' hgg ⊢
         generalize gapL l x = LE at hGl hGl' hgg ⊢)
    have hMO : MO.length ≤ 2^20 := by first | exact hGl | exact hGl'
    obtain ⟨F, hF⟩ : ∃ F : Gp → Bool, F = fun g => !atG nm cn g := ⟨_, rfl⟩
    rw [← hF] at hgg
    have hFg : ∀ g : Gp, F g = !(decide (g.br = nm) && decide (g.cls = cn)) := fun g => by rw [hF]; rfl
    clear hF
    have hlr : (MO.filter F).length ≤ MO.length := List.length_filter_le _ _
    have hlk : ∀ n, ((MO.take n).filter F).length ≤ (MO.filter F).length := fun n => ((List.take_sublist n MO).filter F).length_le
    try simp -dsimp (maxSteps := 9^9) (disch := first | omega | decide +kernel) only [↓bp0, bd0, bd_OG, reduceIte, Nat.reduceEqDiff, evStore, Nat.reduceAdd, Nat.reduceMul, Int.reduceEq, Int.reduceLT, Int.reduceLE, Nat.reduceLeDiff, List.reduceReplicate, reduceCtorEq, evRange, Nat.reduceLT, newGps, h4]
    refine CallQ.imm (cC) (by rfl) (by first | rfl | (simp -dsimp (maxSteps := 9^9) (disch := first | omega | decide +kernel) only [↓bp0, bd0, bd_OG, reduceIte, Nat.reduceEqDiff, evStore, Nat.reduceAdd, Nat.reduceMul, Int.reduceEq, Int.reduceLT, Int.reduceLE, Nat.reduceLeDiff, List.reduceReplicate, reduceCtorEq, evRange, Nat.reduceLT, drcs, drc, flat]; done) | simp -dsimp [evl, drcs, drc, flat, i64, u32, bl, encL, encB, encLL]) (by first | exact .inl rfl | exact .inr rfl | exact .inr scalB | exact .inr scalI | exact .inr scalT | exact .inr scalM | exact .inr scalMT | exact .inr scalGT) ?_
    try simp -dsimp (maxSteps := 9^9) (disch := first | omega | decide +kernel) only [↓bp0, bd0, bd_OG, reduceIte, Nat.reduceEqDiff, evStore, Nat.reduceAdd, Nat.reduceMul, Int.reduceEq, Int.reduceLT, Int.reduceLE, Nat.reduceLeDiff, List.reduceReplicate, reduceCtorEq, evRange, Nat.reduceLT, newGps]
    refine LoopQ.rule (fun mm st => ∃ (i : Nat), i ≤ MO.length ∧ mm = MO.length - i ∧
      st = ⟨mkE [(9, bl true), (10, str nm), (17, encGps MO), (18, encGps LE), (19, i64 (((MO.take i).filter F).length)), (20, i64 cn), (21, i64 i)], mkS [], 3⟩) _ _ (weak_of ?_)
      ⟨0, by omega, rfl, rfl⟩ ?_
    · first | (simp -dsimp (maxSteps := 9^9) (disch := first | omega | decide +kernel) only [↓bp0, bd0, bd_OG, reduceIte, Nat.reduceEqDiff, evStore, Nat.reduceAdd, Nat.reduceMul, Int.reduceEq, Int.reduceLT, Int.reduceLE, Nat.reduceLeDiff, List.reduceReplicate, reduceCtorEq, evRange, Nat.reduceLT, encGps, List.take_zero, List.filter_nil, List.length_nil]; done) | simp -dsimp [evl, putN, i64, u32, bl, encL, encB, encLL, encGps, List.take_zero, List.filter_nil, List.length_nil]
    rintro mm st ⟨i, hi, rfl, rfl⟩
    try simp -dsimp (maxSteps := 9^9) (disch := first | omega | decide +kernel) only [↓bp0, bd0, bd_OG, reduceIte, Nat.reduceEqDiff, evStore, Nat.reduceAdd, Nat.reduceMul, Int.reduceEq, Int.reduceLT, Int.reduceLE, Nat.reduceLeDiff, List.reduceReplicate, reduceCtorEq, evRange, Nat.reduceLT, encGps, List.length_map]
    refine onC_nlt (fun h5 => ?_) (fun h5 => ?_)
    · obtain ⟨g, hx1, hxm⟩ := get_of_lt h5
      have hst := filt_take (F := F) hx1
      have hlk1 := hlk i
      have hlk2 := hlk (i + 1)
      cases d1 : decide (g.br = nm)
      all_goals cases d2 : decide (g.cls = cn)
      case true.true =>
        have hFt : F g = false := by rw [hFg, d1, d2]; rfl
        rw [if_neg (by rw [hFt]; exact Bool.false_ne_true)] at hst
        try simp -dsimp (maxSteps := 9^9) (disch := first | omega | decide +kernel) only [↓bp0, bd0, bd_OG, reduceIte, Nat.reduceEqDiff, evStore, Nat.reduceAdd, Nat.reduceMul, Int.reduceEq, Int.reduceLT, Int.reduceLE, Nat.reduceLeDiff, List.reduceReplicate, reduceCtorEq, evRange, Nat.reduceLT, hx1, encGps, d1, d2]
        refine ⟨_, _, ?_, weak_of ?_, i + 1, h5, rfl, rfl⟩
        · omega
        · first | (simp -dsimp (maxSteps := 9^9) (disch := first | omega | decide +kernel) only [↓bp0, bd0, bd_OG, reduceIte, Nat.reduceEqDiff, evStore, Nat.reduceAdd, Nat.reduceMul, Int.reduceEq, Int.reduceLT, Int.reduceLE, Nat.reduceLeDiff, List.reduceReplicate, reduceCtorEq, evRange, Nat.reduceLT, wrapS h5 (show MO.length ≤ 9223372036854775807 by omega), encGps, hst, Nat.add_zero]; done) | simp -dsimp [evl, putN, i64, u32, bl, encL, encB, encLL, wrapS h5 (show MO.length ≤ 9223372036854775807 by omega), encGps, hst, Nat.add_zero]
      all_goals
        have hFt : F g = true := by rw [hFg, d1, d2]; rfl
        rw [if_pos hFt] at hst
        have hat := filt_at MO i g hx1 hFt
        rw [← hgg] at hat
        have hLE : ((MO.take i).filter F).length < LE.length := (List.getElem?_eq_some_iff.1 hat).1
        have hd : decide (((LE.length : Nat) : Int) ≤ ((((MO.take i).filter F).length : Nat) : Int)) = false := decide_eq_false (by omega)
        have hw : IntKind.i64.wrap (((((MO.take i).filter F).length : Nat) : Int) + 1) = ((((MO.take (i + 1)).filter F).length : Nat) : Int) := by rw [hst, IntWalk.i64_in _ (by omega)]; omega
        generalize ((MO.take i).filter F).length = at0 at hat hLE hd hw ⊢
        try simp -dsimp (maxSteps := 9^9) (disch := first | omega | decide +kernel) only [↓bp0, bd0, bd_OG, reduceIte, Nat.reduceEqDiff, evStore, Nat.reduceAdd, Nat.reduceMul, Int.reduceEq, Int.reduceLT, Int.reduceLE, Nat.reduceLeDiff, List.reduceReplicate, reduceCtorEq, evRange, Nat.reduceLT, hx1, encGps, d1, d2]
        first | refine vc_text (by kernel_rfl) ?_ | skip
        try simp -dsimp (maxSteps := 9^9) (disch := first | omega | decide +kernel) only [↓bp0, bd0, bd_OG, reduceIte, Nat.reduceEqDiff, evStore, Nat.reduceAdd, Nat.reduceMul, Int.reduceEq, Int.reduceLT, Int.reduceLE, Nat.reduceLeDiff, List.reduceReplicate, reduceCtorEq, evRange, Nat.reduceLT, hx1, encGps, d1, d2, hat, hd, List.length_map, ev_neq_gap]
        refine ⟨_, _, ?_, weak_of ?_, i + 1, h5, rfl, rfl⟩
        · omega
        · first | (simp -dsimp (maxSteps := 9^9) (disch := first | omega | decide +kernel) only [↓bp0, bd0, bd_OG, reduceIte, Nat.reduceEqDiff, evStore, Nat.reduceAdd, Nat.reduceMul, Int.reduceEq, Int.reduceLT, Int.reduceLE, Nat.reduceLeDiff, List.reduceReplicate, reduceCtorEq, evRange, Nat.reduceLT, wrapS h5 (show MO.length ≤ 9223372036854775807 by omega), encGps, hw]; done) | simp -dsimp [evl, putN, i64, u32, bl, encL, encB, encLL, wrapS h5 (show MO.length ≤ 9223372036854775807 by omega), encGps, hw]
    · have hfin : decide ((((MO.filter F).length : Nat) : Int) = ((LE.length : Nat) : Int)) = true := decide_eq_true (by rw [hgg])
      rw [List.take_of_length_le (by omega)]
      simp -dsimp (maxSteps := 9^9) (disch := first | omega | decide +kernel) only [↓bp0, bd0, bd_OG, reduceIte, Nat.reduceEqDiff, evStore, Nat.reduceAdd, Nat.reduceMul, Int.reduceEq, Int.reduceLT, Int.reduceLE, Nat.reduceLeDiff, List.reduceReplicate, reduceCtorEq, evRange, Nat.reduceLT, retQ, resL, finL, newL, flat, tupOf, List.toList_toArray, Tryz.f6, encGps, List.length_map, hfin]
      exact leT_one .rfl' (by simp)
end Go.Ab
