/- MissingFold. -/
import Derived.Test.YtgcodedanljhpaaGreatDoorNJ
set_option linter.unusedSimpArgs false
set_option linter.unusedVariables false
set_option maxRecDepth 1000000
set_option maxHeartbeats 16000000
namespace Go.Ab
open Go Go.Proofs Go.Sort
theorem bd_NK : type_of% (And.intro @evNext.eq_1 (And.intro @fld (And.intro @nit (And.intro @nxE (And.intro @ghR (And.intro @ovR (And.intro @evBin_seql (And.intro @evBin_sneq (And.intro @str.eq_1 (And.intro @u8.eq_1 (And.intro @encBrs.eq_1 (And.intro @cBr.eq_1 (And.intro @encLdg.eq_1 (And.intro @encKws.eq_1 (And.intro @cKw.eq_1 (And.intro @encEvss.eq_1 (And.intro @encEvs.eq_1 (And.intro @cEv.eq_1 (And.intro @encMks.eq_1 (And.intro @cMk.eq_1 (And.intro @encStrs.eq_1 (And.intro @encFxs.eq_1 (And.intro @cFx.eq_1 (And.intro @cGp.eq_1 (And.intro @tk2 (And.intro @tk3 (And.intro @List.set_cons_succ.{0} (And.intro @List.getElem?_cons_zero.{0} (And.intro @List.getElem?_cons_succ.{0} (@List.length_set.{0})))))))))))))))))))))))))))))) := And.intro @evNext.eq_1 (And.intro @fld (And.intro @nit (And.intro @nxE (And.intro @ghR (And.intro @ovR (And.intro @evBin_seql (And.intro @evBin_sneq (And.intro @str.eq_1 (And.intro @u8.eq_1 (And.intro @encBrs.eq_1 (And.intro @cBr.eq_1 (And.intro @encLdg.eq_1 (And.intro @encKws.eq_1 (And.intro @cKw.eq_1 (And.intro @encEvss.eq_1 (And.intro @encEvs.eq_1 (And.intro @cEv.eq_1 (And.intro @encMks.eq_1 (And.intro @cMk.eq_1 (And.intro @encStrs.eq_1 (And.intro @encFxs.eq_1 (And.intro @cFx.eq_1 (And.intro @cGp.eq_1 (And.intro @tk2 (And.intro @tk3 (And.intro @List.set_cons_succ.{0} (And.intro @List.getElem?_cons_zero.{0} (And.intro @List.getElem?_cons_succ.{0} (@List.length_set.{0})))))))))))))))))))))))))))))
theorem r_before (l : Ldg) (a b : Gp) (hl : l.brs.length ≤ 9223372036854775807) : CallSpec cx 28 [encLdg l, .agg (cGp a), .agg (cGp b)] (bl (befB l a b)) := by
  refine callSpec_of_vc Tryz.func28 rfl (by decide) (by kernel_rfl) (Nat.le_of_ble_eq_true rfl) ?_
  cases h1 : decide (a.wgt = b.wgt)
  · have h1' := of_decide_eq_false h1
    simp -dsimp (disch := first | omega | decide +kernel) only [↓bp0, bd0, bd_NK, reduceIte, Nat.reduceEqDiff, evStore, Nat.reduceAdd, Nat.reduceMul, Int.reduceEq, Int.reduceLT, Int.reduceLE, Nat.reduceLeDiff, List.reduceReplicate, reduceCtorEq, evRange, Nat.reduceLT, retQ, resL, finL, newL, flat, tupOf, List.toList_toArray, Tryz.f28, h1]
    rw [befB, if_pos h1']
    exact leT_one (le1.rfl' (p := bl _)) (fun _ h => by cases h)
  · have h1' := of_decide_eq_true h1
    cases h2 : decide (a.cls = b.cls)
    · have h2' := of_decide_eq_false h2
      simp -dsimp (disch := first | omega | decide +kernel) only [↓bp0, bd0, bd_NK, reduceIte, Nat.reduceEqDiff, evStore, Nat.reduceAdd, Nat.reduceMul, Int.reduceEq, Int.reduceLT, Int.reduceLE, Nat.reduceLeDiff, List.reduceReplicate, reduceCtorEq, evRange, Nat.reduceLT, retQ, resL, finL, newL, flat, tupOf, List.toList_toArray, Tryz.f28, h1, h2]
      rw [befB, if_neg (by rw [Decidable.not_not]; exact h1'), if_pos h2']
      exact leT_one (le1.rfl' (p := bl _)) (fun _ h => by cases h)
    · have h2' := of_decide_eq_true h2
      try simp -dsimp (disch := first | omega | decide +kernel) only [↓bp0, bd0, bd_NK, reduceIte, Nat.reduceEqDiff, evStore, Nat.reduceAdd, Nat.reduceMul, Int.reduceEq, Int.reduceLT, Int.reduceLE, Nat.reduceLeDiff, List.reduceReplicate, reduceCtorEq, evRange, Nat.reduceLT, Tryz.f28, h1, h2]
      first | refine vc_text (by kernel_rfl) ?_ | skip
      try simp -dsimp (disch := first | omega | decide +kernel) only [↓bp0, bd0, bd_NK, reduceIte, Nat.reduceEqDiff, evStore, Nat.reduceAdd, Nat.reduceMul, Int.reduceEq, Int.reduceLT, Int.reduceLE, Nat.reduceLeDiff, List.reduceReplicate, reduceCtorEq, evRange, Nat.reduceLT]
      refine CallY.imm (r_Index l.brs a.br hl) (by rfl) (by rfl) (by first | exact .inl rfl | exact .inr rfl | exact .inr scalB | exact .inr scalI | exact .inr scalT | exact .inr scalM | exact .inr scalMT | exact .inr scalGT) ?_
      try simp -dsimp (disch := first | omega | decide +kernel) only [↓bp0, bd0, bd_NK, reduceIte, Nat.reduceEqDiff, evStore, Nat.reduceAdd, Nat.reduceMul, Int.reduceEq, Int.reduceLT, Int.reduceLE, Nat.reduceLeDiff, List.reduceReplicate, reduceCtorEq, evRange, Nat.reduceLT]
      refine CallY.imm (r_Index l.brs b.br hl) (by rfl) (by rfl) (by first | exact .inl rfl | exact .inr rfl | exact .inr scalB | exact .inr scalI | exact .inr scalT | exact .inr scalM | exact .inr scalMT | exact .inr scalGT) ?_
      simp -dsimp (disch := first | omega | decide +kernel) only [↓bp0, bd0, bd_NK, reduceIte, Nat.reduceEqDiff, evStore, Nat.reduceAdd, Nat.reduceMul, Int.reduceEq, Int.reduceLT, Int.reduceLE, Nat.reduceLeDiff, List.reduceReplicate, reduceCtorEq, evRange, Nat.reduceLT, retQ, resL, finL, newL, flat, tupOf, List.toList_toArray, Tryz.f28, h1, h2]
      rw [befB, if_neg (by rw [Decidable.not_not]; exact h1'), if_neg (by rw [Decidable.not_not]; exact h2')]
      exact leT_one (le1.rfl' (p := bl _)) (fun _ h => by cases h)
abbrev arr (f : Str → Int) (es : List Ev) : List PV := (inL f es).map fun b => PV.lit (.bool b)
theorem lview_at {l : Ldg} (hl0 : lchk l = 0) (hok : LOk l) {k : Nat} {b : Br} (hb : l.brs[k]? = some b) : lview l b.name = (vw l.brs (cnts l) k, 0) ∧ bview l.brs (cnts l) b.name = (vw l.brs (cnts l) k, 0) := by
  have hi := (tok_fits hok.fits).uniq hb
  have h2 : bview l.brs (cnts l) b.name = (vw l.brs (cnts l) k, 0) := by
    rw [bview, if_neg (by rw [Decidable.not_not]; exact hok.fits), hi, if_neg (by omega), Int.toNat_natCast]
  exact ⟨by rw [lview, if_neg (by rw [Decidable.not_not]; exact hl0)]; exact h2, h2⟩
theorem l_Fold (l : Ldg) (x : List Fx) (i n : Int) (hl : l.known.length ≤ 9223372036854775807) (hb : l.brs.length ≤ 9223372036854775807) (hv : l.evs.length ≤ 9223372036854775807) (he : ∀ s ∈ l.evs, s.length ≤ 9223372036854775807)
    (hx : x.length ≤ 9223372036854775807) (hxb : ∀ f ∈ x, f.brs.length ≤ 9223372036854775807) : CallSpec cx 5 [encLdg l, encFxs x, i64 i, i64 n] (bl true) := by
  refine callSpec_of_vc Tryz.func5 rfl (by decide) (by kernel_rfl) (Nat.le_of_ble_eq_true rfl) ?_
  try simp -dsimp (maxSteps := 9^9) (disch := first | omega | decide +kernel) only [↓bp0, bd0, bd_NK, reduceIte, Nat.reduceEqDiff, evStore, Nat.reduceAdd, Nat.reduceMul, Int.reduceEq, Int.reduceLT, Int.reduceLE, Nat.reduceLeDiff, List.reduceReplicate, reduceCtorEq, evRange, Nat.reduceLT, Tryz.f5]
  refine CallQ.imm (l_alive) (by rfl) (by first | rfl | (simp -dsimp (maxSteps := 9^9) (disch := first | omega | decide +kernel) only [↓bp0, bd0, bd_NK, reduceIte, Nat.reduceEqDiff, evStore, Nat.reduceAdd, Nat.reduceMul, Int.reduceEq, Int.reduceLT, Int.reduceLE, Nat.reduceLeDiff, List.reduceReplicate, reduceCtorEq, evRange, Nat.reduceLT, drcs, drc, flat]; done) | simp -dsimp [evl, drcs, drc, flat, i64, u32, bl, encL, encB, encLL]) (by first | exact .inl rfl | exact .inr rfl | exact .inr scalB | exact .inr scalI | exact .inr scalT | exact .inr scalM | exact .inr scalMT | exact .inr scalGT) ?_
  try simp -dsimp (maxSteps := 9^9) (disch := first | omega | decide +kernel) only [↓bp0, bd0, bd_NK, reduceIte, Nat.reduceEqDiff, evStore, Nat.reduceAdd, Nat.reduceMul, Int.reduceEq, Int.reduceLT, Int.reduceLE, Nat.reduceLeDiff, List.reduceReplicate, reduceCtorEq, evRange, Nat.reduceLT]
  refine CallQ.imm (r_Great34 l x hl hb hv he hx hxb) (by rfl) (by first | rfl | (simp -dsimp (maxSteps := 9^9) (disch := first | omega | decide +kernel) only [↓bp0, bd0, bd_NK, reduceIte, Nat.reduceEqDiff, evStore, Nat.reduceAdd, Nat.reduceMul, Int.reduceEq, Int.reduceLT, Int.reduceLE, Nat.reduceLeDiff, List.reduceReplicate, reduceCtorEq, evRange, Nat.reduceLT, drcs, drc, flat]; done) | simp -dsimp [evl, drcs, drc, flat, i64, u32, bl, encL, encB, encLL]) (by first | exact .inl rfl | exact .inr rfl | exact .inr scalB | exact .inr scalI | exact .inr scalT | exact .inr scalM | exact .inr scalMT | exact .inr scalGT) ?_
  cases hg : grt34 l x
  case true =>
    simp -dsimp (maxSteps := 9^9) (disch := first | omega | decide +kernel) only [↓bp0, bd0, bd_NK, reduceIte, Nat.reduceEqDiff, evStore, Nat.reduceAdd, Nat.reduceMul, Int.reduceEq, Int.reduceLT, Int.reduceLE, Nat.reduceLeDiff, List.reduceReplicate, reduceCtorEq, evRange, Nat.reduceLT, retQ, resL, finL, newL, flat, tupOf, List.toList_toArray, Tryz.f5, hg]
    exact leT_one .rfl' (by simp)
  obtain ⟨hz, hn, hx40, hb40⟩ := grt34_no hg
  try simp -dsimp (maxSteps := 9^9) (disch := first | omega | decide +kernel) only [↓bp0, bd0, bd_NK, reduceIte, Nat.reduceEqDiff, evStore, Nat.reduceAdd, Nat.reduceMul, Int.reduceEq, Int.reduceLT, Int.reduceLE, Nat.reduceLeDiff, List.reduceReplicate, reduceCtorEq, evRange, Nat.reduceLT, hg]
  refine CallQ.imm (r_mCheck l x hz hn hx40 hb40) (by rfl) (by first | rfl | (simp -dsimp (maxSteps := 9^9) (disch := first | omega | decide +kernel) only [↓bp0, bd0, bd_NK, reduceIte, Nat.reduceEqDiff, evStore, Nat.reduceAdd, Nat.reduceMul, Int.reduceEq, Int.reduceLT, Int.reduceLE, Nat.reduceLeDiff, List.reduceReplicate, reduceCtorEq, evRange, Nat.reduceLT, drcs, drc, flat]; done) | simp -dsimp [evl, drcs, drc, flat, i64, u32, bl, encL, encB, encLL]) (by first | exact .inl rfl | exact .inr rfl | exact .inr scalB | exact .inr scalI | exact .inr scalT | exact .inr scalM | exact .inr scalMT | exact .inr scalGT) ?_
  cases h0 : decide (mchk l x = 0)
  · simp -dsimp (maxSteps := 9^9) (disch := first | omega | decide +kernel) only [↓bp0, bd0, bd_NK, reduceIte, Nat.reduceEqDiff, evStore, Nat.reduceAdd, Nat.reduceMul, Int.reduceEq, Int.reduceLT, Int.reduceLE, Nat.reduceLeDiff, List.reduceReplicate, reduceCtorEq, evRange, Nat.reduceLT, retQ, resL, finL, newL, flat, tupOf, List.toList_toArray, Tryz.f5, h0]
    exact leT_one .rfl' (by simp)
  cases h1 : decide (i < 0)
  case true =>
    simp -dsimp (maxSteps := 9^9) (disch := first | omega | decide +kernel) only [↓bp0, bd0, bd_NK, reduceIte, Nat.reduceEqDiff, evStore, Nat.reduceAdd, Nat.reduceMul, Int.reduceEq, Int.reduceLT, Int.reduceLE, Nat.reduceLeDiff, List.reduceReplicate, reduceCtorEq, evRange, Nat.reduceLT, retQ, resL, finL, newL, flat, tupOf, List.toList_toArray, Tryz.f5, h0, h1]
    exact leT_one .rfl' (by simp)
  cases h2 : decide ((l.brs.length : Int) ≤ i)
  case true =>
    simp -dsimp (maxSteps := 9^9) (disch := first | omega | decide +kernel) only [↓bp0, bd0, bd_NK, reduceIte, Nat.reduceEqDiff, evStore, Nat.reduceAdd, Nat.reduceMul, Int.reduceEq, Int.reduceLT, Int.reduceLE, Nat.reduceLeDiff, List.reduceReplicate, reduceCtorEq, evRange, Nat.reduceLT, retQ, resL, finL, newL, flat, tupOf, List.toList_toArray, Tryz.f5, h0, h1, h2]
    exact leT_one .rfl' (by simp)
  have h0' := of_decide_eq_true h0
  have h1' := of_decide_eq_false h1
  have h2' := of_decide_eq_false h2
  obtain ⟨k, rfl⟩ : ∃ k : Nat, i = k := ⟨i.toNat, by omega⟩
  have hk : k < l.brs.length := by omega
  obtain ⟨hl0, hx30, _⟩ := mchk_zero h0'
  have hok := lok_of hl0
  have hbk : l.brs[k]? = some l.brs[k] := List.getElem?_eq_getElem hk
  obtain ⟨e1, e2⟩ := lview_at hl0 hok hbk
  obtain ⟨q1, q2, q3, q4⟩ := fold_pre (l := l) (n := l.brs[k].name) (by rw [e1])
  have e3 : (lview l l.brs[k].name).1 = vw l.brs (cnts l) k := by rw [e1]
  rw [e3] at q2 q3 q4
  have cV := r_View l.brs (cnts l) l.brs[k].name (by have := hz.brs; omega) (by rw [cnts_len]; have := hz.evs; omega) hn.brs
  rw [e2] at cV
  simp only at cV
  have hle := hok.vok.le8
  have hvl : (vw l.brs (cnts l) k).length ≤ 2^30 := by
    obtain ⟨b, c, hb, hc, _, _⟩ := hok.vok.at hk
    have := hok.vok.length k hk hb hc
    have := hok.vok.at_ k b hb
    omega
  have hlaf : ∀ N : Nat, N ≤ (vw l.brs (cnts l) k).length → laft l l.brs[k].name (N : Int) = (effE l.known (seenE l ((vw l.brs (cnts l) k).take N)), 0) := fun N hN => by
    rw [laft, e1]
    simp only
    rw [if_neg (by simp), if_neg (by omega), Int.toNat_natCast]
  have hlef : leff l l.brs[k].name = (effE l.known (seenE l (vw l.brs (cnts l) k)), 0) := by
    rw [leff, e1]
    simp only
    rw [if_neg (by simp)]
  have hGe : gapR l x = gapL l x := by rw [gapR, if_neg (by rw [Decidable.not_not]; exact h0')]
  have hGl : (gapL l x).length ≤ 2^20 := gapL_len h0'
  have cG := m_Gaps l x hz hx40 hb40
  rw [hGe, h0'] at cG
  have cT := fun n => m_Then l x l.brs[k].name n hz hx40 hb40
  have hthen : ∀ N : Nat, N ≤ (vw l.brs (cnts l) k).length → mthen l x l.brs[k].name (N : Int) = (o1 x [(l.brs[k].name, effE l.known (seenE l ((vw l.brs (cnts l) k).take N)))] 9, 0) := fun N hN => by
    rw [mthen, if_neg (by rw [Decidable.not_not]; exact h0'), hlaf N hN]
    simp only
    rw [if_neg (by simp)]
  have hown := own_gapL h0' ⟨k, hk⟩
  have hname : (l.brs[(⟨k, hk⟩ : Fin l.brs.length)]).name = l.brs[k].name := rfl
  rw [hname, hlef] at hown
  have hcnt := fun inn {f : Fx} (hf : f ∈ x) => o1_cnt h0' ⟨k, hk⟩ inn hf
  have hmem := fun inn {g : Gp} (hg : g ∈ o1 x [((l.brs[(⟨k, hk⟩ : Fin l.brs.length)]).name, inn)] 9) => o1_mem h0' ⟨k, hk⟩ inn hg
  have holen := fun inn => o1_len h0' ⟨k, hk⟩ inn
  have holx : ∀ inn, (o1 x [((l.brs[(⟨k, hk⟩ : Fin l.brs.length)]).name, inn)] 9).length ≤ x.length := fun inn => by rw [(o1_perm h0' ⟨k, hk⟩ inn).length_eq]; exact gapsOf_len
  have hfu := fun {f g : Fx} => fx_uniq (l := l) (x := x) h0' (f := f) (g := g)
  have hbef := fun {j : Nat} {a b : Gp} => bef_gapL h0' (k := j) (a := a) (b := b)
  rw [hname] at hcnt hmem holen holx
  have hfx := fun {f : Fx} => mchk_fx h0' (f := f)
  generalize hnm : l.brs[k].name = nm at cV cT hthen hown hcnt hmem holen holx
  generalize vw l.brs (cnts l) k = v at cV q2 q3 q4 hvl hthen hown
  try simp -dsimp (maxSteps := 9^9) (disch := first | omega | decide +kernel) only [↓bp0, bd0, bd_NK, reduceIte, Nat.reduceEqDiff, evStore, Nat.reduceAdd, Nat.reduceMul, Int.reduceEq, Int.reduceLT, Int.reduceLE, Nat.reduceLeDiff, List.reduceReplicate, reduceCtorEq, evRange, Nat.reduceLT, h0, h1, h2, hbk, hnm, uUn, Option.bind_some]
  first | refine vc_text (by kernel_rfl) ?_ | skip
  try simp -dsimp (maxSteps := 9^9) (disch := first | omega | decide +kernel) only [↓bp0, bd0, bd_NK, reduceIte, Nat.reduceEqDiff, evStore, Nat.reduceAdd, Nat.reduceMul, Int.reduceEq, Int.reduceLT, Int.reduceLE, Nat.reduceLeDiff, List.reduceReplicate, reduceCtorEq, evRange, Nat.reduceLT]
  refine CallY.imm (r_Counts l hz.evs hz.ev) (by rfl) (by first | rfl | (simp -dsimp (maxSteps := 9^9) (disch := first | omega | decide +kernel) only [↓bp0, bd0, bd_NK, reduceIte, Nat.reduceEqDiff, evStore, Nat.reduceAdd, Nat.reduceMul, Int.reduceEq, Int.reduceLT, Int.reduceLE, Nat.reduceLeDiff, List.reduceReplicate, reduceCtorEq, evRange, Nat.reduceLT, drcs, drc, flat]; done) | simp -dsimp [evl, drcs, drc, flat, i64, u32, bl, encL, encB, encLL]) (by first | exact .inl rfl | exact .inr rfl | exact .inr scalB | exact .inr scalI | exact .inr scalT | exact .inr scalM | exact .inr scalMT | exact .inr scalGT) ?_
  try simp -dsimp (maxSteps := 9^9) (disch := first | omega | decide +kernel) only [↓bp0, bd0, bd_NK, reduceIte, Nat.reduceEqDiff, evStore, Nat.reduceAdd, Nat.reduceMul, Int.reduceEq, Int.reduceLT, Int.reduceLE, Nat.reduceLeDiff, List.reduceReplicate, reduceCtorEq, evRange, Nat.reduceLT]
  refine CallY.imm (cV) (by rfl) (by first | rfl | (simp -dsimp (maxSteps := 9^9) (disch := first | omega | decide +kernel) only [↓bp0, bd0, bd_NK, reduceIte, Nat.reduceEqDiff, evStore, Nat.reduceAdd, Nat.reduceMul, Int.reduceEq, Int.reduceLT, Int.reduceLE, Nat.reduceLeDiff, List.reduceReplicate, reduceCtorEq, evRange, Nat.reduceLT, drcs, drc, flat, newI, encL]; done) | simp -dsimp [evl, drcs, drc, flat, i64, u32, bl, encL, encB, encLL]) (by first | exact .inl rfl | exact .inr rfl | exact .inr scalB | exact .inr scalI | exact .inr scalT | exact .inr scalM | exact .inr scalMT | exact .inr scalGT) ?_
  clear cV
  have hc3 : n < 0 ∨ (v.length : Int) < n ∨ ∃ N : Nat, n = N ∧ N ≤ v.length := by
    rcases (by omega : n < 0 ∨ (v.length : Int) < n ∨ (0 ≤ n ∧ n ≤ v.length)) with h | h | h
    · exact .inl h
    · exact .inr (.inl h)
    · exact .inr (.inr ⟨n.toNat, by omega, by omega⟩)
  have hclr := fun c => cls0_range q1.kw c
  have hkl := q1.known
  have harr0 : arr (cls0 l.known) [] = [.lit (.bool false), .lit (.bool false), .lit (.bool false), .lit (.bool false), .lit (.bool false), .lit (.bool false), .lit (.bool false), .lit (.bool false), .lit (.bool false), .lit (.bool false), .lit (.bool false), .lit (.bool false), .lit (.bool false), .lit (.bool false), .lit (.bool false), .lit (.bool false), .lit (.bool false), .lit (.bool false), .lit (.bool false), .lit (.bool false), .lit (.bool false), .lit (.bool false), .lit (.bool false), .lit (.bool false), .lit (.bool false), .lit (.bool false), .lit (.bool false), .lit (.bool false), .lit (.bool false), .lit (.bool false)] := rfl
  apply share
  case h =>
    intro hbody
    rcases hc3 with hc | hc | ⟨N, rfl, hc⟩
    · have d1 : decide (n < 0) = true := decide_eq_true hc
      try simp -dsimp (maxSteps := 9^9) (disch := first | omega | decide +kernel) only [↓bp0, bd0, bd_NK, reduceIte, Nat.reduceEqDiff, evStore, Nat.reduceAdd, Nat.reduceMul, Int.reduceEq, Int.reduceLT, Int.reduceLE, Nat.reduceLeDiff, List.reduceReplicate, reduceCtorEq, evRange, Nat.reduceLT, d1]
      refine CallQ.imm (r_Seen l v v.length q2 hvl) (by rfl) (by first | rfl | (simp -dsimp (maxSteps := 9^9) (disch := first | omega | decide +kernel) only [↓bp0, bd0, bd_NK, reduceIte, Nat.reduceEqDiff, evStore, Nat.reduceAdd, Nat.reduceMul, Int.reduceEq, Int.reduceLT, Int.reduceLE, Nat.reduceLeDiff, List.reduceReplicate, reduceCtorEq, evRange, Nat.reduceLT, drcs, drc, flat]; done) | simp -dsimp [evl, drcs, drc, flat, i64, u32, bl, encL, encB, encLL]) (by first | exact .inl rfl | exact .inr rfl | exact .inr scalB | exact .inr scalI | exact .inr scalT | exact .inr scalM | exact .inr scalMT | exact .inr scalGT) ?_
      try simp -dsimp (maxSteps := 9^9) (disch := first | omega | decide +kernel) only [↓bp0, bd0, bd_NK, reduceIte, Nat.reduceEqDiff, evStore, Nat.reduceAdd, Nat.reduceMul, Int.reduceEq, Int.reduceLT, Int.reduceLE, Nat.reduceLeDiff, List.reduceReplicate, reduceCtorEq, evRange, Nat.reduceLT, newEvs]
      refine LoopQ.rule (fun m st => ∃ (N j : Nat), N ≤ v.length ∧ j ≤ (seenE l (v.take N)).length ∧ m = (seenE l (v.take N)).length - j ∧
        st = ⟨mkE [(1, encFxs x), (3, i64 N), (4, .ptr 0 0 0 0), (9, bl true), (10, str nm), (11, encMks v), (13, encEvs (seenE l (v.take N))), (14, .ptr 1 0 0 0), (15, i64 j)],
          mkS [(0, .row 0 3 [[encKws l.known, encBrs l.brs, encEvss l.evs]] false), (1, .row 0 30 [arr (cls0 l.known) ((seenE l (v.take N)).take j)] false)], 2⟩) _ _ (weak_of ?_)
        ⟨v.length, 0, by omega, by omega, rfl, rfl⟩ hbody
      first | (simp -dsimp (maxSteps := 9^9) (disch := first | omega | decide +kernel) only [↓bp0, bd0, bd_NK, reduceIte, Nat.reduceEqDiff, evStore, Nat.reduceAdd, Nat.reduceMul, Int.reduceEq, Int.reduceLT, Int.reduceLE, Nat.reduceLeDiff, List.reduceReplicate, reduceCtorEq, evRange, Nat.reduceLT, harr0, List.take_zero]; done) | simp -dsimp [evl, putN, i64, u32, bl, encL, encB, encLL, harr0, List.take_zero]
    · have d1 : decide (n < 0) = false := decide_eq_false (by omega)
      have d2 : decide ((v.length : Int) < n) = true := decide_eq_true hc
      try simp -dsimp (maxSteps := 9^9) (disch := first | omega | decide +kernel) only [↓bp0, bd0, bd_NK, reduceIte, Nat.reduceEqDiff, evStore, Nat.reduceAdd, Nat.reduceMul, Int.reduceEq, Int.reduceLT, Int.reduceLE, Nat.reduceLeDiff, List.reduceReplicate, reduceCtorEq, evRange, Nat.reduceLT, d1, d2]
      refine CallQ.imm (r_Seen l v v.length q2 hvl) (by rfl) (by first | rfl | (simp -dsimp (maxSteps := 9^9) (disch := first | omega | decide +kernel) only [↓bp0, bd0, bd_NK, reduceIte, Nat.reduceEqDiff, evStore, Nat.reduceAdd, Nat.reduceMul, Int.reduceEq, Int.reduceLT, Int.reduceLE, Nat.reduceLeDiff, List.reduceReplicate, reduceCtorEq, evRange, Nat.reduceLT, drcs, drc, flat]; done) | simp -dsimp [evl, drcs, drc, flat, i64, u32, bl, encL, encB, encLL]) (by first | exact .inl rfl | exact .inr rfl | exact .inr scalB | exact .inr scalI | exact .inr scalT | exact .inr scalM | exact .inr scalMT | exact .inr scalGT) ?_
      try simp -dsimp (maxSteps := 9^9) (disch := first | omega | decide +kernel) only [↓bp0, bd0, bd_NK, reduceIte, Nat.reduceEqDiff, evStore, Nat.reduceAdd, Nat.reduceMul, Int.reduceEq, Int.reduceLT, Int.reduceLE, Nat.reduceLeDiff, List.reduceReplicate, reduceCtorEq, evRange, Nat.reduceLT, newEvs]
      refine LoopQ.rule (fun m st => ∃ (N j : Nat), N ≤ v.length ∧ j ≤ (seenE l (v.take N)).length ∧ m = (seenE l (v.take N)).length - j ∧
        st = ⟨mkE [(1, encFxs x), (3, i64 N), (4, .ptr 0 0 0 0), (9, bl true), (10, str nm), (11, encMks v), (13, encEvs (seenE l (v.take N))), (14, .ptr 1 0 0 0), (15, i64 j)],
          mkS [(0, .row 0 3 [[encKws l.known, encBrs l.brs, encEvss l.evs]] false), (1, .row 0 30 [arr (cls0 l.known) ((seenE l (v.take N)).take j)] false)], 2⟩) _ _ (weak_of ?_)
        ⟨v.length, 0, by omega, by omega, rfl, rfl⟩ hbody
      first | (simp -dsimp (maxSteps := 9^9) (disch := first | omega | decide +kernel) only [↓bp0, bd0, bd_NK, reduceIte, Nat.reduceEqDiff, evStore, Nat.reduceAdd, Nat.reduceMul, Int.reduceEq, Int.reduceLT, Int.reduceLE, Nat.reduceLeDiff, List.reduceReplicate, reduceCtorEq, evRange, Nat.reduceLT, harr0, List.take_zero]; done) | simp -dsimp [evl, putN, i64, u32, bl, encL, encB, encLL, harr0, List.take_zero]
    · have d1 : decide ((N : Int) < 0) = false := decide_eq_false (by omega)
      have d2 : decide ((v.length : Int) < (N : Int)) = false := decide_eq_false (by omega)
      try simp -dsimp (maxSteps := 9^9) (disch := first | omega | decide +kernel) only [↓bp0, bd0, bd_NK, reduceIte, Nat.reduceEqDiff, evStore, Nat.reduceAdd, Nat.reduceMul, Int.reduceEq, Int.reduceLT, Int.reduceLE, Nat.reduceLeDiff, List.reduceReplicate, reduceCtorEq, evRange, Nat.reduceLT, d1, d2]
      refine CallQ.imm (r_Seen l v N q2 hvl) (by rfl) (by first | rfl | (simp -dsimp (maxSteps := 9^9) (disch := first | omega | decide +kernel) only [↓bp0, bd0, bd_NK, reduceIte, Nat.reduceEqDiff, evStore, Nat.reduceAdd, Nat.reduceMul, Int.reduceEq, Int.reduceLT, Int.reduceLE, Nat.reduceLeDiff, List.reduceReplicate, reduceCtorEq, evRange, Nat.reduceLT, drcs, drc, flat]; done) | simp -dsimp [evl, drcs, drc, flat, i64, u32, bl, encL, encB, encLL]) (by first | exact .inl rfl | exact .inr rfl | exact .inr scalB | exact .inr scalI | exact .inr scalT | exact .inr scalM | exact .inr scalMT | exact .inr scalGT) ?_
      try simp -dsimp (maxSteps := 9^9) (disch := first | omega | decide +kernel) only [↓bp0, bd0, bd_NK, reduceIte, Nat.reduceEqDiff, evStore, Nat.reduceAdd, Nat.reduceMul, Int.reduceEq, Int.reduceLT, Int.reduceLE, Nat.reduceLeDiff, List.reduceReplicate, reduceCtorEq, evRange, Nat.reduceLT, newEvs]
      refine LoopQ.rule (fun m st => ∃ (N j : Nat), N ≤ v.length ∧ j ≤ (seenE l (v.take N)).length ∧ m = (seenE l (v.take N)).length - j ∧
        st = ⟨mkE [(1, encFxs x), (3, i64 N), (4, .ptr 0 0 0 0), (9, bl true), (10, str nm), (11, encMks v), (13, encEvs (seenE l (v.take N))), (14, .ptr 1 0 0 0), (15, i64 j)],
          mkS [(0, .row 0 3 [[encKws l.known, encBrs l.brs, encEvss l.evs]] false), (1, .row 0 30 [arr (cls0 l.known) ((seenE l (v.take N)).take j)] false)], 2⟩) _ _ (weak_of ?_)
        ⟨N, 0, hc, by omega, rfl, rfl⟩ hbody
      first | (simp -dsimp (maxSteps := 9^9) (disch := first | omega | decide +kernel) only [↓bp0, bd0, bd_NK, reduceIte, Nat.reduceEqDiff, evStore, Nat.reduceAdd, Nat.reduceMul, Int.reduceEq, Int.reduceLT, Int.reduceLE, Nat.reduceLeDiff, List.reduceReplicate, reduceCtorEq, evRange, Nat.reduceLT, harr0, List.take_zero]; done) | simp -dsimp [evl, putN, i64, u32, bl, encL, encB, encLL, harr0, List.take_zero]
  rintro m st ⟨N, j, hN, hj, rfl, rfl⟩
  have hkn : ∀ e ∈ seenE l (v.take N), (clsOf l.known e.chg).isSome = true := fun e he => q3 e (by rw [seenE_take] at he; exact List.mem_of_mem_take he)
  have hthN := hthen N hN
  have hcN := cT (N : Int)
  rw [hthN] at hcN
  have hsl : (seenE l (v.take N)).length ≤ 2^30 := by rw [seenE, List.length_map, List.length_take]; omega
  clear hthN
  try simp -dsimp (maxSteps := 9^9) (disch := first | omega | decide +kernel) only [↓bp0, bd0, bd_NK, reduceIte, Nat.reduceEqDiff, evStore, Nat.reduceAdd, Nat.reduceMul, Int.reduceEq, Int.reduceLT, Int.reduceLE, Nat.reduceLeDiff, List.reduceReplicate, reduceCtorEq, evRange, Nat.reduceLT, encEvs, List.length_map]
  refine onC_nlt (fun h3 => ?_) (fun h3 => ?_)
  · obtain ⟨e, hex, hem⟩ := get_of_lt h3
    have hk1 := hkn e hem
    obtain ⟨c, hc⟩ := Option.isSome_iff_exists.1 hk1
    have hc0 : cls0 l.known e.chg = c := by rw [cls0, hc]; rfl
    have hcI : clsI l.known e.chg = c := by rw [clsI, hc]; rfl
    have hcr := hclr e.chg
    rw [hc0] at hcr
    obtain ⟨cn, rfl⟩ : ∃ cn : Nat, c = cn := ⟨c.toNat, by omega⟩
    have hcn : cn < 30 := by omega
    have hput : (arr (cls0 l.known) ((seenE l (v.take N)).take j)).set cn (.lit (.bool (!decide (e.kind = 3)))) = arr (cls0 l.known) ((seenE l (v.take N)).take (j + 1)) := by
      rw [take_succ hex, arr, arr, ← inL_put (f := cls0 l.known) (by rw [hc0]; omega), hc0, List.map_set, Int.toNat_natCast]
      congr 2
      simp
    have hal : (arr (cls0 l.known) ((seenE l (v.take N)).take j)).length = 30 := by rw [arr, List.length_map, inL_len]
    have hcl := r_Class l e.chg hz.known
    rw [hcI] at hcl
    generalize arr (cls0 l.known) ((seenE l (v.take N)).take j) = A at hput hal ⊢
    try simp -dsimp (maxSteps := 9^9) (disch := first | omega | decide +kernel) only [↓bp0, bd0, bd_NK, reduceIte, Nat.reduceEqDiff, evStore, Nat.reduceAdd, Nat.reduceMul, Int.reduceEq, Int.reduceLT, Int.reduceLE, Nat.reduceLeDiff, List.reduceReplicate, reduceCtorEq, evRange, Nat.reduceLT, hex, encEvs]
    refine vc_regJ (fun τ => τ 0 = some (.row 0 3 [[encKws l.known, encBrs l.brs, encEvss l.evs]] false) ∧ τ 1 = some (.row 0 30 [A] false)) [0, 1, 2, 3, 4, 5, 6, 7, 8, 9, 10, 11, 12, 13] [] (by kernel_rfl) (by kernel_rfl) ?_ ?_
    · exact ⟨(by simp -dsimp (maxSteps := 9^9) (disch := first | omega | decide +kernel) only [↓bp0, bd0, bd_NK, reduceIte, Nat.reduceEqDiff, evStore, Nat.reduceAdd, Nat.reduceMul, Int.reduceEq, Int.reduceLT, Int.reduceLE, Nat.reduceLeDiff, List.reduceReplicate, reduceCtorEq, evRange, Nat.reduceLT]), (by simp -dsimp (maxSteps := 9^9) (disch := first | omega | decide +kernel) only [↓bp0, bd0, bd_NK, reduceIte, Nat.reduceEqDiff, evStore, Nat.reduceAdd, Nat.reduceMul, Int.reduceEq, Int.reduceLT, Int.reduceLE, Nat.reduceLeDiff, List.reduceReplicate, reduceCtorEq, evRange, Nat.reduceLT])⟩
    try simp -dsimp (maxSteps := 9^9) (disch := first | omega | decide +kernel) only [↓bp0, bd0, bd_NK, reduceIte, Nat.reduceEqDiff, evStore, Nat.reduceAdd, Nat.reduceMul, Int.reduceEq, Int.reduceLT, Int.reduceLE, Nat.reduceLeDiff, List.reduceReplicate, reduceCtorEq, evRange, Nat.reduceLT, vcj, implies_true, hex, encEvs]
    refine ⟨fun τ hτ => by simp -dsimp (maxSteps := 9^9) (disch := first | omega | decide +kernel) only [↓bp0, bd0, bd_NK, reduceIte, Nat.reduceEqDiff, evStore, Nat.reduceAdd, Nat.reduceMul, Int.reduceEq, Int.reduceLT, Int.reduceLE, Nat.reduceLeDiff, List.reduceReplicate, reduceCtorEq, evRange, Nat.reduceLT, hτ.1], ?_⟩
    refine CallJ.imm (hcl) (fun _ _ => by rfl) (fun _ _ => by rfl) (by first | exact .inl rfl | exact .inr rfl | exact .inr scalB | exact .inr scalI | exact .inr scalT | exact .inr scalM | exact .inr scalMT | exact .inr scalGT) ?_
    have h29 : (cn ≤ 29) = True := by simp; omega
    try simp -dsimp (maxSteps := 9^9) (disch := first | omega | decide +kernel) only [↓bp0, bd0, bd_NK, reduceIte, Nat.reduceEqDiff, evStore, Nat.reduceAdd, Nat.reduceMul, Int.reduceEq, Int.reduceLT, Int.reduceLE, Nat.reduceLeDiff, List.reduceReplicate, reduceCtorEq, evRange, Nat.reduceLT, vcj, implies_true, hex, encEvs, hcn, hal, h29, Nat.mul_one]
    refine ⟨.inl (by kernel_rfl), ?_⟩
    try simp -dsimp (maxSteps := 9^9) (disch := first | omega | decide +kernel) only [↓bp0, bd0, bd_NK, reduceIte, Nat.reduceEqDiff, evStore, Nat.reduceAdd, Nat.reduceMul, Int.reduceEq, Int.reduceLT, Int.reduceLE, Nat.reduceLeDiff, List.reduceReplicate, reduceCtorEq, evRange, Nat.reduceLT]
    refine ⟨_, _, ?_, weak_of ?_, N, j + 1, hN, h3, rfl, rfl⟩
    · omega
    · first | (simp -dsimp (maxSteps := 9^9) (disch := first | omega | decide +kernel) only [↓bp0, bd0, bd_NK, reduceIte, Nat.reduceEqDiff, evStore, Nat.reduceAdd, Nat.reduceMul, Int.reduceEq, Int.reduceLT, Int.reduceLE, Nat.reduceLeDiff, List.reduceReplicate, reduceCtorEq, evRange, Nat.reduceLT, hput, wrapS h3 (show (seenE l (v.take N)).length ≤ 9223372036854775807 by omega), encEvs]; done) | simp -dsimp [evl, putN, i64, u32, bl, encL, encB, encLL, hput, wrapS h3 (show (seenE l (v.take N)).length ≤ 9223372036854775807 by omega), encEvs]
  · have htj : (seenE l (v.take N)).take j = seenE l (v.take N) := List.take_of_length_le (by omega)
    rw [htj]
    have hif : ∀ c : Nat, c < 30 → (arr (cls0 l.known) (seenE l (v.take N)))[c]? = some (.lit (.bool (inB (cls0 l.known) (seenE l (v.take N)) c))) := fun c hc => by rw [arr, List.getElem?_map, inL_get hc]; rfl
    have hal : (arr (cls0 l.known) (seenE l (v.take N))).length = 30 := by rw [arr, List.length_map, inL_len]
    have hwa : ∀ f ∈ x, wantB nm (effE l.known (seenE l (v.take N))) f = ((f.brs.any fun y => decide (nm = y)) && !inB (cls0 l.known) (seenE l (v.take N)) f.cls) := fun f hf => by
      have := hfx hf
      rw [wantB, effE, eff_any (by omega)]
    generalize arr (cls0 l.known) (seenE l (v.take N)) = A at hif hal ⊢
    have hc1 := fun {f : Fx} (hf : f ∈ x) => hcnt (effE l.known (seenE l (v.take N))) hf
    have hm1 := fun {g : Gp} => hmem (effE l.known (seenE l (v.take N))) (g := g)
    have ho1 := holen (effE l.known (seenE l (v.take N)))
    have ho2 := holx (effE l.known (seenE l (v.take N)))
    generalize o1 x [(nm, effE l.known (seenE l (v.take N)))] 9 = G1 at hcN hc1 hm1 ho1 ho2
    try simp -dsimp (maxSteps := 9^9) (disch := first | omega | decide +kernel) only [↓bp0, bd0, bd_NK, reduceIte, Nat.reduceEqDiff, evStore, Nat.reduceAdd, Nat.reduceMul, Int.reduceEq, Int.reduceLT, Int.reduceLE, Nat.reduceLeDiff, List.reduceReplicate, reduceCtorEq, evRange, Nat.reduceLT, encEvs, List.length_map]
    refine CallQ.imm (hcN) (by rfl) (by first | rfl | (simp -dsimp (maxSteps := 9^9) (disch := first | omega | decide +kernel) only [↓bp0, bd0, bd_NK, reduceIte, Nat.reduceEqDiff, evStore, Nat.reduceAdd, Nat.reduceMul, Int.reduceEq, Int.reduceLT, Int.reduceLE, Nat.reduceLeDiff, List.reduceReplicate, reduceCtorEq, evRange, Nat.reduceLT, drcs, drc, flat]; done) | simp -dsimp [evl, drcs, drc, flat, i64, u32, bl, encL, encB, encLL]) (by first | exact .inl rfl | exact .inr rfl | exact .inr scalB | exact .inr scalI | exact .inr scalT | exact .inr scalM | exact .inr scalMT | exact .inr scalGT) ?_
    try simp -dsimp (maxSteps := 9^9) (disch := first | omega | decide +kernel) only [↓bp0, bd0, bd_NK, reduceIte, Nat.reduceEqDiff, evStore, Nat.reduceAdd, Nat.reduceMul, Int.reduceEq, Int.reduceLT, Int.reduceLE, Nat.reduceLeDiff, List.reduceReplicate, reduceCtorEq, evRange, Nat.reduceLT, newGps]
    refine LoopQ.rule (fun m st => ∃ (j : Nat), j ≤ x.length ∧ m = x.length - j ∧
      st = ⟨mkE [(1, encFxs x), (4, .ptr 0 0 0 0), (9, bl true), (10, str nm), (11, encMks v), (14, .ptr 1 0 0 0), (16, encGps G1), (18, i64 j)],
        mkS [(0, .row 0 3 [[encKws l.known, encBrs l.brs, encEvss l.evs]] false), (1, .row 0 30 [A] false)], 2⟩) _ _ (weak_of ?_)
      ⟨0, by omega, rfl, rfl⟩ ?_
    · first | (simp -dsimp (maxSteps := 9^9) (disch := first | omega | decide +kernel) only [↓bp0, bd0, bd_NK, reduceIte, Nat.reduceEqDiff, evStore, Nat.reduceAdd, Nat.reduceMul, Int.reduceEq, Int.reduceLT, Int.reduceLE, Nat.reduceLeDiff, List.reduceReplicate, reduceCtorEq, evRange, Nat.reduceLT, encGps]; done) | simp -dsimp [evl, putN, i64, u32, bl, encL, encB, encLL, encGps]
    rintro m st ⟨j2, hj2, rfl, rfl⟩
    try simp -dsimp (maxSteps := 9^9) (disch := first | omega | decide +kernel) only [↓bp0, bd0, bd_NK, reduceIte, Nat.reduceEqDiff, evStore, Nat.reduceAdd, Nat.reduceMul, Int.reduceEq, Int.reduceLT, Int.reduceLE, Nat.reduceLeDiff, List.reduceReplicate, reduceCtorEq, evRange, Nat.reduceLT]
    refine onC_nlt (fun h4 => ?_) (fun h4 => ?_)
    · obtain ⟨f, hf, hfm⟩ := get_of_lt h4
      have hcf := hc1 hfm
      have hwf := hwa f hfm
      have hfr := hfx hfm
      try simp -dsimp (maxSteps := 9^9) (disch := first | omega | decide +kernel) only [↓bp0, bd0, bd_NK, reduceIte, Nat.reduceEqDiff, evStore, Nat.reduceAdd, Nat.reduceMul, Int.reduceEq, Int.reduceLT, Int.reduceLE, Nat.reduceLeDiff, List.reduceReplicate, reduceCtorEq, evRange, Nat.reduceLT]
      refine LoopQ.rule (fun m st => ∃ (k2 : Nat), k2 ≤ G1.length ∧ m = G1.length - k2 ∧
        st = ⟨mkE [(1, encFxs x), (4, .ptr 0 0 0 0), (9, bl true), (10, str nm), (11, encMks v), (14, .ptr 1 0 0 0), (16, encGps G1), (18, i64 j2), (19, i64 (cntC f.cls (G1.take k2))), (20, i64 k2)],
          mkS [(0, .row 0 3 [[encKws l.known, encBrs l.brs, encEvss l.evs]] false), (1, .row 0 30 [A] false)], 2⟩) _ _ (weak_of ?_)
        ⟨0, by omega, rfl, rfl⟩ ?_
      · first | (simp -dsimp (maxSteps := 9^9) (disch := first | omega | decide +kernel) only [↓bp0, bd0, bd_NK, reduceIte, Nat.reduceEqDiff, evStore, Nat.reduceAdd, Nat.reduceMul, Int.reduceEq, Int.reduceLT, Int.reduceLE, Nat.reduceLeDiff, List.reduceReplicate, reduceCtorEq, evRange, Nat.reduceLT, encGps, List.take_zero, cntC]; done) | simp -dsimp [evl, putN, i64, u32, bl, encL, encB, encLL, encGps, List.take_zero, cntC]
      rintro m st ⟨k2, hk2, rfl, rfl⟩
      try simp -dsimp (maxSteps := 9^9) (disch := first | omega | decide +kernel) only [↓bp0, bd0, bd_NK, reduceIte, Nat.reduceEqDiff, evStore, Nat.reduceAdd, Nat.reduceMul, Int.reduceEq, Int.reduceLT, Int.reduceLE, Nat.reduceLeDiff, List.reduceReplicate, reduceCtorEq, evRange, Nat.reduceLT, encGps, List.length_map]
      refine onC_nlt (fun h5 => ?_) (fun h5 => ?_)
      · obtain ⟨g, hgx, hgm⟩ := get_of_lt h5
        obtain ⟨hg1, f', hf', hg2, hg3⟩ := hm1 hgm
        have hts : cntC f.cls (G1.take (k2 + 1)) = cntC f.cls (G1.take k2) + if g.cls = f.cls then 1 else 0 := by rw [take_succ hgx, cntC_snoc]
        have hcl := cntC_le (c := f.cls) (G1.take k2)
        rw [List.length_take] at hcl
        have hd1 : decide (g.br = nm) = true := decide_eq_true hg1
        try simp -dsimp (maxSteps := 9^9) (disch := first | omega | decide +kernel) only [↓bp0, bd0, bd_NK, reduceIte, Nat.reduceEqDiff, evStore, Nat.reduceAdd, Nat.reduceMul, Int.reduceEq, Int.reduceLT, Int.reduceLE, Nat.reduceLeDiff, List.reduceReplicate, reduceCtorEq, evRange, Nat.reduceLT, hgx, hf, encGps]
        cases h6 : decide (g.cls = f.cls)
        · rw [if_neg (of_decide_eq_false h6), Nat.add_zero] at hts
          try simp -dsimp (maxSteps := 9^9) (disch := first | omega | decide +kernel) only [↓bp0, bd0, bd_NK, reduceIte, Nat.reduceEqDiff, evStore, Nat.reduceAdd, Nat.reduceMul, Int.reduceEq, Int.reduceLT, Int.reduceLE, Nat.reduceLeDiff, List.reduceReplicate, reduceCtorEq, evRange, Nat.reduceLT, h6]
          refine ⟨_, _, ?_, weak_of ?_, k2 + 1, h5, rfl, rfl⟩
          · omega
          · first | (simp -dsimp (maxSteps := 9^9) (disch := first | omega | decide +kernel) only [↓bp0, bd0, bd_NK, reduceIte, Nat.reduceEqDiff, evStore, Nat.reduceAdd, Nat.reduceMul, Int.reduceEq, Int.reduceLT, Int.reduceLE, Nat.reduceLeDiff, List.reduceReplicate, reduceCtorEq, evRange, Nat.reduceLT, hts, wrapS h5 (show G1.length ≤ 9223372036854775807 by omega), encGps]; done) | simp -dsimp [evl, putN, i64, u32, bl, encL, encB, encLL, hts, wrapS h5 (show G1.length ≤ 9223372036854775807 by omega), encGps]
        · rw [if_pos (of_decide_eq_true h6)] at hts
          have hff : f' = f := hfu hf' hfm (by rw [← hg2]; exact of_decide_eq_true h6)
          have hd2 : decide (g.wgt = f.wgt) = true := decide_eq_true (by rw [hg3, hff])
          have hw1 : IntKind.i64.wrap ((cntC f.cls (G1.take k2) : Int) + 1) = ((cntC f.cls (G1.take (k2 + 1)) : Nat) : Int) := by
            rw [hts, IntWalk.i64_in _ (by omega)]; omega
          try simp -dsimp (maxSteps := 9^9) (disch := first | omega | decide +kernel) only [↓bp0, bd0, bd_NK, reduceIte, Nat.reduceEqDiff, evStore, Nat.reduceAdd, Nat.reduceMul, Int.reduceEq, Int.reduceLT, Int.reduceLE, Nat.reduceLeDiff, List.reduceReplicate, reduceCtorEq, evRange, Nat.reduceLT, h6, hw1, hgx, hf, hd1, hd2, encGps]
          first | refine vc_text (by kernel_rfl) ?_ | skip
          try simp -dsimp (maxSteps := 9^9) (disch := first | omega | decide +kernel) only [↓bp0, bd0, bd_NK, reduceIte, Nat.reduceEqDiff, evStore, Nat.reduceAdd, Nat.reduceMul, Int.reduceEq, Int.reduceLT, Int.reduceLE, Nat.reduceLeDiff, List.reduceReplicate, reduceCtorEq, evRange, Nat.reduceLT, hgx, hf, hd1, hd2, encGps]
          refine ⟨_, _, ?_, weak_of ?_, k2 + 1, h5, rfl, rfl⟩
          · omega
          · first | (simp -dsimp (maxSteps := 9^9) (disch := first | omega | decide +kernel) only [↓bp0, bd0, bd_NK, reduceIte, Nat.reduceEqDiff, evStore, Nat.reduceAdd, Nat.reduceMul, Int.reduceEq, Int.reduceLT, Int.reduceLE, Nat.reduceLeDiff, List.reduceReplicate, reduceCtorEq, evRange, Nat.reduceLT, wrapS h5 (show G1.length ≤ 9223372036854775807 by omega), encGps]; done) | simp -dsimp [evl, putN, i64, u32, bl, encL, encB, encLL, wrapS h5 (show G1.length ≤ 9223372036854775807 by omega), encGps]
      · rw [List.take_of_length_le (by omega), hcf]
        have hcw := r_Wanted f nm (by have := hb40 f hfm; omega)
        obtain ⟨cn, hcn⟩ : ∃ cn : Nat, f.cls = cn := ⟨f.cls.toNat, by omega⟩
        have hcn3 : cn < 30 := by omega
        have h29 : (cn ≤ 29) = True := by simp; omega
        have h30 : (cn < 30) = True := by simp; omega
        have hac : (List.drop cn A)[0]? = some (.lit (.bool (inB (cls0 l.known) (seenE l (v.take N)) cn))) := by rw [List.getElem?_drop, Nat.add_zero]; exact hif cn hcn3
        rw [hcn] at hwf
        try simp -dsimp (maxSteps := 9^9) (disch := first | omega | decide +kernel) only [↓bp0, bd0, bd_NK, reduceIte, Nat.reduceEqDiff, evStore, Nat.reduceAdd, Nat.reduceMul, Int.reduceEq, Int.reduceLT, Int.reduceLE, Nat.reduceLeDiff, List.reduceReplicate, reduceCtorEq, evRange, Nat.reduceLT, hf]
        refine CallQ.imm (hcw) (by rfl) (by first | rfl | (simp -dsimp (maxSteps := 9^9) (disch := first | omega | decide +kernel) only [↓bp0, bd0, bd_NK, reduceIte, Nat.reduceEqDiff, evStore, Nat.reduceAdd, Nat.reduceMul, Int.reduceEq, Int.reduceLT, Int.reduceLE, Nat.reduceLeDiff, List.reduceReplicate, reduceCtorEq, evRange, Nat.reduceLT, drcs, drc, flat]; done) | simp -dsimp [evl, drcs, drc, flat, i64, u32, bl, encL, encB, encLL]) (by first | exact .inl rfl | exact .inr rfl | exact .inr scalB | exact .inr scalI | exact .inr scalT | exact .inr scalM | exact .inr scalMT | exact .inr scalGT) ?_
        generalize (f.brs.any fun y => decide (nm = y)) = w1 at hwf ⊢
        generalize inB (cls0 l.known) (seenE l (v.take N)) cn = w2 at hwf hac
        cases w1 <;> cases w2 <;> simp only [Bool.false_and, Bool.true_and, Bool.not_true, Bool.not_false] at hwf <;> rw [hwf]
        all_goals
          try simp -dsimp (maxSteps := 9^9) (disch := first | omega | decide +kernel) only [↓bp0, bd0, bd_NK, reduceIte, Nat.reduceEqDiff, evStore, Nat.reduceAdd, Nat.reduceMul, Int.reduceEq, Int.reduceLT, Int.reduceLE, Nat.reduceLeDiff, List.reduceReplicate, reduceCtorEq, evRange, Nat.reduceLT, hf, hcn, hal, h29, h30, hac, uUn, Option.bind_some, bneq, decide_true, Nat.mul_one, Nat.zero_add]
          refine ⟨_, _, ?_, weak_of ?_, j2 + 1, h4, rfl, rfl⟩
          · omega
          · first | (simp -dsimp (maxSteps := 9^9) (disch := first | omega | decide +kernel) only [↓bp0, bd0, bd_NK, reduceIte, Nat.reduceEqDiff, evStore, Nat.reduceAdd, Nat.reduceMul, Int.reduceEq, Int.reduceLT, Int.reduceLE, Nat.reduceLeDiff, List.reduceReplicate, reduceCtorEq, evRange, Nat.reduceLT, wrapS h4 hx, encGps]; done) | simp -dsimp [evl, putN, i64, u32, bl, encL, encB, encLL, wrapS h4 hx, encGps]
    · have hown' : ownG nm (gapL l x) = o1 x [(nm, effE l.known (seenE l v))] 9 := hown
      have hth2 := hthen v.length (Nat.le_refl _)
      rw [List.take_length, ← hown'] at hth2
      have hcE := cT (v.length : Int)
      rw [hth2] at hcE
      have hbe := fun {j : Nat} {a b : Gp} => hbef (j := j) (a := a) (b := b)
      have hol : (ownG nm (gapL l x)).length ≤ 30 := by rw [hown']; exact holen _
      clear hcnt hmem hthen hcN hc1 hm1 hif hwa hown hown' hth2
      revert cG hcE hbe hGl hol
      generalize gapL l x = GA
      intro hGl cG hcE hbe hol
      have hon : ∀ i, (ownG nm (GA.take i)).length ≤ 2^20 := fun i => by
        have := List.length_filter_le (fun g : Gp => decide (g.br = nm)) (GA.take i)
        rw [List.length_take] at this
        unfold ownG
        omega
      try simp -dsimp (maxSteps := 9^9) (disch := first | omega | decide +kernel) only [↓bp0, bd0, bd_NK, reduceIte, Nat.reduceEqDiff, evStore, Nat.reduceAdd, Nat.reduceMul, Int.reduceEq, Int.reduceLT, Int.reduceLE, Nat.reduceLeDiff, List.reduceReplicate, reduceCtorEq, evRange, Nat.reduceLT]
      refine CallQ.imm (cG) (by rfl) (by first | rfl | (simp -dsimp (maxSteps := 9^9) (disch := first | omega | decide +kernel) only [↓bp0, bd0, bd_NK, reduceIte, Nat.reduceEqDiff, evStore, Nat.reduceAdd, Nat.reduceMul, Int.reduceEq, Int.reduceLT, Int.reduceLE, Nat.reduceLeDiff, List.reduceReplicate, reduceCtorEq, evRange, Nat.reduceLT, drcs, drc, flat]; done) | simp -dsimp [evl, drcs, drc, flat, i64, u32, bl, encL, encB, encLL]) (by first | exact .inl rfl | exact .inr rfl | exact .inr scalB | exact .inr scalI | exact .inr scalT | exact .inr scalM | exact .inr scalMT | exact .inr scalGT) ?_
      try simp -dsimp (maxSteps := 9^9) (disch := first | omega | decide +kernel) only [↓bp0, bd0, bd_NK, reduceIte, Nat.reduceEqDiff, evStore, Nat.reduceAdd, Nat.reduceMul, Int.reduceEq, Int.reduceLT, Int.reduceLE, Nat.reduceLeDiff, List.reduceReplicate, reduceCtorEq, evRange, Nat.reduceLT, newGps]
      refine CallQ.imm (hcE) (by rfl) (by first | rfl | (simp -dsimp (maxSteps := 9^9) (disch := first | omega | decide +kernel) only [↓bp0, bd0, bd_NK, reduceIte, Nat.reduceEqDiff, evStore, Nat.reduceAdd, Nat.reduceMul, Int.reduceEq, Int.reduceLT, Int.reduceLE, Nat.reduceLeDiff, List.reduceReplicate, reduceCtorEq, evRange, Nat.reduceLT, drcs, drc, flat]; done) | simp -dsimp [evl, drcs, drc, flat, i64, u32, bl, encL, encB, encLL]) (by first | exact .inl rfl | exact .inr rfl | exact .inr scalB | exact .inr scalI | exact .inr scalT | exact .inr scalM | exact .inr scalMT | exact .inr scalGT) ?_
      try simp -dsimp (maxSteps := 9^9) (disch := first | omega | decide +kernel) only [↓bp0, bd0, bd_NK, reduceIte, Nat.reduceEqDiff, evStore, Nat.reduceAdd, Nat.reduceMul, Int.reduceEq, Int.reduceLT, Int.reduceLE, Nat.reduceLeDiff, List.reduceReplicate, reduceCtorEq, evRange, Nat.reduceLT, newGps]
      refine LoopQ.ghost 26 3 (by rfl) ?_
      refine LoopQ.rule (fun m st => ∃ (i id ver nx : Nat), i ≤ GA.length ∧ 1 < id ∧ id < nx ∧ m = GA.length - i ∧
        st = ⟨mkE [(1, encFxs x), (4, .ptr 0 0 0 0), (9, bl true), (10, str nm), (16, encGps G1), (22, encGps GA), (24, encGps (ownG nm GA)), (26, .own id ver 0 (ownG nm (GA.take i)).length false), (27, i64 i)],
          mkS [(0, .row 0 3 [[encKws l.known, encBrs l.brs, encEvss l.evs]] false), (id, .row ver 3 ((ownG nm (GA.take i)).map cGp) false)], nx⟩) _ _ (weak_of ?_)
        ⟨0, 2, 0, 3, by omega, by omega, by omega, rfl, rfl⟩ ?_
      · first | (simp -dsimp (maxSteps := 9^9) (disch := first | omega | decide +kernel) only [↓bp0, bd0, bd_NK, reduceIte, Nat.reduceEqDiff, evStore, Nat.reduceAdd, Nat.reduceMul, Int.reduceEq, Int.reduceLT, Int.reduceLE, Nat.reduceLeDiff, List.reduceReplicate, reduceCtorEq, evRange, Nat.reduceLT, encGps, ghR, List.take_zero, ownG, List.filter_nil, List.map_nil, List.length_nil]; done) | simp -dsimp [evl, putN, i64, u32, bl, encL, encB, encLL, encGps, ghR, List.take_zero, ownG, List.filter_nil, List.map_nil, List.length_nil]
      rintro m st ⟨i, id, ver, nx, hi, hid, hnx, rfl, rfl⟩
      have hE1_0a : (id = 0) = False := by simp; omega
      have hE1_0b : (0 = id) = False := by simp; omega
      have hE1_1a : (id = nx) = False := by simp; omega
      have hE1_1b : (nx = id) = False := by simp; omega
      have hE1_2a : (nx = 0) = False := by simp; omega
      have hE1_2b : (0 = nx) = False := by simp; omega
      have hoi := hon i
      have hbd : ((ownG nm (GA.take i)).length + 1) * 32 ≤ 140737488355328 := by omega
      try simp -dsimp (maxSteps := 9^9) (disch := first | omega | decide +kernel) only [↓bp0, bd0, bd_NK, reduceIte, Nat.reduceEqDiff, evStore, Nat.reduceAdd, Nat.reduceMul, Int.reduceEq, Int.reduceLT, Int.reduceLE, Nat.reduceLeDiff, List.reduceReplicate, reduceCtorEq, evRange, Nat.reduceLT, encGps, List.length_map, hE1_0a, hE1_0b, hE1_1a, hE1_1b, hE1_2a, hE1_2b]
      refine onC_nlt (fun h5 => ?_) (fun h5 => ?_)
      · obtain ⟨g, hgx, hgm⟩ := get_of_lt h5
        have hts : ownG nm (GA.take (i + 1)) = ownG nm (GA.take i) ++ if g.br = nm then [g] else [] := by rw [take_succ hgx, ownG_snoc]
        cases h6 : decide (g.br = nm)
        · rw [if_neg (of_decide_eq_false h6), List.append_nil] at hts
          cases h7 : decide ((0 : Int) < (i : Int))
          · try simp -dsimp (maxSteps := 9^9) (disch := first | omega | decide +kernel) only [↓bp0, bd0, bd_NK, reduceIte, Nat.reduceEqDiff, evStore, Nat.reduceAdd, Nat.reduceMul, Int.reduceEq, Int.reduceLT, Int.reduceLE, Nat.reduceLeDiff, List.reduceReplicate, reduceCtorEq, evRange, Nat.reduceLT, hgx, h6, h7, encGps, PV.cellsP, hbd, List.length_map, hE1_0a, hE1_0b, hE1_1a, hE1_1b, hE1_2a, hE1_2b]
            refine ⟨_, _, ?_, weak_of ?_, i + 1, id, ver, nx, h5, hid, by omega, rfl, rfl⟩
            · omega
            · first | (simp -dsimp (maxSteps := 9^9) (disch := first | omega | decide +kernel) only [↓bp0, bd0, bd_NK, reduceIte, Nat.reduceEqDiff, evStore, Nat.reduceAdd, Nat.reduceMul, Int.reduceEq, Int.reduceLT, Int.reduceLE, Nat.reduceLeDiff, List.reduceReplicate, reduceCtorEq, evRange, Nat.reduceLT, hts, wrapS h5 (show GA.length ≤ 9223372036854775807 by omega), encGps, List.map_append, List.map_cons, List.map_nil, List.length_append, List.length_cons, List.length_nil, hE1_0a, hE1_0b, hE1_1a, hE1_1b, hE1_2a, hE1_2b]; done) | simp -dsimp [evl, putN, i64, u32, bl, encL, encB, encLL, hts, wrapS h5 (show GA.length ≤ 9223372036854775807 by omega), encGps, List.map_append, List.map_cons, List.map_nil, List.length_append, List.length_cons, List.length_nil, hE1_0a, hE1_0b, hE1_1a, hE1_1b, hE1_2a, hE1_2b]
          · obtain ⟨i', rfl⟩ : ∃ i', i = i' + 1 := ⟨i - 1, by have := of_decide_eq_true h7; omega⟩
            obtain ⟨a, hax, ham⟩ := get_of_lt (l := GA) (i := i') (by omega)
            have hb2 := hbe hax hgx
            have hwp : IntKind.i64.wrap (((i' + 1 : Nat) : Int) - 1) = ((i' : Nat) : Int) := by rw [IntWalk.i64_in _ (by omega)]; omega
            have cb := r_before l a g (by have := hz.brs; omega)
            rw [hb2] at cb
            try simp -dsimp (maxSteps := 9^9) (disch := first | omega | decide +kernel) only [↓bp0, bd0, bd_NK, reduceIte, Nat.reduceEqDiff, evStore, Nat.reduceAdd, Nat.reduceMul, Int.reduceEq, Int.reduceLT, Int.reduceLE, Nat.reduceLeDiff, List.reduceReplicate, reduceCtorEq, evRange, Nat.reduceLT, hgx, hax, hwp, h6, h7, encGps, PV.cellsP, hbd, List.length_map, hE1_0a, hE1_0b, hE1_1a, hE1_1b, hE1_2a, hE1_2b]
            refine CallY.imm (cb) (by rfl) (by first | rfl | (simp -dsimp (maxSteps := 9^9) (disch := first | omega | decide +kernel) only [↓bp0, bd0, bd_NK, reduceIte, Nat.reduceEqDiff, evStore, Nat.reduceAdd, Nat.reduceMul, Int.reduceEq, Int.reduceLT, Int.reduceLE, Nat.reduceLeDiff, List.reduceReplicate, reduceCtorEq, evRange, Nat.reduceLT, drcs, drc, flat, hE1_0a, hE1_0b, hE1_1a, hE1_1b, hE1_2a, hE1_2b]; done) | simp -dsimp [evl, drcs, drc, flat, i64, u32, bl, encL, encB, encLL]) (by first | exact .inl rfl | exact .inr rfl | exact .inr scalB | exact .inr scalI | exact .inr scalT | exact .inr scalM | exact .inr scalMT | exact .inr scalGT) ?_
            try simp -dsimp (maxSteps := 9^9) (disch := first | omega | decide +kernel) only [↓bp0, bd0, bd_NK, reduceIte, Nat.reduceEqDiff, evStore, Nat.reduceAdd, Nat.reduceMul, Int.reduceEq, Int.reduceLT, Int.reduceLE, Nat.reduceLeDiff, List.reduceReplicate, reduceCtorEq, evRange, Nat.reduceLT, uUn, Option.bind_some, hE1_0a, hE1_0b, hE1_1a, hE1_1b, hE1_2a, hE1_2b]
            refine ⟨_, _, ?_, weak_of ?_, i' + 1 + 1, id, ver, nx, h5, hid, by omega, rfl, rfl⟩
            · omega
            · first | (simp -dsimp (maxSteps := 9^9) (disch := first | omega | decide +kernel) only [↓bp0, bd0, bd_NK, reduceIte, Nat.reduceEqDiff, evStore, Nat.reduceAdd, Nat.reduceMul, Int.reduceEq, Int.reduceLT, Int.reduceLE, Nat.reduceLeDiff, List.reduceReplicate, reduceCtorEq, evRange, Nat.reduceLT, hts, wrapS h5 (show GA.length ≤ 9223372036854775807 by omega), encGps, List.map_append, List.map_cons, List.map_nil, List.length_append, List.length_cons, List.length_nil, hE1_0a, hE1_0b, hE1_1a, hE1_1b, hE1_2a, hE1_2b]; done) | simp -dsimp [evl, putN, i64, u32, bl, encL, encB, encLL, hts, wrapS h5 (show GA.length ≤ 9223372036854775807 by omega), encGps, List.map_append, List.map_cons, List.map_nil, List.length_append, List.length_cons, List.length_nil, hE1_0a, hE1_0b, hE1_1a, hE1_1b, hE1_2a, hE1_2b]
        · rw [if_pos (of_decide_eq_true h6)] at hts
          cases h7 : decide ((0 : Int) < (i : Int))
          · try simp -dsimp (maxSteps := 9^9) (disch := first | omega | decide +kernel) only [↓bp0, bd0, bd_NK, reduceIte, Nat.reduceEqDiff, evStore, Nat.reduceAdd, Nat.reduceMul, Int.reduceEq, Int.reduceLT, Int.reduceLE, Nat.reduceLeDiff, List.reduceReplicate, reduceCtorEq, evRange, Nat.reduceLT, hgx, h6, h7, encGps, PV.cellsP, hbd, List.length_map, hE1_0a, hE1_0b, hE1_1a, hE1_1b, hE1_2a, hE1_2b]
            refine ⟨_, _, ?_, weak_of ?_, i + 1, id, ver + 1, nx + 1, h5, hid, by omega, rfl, rfl⟩
            · omega
            · first | (simp -dsimp (maxSteps := 9^9) (disch := first | omega | decide +kernel) only [↓bp0, bd0, bd_NK, reduceIte, Nat.reduceEqDiff, evStore, Nat.reduceAdd, Nat.reduceMul, Int.reduceEq, Int.reduceLT, Int.reduceLE, Nat.reduceLeDiff, List.reduceReplicate, reduceCtorEq, evRange, Nat.reduceLT, hts, wrapS h5 (show GA.length ≤ 9223372036854775807 by omega), encGps, List.map_append, List.map_cons, List.map_nil, List.length_append, List.length_cons, List.length_nil, hE1_0a, hE1_0b, hE1_1a, hE1_1b, hE1_2a, hE1_2b]; done) | simp -dsimp [evl, putN, i64, u32, bl, encL, encB, encLL, hts, wrapS h5 (show GA.length ≤ 9223372036854775807 by omega), encGps, List.map_append, List.map_cons, List.map_nil, List.length_append, List.length_cons, List.length_nil, hE1_0a, hE1_0b, hE1_1a, hE1_1b, hE1_2a, hE1_2b]
          · obtain ⟨i', rfl⟩ : ∃ i', i = i' + 1 := ⟨i - 1, by have := of_decide_eq_true h7; omega⟩
            obtain ⟨a, hax, ham⟩ := get_of_lt (l := GA) (i := i') (by omega)
            have hb2 := hbe hax hgx
            have hwp : IntKind.i64.wrap (((i' + 1 : Nat) : Int) - 1) = ((i' : Nat) : Int) := by rw [IntWalk.i64_in _ (by omega)]; omega
            have cb := r_before l a g (by have := hz.brs; omega)
            rw [hb2] at cb
            try simp -dsimp (maxSteps := 9^9) (disch := first | omega | decide +kernel) only [↓bp0, bd0, bd_NK, reduceIte, Nat.reduceEqDiff, evStore, Nat.reduceAdd, Nat.reduceMul, Int.reduceEq, Int.reduceLT, Int.reduceLE, Nat.reduceLeDiff, List.reduceReplicate, reduceCtorEq, evRange, Nat.reduceLT, hgx, hax, hwp, h6, h7, encGps, PV.cellsP, hbd, List.length_map, hE1_0a, hE1_0b, hE1_1a, hE1_1b, hE1_2a, hE1_2b]
            refine CallY.imm (cb) (by rfl) (by first | rfl | (simp -dsimp (maxSteps := 9^9) (disch := first | omega | decide +kernel) only [↓bp0, bd0, bd_NK, reduceIte, Nat.reduceEqDiff, evStore, Nat.reduceAdd, Nat.reduceMul, Int.reduceEq, Int.reduceLT, Int.reduceLE, Nat.reduceLeDiff, List.reduceReplicate, reduceCtorEq, evRange, Nat.reduceLT, drcs, drc, flat, hE1_0a, hE1_0b, hE1_1a, hE1_1b, hE1_2a, hE1_2b]; done) | simp -dsimp [evl, drcs, drc, flat, i64, u32, bl, encL, encB, encLL]) (by first | exact .inl rfl | exact .inr rfl | exact .inr scalB | exact .inr scalI | exact .inr scalT | exact .inr scalM | exact .inr scalMT | exact .inr scalGT) ?_
            try simp -dsimp (maxSteps := 9^9) (disch := first | omega | decide +kernel) only [↓bp0, bd0, bd_NK, reduceIte, Nat.reduceEqDiff, evStore, Nat.reduceAdd, Nat.reduceMul, Int.reduceEq, Int.reduceLT, Int.reduceLE, Nat.reduceLeDiff, List.reduceReplicate, reduceCtorEq, evRange, Nat.reduceLT, uUn, Option.bind_some, hE1_0a, hE1_0b, hE1_1a, hE1_1b, hE1_2a, hE1_2b]
            refine ⟨_, _, ?_, weak_of ?_, i' + 1 + 1, id, ver + 1, nx + 1, h5, hid, by omega, rfl, rfl⟩
            · omega
            · first | (simp -dsimp (maxSteps := 9^9) (disch := first | omega | decide +kernel) only [↓bp0, bd0, bd_NK, reduceIte, Nat.reduceEqDiff, evStore, Nat.reduceAdd, Nat.reduceMul, Int.reduceEq, Int.reduceLT, Int.reduceLE, Nat.reduceLeDiff, List.reduceReplicate, reduceCtorEq, evRange, Nat.reduceLT, hts, wrapS h5 (show GA.length ≤ 9223372036854775807 by omega), encGps, List.map_append, List.map_cons, List.map_nil, List.length_append, List.length_cons, List.length_nil, hE1_0a, hE1_0b, hE1_1a, hE1_1b, hE1_2a, hE1_2b]; done) | simp -dsimp [evl, putN, i64, u32, bl, encL, encB, encLL, hts, wrapS h5 (show GA.length ≤ 9223372036854775807 by omega), encGps, List.map_append, List.map_cons, List.map_nil, List.length_append, List.length_cons, List.length_nil, hE1_0a, hE1_0b, hE1_1a, hE1_1b, hE1_2a, hE1_2b]
      · rw [List.take_of_length_le (by omega)]
        have hd : decide ((G1.length : Int) ≤ (x.length : Int)) = true := decide_eq_true (by omega)
        have hfl : (((ownG nm GA).map cGp).all fun e => e.all flat) = true := by rw [List.all_eq_true]; intro e he; obtain ⟨b, _, rfl⟩ := List.mem_map.1 he; rfl
        have htk : ((ownG nm GA).map cGp).take (ownG nm GA).length = (ownG nm GA).map cGp := List.take_of_length_le (by simp)
        try simp -dsimp (maxSteps := 9^9) (disch := first | omega | decide +kernel) only [↓bp0, bd0, bd_NK, reduceIte, Nat.reduceEqDiff, evStore, Nat.reduceAdd, Nat.reduceMul, Int.reduceEq, Int.reduceLT, Int.reduceLE, Nat.reduceLeDiff, List.reduceReplicate, reduceCtorEq, evRange, Nat.reduceLT, hd, encGps, List.length_map, hE1_0a, hE1_0b, hE1_1a, hE1_1b, hE1_2a, hE1_2b]
        refine CallQ.imm (r_Same (ownG nm GA) (by omega)) (by rfl) (by first | rfl | (simp -dsimp (maxSteps := 9^9) (disch := first | omega | decide +kernel) only [↓bp0, bd0, bd_NK, reduceIte, Nat.reduceEqDiff, evStore, Nat.reduceAdd, Nat.reduceMul, Int.reduceEq, Int.reduceLT, Int.reduceLE, Nat.reduceLeDiff, List.reduceReplicate, reduceCtorEq, evRange, Nat.reduceLT, drcs, drc, flat, encGps, List.length_map, List.drop_zero, hfl, htk, hE1_0a, hE1_0b, hE1_1a, hE1_1b, hE1_2a, hE1_2b]; done) | simp -dsimp [evl, drcs, drc, flat, i64, u32, bl, encL, encB, encLL]) (by first | exact .inl rfl | exact .inr rfl | exact .inr scalB | exact .inr scalI | exact .inr scalT | exact .inr scalM | exact .inr scalMT | exact .inr scalGT) ?_
        simp -dsimp (maxSteps := 9^9) (disch := first | omega | decide +kernel) only [↓bp0, bd0, bd_NK, reduceIte, Nat.reduceEqDiff, evStore, Nat.reduceAdd, Nat.reduceMul, Int.reduceEq, Int.reduceLT, Int.reduceLE, Nat.reduceLeDiff, List.reduceReplicate, reduceCtorEq, evRange, Nat.reduceLT, retQ, resL, finL, newL, flat, tupOf, List.toList_toArray, Tryz.f5, decide_true]
        exact leT_one .rfl' (by simp)
end Go.Ab
