/- What is in effect. -/
import Derived.Test.YtgcodedanljhpaaGreatDoorLO
set_option linter.unusedSimpArgs false
set_option linter.unusedVariables false
set_option maxRecDepth 100000
set_option maxHeartbeats 8000000
namespace Go.Ab
open Go Go.Proofs
theorem bd_LP : type_of% (And.intro @evNext.eq_1 (And.intro @fld (And.intro @nit (And.intro @nxE (And.intro @ovR (And.intro @evBin_seql (And.intro @evBin_sneq (And.intro @str.eq_1 (And.intro @u8.eq_1 (And.intro @encBrs.eq_1 (And.intro @cBr.eq_1 (And.intro @encLdg.eq_1 (And.intro @encKws.eq_1 (And.intro @cKw.eq_1 (And.intro @encEvss.eq_1 (And.intro @encEvs.eq_1 (And.intro @cEv.eq_1 (And.intro @encMks.eq_1 (And.intro @cMk.eq_1 (And.intro @tk2 (And.intro @tk3 (And.intro @List.set_cons_succ.{0} (And.intro @List.getElem?_cons_zero.{0} (And.intro @List.getElem?_cons_succ.{0} (@List.length_set.{0}))))))))))))))))))))))))) := And.intro @evNext.eq_1 (And.intro @fld (And.intro @nit (And.intro @nxE (And.intro @ovR (And.intro @evBin_seql (And.intro @evBin_sneq (And.intro @str.eq_1 (And.intro @u8.eq_1 (And.intro @encBrs.eq_1 (And.intro @cBr.eq_1 (And.intro @encLdg.eq_1 (And.intro @encKws.eq_1 (And.intro @cKw.eq_1 (And.intro @encEvss.eq_1 (And.intro @encEvs.eq_1 (And.intro @cEv.eq_1 (And.intro @encMks.eq_1 (And.intro @cMk.eq_1 (And.intro @tk2 (And.intro @tk3 (And.intro @List.set_cons_succ.{0} (And.intro @List.getElem?_cons_zero.{0} (And.intro @List.getElem?_cons_succ.{0} (@List.length_set.{0}))))))))))))))))))))))))
structure LSz (l : Ldg) : Prop where
  known : l.known.length ≤ 2^40
  brs : l.brs.length ≤ 2^40
  evs : l.evs.length ≤ 2^40
  ev : ∀ s ∈ l.evs, s.length ≤ 2^40
theorem LOk.pok {l : Ldg} (h : LOk l) : POk l := ⟨h.known, h.nodup, h.kw, h.len, h.evs, h.fits⟩
theorem cnts_len (l : Ldg) : (cnts l).length = l.evs.length := by simp [cnts]
theorem flMk {l : List (Nat × Nat)} {n : Nat} (h : n = l.length) : List.take n (l.map cMk) = l.map cMk := List.take_of_length_le (by simp [h])
theorem d_lview (l : Ldg) (n : Str) (hz : LSz l) : CallSpec cx 74 [encLdg l, str n] (.tup [newMks (lview l n).1, i64 (lview l n).2]) := by
  refine callSpec_of_vc Tryz.func74 rfl (by decide) (by kernel_rfl) (Nat.le_of_ble_eq_true rfl) ?_
  try simp -dsimp (disch := first | omega | decide +kernel) only [↓bp0, bd0, bd_LP, reduceIte, Nat.reduceEqDiff, evStore, Nat.reduceAdd, Nat.reduceMul, Int.reduceEq, Int.reduceLT, Int.reduceLE, Nat.reduceLeDiff, List.reduceReplicate, reduceCtorEq, evRange, Nat.reduceLT, Tryz.f74]
  refine CallQ.imm (d_lCheck l hz.known hz.brs hz.evs hz.ev) (by rfl) (by rfl) (by first | exact .inl rfl | exact .inr rfl | exact .inr scalB | exact .inr scalI | exact .inr scalT | exact .inr scalM | exact .inr scalMT) ?_
  cases h0 : decide (lchk l = 0)
  · simp -dsimp (disch := first | omega | decide +kernel) only [↓bp0, bd0, bd_LP, reduceIte, Nat.reduceEqDiff, evStore, Nat.reduceAdd, Nat.reduceMul, Int.reduceEq, Int.reduceLT, Int.reduceLE, Nat.reduceLeDiff, List.reduceReplicate, reduceCtorEq, evRange, Nat.reduceLT, retQ, resL, finL, newL, flat, tupOf, List.toList_toArray, Tryz.f74, h0]
    rw [lview, if_pos (of_decide_eq_false h0)]
    exact ⟨.inr ⟨rfl, 2, rfl⟩, .rfl', trivial⟩
  have e1 : lview l n = bview l.brs (cnts l) n := by rw [lview, if_neg (by rw [Decidable.not_not]; exact of_decide_eq_true h0)]
  rw [e1]
  try simp -dsimp (disch := first | omega | decide +kernel) only [↓bp0, bd0, bd_LP, reduceIte, Nat.reduceEqDiff, evStore, Nat.reduceAdd, Nat.reduceMul, Int.reduceEq, Int.reduceLT, Int.reduceLE, Nat.reduceLeDiff, List.reduceReplicate, reduceCtorEq, evRange, Nat.reduceLT, h0]
  refine vc_text (by kernel_rfl) ?_
  try simp -dsimp (disch := first | omega | decide +kernel) only [↓bp0, bd0, bd_LP, reduceIte, Nat.reduceEqDiff, evStore, Nat.reduceAdd, Nat.reduceMul, Int.reduceEq, Int.reduceLT, Int.reduceLE, Nat.reduceLeDiff, List.reduceReplicate, reduceCtorEq, evRange, Nat.reduceLT]
  refine CallY.imm (d_counts l hz.evs hz.ev) (by rfl) (by rfl) (by first | exact .inl rfl | exact .inr rfl | exact .inr scalB | exact .inr scalI | exact .inr scalT | exact .inr scalM | exact .inr scalMT) ?_
  try simp -dsimp (disch := first | omega | decide +kernel) only [↓bp0, bd0, bd_LP, reduceIte, Nat.reduceEqDiff, evStore, Nat.reduceAdd, Nat.reduceMul, Int.reduceEq, Int.reduceLT, Int.reduceLE, Nat.reduceLeDiff, List.reduceReplicate, reduceCtorEq, evRange, Nat.reduceLT]
  refine CallY.q 5 rfl (by kernel_rfl) ?_
  refine CallQ.thawT (d_View l.brs (cnts l) n (by have := hz.brs; omega) (by rw [cnts_len]; have := hz.evs; omega)) (by rfl) (by first | rfl | (simp -dsimp only [evl, drcs, drc, flat, newI, encL, encBrs, forget]; done)) (.inr (by simp only [List.all_cons, List.all_nil, Bool.and_true, scal1, newMks, i64, litM])) ?_
  simp -dsimp (disch := first | omega | decide +kernel) only [↓bp0, bd0, bd_LP, reduceIte, Nat.reduceEqDiff, evStore, Nat.reduceAdd, Nat.reduceMul, Int.reduceEq, Int.reduceLT, Int.reduceLE, Nat.reduceLeDiff, List.reduceReplicate, reduceCtorEq, evRange, Nat.reduceLT, retQ, resL, finL, newL, flat, tupOf, List.toList_toArray, Tryz.f74, thw, newMks, flM, List.length_map, flMk]
  exact ⟨.rfl', .rfl', trivial⟩
theorem lview_ok {l : Ldg} {n : Str} (h : (lview l n).2 = 0) : LOk l ∧ ∃ i, i < l.brs.length ∧ idx l.brs n = i ∧ (lview l n).1 = vw l.brs (cnts l) i := by
  unfold lview at h ⊢
  by_cases h0 : lchk l = 0
  · have hok := lok_of h0
    rw [if_neg (by rw [Decidable.not_not]; exact h0)] at h ⊢
    unfold bview at h ⊢
    rw [if_neg (by rw [Decidable.not_not]; exact hok.fits)] at h ⊢
    split at h
    · cases h
    · rename_i h1
      obtain ⟨h2, h3⟩ := idx_nat (l := l.brs) (n := n) (by omega)
      rw [if_neg h1]
      exact ⟨hok, _, h3, h2, rfl⟩
  · rw [if_pos h0] at h; exact absurd h h0
theorem fold_pre {l : Ldg} {n : Str} (h : (lview l n).2 = 0) : POk l ∧ (∀ m ∈ (lview l n).1, ∃ c, (cnts l)[m.1]? = some c ∧ (m.2 : Int) < c) ∧ (∀ e ∈ seenE l (lview l n).1, (clsOf l.known e.chg).isSome = true) ∧ (lview l n).1.length ≤ 2^40 := by
  obtain ⟨hok, i, hi, _, e⟩ := lview_ok h
  obtain ⟨b, c, hb, hc, h0, h1⟩ := hok.vok.at hi
  rw [e]
  refine ⟨hok.pok, fun m hm => (hok.vok.mem i hi m hm).2, hok.seen_known hi, ?_⟩
  rw [hok.vok.length i hi hb hc]
  have := hok.vok.at_ i b hb
  omega
end Go.Ab
