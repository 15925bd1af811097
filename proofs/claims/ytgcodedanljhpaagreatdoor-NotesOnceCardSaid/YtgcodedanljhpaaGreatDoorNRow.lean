/- NotesOnce, the joint. -/
import Derived.Test.YtgcodedanljhpaaGreatDoorQF
import Derived.Test.YtgcodedanljhpaaGreatDoorAcCall
import Derived.ChangeArms
import Derived.ChangeReads
import Derived.Below
import Derived.Carry
import Derived.ChangeSame
import Derived.Test.YtgcodedanljhpaaGreatDoorMA
import Derived.Test.YtgcodedanljhpaaGreatDoorRows
import Derived.ProofKit
import Derived.LaidMore
import Derived.OpenShut
import Derived.Stop.Joined
import Derived.Test.YtgcodedanljhpaaGreatDoorTie
import Derived.Test.YtgcodedanljhpaaGreatDoorCards
set_option linter.unusedSimpArgs false
set_option linter.unusedVariables false
section
set_option maxRecDepth 1000000
set_option maxHeartbeats 16000000
namespace Go.Ab
open Go Go.Proofs Go.Sort
theorem bd_QV : type_of% (And.intro @evNext.eq_1 (And.intro @fld (And.intro @nit (And.intro @nxE (And.intro @ghR (And.intro @ovR (And.intro @evBin_seql (And.intro @evBin_sneq (And.intro @str.eq_1 (And.intro @u8.eq_1 (And.intro @encBrs.eq_1 (And.intro @cBr.eq_1 (And.intro @encLdg.eq_1 (And.intro @encKws.eq_1 (And.intro @cKw.eq_1 (And.intro @encEvss.eq_1 (And.intro @encEvs.eq_1 (And.intro @cEv.eq_1 (And.intro @encMks.eq_1 (And.intro @cMk.eq_1 (And.intro @encStrs.eq_1 (And.intro @tk2 (And.intro @tk3 (And.intro @List.set_cons_succ.{0} (And.intro @List.getElem?_cons_zero.{0} (And.intro @List.getElem?_cons_succ.{0} (@List.length_set.{0}))))))))))))))))))))))))))) := And.intro @evNext.eq_1 (And.intro @fld (And.intro @nit (And.intro @nxE (And.intro @ghR (And.intro @ovR (And.intro @evBin_seql (And.intro @evBin_sneq (And.intro @str.eq_1 (And.intro @u8.eq_1 (And.intro @encBrs.eq_1 (And.intro @cBr.eq_1 (And.intro @encLdg.eq_1 (And.intro @encKws.eq_1 (And.intro @cKw.eq_1 (And.intro @encEvss.eq_1 (And.intro @encEvs.eq_1 (And.intro @cEv.eq_1 (And.intro @encMks.eq_1 (And.intro @cMk.eq_1 (And.intro @encStrs.eq_1 (And.intro @tk2 (And.intro @tk3 (And.intro @List.set_cons_succ.{0} (And.intro @List.getElem?_cons_zero.{0} (And.intro @List.getElem?_cons_succ.{0} (@List.length_set.{0}))))))))))))))))))))))))))
theorem l_Once (l : Ldg) (a b : Str) (hl : l.known.length ≤ 9223372036854775807) (hb : l.brs.length ≤ 9223372036854775807) (hv : l.evs.length ≤ 9223372036854775807) (he : ∀ s ∈ l.evs, s.length ≤ 9223372036854775807) :
    CallSpec cx 9 [encLdg l, str a, str b] (bl true) := by
  cases hg : grt29 l
  case true =>
    refine callSpec_of_vc Tryz.func9 rfl (by decide) (by kernel_rfl) (Nat.le_of_ble_eq_true rfl) ?_
    try simp -dsimp (maxSteps := 20000000) (disch := first | omega | decide +kernel) only [↓bp0, bd0, bd_QV, reduceIte, Nat.reduceEqDiff, evStore, Nat.reduceAdd, Nat.reduceMul, Int.reduceEq, Int.reduceLT, Int.reduceLE, Nat.reduceLeDiff, List.reduceReplicate, reduceCtorEq, evRange, cNt, tk4, Nat.reduceLT, Tryz.f9]
    refine CallQ.imm (v_alive) (by rfl) (by first | rfl | (simp -dsimp (maxSteps := 20000000) (disch := first | omega | decide +kernel) only [↓bp0, bd0, bd_QV, reduceIte, Nat.reduceEqDiff, evStore, Nat.reduceAdd, Nat.reduceMul, Int.reduceEq, Int.reduceLT, Int.reduceLE, Nat.reduceLeDiff, List.reduceReplicate, reduceCtorEq, evRange, cNt, tk4, Nat.reduceLT, drcs, drc, flat]; done) | simp -dsimp [evl, drcs, drc, flat, i64, u32, bl, encL, encB, encLL]) (by first | exact .inl rfl | exact .inr rfl | exact .inr scalB | exact .inr scalI | exact .inr scalT | exact .inr scalM | exact .inr scalMT | exact .inr scalE | exact .inr scalET | exact .inr scalN | exact .inr scalNT | exact .inr scalLs | exact .inr scalDf) ?_
    try simp -dsimp (maxSteps := 20000000) (disch := first | omega | decide +kernel) only [↓bp0, bd0, bd_QV, reduceIte, Nat.reduceEqDiff, evStore, Nat.reduceAdd, Nat.reduceMul, Int.reduceEq, Int.reduceLT, Int.reduceLE, Nat.reduceLeDiff, List.reduceReplicate, reduceCtorEq, evRange, cNt, tk4, Nat.reduceLT]
    refine CallQ.imm (r_Great29 l hl hb hv he) (by rfl) (by first | rfl | (simp -dsimp (maxSteps := 20000000) (disch := first | omega | decide +kernel) only [↓bp0, bd0, bd_QV, reduceIte, Nat.reduceEqDiff, evStore, Nat.reduceAdd, Nat.reduceMul, Int.reduceEq, Int.reduceLT, Int.reduceLE, Nat.reduceLeDiff, List.reduceReplicate, reduceCtorEq, evRange, cNt, tk4, Nat.reduceLT, drcs, drc, flat]; done) | simp -dsimp [evl, drcs, drc, flat, i64, u32, bl, encL, encB, encLL]) (by first | exact .inl rfl | exact .inr rfl | exact .inr scalB | exact .inr scalI | exact .inr scalT | exact .inr scalM | exact .inr scalMT | exact .inr scalE | exact .inr scalET | exact .inr scalN | exact .inr scalNT | exact .inr scalLs | exact .inr scalDf) ?_
    simp -dsimp (maxSteps := 20000000) (disch := first | omega | decide +kernel) only [↓bp0, bd0, bd_QV, reduceIte, Nat.reduceEqDiff, evStore, Nat.reduceAdd, Nat.reduceMul, Int.reduceEq, Int.reduceLT, Int.reduceLE, Nat.reduceLeDiff, List.reduceReplicate, reduceCtorEq, evRange, cNt, tk4, Nat.reduceLT, retQ, resL, finL, newL, flat, tupOf, List.toList_toArray, Tryz.f9, hg]
    exact leT_one .rfl' (by simp)
  obtain ⟨hz, hn⟩ := grt29_noP hg
  cases c1 : decide ((100 : Int) < (a.size : Int))
  case true =>
    refine callSpec_of_vc Tryz.func9 rfl (by decide) (by kernel_rfl) (Nat.le_of_ble_eq_true rfl) ?_
    try simp -dsimp (maxSteps := 20000000) (disch := first | omega | decide +kernel) only [↓bp0, bd0, bd_QV, reduceIte, Nat.reduceEqDiff, evStore, Nat.reduceAdd, Nat.reduceMul, Int.reduceEq, Int.reduceLT, Int.reduceLE, Nat.reduceLeDiff, List.reduceReplicate, reduceCtorEq, evRange, cNt, tk4, Nat.reduceLT, Tryz.f9]
    refine CallQ.imm (v_alive) (by rfl) (by first | rfl | (simp -dsimp (maxSteps := 20000000) (disch := first | omega | decide +kernel) only [↓bp0, bd0, bd_QV, reduceIte, Nat.reduceEqDiff, evStore, Nat.reduceAdd, Nat.reduceMul, Int.reduceEq, Int.reduceLT, Int.reduceLE, Nat.reduceLeDiff, List.reduceReplicate, reduceCtorEq, evRange, cNt, tk4, Nat.reduceLT, drcs, drc, flat]; done) | simp -dsimp [evl, drcs, drc, flat, i64, u32, bl, encL, encB, encLL]) (by first | exact .inl rfl | exact .inr rfl | exact .inr scalB | exact .inr scalI | exact .inr scalT | exact .inr scalM | exact .inr scalMT | exact .inr scalE | exact .inr scalET | exact .inr scalN | exact .inr scalNT | exact .inr scalLs | exact .inr scalDf) ?_
    try simp -dsimp (maxSteps := 20000000) (disch := first | omega | decide +kernel) only [↓bp0, bd0, bd_QV, reduceIte, Nat.reduceEqDiff, evStore, Nat.reduceAdd, Nat.reduceMul, Int.reduceEq, Int.reduceLT, Int.reduceLE, Nat.reduceLeDiff, List.reduceReplicate, reduceCtorEq, evRange, cNt, tk4, Nat.reduceLT]
    refine CallQ.imm (r_Great29 l hl hb hv he) (by rfl) (by first | rfl | (simp -dsimp (maxSteps := 20000000) (disch := first | omega | decide +kernel) only [↓bp0, bd0, bd_QV, reduceIte, Nat.reduceEqDiff, evStore, Nat.reduceAdd, Nat.reduceMul, Int.reduceEq, Int.reduceLT, Int.reduceLE, Nat.reduceLeDiff, List.reduceReplicate, reduceCtorEq, evRange, cNt, tk4, Nat.reduceLT, drcs, drc, flat]; done) | simp -dsimp [evl, drcs, drc, flat, i64, u32, bl, encL, encB, encLL]) (by first | exact .inl rfl | exact .inr rfl | exact .inr scalB | exact .inr scalI | exact .inr scalT | exact .inr scalM | exact .inr scalMT | exact .inr scalE | exact .inr scalET | exact .inr scalN | exact .inr scalNT | exact .inr scalLs | exact .inr scalDf) ?_
    try simp -dsimp (maxSteps := 20000000) (disch := first | omega | decide +kernel) only [↓bp0, bd0, bd_QV, reduceIte, Nat.reduceEqDiff, evStore, Nat.reduceAdd, Nat.reduceMul, Int.reduceEq, Int.reduceLT, Int.reduceLE, Nat.reduceLeDiff, List.reduceReplicate, reduceCtorEq, evRange, cNt, tk4, Nat.reduceLT, hg]
    refine CallQ.imm (v_long a b) (by rfl) (by first | rfl | (simp -dsimp (maxSteps := 20000000) (disch := first | omega | decide +kernel) only [↓bp0, bd0, bd_QV, reduceIte, Nat.reduceEqDiff, evStore, Nat.reduceAdd, Nat.reduceMul, Int.reduceEq, Int.reduceLT, Int.reduceLE, Nat.reduceLeDiff, List.reduceReplicate, reduceCtorEq, evRange, cNt, tk4, Nat.reduceLT, drcs, drc, flat]; done) | simp -dsimp [evl, drcs, drc, flat, i64, u32, bl, encL, encB, encLL]) (by first | exact .inl rfl | exact .inr rfl | exact .inr scalB | exact .inr scalI | exact .inr scalT | exact .inr scalM | exact .inr scalMT | exact .inr scalE | exact .inr scalET | exact .inr scalN | exact .inr scalNT | exact .inr scalLs | exact .inr scalDf) ?_
    simp -dsimp (maxSteps := 20000000) (disch := first | omega | decide +kernel) only [↓bp0, bd0, bd_QV, reduceIte, Nat.reduceEqDiff, evStore, Nat.reduceAdd, Nat.reduceMul, Int.reduceEq, Int.reduceLT, Int.reduceLE, Nat.reduceLeDiff, List.reduceReplicate, reduceCtorEq, evRange, cNt, tk4, Nat.reduceLT, retQ, resL, finL, newL, flat, tupOf, List.toList_toArray, Tryz.f9, c1, Bool.true_or]
    exact leT_one .rfl' (by simp)
  cases c2 : decide ((100 : Int) < (b.size : Int))
  case true =>
    refine callSpec_of_vc Tryz.func9 rfl (by decide) (by kernel_rfl) (Nat.le_of_ble_eq_true rfl) ?_
    try simp -dsimp (maxSteps := 20000000) (disch := first | omega | decide +kernel) only [↓bp0, bd0, bd_QV, reduceIte, Nat.reduceEqDiff, evStore, Nat.reduceAdd, Nat.reduceMul, Int.reduceEq, Int.reduceLT, Int.reduceLE, Nat.reduceLeDiff, List.reduceReplicate, reduceCtorEq, evRange, cNt, tk4, Nat.reduceLT, Tryz.f9]
    refine CallQ.imm (v_alive) (by rfl) (by first | rfl | (simp -dsimp (maxSteps := 20000000) (disch := first | omega | decide +kernel) only [↓bp0, bd0, bd_QV, reduceIte, Nat.reduceEqDiff, evStore, Nat.reduceAdd, Nat.reduceMul, Int.reduceEq, Int.reduceLT, Int.reduceLE, Nat.reduceLeDiff, List.reduceReplicate, reduceCtorEq, evRange, cNt, tk4, Nat.reduceLT, drcs, drc, flat]; done) | simp -dsimp [evl, drcs, drc, flat, i64, u32, bl, encL, encB, encLL]) (by first | exact .inl rfl | exact .inr rfl | exact .inr scalB | exact .inr scalI | exact .inr scalT | exact .inr scalM | exact .inr scalMT | exact .inr scalE | exact .inr scalET | exact .inr scalN | exact .inr scalNT | exact .inr scalLs | exact .inr scalDf) ?_
    try simp -dsimp (maxSteps := 20000000) (disch := first | omega | decide +kernel) only [↓bp0, bd0, bd_QV, reduceIte, Nat.reduceEqDiff, evStore, Nat.reduceAdd, Nat.reduceMul, Int.reduceEq, Int.reduceLT, Int.reduceLE, Nat.reduceLeDiff, List.reduceReplicate, reduceCtorEq, evRange, cNt, tk4, Nat.reduceLT]
    refine CallQ.imm (r_Great29 l hl hb hv he) (by rfl) (by first | rfl | (simp -dsimp (maxSteps := 20000000) (disch := first | omega | decide +kernel) only [↓bp0, bd0, bd_QV, reduceIte, Nat.reduceEqDiff, evStore, Nat.reduceAdd, Nat.reduceMul, Int.reduceEq, Int.reduceLT, Int.reduceLE, Nat.reduceLeDiff, List.reduceReplicate, reduceCtorEq, evRange, cNt, tk4, Nat.reduceLT, drcs, drc, flat]; done) | simp -dsimp [evl, drcs, drc, flat, i64, u32, bl, encL, encB, encLL]) (by first | exact .inl rfl | exact .inr rfl | exact .inr scalB | exact .inr scalI | exact .inr scalT | exact .inr scalM | exact .inr scalMT | exact .inr scalE | exact .inr scalET | exact .inr scalN | exact .inr scalNT | exact .inr scalLs | exact .inr scalDf) ?_
    try simp -dsimp (maxSteps := 20000000) (disch := first | omega | decide +kernel) only [↓bp0, bd0, bd_QV, reduceIte, Nat.reduceEqDiff, evStore, Nat.reduceAdd, Nat.reduceMul, Int.reduceEq, Int.reduceLT, Int.reduceLE, Nat.reduceLeDiff, List.reduceReplicate, reduceCtorEq, evRange, cNt, tk4, Nat.reduceLT, hg]
    refine CallQ.imm (v_long a b) (by rfl) (by first | rfl | (simp -dsimp (maxSteps := 20000000) (disch := first | omega | decide +kernel) only [↓bp0, bd0, bd_QV, reduceIte, Nat.reduceEqDiff, evStore, Nat.reduceAdd, Nat.reduceMul, Int.reduceEq, Int.reduceLT, Int.reduceLE, Nat.reduceLeDiff, List.reduceReplicate, reduceCtorEq, evRange, cNt, tk4, Nat.reduceLT, drcs, drc, flat]; done) | simp -dsimp [evl, drcs, drc, flat, i64, u32, bl, encL, encB, encLL]) (by first | exact .inl rfl | exact .inr rfl | exact .inr scalB | exact .inr scalI | exact .inr scalT | exact .inr scalM | exact .inr scalMT | exact .inr scalE | exact .inr scalET | exact .inr scalN | exact .inr scalNT | exact .inr scalLs | exact .inr scalDf) ?_
    simp -dsimp (maxSteps := 20000000) (disch := first | omega | decide +kernel) only [↓bp0, bd0, bd_QV, reduceIte, Nat.reduceEqDiff, evStore, Nat.reduceAdd, Nat.reduceMul, Int.reduceEq, Int.reduceLT, Int.reduceLE, Nat.reduceLeDiff, List.reduceReplicate, reduceCtorEq, evRange, cNt, tk4, Nat.reduceLT, retQ, resL, finL, newL, flat, tupOf, List.toList_toArray, Tryz.f9, c1, c2, Bool.or_true]
    exact leT_one .rfl' (by simp)
  cases h0 : decide (bothE l a b = 0)
  · refine callSpec_of_vc Tryz.func9 rfl (by decide) (by kernel_rfl) (Nat.le_of_ble_eq_true rfl) ?_
    try simp -dsimp (maxSteps := 20000000) (disch := first | omega | decide +kernel) only [↓bp0, bd0, bd_QV, reduceIte, Nat.reduceEqDiff, evStore, Nat.reduceAdd, Nat.reduceMul, Int.reduceEq, Int.reduceLT, Int.reduceLE, Nat.reduceLeDiff, List.reduceReplicate, reduceCtorEq, evRange, cNt, tk4, Nat.reduceLT, Tryz.f9]
    refine CallQ.imm (v_alive) (by rfl) (by first | rfl | (simp -dsimp (maxSteps := 20000000) (disch := first | omega | decide +kernel) only [↓bp0, bd0, bd_QV, reduceIte, Nat.reduceEqDiff, evStore, Nat.reduceAdd, Nat.reduceMul, Int.reduceEq, Int.reduceLT, Int.reduceLE, Nat.reduceLeDiff, List.reduceReplicate, reduceCtorEq, evRange, cNt, tk4, Nat.reduceLT, drcs, drc, flat]; done) | simp -dsimp [evl, drcs, drc, flat, i64, u32, bl, encL, encB, encLL]) (by first | exact .inl rfl | exact .inr rfl | exact .inr scalB | exact .inr scalI | exact .inr scalT | exact .inr scalM | exact .inr scalMT | exact .inr scalE | exact .inr scalET | exact .inr scalN | exact .inr scalNT | exact .inr scalLs | exact .inr scalDf) ?_
    try simp -dsimp (maxSteps := 20000000) (disch := first | omega | decide +kernel) only [↓bp0, bd0, bd_QV, reduceIte, Nat.reduceEqDiff, evStore, Nat.reduceAdd, Nat.reduceMul, Int.reduceEq, Int.reduceLT, Int.reduceLE, Nat.reduceLeDiff, List.reduceReplicate, reduceCtorEq, evRange, cNt, tk4, Nat.reduceLT]
    refine CallQ.imm (r_Great29 l hl hb hv he) (by rfl) (by first | rfl | (simp -dsimp (maxSteps := 20000000) (disch := first | omega | decide +kernel) only [↓bp0, bd0, bd_QV, reduceIte, Nat.reduceEqDiff, evStore, Nat.reduceAdd, Nat.reduceMul, Int.reduceEq, Int.reduceLT, Int.reduceLE, Nat.reduceLeDiff, List.reduceReplicate, reduceCtorEq, evRange, cNt, tk4, Nat.reduceLT, drcs, drc, flat]; done) | simp -dsimp [evl, drcs, drc, flat, i64, u32, bl, encL, encB, encLL]) (by first | exact .inl rfl | exact .inr rfl | exact .inr scalB | exact .inr scalI | exact .inr scalT | exact .inr scalM | exact .inr scalMT | exact .inr scalE | exact .inr scalET | exact .inr scalN | exact .inr scalNT | exact .inr scalLs | exact .inr scalDf) ?_
    try simp -dsimp (maxSteps := 20000000) (disch := first | omega | decide +kernel) only [↓bp0, bd0, bd_QV, reduceIte, Nat.reduceEqDiff, evStore, Nat.reduceAdd, Nat.reduceMul, Int.reduceEq, Int.reduceLT, Int.reduceLE, Nat.reduceLeDiff, List.reduceReplicate, reduceCtorEq, evRange, cNt, tk4, Nat.reduceLT, hg]
    refine CallQ.imm (v_long a b) (by rfl) (by first | rfl | (simp -dsimp (maxSteps := 20000000) (disch := first | omega | decide +kernel) only [↓bp0, bd0, bd_QV, reduceIte, Nat.reduceEqDiff, evStore, Nat.reduceAdd, Nat.reduceMul, Int.reduceEq, Int.reduceLT, Int.reduceLE, Nat.reduceLeDiff, List.reduceReplicate, reduceCtorEq, evRange, cNt, tk4, Nat.reduceLT, drcs, drc, flat]; done) | simp -dsimp [evl, drcs, drc, flat, i64, u32, bl, encL, encB, encLL]) (by first | exact .inl rfl | exact .inr rfl | exact .inr scalB | exact .inr scalI | exact .inr scalT | exact .inr scalM | exact .inr scalMT | exact .inr scalE | exact .inr scalET | exact .inr scalN | exact .inr scalNT | exact .inr scalLs | exact .inr scalDf) ?_
    try simp -dsimp (maxSteps := 20000000) (disch := first | omega | decide +kernel) only [↓bp0, bd0, bd_QV, reduceIte, Nat.reduceEqDiff, evStore, Nat.reduceAdd, Nat.reduceMul, Int.reduceEq, Int.reduceLT, Int.reduceLE, Nat.reduceLeDiff, List.reduceReplicate, reduceCtorEq, evRange, cNt, tk4, Nat.reduceLT, c1, c2, Bool.or_false]
    refine CallQ.imm (v_Both l a b hz hn) (by rfl) (by first | rfl | (simp -dsimp (maxSteps := 20000000) (disch := first | omega | decide +kernel) only [↓bp0, bd0, bd_QV, reduceIte, Nat.reduceEqDiff, evStore, Nat.reduceAdd, Nat.reduceMul, Int.reduceEq, Int.reduceLT, Int.reduceLE, Nat.reduceLeDiff, List.reduceReplicate, reduceCtorEq, evRange, cNt, tk4, Nat.reduceLT, drcs, drc, flat]; done) | simp -dsimp [evl, drcs, drc, flat, i64, u32, bl, encL, encB, encLL]) (by first | exact .inl rfl | exact .inr rfl | exact .inr scalB | exact .inr scalI | exact .inr scalT | exact .inr scalM | exact .inr scalMT | exact .inr scalE | exact .inr scalET | exact .inr scalN | exact .inr scalNT | exact .inr scalLs | exact .inr scalDf) ?_
    simp -dsimp (maxSteps := 20000000) (disch := first | omega | decide +kernel) only [↓bp0, bd0, bd_QV, reduceIte, Nat.reduceEqDiff, evStore, Nat.reduceAdd, Nat.reduceMul, Int.reduceEq, Int.reduceLT, Int.reduceLE, Nat.reduceLeDiff, List.reduceReplicate, reduceCtorEq, evRange, cNt, tk4, Nat.reduceLT, retQ, resL, finL, newL, flat, tupOf, List.toList_toArray, Tryz.f9, h0]
    exact leT_one .rfl' (by simp)
  obtain ⟨va, vb, hlc⟩ := bothE_zero (of_decide_eq_true h0)
  have P := once_ok va vb
  have d1 := ldiff_of va vb
  have hA : (ldiff l a b).1.length ≤ 30 := by rw [d1]; exact onlyL_len
  have hB : (ldiff l a b).2.1.length ≤ 30 := by rw [d1]; exact onlyL_len
  have hV := evV_len vb
  have hX := P.xl
  have hY := P.yl
  have k0 := d_Differ l a b hz
  have k1 := n_News l a b hz
  have k2 := n_Gone l a b hz
  have k3 := r_lView l b hz hn
  have e0 : (ldiff l a b).2.2 = 0 := by rw [d1]
  have e1 : (nnews l a b).2 = 0 := by rw [nnews, if_neg (by rw [Decidable.not_not]; exact e0)]
  have e2 : (ngone l a b).2 = 0 := by rw [ngone, if_neg (by rw [Decidable.not_not]; exact e0)]
  rw [e0] at k0
  rw [e1] at k1
  rw [e2] at k2
  rw [vb] at k3
  exact l_OnceG l a b _ _ _ _ (evV l b) hz hn hg vb (by omega) (by omega) (by omega) (by omega) (by omega) P.xa P.xp P.ya P.yp (r_Great29 l hl hb hv he) c1 c2 h0 k0 k1 k2 k3
    (v_once _ _ (by omega) P.xl P.xi P.xu) (v_once _ _ (by omega) P.yl P.yi P.yu)
end Go.Ab
end

section
/- Abstract values: what the reading of an argument says, as a tree; the row's end. -/
namespace Go.Ab
open Go
universe u
def allKn (w : World) : Kn := ⟨fun _ _ => none, fun _ => none, fun b => b < w.heap.size⟩
def Opens (P : Program) (t : TypeId) {D : Type} (enc : D → List PV) (good : D → Prop) : Prop :=
  ∀ (H : Type) (en : TypeId × Value → H) (w : World) (base : Nat) (spare : Nat → Bool) (held : Bool) (fuel : Nat) (cs : List Value) (x : DataW H × List MemPlace),
    DataW.trod en P w base spare held fuel t cs = some x → ∃ d, good d ∧ RelList (allKn w) w (enc d) cs ∧ (enc d).all PV.one = true
section
variable {P : Program}
theorem Opens.int {t : TypeId} {k : IntKind} (ht : P.underlying t = some (.int k)) : Opens P t (fun n : Int => [PV.lit (.int k n)]) (fun n => (Lit.int k n).wf = true) := by
  intro H en w base spare held fuel cs x h
  obtain ⟨n, rfl, _, hw⟩ := DataW.trod_int ht h
  exact ⟨n, hw, by simp [RelList, Rel, ground], rfl⟩
theorem Opens.bool {t : TypeId} (ht : P.underlying t = some .bool) : Opens P t (fun b : Bool => [PV.lit (.bool b)]) (fun _ => True) := by
  intro H en w base spare held fuel cs x h
  obtain ⟨b, rfl, _⟩ := DataW.trod_bool ht h
  exact ⟨b, trivial, by simp [RelList, Rel, ground], rfl⟩
theorem Opens.string {t : TypeId} (ht : P.underlying t = some .string) : Opens P t (fun s : ByteArray => [PV.lit (.string s)]) (fun s => s.size ≤ maxLen) := by
  intro H en w base spare held fuel cs x h
  obtain ⟨s, rfl, _, hs⟩ := DataW.trod_string ht h
  exact ⟨s, hs, by simp [RelList, Rel, ground], rfl⟩
theorem mapM_cells {w : World} {b : Nat} : ∀ (n o : Nat) (l : List Value), (List.range' 0 n).mapM (fun i => w.cell? ((⟨b, o, none⟩ : Addr).add i)) = some l →
    l.length = n ∧ ∀ j v, l[j]? = some v → w.cell? ⟨b, o + j, none⟩ = some v := by
  intro n o l h
  have key : ∀ (m s : Nat) (l : List Value), (List.range' s m).mapM (fun i => w.cell? ((⟨b, o, none⟩ : Addr).add i)) = some l → l.length = m ∧ ∀ j v, l[j]? = some v → w.cell? ⟨b, o + (s + j), none⟩ = some v := by
    intro m
    induction m with
    | zero => intro s l h; simp at h; subst h; simp
    | succ m ih =>
      intro s l h
      rw [List.range'_succ, List.mapM_cons] at h
      simp only [bind, Option.bind_eq_some_iff, pure, Option.some.injEq] at h
      obtain ⟨v, h1, vs, h2, rfl⟩ := h
      obtain ⟨g1, g2⟩ := ih (s + 1) vs h2
      refine ⟨by simp [g1], fun j u hj => ?_⟩
      cases j with
      | zero => simp at hj; subst hj; rw [addr_add] at h1; exact h1
      | succ j =>
        have := g2 j u (by simpa using hj)
        rw [show s + (j + 1) = s + 1 + j from by omega]; exact this
  have := key n 0 l h
  simpa using this
theorem cells_of {w : World} {base b o n : Nat} {l : List Value} (h : w.cells? base ⟨b, o, none⟩ n = some l) : l.length = n ∧ ∀ j v, l[j]? = some v → w.cell? ⟨b, o + j, none⟩ = some v := by
  unfold World.cells? at h
  split at h
  · rw [List.range_eq_range'] at h
    exact mapM_cells n o l h
  · cases h
theorem cells_spot {w : World} {base n : Nat} {a : Addr} {l : List Value} (hn : 0 < n) (h : w.cells? base a n = some l) : a.spot = none := by
  unfold World.cells? at h
  split at h
  · obtain ⟨m, rfl⟩ : ∃ m, n = m + 1 := ⟨n - 1, by omega⟩
    rw [List.range_succ_eq_map, List.mapM_cons] at h
    simp only [bind, Option.bind_eq_some_iff] at h
    obtain ⟨v, h1, _⟩ := h
    cases hs : a.spot with
    | none => rfl
    | some s =>
      exfalso
      simp only [Addr.add, if_true, World.cell?] at h1
      split at h1
      · rw [hs] at h1; simp at h1
      · cases h1
  · cases h
theorem rows_of {w : World} {D : Type} {enc : D → List PV} {good : D → Prop} {s b : Nat} {f : List Value → Prop} (hs : ∀ d, (enc d).length = s)
    (hf : ∀ cs, f cs → ∃ d, good d ∧ RelList (allKn w) w (enc d) cs ∧ (enc d).all PV.one = true) : ∀ (n o : Nat),
    (∀ i, i < n → ∃ cs, cs.length = s ∧ f cs ∧ ∀ j v, cs[j]? = some v → w.cell? ⟨b, o + i * s + j, none⟩ = some v) → ∃ l : List D, l.length = n ∧ (∀ d ∈ l, good d) ∧ RelRows (allKn w) w b o s (l.map enc)
  | 0, o, _ => ⟨[], rfl, by simp, by simp [RelRows]⟩
  | n + 1, o, h => by
    obtain ⟨cs, h1, h2, h3⟩ := h 0 (by omega)
    obtain ⟨d, g1, g2, g3⟩ := hf cs h2
    obtain ⟨l, k1, k2, k3⟩ := rows_of hs hf n (o + s) fun i hi => by
      obtain ⟨cs, h1, h2, h3⟩ := h (i + 1) (by omega)
      exact ⟨cs, h1, h2, fun j v hj => by have := h3 j v hj; rw [show o + s + i * s + j = o + (i + 1) * s + j from by rw [Nat.add_mul]; omega]; exact this⟩
    refine ⟨d :: l, by simp [k1], fun x hx => by rcases List.mem_cons.1 hx with rfl | hx; exact g1; exact k2 x hx, ?_⟩
    simp only [List.map_cons, RelRows]
    refine ⟨hs d, relCells_of_list _ cs o g2 g3 fun j hj => ?_, k3⟩
    have hj' : j < cs.length := by rw [h1, ← hs d]; exact hj
    rw [List.getElem?_eq_getElem hj']
    have := h3 j _ (List.getElem?_eq_getElem hj')
    simpa using this
theorem Opens.slice {t e : TypeId} {D : Type} {enc : D → List PV} {good : D → Prop} {s : Nat} (ht : P.underlying t = some (.slice e)) (hc : P.cellsOf e = s) (h0 : 0 < s) (hs : ∀ d, (enc d).length = s) (he : Opens P e enc good) :
    Opens P t (fun l : List D => [PV.imm (l.map enc) false]) (fun l => l.length ≤ maxLen ∧ ∀ d ∈ l, good d) := by
  intro H en w base spare held fuel cs x h
  rcases DataW.trod_slice ht h with ⟨rfl, rfl⟩ | ⟨a, len, cap, elems, rest, n, rfl, rfl, rfl, hb, hl, hm, hel, hget, _⟩
  · exact ⟨[], ⟨by simp, by simp⟩, by simp only [RelList, Rel]; exact ⟨_, [], rfl, ⟨none, 0, 0, rfl, rfl, Nat.le_refl _, by simp, .inl rfl⟩, rfl⟩, rfl⟩
  · have hex : ∀ i, i < len → ∃ cs x, w.cells? base (a.add (i * P.cellsOf e)) (P.cellsOf e) = some cs ∧ DataW.trod en P w base spare held n e cs = some x := fun i hi => by
      have := hget i hi
      rw [List.getElem?_eq_getElem (by rw [hel]; exact hi), Option.bind_eq_some_iff] at this
      obtain ⟨cs, h1, h2⟩ := this
      exact ⟨cs, _, h1, h2⟩
    by_cases hz : len = 0
    · subst hz
      exact ⟨[], ⟨by simp, by simp⟩, by simp only [RelList, Rel]; exact ⟨_, [], rfl, ⟨some a, 0, cap, rfl, rfl, Nat.zero_le _, by simp, .inl rfl⟩, rfl⟩, rfl⟩
    · have hsp : a.spot = none := by
        obtain ⟨cs, x, h1, _⟩ := hex 0 (by omega)
        rw [Nat.zero_mul, Addr.add, if_pos rfl] at h1
        exact cells_spot (by rw [hc]; exact h0) h1
      obtain ⟨b, o, sp⟩ := a
      simp only at hsp
      subst hsp
      have hblk : b < w.heap.size := by
        obtain ⟨cs, x, h1, _⟩ := hex 0 (by omega)
        rw [addr_add] at h1
        obtain ⟨g1, g2⟩ := cells_of h1
        have hlt : 0 < cs.length := by rw [g1, hc]; exact h0
        have := g2 0 _ (List.getElem?_eq_getElem hlt)
        unfold World.cell? at this
        split at this
        · rename_i c e' fr hh; exact (Array.getElem?_eq_some_iff.1 hh).1
        · cases this
      obtain ⟨l, k1, k2, k3⟩ := rows_of (w := w) (b := b) (f := fun cs => ∃ x, DataW.trod en P w base spare held n e cs = some x) hs (fun cs ⟨x, hx⟩ => he H en w base spare held n cs x hx) len o fun i hi => by
        obtain ⟨cs, x, h1, h2⟩ := hex i hi
        rw [addr_add, hc] at h1
        obtain ⟨g1, g2⟩ := cells_of h1
        exact ⟨cs, g1, ⟨x, h2⟩, g2⟩
      refine ⟨l, ⟨by rw [k1]; omega, k2⟩, ?_, rfl⟩
      simp only [RelList, Rel]
      exact ⟨_, [], rfl, ⟨some ⟨b, o, none⟩, len, cap, rfl, by simp [k1], hl, by simp, .inr ⟨b, o, s, rfl, hblk, k3⟩⟩, rfl⟩
theorem Opens.struct2 {t : TypeId} {f0 f1 : Field} {D0 D1 : Type} {enc0 : D0 → List PV} {enc1 : D1 → List PV} {good0 : D0 → Prop} {good1 : D1 → Prop} {s0 s1 : Nat} (ht : P.underlying t = some (.struct #[f0, f1]))
    (hc : P.cellsOf t = s0 + s1) (h0 : P.cellsOf f0.type = s0) (h1 : P.cellsOf f1.type = s1) (o0 : f0.offset = 0) (o1 : f1.offset = s0) (e0 : Opens P f0.type enc0 good0) (e1 : Opens P f1.type enc1 good1) :
    Opens P t (fun d : D0 × D1 => enc0 d.1 ++ enc1 d.2) (fun d => good0 d.1 ∧ good1 d.2) := by
  intro H en w base spare held fuel cs x h
  obtain ⟨y0, y1, n, _, hl, g0, g1⟩ := ChangeShapes.trod_struct2 ht h
  rw [o0, h0, List.drop_zero] at g0
  rw [o1, h1] at g1
  obtain ⟨d0, a1, a2, a3⟩ := e0 H en w base spare held n _ _ g0
  obtain ⟨d1, b1, b2, b3⟩ := e1 H en w base spare held n _ _ g1
  refine ⟨(d0, d1), ⟨a1, b1⟩, ?_, by simp only [List.all_append, a3, b3, Bool.and_self]⟩
  have := relList_append _ _ a2 b2
  rwa [List.take_of_length_le (l := cs.drop s0) (by rw [List.length_drop]; omega), List.take_append_drop] at this
theorem Bel.below {w w' : World} (h : Bel w w') : RowKit.Below w.heap.size w w' := ⟨h.os, h.tape, h.output.eq, h.size, h.hold⟩
theorem trodAll_below {P : Program} (laidOut : laidOutB P = true) {H : Type} {en : TypeId × Value → H} {W W' : World} (bel : Bel W W') : ∀ (ts : List TypeId) (vs : List Value) (ds : List (DataW H)) (ps : List MemPlace),
    ts.all (fun t => P.readableRec t && decide (t < P.types.size)) = true → DataW.TrodAll en P W 0 (fun _ => true) true ts vs ds ps →
    DataW.TrodAll en P W' 0 (fun b => decide (b < W.heap.size)) true ts vs ds ps
  | [], [], [], ps, _, h => h
  | t :: ts, v :: vs, d :: ds, ps, hr, h => by
    obtain ⟨p, q, h1, h2, e⟩ := h
    simp only [List.all_cons, Bool.and_eq_true, decide_eq_true_eq] at hr
    refine ⟨p, q, RowKit.Below.trod laidOut hr.1.1 hr.1.2 h1 bel.below ?_, trodAll_below laidOut bel ts vs ds q hr.2 h2, e⟩
    obtain ⟨m, hm⟩ := h1
    exact DataW.trod_lt m _ _ _ hm
  | [], _ :: _, _, _, _, h => h.elim
  | [], [], _ :: _, _, _, h => h.elim
  | _ :: _, [], _, _, _, h => h.elim
  | _ :: _, _ :: _, [], _, _, h => h.elim
end
end Go.Ab
end

section
set_option maxRecDepth 100000
namespace Go.Ab
open Go
theorem Opens.conv {P : Program} {t : TypeId} {D E : Type} {enc : D → List PV} {good : D → Prop} {enc' : E → List PV} {good' : E → Prop} (h : Opens P t enc good) (f : D → E) (h1 : ∀ d, enc' (f d) = enc d) (h2 : ∀ d, good d → good' (f d)) : Opens P t enc' good' := by
  intro H en w base spare held fuel cs x hx
  obtain ⟨d, g1, g2, g3⟩ := h H en w base spare held fuel cs x hx
  exact ⟨f d, h2 d g1, by rw [h1]; exact g2, by rw [h1]; exact g3⟩
theorem trod_struct3 {H : Type} {enc : TypeId × Value → H} {P : Program} {w : World} {base : Nat} {spare : Nat → Bool} {held : Bool} {t : TypeId} {f0 f1 f2 : Field} {fuel : Nat} {cs : List Value} {x : DataW H × List MemPlace} (ht : P.underlying t = some (.struct #[f0, f1, f2])) (h : DataW.trod enc P w base spare held fuel t cs = some x) :
    ∃ y0 y1 y2 n, cs.length = P.cellsOf t ∧ DataW.trod enc P w base spare held n f0.type ((cs.drop f0.offset).take (P.cellsOf f0.type)) = some y0 ∧
      DataW.trod enc P w base spare held n f1.type ((cs.drop f1.offset).take (P.cellsOf f1.type)) = some y1 ∧ DataW.trod enc P w base spare held n f2.type ((cs.drop f2.offset).take (P.cellsOf f2.type)) = some y2 := by
  obtain ⟨xs, n, _, rfl, hl, hlen, hf⟩ := DataW.trod_struct ht h
  match xs, hlen with
  | [y0, y1, y2], _ => exact ⟨y0, y1, y2, n, hl, by simpa using hf 0 f0 rfl, by simpa using hf 1 f1 rfl, by simpa using hf 2 f2 rfl⟩
theorem Opens.struct3 {P : Program} {t : TypeId} {f0 f1 f2 : Field} {D0 D1 D2 : Type} {enc0 : D0 → List PV} {enc1 : D1 → List PV} {enc2 : D2 → List PV} {good0 : D0 → Prop} {good1 : D1 → Prop} {good2 : D2 → Prop} {s0 s1 s2 : Nat} (ht : P.underlying t = some (.struct #[f0, f1, f2]))
    (hc : P.cellsOf t = s0 + s1 + s2) (h0 : P.cellsOf f0.type = s0) (h1 : P.cellsOf f1.type = s1) (h2 : P.cellsOf f2.type = s2) (o0 : f0.offset = 0) (o1 : f1.offset = s0) (o2 : f2.offset = s0 + s1) (e0 : Opens P f0.type enc0 good0) (e1 : Opens P f1.type enc1 good1) (e2 : Opens P f2.type enc2 good2) :
    Opens P t (fun d : D0 × D1 × D2 => enc0 d.1 ++ (enc1 d.2.1 ++ enc2 d.2.2)) (fun d => good0 d.1 ∧ good1 d.2.1 ∧ good2 d.2.2) := by
  intro H en w base spare held fuel cs x h
  obtain ⟨y0, y1, y2, n, hl, g0, g1, g2⟩ := trod_struct3 ht h
  rw [o0, h0, List.drop_zero] at g0
  rw [o1, h1] at g1
  rw [o2, h2] at g2
  obtain ⟨d0, a1, a2, a3⟩ := e0 H en w base spare held n _ _ g0
  obtain ⟨d1, b1, b2, b3⟩ := e1 H en w base spare held n _ _ g1
  obtain ⟨d2, c1, c2, c3⟩ := e2 H en w base spare held n _ _ g2
  refine ⟨(d0, d1, d2), ⟨a1, b1, c1⟩, ?_, by simp only [List.all_append, a3, b3, c3, Bool.and_self]⟩
  have h12 := relList_append _ _ b2 c2
  have := relList_append _ _ a2 h12
  have e1 : (cs.drop (s0 + s1)).take s2 = cs.drop (s0 + s1) := List.take_of_length_le (by rw [List.length_drop]; omega)
  have e2 : (cs.drop s0).take s1 ++ (cs.drop (s0 + s1)).take s2 = cs.drop s0 := by
    rw [e1, ← List.drop_drop]; exact List.take_append_drop _ _
  rwa [e2, List.take_append_drop] at this
end Go.Ab
namespace Go.Proofs.YtgcodedanljhpaaGreatDoor
open Go.ChangeShapes Go.WideShapes Go.ChangeAt Go.WideMaps Go.WideElems Go.RowKit Go.Ab
theorem own : ownKnob Tryz.prog.godebug = none := by kernel_rfl
theorem laidOut : laidOutB Tryz.prog = true := by kernel_rfl
theorem opensS : Opens Tryz.prog 9 (fun s : ByteArray => [str s]) (fun s => s.size ≤ maxLen) := Opens.string Tryz.underlying9
theorem opensI : Opens Tryz.prog 3 (fun n : Int => [i64 n]) (fun n => (Lit.int .i64 n).wf = true) := Opens.int Tryz.underlying3
theorem opensU : Opens Tryz.prog 5 (fun n : Int => [u8 n]) (fun n => (Lit.int .u8 n).wf = true) := Opens.int Tryz.underlying5
theorem opensKw : Opens Tryz.prog 138 cKw (fun _ => True) :=
  (Opens.struct2 Tryz.underlying138 (s0 := 1) (s1 := 1) (by kernel_rfl) (by kernel_rfl) (by kernel_rfl) rfl rfl opensS opensI).conv (fun d => ⟨d.1, d.2⟩) (fun _ => rfl) (fun _ _ => trivial)
theorem opensBr : Opens Tryz.prog 51 cBr (fun _ => True) :=
  (Opens.struct3 Tryz.underlying51 (s0 := 1) (s1 := 1) (s2 := 1) (by kernel_rfl) (by kernel_rfl) (by kernel_rfl) (by kernel_rfl) rfl rfl rfl opensS opensS opensI).conv (fun d => ⟨d.1, d.2.1, d.2.2⟩) (fun _ => rfl) (fun _ _ => trivial)
theorem opensEv : Opens Tryz.prog 61 cEv (fun _ => True) :=
  (Opens.struct2 Tryz.underlying61 (s0 := 1) (s1 := 1) (by kernel_rfl) (by kernel_rfl) (by kernel_rfl) rfl rfl opensU opensS).conv (fun d => ⟨d.1, d.2⟩) (fun _ => rfl) (fun _ _ => trivial)
theorem opensKws : Opens Tryz.prog 22 (fun l : List Kw => [encKws l]) (fun l => l.length ≤ maxLen) :=
  (Opens.slice Tryz.underlying22 (s := 2) (by kernel_rfl) (by decide) (fun _ => rfl) opensKw).conv (fun l => l) (fun _ => rfl) (fun _ h => h.1)
theorem opensBrs : Opens Tryz.prog 23 (fun l : List Br => [encBrs l]) (fun l => l.length ≤ maxLen) :=
  (Opens.slice Tryz.underlying23 (s := 3) (by kernel_rfl) (by decide) (fun _ => rfl) opensBr).conv (fun l => l) (fun _ => rfl) (fun _ h => h.1)
theorem opensEvs : Opens Tryz.prog 57 (fun l : List Ev => [encEvs l]) (fun l => l.length ≤ maxLen) :=
  (Opens.slice Tryz.underlying57 (s := 2) (by kernel_rfl) (by decide) (fun _ => rfl) opensEv).conv (fun l => l) (fun _ => rfl) (fun _ h => h.1)
theorem opensEvss : Opens Tryz.prog 24 (fun l : List (List Ev) => [encEvss l]) (fun l => l.length ≤ maxLen ∧ ∀ s ∈ l, s.length ≤ maxLen) :=
  Opens.slice Tryz.underlying24 (s := 1) (by kernel_rfl) (by decide) (fun _ => rfl) opensEvs
structure LMax (l : Ldg) : Prop where
  known : l.known.length ≤ maxLen
  brs : l.brs.length ≤ maxLen
  evs : l.evs.length ≤ maxLen
  ev : ∀ s ∈ l.evs, s.length ≤ maxLen
theorem opensLdg : Opens Tryz.prog 26 cLdg LMax :=
  (Opens.struct3 Tryz.underlying26 (s0 := 1) (s1 := 1) (s2 := 1) (by kernel_rfl) (by kernel_rfl) (by kernel_rfl) (by kernel_rfl) rfl rfl rfl opensKws opensBrs opensEvss).conv (fun d => ⟨d.1, d.2.1, d.2.2⟩) (fun _ => rfl) (fun _ h => ⟨h.1, h.2.1, h.2.2.1, h.2.2.2⟩)
theorem open1 {H : Type} {en : TypeId × Value → H} {W : World} {D : Type} {enc1 : D → PV} {good : D → Prop} {t : TypeId} {v : Value} {d : DataW H} {p : List MemPlace}
    (ho : Opens Tryz.prog t (fun x => [enc1 x]) good) (hv : one1 v = true) (h : DataW.Trod en Tryz.prog W 0 (fun _ => true) true t v d p) : ∃ x, good x ∧ Rel (allKn W) W (enc1 x) v := by
  obtain ⟨fuel, hf⟩ := h
  obtain ⟨x, h1, h2, _⟩ := ho H en W 0 _ true fuel _ _ hf
  simp only [RelList] at h2
  obtain ⟨u, us, e1, e2, e3⟩ := h2
  refine ⟨x, h1, ?_⟩
  have : v.cells.toList = [v] := by cases v <;> simp_all [one1, Value.cells]
  rw [this, e3] at e1
  cases e1
  exact e2
theorem openS {H : Type} {en : TypeId × Value → H} {W : World} {D : Type} {encs : D → List PV} {good : D → Prop} {t : TypeId} {cs : Array Value} {d : DataW H} {p : List MemPlace}
    (ho : Opens Tryz.prog t encs good) (h : DataW.Trod en Tryz.prog W 0 (fun _ => true) true t (.agg cs) d p) : ∃ x, good x ∧ Rel (allKn W) W (.agg (encs x)) (.agg cs) := by
  obtain ⟨fuel, hf⟩ := h
  obtain ⟨x, h1, h2, h3⟩ := ho H en W 0 _ true fuel _ _ hf
  exact ⟨x, h1, by simp only [Rel]; exact ⟨cs, rfl, h3, h2⟩⟩
theorem of_none {W : World} : ∀ g cs, cx.G g = some cs → g < W.heap.size ∧ RelCells (allKn W) W g 0 cs := fun _ _ h => by cases h
end Go.Proofs.YtgcodedanljhpaaGreatDoor
end

section
/- The laid tables of the seat; opening arguments. -/
set_option maxRecDepth 100000
namespace Go.Proofs.YtgcodedanljhpaaGreatDoor
open Go.ChangeShapes Go.WideShapes Go.ChangeAt Go.WideMaps Go.WideElems Go.RowKit Go.Ab
def laid3 {H : Type} : List (String × DataW H) := [("math/bits.deBruijn32tab", Rows.laid_math_bits_deBruijn32tab), ("math/bits.deBruijn64tab", Rows.laid_math_bits_deBruijn64tab), ("internal/strconv.uint64pow10", Rows.laid_internal_strconv_uint64pow10)]
theorem door_met (os : Os) (args : Array Value) : laidMetH Tryz.prog laid3 ((World.doorLaid Tryz.prog 400 os).forCall (fun _ _ => 0) ⟨#[], args, []⟩).memory :=
  laidMetH_of_parts3 (fuel := 8) (laidMet_of_run' 8 (by kernel_rfl) (by kernel_rfl)) (by kernel_rfl) (by kernel_rfl)
end Go.Proofs.YtgcodedanljhpaaGreatDoor
end
