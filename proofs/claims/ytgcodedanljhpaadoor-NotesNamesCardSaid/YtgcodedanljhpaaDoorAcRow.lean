/- NotesNames, the walk. -/
import Derived.Test.YtgcodedanljhpaaDoorRAa
import Derived.Test.YtgcodedanljhpaaDoorRC
import Derived.Test.YtgcodedanljhpaaDoorAcCall
import Derived.ChangeArms
import Derived.ChangeReads
import Derived.Below
import Derived.Carry
import Derived.ChangeSame
set_option linter.unusedSimpArgs false
set_option linter.unusedVariables false
section
set_option maxRecDepth 1000000
set_option maxHeartbeats 16000000
namespace Go.Ab
open Go Go.Proofs Go.Sort
theorem bd_RD : type_of% (And.intro @evNext.eq_1 (And.intro @fld (And.intro @nit (And.intro @nxE (And.intro @ghR (And.intro @ovR (And.intro @evBin_seql (And.intro @evBin_sneq (And.intro @str.eq_1 (And.intro @u8.eq_1 (And.intro @encBrs.eq_1 (And.intro @cBr.eq_1 (And.intro @encLdg.eq_1 (And.intro @encKws.eq_1 (And.intro @cKw.eq_1 (And.intro @encEvss.eq_1 (And.intro @encEvs.eq_1 (And.intro @cEv.eq_1 (And.intro @encMks.eq_1 (And.intro @cMk.eq_1 (And.intro @encStrs.eq_1 (And.intro @tk2 (And.intro @tk3 (And.intro @List.set_cons_succ.{0} (And.intro @List.getElem?_cons_zero.{0} (And.intro @List.getElem?_cons_succ.{0} (@List.length_set.{0}))))))))))))))))))))))))))) := And.intro @evNext.eq_1 (And.intro @fld (And.intro @nit (And.intro @nxE (And.intro @ghR (And.intro @ovR (And.intro @evBin_seql (And.intro @evBin_sneq (And.intro @str.eq_1 (And.intro @u8.eq_1 (And.intro @encBrs.eq_1 (And.intro @cBr.eq_1 (And.intro @encLdg.eq_1 (And.intro @encKws.eq_1 (And.intro @cKw.eq_1 (And.intro @encEvss.eq_1 (And.intro @encEvs.eq_1 (And.intro @cEv.eq_1 (And.intro @encMks.eq_1 (And.intro @cMk.eq_1 (And.intro @encStrs.eq_1 (And.intro @tk2 (And.intro @tk3 (And.intro @List.set_cons_succ.{0} (And.intro @List.getElem?_cons_zero.{0} (And.intro @List.getElem?_cons_succ.{0} (@List.length_set.{0}))))))))))))))))))))))))))
theorem nn_c : AbsW cx Tryd.f4.ntmps (dropC 6 (dropC 10 nnB)) ⟨mkE [(17, bl true), (23, bl true)], mkS [], 14⟩ (retQ cx Tryd.f4.results.toList (bl true)) := by
  refine vc_sound _ _ _ (by kernel_rfl) ?_
  try simp -dsimp (maxSteps := 40000000) (disch := first | omega | decide +kernel) only [↓bp0, bd0, bd_RD, reduceIte, Nat.reduceEqDiff, evStore, Nat.reduceAdd, Nat.reduceMul, Int.reduceEq, Int.reduceLT, Int.reduceLE, Nat.reduceLeDiff, List.reduceReplicate, reduceCtorEq, evRange, cNt, tk4, Nat.reduceLT, nnB, bodyC, dropC, Tryd.f4]
  refine CallQ.imm (v_given) (by rfl) (by first | rfl | (simp -dsimp (maxSteps := 40000000) (disch := first | omega | decide +kernel) only [↓bp0, bd0, bd_RD, reduceIte, Nat.reduceEqDiff, evStore, Nat.reduceAdd, Nat.reduceMul, Int.reduceEq, Int.reduceLT, Int.reduceLE, Nat.reduceLeDiff, List.reduceReplicate, reduceCtorEq, evRange, cNt, tk4, Nat.reduceLT, drcs, drc, flat]; done) | simp -dsimp [evl, drcs, drc, flat, i64, u32, bl, encL, encB, encLL]) (by first | exact .inl rfl | exact .inr rfl | exact .inr scalB | exact .inr scalI | exact .inr scalT | exact .inr scalM | exact .inr scalMT | exact .inr scalE | exact .inr scalET | exact .inr scalN | exact .inr scalNT) ?_
  try simp -dsimp (maxSteps := 40000000) (disch := first | omega | decide +kernel) only [↓bp0, bd0, bd_RD, reduceIte, Nat.reduceEqDiff, evStore, Nat.reduceAdd, Nat.reduceMul, Int.reduceEq, Int.reduceLT, Int.reduceLE, Nat.reduceLeDiff, List.reduceReplicate, reduceCtorEq, evRange, cNt, tk4, Nat.reduceLT, PV.cellsP]
  refine CallQ.imm (w_k) (by rfl) (by first | rfl | (simp -dsimp (maxSteps := 40000000) (disch := first | omega | decide +kernel) only [↓bp0, bd0, bd_RD, reduceIte, Nat.reduceEqDiff, evStore, Nat.reduceAdd, Nat.reduceMul, Int.reduceEq, Int.reduceLT, Int.reduceLE, Nat.reduceLeDiff, List.reduceReplicate, reduceCtorEq, evRange, cNt, tk4, Nat.reduceLT, drcs, drc, flat, sRo, sMn, gvL, List.map_cons, List.map_nil, drcs, drc, dr1, dr1s, drRows]; done) | simp -dsimp [evl, drcs, drc, flat, i64, u32, bl, encL, encB, encLL]) (by first | exact .inl rfl | exact .inr rfl | exact .inr scalB | exact .inr scalI | exact .inr scalT | exact .inr scalM | exact .inr scalMT | exact .inr scalE | exact .inr scalET | exact .inr scalN | exact .inr scalNT) ?_
  try simp -dsimp (maxSteps := 40000000) (disch := first | omega | decide +kernel) only [↓bp0, bd0, bd_RD, reduceIte, Nat.reduceEqDiff, evStore, Nat.reduceAdd, Nat.reduceMul, Int.reduceEq, Int.reduceLT, Int.reduceLE, Nat.reduceLeDiff, List.reduceReplicate, reduceCtorEq, evRange, cNt, tk4, Nat.reduceLT, newNts]
  refine CallQ.imm (v_given) (by rfl) (by first | rfl | (simp -dsimp (maxSteps := 40000000) (disch := first | omega | decide +kernel) only [↓bp0, bd0, bd_RD, reduceIte, Nat.reduceEqDiff, evStore, Nat.reduceAdd, Nat.reduceMul, Int.reduceEq, Int.reduceLT, Int.reduceLE, Nat.reduceLeDiff, List.reduceReplicate, reduceCtorEq, evRange, cNt, tk4, Nat.reduceLT, drcs, drc, flat]; done) | simp -dsimp [evl, drcs, drc, flat, i64, u32, bl, encL, encB, encLL]) (by first | exact .inl rfl | exact .inr rfl | exact .inr scalB | exact .inr scalI | exact .inr scalT | exact .inr scalM | exact .inr scalMT | exact .inr scalE | exact .inr scalET | exact .inr scalN | exact .inr scalNT) ?_
  try simp -dsimp (maxSteps := 40000000) (disch := first | omega | decide +kernel) only [↓bp0, bd0, bd_RD, reduceIte, Nat.reduceEqDiff, evStore, Nat.reduceAdd, Nat.reduceMul, Int.reduceEq, Int.reduceLT, Int.reduceLE, Nat.reduceLeDiff, List.reduceReplicate, reduceCtorEq, evRange, cNt, tk4, Nat.reduceLT]
  refine CallQ.imm (w_l) (by rfl) (by first | rfl | (simp -dsimp (maxSteps := 40000000) (disch := first | omega | decide +kernel) only [↓bp0, bd0, bd_RD, reduceIte, Nat.reduceEqDiff, evStore, Nat.reduceAdd, Nat.reduceMul, Int.reduceEq, Int.reduceLT, Int.reduceLE, Nat.reduceLeDiff, List.reduceReplicate, reduceCtorEq, evRange, cNt, tk4, Nat.reduceLT, drcs, drc, flat, sRo, sMn, sR2, Int.reduceNeg]; done) | simp -dsimp [evl, drcs, drc, flat, i64, u32, bl, encL, encB, encLL]) (by first | exact .inl rfl | exact .inr rfl | exact .inr scalB | exact .inr scalI | exact .inr scalT | exact .inr scalM | exact .inr scalMT | exact .inr scalE | exact .inr scalET | exact .inr scalN | exact .inr scalNT) ?_
  try simp -dsimp (maxSteps := 40000000) (disch := first | omega | decide +kernel) only [↓bp0, bd0, bd_RD, reduceIte, Nat.reduceEqDiff, evStore, Nat.reduceAdd, Nat.reduceMul, Int.reduceEq, Int.reduceLT, Int.reduceLE, Nat.reduceLeDiff, List.reduceReplicate, reduceCtorEq, evRange, cNt, tk4, Nat.reduceLT, newNts]
  refine CallQ.imm (v_given) (by rfl) (by first | rfl | (simp -dsimp (maxSteps := 40000000) (disch := first | omega | decide +kernel) only [↓bp0, bd0, bd_RD, reduceIte, Nat.reduceEqDiff, evStore, Nat.reduceAdd, Nat.reduceMul, Int.reduceEq, Int.reduceLT, Int.reduceLE, Nat.reduceLeDiff, List.reduceReplicate, reduceCtorEq, evRange, cNt, tk4, Nat.reduceLT, drcs, drc, flat]; done) | simp -dsimp [evl, drcs, drc, flat, i64, u32, bl, encL, encB, encLL]) (by first | exact .inl rfl | exact .inr rfl | exact .inr scalB | exact .inr scalI | exact .inr scalT | exact .inr scalM | exact .inr scalMT | exact .inr scalE | exact .inr scalET | exact .inr scalN | exact .inr scalNT) ?_
  try simp -dsimp (maxSteps := 40000000) (disch := first | omega | decide +kernel) only [↓bp0, bd0, bd_RD, reduceIte, Nat.reduceEqDiff, evStore, Nat.reduceAdd, Nat.reduceMul, Int.reduceEq, Int.reduceLT, Int.reduceLE, Nat.reduceLeDiff, List.reduceReplicate, reduceCtorEq, evRange, cNt, tk4, Nat.reduceLT]
  refine CallQ.imm (w_m) (by rfl) (by first | rfl | (simp -dsimp (maxSteps := 40000000) (disch := first | omega | decide +kernel) only [↓bp0, bd0, bd_RD, reduceIte, Nat.reduceEqDiff, evStore, Nat.reduceAdd, Nat.reduceMul, Int.reduceEq, Int.reduceLT, Int.reduceLE, Nat.reduceLeDiff, List.reduceReplicate, reduceCtorEq, evRange, cNt, tk4, Nat.reduceLT, drcs, drc, flat, sRo, sMn, sR2, Int.reduceNeg]; done) | simp -dsimp [evl, drcs, drc, flat, i64, u32, bl, encL, encB, encLL]) (by first | exact .inl rfl | exact .inr rfl | exact .inr scalB | exact .inr scalI | exact .inr scalT | exact .inr scalM | exact .inr scalMT | exact .inr scalE | exact .inr scalET | exact .inr scalN | exact .inr scalNT) ?_
  try simp -dsimp (maxSteps := 40000000) (disch := first | omega | decide +kernel) only [↓bp0, bd0, bd_RD, reduceIte, Nat.reduceEqDiff, evStore, Nat.reduceAdd, Nat.reduceMul, Int.reduceEq, Int.reduceLT, Int.reduceLE, Nat.reduceLeDiff, List.reduceReplicate, reduceCtorEq, evRange, cNt, tk4, Nat.reduceLT, newNts]
  refine CallQ.imm (v_given) (by rfl) (by first | rfl | (simp -dsimp (maxSteps := 40000000) (disch := first | omega | decide +kernel) only [↓bp0, bd0, bd_RD, reduceIte, Nat.reduceEqDiff, evStore, Nat.reduceAdd, Nat.reduceMul, Int.reduceEq, Int.reduceLT, Int.reduceLE, Nat.reduceLeDiff, List.reduceReplicate, reduceCtorEq, evRange, cNt, tk4, Nat.reduceLT, drcs, drc, flat]; done) | simp -dsimp [evl, drcs, drc, flat, i64, u32, bl, encL, encB, encLL]) (by first | exact .inl rfl | exact .inr rfl | exact .inr scalB | exact .inr scalI | exact .inr scalT | exact .inr scalM | exact .inr scalMT | exact .inr scalE | exact .inr scalET | exact .inr scalN | exact .inr scalNT) ?_
  try simp -dsimp (maxSteps := 40000000) (disch := first | omega | decide +kernel) only [↓bp0, bd0, bd_RD, reduceIte, Nat.reduceEqDiff, evStore, Nat.reduceAdd, Nat.reduceMul, Int.reduceEq, Int.reduceLT, Int.reduceLE, Nat.reduceLeDiff, List.reduceReplicate, reduceCtorEq, evRange, cNt, tk4, Nat.reduceLT]
  refine CallQ.imm (w_n) (by rfl) (by first | rfl | (simp -dsimp (maxSteps := 40000000) (disch := first | omega | decide +kernel) only [↓bp0, bd0, bd_RD, reduceIte, Nat.reduceEqDiff, evStore, Nat.reduceAdd, Nat.reduceMul, Int.reduceEq, Int.reduceLT, Int.reduceLE, Nat.reduceLeDiff, List.reduceReplicate, reduceCtorEq, evRange, cNt, tk4, Nat.reduceLT, drcs, drc, flat, sRo, sMn, sR2, Int.reduceNeg]; done) | simp -dsimp [evl, drcs, drc, flat, i64, u32, bl, encL, encB, encLL]) (by first | exact .inl rfl | exact .inr rfl | exact .inr scalB | exact .inr scalI | exact .inr scalT | exact .inr scalM | exact .inr scalMT | exact .inr scalE | exact .inr scalET | exact .inr scalN | exact .inr scalNT) ?_
  try simp -dsimp (maxSteps := 40000000) (disch := first | omega | decide +kernel) only [↓bp0, bd0, bd_RD, reduceIte, Nat.reduceEqDiff, evStore, Nat.reduceAdd, Nat.reduceMul, Int.reduceEq, Int.reduceLT, Int.reduceLE, Nat.reduceLeDiff, List.reduceReplicate, reduceCtorEq, evRange, cNt, tk4, Nat.reduceLT, encNts]
  refine CallQ.imm (v_given) (by rfl) (by first | rfl | (simp -dsimp (maxSteps := 40000000) (disch := first | omega | decide +kernel) only [↓bp0, bd0, bd_RD, reduceIte, Nat.reduceEqDiff, evStore, Nat.reduceAdd, Nat.reduceMul, Int.reduceEq, Int.reduceLT, Int.reduceLE, Nat.reduceLeDiff, List.reduceReplicate, reduceCtorEq, evRange, cNt, tk4, Nat.reduceLT, drcs, drc, flat]; done) | simp -dsimp [evl, drcs, drc, flat, i64, u32, bl, encL, encB, encLL]) (by first | exact .inl rfl | exact .inr rfl | exact .inr scalB | exact .inr scalI | exact .inr scalT | exact .inr scalM | exact .inr scalMT | exact .inr scalE | exact .inr scalET | exact .inr scalN | exact .inr scalNT) ?_
  try simp -dsimp (maxSteps := 40000000) (disch := first | omega | decide +kernel) only [↓bp0, bd0, bd_RD, reduceIte, Nat.reduceEqDiff, evStore, Nat.reduceAdd, Nat.reduceMul, Int.reduceEq, Int.reduceLT, Int.reduceLE, Nat.reduceLeDiff, List.reduceReplicate, reduceCtorEq, evRange, cNt, tk4, Nat.reduceLT]
  refine CallQ.imm (w_o) (by rfl) (by first | rfl | (simp -dsimp (maxSteps := 40000000) (disch := first | omega | decide +kernel) only [↓bp0, bd0, bd_RD, reduceIte, Nat.reduceEqDiff, evStore, Nat.reduceAdd, Nat.reduceMul, Int.reduceEq, Int.reduceLT, Int.reduceLE, Nat.reduceLeDiff, List.reduceReplicate, reduceCtorEq, evRange, cNt, tk4, Nat.reduceLT, drcs, drc, flat, sRo, sMn, sR2, Int.reduceNeg]; done) | simp -dsimp [evl, drcs, drc, flat, i64, u32, bl, encL, encB, encLL]) (by first | exact .inl rfl | exact .inr rfl | exact .inr scalB | exact .inr scalI | exact .inr scalT | exact .inr scalM | exact .inr scalMT | exact .inr scalE | exact .inr scalET | exact .inr scalN | exact .inr scalNT) ?_
  try simp -dsimp (maxSteps := 40000000) (disch := first | omega | decide +kernel) only [↓bp0, bd0, bd_RD, reduceIte, Nat.reduceEqDiff, evStore, Nat.reduceAdd, Nat.reduceMul, Int.reduceEq, Int.reduceLT, Int.reduceLE, Nat.reduceLeDiff, List.reduceReplicate, reduceCtorEq, evRange, cNt, tk4, Nat.reduceLT, encNts]
  refine CallQ.imm (v_given) (by rfl) (by first | rfl | (simp -dsimp (maxSteps := 40000000) (disch := first | omega | decide +kernel) only [↓bp0, bd0, bd_RD, reduceIte, Nat.reduceEqDiff, evStore, Nat.reduceAdd, Nat.reduceMul, Int.reduceEq, Int.reduceLT, Int.reduceLE, Nat.reduceLeDiff, List.reduceReplicate, reduceCtorEq, evRange, cNt, tk4, Nat.reduceLT, drcs, drc, flat]; done) | simp -dsimp [evl, drcs, drc, flat, i64, u32, bl, encL, encB, encLL]) (by first | exact .inl rfl | exact .inr rfl | exact .inr scalB | exact .inr scalI | exact .inr scalT | exact .inr scalM | exact .inr scalMT | exact .inr scalE | exact .inr scalET | exact .inr scalN | exact .inr scalNT) ?_
  try simp -dsimp (maxSteps := 40000000) (disch := first | omega | decide +kernel) only [↓bp0, bd0, bd_RD, reduceIte, Nat.reduceEqDiff, evStore, Nat.reduceAdd, Nat.reduceMul, Int.reduceEq, Int.reduceLT, Int.reduceLE, Nat.reduceLeDiff, List.reduceReplicate, reduceCtorEq, evRange, cNt, tk4, Nat.reduceLT]
  refine CallQ.imm (w_p) (by rfl) (by first | rfl | (simp -dsimp (maxSteps := 40000000) (disch := first | omega | decide +kernel) only [↓bp0, bd0, bd_RD, reduceIte, Nat.reduceEqDiff, evStore, Nat.reduceAdd, Nat.reduceMul, Int.reduceEq, Int.reduceLT, Int.reduceLE, Nat.reduceLeDiff, List.reduceReplicate, reduceCtorEq, evRange, cNt, tk4, Nat.reduceLT, drcs, drc, flat, sRo, sMn, sR2, Int.reduceNeg]; done) | simp -dsimp [evl, drcs, drc, flat, i64, u32, bl, encL, encB, encLL]) (by first | exact .inl rfl | exact .inr rfl | exact .inr scalB | exact .inr scalI | exact .inr scalT | exact .inr scalM | exact .inr scalMT | exact .inr scalE | exact .inr scalET | exact .inr scalN | exact .inr scalNT) ?_
  try simp -dsimp (maxSteps := 40000000) (disch := first | omega | decide +kernel) only [↓bp0, bd0, bd_RD, reduceIte, Nat.reduceEqDiff, evStore, Nat.reduceAdd, Nat.reduceMul, Int.reduceEq, Int.reduceLT, Int.reduceLE, Nat.reduceLeDiff, List.reduceReplicate, reduceCtorEq, evRange, cNt, tk4, Nat.reduceLT, encNts]
  refine CallQ.imm (v_given) (by rfl) (by first | rfl | (simp -dsimp (maxSteps := 40000000) (disch := first | omega | decide +kernel) only [↓bp0, bd0, bd_RD, reduceIte, Nat.reduceEqDiff, evStore, Nat.reduceAdd, Nat.reduceMul, Int.reduceEq, Int.reduceLT, Int.reduceLE, Nat.reduceLeDiff, List.reduceReplicate, reduceCtorEq, evRange, cNt, tk4, Nat.reduceLT, drcs, drc, flat]; done) | simp -dsimp [evl, drcs, drc, flat, i64, u32, bl, encL, encB, encLL]) (by first | exact .inl rfl | exact .inr rfl | exact .inr scalB | exact .inr scalI | exact .inr scalT | exact .inr scalM | exact .inr scalMT | exact .inr scalE | exact .inr scalET | exact .inr scalN | exact .inr scalNT) ?_
  try simp -dsimp (maxSteps := 40000000) (disch := first | omega | decide +kernel) only [↓bp0, bd0, bd_RD, reduceIte, Nat.reduceEqDiff, evStore, Nat.reduceAdd, Nat.reduceMul, Int.reduceEq, Int.reduceLT, Int.reduceLE, Nat.reduceLeDiff, List.reduceReplicate, reduceCtorEq, evRange, cNt, tk4, Nat.reduceLT]
  refine CallQ.imm (w_q) (by rfl) (by first | rfl | (simp -dsimp (maxSteps := 40000000) (disch := first | omega | decide +kernel) only [↓bp0, bd0, bd_RD, reduceIte, Nat.reduceEqDiff, evStore, Nat.reduceAdd, Nat.reduceMul, Int.reduceEq, Int.reduceLT, Int.reduceLE, Nat.reduceLeDiff, List.reduceReplicate, reduceCtorEq, evRange, cNt, tk4, Nat.reduceLT, drcs, drc, flat, sRo, sMn, sR2, Int.reduceNeg]; done) | simp -dsimp [evl, drcs, drc, flat, i64, u32, bl, encL, encB, encLL]) (by first | exact .inl rfl | exact .inr rfl | exact .inr scalB | exact .inr scalI | exact .inr scalT | exact .inr scalM | exact .inr scalMT | exact .inr scalE | exact .inr scalET | exact .inr scalN | exact .inr scalNT) ?_
  try simp -dsimp (maxSteps := 40000000) (disch := first | omega | decide +kernel) only [↓bp0, bd0, bd_RD, reduceIte, Nat.reduceEqDiff, evStore, Nat.reduceAdd, Nat.reduceMul, Int.reduceEq, Int.reduceLT, Int.reduceLE, Nat.reduceLeDiff, List.reduceReplicate, reduceCtorEq, evRange, cNt, tk4, Nat.reduceLT]
  have bL0 : evBuild cx 26 [] = some (.agg [.lit (.slice none 0 0), .lit (.slice none 0 0), .lit (.slice none 0 0)]) := by kernel_rfl
  try simp -dsimp (maxSteps := 40000000) (disch := first | omega | decide +kernel) only [↓bp0, bd0, bd_RD, reduceIte, Nat.reduceEqDiff, evStore, Nat.reduceAdd, Nat.reduceMul, Int.reduceEq, Int.reduceLT, Int.reduceLE, Nat.reduceLeDiff, List.reduceReplicate, reduceCtorEq, evRange, cNt, tk4, Nat.reduceLT, bL0]
  refine CallQ.imm (w_r) (by rfl) (by first | rfl | (simp -dsimp (maxSteps := 40000000) (disch := first | omega | decide +kernel) only [↓bp0, bd0, bd_RD, reduceIte, Nat.reduceEqDiff, evStore, Nat.reduceAdd, Nat.reduceMul, Int.reduceEq, Int.reduceLT, Int.reduceLE, Nat.reduceLeDiff, List.reduceReplicate, reduceCtorEq, evRange, cNt, tk4, Nat.reduceLT, drcs, drc, flat, sMn]; done) | simp -dsimp [evl, drcs, drc, flat, i64, u32, bl, encL, encB, encLL]) (by first | exact .inl rfl | exact .inr rfl | exact .inr scalB | exact .inr scalI | exact .inr scalT | exact .inr scalM | exact .inr scalMT | exact .inr scalE | exact .inr scalET | exact .inr scalN | exact .inr scalNT) ?_
  try simp -dsimp (maxSteps := 40000000) (disch := first | omega | decide +kernel) only [↓bp0, bd0, bd_RD, reduceIte, Nat.reduceEqDiff, evStore, Nat.reduceAdd, Nat.reduceMul, Int.reduceEq, Int.reduceLT, Int.reduceLE, Nat.reduceLeDiff, List.reduceReplicate, reduceCtorEq, evRange, cNt, tk4, Nat.reduceLT, newNts, decide_true, List.append_eq, List.cons_append, List.nil_append]
  refine CallQ.imm (v_alive) (by rfl) (by first | rfl | (simp -dsimp (maxSteps := 40000000) (disch := first | omega | decide +kernel) only [↓bp0, bd0, bd_RD, reduceIte, Nat.reduceEqDiff, evStore, Nat.reduceAdd, Nat.reduceMul, Int.reduceEq, Int.reduceLT, Int.reduceLE, Nat.reduceLeDiff, List.reduceReplicate, reduceCtorEq, evRange, cNt, tk4, Nat.reduceLT, drcs, drc, flat]; done) | simp -dsimp [evl, drcs, drc, flat, i64, u32, bl, encL, encB, encLL]) (by first | exact .inl rfl | exact .inr rfl | exact .inr scalB | exact .inr scalI | exact .inr scalT | exact .inr scalM | exact .inr scalMT | exact .inr scalE | exact .inr scalET | exact .inr scalN | exact .inr scalNT) ?_
  simp -dsimp (maxSteps := 40000000) (disch := first | omega | decide +kernel) only [↓bp0, bd0, bd_RD, reduceIte, Nat.reduceEqDiff, evStore, Nat.reduceAdd, Nat.reduceMul, Int.reduceEq, Int.reduceLT, Int.reduceLE, Nat.reduceLeDiff, List.reduceReplicate, reduceCtorEq, evRange, cNt, tk4, Nat.reduceLT, retQ, resL, finL, newL, flat, tupOf, List.toList_toArray, Tryd.f4]
  exact leT_one .rfl' (by simp)
end Go.Ab
end

section
/- NotesNames, the joint. -/
set_option maxRecDepth 1000000
namespace Go.Ab
open Go Go.Proofs Go.Sort
theorem nnB_body : Tryd.f4.body = some nnB := by kernel_rfl
theorem l_NotesNames : CallSpec cx 4 [] (bl true) :=
  callSpec_of_abs Tryd.func4 nnB_body (by decide) (Nat.le_of_ble_eq_true rfl)
    (AbsW.cut 10 nnB (by kernel_rfl) (nn_a _ _ (AbsW.cut 6 _ (by kernel_rfl) (nn_b _ _ nn_c))))
end Go.Ab
end

section
/- Abstract values: what the reading of an argument says, as a tree; the row's end. -/
namespace Go.Ab
open Go
universe u
def allKn (w : World) : Kn := ⟨fun _ _ => none, fun _ => none, fun b => b < w.heap.size⟩
def Opens (P : Program) (t : TypeId) {D : Type} (enc : D → List PV) (good : D → Prop) : Prop :=
  ∀ (H : Type) (en : TypeId × Value → H) (w : World) (base : Nat) (spare : Nat → Bool) (held : Bool) (fuel : Nat) (cs : List Value) (x : DataW H × List MemPlace),
    DataW.trod en P w base spare held fuel t cs = some x → ∃ d, good d ∧ RelList (allKn w) w (enc d) cs ∧ (enc d).all PV.one = true
section
variable {P : Program}
theorem Opens.int {t : TypeId} {k : IntKind} (ht : P.underlying t = some (.int k)) : Opens P t (fun n : Int => [PV.lit (.int k n)]) (fun n => (Lit.int k n).wf = true) := by
  intro H en w base spare held fuel cs x h
  obtain ⟨n, rfl, _, hw⟩ := DataW.trod_int ht h
  exact ⟨n, hw, by simp [RelList, Rel, ground], rfl⟩
theorem Opens.bool {t : TypeId} (ht : P.underlying t = some .bool) : Opens P t (fun b : Bool => [PV.lit (.bool b)]) (fun _ => True) := by
  intro H en w base spare held fuel cs x h
  obtain ⟨b, rfl, _⟩ := DataW.trod_bool ht h
  exact ⟨b, trivial, by simp [RelList, Rel, ground], rfl⟩
theorem Opens.string {t : TypeId} (ht : P.underlying t = some .string) : Opens P t (fun s : ByteArray => [PV.lit (.string s)]) (fun s => s.size ≤ maxLen) := by
  intro H en w base spare held fuel cs x h
  obtain ⟨s, rfl, _, hs⟩ := DataW.trod_string ht h
  exact ⟨s, hs, by simp [RelList, Rel, ground], rfl⟩
theorem mapM_cells {w : World} {b : Nat} : ∀ (n o : Nat) (l : List Value), (List.range' 0 n).mapM (fun i => w.cell? ((⟨b, o, none⟩ : Addr).add i)) = some l →
    l.length = n ∧ ∀ j v, l[j]? = some v → w.cell? ⟨b, o + j, none⟩ = some v := by
  intro n o l h
  have key : ∀ (m s : Nat) (l : List Value), (List.range' s m).mapM (fun i => w.cell? ((⟨b, o, none⟩ : Addr).add i)) = some l → l.length = m ∧ ∀ j v, l[j]? = some v → w.cell? ⟨b, o + (s + j), none⟩ = some v := by
    intro m
    induction m with
    | zero => intro s l h; simp at h; subst h; simp
    | succ m ih =>
      intro s l h
      rw [List.range'_succ, List.mapM_cons] at h
      simp only [bind, Option.bind_eq_some_iff, pure, Option.some.injEq] at h
      obtain ⟨v, h1, vs, h2, rfl⟩ := h
      obtain ⟨g1, g2⟩ := ih (s + 1) vs h2
      refine ⟨by simp [g1], fun j u hj => ?_⟩
      cases j with
      | zero => simp at hj; subst hj; rw [addr_add] at h1; exact h1
      | succ j =>
        have := g2 j u (by simpa using hj)
        rw [show s + (j + 1) = s + 1 + j from by omega]; exact this
  have := key n 0 l h
  simpa using this
theorem cells_of {w : World} {base b o n : Nat} {l : List Value} (h : w.cells? base ⟨b, o, none⟩ n = some l) : l.length = n ∧ ∀ j v, l[j]? = some v → w.cell? ⟨b, o + j, none⟩ = some v := by
  unfold World.cells? at h
  split at h
  · rw [List.range_eq_range'] at h
    exact mapM_cells n o l h
  · cases h
theorem cells_spot {w : World} {base n : Nat} {a : Addr} {l : List Value} (hn : 0 < n) (h : w.cells? base a n = some l) : a.spot = none := by
  unfold World.cells? at h
  split at h
  · obtain ⟨m, rfl⟩ : ∃ m, n = m + 1 := ⟨n - 1, by omega⟩
    rw [List.range_succ_eq_map, List.mapM_cons] at h
    simp only [bind, Option.bind_eq_some_iff] at h
    obtain ⟨v, h1, _⟩ := h
    cases hs : a.spot with
    | none => rfl
    | some s =>
      exfalso
      simp only [Addr.add, if_true, World.cell?] at h1
      split at h1
      · rw [hs] at h1; simp at h1
      · cases h1
  · cases h
theorem rows_of {w : World} {D : Type} {enc : D → List PV} {good : D → Prop} {s b : Nat} {f : List Value → Prop} (hs : ∀ d, (enc d).length = s)
    (hf : ∀ cs, f cs → ∃ d, good d ∧ RelList (allKn w) w (enc d) cs ∧ (enc d).all PV.one = true) : ∀ (n o : Nat),
    (∀ i, i < n → ∃ cs, cs.length = s ∧ f cs ∧ ∀ j v, cs[j]? = some v → w.cell? ⟨b, o + i * s + j, none⟩ = some v) → ∃ l : List D, l.length = n ∧ (∀ d ∈ l, good d) ∧ RelRows (allKn w) w b o s (l.map enc)
  | 0, o, _ => ⟨[], rfl, by simp, by simp [RelRows]⟩
  | n + 1, o, h => by
    obtain ⟨cs, h1, h2, h3⟩ := h 0 (by omega)
    obtain ⟨d, g1, g2, g3⟩ := hf cs h2
    obtain ⟨l, k1, k2, k3⟩ := rows_of hs hf n (o + s) fun i hi => by
      obtain ⟨cs, h1, h2, h3⟩ := h (i + 1) (by omega)
      exact ⟨cs, h1, h2, fun j v hj => by have := h3 j v hj; rw [show o + s + i * s + j = o + (i + 1) * s + j from by rw [Nat.add_mul]; omega]; exact this⟩
    refine ⟨d :: l, by simp [k1], fun x hx => by rcases List.mem_cons.1 hx with rfl | hx; exact g1; exact k2 x hx, ?_⟩
    simp only [List.map_cons, RelRows]
    refine ⟨hs d, relCells_of_list _ cs o g2 g3 fun j hj => ?_, k3⟩
    have hj' : j < cs.length := by rw [h1, ← hs d]; exact hj
    rw [List.getElem?_eq_getElem hj']
    have := h3 j _ (List.getElem?_eq_getElem hj')
    simpa using this
theorem Opens.slice {t e : TypeId} {D : Type} {enc : D → List PV} {good : D → Prop} {s : Nat} (ht : P.underlying t = some (.slice e)) (hc : P.cellsOf e = s) (h0 : 0 < s) (hs : ∀ d, (enc d).length = s) (he : Opens P e enc good) :
    Opens P t (fun l : List D => [PV.imm (l.map enc) false]) (fun l => l.length ≤ maxLen ∧ ∀ d ∈ l, good d) := by
  intro H en w base spare held fuel cs x h
  rcases DataW.trod_slice ht h with ⟨rfl, rfl⟩ | ⟨a, len, cap, elems, rest, n, rfl, rfl, rfl, hb, hl, hm, hel, hget, _⟩
  · exact ⟨[], ⟨by simp, by simp⟩, by simp only [RelList, Rel]; exact ⟨_, [], rfl, ⟨none, 0, 0, rfl, rfl, Nat.le_refl _, by simp, .inl rfl⟩, rfl⟩, rfl⟩
  · have hex : ∀ i, i < len → ∃ cs x, w.cells? base (a.add (i * P.cellsOf e)) (P.cellsOf e) = some cs ∧ DataW.trod en P w base spare held n e cs = some x := fun i hi => by
      have := hget i hi
      rw [List.getElem?_eq_getElem (by rw [hel]; exact hi), Option.bind_eq_some_iff] at this
      obtain ⟨cs, h1, h2⟩ := this
      exact ⟨cs, _, h1, h2⟩
    by_cases hz : len = 0
    · subst hz
      exact ⟨[], ⟨by simp, by simp⟩, by simp only [RelList, Rel]; exact ⟨_, [], rfl, ⟨some a, 0, cap, rfl, rfl, Nat.zero_le _, by simp, .inl rfl⟩, rfl⟩, rfl⟩
    · have hsp : a.spot = none := by
        obtain ⟨cs, x, h1, _⟩ := hex 0 (by omega)
        rw [Nat.zero_mul, Addr.add, if_pos rfl] at h1
        exact cells_spot (by rw [hc]; exact h0) h1
      obtain ⟨b, o, sp⟩ := a
      simp only at hsp
      subst hsp
      have hblk : b < w.heap.size := by
        obtain ⟨cs, x, h1, _⟩ := hex 0 (by omega)
        rw [addr_add] at h1
        obtain ⟨g1, g2⟩ := cells_of h1
        have hlt : 0 < cs.length := by rw [g1, hc]; exact h0
        have := g2 0 _ (List.getElem?_eq_getElem hlt)
        unfold World.cell? at this
        split at this
        · rename_i c e' fr hh; exact (Array.getElem?_eq_some_iff.1 hh).1
        · cases this
      obtain ⟨l, k1, k2, k3⟩ := rows_of (w := w) (b := b) (f := fun cs => ∃ x, DataW.trod en P w base spare held n e cs = some x) hs (fun cs ⟨x, hx⟩ => he H en w base spare held n cs x hx) len o fun i hi => by
        obtain ⟨cs, x, h1, h2⟩ := hex i hi
        rw [addr_add, hc] at h1
        obtain ⟨g1, g2⟩ := cells_of h1
        exact ⟨cs, g1, ⟨x, h2⟩, g2⟩
      refine ⟨l, ⟨by rw [k1]; omega, k2⟩, ?_, rfl⟩
      simp only [RelList, Rel]
      exact ⟨_, [], rfl, ⟨some ⟨b, o, none⟩, len, cap, rfl, by simp [k1], hl, by simp, .inr ⟨b, o, s, rfl, hblk, k3⟩⟩, rfl⟩
theorem Bel.below {w w' : World} (h : Bel w w') : RowKit.Below w.heap.size w w' := ⟨h.os, h.tape, h.output.eq, h.size, h.hold⟩
theorem trodAll_below {P : Program} (laidOut : laidOutB P = true) {H : Type} {en : TypeId × Value → H} {W W' : World} (bel : Bel W W') : ∀ (ts : List TypeId) (vs : List Value) (ds : List (DataW H)) (ps : List MemPlace),
    ts.all (fun t => P.readableRec t && decide (t < P.types.size)) = true → DataW.TrodAll en P W 0 (fun _ => true) true ts vs ds ps →
    DataW.TrodAll en P W' 0 (fun b => decide (b < W.heap.size)) true ts vs ds ps
  | [], [], [], ps, _, h => h
  | t :: ts, v :: vs, d :: ds, ps, hr, h => by
    obtain ⟨p, q, h1, h2, e⟩ := h
    simp only [List.all_cons, Bool.and_eq_true, decide_eq_true_eq] at hr
    refine ⟨p, q, RowKit.Below.trod laidOut hr.1.1 hr.1.2 h1 bel.below ?_, trodAll_below laidOut bel ts vs ds q hr.2 h2, e⟩
    obtain ⟨m, hm⟩ := h1
    exact DataW.trod_lt m _ _ _ hm
  | [], _ :: _, _, _, _, h => h.elim
  | [], [], _ :: _, _, _, h => h.elim
  | _ :: _, [], _, _, _, h => h.elim
  | _ :: _, _ :: _, [], _, _, h => h.elim
end
end Go.Ab
end
