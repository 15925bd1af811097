/- NotesOnce. -/
import Derived.Test.YtgcodedanljhpaaGreatDoorQFk
set_option linter.unusedSimpArgs false
set_option linter.unusedVariables false
set_option maxRecDepth 1000000
set_option maxHeartbeats 40000000
namespace Go.Ab
open Go Go.Proofs Go.Sort
theorem bd_QF : type_of% (And.intro @evNext.eq_1 (And.intro @fld (And.intro @nit (And.intro @nxE (And.intro @ghR (And.intro @ovR (And.intro @evBin_seql (And.intro @evBin_sneq (And.intro @str.eq_1 (And.intro @u8.eq_1 (And.intro @encBrs.eq_1 (And.intro @cBr.eq_1 (And.intro @encLdg.eq_1 (And.intro @encKws.eq_1 (And.intro @cKw.eq_1 (And.intro @encEvss.eq_1 (And.intro @encEvs.eq_1 (And.intro @cEv.eq_1 (And.intro @encMks.eq_1 (And.intro @cMk.eq_1 (And.intro @encStrs.eq_1 (And.intro @tk2 (And.intro @tk3 (And.intro @List.set_cons_succ.{0} (And.intro @List.getElem?_cons_zero.{0} (And.intro @List.getElem?_cons_succ.{0} (@List.length_set.{0}))))))))))))))))))))))))))) := And.intro @evNext.eq_1 (And.intro @fld (And.intro @nit (And.intro @nxE (And.intro @ghR (And.intro @ovR (And.intro @evBin_seql (And.intro @evBin_sneq (And.intro @str.eq_1 (And.intro @u8.eq_1 (And.intro @encBrs.eq_1 (And.intro @cBr.eq_1 (And.intro @encLdg.eq_1 (And.intro @encKws.eq_1 (And.intro @cKw.eq_1 (And.intro @encEvss.eq_1 (And.intro @encEvs.eq_1 (And.intro @cEv.eq_1 (And.intro @encMks.eq_1 (And.intro @cMk.eq_1 (And.intro @encStrs.eq_1 (And.intro @tk2 (And.intro @tk3 (And.intro @List.set_cons_succ.{0} (And.intro @List.getElem?_cons_zero.{0} (And.intro @List.getElem?_cons_succ.{0} (@List.length_set.{0}))))))))))))))))))))))))))
theorem AbsW.ofEq {C : Ctx} {N : Nat} {A B : Code} {st : St} {Q : Exit → St → Prop} (h : A = B) (hB : AbsW C N B st Q) : AbsW C N A st Q := h ▸ hB
theorem l_OnceG (l : Ldg) (a b : Str) (X Y : List Nt) (A B : List Int) (V : List Ev) (hz : LSz l) (hn : LNm l) (hg : grt29 l = false) (hvb : (lview l b).2 = 0)
    (hXl : X.length ≤ 2^20) (hYl : Y.length ≤ 2^22) (hVl : V.length ≤ 2^22) (hAl : A.length ≤ 2^22) (hBl : B.length ≤ 2^22)
    (hXa : ∀ n ∈ X, XAt V n) (hXp : X.Pairwise fun a b => a.pl < b.pl) (hYa : ∀ n ∈ Y, YAt l b V n) (hYp : Y.Pairwise YBf)
    (cG : CallSpec cx 32 [encLdg l] (bl (grt29 l)))
    (c1 : decide ((100 : Int) < (a.size : Int)) = false) (c2 : decide ((100 : Int) < (b.size : Int)) = false) (h0 : decide (bothE l a b = 0) = true)
    (k0 : CallSpec cx 41 [encLdg l, str a, str b] (.tup [newI A, newI B, i64 0]))
    (k1 : CallSpec cx 35 [encLdg l, str a, str b] (.tup [newNts X, i64 0]))
    (k2 : CallSpec cx 36 [encLdg l, str a, str b] (.tup [newNts Y, i64 0]))
    (k3 : CallSpec cx 42 [encLdg l, str b] (.tup [encEvs V, i64 0]))
    (k4 : CallSpec cx 38 [encNts X, encL B] (bl true))
    (k5 : CallSpec cx 38 [encNts Y, encL A] (bl true)) :
    CallSpec cx 9 [encLdg l, str a, str b] (bl true) := by
  rw [List.pairwise_iff_getElem] at hXp hYp
  have dz : decide ((0 : Int) = 0) = true := rfl
  refine callSpec_of_vc Tryz.func9 rfl (by decide) (by kernel_rfl) (Nat.le_of_ble_eq_true rfl) ?_
  try simp -dsimp (maxSteps := 60000000) (disch := first | omega | decide +kernel) only [↓bp0, bd0, bd_QF, reduceIte, Nat.reduceEqDiff, evStore, Nat.reduceAdd, Nat.reduceMul, Int.reduceEq, Int.reduceLT, Int.reduceLE, Nat.reduceLeDiff, List.reduceReplicate, reduceCtorEq, evRange, cNt, tk4, Nat.reduceLT, Tryz.f9]
  refine CallQ.imm (v_alive) (by rfl) (by first | rfl | (simp -dsimp (maxSteps := 60000000) (disch := first | omega | decide +kernel) only [↓bp0, bd0, bd_QF, reduceIte, Nat.reduceEqDiff, evStore, Nat.reduceAdd, Nat.reduceMul, Int.reduceEq, Int.reduceLT, Int.reduceLE, Nat.reduceLeDiff, List.reduceReplicate, reduceCtorEq, evRange, cNt, tk4, Nat.reduceLT, drcs, drc, flat]; done) | simp -dsimp [evl, drcs, drc, flat, i64, u32, bl, encL, encB, encLL]) (by first | exact .inl rfl | exact .inr rfl | exact .inr scalB | exact .inr scalI | exact .inr scalT | exact .inr scalM | exact .inr scalMT | exact .inr scalE | exact .inr scalET | exact .inr scalN | exact .inr scalNT | exact .inr scalLs | exact .inr scalDf) ?_
  try simp -dsimp (maxSteps := 60000000) (disch := first | omega | decide +kernel) only [↓bp0, bd0, bd_QF, reduceIte, Nat.reduceEqDiff, evStore, Nat.reduceAdd, Nat.reduceMul, Int.reduceEq, Int.reduceLT, Int.reduceLE, Nat.reduceLeDiff, List.reduceReplicate, reduceCtorEq, evRange, cNt, tk4, Nat.reduceLT]
  refine CallQ.imm (cG) (by rfl) (by first | rfl | (simp -dsimp (maxSteps := 60000000) (disch := first | omega | decide +kernel) only [↓bp0, bd0, bd_QF, reduceIte, Nat.reduceEqDiff, evStore, Nat.reduceAdd, Nat.reduceMul, Int.reduceEq, Int.reduceLT, Int.reduceLE, Nat.reduceLeDiff, List.reduceReplicate, reduceCtorEq, evRange, cNt, tk4, Nat.reduceLT, drcs, drc, flat]; done) | simp -dsimp [evl, drcs, drc, flat, i64, u32, bl, encL, encB, encLL]) (by first | exact .inl rfl | exact .inr rfl | exact .inr scalB | exact .inr scalI | exact .inr scalT | exact .inr scalM | exact .inr scalMT | exact .inr scalE | exact .inr scalET | exact .inr scalN | exact .inr scalNT | exact .inr scalLs | exact .inr scalDf) ?_
  try simp -dsimp (maxSteps := 60000000) (disch := first | omega | decide +kernel) only [↓bp0, bd0, bd_QF, reduceIte, Nat.reduceEqDiff, evStore, Nat.reduceAdd, Nat.reduceMul, Int.reduceEq, Int.reduceLT, Int.reduceLE, Nat.reduceLeDiff, List.reduceReplicate, reduceCtorEq, evRange, cNt, tk4, Nat.reduceLT, hg]
  refine CallQ.imm (v_long a b) (by rfl) (by first | rfl | (simp -dsimp (maxSteps := 60000000) (disch := first | omega | decide +kernel) only [↓bp0, bd0, bd_QF, reduceIte, Nat.reduceEqDiff, evStore, Nat.reduceAdd, Nat.reduceMul, Int.reduceEq, Int.reduceLT, Int.reduceLE, Nat.reduceLeDiff, List.reduceReplicate, reduceCtorEq, evRange, cNt, tk4, Nat.reduceLT, drcs, drc, flat]; done) | simp -dsimp [evl, drcs, drc, flat, i64, u32, bl, encL, encB, encLL]) (by first | exact .inl rfl | exact .inr rfl | exact .inr scalB | exact .inr scalI | exact .inr scalT | exact .inr scalM | exact .inr scalMT | exact .inr scalE | exact .inr scalET | exact .inr scalN | exact .inr scalNT | exact .inr scalLs | exact .inr scalDf) ?_
  try simp -dsimp (maxSteps := 60000000) (disch := first | omega | decide +kernel) only [↓bp0, bd0, bd_QF, reduceIte, Nat.reduceEqDiff, evStore, Nat.reduceAdd, Nat.reduceMul, Int.reduceEq, Int.reduceLT, Int.reduceLE, Nat.reduceLeDiff, List.reduceReplicate, reduceCtorEq, evRange, cNt, tk4, Nat.reduceLT, c1, c2, Bool.or_false]
  refine CallQ.imm (v_Both l a b hz hn) (by rfl) (by first | rfl | (simp -dsimp (maxSteps := 60000000) (disch := first | omega | decide +kernel) only [↓bp0, bd0, bd_QF, reduceIte, Nat.reduceEqDiff, evStore, Nat.reduceAdd, Nat.reduceMul, Int.reduceEq, Int.reduceLT, Int.reduceLE, Nat.reduceLeDiff, List.reduceReplicate, reduceCtorEq, evRange, cNt, tk4, Nat.reduceLT, drcs, drc, flat]; done) | simp -dsimp [evl, drcs, drc, flat, i64, u32, bl, encL, encB, encLL]) (by first | exact .inl rfl | exact .inr rfl | exact .inr scalB | exact .inr scalI | exact .inr scalT | exact .inr scalM | exact .inr scalMT | exact .inr scalE | exact .inr scalET | exact .inr scalN | exact .inr scalNT | exact .inr scalLs | exact .inr scalDf) ?_
  try simp -dsimp (maxSteps := 60000000) (disch := first | omega | decide +kernel) only [↓bp0, bd0, bd_QF, reduceIte, Nat.reduceEqDiff, evStore, Nat.reduceAdd, Nat.reduceMul, Int.reduceEq, Int.reduceLT, Int.reduceLE, Nat.reduceLeDiff, List.reduceReplicate, reduceCtorEq, evRange, cNt, tk4, Nat.reduceLT, h0]
  refine CallQ.imm (k0) (by rfl) (by first | rfl | (simp -dsimp (maxSteps := 60000000) (disch := first | omega | decide +kernel) only [↓bp0, bd0, bd_QF, reduceIte, Nat.reduceEqDiff, evStore, Nat.reduceAdd, Nat.reduceMul, Int.reduceEq, Int.reduceLT, Int.reduceLE, Nat.reduceLeDiff, List.reduceReplicate, reduceCtorEq, evRange, cNt, tk4, Nat.reduceLT, drcs, drc, flat]; done) | simp -dsimp [evl, drcs, drc, flat, i64, u32, bl, encL, encB, encLL]) (by first | exact .inl rfl | exact .inr rfl | exact .inr scalB | exact .inr scalI | exact .inr scalT | exact .inr scalM | exact .inr scalMT | exact .inr scalE | exact .inr scalET | exact .inr scalN | exact .inr scalNT | exact .inr scalLs | exact .inr scalDf) ?_
  try simp -dsimp (maxSteps := 60000000) (disch := first | omega | decide +kernel) only [↓bp0, bd0, bd_QF, reduceIte, Nat.reduceEqDiff, evStore, Nat.reduceAdd, Nat.reduceMul, Int.reduceEq, Int.reduceLT, Int.reduceLE, Nat.reduceLeDiff, List.reduceReplicate, reduceCtorEq, evRange, cNt, tk4, Nat.reduceLT, newI]
  refine CallQ.imm (k1) (by rfl) (by first | rfl | (simp -dsimp (maxSteps := 60000000) (disch := first | omega | decide +kernel) only [↓bp0, bd0, bd_QF, reduceIte, Nat.reduceEqDiff, evStore, Nat.reduceAdd, Nat.reduceMul, Int.reduceEq, Int.reduceLT, Int.reduceLE, Nat.reduceLeDiff, List.reduceReplicate, reduceCtorEq, evRange, cNt, tk4, Nat.reduceLT, drcs, drc, flat]; done) | simp -dsimp [evl, drcs, drc, flat, i64, u32, bl, encL, encB, encLL]) (by first | exact .inl rfl | exact .inr rfl | exact .inr scalB | exact .inr scalI | exact .inr scalT | exact .inr scalM | exact .inr scalMT | exact .inr scalE | exact .inr scalET | exact .inr scalN | exact .inr scalNT | exact .inr scalLs | exact .inr scalDf) ?_
  try simp -dsimp (maxSteps := 60000000) (disch := first | omega | decide +kernel) only [↓bp0, bd0, bd_QF, reduceIte, Nat.reduceEqDiff, evStore, Nat.reduceAdd, Nat.reduceMul, Int.reduceEq, Int.reduceLT, Int.reduceLE, Nat.reduceLeDiff, List.reduceReplicate, reduceCtorEq, evRange, cNt, tk4, Nat.reduceLT, newNts]
  refine CallQ.imm (k2) (by rfl) (by first | rfl | (simp -dsimp (maxSteps := 60000000) (disch := first | omega | decide +kernel) only [↓bp0, bd0, bd_QF, reduceIte, Nat.reduceEqDiff, evStore, Nat.reduceAdd, Nat.reduceMul, Int.reduceEq, Int.reduceLT, Int.reduceLE, Nat.reduceLeDiff, List.reduceReplicate, reduceCtorEq, evRange, cNt, tk4, Nat.reduceLT, drcs, drc, flat]; done) | simp -dsimp [evl, drcs, drc, flat, i64, u32, bl, encL, encB, encLL]) (by first | exact .inl rfl | exact .inr rfl | exact .inr scalB | exact .inr scalI | exact .inr scalT | exact .inr scalM | exact .inr scalMT | exact .inr scalE | exact .inr scalET | exact .inr scalN | exact .inr scalNT | exact .inr scalLs | exact .inr scalDf) ?_
  try simp -dsimp (maxSteps := 60000000) (disch := first | omega | decide +kernel) only [↓bp0, bd0, bd_QF, reduceIte, Nat.reduceEqDiff, evStore, Nat.reduceAdd, Nat.reduceMul, Int.reduceEq, Int.reduceLT, Int.reduceLE, Nat.reduceLeDiff, List.reduceReplicate, reduceCtorEq, evRange, cNt, tk4, Nat.reduceLT, newNts]
  refine CallQ.imm (k3) (by rfl) (by first | rfl | (simp -dsimp (maxSteps := 60000000) (disch := first | omega | decide +kernel) only [↓bp0, bd0, bd_QF, reduceIte, Nat.reduceEqDiff, evStore, Nat.reduceAdd, Nat.reduceMul, Int.reduceEq, Int.reduceLT, Int.reduceLE, Nat.reduceLeDiff, List.reduceReplicate, reduceCtorEq, evRange, cNt, tk4, Nat.reduceLT, drcs, drc, flat]; done) | simp -dsimp [evl, drcs, drc, flat, i64, u32, bl, encL, encB, encLL]) (by first | exact .inl rfl | exact .inr rfl | exact .inr scalB | exact .inr scalI | exact .inr scalT | exact .inr scalM | exact .inr scalMT | exact .inr scalE | exact .inr scalET | exact .inr scalN | exact .inr scalNT | exact .inr scalLs | exact .inr scalDf) ?_
  try simp -dsimp (maxSteps := 60000000) (disch := first | omega | decide +kernel) only [↓bp0, bd0, bd_QF, reduceIte, Nat.reduceEqDiff, evStore, Nat.reduceAdd, Nat.reduceMul, Int.reduceEq, Int.reduceLT, Int.reduceLE, Nat.reduceLeDiff, List.reduceReplicate, reduceCtorEq, evRange, cNt, tk4, Nat.reduceLT, dz]
  refine CallQ.imm (k4) (by rfl) (by first | rfl | (simp -dsimp (maxSteps := 60000000) (disch := first | omega | decide +kernel) only [↓bp0, bd0, bd_QF, reduceIte, Nat.reduceEqDiff, evStore, Nat.reduceAdd, Nat.reduceMul, Int.reduceEq, Int.reduceLT, Int.reduceLE, Nat.reduceLeDiff, List.reduceReplicate, reduceCtorEq, evRange, cNt, tk4, Nat.reduceLT, drcs, drc, flat, encNts, encL]; done) | simp -dsimp [evl, drcs, drc, flat, i64, u32, bl, encL, encB, encLL]) (by first | exact .inl rfl | exact .inr rfl | exact .inr scalB | exact .inr scalI | exact .inr scalT | exact .inr scalM | exact .inr scalMT | exact .inr scalE | exact .inr scalET | exact .inr scalN | exact .inr scalNT | exact .inr scalLs | exact .inr scalDf) ?_
  try simp -dsimp (maxSteps := 60000000) (disch := first | omega | decide +kernel) only [↓bp0, bd0, bd_QF, reduceIte, Nat.reduceEqDiff, evStore, Nat.reduceAdd, Nat.reduceMul, Int.reduceEq, Int.reduceLT, Int.reduceLE, Nat.reduceLeDiff, List.reduceReplicate, reduceCtorEq, evRange, cNt, tk4, Nat.reduceLT, dz]
  refine CallQ.imm (k5) (by rfl) (by first | rfl | (simp -dsimp (maxSteps := 60000000) (disch := first | omega | decide +kernel) only [↓bp0, bd0, bd_QF, reduceIte, Nat.reduceEqDiff, evStore, Nat.reduceAdd, Nat.reduceMul, Int.reduceEq, Int.reduceLT, Int.reduceLE, Nat.reduceLeDiff, List.reduceReplicate, reduceCtorEq, evRange, cNt, tk4, Nat.reduceLT, drcs, drc, flat, encNts, encL]; done) | simp -dsimp [evl, drcs, drc, flat, i64, u32, bl, encL, encB, encLL]) (by first | exact .inl rfl | exact .inr rfl | exact .inr scalB | exact .inr scalI | exact .inr scalT | exact .inr scalM | exact .inr scalMT | exact .inr scalE | exact .inr scalET | exact .inr scalN | exact .inr scalNT | exact .inr scalLs | exact .inr scalDf) ?_
  try simp -dsimp (maxSteps := 60000000) (disch := first | omega | decide +kernel) only [↓bp0, bd0, bd_QF, reduceIte, Nat.reduceEqDiff, evStore, Nat.reduceAdd, Nat.reduceMul, Int.reduceEq, Int.reduceLT, Int.reduceLE, Nat.reduceLeDiff, List.reduceReplicate, reduceCtorEq, evRange, cNt, tk4, Nat.reduceLT, dz, encNts]
  refine fun ho => AbsW.weaken (st' := onS1 l b X Y V 0 1) (weak_of ?_) (AbsW.loop (fun m st => ∃ (i : Nat), i ≤ X.length ∧ m = X.length - i ∧ st = onS1 l b X Y V i 1) X.length ⟨0, by omega, rfl, rfl⟩ ?_)
  · first | (simp -dsimp (maxSteps := 60000000) (disch := first | omega | decide +kernel) only [↓bp0, bd0, bd_QF, reduceIte, Nat.reduceEqDiff, evStore, Nat.reduceAdd, Nat.reduceMul, Int.reduceEq, Int.reduceLT, Int.reduceLE, Nat.reduceLeDiff, List.reduceReplicate, reduceCtorEq, evRange, cNt, tk4, Nat.reduceLT, encNts]; done) | simp -dsimp [evl, putN, i64, u32, bl, encL, encB, encLL, encNts]
  rintro m st ⟨i, hi, rfl, rfl⟩
  refine AbsW.seq (vc_sound _ _ _ (by kernel_rfl) ?_)
  unfold onS1
  try simp -dsimp (maxSteps := 60000000) (disch := first | omega | decide +kernel) only [↓bp0, bd0, bd_QF, reduceIte, Nat.reduceEqDiff, evStore, Nat.reduceAdd, Nat.reduceMul, Int.reduceEq, Int.reduceLT, Int.reduceLE, Nat.reduceLeDiff, List.reduceReplicate, reduceCtorEq, evRange, cNt, tk4, Nat.reduceLT, encNts, List.length_map]
  refine onC_nlt (fun h2 => ?_) (fun h2 => ?_)
  · obtain ⟨n, hx, hxm⟩ := get_of_lt h2
    obtain ⟨p, e, hp, hv, hec, hek, hk3⟩ := hXa n hxm
    have hpl := (List.getElem?_eq_some_iff.1 hv).1
    have d1 : decide ((p : Int) < 0) = false := decide_eq_false (by omega)
    have d2 : decide (((V.length : Nat) : Int) ≤ (p : Int)) = false := decide_eq_false (by omega)
    have d4 : decide (n.kind = 3) = false := decide_eq_false hk3
    have hH : AbsW cx Tryz.f9.ntmps onceH1 (onS1 l b X Y V i 1) fun e s => e = .normal ∧ Weak s (onS1 l b X Y V i 1) := by
      by_cases hi0 : i = 0
      · exact on_H10 l b X Y V i 1 n hx p e hp hv hec hek d1 d2 d4 (decide_eq_false (by omega))
      · obtain ⟨q, hq, hqm⟩ := get_of_lt (show i - 1 < X.length by omega)
        refine on_H1i l b X Y V i 1 n hx p e hp hv hec hek d1 d2 d4 (decide_eq_true (by omega)) (by rw [IntWalk.i64_in _ (by omega)]; omega) q hq (decide_eq_false ?_)
        have := hXp (i - 1) i (by omega) h2 (by omega)
        rw [List.getElem?_eq_getElem (by omega), Option.some.injEq] at hq hx
        rw [hq, hx] at this
        omega
    try simp -dsimp (maxSteps := 60000000) (disch := first | omega | decide +kernel) only [↓bp0, bd0, bd_QF, reduceIte, Nat.reduceEqDiff, evStore, Nat.reduceAdd, Nat.reduceMul, Int.reduceEq, Int.reduceLT, Int.reduceLE, Nat.reduceLeDiff, List.reduceReplicate, reduceCtorEq, evRange, cNt, tk4, Nat.reduceLT]
    refine AbsW.weaken (st' := onS1 l b X Y V i 1) (weak_of ?_) ?_
    · first | (simp -dsimp (maxSteps := 60000000) (disch := first | omega | decide +kernel) only [↓bp0, bd0, bd_QF, reduceIte, Nat.reduceEqDiff, evStore, Nat.reduceAdd, Nat.reduceMul, Int.reduceEq, Int.reduceLT, Int.reduceLE, Nat.reduceLeDiff, List.reduceReplicate, reduceCtorEq, evRange, cNt, tk4, Nat.reduceLT, encNts]; done) | simp -dsimp [evl, putN, i64, u32, bl, encL, encB, encLL, encNts]
    refine AbsW.seq (AbsW.block (AbsW.ofEq (B := onceH1) (by kernel_rfl) (AbsW.mono hH ?_)))
    rintro e' s' ⟨rfl, hw⟩
    show AbsW _ _ _ s' _
    refine AbsW.weaken hw (vc_sound _ _ _ (by kernel_rfl) ?_)
    unfold onS1
    try simp -dsimp (maxSteps := 60000000) (disch := first | omega | decide +kernel) only [↓bp0, bd0, bd_QF, reduceIte, Nat.reduceEqDiff, evStore, Nat.reduceAdd, Nat.reduceMul, Int.reduceEq, Int.reduceLT, Int.reduceLE, Nat.reduceLeDiff, List.reduceReplicate, reduceCtorEq, evRange, cNt, tk4, Nat.reduceLT, encNts]
    refine ⟨_, _, ?_, weak_of ?_, i + 1, by omega, rfl, rfl⟩
    · omega
    · first | (simp -dsimp (maxSteps := 60000000) (disch := first | omega | decide +kernel) only [↓bp0, bd0, bd_QF, reduceIte, Nat.reduceEqDiff, evStore, Nat.reduceAdd, Nat.reduceMul, Int.reduceEq, Int.reduceLT, Int.reduceLE, Nat.reduceLeDiff, List.reduceReplicate, reduceCtorEq, evRange, cNt, tk4, Nat.reduceLT, wrapS h2 (show X.length ≤ 9223372036854775807 by omega), encNts]; done) | simp -dsimp [evl, putN, i64, u32, bl, encL, encB, encLL, wrapS h2 (show X.length ≤ 9223372036854775807 by omega), encNts]
  clear hi h2
  try simp -dsimp (maxSteps := 60000000) (disch := first | omega | decide +kernel) only [↓bp0, bd0, bd_QF, reduceIte, Nat.reduceEqDiff, evStore, Nat.reduceAdd, Nat.reduceMul, Int.reduceEq, Int.reduceLT, Int.reduceLE, Nat.reduceLeDiff, List.reduceReplicate, reduceCtorEq, evRange, cNt, tk4, Nat.reduceLT]
  refine fun ho => AbsW.weaken (st' := onS2 l b Y V 0 1) (weak_of ?_) (AbsW.loop (fun m st => ∃ (i nx : Nat), i ≤ Y.length ∧ 1 ≤ nx ∧ m = Y.length - i ∧ st = onS2 l b Y V i nx) Y.length ⟨0, 1, by omega, by omega, rfl, rfl⟩ ?_)
  · first | (simp -dsimp (maxSteps := 60000000) (disch := first | omega | decide +kernel) only [↓bp0, bd0, bd_QF, reduceIte, Nat.reduceEqDiff, evStore, Nat.reduceAdd, Nat.reduceMul, Int.reduceEq, Int.reduceLT, Int.reduceLE, Nat.reduceLeDiff, List.reduceReplicate, reduceCtorEq, evRange, cNt, tk4, Nat.reduceLT, encNts]; done) | simp -dsimp [evl, putN, i64, u32, bl, encL, encB, encLL, encNts]
  rintro m st ⟨i, nx, hi, hnx, rfl, rfl⟩
  refine AbsW.seq (vc_sound _ _ _ (by kernel_rfl) ?_)
  unfold onS2
  try simp -dsimp (maxSteps := 60000000) (disch := first | omega | decide +kernel) only [↓bp0, bd0, bd_QF, reduceIte, Nat.reduceEqDiff, evStore, Nat.reduceAdd, Nat.reduceMul, Int.reduceEq, Int.reduceLT, Int.reduceLE, Nat.reduceLeDiff, List.reduceReplicate, reduceCtorEq, evRange, cNt, tk4, Nat.reduceLT, encNts, List.length_map]
  refine onC_nlt (fun h2 => ?_) (fun h2 => ?_)
  · obtain ⟨n, hx, hxm⟩ := get_of_lt h2
    have k6 := d_Last l b n.cls hz hvb
    have hH : (AbsW cx Tryz.f9.ntmps onceH2 (onS2 l b Y V i nx) fun e s => e = .normal ∧ Weak s (onS2 l b Y V i nx)) ∧ AbsW cx Tryz.f9.ntmps onceT2 (onS2 l b Y V i nx) fun e s => e = .normal ∧ Weak s (onS2 l b Y V i (nx + 1)) := by
      rcases hYa n hxm with ⟨hp, hM⟩ | ⟨p, e, m, hp, hv, hec, hk3, hM, hmk⟩
      · have e1 : decide (n.pl < -1) = false := decide_eq_false (by omega)
        have e2 : decide ((V.length : Int) ≤ n.pl) = false := decide_eq_false (by omega)
        have e3 : decide ((0 : Int) ≤ n.pl) = false := decide_eq_false (by omega)
        rw [hM] at k6
        refine ⟨?_, on_T2 l b Y V i nx hz hvb n hx hnx _ _ _ k6 (.inl ⟨rfl, decide_eq_true (by omega)⟩)⟩
        by_cases hi0 : i = 0
        · exact on_HA0 l b Y V i nx n hx e1 e2 e3 (decide_eq_false (by omega))
        · obtain ⟨q, hq, hqm⟩ := get_of_lt (show i - 1 < Y.length by omega)
          have hb := hYp (i - 1) i (by omega) h2 (by omega)
          have hq' := hq
          have hx' := hx
          rw [List.getElem?_eq_getElem (by omega), Option.some.injEq] at hq' hx'
          rw [hq', hx'] at hb
          obtain ⟨hqp, hcl⟩ : q.pl = -1 ∧ q.cls < n.cls := by
            rcases hb with ⟨h1, _, h3⟩ | ⟨_, h3⟩
            · exact ⟨h1, h3⟩
            · omega
          exact on_HAi l b Y V i nx n hx e1 e2 e3 (decide_eq_true (by omega)) (by rw [IntWalk.i64_in _ (by omega)]; omega) q hq (decide_eq_true (by omega)) (decide_eq_false (by omega)) (decide_eq_false (by omega))
      · have hpl := (List.getElem?_eq_some_iff.1 hv).1
        rw [hM] at k6
        refine ⟨?_, on_T2 l b Y V i nx hz hvb n hx hnx _ _ _ k6 (.inr ⟨rfl, decide_eq_false (by omega), hmk.trans hk3.symm⟩)⟩
        have e1 : decide ((p : Int) < -1) = false := decide_eq_false (by omega)
        have e2 : decide ((V.length : Int) ≤ (p : Int)) = false := decide_eq_false (by omega)
        have e3 : decide ((0 : Int) ≤ (p : Int)) = true := decide_eq_true (by omega)
        by_cases hi0 : i = 0
        · exact on_HB0 l b Y V i nx n hx p e hp hv hec hk3 e1 e2 e3 (decide_eq_false (by omega))
        · obtain ⟨q, hq, hqm⟩ := get_of_lt (show i - 1 < Y.length by omega)
          have hb := hYp (i - 1) i (by omega) h2 (by omega)
          have hq' := hq
          have hx' := hx
          rw [List.getElem?_eq_getElem (by omega), Option.some.injEq] at hq' hx'
          rw [hq', hx'] at hb
          refine on_HBi l b Y V i nx n hx p e hp hv hec hk3 e1 e2 e3 (decide_eq_true (by omega)) (by rw [IntWalk.i64_in _ (by omega)]; omega) q hq (decide_eq_false ?_)
          rcases hb with ⟨_, h1, _⟩ | ⟨h1, _⟩
          · omega
          · omega
    try simp -dsimp (maxSteps := 60000000) (disch := first | omega | decide +kernel) only [↓bp0, bd0, bd_QF, reduceIte, Nat.reduceEqDiff, evStore, Nat.reduceAdd, Nat.reduceMul, Int.reduceEq, Int.reduceLT, Int.reduceLE, Nat.reduceLeDiff, List.reduceReplicate, reduceCtorEq, evRange, cNt, tk4, Nat.reduceLT]
    refine AbsW.weaken (st' := onS2 l b Y V i nx) (weak_of ?_) ?_
    · first | (simp -dsimp (maxSteps := 60000000) (disch := first | omega | decide +kernel) only [↓bp0, bd0, bd_QF, reduceIte, Nat.reduceEqDiff, evStore, Nat.reduceAdd, Nat.reduceMul, Int.reduceEq, Int.reduceLT, Int.reduceLE, Nat.reduceLeDiff, List.reduceReplicate, reduceCtorEq, evRange, cNt, tk4, Nat.reduceLT, encNts]; done) | simp -dsimp [evl, putN, i64, u32, bl, encL, encB, encLL, encNts]
    refine AbsW.seq (AbsW.block (AbsW.seq (AbsW.ofEq (B := onceH2) (by kernel_rfl) (AbsW.mono hH.1 ?_))))
    rintro e' s' ⟨rfl, hw⟩
    refine AbsW.weaken hw (AbsW.ofEq (B := onceT2) (by kernel_rfl) (AbsW.mono hH.2 ?_))
    rintro e' s2 ⟨rfl, hw2⟩
    show AbsW _ _ _ s2 _
    refine AbsW.weaken hw2 (vc_sound _ _ _ (by kernel_rfl) ?_)
    unfold onS2
    try simp -dsimp (maxSteps := 60000000) (disch := first | omega | decide +kernel) only [↓bp0, bd0, bd_QF, reduceIte, Nat.reduceEqDiff, evStore, Nat.reduceAdd, Nat.reduceMul, Int.reduceEq, Int.reduceLT, Int.reduceLE, Nat.reduceLeDiff, List.reduceReplicate, reduceCtorEq, evRange, cNt, tk4, Nat.reduceLT, encNts]
    refine ⟨_, _, ?_, weak_of ?_, i + 1, nx + 1, by omega, by omega, rfl, rfl⟩
    · omega
    · first | (simp -dsimp (maxSteps := 60000000) (disch := first | omega | decide +kernel) only [↓bp0, bd0, bd_QF, reduceIte, Nat.reduceEqDiff, evStore, Nat.reduceAdd, Nat.reduceMul, Int.reduceEq, Int.reduceLT, Int.reduceLE, Nat.reduceLeDiff, List.reduceReplicate, reduceCtorEq, evRange, cNt, tk4, Nat.reduceLT, wrapS h2 (show Y.length ≤ 9223372036854775807 by omega), encNts]; done) | simp -dsimp [evl, putN, i64, u32, bl, encL, encB, encLL, wrapS h2 (show Y.length ≤ 9223372036854775807 by omega), encNts]
  · simp -dsimp (maxSteps := 60000000) (disch := first | omega | decide +kernel) only [↓bp0, bd0, bd_QF, reduceIte, Nat.reduceEqDiff, evStore, Nat.reduceAdd, Nat.reduceMul, Int.reduceEq, Int.reduceLT, Int.reduceLE, Nat.reduceLeDiff, List.reduceReplicate, reduceCtorEq, evRange, cNt, tk4, Nat.reduceLT, retQ, resL, finL, newL, flat, tupOf, List.toList_toArray, Tryz.f9]
    exact leT_one .rfl' (by simp)
end Go.Ab
