/- Fixes and gaps: terms and small contracts. -/
import Derived.Test.YtgcodedanljhpaaGreatDoorLP
set_option linter.unusedSimpArgs false
set_option linter.unusedVariables false
set_option maxRecDepth 100000
set_option maxHeartbeats 8000000
namespace Go.Ab
open Go Go.Proofs
theorem bd_MA : type_of% (And.intro @evNext.eq_1 (And.intro @fld (And.intro @nit (And.intro @nxE (And.intro @ovR (And.intro @evBin_seql (And.intro @evBin_sneq (And.intro @str.eq_1 (And.intro @u8.eq_1 (And.intro @encBrs.eq_1 (And.intro @cBr.eq_1 (And.intro @encLdg.eq_1 (And.intro @encKws.eq_1 (And.intro @cKw.eq_1 (And.intro @encEvss.eq_1 (And.intro @encEvs.eq_1 (And.intro @cEv.eq_1 (And.intro @encMks.eq_1 (And.intro @cMk.eq_1 (And.intro @encStrs.eq_1 (And.intro @tk2 (And.intro @tk3 (And.intro @List.set_cons_succ.{0} (And.intro @List.getElem?_cons_zero.{0} (And.intro @List.getElem?_cons_succ.{0} (@List.length_set.{0})))))))))))))))))))))))))) := And.intro @evNext.eq_1 (And.intro @fld (And.intro @nit (And.intro @nxE (And.intro @ovR (And.intro @evBin_seql (And.intro @evBin_sneq (And.intro @str.eq_1 (And.intro @u8.eq_1 (And.intro @encBrs.eq_1 (And.intro @cBr.eq_1 (And.intro @encLdg.eq_1 (And.intro @encKws.eq_1 (And.intro @cKw.eq_1 (And.intro @encEvss.eq_1 (And.intro @encEvs.eq_1 (And.intro @cEv.eq_1 (And.intro @encMks.eq_1 (And.intro @cMk.eq_1 (And.intro @encStrs.eq_1 (And.intro @tk2 (And.intro @tk3 (And.intro @List.set_cons_succ.{0} (And.intro @List.getElem?_cons_zero.{0} (And.intro @List.getElem?_cons_succ.{0} (@List.length_set.{0})))))))))))))))))))))))))
structure Fx where
  cls : Int
  wgt : Int
  brs : List Str
structure Gp where
  br : Str
  cls : Int
  wgt : Int
def cFx (f : Fx) : List PV := [.lit (.int .i64 f.cls), .lit (.int .i64 f.wgt), encStrs f.brs]
def encFxs (l : List Fx) : PV := .imm (l.map cFx) false
def cGp (g : Gp) : List PV := [str g.br, .lit (.int .i64 g.cls), .lit (.int .i64 g.wgt)]
def dupS (l : List Str) : Bool := anyI (fun i (b : Str) => (l.take i).any fun x => decide (b = x)) l
def oneE (l : Ldg) (pre : List Fx) (f : Fx) : Int :=
  if f.cls < 0 ∨ 30 ≤ f.cls ∨ f.wgt < 1 ∨ 9 < f.wgt ∨ f.brs.length = 0 then 8
  else if (f.brs.any fun b => decide (idx l.brs b < 0)) = true then 6
  else if dupS f.brs = true then 14
  else if (pre.any fun g => decide (f.cls = g.cls)) = true then 14 else 0
def fxE (l : Ldg) : List Fx → List Fx → Int
  | _, [] => 0
  | pre, f :: r => if oneE l pre f ≠ 0 then oneE l pre f else fxE l (pre ++ [f]) r
def mchk (l : Ldg) (x : List Fx) : Int := if lchk l ≠ 0 then lchk l else if 30 < x.length then 4 else fxE l [] x
def wantB (b : Str) (inn : List Int) (f : Fx) : Bool := (f.brs.any fun x => decide (b = x)) && !(inn.any fun c => decide (f.cls = c))
def gapsOf (x : List Fx) (b : Str) (inn : List Int) : List Gp := (x.filter (wantB b inn)).map fun f => ⟨b, f.cls, f.wgt⟩
theorem ci_ix (l : List Int) (n : Int) (hl : l.length ≤ 9223372036854775807) : CallSpec cx 142 [encL l, i64 n] (i64 (fi (fun x => decide (n = x)) l)) := by
  refine callSpec_of_vc Tryz.func142 rfl (by decide) (by kernel_rfl) (Nat.le_of_ble_eq_true rfl) ?_
  try simp -dsimp (disch := first | omega | decide +kernel) only [↓bp0, bd0, bd_MA, reduceIte, Nat.reduceEqDiff, evStore, Nat.reduceAdd, Nat.reduceMul, Int.reduceEq, Int.reduceLT, Int.reduceLE, Nat.reduceLeDiff, List.reduceReplicate, reduceCtorEq, evRange, Nat.reduceLT, Tryz.f142, encL]
  refine LoopQ.rule (fun m st => ∃ i : Nat, i ≤ l.length ∧ (∀ j, j < i → ∀ x, l[j]? = some x → decide (n = x) = false) ∧ m = l.length - i ∧
    st = ⟨mkE [(0, encL l), (1, i64 n), (7, i64 l.length), (8, i64 i)], mkS [], 0⟩) _ _ (weak_of ?_) ⟨0, by omega, by simp, rfl, rfl⟩ ?_
  · first | (simp -dsimp (disch := first | omega | decide +kernel) only [↓bp0, bd0, bd_MA, reduceIte, Nat.reduceEqDiff, evStore, Nat.reduceAdd, Nat.reduceMul, Int.reduceEq, Int.reduceLT, Int.reduceLE, Nat.reduceLeDiff, List.reduceReplicate, reduceCtorEq, evRange, Nat.reduceLT, encL]; done) | simp -dsimp [evl, putN, i64, u32, bl, encL, encB, encLL, encL]
  rintro m st ⟨i, hi, hpre, rfl, rfl⟩
  try simp -dsimp (disch := first | omega | decide +kernel) only [↓bp0, bd0, bd_MA, reduceIte, Nat.reduceEqDiff, evStore, Nat.reduceAdd, Nat.reduceMul, Int.reduceEq, Int.reduceLT, Int.reduceLE, Nat.reduceLeDiff, List.reduceReplicate, reduceCtorEq, evRange, Nat.reduceLT, encL]
  refine onC_nlt (fun h2 => ?_) (fun h2 => ?_)
  · obtain ⟨x, hx, hxm⟩ := get_of_lt h2
    cases he : decide (n = x)
    · try simp -dsimp (disch := first | omega | decide +kernel) only [↓bp0, bd0, bd_MA, reduceIte, Nat.reduceEqDiff, evStore, Nat.reduceAdd, Nat.reduceMul, Int.reduceEq, Int.reduceLT, Int.reduceLE, Nat.reduceLeDiff, List.reduceReplicate, reduceCtorEq, evRange, Nat.reduceLT, hx, he, encL]
      refine ⟨_, _, ?_, weak_of ?_, i + 1, h2, ?_, rfl, rfl⟩
      · omega
      · first | (simp -dsimp (disch := first | omega | decide +kernel) only [↓bp0, bd0, bd_MA, reduceIte, Nat.reduceEqDiff, evStore, Nat.reduceAdd, Nat.reduceMul, Int.reduceEq, Int.reduceLT, Int.reduceLE, Nat.reduceLeDiff, List.reduceReplicate, reduceCtorEq, evRange, Nat.reduceLT, wrapS h2 hl, encL]; done) | simp -dsimp [evl, putN, i64, u32, bl, encL, encB, encLL, wrapS h2 hl, encL]
      · intro j hj y hy
        by_cases hji : j = i
        · subst hji; rw [hx] at hy; cases hy; exact he
        · exact hpre j (by omega) y hy
    · simp -dsimp (disch := first | omega | decide +kernel) only [↓bp0, bd0, bd_MA, reduceIte, Nat.reduceEqDiff, evStore, Nat.reduceAdd, Nat.reduceMul, Int.reduceEq, Int.reduceLT, Int.reduceLE, Nat.reduceLeDiff, List.reduceReplicate, reduceCtorEq, evRange, Nat.reduceLT, retQ, resL, finL, newL, flat, tupOf, List.toList_toArray, Tryz.f142, hx, he, encL]
      rw [fi_at (fun x => decide (n = x)) _ _ _ hx hpre he]
      exact leT_one .rfl' (by simp)
  · simp -dsimp (disch := first | omega | decide +kernel) only [↓bp0, bd0, bd_MA, reduceIte, Nat.reduceEqDiff, evStore, Nat.reduceAdd, Nat.reduceMul, Int.reduceEq, Int.reduceLT, Int.reduceLE, Nat.reduceLeDiff, List.reduceReplicate, reduceCtorEq, evRange, Nat.reduceLT, retQ, resL, finL, newL, flat, tupOf, List.toList_toArray, Tryz.f142]
    rw [fi_none (fun x => decide (n = x)) _ fun j y hy => hpre j (by have := (List.getElem?_eq_some_iff.1 hy).1; omega) y hy]
    exact leT_one .rfl' (by simp)
theorem ci_con (l : List Int) (n : Int) (hl : l.length ≤ 9223372036854775807) : CallSpec cx 106 [encL l, i64 n] (bl (l.any fun x => decide (n = x))) := by
  refine callSpec_of_vc Tryz.func106 rfl (by decide) (by kernel_rfl) (Nat.le_of_ble_eq_true rfl) ?_
  try simp -dsimp (disch := first | omega | decide +kernel) only [↓bp0, bd0, bd_MA, reduceIte, Nat.reduceEqDiff, evStore, Nat.reduceAdd, Nat.reduceMul, Int.reduceEq, Int.reduceLT, Int.reduceLE, Nat.reduceLeDiff, List.reduceReplicate, reduceCtorEq, evRange, Nat.reduceLT, Tryz.f106, encL]
  refine CallQ.imm (ci_ix l n hl) (by rfl) (by rfl) (by first | exact .inl rfl | exact .inr rfl | exact .inr scalB | exact .inr scalI | exact .inr scalT | exact .inr scalM | exact .inr scalMT) ?_
  simp -dsimp (disch := first | omega | decide +kernel) only [↓bp0, bd0, bd_MA, reduceIte, Nat.reduceEqDiff, evStore, Nat.reduceAdd, Nat.reduceMul, Int.reduceEq, Int.reduceLT, Int.reduceLE, Nat.reduceLeDiff, List.reduceReplicate, reduceCtorEq, evRange, Nat.reduceLT, retQ, resL, finL, newL, flat, tupOf, List.toList_toArray, Tryz.f106]
  refine leT_one (bl_eq ?_) (by simp)
  rw [Bool.eq_iff_iff, decide_eq_true_iff, ← fi_any]
def cLdg (l : Ldg) : List PV := [encKws l.known, encBrs l.brs, encEvss l.evs]
end Go.Ab
