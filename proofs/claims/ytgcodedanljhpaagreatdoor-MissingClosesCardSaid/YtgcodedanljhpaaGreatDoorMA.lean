/- Fixes and gaps: terms and small contracts. -/
import Derived.Test.YtgcodedanljhpaaGreatDoorLPa
set_option linter.unusedSimpArgs false
set_option linter.unusedVariables false
set_option maxRecDepth 100000
set_option maxHeartbeats 8000000
namespace Go.Ab
open Go Go.Proofs
theorem bd_MA : type_of% (And.intro @evNext.eq_1 (And.intro @fld (And.intro @nit (And.intro @nxE (And.intro @ovR (And.intro @evBin_seql (And.intro @evBin_sneq (And.intro @str.eq_1 (And.intro @u8.eq_1 (And.intro @encBrs.eq_1 (And.intro @cBr.eq_1 (And.intro @encLdg.eq_1 (And.intro @encKws.eq_1 (And.intro @cKw.eq_1 (And.intro @encEvss.eq_1 (And.intro @encEvs.eq_1 (And.intro @cEv.eq_1 (And.intro @encMks.eq_1 (And.intro @cMk.eq_1 (And.intro @encStrs.eq_1 (And.intro @tk2 (And.intro @tk3 (And.intro @List.set_cons_succ.{0} (And.intro @List.getElem?_cons_zero.{0} (And.intro @List.getElem?_cons_succ.{0} (@List.length_set.{0})))))))))))))))))))))))))) := And.intro @evNext.eq_1 (And.intro @fld (And.intro @nit (And.intro @nxE (And.intro @ovR (And.intro @evBin_seql (And.intro @evBin_sneq (And.intro @str.eq_1 (And.intro @u8.eq_1 (And.intro @encBrs.eq_1 (And.intro @cBr.eq_1 (And.intro @encLdg.eq_1 (And.intro @encKws.eq_1 (And.intro @cKw.eq_1 (And.intro @encEvss.eq_1 (And.intro @encEvs.eq_1 (And.intro @cEv.eq_1 (And.intro @encMks.eq_1 (And.intro @cMk.eq_1 (And.intro @encStrs.eq_1 (And.intro @tk2 (And.intro @tk3 (And.intro @List.set_cons_succ.{0} (And.intro @List.getElem?_cons_zero.{0} (And.intro @List.getElem?_cons_succ.{0} (@List.length_set.{0})))))))))))))))))))))))))
structure Fx where
  cls : Int
  wgt : Int
  brs : List Str
structure Gp where
  br : Str
  cls : Int
  wgt : Int
def cFx (f : Fx) : List PV := [.lit (.int .i64 f.cls), .lit (.int .i64 f.wgt), encStrs f.brs]
def encFxs (l : List Fx) : PV := .imm (l.map cFx) false
def cGp (g : Gp) : List PV := [str g.br, .lit (.int .i64 g.cls), .lit (.int .i64 g.wgt)]
def dupS (l : List Str) : Bool := anyI (fun i (b : Str) => (l.take i).any fun x => decide (b = x)) l
def oneE (l : Ldg) (pre : List Fx) (f : Fx) : Int :=
  if f.cls < 0 ∨ 30 ≤ f.cls ∨ f.wgt < 1 ∨ 9 < f.wgt ∨ f.brs.length = 0 then 8
  else if (f.brs.any fun b => decide (idx l.brs b < 0)) = true then 6
  else if dupS f.brs = true then 14
  else if (pre.any fun g => decide (f.cls = g.cls)) = true then 14 else 0
def fxE (l : Ldg) : List Fx → List Fx → Int
  | _, [] => 0
  | pre, f :: r => if oneE l pre f ≠ 0 then oneE l pre f else fxE l (pre ++ [f]) r
def mchk (l : Ldg) (x : List Fx) : Int := if lchk l ≠ 0 then lchk l else if 30 < x.length then 4 else fxE l [] x
def wantB (b : Str) (inn : List Int) (f : Fx) : Bool := (f.brs.any fun x => decide (b = x)) && !(inn.any fun c => decide (f.cls = c))
def gapsOf (x : List Fx) (b : Str) (inn : List Int) : List Gp := (x.filter (wantB b inn)).map fun f => ⟨b, f.cls, f.wgt⟩
theorem cs_ix (l : List Str) (n : Str) (hl : l.length ≤ 9223372036854775807) : CallSpec cx 149 [encStrs l, str n] (i64 (fi (fun x => decide (n = x)) l)) := by
  refine callSpec_of_vc Tryz.func149 rfl (by decide) (by kernel_rfl) (Nat.le_of_ble_eq_true rfl) ?_
  try simp -dsimp (disch := first | omega | decide +kernel) only [↓bp0, bd0, bd_MA, reduceIte, Nat.reduceEqDiff, evStore, Nat.reduceAdd, Nat.reduceMul, Int.reduceEq, Int.reduceLT, Int.reduceLE, Nat.reduceLeDiff, List.reduceReplicate, reduceCtorEq, evRange, Nat.reduceLT, Tryz.f149, encStrs]
  refine LoopQ.rule (fun m st => ∃ i : Nat, i ≤ l.length ∧ (∀ j, j < i → ∀ x, l[j]? = some x → decide (n = x) = false) ∧ m = l.length - i ∧
    st = ⟨mkE [(0, encStrs l), (1, str n), (7, i64 l.length), (8, i64 i)], mkS [], 0⟩) _ _ (weak_of ?_) ⟨0, by omega, by simp, rfl, rfl⟩ ?_
  · first | (simp -dsimp (disch := first | omega | decide +kernel) only [↓bp0, bd0, bd_MA, reduceIte, Nat.reduceEqDiff, evStore, Nat.reduceAdd, Nat.reduceMul, Int.reduceEq, Int.reduceLT, Int.reduceLE, Nat.reduceLeDiff, List.reduceReplicate, reduceCtorEq, evRange, Nat.reduceLT, encStrs]; done) | simp -dsimp [evl, putN, i64, u32, bl, encL, encB, encLL, encStrs]
  rintro m st ⟨i, hi, hpre, rfl, rfl⟩
  try simp -dsimp (disch := first | omega | decide +kernel) only [↓bp0, bd0, bd_MA, reduceIte, Nat.reduceEqDiff, evStore, Nat.reduceAdd, Nat.reduceMul, Int.reduceEq, Int.reduceLT, Int.reduceLE, Nat.reduceLeDiff, List.reduceReplicate, reduceCtorEq, evRange, Nat.reduceLT, encStrs]
  refine onC_nlt (fun h2 => ?_) (fun h2 => ?_)
  · obtain ⟨x, hx, hxm⟩ := get_of_lt h2
    cases he : decide (n = x)
    · try simp -dsimp (disch := first | omega | decide +kernel) only [↓bp0, bd0, bd_MA, reduceIte, Nat.reduceEqDiff, evStore, Nat.reduceAdd, Nat.reduceMul, Int.reduceEq, Int.reduceLT, Int.reduceLE, Nat.reduceLeDiff, List.reduceReplicate, reduceCtorEq, evRange, Nat.reduceLT, hx, he, encStrs]
      refine ⟨_, _, ?_, weak_of ?_, i + 1, h2, ?_, rfl, rfl⟩
      · omega
      · first | (simp -dsimp (disch := first | omega | decide +kernel) only [↓bp0, bd0, bd_MA, reduceIte, Nat.reduceEqDiff, evStore, Nat.reduceAdd, Nat.reduceMul, Int.reduceEq, Int.reduceLT, Int.reduceLE, Nat.reduceLeDiff, List.reduceReplicate, reduceCtorEq, evRange, Nat.reduceLT, wrapS h2 hl, encStrs]; done) | simp -dsimp [evl, putN, i64, u32, bl, encL, encB, encLL, wrapS h2 hl, encStrs]
      · intro j hj y hy
        by_cases hji : j = i
        · subst hji; rw [hx] at hy; cases hy; exact he
        · exact hpre j (by omega) y hy
    · simp -dsimp (disch := first | omega | decide +kernel) only [↓bp0, bd0, bd_MA, reduceIte, Nat.reduceEqDiff, evStore, Nat.reduceAdd, Nat.reduceMul, Int.reduceEq, Int.reduceLT, Int.reduceLE, Nat.reduceLeDiff, List.reduceReplicate, reduceCtorEq, evRange, Nat.reduceLT, retQ, resL, finL, newL, flat, tupOf, List.toList_toArray, Tryz.f149, hx, he, encStrs]
      rw [fi_at (fun x => decide (n = x)) _ _ _ hx hpre he]
      exact leT_one .rfl' (by simp)
  · simp -dsimp (disch := first | omega | decide +kernel) only [↓bp0, bd0, bd_MA, reduceIte, Nat.reduceEqDiff, evStore, Nat.reduceAdd, Nat.reduceMul, Int.reduceEq, Int.reduceLT, Int.reduceLE, Nat.reduceLeDiff, List.reduceReplicate, reduceCtorEq, evRange, Nat.reduceLT, retQ, resL, finL, newL, flat, tupOf, List.toList_toArray, Tryz.f149]
    rw [fi_none (fun x => decide (n = x)) _ fun j y hy => hpre j (by have := (List.getElem?_eq_some_iff.1 hy).1; omega) y hy]
    exact leT_one .rfl' (by simp)
theorem cs_con (l : List Str) (n : Str) (hl : l.length ≤ 9223372036854775807) : CallSpec cx 114 [encStrs l, str n] (bl (l.any fun x => decide (n = x))) := by
  refine callSpec_of_vc Tryz.func114 rfl (by decide) (by kernel_rfl) (Nat.le_of_ble_eq_true rfl) ?_
  try simp -dsimp (disch := first | omega | decide +kernel) only [↓bp0, bd0, bd_MA, reduceIte, Nat.reduceEqDiff, evStore, Nat.reduceAdd, Nat.reduceMul, Int.reduceEq, Int.reduceLT, Int.reduceLE, Nat.reduceLeDiff, List.reduceReplicate, reduceCtorEq, evRange, Nat.reduceLT, Tryz.f114, encStrs]
  refine CallQ.imm (cs_ix l n hl) (by rfl) (by rfl) (by first | exact .inl rfl | exact .inr rfl | exact .inr scalB | exact .inr scalI | exact .inr scalT | exact .inr scalM | exact .inr scalMT) ?_
  simp -dsimp (disch := first | omega | decide +kernel) only [↓bp0, bd0, bd_MA, reduceIte, Nat.reduceEqDiff, evStore, Nat.reduceAdd, Nat.reduceMul, Int.reduceEq, Int.reduceLT, Int.reduceLE, Nat.reduceLeDiff, List.reduceReplicate, reduceCtorEq, evRange, Nat.reduceLT, retQ, resL, finL, newL, flat, tupOf, List.toList_toArray, Tryz.f114]
  refine leT_one (bl_eq ?_) (by simp)
  rw [Bool.eq_iff_iff, decide_eq_true_iff, ← fi_any]
theorem ci_ix (l : List Int) (n : Int) (hl : l.length ≤ 9223372036854775807) : CallSpec cx 142 [encL l, i64 n] (i64 (fi (fun x => decide (n = x)) l)) := by
  refine callSpec_of_vc Tryz.func142 rfl (by decide) (by kernel_rfl) (Nat.le_of_ble_eq_true rfl) ?_
  try simp -dsimp (disch := first | omega | decide +kernel) only [↓bp0, bd0, bd_MA, reduceIte, Nat.reduceEqDiff, evStore, Nat.reduceAdd, Nat.reduceMul, Int.reduceEq, Int.reduceLT, Int.reduceLE, Nat.reduceLeDiff, List.reduceReplicate, reduceCtorEq, evRange, Nat.reduceLT, Tryz.f142, encL]
  refine LoopQ.rule (fun m st => ∃ i : Nat, i ≤ l.length ∧ (∀ j, j < i → ∀ x, l[j]? = some x → decide (n = x) = false) ∧ m = l.length - i ∧
    st = ⟨mkE [(0, encL l), (1, i64 n), (7, i64 l.length), (8, i64 i)], mkS [], 0⟩) _ _ (weak_of ?_) ⟨0, by omega, by simp, rfl, rfl⟩ ?_
  · first | (simp -dsimp (disch := first | omega | decide +kernel) only [↓bp0, bd0, bd_MA, reduceIte, Nat.reduceEqDiff, evStore, Nat.reduceAdd, Nat.reduceMul, Int.reduceEq, Int.reduceLT, Int.reduceLE, Nat.reduceLeDiff, List.reduceReplicate, reduceCtorEq, evRange, Nat.reduceLT, encL]; done) | simp -dsimp [evl, putN, i64, u32, bl, encL, encB, encLL, encL]
  rintro m st ⟨i, hi, hpre, rfl, rfl⟩
  try simp -dsimp (disch := first | omega | decide +kernel) only [↓bp0, bd0, bd_MA, reduceIte, Nat.reduceEqDiff, evStore, Nat.reduceAdd, Nat.reduceMul, Int.reduceEq, Int.reduceLT, Int.reduceLE, Nat.reduceLeDiff, List.reduceReplicate, reduceCtorEq, evRange, Nat.reduceLT, encL]
  refine onC_nlt (fun h2 => ?_) (fun h2 => ?_)
  · obtain ⟨x, hx, hxm⟩ := get_of_lt h2
    cases he : decide (n = x)
    · try simp -dsimp (disch := first | omega | decide +kernel) only [↓bp0, bd0, bd_MA, reduceIte, Nat.reduceEqDiff, evStore, Nat.reduceAdd, Nat.reduceMul, Int.reduceEq, Int.reduceLT, Int.reduceLE, Nat.reduceLeDiff, List.reduceReplicate, reduceCtorEq, evRange, Nat.reduceLT, hx, he, encL]
      refine ⟨_, _, ?_, weak_of ?_, i + 1, h2, ?_, rfl, rfl⟩
      · omega
      · first | (simp -dsimp (disch := first | omega | decide +kernel) only [↓bp0, bd0, bd_MA, reduceIte, Nat.reduceEqDiff, evStore, Nat.reduceAdd, Nat.reduceMul, Int.reduceEq, Int.reduceLT, Int.reduceLE, Nat.reduceLeDiff, List.reduceReplicate, reduceCtorEq, evRange, Nat.reduceLT, wrapS h2 hl, encL]; done) | simp -dsimp [evl, putN, i64, u32, bl, encL, encB, encLL, wrapS h2 hl, encL]
      · intro j hj y hy
        by_cases hji : j = i
        · subst hji; rw [hx] at hy; cases hy; exact he
        · exact hpre j (by omega) y hy
    · simp -dsimp (disch := first | omega | decide +kernel) only [↓bp0, bd0, bd_MA, reduceIte, Nat.reduceEqDiff, evStore, Nat.reduceAdd, Nat.reduceMul, Int.reduceEq, Int.reduceLT, Int.reduceLE, Nat.reduceLeDiff, List.reduceReplicate, reduceCtorEq, evRange, Nat.reduceLT, retQ, resL, finL, newL, flat, tupOf, List.toList_toArray, Tryz.f142, hx, he, encL]
      rw [fi_at (fun x => decide (n = x)) _ _ _ hx hpre he]
      exact leT_one .rfl' (by simp)
  · simp -dsimp (disch := first | omega | decide +kernel) only [↓bp0, bd0, bd_MA, reduceIte, Nat.reduceEqDiff, evStore, Nat.reduceAdd, Nat.reduceMul, Int.reduceEq, Int.reduceLT, Int.reduceLE, Nat.reduceLeDiff, List.reduceReplicate, reduceCtorEq, evRange, Nat.reduceLT, retQ, resL, finL, newL, flat, tupOf, List.toList_toArray, Tryz.f142]
    rw [fi_none (fun x => decide (n = x)) _ fun j y hy => hpre j (by have := (List.getElem?_eq_some_iff.1 hy).1; omega) y hy]
    exact leT_one .rfl' (by simp)
theorem ci_con (l : List Int) (n : Int) (hl : l.length ≤ 9223372036854775807) : CallSpec cx 106 [encL l, i64 n] (bl (l.any fun x => decide (n = x))) := by
  refine callSpec_of_vc Tryz.func106 rfl (by decide) (by kernel_rfl) (Nat.le_of_ble_eq_true rfl) ?_
  try simp -dsimp (disch := first | omega | decide +kernel) only [↓bp0, bd0, bd_MA, reduceIte, Nat.reduceEqDiff, evStore, Nat.reduceAdd, Nat.reduceMul, Int.reduceEq, Int.reduceLT, Int.reduceLE, Nat.reduceLeDiff, List.reduceReplicate, reduceCtorEq, evRange, Nat.reduceLT, Tryz.f106, encL]
  refine CallQ.imm (ci_ix l n hl) (by rfl) (by rfl) (by first | exact .inl rfl | exact .inr rfl | exact .inr scalB | exact .inr scalI | exact .inr scalT | exact .inr scalM | exact .inr scalMT) ?_
  simp -dsimp (disch := first | omega | decide +kernel) only [↓bp0, bd0, bd_MA, reduceIte, Nat.reduceEqDiff, evStore, Nat.reduceAdd, Nat.reduceMul, Int.reduceEq, Int.reduceLT, Int.reduceLE, Nat.reduceLeDiff, List.reduceReplicate, reduceCtorEq, evRange, Nat.reduceLT, retQ, resL, finL, newL, flat, tupOf, List.toList_toArray, Tryz.f106]
  refine leT_one (bl_eq ?_) (by simp)
  rw [Bool.eq_iff_iff, decide_eq_true_iff, ← fi_any]
theorem fs_index (l : List (Str)) (hl : l.length ≤ 9223372036854775807) (f : Nat) (cap : List PV) (hn : nofrs cap = true) (P : Str → Bool) (h : ∀ k ∈ l, CallSpec cx f ([str k] ++ cap) (bl (P k))) :
    CallSpec cx 148 [encStrs l, .clo (.func f) [] cap] (i64 (fi P l)) := by
  refine callSpec_of_vc Tryz.func148 rfl (by decide) (by kernel_rfl) (Nat.le_of_ble_eq_true rfl) ?_
  try simp -dsimp (disch := first | omega | decide +kernel) only [↓bp0, bd0, bd_MA, reduceIte, Nat.reduceEqDiff, evStore, Nat.reduceAdd, Nat.reduceMul, Int.reduceEq, Int.reduceLT, Int.reduceLE, Nat.reduceLeDiff, List.reduceReplicate, reduceCtorEq, evRange, Nat.reduceLT, Tryz.f148, encStrs]
  refine LoopQ.rule (fun m st => ∃ i : Nat, i ≤ l.length ∧ (∀ j, j < i → ∀ x, l[j]? = some x → P x = false) ∧ m = l.length - i ∧
    st = ⟨mkE [(0, encStrs l), (1, .clo (.func f) [] cap), (7, i64 l.length), (8, i64 i)], mkS [], 0⟩) _ _ (weak_of ?_) ⟨0, by omega, by simp, rfl, rfl⟩ ?_
  · first | (simp -dsimp (disch := first | omega | decide +kernel) only [↓bp0, bd0, bd_MA, reduceIte, Nat.reduceEqDiff, evStore, Nat.reduceAdd, Nat.reduceMul, Int.reduceEq, Int.reduceLT, Int.reduceLE, Nat.reduceLeDiff, List.reduceReplicate, reduceCtorEq, evRange, Nat.reduceLT, encStrs]; done) | simp -dsimp [evl, putN, i64, u32, bl, encL, encB, encLL, encStrs]
  rintro m st ⟨i, hi, hpre, rfl, rfl⟩
  try simp -dsimp (disch := first | omega | decide +kernel) only [↓bp0, bd0, bd_MA, reduceIte, Nat.reduceEqDiff, evStore, Nat.reduceAdd, Nat.reduceMul, Int.reduceEq, Int.reduceLT, Int.reduceLE, Nat.reduceLeDiff, List.reduceReplicate, reduceCtorEq, evRange, Nat.reduceLT, encStrs]
  refine onC_nlt (fun h2 => ?_) (fun h2 => ?_)
  · obtain ⟨x, hx, hxm⟩ := get_of_lt h2
    try simp -dsimp (disch := first | omega | decide +kernel) only [↓bp0, bd0, bd_MA, reduceIte, Nat.reduceEqDiff, evStore, Nat.reduceAdd, Nat.reduceMul, Int.reduceEq, Int.reduceLT, Int.reduceLE, Nat.reduceLeDiff, List.reduceReplicate, reduceCtorEq, evRange, Nat.reduceLT, hx, encStrs]
    refine CallQ.imm (h x hxm) (by rfl) (drcs_nofr _ _ (by simp [nofrs, nofr, i64, encL, hn, encStrs])) (.inr rfl) ?_
    try simp -dsimp (disch := first | omega | decide +kernel) only [↓bp0, bd0, bd_MA, reduceIte, Nat.reduceEqDiff, evStore, Nat.reduceAdd, Nat.reduceMul, Int.reduceEq, Int.reduceLT, Int.reduceLE, Nat.reduceLeDiff, List.reduceReplicate, reduceCtorEq, evRange, Nat.reduceLT]
    refine onC_bool (fun h3 => ?_) (fun h3 => ?_)
    · simp -dsimp (disch := first | omega | decide +kernel) only [↓bp0, bd0, bd_MA, reduceIte, Nat.reduceEqDiff, evStore, Nat.reduceAdd, Nat.reduceMul, Int.reduceEq, Int.reduceLT, Int.reduceLE, Nat.reduceLeDiff, List.reduceReplicate, reduceCtorEq, evRange, Nat.reduceLT, retQ, resL, finL, newL, flat, tupOf, List.toList_toArray, Tryz.f148]
      rw [fi_at _ _ _ _ hx hpre h3]
      exact leT_one .rfl' (by simp)
    try simp -dsimp (disch := first | omega | decide +kernel) only [↓bp0, bd0, bd_MA, reduceIte, Nat.reduceEqDiff, evStore, Nat.reduceAdd, Nat.reduceMul, Int.reduceEq, Int.reduceLT, Int.reduceLE, Nat.reduceLeDiff, List.reduceReplicate, reduceCtorEq, evRange, Nat.reduceLT]
    refine ⟨_, _, ?_, weak_of ?_, i + 1, h2, ?_, rfl, rfl⟩
    · omega
    · first | (simp -dsimp (disch := first | omega | decide +kernel) only [↓bp0, bd0, bd_MA, reduceIte, Nat.reduceEqDiff, evStore, Nat.reduceAdd, Nat.reduceMul, Int.reduceEq, Int.reduceLT, Int.reduceLE, Nat.reduceLeDiff, List.reduceReplicate, reduceCtorEq, evRange, Nat.reduceLT, wrapS h2 hl, encStrs]; done) | simp -dsimp [evl, putN, i64, u32, bl, encL, encB, encLL, wrapS h2 hl, encStrs]
    · intro j hj y hy
      by_cases hji : j = i
      · subst hji; rw [hx] at hy; cases hy; exact h3
      · exact hpre j (by omega) y hy
  · simp -dsimp (disch := first | omega | decide +kernel) only [↓bp0, bd0, bd_MA, reduceIte, Nat.reduceEqDiff, evStore, Nat.reduceAdd, Nat.reduceMul, Int.reduceEq, Int.reduceLT, Int.reduceLE, Nat.reduceLeDiff, List.reduceReplicate, reduceCtorEq, evRange, Nat.reduceLT, retQ, resL, finL, newL, flat, tupOf, List.toList_toArray, Tryz.f148]
    rw [fi_none _ _ fun j y hy => hpre j (by have := (List.getElem?_eq_some_iff.1 hy).1; omega) y hy]
    exact leT_one .rfl' (by simp)
theorem fs_contains (l : List (Str)) (hl : l.length ≤ 9223372036854775807) (f : Nat) (cap : List PV) (hn : nofrs cap = true) (P : Str → Bool) (h : ∀ k ∈ l, CallSpec cx f ([str k] ++ cap) (bl (P k))) :
    CallSpec cx 112 [encStrs l, .clo (.func f) [] cap] (bl (l.any P)) := by
  refine callSpec_of_vc Tryz.func112 rfl (by decide) (by kernel_rfl) (Nat.le_of_ble_eq_true rfl) ?_
  try simp -dsimp (disch := first | omega | decide +kernel) only [↓bp0, bd0, bd_MA, reduceIte, Nat.reduceEqDiff, evStore, Nat.reduceAdd, Nat.reduceMul, Int.reduceEq, Int.reduceLT, Int.reduceLE, Nat.reduceLeDiff, List.reduceReplicate, reduceCtorEq, evRange, Nat.reduceLT, Tryz.f112, encStrs]
  refine CallQ.imm (fs_index l hl f cap hn P h) (by rfl) (drcs_nofr _ _ (by simp [nofrs, nofr, i64, encL, hn, encStrs])) (.inr rfl) ?_
  simp -dsimp (disch := first | omega | decide +kernel) only [↓bp0, bd0, bd_MA, reduceIte, Nat.reduceEqDiff, evStore, Nat.reduceAdd, Nat.reduceMul, Int.reduceEq, Int.reduceLT, Int.reduceLE, Nat.reduceLeDiff, List.reduceReplicate, reduceCtorEq, evRange, Nat.reduceLT, retQ, resL, finL, newL, flat, tupOf, List.toList_toArray, Tryz.f112]
  refine leT_one (bl_eq ?_) (by simp)
  rw [Bool.eq_iff_iff, decide_eq_true_iff, ← fi_any]
theorem m_index1 (b : Br) (n : Str) : CallSpec cx 123 [agBr b, .cptr [str n]] (bl (decide (b.name = n))) := by
  refine callSpec_of_vc Tryz.func123 rfl (by decide) (by kernel_rfl) (Nat.le_of_ble_eq_true rfl) ?_
  simp -dsimp (disch := first | omega | decide +kernel) only [↓bp0, bd0, bd_MA, reduceIte, Nat.reduceEqDiff, evStore, Nat.reduceAdd, Nat.reduceMul, Int.reduceEq, Int.reduceLT, Int.reduceLE, Nat.reduceLeDiff, List.reduceReplicate, reduceCtorEq, evRange, Nat.reduceLT, retQ, resL, finL, newL, flat, tupOf, List.toList_toArray, Tryz.f123, agBr]
  exact leT_one .rfl' (by simp)
theorem m_place (l : List Br) (n : Str) (hl : l.length ≤ 9223372036854775807) : CallSpec cx 122 [encBrs l, .clo (.func 123) [] [.cptr [str n]]] (i64 (idx l n)) := by
  refine callSpec_of_vc Tryz.func122 rfl (by decide) (by kernel_rfl) (Nat.le_of_ble_eq_true rfl) ?_
  try simp -dsimp (disch := first | omega | decide +kernel) only [↓bp0, bd0, bd_MA, reduceIte, Nat.reduceEqDiff, evStore, Nat.reduceAdd, Nat.reduceMul, Int.reduceEq, Int.reduceLT, Int.reduceLE, Nat.reduceLeDiff, List.reduceReplicate, reduceCtorEq, evRange, Nat.reduceLT, Tryz.f122]
  refine LoopQ.rule (fun m st => ∃ i nx : Nat, i ≤ l.length ∧ (∀ j, j < i → ∀ x, l[j]? = some x → decide (x.name = n) = false) ∧ m = l.length - i ∧
    st = ⟨mkE [(1, .clo (.func 123) [] [.cptr [str n]]), (7, encBrs l), (8, i64 l.length), (9, i64 i)], mkS [], nx⟩) _ _ (weak_of ?_) ⟨0, 0, by omega, by simp, rfl, rfl⟩ ?_
  · first | (simp -dsimp (disch := first | omega | decide +kernel) only [↓bp0, bd0, bd_MA, reduceIte, Nat.reduceEqDiff, evStore, Nat.reduceAdd, Nat.reduceMul, Int.reduceEq, Int.reduceLT, Int.reduceLE, Nat.reduceLeDiff, List.reduceReplicate, reduceCtorEq, evRange, Nat.reduceLT]; done) | simp -dsimp [evl, putN, i64, u32, bl, encL, encB, encLL]
  rintro m st ⟨i, nx, hi, hpre, rfl, rfl⟩
  try simp -dsimp (disch := first | omega | decide +kernel) only [↓bp0, bd0, bd_MA, reduceIte, Nat.reduceEqDiff, evStore, Nat.reduceAdd, Nat.reduceMul, Int.reduceEq, Int.reduceLT, Int.reduceLE, Nat.reduceLeDiff, List.reduceReplicate, reduceCtorEq, evRange, Nat.reduceLT]
  refine onC_nlt (fun h2 => ?_) (fun h2 => ?_)
  · obtain ⟨x, hx, hxm⟩ := get_of_lt h2
    try simp -dsimp (disch := first | omega | decide +kernel) only [↓bp0, bd0, bd_MA, reduceIte, Nat.reduceEqDiff, evStore, Nat.reduceAdd, Nat.reduceMul, Int.reduceEq, Int.reduceLT, Int.reduceLE, Nat.reduceLeDiff, List.reduceReplicate, reduceCtorEq, evRange, Nat.reduceLT, hx]
    refine CallQ.imm (m_index1 x n) (by rfl) (by rfl) (by first | exact .inl rfl | exact .inr rfl | exact .inr scalB | exact .inr scalI | exact .inr scalT | exact .inr scalM | exact .inr scalMT) ?_
    cases he : decide (x.name = n)
    · try simp -dsimp (disch := first | omega | decide +kernel) only [↓bp0, bd0, bd_MA, reduceIte, Nat.reduceEqDiff, evStore, Nat.reduceAdd, Nat.reduceMul, Int.reduceEq, Int.reduceLT, Int.reduceLE, Nat.reduceLeDiff, List.reduceReplicate, reduceCtorEq, evRange, Nat.reduceLT, he]
      refine ⟨_, _, ?_, weak_of ?_, i + 1, nx + 1, h2, ?_, rfl, rfl⟩
      · omega
      · first | (simp -dsimp (disch := first | omega | decide +kernel) only [↓bp0, bd0, bd_MA, reduceIte, Nat.reduceEqDiff, evStore, Nat.reduceAdd, Nat.reduceMul, Int.reduceEq, Int.reduceLT, Int.reduceLE, Nat.reduceLeDiff, List.reduceReplicate, reduceCtorEq, evRange, Nat.reduceLT, wrapS h2 hl]; done) | simp -dsimp [evl, putN, i64, u32, bl, encL, encB, encLL, wrapS h2 hl]
      · intro j hj y hy
        by_cases hji : j = i
        · subst hji; rw [hx] at hy; cases hy; exact he
        · exact hpre j (by omega) y hy
    · simp -dsimp (disch := first | omega | decide +kernel) only [↓bp0, bd0, bd_MA, reduceIte, Nat.reduceEqDiff, evStore, Nat.reduceAdd, Nat.reduceMul, Int.reduceEq, Int.reduceLT, Int.reduceLE, Nat.reduceLeDiff, List.reduceReplicate, reduceCtorEq, evRange, Nat.reduceLT, retQ, resL, finL, newL, flat, tupOf, List.toList_toArray, Tryz.f122, he]
      rw [idx, fi_at _ _ _ _ hx hpre he]
      exact leT_one .rfl' (by simp)
  · simp -dsimp (disch := first | omega | decide +kernel) only [↓bp0, bd0, bd_MA, reduceIte, Nat.reduceEqDiff, evStore, Nat.reduceAdd, Nat.reduceMul, Int.reduceEq, Int.reduceLT, Int.reduceLE, Nat.reduceLeDiff, List.reduceReplicate, reduceCtorEq, evRange, Nat.reduceLT, retQ, resL, finL, newL, flat, tupOf, List.toList_toArray, Tryz.f122]
    rw [idx, fi_none _ _ fun j y hy => hpre j (by have := (List.getElem?_eq_some_iff.1 hy).1; omega) y hy]
    exact leT_one .rfl' (by simp)
theorem m_index (l : Ldg) (n : Str) (hl : l.brs.length ≤ 9223372036854775807) : CallSpec cx 70 [encLdg l, str n] (i64 (idx l.brs n)) := by
  refine callSpec_of_vc Tryz.func70 rfl (by decide) (by kernel_rfl) (Nat.le_of_ble_eq_true rfl) ?_
  try simp -dsimp (disch := first | omega | decide +kernel) only [↓bp0, bd0, bd_MA, reduceIte, Nat.reduceEqDiff, evStore, Nat.reduceAdd, Nat.reduceMul, Int.reduceEq, Int.reduceLT, Int.reduceLE, Nat.reduceLeDiff, List.reduceReplicate, reduceCtorEq, evRange, Nat.reduceLT, Tryz.f70]
  refine CallQ.imm (m_place l.brs n hl) (by rfl) (by rfl) (by first | exact .inl rfl | exact .inr rfl | exact .inr scalB | exact .inr scalI | exact .inr scalT | exact .inr scalM | exact .inr scalMT) ?_
  simp -dsimp (disch := first | omega | decide +kernel) only [↓bp0, bd0, bd_MA, reduceIte, Nat.reduceEqDiff, evStore, Nat.reduceAdd, Nat.reduceMul, Int.reduceEq, Int.reduceLT, Int.reduceLE, Nat.reduceLeDiff, List.reduceReplicate, reduceCtorEq, evRange, Nat.reduceLT, retQ, resL, finL, newL, flat, tupOf, List.toList_toArray, Tryz.f70]
  exact leT_one .rfl' (by simp)
def cLdg (l : Ldg) : List PV := [encKws l.known, encBrs l.brs, encEvss l.evs]
theorem m_Check1 (l : Ldg) (b : Str) (hl : l.brs.length ≤ 9223372036854775807) : CallSpec cx 113 [str b, .cptr (cLdg l)] (bl (decide (idx l.brs b < 0))) := by
  refine callSpec_of_vc Tryz.func113 rfl (by decide) (by kernel_rfl) (Nat.le_of_ble_eq_true rfl) ?_
  try simp -dsimp (disch := first | omega | decide +kernel) only [↓bp0, bd0, bd_MA, reduceIte, Nat.reduceEqDiff, evStore, Nat.reduceAdd, Nat.reduceMul, Int.reduceEq, Int.reduceLT, Int.reduceLE, Nat.reduceLeDiff, List.reduceReplicate, reduceCtorEq, evRange, Nat.reduceLT, Tryz.f113, cLdg]
  refine CallQ.imm (m_index l b hl) (by rfl) (by rfl) (by first | exact .inl rfl | exact .inr rfl | exact .inr scalB | exact .inr scalI | exact .inr scalT | exact .inr scalM | exact .inr scalMT) ?_
  simp -dsimp (disch := first | omega | decide +kernel) only [↓bp0, bd0, bd_MA, reduceIte, Nat.reduceEqDiff, evStore, Nat.reduceAdd, Nat.reduceMul, Int.reduceEq, Int.reduceLT, Int.reduceLE, Nat.reduceLeDiff, List.reduceReplicate, reduceCtorEq, evRange, Nat.reduceLT, retQ, resL, finL, newL, flat, tupOf, List.toList_toArray, Tryz.f113]
  exact leT_one .rfl' (by simp)
end Go.Ab
