/- What is too great for a law to look at. -/
import Derived.Test.YtgcodedanljhpaaGreatDoorMF
import Derived.Test.YtgcodedanljhpaaGreatDoorLX
set_option linter.unusedSimpArgs false
set_option linter.unusedVariables false
set_option maxRecDepth 1000000
set_option maxHeartbeats 8000000
namespace Go.Ab
open Go Go.Proofs Go.Sort
theorem bd_MG : type_of% (And.intro @evNext.eq_1 (And.intro @fld (And.intro @nit (And.intro @nxE (And.intro @ghR (And.intro @ovR (And.intro @evBin_seql (And.intro @evBin_sneq (And.intro @str.eq_1 (And.intro @u8.eq_1 (And.intro @encBrs.eq_1 (And.intro @cBr.eq_1 (And.intro @encLdg.eq_1 (And.intro @encKws.eq_1 (And.intro @cKw.eq_1 (And.intro @encEvss.eq_1 (And.intro @encEvs.eq_1 (And.intro @cEv.eq_1 (And.intro @encMks.eq_1 (And.intro @cMk.eq_1 (And.intro @encStrs.eq_1 (And.intro @encFxs.eq_1 (And.intro @cFx.eq_1 (And.intro @cGp.eq_1 (And.intro @tk2 (And.intro @tk3 (And.intro @List.set_cons_succ.{0} (And.intro @List.getElem?_cons_zero.{0} (And.intro @List.getElem?_cons_succ.{0} (@List.length_set.{0})))))))))))))))))))))))))))))) := And.intro @evNext.eq_1 (And.intro @fld (And.intro @nit (And.intro @nxE (And.intro @ghR (And.intro @ovR (And.intro @evBin_seql (And.intro @evBin_sneq (And.intro @str.eq_1 (And.intro @u8.eq_1 (And.intro @encBrs.eq_1 (And.intro @cBr.eq_1 (And.intro @encLdg.eq_1 (And.intro @encKws.eq_1 (And.intro @cKw.eq_1 (And.intro @encEvss.eq_1 (And.intro @encEvs.eq_1 (And.intro @cEv.eq_1 (And.intro @encMks.eq_1 (And.intro @cMk.eq_1 (And.intro @encStrs.eq_1 (And.intro @encFxs.eq_1 (And.intro @cFx.eq_1 (And.intro @cGp.eq_1 (And.intro @tk2 (And.intro @tk3 (And.intro @List.set_cons_succ.{0} (And.intro @List.getElem?_cons_zero.{0} (And.intro @List.getElem?_cons_succ.{0} (@List.length_set.{0})))))))))))))))))))))))))))))
def big (s : Str) : Bool := decide ((100 : Int) < (s.size : Int))
def grt26 (l : List Br) : Bool := (l.any fun b => big b.name || big b.frm) || decide ((20 : Int) < (l.length : Int))
def grtE (own : List Ev) : Bool := (decide ((8 : Int) < (own.length : Int)) && decide ((own.length : Int) ≤ 40)) || decide ((50 : Int) < (own.length : Int)) || own.any fun e => big e.chg
def grt29 (l : Ldg) : Bool := (l.known.any fun k => big k.chg) || l.evs.any grtE || decide ((40 : Int) < (l.known.length : Int)) || grt26 l.brs || decide ((20 : Int) < (l.evs.length : Int))
def grtF (f : Fx) : Bool := decide ((20 : Int) < (f.brs.length : Int)) || f.brs.any big
def grt34 (l : Ldg) (x : List Fx) : Bool := x.any grtF || grt29 l || (decide ((10 : Int) < (x.length : Int)) && decide ((x.length : Int) ≤ 30)) || decide ((40 : Int) < (x.length : Int))
theorem any_snoc {α : Type} {l : List α} {p : α → Bool} {i : Nat} {a : α} (h : l[i]? = some a) (h0 : (l.take i).any p = false) (ha : p a = false) : (l.take (i + 1)).any p = false := by
  rw [take_succ h, List.any_append, h0]; simp [ha]
theorem any_hit {α : Type} {l : List α} {p : α → Bool} {i : Nat} {a : α} (h : l[i]? = some a) (ha : p a = true) : l.any p = true := List.any_eq_true.2 ⟨a, List.mem_of_getElem? h, ha⟩
theorem r_Great26 (l : List Br) (hl : l.length ≤ 9223372036854775807) : CallSpec cx 85 [encBrs l, .lit (.slice none 0 0)] (bl (grt26 l)) := by
  refine callSpec_of_vc Tryz.func85 rfl (by decide) (by kernel_rfl) (Nat.le_of_ble_eq_true rfl) ?_
  try simp -dsimp (disch := first | omega | decide +kernel) only [↓bp0, bd0, bd_MG, reduceIte, Nat.reduceEqDiff, evStore, Nat.reduceAdd, Nat.reduceMul, Int.reduceEq, Int.reduceLT, Int.reduceLE, Nat.reduceLeDiff, List.reduceReplicate, reduceCtorEq, evRange, Nat.reduceLT, Tryz.f85]
  refine LoopQ.rule (fun m st => ∃ i : Nat, i ≤ l.length ∧ ((l.take i).any fun b => big b.name || big b.frm) = false ∧ m = l.length - i ∧
    st = ⟨mkE [(0, encBrs l), (1, .lit (.slice none 0 0)), (5, i64 i)], mkS [], 0⟩) _ _ (weak_of ?_) ⟨0, by omega, by simp, rfl, rfl⟩ ?_
  · first | (simp -dsimp (disch := first | omega | decide +kernel) only [↓bp0, bd0, bd_MG, reduceIte, Nat.reduceEqDiff, evStore, Nat.reduceAdd, Nat.reduceMul, Int.reduceEq, Int.reduceLT, Int.reduceLE, Nat.reduceLeDiff, List.reduceReplicate, reduceCtorEq, evRange, Nat.reduceLT]; done) | simp -dsimp [evl, putN, i64, u32, bl, encL, encB, encLL]
  rintro m st ⟨i, hi, hpre, rfl, rfl⟩
  try simp -dsimp (disch := first | omega | decide +kernel) only [↓bp0, bd0, bd_MG, reduceIte, Nat.reduceEqDiff, evStore, Nat.reduceAdd, Nat.reduceMul, Int.reduceEq, Int.reduceLT, Int.reduceLE, Nat.reduceLeDiff, List.reduceReplicate, reduceCtorEq, evRange, Nat.reduceLT]
  refine onC_nlt (fun h2 => ?_) (fun h2 => ?_)
  · obtain ⟨b, hx, hxm⟩ := get_of_lt h2
    have hbad : (big b.name || big b.frm) = true → grt26 l = true := fun h => by rw [grt26, any_hit hx h]; rfl
    cases c1 : decide ((100 : Int) < (b.name.size : Int))
    · cases c2 : decide ((100 : Int) < (b.frm.size : Int))
      · try simp -dsimp (disch := first | omega | decide +kernel) only [↓bp0, bd0, bd_MG, reduceIte, Nat.reduceEqDiff, evStore, Nat.reduceAdd, Nat.reduceMul, Int.reduceEq, Int.reduceLT, Int.reduceLE, Nat.reduceLeDiff, List.reduceReplicate, reduceCtorEq, evRange, Nat.reduceLT, hx, c1, c2]
        refine ⟨_, _, ?_, weak_of ?_, i + 1, h2, any_snoc hx hpre (by rw [big, big, c1, c2]; rfl), rfl, rfl⟩
        · omega
        · first | (simp -dsimp (disch := first | omega | decide +kernel) only [↓bp0, bd0, bd_MG, reduceIte, Nat.reduceEqDiff, evStore, Nat.reduceAdd, Nat.reduceMul, Int.reduceEq, Int.reduceLT, Int.reduceLE, Nat.reduceLeDiff, List.reduceReplicate, reduceCtorEq, evRange, Nat.reduceLT, wrapS h2 hl]; done) | simp -dsimp [evl, putN, i64, u32, bl, encL, encB, encLL, wrapS h2 hl]
      · simp -dsimp (disch := first | omega | decide +kernel) only [↓bp0, bd0, bd_MG, reduceIte, Nat.reduceEqDiff, evStore, Nat.reduceAdd, Nat.reduceMul, Int.reduceEq, Int.reduceLT, Int.reduceLE, Nat.reduceLeDiff, List.reduceReplicate, reduceCtorEq, evRange, Nat.reduceLT, retQ, resL, finL, newL, flat, tupOf, List.toList_toArray, Tryz.f85, hx, c1, c2]
        exact leT_one (bl_eq (hbad (by rw [big, big, c1, c2]; rfl)).symm) (by simp)
    · simp -dsimp (disch := first | omega | decide +kernel) only [↓bp0, bd0, bd_MG, reduceIte, Nat.reduceEqDiff, evStore, Nat.reduceAdd, Nat.reduceMul, Int.reduceEq, Int.reduceLT, Int.reduceLE, Nat.reduceLeDiff, List.reduceReplicate, reduceCtorEq, evRange, Nat.reduceLT, retQ, resL, finL, newL, flat, tupOf, List.toList_toArray, Tryz.f85, hx, c1]
      exact leT_one (bl_eq (hbad (by rw [big, c1]; rfl)).symm) (by simp)
  · rw [List.take_of_length_le (by omega)] at hpre
    cases c3 : decide ((20 : Int) < (l.length : Int))
    · simp -dsimp (disch := first | omega | decide +kernel) only [↓bp0, bd0, bd_MG, reduceIte, Nat.reduceEqDiff, evStore, Nat.reduceAdd, Nat.reduceMul, Int.reduceEq, Int.reduceLT, Int.reduceLE, Nat.reduceLeDiff, List.reduceReplicate, reduceCtorEq, evRange, Nat.reduceLT, retQ, resL, finL, newL, flat, tupOf, List.toList_toArray, Tryz.f85, c3]
      exact leT_one (bl_eq (by rw [grt26, hpre, c3]; rfl)) (by simp)
    · simp -dsimp (disch := first | omega | decide +kernel) only [↓bp0, bd0, bd_MG, reduceIte, Nat.reduceEqDiff, evStore, Nat.reduceAdd, Nat.reduceMul, Int.reduceEq, Int.reduceLT, Int.reduceLE, Nat.reduceLeDiff, List.reduceReplicate, reduceCtorEq, evRange, Nat.reduceLT, retQ, resL, finL, newL, flat, tupOf, List.toList_toArray, Tryz.f85, c3]
      exact leT_one (bl_eq (by rw [grt26, hpre, c3]; rfl)) (by simp)
end Go.Ab
