/- The law's helpers of notes; the chapter's example. -/
import Derived.Test.YtgcodedanljhpaaGreatDoorPM
import Derived.Test.YtgcodedanljhpaaGreatDoorMH
import Derived.Test.YtgcodedanljhpaaGreatDoorLX
import Derived.Test.YtgcodedanljhpaaGreatDoorAcAgg
set_option linter.unusedSimpArgs false
set_option linter.unusedVariables false
section
set_option maxRecDepth 1000000
set_option maxHeartbeats 8000000
namespace Go.Ab
open Go Go.Proofs Go.Sort
theorem bd_PN : type_of% (And.intro @evNext.eq_1 (And.intro @fld (And.intro @nit (And.intro @nxE (And.intro @ghR (And.intro @ovR (And.intro @evBin_seql (And.intro @evBin_sneq (And.intro @str.eq_1 (And.intro @u8.eq_1 (And.intro @encBrs.eq_1 (And.intro @cBr.eq_1 (And.intro @encLdg.eq_1 (And.intro @encKws.eq_1 (And.intro @cKw.eq_1 (And.intro @encEvss.eq_1 (And.intro @encEvs.eq_1 (And.intro @cEv.eq_1 (And.intro @encMks.eq_1 (And.intro @cMk.eq_1 (And.intro @encStrs.eq_1 (And.intro @tk2 (And.intro @tk3 (And.intro @List.set_cons_succ.{0} (And.intro @List.getElem?_cons_zero.{0} (And.intro @List.getElem?_cons_succ.{0} (@List.length_set.{0}))))))))))))))))))))))))))) := And.intro @evNext.eq_1 (And.intro @fld (And.intro @nit (And.intro @nxE (And.intro @ghR (And.intro @ovR (And.intro @evBin_seql (And.intro @evBin_sneq (And.intro @str.eq_1 (And.intro @u8.eq_1 (And.intro @encBrs.eq_1 (And.intro @cBr.eq_1 (And.intro @encLdg.eq_1 (And.intro @encKws.eq_1 (And.intro @cKw.eq_1 (And.intro @encEvss.eq_1 (And.intro @encEvs.eq_1 (And.intro @cEv.eq_1 (And.intro @encMks.eq_1 (And.intro @cMk.eq_1 (And.intro @encStrs.eq_1 (And.intro @tk2 (And.intro @tk3 (And.intro @List.set_cons_succ.{0} (And.intro @List.getElem?_cons_zero.{0} (And.intro @List.getElem?_cons_succ.{0} (@List.length_set.{0}))))))))))))))))))))))))))
def sMn : Str := ⟨#[109, 97, 105, 110]⟩
def sRo : Str := ⟨#[114, 49]⟩
def sFix : Str := ⟨#[102, 105, 120]⟩
def sDocs : Str := ⟨#[100, 111, 99, 115]⟩
def sOther : Str := ⟨#[111, 116, 104, 101, 114]⟩
def gvL : Ldg := ⟨[⟨sFix, 3⟩, ⟨sDocs, 0⟩, ⟨sOther, 5⟩], [⟨sMn, ⟨#[]⟩, 0⟩, ⟨sRo, sMn, 1⟩], [[⟨1, sFix⟩, ⟨1, sDocs⟩], [⟨3, sFix⟩, ⟨1, sOther⟩]]⟩
def gvN : List Nt := [⟨5, sOther, 1, 2⟩]
def gvG : List Nt := [⟨0, sDocs, 1, -1⟩, ⟨3, sFix, 3, 1⟩]
theorem gv_sz : LSz gvL := ⟨by decide, by decide, by decide, by intro s hs; simp only [gvL, List.mem_cons, List.not_mem_nil, or_false] at hs; rcases hs with rfl | rfl <;> decide⟩
theorem gv_diff : ldiff gvL sMn sRo = ([0, 3], [5], 0) := by kernel_rfl
theorem gv_news : nnews gvL sMn sRo = (gvN, 0) := by kernel_rfl
theorem gv_gone0 : goneO (clsI gvL.known) (evV gvL sMn) (evV gvL sRo) [0, 3] = [⟨0, sDocs, 1, -1⟩] := by kernel_rfl
theorem gv_gone1 : lastsF (clsI gvL.known) (evV gvL sRo) [0, 3] = [⟨3, sFix, 3, 1⟩] := by kernel_rfl
theorem srtN_one (n : Nt) : srtN [n] = [n] := by
  have : srtA [n] (List.finRange 1) = List.finRange 1 := by
    have e : List.finRange 1 = [0] := rfl
    rw [e]; simp [srtA]
  unfold srtN
  rw [show List.finRange [n].length = List.finRange 1 from rfl, this]
  rfl
theorem gv_gone : ngone gvL sMn sRo = (gvG, 0) := by
  rw [ngone, gv_diff]
  simp only
  rw [if_neg (by simp), gv_gone0, gv_gone1, srtN_one]; rfl
theorem gv_text : ntext gvL sMn sRo = (⟨#[99, 97, 109, 101, 32, 53, 32, 111, 116, 104, 101, 114, 32, 108, 97, 110, 100, 10, 119, 101, 110, 116, 32, 48, 32, 100, 111, 99, 115, 10, 119, 101, 110, 116, 32, 51, 32, 102, 105, 120, 32, 114, 101, 118, 101, 114, 116, 10]⟩, 0) := by
  rw [ntext, gv_diff, gv_news, gv_gone]
  simp only
  rw [if_neg (by simp)]
  congr 1
theorem bKw : ∀ a b, evBuild cx 138 [(0, .lit a), (1, .lit b)] = some (.agg [.lit a, .lit b]) := fun _ _ => by kernel_rfl
theorem bEv : ∀ a b, evBuild cx 61 [(0, .lit a), (1, .lit b)] = some (.agg [.lit a, .lit b]) := fun _ _ => by kernel_rfl
theorem bBr1 : ∀ a, evBuild cx 51 [(0, .lit a)] = some (.agg [.lit a, .lit (.string ⟨#[]⟩), .lit (.int .i64 0)]) := fun _ => by kernel_rfl
theorem bBr3 : ∀ a b c, evBuild cx 51 [(0, .lit a), (1, .lit b), (2, .lit c)] = some (.agg [.lit a, .lit b, .lit c]) := fun _ _ _ => by kernel_rfl
theorem bLdg : ∀ i v o n c i' v' o' n' c' i2 v2 o2 n2 c2, evBuild cx 26 [(0, .own i v o n c), (1, .own i' v' o' n' c'), (2, .own i2 v2 o2 n2 c2)] = some (.agg [.own i v o n c, .own i' v' o' n' c', .own i2 v2 o2 n2 c2]) := fun _ _ _ _ _ _ _ _ _ _ _ _ _ _ _ => by kernel_rfl
theorem v_given : CallSpec cx 84 [] (encLdg gvL) := by
  refine callSpec_of_vc Tryz.func84 rfl (by decide) (by kernel_rfl) (Nat.le_of_ble_eq_true rfl) ?_
  simp -dsimp (maxSteps := 9^9) (disch := first | omega | decide +kernel) only [↓bp0, bd0, bd_PN, reduceIte, Nat.reduceEqDiff, evStore, Nat.reduceAdd, Nat.reduceMul, Int.reduceEq, Int.reduceLT, Int.reduceLE, Nat.reduceLeDiff, List.reduceReplicate, reduceCtorEq, evRange, cNt, tk4, Nat.reduceLT, retQ, resL, finL, newL, flat, tupOf, List.toList_toArray, Tryz.f84, PV.cellsP, Bool.and_false, drcs, drc, dr1, dr1s, drRows, bKw, bBr1, bBr3, bEv, bLdg]
  exact leT_one (.inl (.inl rfl)) (fun _ h => by cases h)
theorem r_SameN (g : List Nt) (hg : g.length ≤ 9223372036854775807) (h : ∀ n ∈ g, ∀ x y, evBin cx .neq 81 x y (.agg [.lit (.int .i64 n.cls), .lit (.string n.chg), .lit (.int .u8 n.kind), .lit (.int .i64 n.pl)]) (.agg [.lit (.int .i64 n.cls), .lit (.string n.chg), .lit (.int .u8 n.kind), .lit (.int .i64 n.pl)]) = some (.lit (.bool false))) : CallSpec cx 50 [encNts g, encNts g] (bl true) := by
  refine callSpec_of_vc Tryz.func50 rfl (by decide) (by kernel_rfl) (Nat.le_of_ble_eq_true rfl) ?_
  try simp -dsimp (maxSteps := 9^9) (disch := first | omega | decide +kernel) only [↓bp0, bd0, bd_PN, reduceIte, Nat.reduceEqDiff, evStore, Nat.reduceAdd, Nat.reduceMul, Int.reduceEq, Int.reduceLT, Int.reduceLE, Nat.reduceLeDiff, List.reduceReplicate, reduceCtorEq, evRange, cNt, tk4, Nat.reduceLT, Tryz.f50, encNts, List.length_map]
  refine LoopQ.rule (fun m st => ∃ (i : Nat), i ≤ g.length ∧ m = g.length - i ∧
    st = ⟨mkE [(0, encNts g), (1, encNts g), (5, i64 i)], mkS [], 0⟩) _ _ (weak_of ?_)
    ⟨0, by omega, rfl, rfl⟩ ?_
  · first | (simp -dsimp (maxSteps := 9^9) (disch := first | omega | decide +kernel) only [↓bp0, bd0, bd_PN, reduceIte, Nat.reduceEqDiff, evStore, Nat.reduceAdd, Nat.reduceMul, Int.reduceEq, Int.reduceLT, Int.reduceLE, Nat.reduceLeDiff, List.reduceReplicate, reduceCtorEq, evRange, cNt, tk4, Nat.reduceLT, encNts]; done) | simp -dsimp [evl, putN, i64, u32, bl, encL, encB, encLL, encNts]
  rintro m st ⟨i, hi, rfl, rfl⟩
  try simp -dsimp (maxSteps := 9^9) (disch := first | omega | decide +kernel) only [↓bp0, bd0, bd_PN, reduceIte, Nat.reduceEqDiff, evStore, Nat.reduceAdd, Nat.reduceMul, Int.reduceEq, Int.reduceLT, Int.reduceLE, Nat.reduceLeDiff, List.reduceReplicate, reduceCtorEq, evRange, cNt, tk4, Nat.reduceLT, encNts, List.length_map]
  refine onC_nlt (fun h2 => ?_) (fun h2 => ?_)
  · obtain ⟨a, hx, hxm⟩ := get_of_lt h2
    have hq := fun x y => h a hxm x y
    try simp -dsimp (maxSteps := 9^9) (disch := first | omega | decide +kernel) only [↓bp0, bd0, bd_PN, reduceIte, Nat.reduceEqDiff, evStore, Nat.reduceAdd, Nat.reduceMul, Int.reduceEq, Int.reduceLT, Int.reduceLE, Nat.reduceLeDiff, List.reduceReplicate, reduceCtorEq, evRange, cNt, tk4, Nat.reduceLT, hx, encNts, hq]
    refine ⟨_, _, ?_, weak_of ?_, i + 1, h2, rfl, rfl⟩
    · omega
    · first | (simp -dsimp (maxSteps := 9^9) (disch := first | omega | decide +kernel) only [↓bp0, bd0, bd_PN, reduceIte, Nat.reduceEqDiff, evStore, Nat.reduceAdd, Nat.reduceMul, Int.reduceEq, Int.reduceLT, Int.reduceLE, Nat.reduceLeDiff, List.reduceReplicate, reduceCtorEq, evRange, cNt, tk4, Nat.reduceLT, wrapS h2 hg, encNts]; done) | simp -dsimp [evl, putN, i64, u32, bl, encL, encB, encLL, wrapS h2 hg, encNts]
  · simp -dsimp (maxSteps := 9^9) (disch := first | omega | decide +kernel) only [↓bp0, bd0, bd_PN, reduceIte, Nat.reduceEqDiff, evStore, Nat.reduceAdd, Nat.reduceMul, Int.reduceEq, Int.reduceLT, Int.reduceLE, Nat.reduceLeDiff, List.reduceReplicate, reduceCtorEq, evRange, cNt, tk4, Nat.reduceLT, retQ, resL, finL, newL, flat, tupOf, List.toList_toArray, Tryz.f50]
    exact leT_one .rfl' (by simp)
theorem gvN_eq : CallSpec cx 50 [encNts gvN, encNts gvN] (bl true) := r_SameN gvN (by decide) fun n hn x y => by
  simp only [gvN, List.mem_cons, List.not_mem_nil, or_false] at hn
  subst hn
  kernel_rfl
theorem gvG_eq : CallSpec cx 50 [encNts gvG, encNts gvG] (bl true) := r_SameN gvG (by decide) fun n hn x y => by
  simp only [gvG, List.mem_cons, List.not_mem_nil, or_false] at hn
  rcases hn with rfl | rfl
  · kernel_rfl
  · kernel_rfl
theorem v_long (a b : Str) : CallSpec cx 33 [str a, str b] (bl (decide ((100 : Int) < (a.size : Int)) || decide ((100 : Int) < (b.size : Int)))) := by
  refine callSpec_of_vc Tryz.func33 rfl (by decide) (by kernel_rfl) (Nat.le_of_ble_eq_true rfl) ?_
  cases c1 : decide ((100 : Int) < (a.size : Int))
  all_goals cases c2 : decide ((100 : Int) < (b.size : Int))
  all_goals
    simp -dsimp (maxSteps := 9^9) (disch := first | omega | decide +kernel) only [↓bp0, bd0, bd_PN, reduceIte, Nat.reduceEqDiff, evStore, Nat.reduceAdd, Nat.reduceMul, Int.reduceEq, Int.reduceLT, Int.reduceLE, Nat.reduceLeDiff, List.reduceReplicate, reduceCtorEq, evRange, cNt, tk4, Nat.reduceLT, retQ, resL, finL, newL, flat, tupOf, List.toList_toArray, Tryz.f33, c1, c2]
    exact leT_one (le1.rfl' (p := bl _)) (fun _ h => by cases h)
def bothE (l : Ldg) (a b : Str) : Int := if lchk l ≠ 0 then lchk l else if idx l.brs a < 0 ∨ idx l.brs b < 0 then 6 else 0
theorem v_Both (l : Ldg) (a b : Str) (hz : LSz l) (hn : LNm l) : CallSpec cx 34 [encLdg l, str a, str b] (i64 (bothE l a b)) := by
  refine callSpec_of_vc Tryz.func34 rfl (by decide) (by kernel_rfl) (Nat.le_of_ble_eq_true rfl) ?_
  try simp -dsimp (maxSteps := 9^9) (disch := first | omega | decide +kernel) only [↓bp0, bd0, bd_PN, reduceIte, Nat.reduceEqDiff, evStore, Nat.reduceAdd, Nat.reduceMul, Int.reduceEq, Int.reduceLT, Int.reduceLE, Nat.reduceLeDiff, List.reduceReplicate, reduceCtorEq, evRange, cNt, tk4, Nat.reduceLT, Tryz.f34]
  refine CallQ.imm (r_lCheck l hz hn) (by rfl) (by first | rfl | (simp -dsimp (maxSteps := 9^9) (disch := first | omega | decide +kernel) only [↓bp0, bd0, bd_PN, reduceIte, Nat.reduceEqDiff, evStore, Nat.reduceAdd, Nat.reduceMul, Int.reduceEq, Int.reduceLT, Int.reduceLE, Nat.reduceLeDiff, List.reduceReplicate, reduceCtorEq, evRange, cNt, tk4, Nat.reduceLT, drcs, drc, flat]; done) | simp -dsimp [evl, drcs, drc, flat, i64, u32, bl, encL, encB, encLL]) (by first | exact .inl rfl | exact .inr rfl | exact .inr scalB | exact .inr scalI | exact .inr scalT | exact .inr scalM | exact .inr scalMT | exact .inr scalE | exact .inr scalET | exact .inr scalN | exact .inr scalNT) ?_
  cases h0 : decide (lchk l = 0)
  · have h0' := of_decide_eq_false h0
    simp -dsimp (maxSteps := 9^9) (disch := first | omega | decide +kernel) only [↓bp0, bd0, bd_PN, reduceIte, Nat.reduceEqDiff, evStore, Nat.reduceAdd, Nat.reduceMul, Int.reduceEq, Int.reduceLT, Int.reduceLE, Nat.reduceLeDiff, List.reduceReplicate, reduceCtorEq, evRange, cNt, tk4, Nat.reduceLT, retQ, resL, finL, newL, flat, tupOf, List.toList_toArray, Tryz.f34, h0]
    rw [bothE, if_pos h0']
    exact leT_one (le1.rfl' (p := i64 _)) (fun _ h => by cases h)
  have h0' := of_decide_eq_true h0
  rw [bothE, if_neg (by rw [Decidable.not_not]; exact h0')]
  have hbl : l.brs.length ≤ 9223372036854775807 := by have := hz.brs; omega
  try simp -dsimp (maxSteps := 9^9) (disch := first | omega | decide +kernel) only [↓bp0, bd0, bd_PN, reduceIte, Nat.reduceEqDiff, evStore, Nat.reduceAdd, Nat.reduceMul, Int.reduceEq, Int.reduceLT, Int.reduceLE, Nat.reduceLeDiff, List.reduceReplicate, reduceCtorEq, evRange, cNt, tk4, Nat.reduceLT, h0]
  refine CallQ.imm (r_Index l.brs a hbl) (by rfl) (by first | rfl | (simp -dsimp (maxSteps := 9^9) (disch := first | omega | decide +kernel) only [↓bp0, bd0, bd_PN, reduceIte, Nat.reduceEqDiff, evStore, Nat.reduceAdd, Nat.reduceMul, Int.reduceEq, Int.reduceLT, Int.reduceLE, Nat.reduceLeDiff, List.reduceReplicate, reduceCtorEq, evRange, cNt, tk4, Nat.reduceLT, drcs, drc, flat]; done) | simp -dsimp [evl, drcs, drc, flat, i64, u32, bl, encL, encB, encLL]) (by first | exact .inl rfl | exact .inr rfl | exact .inr scalB | exact .inr scalI | exact .inr scalT | exact .inr scalM | exact .inr scalMT | exact .inr scalE | exact .inr scalET | exact .inr scalN | exact .inr scalNT) ?_
  cases h1 : decide (idx l.brs a < 0)
  case true =>
    simp -dsimp (maxSteps := 9^9) (disch := first | omega | decide +kernel) only [↓bp0, bd0, bd_PN, reduceIte, Nat.reduceEqDiff, evStore, Nat.reduceAdd, Nat.reduceMul, Int.reduceEq, Int.reduceLT, Int.reduceLE, Nat.reduceLeDiff, List.reduceReplicate, reduceCtorEq, evRange, cNt, tk4, Nat.reduceLT, retQ, resL, finL, newL, flat, tupOf, List.toList_toArray, Tryz.f34, h1]
    rw [if_pos (.inl (of_decide_eq_true h1))]
    exact leT_one (le1.rfl' (p := i64 _)) (fun _ h => by cases h)
  try simp -dsimp (maxSteps := 9^9) (disch := first | omega | decide +kernel) only [↓bp0, bd0, bd_PN, reduceIte, Nat.reduceEqDiff, evStore, Nat.reduceAdd, Nat.reduceMul, Int.reduceEq, Int.reduceLT, Int.reduceLE, Nat.reduceLeDiff, List.reduceReplicate, reduceCtorEq, evRange, cNt, tk4, Nat.reduceLT, h1]
  refine CallQ.imm (r_Index l.brs b hbl) (by rfl) (by first | rfl | (simp -dsimp (maxSteps := 9^9) (disch := first | omega | decide +kernel) only [↓bp0, bd0, bd_PN, reduceIte, Nat.reduceEqDiff, evStore, Nat.reduceAdd, Nat.reduceMul, Int.reduceEq, Int.reduceLT, Int.reduceLE, Nat.reduceLeDiff, List.reduceReplicate, reduceCtorEq, evRange, cNt, tk4, Nat.reduceLT, drcs, drc, flat]; done) | simp -dsimp [evl, drcs, drc, flat, i64, u32, bl, encL, encB, encLL]) (by first | exact .inl rfl | exact .inr rfl | exact .inr scalB | exact .inr scalI | exact .inr scalT | exact .inr scalM | exact .inr scalMT | exact .inr scalE | exact .inr scalET | exact .inr scalN | exact .inr scalNT) ?_
  cases h2 : decide (idx l.brs b < 0)
  · simp -dsimp (maxSteps := 9^9) (disch := first | omega | decide +kernel) only [↓bp0, bd0, bd_PN, reduceIte, Nat.reduceEqDiff, evStore, Nat.reduceAdd, Nat.reduceMul, Int.reduceEq, Int.reduceLT, Int.reduceLE, Nat.reduceLeDiff, List.reduceReplicate, reduceCtorEq, evRange, cNt, tk4, Nat.reduceLT, retQ, resL, finL, newL, flat, tupOf, List.toList_toArray, Tryz.f34, h1, h2]
    rw [if_neg (by rw [not_or]; exact ⟨of_decide_eq_false h1, of_decide_eq_false h2⟩)]
    exact leT_one (le1.rfl' (p := i64 _)) (fun _ h => by cases h)
  · simp -dsimp (maxSteps := 9^9) (disch := first | omega | decide +kernel) only [↓bp0, bd0, bd_PN, reduceIte, Nat.reduceEqDiff, evStore, Nat.reduceAdd, Nat.reduceMul, Int.reduceEq, Int.reduceLT, Int.reduceLE, Nat.reduceLeDiff, List.reduceReplicate, reduceCtorEq, evRange, cNt, tk4, Nat.reduceLT, retQ, resL, finL, newL, flat, tupOf, List.toList_toArray, Tryz.f34, h1, h2]
    rw [if_pos (.inr (of_decide_eq_true h2))]
    exact leT_one (le1.rfl' (p := i64 _)) (fun _ h => by cases h)
theorem v_has (l : List Int) (n : Int) (hL : l.length ≤ 9223372036854775807) : CallSpec cx 54 [encL l, i64 n] (bl (decide (n ∈ l))) := by
  refine callSpec_of_vc Tryz.func54 rfl (by decide) (by kernel_rfl) (Nat.le_of_ble_eq_true rfl) ?_
  try simp -dsimp (maxSteps := 9^9) (disch := first | omega | decide +kernel) only [↓bp0, bd0, bd_PN, reduceIte, Nat.reduceEqDiff, evStore, Nat.reduceAdd, Nat.reduceMul, Int.reduceEq, Int.reduceLT, Int.reduceLE, Nat.reduceLeDiff, List.reduceReplicate, reduceCtorEq, evRange, cNt, tk4, Nat.reduceLT, Tryz.f54]
  refine LoopQ.rule (fun m st => ∃ i : Nat, i ≤ l.length ∧ (∀ j, j < i → ∀ x, l[j]? = some x → x ≠ n) ∧ m = l.length - i ∧ st = ⟨mkE [(0, encL l), (1, i64 n), (5, i64 i)], mkS [], 0⟩) _ _ (weak_of ?_) ⟨0, by omega, by simp, rfl, rfl⟩ ?_
  · first | (simp -dsimp (maxSteps := 9^9) (disch := first | omega | decide +kernel) only [↓bp0, bd0, bd_PN, reduceIte, Nat.reduceEqDiff, evStore, Nat.reduceAdd, Nat.reduceMul, Int.reduceEq, Int.reduceLT, Int.reduceLE, Nat.reduceLeDiff, List.reduceReplicate, reduceCtorEq, evRange, cNt, tk4, Nat.reduceLT]; done) | simp -dsimp [evl, putN, i64, u32, bl, encL, encB, encLL]
  rintro m st ⟨i, hi, hpre, rfl, rfl⟩
  try simp -dsimp (maxSteps := 9^9) (disch := first | omega | decide +kernel) only [↓bp0, bd0, bd_PN, reduceIte, Nat.reduceEqDiff, evStore, Nat.reduceAdd, Nat.reduceMul, Int.reduceEq, Int.reduceLT, Int.reduceLE, Nat.reduceLeDiff, List.reduceReplicate, reduceCtorEq, evRange, cNt, tk4, Nat.reduceLT]
  refine onC_nlt (fun h2 => ?_) (fun h2 => ?_)
  · obtain ⟨x, hx, hxm⟩ := get_of_lt h2
    try simp -dsimp (maxSteps := 9^9) (disch := first | omega | decide +kernel) only [↓bp0, bd0, bd_PN, reduceIte, Nat.reduceEqDiff, evStore, Nat.reduceAdd, Nat.reduceMul, Int.reduceEq, Int.reduceLT, Int.reduceLE, Nat.reduceLeDiff, List.reduceReplicate, reduceCtorEq, evRange, cNt, tk4, Nat.reduceLT, hx]
    refine onC_dec (fun h3 => ?_) (fun h3 => ?_)
    · simp -dsimp (maxSteps := 9^9) (disch := first | omega | decide +kernel) only [↓bp0, bd0, bd_PN, reduceIte, Nat.reduceEqDiff, evStore, Nat.reduceAdd, Nat.reduceMul, Int.reduceEq, Int.reduceLT, Int.reduceLE, Nat.reduceLeDiff, List.reduceReplicate, reduceCtorEq, evRange, cNt, tk4, Nat.reduceLT, retQ, resL, finL, newL, flat, tupOf, List.toList_toArray, Tryz.f54]
      subst h3
      exact leT_one (bl_eq (by simp [hxm])) (by simp)
    try simp -dsimp (maxSteps := 9^9) (disch := first | omega | decide +kernel) only [↓bp0, bd0, bd_PN, reduceIte, Nat.reduceEqDiff, evStore, Nat.reduceAdd, Nat.reduceMul, Int.reduceEq, Int.reduceLT, Int.reduceLE, Nat.reduceLeDiff, List.reduceReplicate, reduceCtorEq, evRange, cNt, tk4, Nat.reduceLT]
    refine ⟨_, _, ?_, weak_of ?_, i + 1, h2, ?_, rfl, rfl⟩
    · omega
    · first | (simp -dsimp (maxSteps := 9^9) (disch := first | omega | decide +kernel) only [↓bp0, bd0, bd_PN, reduceIte, Nat.reduceEqDiff, evStore, Nat.reduceAdd, Nat.reduceMul, Int.reduceEq, Int.reduceLT, Int.reduceLE, Nat.reduceLeDiff, List.reduceReplicate, reduceCtorEq, evRange, cNt, tk4, Nat.reduceLT, wrapS h2 hL]; done) | simp -dsimp [evl, putN, i64, u32, bl, encL, encB, encLL, wrapS h2 hL]
    · intro j hj y hy
      by_cases hji : j = i
      · subst hji; rw [hx] at hy; cases hy; exact h3
      · exact hpre j (by omega) y hy
  · simp -dsimp (maxSteps := 9^9) (disch := first | omega | decide +kernel) only [↓bp0, bd0, bd_PN, reduceIte, Nat.reduceEqDiff, evStore, Nat.reduceAdd, Nat.reduceMul, Int.reduceEq, Int.reduceLT, Int.reduceLE, Nat.reduceLeDiff, List.reduceReplicate, reduceCtorEq, evRange, cNt, tk4, Nat.reduceLT, retQ, resL, finL, newL, flat, tupOf, List.toList_toArray, Tryz.f54]
    refine leT_one (bl_eq ?_) (by simp)
    symm; rw [decide_eq_false_iff_not]
    intro hm
    obtain ⟨j, hj⟩ := List.getElem?_of_mem hm
    exact hpre j (by have := (List.getElem?_eq_some_iff.1 hj).1; omega) n hj rfl
theorem v_alive : CallSpec cx 31 [] (bl true) := by
  have c1 := n_News gvL sMn sRo gv_sz
  have c2 := n_Gone gvL sMn sRo gv_sz
  have c3 := n_Text gvL sMn sRo gv_sz
  rw [gv_news] at c1
  rw [gv_gone] at c2
  rw [gv_text] at c3
  simp only at c1 c2 c3
  refine callSpec_of_vc Tryz.func31 rfl (by decide) (by kernel_rfl) (Nat.le_of_ble_eq_true rfl) ?_
  try simp -dsimp (maxSteps := 9^9) (disch := first | omega | decide +kernel) only [↓bp0, bd0, bd_PN, reduceIte, Nat.reduceEqDiff, evStore, Nat.reduceAdd, Nat.reduceMul, Int.reduceEq, Int.reduceLT, Int.reduceLE, Nat.reduceLeDiff, List.reduceReplicate, reduceCtorEq, evRange, cNt, tk4, Nat.reduceLT, Tryz.f31]
  refine CallQ.imm (v_given) (by rfl) (by first | rfl | (simp -dsimp (maxSteps := 9^9) (disch := first | omega | decide +kernel) only [↓bp0, bd0, bd_PN, reduceIte, Nat.reduceEqDiff, evStore, Nat.reduceAdd, Nat.reduceMul, Int.reduceEq, Int.reduceLT, Int.reduceLE, Nat.reduceLeDiff, List.reduceReplicate, reduceCtorEq, evRange, cNt, tk4, Nat.reduceLT, drcs, drc, flat]; done) | simp -dsimp [evl, drcs, drc, flat, i64, u32, bl, encL, encB, encLL]) (by first | exact .inl rfl | exact .inr rfl | exact .inr scalB | exact .inr scalI | exact .inr scalT | exact .inr scalM | exact .inr scalMT | exact .inr scalE | exact .inr scalET | exact .inr scalN | exact .inr scalNT) ?_
  try simp -dsimp (maxSteps := 9^9) (disch := first | omega | decide +kernel) only [↓bp0, bd0, bd_PN, reduceIte, Nat.reduceEqDiff, evStore, Nat.reduceAdd, Nat.reduceMul, Int.reduceEq, Int.reduceLT, Int.reduceLE, Nat.reduceLeDiff, List.reduceReplicate, reduceCtorEq, evRange, cNt, tk4, Nat.reduceLT]
  refine CallQ.imm (c1) (by rfl) (by first | rfl | (simp -dsimp (maxSteps := 9^9) (disch := first | omega | decide +kernel) only [↓bp0, bd0, bd_PN, reduceIte, Nat.reduceEqDiff, evStore, Nat.reduceAdd, Nat.reduceMul, Int.reduceEq, Int.reduceLT, Int.reduceLE, Nat.reduceLeDiff, List.reduceReplicate, reduceCtorEq, evRange, cNt, tk4, Nat.reduceLT, drcs, drc, flat]; done) | simp -dsimp [evl, drcs, drc, flat, i64, u32, bl, encL, encB, encLL]) (by first | exact .inl rfl | exact .inr rfl | exact .inr scalB | exact .inr scalI | exact .inr scalT | exact .inr scalM | exact .inr scalMT | exact .inr scalE | exact .inr scalET | exact .inr scalN | exact .inr scalNT) ?_
  try simp -dsimp (maxSteps := 9^9) (disch := first | omega | decide +kernel) only [↓bp0, bd0, bd_PN, reduceIte, Nat.reduceEqDiff, evStore, Nat.reduceAdd, Nat.reduceMul, Int.reduceEq, Int.reduceLT, Int.reduceLE, Nat.reduceLeDiff, List.reduceReplicate, reduceCtorEq, evRange, cNt, tk4, Nat.reduceLT, newNts]
  refine CallQ.imm (v_given) (by rfl) (by first | rfl | (simp -dsimp (maxSteps := 9^9) (disch := first | omega | decide +kernel) only [↓bp0, bd0, bd_PN, reduceIte, Nat.reduceEqDiff, evStore, Nat.reduceAdd, Nat.reduceMul, Int.reduceEq, Int.reduceLT, Int.reduceLE, Nat.reduceLeDiff, List.reduceReplicate, reduceCtorEq, evRange, cNt, tk4, Nat.reduceLT, drcs, drc, flat]; done) | simp -dsimp [evl, drcs, drc, flat, i64, u32, bl, encL, encB, encLL]) (by first | exact .inl rfl | exact .inr rfl | exact .inr scalB | exact .inr scalI | exact .inr scalT | exact .inr scalM | exact .inr scalMT | exact .inr scalE | exact .inr scalET | exact .inr scalN | exact .inr scalNT) ?_
  try simp -dsimp (maxSteps := 9^9) (disch := first | omega | decide +kernel) only [↓bp0, bd0, bd_PN, reduceIte, Nat.reduceEqDiff, evStore, Nat.reduceAdd, Nat.reduceMul, Int.reduceEq, Int.reduceLT, Int.reduceLE, Nat.reduceLeDiff, List.reduceReplicate, reduceCtorEq, evRange, cNt, tk4, Nat.reduceLT]
  refine CallQ.imm (c2) (by rfl) (by first | rfl | (simp -dsimp (maxSteps := 9^9) (disch := first | omega | decide +kernel) only [↓bp0, bd0, bd_PN, reduceIte, Nat.reduceEqDiff, evStore, Nat.reduceAdd, Nat.reduceMul, Int.reduceEq, Int.reduceLT, Int.reduceLE, Nat.reduceLeDiff, List.reduceReplicate, reduceCtorEq, evRange, cNt, tk4, Nat.reduceLT, drcs, drc, flat]; done) | simp -dsimp [evl, drcs, drc, flat, i64, u32, bl, encL, encB, encLL]) (by first | exact .inl rfl | exact .inr rfl | exact .inr scalB | exact .inr scalI | exact .inr scalT | exact .inr scalM | exact .inr scalMT | exact .inr scalE | exact .inr scalET | exact .inr scalN | exact .inr scalNT) ?_
  try simp -dsimp (maxSteps := 9^9) (disch := first | omega | decide +kernel) only [↓bp0, bd0, bd_PN, reduceIte, Nat.reduceEqDiff, evStore, Nat.reduceAdd, Nat.reduceMul, Int.reduceEq, Int.reduceLT, Int.reduceLE, Nat.reduceLeDiff, List.reduceReplicate, reduceCtorEq, evRange, cNt, tk4, Nat.reduceLT, newNts]
  refine CallQ.imm (v_given) (by rfl) (by first | rfl | (simp -dsimp (maxSteps := 9^9) (disch := first | omega | decide +kernel) only [↓bp0, bd0, bd_PN, reduceIte, Nat.reduceEqDiff, evStore, Nat.reduceAdd, Nat.reduceMul, Int.reduceEq, Int.reduceLT, Int.reduceLE, Nat.reduceLeDiff, List.reduceReplicate, reduceCtorEq, evRange, cNt, tk4, Nat.reduceLT, drcs, drc, flat]; done) | simp -dsimp [evl, drcs, drc, flat, i64, u32, bl, encL, encB, encLL]) (by first | exact .inl rfl | exact .inr rfl | exact .inr scalB | exact .inr scalI | exact .inr scalT | exact .inr scalM | exact .inr scalMT | exact .inr scalE | exact .inr scalET | exact .inr scalN | exact .inr scalNT) ?_
  try simp -dsimp (maxSteps := 9^9) (disch := first | omega | decide +kernel) only [↓bp0, bd0, bd_PN, reduceIte, Nat.reduceEqDiff, evStore, Nat.reduceAdd, Nat.reduceMul, Int.reduceEq, Int.reduceLT, Int.reduceLE, Nat.reduceLeDiff, List.reduceReplicate, reduceCtorEq, evRange, cNt, tk4, Nat.reduceLT]
  refine CallQ.imm (c3) (by rfl) (by first | rfl | (simp -dsimp (maxSteps := 9^9) (disch := first | omega | decide +kernel) only [↓bp0, bd0, bd_PN, reduceIte, Nat.reduceEqDiff, evStore, Nat.reduceAdd, Nat.reduceMul, Int.reduceEq, Int.reduceLT, Int.reduceLE, Nat.reduceLeDiff, List.reduceReplicate, reduceCtorEq, evRange, cNt, tk4, Nat.reduceLT, drcs, drc, flat]; done) | simp -dsimp [evl, drcs, drc, flat, i64, u32, bl, encL, encB, encLL]) (by first | exact .inl rfl | exact .inr rfl | exact .inr scalB | exact .inr scalI | exact .inr scalT | exact .inr scalM | exact .inr scalMT | exact .inr scalE | exact .inr scalET | exact .inr scalN | exact .inr scalNT) ?_
  try simp -dsimp (maxSteps := 9^9) (disch := first | omega | decide +kernel) only [↓bp0, bd0, bd_PN, reduceIte, Nat.reduceEqDiff, evStore, Nat.reduceAdd, Nat.reduceMul, Int.reduceEq, Int.reduceLT, Int.reduceLE, Nat.reduceLeDiff, List.reduceReplicate, reduceCtorEq, evRange, cNt, tk4, Nat.reduceLT, newNts, bldNt, PV.cellsP]
  refine CallQ.imm (gvN_eq) (by rfl) (by first | rfl | (simp -dsimp (maxSteps := 9^9) (disch := first | omega | decide +kernel) only [↓bp0, bd0, bd_PN, reduceIte, Nat.reduceEqDiff, evStore, Nat.reduceAdd, Nat.reduceMul, Int.reduceEq, Int.reduceLT, Int.reduceLE, Nat.reduceLeDiff, List.reduceReplicate, reduceCtorEq, evRange, cNt, tk4, Nat.reduceLT, drcs, drc, flat, encNts, gvN, List.map_cons, List.map_nil, List.drop_zero, drcs, drc, dr1, dr1s, drRows]; done) | simp -dsimp [evl, drcs, drc, flat, i64, u32, bl, encL, encB, encLL]) (by first | exact .inl rfl | exact .inr rfl | exact .inr scalB | exact .inr scalI | exact .inr scalT | exact .inr scalM | exact .inr scalMT | exact .inr scalE | exact .inr scalET | exact .inr scalN | exact .inr scalNT) ?_
  try simp -dsimp (maxSteps := 9^9) (disch := first | omega | decide +kernel) only [↓bp0, bd0, bd_PN, reduceIte, Nat.reduceEqDiff, evStore, Nat.reduceAdd, Nat.reduceMul, Int.reduceEq, Int.reduceLT, Int.reduceLE, Nat.reduceLeDiff, List.reduceReplicate, reduceCtorEq, evRange, cNt, tk4, Nat.reduceLT, newNts, bldNt, PV.cellsP]
  refine CallQ.imm (gvG_eq) (by rfl) (by first | rfl | (simp -dsimp (maxSteps := 9^9) (disch := first | omega | decide +kernel) only [↓bp0, bd0, bd_PN, reduceIte, Nat.reduceEqDiff, evStore, Nat.reduceAdd, Nat.reduceMul, Int.reduceEq, Int.reduceLT, Int.reduceLE, Nat.reduceLeDiff, List.reduceReplicate, reduceCtorEq, evRange, cNt, tk4, Nat.reduceLT, drcs, drc, flat, encNts, gvG, List.map_cons, List.map_nil, List.drop_zero, drcs, drc, dr1, dr1s, drRows]; done) | simp -dsimp [evl, drcs, drc, flat, i64, u32, bl, encL, encB, encLL]) (by first | exact .inl rfl | exact .inr rfl | exact .inr scalB | exact .inr scalI | exact .inr scalT | exact .inr scalM | exact .inr scalMT | exact .inr scalE | exact .inr scalET | exact .inr scalN | exact .inr scalNT) ?_
  simp -dsimp (maxSteps := 9^9) (disch := first | omega | decide +kernel) only [↓bp0, bd0, bd_PN, reduceIte, Nat.reduceEqDiff, evStore, Nat.reduceAdd, Nat.reduceMul, Int.reduceEq, Int.reduceLT, Int.reduceLE, Nat.reduceLeDiff, List.reduceReplicate, reduceCtorEq, evRange, cNt, tk4, Nat.reduceLT, retQ, resL, finL, newL, flat, tupOf, List.toList_toArray, Tryz.f31, decide_true]
  exact leT_one .rfl' (by simp)
end Go.Ab
end

section
/- Classes told once; what is gone one way is news the other way. -/
set_option maxRecDepth 1000000
set_option maxHeartbeats 8000000
namespace Go.Ab
open Go Go.Proofs Go.Sort
theorem bd_PO : type_of% (And.intro @evNext.eq_1 (And.intro @fld (And.intro @nit (And.intro @nxE (And.intro @ghR (And.intro @ovR (And.intro @evBin_seql (And.intro @evBin_sneq (And.intro @str.eq_1 (And.intro @u8.eq_1 (And.intro @encBrs.eq_1 (And.intro @cBr.eq_1 (And.intro @encLdg.eq_1 (And.intro @encKws.eq_1 (And.intro @cKw.eq_1 (And.intro @encEvss.eq_1 (And.intro @encEvs.eq_1 (And.intro @cEv.eq_1 (And.intro @encMks.eq_1 (And.intro @cMk.eq_1 (And.intro @encStrs.eq_1 (And.intro @tk2 (And.intro @tk3 (And.intro @List.set_cons_succ.{0} (And.intro @List.getElem?_cons_zero.{0} (And.intro @List.getElem?_cons_succ.{0} (@List.length_set.{0}))))))))))))))))))))))))))) := And.intro @evNext.eq_1 (And.intro @fld (And.intro @nit (And.intro @nxE (And.intro @ghR (And.intro @ovR (And.intro @evBin_seql (And.intro @evBin_sneq (And.intro @str.eq_1 (And.intro @u8.eq_1 (And.intro @encBrs.eq_1 (And.intro @cBr.eq_1 (And.intro @encLdg.eq_1 (And.intro @encKws.eq_1 (And.intro @cKw.eq_1 (And.intro @encEvss.eq_1 (And.intro @encEvs.eq_1 (And.intro @cEv.eq_1 (And.intro @encMks.eq_1 (And.intro @cMk.eq_1 (And.intro @encStrs.eq_1 (And.intro @tk2 (And.intro @tk3 (And.intro @List.set_cons_succ.{0} (And.intro @List.getElem?_cons_zero.{0} (And.intro @List.getElem?_cons_succ.{0} (@List.length_set.{0}))))))))))))))))))))))))))
theorem v_once (L : List Nt) (cs : List Int) (hl : L.length ≤ 2^30) (hlen : L.length = cs.length) (hin : ∀ n ∈ L, n.cls ∈ cs) (hu : L.Pairwise fun a b => a.cls ≠ b.cls) : CallSpec cx 38 [encNts L, encL cs] (bl true) := by
  have hne : decide (((L.length : Nat) : Int) = ((cs.length : Nat) : Int)) = true := decide_eq_true (by rw [hlen])
  rw [List.pairwise_iff_getElem] at hu
  refine callSpec_of_vc Tryz.func38 rfl (by decide) (by kernel_rfl) (Nat.le_of_ble_eq_true rfl) ?_
  try simp -dsimp (maxSteps := 9^9) (disch := first | omega | decide +kernel) only [↓bp0, bd0, bd_PO, reduceIte, Nat.reduceEqDiff, evStore, Nat.reduceAdd, Nat.reduceMul, Int.reduceEq, Int.reduceLT, Int.reduceLE, Nat.reduceLeDiff, List.reduceReplicate, reduceCtorEq, evRange, cNt, tk4, Nat.reduceLT, Tryz.f38, encNts, encL, List.length_map, hne]
  refine LoopQ.rule (fun m st => ∃ (i : Nat), i ≤ L.length ∧ m = L.length - i ∧
    st = ⟨mkE [(0, encNts L), (1, encL cs), (5, i64 i)], mkS [], 0⟩) _ _ (weak_of ?_)
    ⟨0, by omega, rfl, rfl⟩ ?_
  · first | (simp -dsimp (maxSteps := 9^9) (disch := first | omega | decide +kernel) only [↓bp0, bd0, bd_PO, reduceIte, Nat.reduceEqDiff, evStore, Nat.reduceAdd, Nat.reduceMul, Int.reduceEq, Int.reduceLT, Int.reduceLE, Nat.reduceLeDiff, List.reduceReplicate, reduceCtorEq, evRange, cNt, tk4, Nat.reduceLT, encNts, encL]; done) | simp -dsimp [evl, putN, i64, u32, bl, encL, encB, encLL, encNts, encL]
  rintro m st ⟨i, hi, rfl, rfl⟩
  try simp -dsimp (maxSteps := 9^9) (disch := first | omega | decide +kernel) only [↓bp0, bd0, bd_PO, reduceIte, Nat.reduceEqDiff, evStore, Nat.reduceAdd, Nat.reduceMul, Int.reduceEq, Int.reduceLT, Int.reduceLE, Nat.reduceLeDiff, List.reduceReplicate, reduceCtorEq, evRange, cNt, tk4, Nat.reduceLT, encNts, encL, List.length_map]
  refine onC_nlt (fun h2 => ?_) (fun h2 => ?_)
  · obtain ⟨n, hx, hxm⟩ := get_of_lt h2
    have hd : decide (n.cls ∈ cs) = true := decide_eq_true (hin n hxm)
    have cH := v_has cs n.cls (by omega)
    rw [hd] at cH
    try simp -dsimp (maxSteps := 9^9) (disch := first | omega | decide +kernel) only [↓bp0, bd0, bd_PO, reduceIte, Nat.reduceEqDiff, evStore, Nat.reduceAdd, Nat.reduceMul, Int.reduceEq, Int.reduceLT, Int.reduceLE, Nat.reduceLeDiff, List.reduceReplicate, reduceCtorEq, evRange, cNt, tk4, Nat.reduceLT, hx, encNts, encL]
    refine CallQ.imm (cH) (by rfl) (by first | rfl | (simp -dsimp (maxSteps := 9^9) (disch := first | omega | decide +kernel) only [↓bp0, bd0, bd_PO, reduceIte, Nat.reduceEqDiff, evStore, Nat.reduceAdd, Nat.reduceMul, Int.reduceEq, Int.reduceLT, Int.reduceLE, Nat.reduceLeDiff, List.reduceReplicate, reduceCtorEq, evRange, cNt, tk4, Nat.reduceLT, drcs, drc, flat, encL]; done) | simp -dsimp [evl, drcs, drc, flat, i64, u32, bl, encL, encB, encLL]) (by first | exact .inl rfl | exact .inr rfl | exact .inr scalB | exact .inr scalI | exact .inr scalT | exact .inr scalM | exact .inr scalMT | exact .inr scalE | exact .inr scalET | exact .inr scalN | exact .inr scalNT) ?_
    try simp -dsimp (maxSteps := 9^9) (disch := first | omega | decide +kernel) only [↓bp0, bd0, bd_PO, reduceIte, Nat.reduceEqDiff, evStore, Nat.reduceAdd, Nat.reduceMul, Int.reduceEq, Int.reduceLT, Int.reduceLE, Nat.reduceLeDiff, List.reduceReplicate, reduceCtorEq, evRange, cNt, tk4, Nat.reduceLT, uUn, Option.bind_some, Bool.not_true]
    refine LoopQ.rule (fun m st => ∃ (k : Nat), k ≤ i ∧ m = i - k ∧
      st = ⟨mkE [(0, encNts L), (1, encL cs), (5, i64 i), (6, i64 k)], mkS [], 0⟩) _ _ (weak_of ?_)
      ⟨0, by omega, rfl, rfl⟩ ?_
    · first | (simp -dsimp (maxSteps := 9^9) (disch := first | omega | decide +kernel) only [↓bp0, bd0, bd_PO, reduceIte, Nat.reduceEqDiff, evStore, Nat.reduceAdd, Nat.reduceMul, Int.reduceEq, Int.reduceLT, Int.reduceLE, Nat.reduceLeDiff, List.reduceReplicate, reduceCtorEq, evRange, cNt, tk4, Nat.reduceLT, encNts, encL]; done) | simp -dsimp [evl, putN, i64, u32, bl, encL, encB, encLL, encNts, encL]
    rintro m st ⟨k, hk, rfl, rfl⟩
    try simp -dsimp (maxSteps := 9^9) (disch := first | omega | decide +kernel) only [↓bp0, bd0, bd_PO, reduceIte, Nat.reduceEqDiff, evStore, Nat.reduceAdd, Nat.reduceMul, Int.reduceEq, Int.reduceLT, Int.reduceLE, Nat.reduceLeDiff, List.reduceReplicate, reduceCtorEq, evRange, cNt, tk4, Nat.reduceLT, encNts, encL, List.length_map]
    refine onC_nlt (fun h3 => ?_) (fun h3 => ?_)
    · obtain ⟨q, hq, hqm⟩ := get_of_lt (show k < L.length by omega)
      have hne2 : decide (q.cls = n.cls) = false := decide_eq_false (by
        have := hu k i (by omega) h2 h3
        rw [List.getElem?_eq_getElem (by omega)] at hq hx
        cases hq; cases hx
        exact this)
      try simp -dsimp (maxSteps := 9^9) (disch := first | omega | decide +kernel) only [↓bp0, bd0, bd_PO, reduceIte, Nat.reduceEqDiff, evStore, Nat.reduceAdd, Nat.reduceMul, Int.reduceEq, Int.reduceLT, Int.reduceLE, Nat.reduceLeDiff, List.reduceReplicate, reduceCtorEq, evRange, cNt, tk4, Nat.reduceLT, hx, hq, encNts, hne2]
      refine ⟨_, _, ?_, weak_of ?_, k + 1, h3, rfl, rfl⟩
      · omega
      · first | (simp -dsimp (maxSteps := 9^9) (disch := first | omega | decide +kernel) only [↓bp0, bd0, bd_PO, reduceIte, Nat.reduceEqDiff, evStore, Nat.reduceAdd, Nat.reduceMul, Int.reduceEq, Int.reduceLT, Int.reduceLE, Nat.reduceLeDiff, List.reduceReplicate, reduceCtorEq, evRange, cNt, tk4, Nat.reduceLT, wrapS h3 (show i ≤ 9223372036854775807 by omega), encNts, encL]; done) | simp -dsimp [evl, putN, i64, u32, bl, encL, encB, encLL, wrapS h3 (show i ≤ 9223372036854775807 by omega), encNts, encL]
    · try simp -dsimp (maxSteps := 9^9) (disch := first | omega | decide +kernel) only [↓bp0, bd0, bd_PO, reduceIte, Nat.reduceEqDiff, evStore, Nat.reduceAdd, Nat.reduceMul, Int.reduceEq, Int.reduceLT, Int.reduceLE, Nat.reduceLeDiff, List.reduceReplicate, reduceCtorEq, evRange, cNt, tk4, Nat.reduceLT]
      refine ⟨_, _, ?_, weak_of ?_, i + 1, h2, rfl, rfl⟩
      · omega
      · first | (simp -dsimp (maxSteps := 9^9) (disch := first | omega | decide +kernel) only [↓bp0, bd0, bd_PO, reduceIte, Nat.reduceEqDiff, evStore, Nat.reduceAdd, Nat.reduceMul, Int.reduceEq, Int.reduceLT, Int.reduceLE, Nat.reduceLeDiff, List.reduceReplicate, reduceCtorEq, evRange, cNt, tk4, Nat.reduceLT, wrapS h2 (show L.length ≤ 9223372036854775807 by omega), encNts, encL]; done) | simp -dsimp [evl, putN, i64, u32, bl, encL, encB, encLL, wrapS h2 (show L.length ≤ 9223372036854775807 by omega), encNts, encL]
  · simp -dsimp (maxSteps := 9^9) (disch := first | omega | decide +kernel) only [↓bp0, bd0, bd_PO, reduceIte, Nat.reduceEqDiff, evStore, Nat.reduceAdd, Nat.reduceMul, Int.reduceEq, Int.reduceLT, Int.reduceLE, Nat.reduceLeDiff, List.reduceReplicate, reduceCtorEq, evRange, cNt, tk4, Nat.reduceLT, retQ, resL, finL, newL, flat, tupOf, List.toList_toArray, Tryz.f38]
    exact leT_one .rfl' (by simp)
/-! ### classes -/
def clsN (L : List Nt) : List Int := L.map (·.cls)
theorem mem_lastsF {f : Str → Int} {v : List Ev} {cs : List Int} (c : Int) : c ∈ clsN (lastsF f v cs) ↔ c ∈ cs ∧ ∃ e ∈ v, f e.chg = c := by
  unfold clsN
  constructor
  · intro h
    obtain ⟨t, ht, rfl⟩ := List.mem_map.1 h
    obtain ⟨i, hi, rfl⟩ := List.mem_map.1 ht
    have hs := (List.mem_filter.1 hi).2
    unfold selB at hs
    cases hx : v[i]? with
    | none => rw [hx] at hs; cases hs
    | some e =>
      rw [hx] at hs
      simp only [Bool.and_eq_true] at hs
      obtain ⟨y, hy, e1⟩ := List.any_eq_true.1 hs.2
      rw [decide_eq_true_iff] at e1
      rw [ntAt, hx]
      exact ⟨by show f e.chg ∈ cs; rw [e1]; exact hy, e, List.mem_of_getElem? hx, rfl⟩
  · rintro ⟨hc, e, he, rfl⟩
    have : ∀ v : List Ev, (∃ e' ∈ v, f e'.chg = f e.chg) → ∃ (i : Nat) (x : Ev), v[i]? = some x ∧ f x.chg = f e.chg ∧ ((v.drop (i + 1)).any fun y => decide (f y.chg = f x.chg)) = false := by
      intro v
      induction v with
      | nil => rintro ⟨_, h, _⟩; simp at h
      | cons a r ih =>
        rintro ⟨e', he', h'⟩
        by_cases hr : ∃ e' ∈ r, f e'.chg = f e.chg
        · obtain ⟨i, x, h1, h2, h3⟩ := ih hr
          exact ⟨i + 1, x, by simpa using h1, h2, by simpa using h3⟩
        · have ha : f a.chg = f e.chg := by
            rcases List.mem_cons.1 he' with rfl | h
            · exact h'
            · exact absurd ⟨e', h, h'⟩ hr
          refine ⟨0, a, rfl, ha, ?_⟩
          rw [List.any_eq_false]
          intro y hy
          rw [decide_eq_true_eq]
          intro h
          exact hr ⟨y, by simpa using hy, by rw [h, ha]⟩
    obtain ⟨i, x, h1, h2, h3⟩ := this v ⟨e, he, rfl⟩
    refine List.mem_map.2 ⟨ntAt f v i, List.mem_map.2 ⟨i, List.mem_filter.2 ⟨List.mem_range.2 (List.getElem?_eq_some_iff.1 h1).1, ?_⟩, rfl⟩, by rw [ntAt, h1]; exact h2⟩
    rw [selB, h1]
    simp only [h3, Bool.not_false, Bool.true_and]
    rw [h2]
    exact List.any_eq_true.2 ⟨f e.chg, hc, by simp⟩
theorem nodup_lastsF {f : Str → Int} {v : List Ev} {cs : List Int} : (clsN (lastsF f v cs)).Nodup := by
  rw [clsN, List.nodup_iff_pairwise_ne, List.pairwise_map]
  exact lastsF_pw
theorem lst_mem : ∀ (L : List Bool) (i : Nat) (y : Int), y ∈ lst i L → ∃ k : Nat, y = (i + k : Nat) ∧ L[k]? = some true
  | [], i, y, h => by simp [lst] at h
  | b :: r, i, y, h => by
    rw [lst] at h
    split at h
    · rename_i hb
      rcases List.mem_cons.1 h with rfl | h
      · exact ⟨0, by simp, by simp [hb]⟩
      · obtain ⟨k, h1, h2⟩ := lst_mem r (i + 1) y h
        exact ⟨k + 1, by rw [h1]; congr 1; omega, by simpa using h2⟩
    · obtain ⟨k, h1, h2⟩ := lst_mem r (i + 1) y h
      exact ⟨k + 1, by rw [h1]; congr 1; omega, by simpa using h2⟩
theorem lastK_some {f : Str → Int} : ∀ {es : List Ev} {c : Int}, (lastK f es c).isSome = true → ∃ e ∈ es, f e.chg = c
  | [], c, h => by simp [lastK] at h
  | e :: r, c, h => by
    rw [lastK] at h
    cases hr : lastK f r c with
    | some k =>
      obtain ⟨x, hx, h1⟩ := lastK_some (by rw [hr]; rfl)
      exact ⟨x, by simp [hx], h1⟩
    | none =>
      rw [hr] at h
      simp only at h
      split at h
      · rename_i h1; exact ⟨e, by simp, h1⟩
      · cases h
theorem onlyL_mem {f : Str → Int} {s t : List Ev} {c : Int} (h : c ∈ onlyL f s t) : ∃ e ∈ s, f e.chg = c := by
  obtain ⟨k, h1, h2⟩ := lst_mem _ _ _ h
  have hk : k < 30 := by have := (List.getElem?_eq_some_iff.1 h2).1; rw [onlyP_len] at this; exact this
  rw [onlyP_get hk, Option.some.injEq, Bool.and_eq_true] at h2
  have h3 := h2.1
  unfold inB at h3
  have h4 : (lastK f s (k : Int)).isSome = true := by
    cases hq : lastK f s (k : Int) with
    | none => rw [hq] at h3; cases h3
    | some _ => rfl
  rw [h1, Nat.zero_add]
  exact lastK_some h4
theorem onlyL_self {f : Str → Int} {s : List Ev} : onlyL f s s = [] := by
  rw [List.eq_nil_iff_forall_not_mem]
  intro c h
  obtain ⟨k, h1, h2⟩ := lst_mem _ _ _ h
  have hk : k < 30 := by have := (List.getElem?_eq_some_iff.1 h2).1; rw [onlyP_len] at this; exact this
  rw [onlyP_get hk] at h2
  cases inB f s k <;> simp at h2
theorem lastsF_nil {f : Str → Int} {v : List Ev} : lastsF f v [] = [] := by
  have : (List.range v.length).filter (selB f v []) = [] := by
    rw [List.filter_eq_nil_iff]
    intro i _ h
    unfold selB at h
    split at h
    · simp at h
    · cases h
  rw [lastsF, this]; rfl
theorem srtN_perm (O : List Nt) : (srtN O).Perm O := by
  have h1 : (srtA O (List.finRange O.length)).Perm (List.finRange O.length) := List.mergeSort_perm _ _
  have := h1.map fun a => O[a]
  rw [fin_A] at this
  exact this
theorem turn_cls {f f0 : Str → Int} {s t : List Ev} (hf : ∀ e ∈ t, f0 e.chg = f e.chg) : 
    (clsN (srtN (goneO f t s (onlyL f0 t s)) ++ lastsF f s (onlyL f0 t s))).Nodup ∧ ∀ c, c ∈ clsN (srtN (goneO f t s (onlyL f0 t s)) ++ lastsF f s (onlyL f0 t s)) ↔ c ∈ clsN (lastsF f t (onlyL f0 t s)) := by
  obtain ⟨C, hC⟩ : ∃ C, C = onlyL f0 t s := ⟨_, rfl⟩
  have hCt : ∀ c ∈ C, ∃ e ∈ t, f e.chg = c := fun c hc => by
    rw [hC] at hc
    obtain ⟨e, he, h⟩ := onlyL_mem hc
    exact ⟨e, he, by rw [← hf e he]; exact h⟩
  rw [← hC]
  clear hC
  have hg : clsN (goneO f t s C) = clsN (lastsF f t (keepN (lastsF f s C) C)) := by
    rw [clsN, clsN, goneO, List.map_map]; rfl
  have hp : (clsN (srtN (goneO f t s C))).Perm (clsN (goneO f t s C)) := (srtN_perm _).map _
  have htold : ∀ c, toldN (lastsF f s C) c = true ↔ c ∈ clsN (lastsF f s C) := fun c => by
    unfold toldN clsN
    rw [List.any_eq_true, List.mem_map]
    constructor
    · rintro ⟨n, h1, h2⟩; exact ⟨n, h1, by simpa using h2⟩
    · rintro ⟨n, h1, h2⟩; exact ⟨n, h1, by simpa using h2⟩
  have hk : ∀ c, c ∈ keepN (lastsF f s C) C ↔ c ∈ C ∧ ¬ c ∈ clsN (lastsF f s C) := fun c => by
    unfold keepN
    rw [List.mem_filter, ← htold c]
    cases toldN (lastsF f s C) c <;> simp
  have e1 : clsN (srtN (goneO f t s C) ++ lastsF f s C) = clsN (srtN (goneO f t s C)) ++ clsN (lastsF f s C) := by rw [clsN, List.map_append]; rfl
  rw [e1]
  have m1 : ∀ c, c ∈ clsN (srtN (goneO f t s C)) ↔ c ∈ C ∧ ¬ c ∈ clsN (lastsF f s C) := fun c => by
    rw [hp.mem_iff, hg, mem_lastsF, hk]
    exact ⟨fun h => h.1, fun h => ⟨h, hCt c h.1⟩⟩
  constructor
  · refine List.nodup_append.2 ⟨?_, nodup_lastsF, fun a ha b hb e => ?_⟩
    · rw [hp.nodup_iff, hg]; exact nodup_lastsF
    · subst e
      exact ((m1 a).1 ha).2 hb
  · intro c
    rw [List.mem_append, m1, mem_lastsF (f := f) (v := t)]
    constructor
    · rintro (h | h)
      · exact ⟨h.1, hCt c h.1⟩
      · have := (mem_lastsF c).1 h
        exact ⟨this.1, hCt c this.1⟩
    · rintro ⟨h, _⟩
      by_cases hm : c ∈ clsN (lastsF f s C)
      · exact .inr hm
      · exact .inl ⟨h, hm⟩
end Go.Ab
end

section
/- NotesTurn. -/
set_option maxRecDepth 1000000
set_option maxHeartbeats 16000000
namespace Go.Ab
open Go Go.Proofs Go.Sort
theorem bd_PP : type_of% (And.intro @evNext.eq_1 (And.intro @fld (And.intro @nit (And.intro @nxE (And.intro @ghR (And.intro @ovR (And.intro @evBin_seql (And.intro @evBin_sneq (And.intro @str.eq_1 (And.intro @u8.eq_1 (And.intro @encBrs.eq_1 (And.intro @cBr.eq_1 (And.intro @encLdg.eq_1 (And.intro @encKws.eq_1 (And.intro @cKw.eq_1 (And.intro @encEvss.eq_1 (And.intro @encEvs.eq_1 (And.intro @cEv.eq_1 (And.intro @encMks.eq_1 (And.intro @cMk.eq_1 (And.intro @encStrs.eq_1 (And.intro @tk2 (And.intro @tk3 (And.intro @List.set_cons_succ.{0} (And.intro @List.getElem?_cons_zero.{0} (And.intro @List.getElem?_cons_succ.{0} (@List.length_set.{0}))))))))))))))))))))))))))) := And.intro @evNext.eq_1 (And.intro @fld (And.intro @nit (And.intro @nxE (And.intro @ghR (And.intro @ovR (And.intro @evBin_seql (And.intro @evBin_sneq (And.intro @str.eq_1 (And.intro @u8.eq_1 (And.intro @encBrs.eq_1 (And.intro @cBr.eq_1 (And.intro @encLdg.eq_1 (And.intro @encKws.eq_1 (And.intro @cKw.eq_1 (And.intro @encEvss.eq_1 (And.intro @encEvs.eq_1 (And.intro @cEv.eq_1 (And.intro @encMks.eq_1 (And.intro @cMk.eq_1 (And.intro @encStrs.eq_1 (And.intro @tk2 (And.intro @tk3 (And.intro @List.set_cons_succ.{0} (And.intro @List.getElem?_cons_zero.{0} (And.intro @List.getElem?_cons_succ.{0} (@List.length_set.{0}))))))))))))))))))))))))))
theorem any_falseP {α : Type} {l : List α} {p : α → Bool} (h : l.any p = false) : ∀ a ∈ l, p a = false := fun a ha => by
  have := List.any_eq_false.1 h a ha; simpa using this
theorem big_noP {s : Str} (h : big s = false) : s.size ≤ 100 := by
  have := of_decide_eq_false h; omega
theorem grt26_noP {l : List Br} (h : grt26 l = false) : l.length ≤ 20 ∧ ∀ b ∈ l, b.name.size ≤ 100 := by
  rw [grt26, Bool.or_eq_false_iff] at h
  refine ⟨by have := of_decide_eq_false h.2; omega, fun b hb => ?_⟩
  have := any_falseP h.1 b hb
  rw [Bool.or_eq_false_iff] at this
  exact big_noP this.1
theorem grt29_noP {l : Ldg} (h : grt29 l = false) : LSz l ∧ LNm l := by
  unfold grt29 at h
  simp only [Bool.or_eq_false_iff] at h
  obtain ⟨⟨⟨⟨h1, h2⟩, h3⟩, h4⟩, h5⟩ := h
  have h6 := grt26_noP h4
  have h3' := of_decide_eq_false h3
  have h5' := of_decide_eq_false h5
  refine ⟨⟨by omega, by omega, by omega, fun s hs => ?_⟩, ⟨fun b hb => by have := h6.2 b hb; omega, fun k hk => by have := big_noP (any_falseP h1 k hk); omega⟩⟩
  have := any_falseP h2 s hs
  unfold grtE at this
  simp only [Bool.or_eq_false_iff] at this
  have := of_decide_eq_false this.1.2
  omega
theorem lview_of {l : Ldg} {n : Str} (h : lchk l = 0) (hi : 0 ≤ idx l.brs n) : (lview l n).2 = 0 := by
  have hok := lok_of h
  rw [lview, if_neg (by rw [Decidable.not_not]; exact h), bview, if_neg (by rw [Decidable.not_not]; exact hok.fits), if_neg (by omega)]
theorem ldiff_of {l : Ldg} {a b : Str} (ha : (lview l a).2 = 0) (hb : (lview l b).2 = 0) : ldiff l a b = (onlyL (cls0 l.known) (evV l a) (evV l b), onlyL (cls0 l.known) (evV l b) (evV l a), 0) := by
  rw [ldiff, if_neg (by rw [Decidable.not_not]; exact ha), if_neg (by rw [Decidable.not_not]; exact hb)]; rfl
theorem bothE_zero {l : Ldg} {a b : Str} (h : bothE l a b = 0) : (lview l a).2 = 0 ∧ (lview l b).2 = 0 ∧ lchk l = 0 := by
  unfold bothE at h
  split at h
  · rename_i h1; exact absurd h h1
  · rename_i h1
    rw [Decidable.not_not] at h1
    split at h
    · cases h
    · rename_i h2
      exact ⟨lview_of h1 (by omega), lview_of h1 (by omega), h1⟩
theorem turn_ok {l : Ldg} {a b : Str} (ha : (lview l a).2 = 0) (hb : (lview l b).2 = 0) :
    ((ngone l b a).1.map (·.cls)).Nodup ∧ (∀ n ∈ (ngone l b a).1, n.cls ∈ clsN (nnews l a b).1) ∧ (ngone l b a).1.length = (nnews l a b).1.length ∧ (ngone l b a).2 = 0 ∧ (nnews l a b).2 = 0 := by
  have d1 := ldiff_of ha hb
  have d2 := ldiff_of hb ha
  have e1 : nnews l a b = (lastsF (clsI l.known) (evV l b) (onlyL (cls0 l.known) (evV l b) (evV l a)), 0) := by rw [nnews, d1]; simp
  have e2 : ngone l b a = (srtN (goneO (clsI l.known) (evV l b) (evV l a) (onlyL (cls0 l.known) (evV l b) (evV l a))) ++ lastsF (clsI l.known) (evV l a) (onlyL (cls0 l.known) (evV l b) (evV l a)), 0) := by rw [ngone, d2]; simp
  obtain ⟨h1, h2⟩ := turn_cls (f := clsI l.known) (f0 := cls0 l.known) (s := evV l a) (t := evV l b) fun e he => cls_eq (evV_ok hb he).2
  rw [e1, e2]
  refine ⟨h1, fun n hn => (h2 n.cls).1 (List.mem_map.2 ⟨n, hn, rfl⟩), ?_, rfl, rfl⟩
  have hp := (List.perm_ext_iff_of_nodup h1 nodup_lastsF).2 h2
  have := hp.length_eq
  simpa [clsN] using this
theorem self_ok {l : Ldg} {a : Str} (ha : (lview l a).2 = 0) : nnews l a a = ([], 0) ∧ ngone l a a = ([], 0) ∧ ntext l a a = (⟨#[]⟩, 0) := by
  have d := ldiff_of ha ha
  rw [onlyL_self] at d
  have h1 : nnews l a a = ([], 0) := by rw [nnews, d]; simp [lastsF_nil]
  have h2 : ngone l a a = ([], 0) := by
    have hg : goneO (clsI l.known) (evV l a) (evV l a) [] = [] := by
      rw [goneO, keepN, List.filter_nil, lastsF_nil]; rfl
    have hs : srtN [] = [] := List.eq_nil_of_length_eq_zero (srtN_len [])
    rw [ngone, d]
    simp [hg, hs, lastsF_nil]
  refine ⟨h1, h2, ?_⟩
  rw [ntext, d, h1, h2]
  simp [catS]
theorem l_Turn (l : Ldg) (a b : Str) (hl : l.known.length ≤ 9223372036854775807) (hb : l.brs.length ≤ 9223372036854775807) (hv : l.evs.length ≤ 9223372036854775807) (he : ∀ s ∈ l.evs, s.length ≤ 9223372036854775807) :
    CallSpec cx 7 [encLdg l, str a, str b] (bl true) := by
  refine callSpec_of_vc Tryz.func7 rfl (by decide) (by kernel_rfl) (Nat.le_of_ble_eq_true rfl) ?_
  try simp -dsimp (maxSteps := 9^9) (disch := first | omega | decide +kernel) only [↓bp0, bd0, bd_PP, reduceIte, Nat.reduceEqDiff, evStore, Nat.reduceAdd, Nat.reduceMul, Int.reduceEq, Int.reduceLT, Int.reduceLE, Nat.reduceLeDiff, List.reduceReplicate, reduceCtorEq, evRange, cNt, tk4, Nat.reduceLT, Tryz.f7]
  refine CallQ.imm (v_alive) (by rfl) (by first | rfl | (simp -dsimp (maxSteps := 9^9) (disch := first | omega | decide +kernel) only [↓bp0, bd0, bd_PP, reduceIte, Nat.reduceEqDiff, evStore, Nat.reduceAdd, Nat.reduceMul, Int.reduceEq, Int.reduceLT, Int.reduceLE, Nat.reduceLeDiff, List.reduceReplicate, reduceCtorEq, evRange, cNt, tk4, Nat.reduceLT, drcs, drc, flat]; done) | simp -dsimp [evl, drcs, drc, flat, i64, u32, bl, encL, encB, encLL]) (by first | exact .inl rfl | exact .inr rfl | exact .inr scalB | exact .inr scalI | exact .inr scalT | exact .inr scalM | exact .inr scalMT | exact .inr scalE | exact .inr scalET | exact .inr scalN | exact .inr scalNT) ?_
  try simp -dsimp (maxSteps := 9^9) (disch := first | omega | decide +kernel) only [↓bp0, bd0, bd_PP, reduceIte, Nat.reduceEqDiff, evStore, Nat.reduceAdd, Nat.reduceMul, Int.reduceEq, Int.reduceLT, Int.reduceLE, Nat.reduceLeDiff, List.reduceReplicate, reduceCtorEq, evRange, cNt, tk4, Nat.reduceLT]
  refine CallQ.imm (r_Great29 l hl hb hv he) (by rfl) (by first | rfl | (simp -dsimp (maxSteps := 9^9) (disch := first | omega | decide +kernel) only [↓bp0, bd0, bd_PP, reduceIte, Nat.reduceEqDiff, evStore, Nat.reduceAdd, Nat.reduceMul, Int.reduceEq, Int.reduceLT, Int.reduceLE, Nat.reduceLeDiff, List.reduceReplicate, reduceCtorEq, evRange, cNt, tk4, Nat.reduceLT, drcs, drc, flat]; done) | simp -dsimp [evl, drcs, drc, flat, i64, u32, bl, encL, encB, encLL]) (by first | exact .inl rfl | exact .inr rfl | exact .inr scalB | exact .inr scalI | exact .inr scalT | exact .inr scalM | exact .inr scalMT | exact .inr scalE | exact .inr scalET | exact .inr scalN | exact .inr scalNT) ?_
  cases hg : grt29 l
  case true =>
    simp -dsimp (maxSteps := 9^9) (disch := first | omega | decide +kernel) only [↓bp0, bd0, bd_PP, reduceIte, Nat.reduceEqDiff, evStore, Nat.reduceAdd, Nat.reduceMul, Int.reduceEq, Int.reduceLT, Int.reduceLE, Nat.reduceLeDiff, List.reduceReplicate, reduceCtorEq, evRange, cNt, tk4, Nat.reduceLT, retQ, resL, finL, newL, flat, tupOf, List.toList_toArray, Tryz.f7, hg]
    exact leT_one .rfl' (by simp)
  obtain ⟨hz, hn⟩ := grt29_noP hg
  try simp -dsimp (maxSteps := 9^9) (disch := first | omega | decide +kernel) only [↓bp0, bd0, bd_PP, reduceIte, Nat.reduceEqDiff, evStore, Nat.reduceAdd, Nat.reduceMul, Int.reduceEq, Int.reduceLT, Int.reduceLE, Nat.reduceLeDiff, List.reduceReplicate, reduceCtorEq, evRange, cNt, tk4, Nat.reduceLT, hg]
  refine CallQ.imm (v_long a b) (by rfl) (by first | rfl | (simp -dsimp (maxSteps := 9^9) (disch := first | omega | decide +kernel) only [↓bp0, bd0, bd_PP, reduceIte, Nat.reduceEqDiff, evStore, Nat.reduceAdd, Nat.reduceMul, Int.reduceEq, Int.reduceLT, Int.reduceLE, Nat.reduceLeDiff, List.reduceReplicate, reduceCtorEq, evRange, cNt, tk4, Nat.reduceLT, drcs, drc, flat]; done) | simp -dsimp [evl, drcs, drc, flat, i64, u32, bl, encL, encB, encLL]) (by first | exact .inl rfl | exact .inr rfl | exact .inr scalB | exact .inr scalI | exact .inr scalT | exact .inr scalM | exact .inr scalMT | exact .inr scalE | exact .inr scalET | exact .inr scalN | exact .inr scalNT) ?_
  cases c1 : decide ((100 : Int) < (a.size : Int))
  case true =>
    simp -dsimp (maxSteps := 9^9) (disch := first | omega | decide +kernel) only [↓bp0, bd0, bd_PP, reduceIte, Nat.reduceEqDiff, evStore, Nat.reduceAdd, Nat.reduceMul, Int.reduceEq, Int.reduceLT, Int.reduceLE, Nat.reduceLeDiff, List.reduceReplicate, reduceCtorEq, evRange, cNt, tk4, Nat.reduceLT, retQ, resL, finL, newL, flat, tupOf, List.toList_toArray, Tryz.f7, c1, Bool.true_or]
    exact leT_one .rfl' (by simp)
  cases c2 : decide ((100 : Int) < (b.size : Int))
  case true =>
    simp -dsimp (maxSteps := 9^9) (disch := first | omega | decide +kernel) only [↓bp0, bd0, bd_PP, reduceIte, Nat.reduceEqDiff, evStore, Nat.reduceAdd, Nat.reduceMul, Int.reduceEq, Int.reduceLT, Int.reduceLE, Nat.reduceLeDiff, List.reduceReplicate, reduceCtorEq, evRange, cNt, tk4, Nat.reduceLT, retQ, resL, finL, newL, flat, tupOf, List.toList_toArray, Tryz.f7, c1, c2, Bool.or_true]
    exact leT_one .rfl' (by simp)
  try simp -dsimp (maxSteps := 9^9) (disch := first | omega | decide +kernel) only [↓bp0, bd0, bd_PP, reduceIte, Nat.reduceEqDiff, evStore, Nat.reduceAdd, Nat.reduceMul, Int.reduceEq, Int.reduceLT, Int.reduceLE, Nat.reduceLeDiff, List.reduceReplicate, reduceCtorEq, evRange, cNt, tk4, Nat.reduceLT, c1, c2, Bool.or_false]
  refine CallQ.imm (v_Both l a b hz hn) (by rfl) (by first | rfl | (simp -dsimp (maxSteps := 9^9) (disch := first | omega | decide +kernel) only [↓bp0, bd0, bd_PP, reduceIte, Nat.reduceEqDiff, evStore, Nat.reduceAdd, Nat.reduceMul, Int.reduceEq, Int.reduceLT, Int.reduceLE, Nat.reduceLeDiff, List.reduceReplicate, reduceCtorEq, evRange, cNt, tk4, Nat.reduceLT, drcs, drc, flat]; done) | simp -dsimp [evl, drcs, drc, flat, i64, u32, bl, encL, encB, encLL]) (by first | exact .inl rfl | exact .inr rfl | exact .inr scalB | exact .inr scalI | exact .inr scalT | exact .inr scalM | exact .inr scalMT | exact .inr scalE | exact .inr scalET | exact .inr scalN | exact .inr scalNT) ?_
  cases h0 : decide (bothE l a b = 0)
  · simp -dsimp (maxSteps := 9^9) (disch := first | omega | decide +kernel) only [↓bp0, bd0, bd_PP, reduceIte, Nat.reduceEqDiff, evStore, Nat.reduceAdd, Nat.reduceMul, Int.reduceEq, Int.reduceLT, Int.reduceLE, Nat.reduceLeDiff, List.reduceReplicate, reduceCtorEq, evRange, cNt, tk4, Nat.reduceLT, retQ, resL, finL, newL, flat, tupOf, List.toList_toArray, Tryz.f7, h0]
    exact leT_one .rfl' (by simp)
  obtain ⟨va, vb, hlc⟩ := bothE_zero (of_decide_eq_true h0)
  obtain ⟨t1, t2, t3, t4, t5⟩ := turn_ok va vb
  obtain ⟨s1, s2, s3⟩ := self_ok va
  obtain ⟨_, s5, _⟩ := self_ok vb
  have hNe : (nnews l a b).1.length ≤ 2^20 := by
    rw [nnews, ldiff_of va vb]
    simp only
    rw [if_neg (by simp)]
    have := lastsF_len (f := clsI l.known) (v := evV l b) (cs := onlyL (cls0 l.known) (evV l b) (evV l a))
    have := evV_len vb
    simp only
    omega
  have k1 := n_News l a b hz
  have k2 := n_Gone l b a hz
  have k3 := n_News l a a hz
  have k4 := n_Gone l b b hz
  have k5 := n_Text l a a hz
  rw [t5] at k1
  rw [t4] at k2
  rw [s1] at k3
  rw [s5] at k4
  rw [s3] at k5
  simp only at k3 k4 k5
  generalize (nnews l a b).1 = X at hNe t2 t3 k1
  generalize (ngone l b a).1 = Y at t1 t2 t3 k2
  have hpw : Y.Pairwise fun a b => a.cls ≠ b.cls := by
    rw [List.nodup_iff_pairwise_ne, List.pairwise_map] at t1; exact t1
  have cO := v_once Y (clsN X) (by omega) (by rw [clsN, List.length_map]; exact t3) t2 hpw
  try simp -dsimp (maxSteps := 9^9) (disch := first | omega | decide +kernel) only [↓bp0, bd0, bd_PP, reduceIte, Nat.reduceEqDiff, evStore, Nat.reduceAdd, Nat.reduceMul, Int.reduceEq, Int.reduceLT, Int.reduceLE, Nat.reduceLeDiff, List.reduceReplicate, reduceCtorEq, evRange, cNt, tk4, Nat.reduceLT, h0]
  refine CallQ.imm (k1) (by rfl) (by first | rfl | (simp -dsimp (maxSteps := 9^9) (disch := first | omega | decide +kernel) only [↓bp0, bd0, bd_PP, reduceIte, Nat.reduceEqDiff, evStore, Nat.reduceAdd, Nat.reduceMul, Int.reduceEq, Int.reduceLT, Int.reduceLE, Nat.reduceLeDiff, List.reduceReplicate, reduceCtorEq, evRange, cNt, tk4, Nat.reduceLT, drcs, drc, flat]; done) | simp -dsimp [evl, drcs, drc, flat, i64, u32, bl, encL, encB, encLL]) (by first | exact .inl rfl | exact .inr rfl | exact .inr scalB | exact .inr scalI | exact .inr scalT | exact .inr scalM | exact .inr scalMT | exact .inr scalE | exact .inr scalET | exact .inr scalN | exact .inr scalNT) ?_
  try simp -dsimp (maxSteps := 9^9) (disch := first | omega | decide +kernel) only [↓bp0, bd0, bd_PP, reduceIte, Nat.reduceEqDiff, evStore, Nat.reduceAdd, Nat.reduceMul, Int.reduceEq, Int.reduceLT, Int.reduceLE, Nat.reduceLeDiff, List.reduceReplicate, reduceCtorEq, evRange, cNt, tk4, Nat.reduceLT, newNts]
  refine CallQ.imm (k2) (by rfl) (by first | rfl | (simp -dsimp (maxSteps := 9^9) (disch := first | omega | decide +kernel) only [↓bp0, bd0, bd_PP, reduceIte, Nat.reduceEqDiff, evStore, Nat.reduceAdd, Nat.reduceMul, Int.reduceEq, Int.reduceLT, Int.reduceLE, Nat.reduceLeDiff, List.reduceReplicate, reduceCtorEq, evRange, cNt, tk4, Nat.reduceLT, drcs, drc, flat]; done) | simp -dsimp [evl, drcs, drc, flat, i64, u32, bl, encL, encB, encLL]) (by first | exact .inl rfl | exact .inr rfl | exact .inr scalB | exact .inr scalI | exact .inr scalT | exact .inr scalM | exact .inr scalMT | exact .inr scalE | exact .inr scalET | exact .inr scalN | exact .inr scalNT) ?_
  try simp -dsimp (maxSteps := 9^9) (disch := first | omega | decide +kernel) only [↓bp0, bd0, bd_PP, reduceIte, Nat.reduceEqDiff, evStore, Nat.reduceAdd, Nat.reduceMul, Int.reduceEq, Int.reduceLT, Int.reduceLE, Nat.reduceLeDiff, List.reduceReplicate, reduceCtorEq, evRange, cNt, tk4, Nat.reduceLT, newNts]
  refine CallQ.imm (k3) (by rfl) (by first | rfl | (simp -dsimp (maxSteps := 9^9) (disch := first | omega | decide +kernel) only [↓bp0, bd0, bd_PP, reduceIte, Nat.reduceEqDiff, evStore, Nat.reduceAdd, Nat.reduceMul, Int.reduceEq, Int.reduceLT, Int.reduceLE, Nat.reduceLeDiff, List.reduceReplicate, reduceCtorEq, evRange, cNt, tk4, Nat.reduceLT, drcs, drc, flat]; done) | simp -dsimp [evl, drcs, drc, flat, i64, u32, bl, encL, encB, encLL]) (by first | exact .inl rfl | exact .inr rfl | exact .inr scalB | exact .inr scalI | exact .inr scalT | exact .inr scalM | exact .inr scalMT | exact .inr scalE | exact .inr scalET | exact .inr scalN | exact .inr scalNT) ?_
  try simp -dsimp (maxSteps := 9^9) (disch := first | omega | decide +kernel) only [↓bp0, bd0, bd_PP, reduceIte, Nat.reduceEqDiff, evStore, Nat.reduceAdd, Nat.reduceMul, Int.reduceEq, Int.reduceLT, Int.reduceLE, Nat.reduceLeDiff, List.reduceReplicate, reduceCtorEq, evRange, cNt, tk4, Nat.reduceLT, newNts]
  refine CallQ.imm (k4) (by rfl) (by first | rfl | (simp -dsimp (maxSteps := 9^9) (disch := first | omega | decide +kernel) only [↓bp0, bd0, bd_PP, reduceIte, Nat.reduceEqDiff, evStore, Nat.reduceAdd, Nat.reduceMul, Int.reduceEq, Int.reduceLT, Int.reduceLE, Nat.reduceLeDiff, List.reduceReplicate, reduceCtorEq, evRange, cNt, tk4, Nat.reduceLT, drcs, drc, flat]; done) | simp -dsimp [evl, drcs, drc, flat, i64, u32, bl, encL, encB, encLL]) (by first | exact .inl rfl | exact .inr rfl | exact .inr scalB | exact .inr scalI | exact .inr scalT | exact .inr scalM | exact .inr scalMT | exact .inr scalE | exact .inr scalET | exact .inr scalN | exact .inr scalNT) ?_
  try simp -dsimp (maxSteps := 9^9) (disch := first | omega | decide +kernel) only [↓bp0, bd0, bd_PP, reduceIte, Nat.reduceEqDiff, evStore, Nat.reduceAdd, Nat.reduceMul, Int.reduceEq, Int.reduceLT, Int.reduceLE, Nat.reduceLeDiff, List.reduceReplicate, reduceCtorEq, evRange, cNt, tk4, Nat.reduceLT, newNts]
  refine CallQ.imm (k5) (by rfl) (by first | rfl | (simp -dsimp (maxSteps := 9^9) (disch := first | omega | decide +kernel) only [↓bp0, bd0, bd_PP, reduceIte, Nat.reduceEqDiff, evStore, Nat.reduceAdd, Nat.reduceMul, Int.reduceEq, Int.reduceLT, Int.reduceLE, Nat.reduceLeDiff, List.reduceReplicate, reduceCtorEq, evRange, cNt, tk4, Nat.reduceLT, drcs, drc, flat]; done) | simp -dsimp [evl, drcs, drc, flat, i64, u32, bl, encL, encB, encLL]) (by first | exact .inl rfl | exact .inr rfl | exact .inr scalB | exact .inr scalI | exact .inr scalT | exact .inr scalM | exact .inr scalMT | exact .inr scalE | exact .inr scalET | exact .inr scalN | exact .inr scalNT) ?_
  try simp -dsimp (maxSteps := 9^9) (disch := first | omega | decide +kernel) only [↓bp0, bd0, bd_PP, reduceIte, Nat.reduceEqDiff, evStore, Nat.reduceAdd, Nat.reduceMul, Int.reduceEq, Int.reduceLT, Int.reduceLE, Nat.reduceLeDiff, List.reduceReplicate, reduceCtorEq, evRange, cNt, tk4, Nat.reduceLT]
  refine LoopQ.ghost 18 1 (by rfl) ?_
  refine LoopQ.rule (fun m st => ∃ (i id ver nx : Nat), i ≤ X.length ∧ 1 ≤ id ∧ id < nx ∧ m = X.length - i ∧
    st = ⟨mkE [(7, bl true), (8, encNts X), (9, i64 0), (10, encNts Y), (11, i64 0), (12, encNts []), (13, i64 0), (14, encNts []), (15, i64 0), (16, str ⟨#[]⟩), (17, i64 0), (18, .own id ver 0 i false), (19, i64 i)],
      mkS [(id, .row ver 1 (((clsN X).take i).map fun n => [i64 n]) false)], nx⟩) _ _ (weak_of ?_)
    ⟨0, 1, 0, 2, by omega, by omega, by omega, rfl, rfl⟩ ?_
  · first | (simp -dsimp (maxSteps := 9^9) (disch := first | omega | decide +kernel) only [↓bp0, bd0, bd_PP, reduceIte, Nat.reduceEqDiff, evStore, Nat.reduceAdd, Nat.reduceMul, Int.reduceEq, Int.reduceLT, Int.reduceLE, Nat.reduceLeDiff, List.reduceReplicate, reduceCtorEq, evRange, cNt, tk4, Nat.reduceLT, ghR, encNts, List.take_zero, List.map_nil]; done) | simp -dsimp [evl, putN, i64, u32, bl, encL, encB, encLL, ghR, encNts, List.take_zero, List.map_nil]
  rintro m st ⟨i, id, ver, nx, hi, hid1, hid, rfl, rfl⟩
  have hE1_0a : (id = 0) = False := by simp; omega
  have hE1_0b : (0 = id) = False := by simp; omega
  have hE1_1a : (id = nx) = False := by simp; omega
  have hE1_1b : (nx = id) = False := by simp; omega
  try simp -dsimp (maxSteps := 9^9) (disch := first | omega | decide +kernel) only [↓bp0, bd0, bd_PP, reduceIte, Nat.reduceEqDiff, evStore, Nat.reduceAdd, Nat.reduceMul, Int.reduceEq, Int.reduceLT, Int.reduceLE, Nat.reduceLeDiff, List.reduceReplicate, reduceCtorEq, evRange, cNt, tk4, Nat.reduceLT, encNts, List.length_map, hE1_0a, hE1_0b, hE1_1a, hE1_1b]
  refine onC_nlt (fun h2 => ?_) (fun h2 => ?_)
  · obtain ⟨x, hx, hxm⟩ := get_of_lt h2
    have hc : (clsN X)[i]? = some x.cls := by simp [clsN, hx]
    have hts := take_succ hc
    have hbd : (i + 1) * 8 ≤ 140737488355328 := by omega
    have hlt : ((clsN X).take i).length = i := by rw [List.length_take, clsN, List.length_map]; omega
    try simp -dsimp (maxSteps := 9^9) (disch := first | omega | decide +kernel) only [↓bp0, bd0, bd_PP, reduceIte, Nat.reduceEqDiff, evStore, Nat.reduceAdd, Nat.reduceMul, Int.reduceEq, Int.reduceLT, Int.reduceLE, Nat.reduceLeDiff, List.reduceReplicate, reduceCtorEq, evRange, cNt, tk4, Nat.reduceLT, hx, encNts, hbd, hlt, hE1_0a, hE1_0b, hE1_1a, hE1_1b]
    refine ⟨_, _, ?_, weak_of ?_, i + 1, id, ver + 1, nx + 1, h2, hid1, by omega, rfl, rfl⟩
    · omega
    · first | (simp -dsimp (maxSteps := 9^9) (disch := first | omega | decide +kernel) only [↓bp0, bd0, bd_PP, reduceIte, Nat.reduceEqDiff, evStore, Nat.reduceAdd, Nat.reduceMul, Int.reduceEq, Int.reduceLT, Int.reduceLE, Nat.reduceLeDiff, List.reduceReplicate, reduceCtorEq, evRange, cNt, tk4, Nat.reduceLT, hE1_0a, hE1_0b, hE1_1a, hE1_1b, encNts, wrapS h2 (show X.length ≤ 9223372036854775807 by omega), hts, List.map_append, List.map_cons, List.map_nil]; done) | simp -dsimp [evl, putN, i64, u32, bl, encL, encB, encLL, hE1_0a, hE1_0b, hE1_1a, hE1_1b, encNts, wrapS h2 (show X.length ≤ 9223372036854775807 by omega), hts, List.map_append, List.map_cons, List.map_nil]
  · have hil : i = X.length := by omega
    subst hil
    have hcl : (clsN X).length = X.length := by rw [clsN, List.length_map]
    have htl : (clsN X).take X.length = clsN X := List.take_of_length_le (by omega)
    have hT : List.take X.length ((clsN X).map fun n => [PV.lit (.int .i64 n)]) = (clsN X).map fun n => [PV.lit (.int .i64 n)] := List.take_of_length_le (by simp [hcl])
    rw [htl]
    try simp -dsimp (maxSteps := 9^9) (disch := first | omega | decide +kernel) only [↓bp0, bd0, bd_PP, reduceIte, Nat.reduceEqDiff, evStore, Nat.reduceAdd, Nat.reduceMul, Int.reduceEq, Int.reduceLT, Int.reduceLE, Nat.reduceLeDiff, List.reduceReplicate, reduceCtorEq, evRange, cNt, tk4, Nat.reduceLT, encNts, List.length_map, hE1_0a, hE1_0b, hE1_1a, hE1_1b]
    refine CallQ.imm (cO) (by rfl) (by first | rfl | (simp -dsimp (maxSteps := 9^9) (disch := first | omega | decide +kernel) only [↓bp0, bd0, bd_PP, reduceIte, Nat.reduceEqDiff, evStore, Nat.reduceAdd, Nat.reduceMul, Int.reduceEq, Int.reduceLT, Int.reduceLE, Nat.reduceLeDiff, List.reduceReplicate, reduceCtorEq, evRange, cNt, tk4, Nat.reduceLT, drcs, drc, flat, encNts, encL, hT, hcl, List.length_map, List.drop_zero, hE1_0a, hE1_0b, hE1_1a, hE1_1b]; done) | simp -dsimp [evl, drcs, drc, flat, i64, u32, bl, encL, encB, encLL]) (by first | exact .inl rfl | exact .inr rfl | exact .inr scalB | exact .inr scalI | exact .inr scalT | exact .inr scalM | exact .inr scalMT | exact .inr scalE | exact .inr scalET | exact .inr scalN | exact .inr scalNT) ?_
    simp -dsimp (maxSteps := 9^9) (disch := first | omega | decide +kernel) only [↓bp0, bd0, bd_PP, reduceIte, Nat.reduceEqDiff, evStore, Nat.reduceAdd, Nat.reduceMul, Int.reduceEq, Int.reduceLT, Int.reduceLE, Nat.reduceLeDiff, List.reduceReplicate, reduceCtorEq, evRange, cNt, tk4, Nat.reduceLT, retQ, resL, finL, newL, flat, tupOf, List.toList_toArray, Tryz.f7, decide_true, encNts, List.length_nil, List.map_nil, hE1_0a, hE1_0b, hE1_1a, hE1_1b]
    exact leT_one .rfl' (by simp)
end Go.Ab
end
