/- The law's helpers of notes; the chapter's example. -/
import Derived.Test.YtgcodedanljhpaaGreatDoorPM
import Derived.Test.YtgcodedanljhpaaGreatDoorMH
import Derived.Test.YtgcodedanljhpaaGreatDoorLX
import Derived.Test.YtgcodedanljhpaaGreatDoorAcAgg
set_option linter.unusedSimpArgs false
set_option linter.unusedVariables false
section
set_option maxRecDepth 1000000
set_option maxHeartbeats 8000000
namespace Go.Ab
open Go Go.Proofs Go.Sort
theorem bd_PN : type_of% (And.intro @evNext.eq_1 (And.intro @fld (And.intro @nit (And.intro @nxE (And.intro @ghR (And.intro @ovR (And.intro @evBin_seql (And.intro @evBin_sneq (And.intro @str.eq_1 (And.intro @u8.eq_1 (And.intro @encBrs.eq_1 (And.intro @cBr.eq_1 (And.intro @encLdg.eq_1 (And.intro @encKws.eq_1 (And.intro @cKw.eq_1 (And.intro @encEvss.eq_1 (And.intro @encEvs.eq_1 (And.intro @cEv.eq_1 (And.intro @encMks.eq_1 (And.intro @cMk.eq_1 (And.intro @encStrs.eq_1 (And.intro @tk2 (And.intro @tk3 (And.intro @List.set_cons_succ.{0} (And.intro @List.getElem?_cons_zero.{0} (And.intro @List.getElem?_cons_succ.{0} (@List.length_set.{0}))))))))))))))))))))))))))) := And.intro @evNext.eq_1 (And.intro @fld (And.intro @nit (And.intro @nxE (And.intro @ghR (And.intro @ovR (And.intro @evBin_seql (And.intro @evBin_sneq (And.intro @str.eq_1 (And.intro @u8.eq_1 (And.intro @encBrs.eq_1 (And.intro @cBr.eq_1 (And.intro @encLdg.eq_1 (And.intro @encKws.eq_1 (And.intro @cKw.eq_1 (And.intro @encEvss.eq_1 (And.intro @encEvs.eq_1 (And.intro @cEv.eq_1 (And.intro @encMks.eq_1 (And.intro @cMk.eq_1 (And.intro @encStrs.eq_1 (And.intro @tk2 (And.intro @tk3 (And.intro @List.set_cons_succ.{0} (And.intro @List.getElem?_cons_zero.{0} (And.intro @List.getElem?_cons_succ.{0} (@List.length_set.{0}))))))))))))))))))))))))))
def sMn : Str := ⟨#[109, 97, 105, 110]⟩
def sRo : Str := ⟨#[114, 49]⟩
def sFix : Str := ⟨#[102, 105, 120]⟩
def sDocs : Str := ⟨#[100, 111, 99, 115]⟩
def sOther : Str := ⟨#[111, 116, 104, 101, 114]⟩
def gvL : Ldg := ⟨[⟨sFix, 3⟩, ⟨sDocs, 0⟩, ⟨sOther, 5⟩], [⟨sMn, ⟨#[]⟩, 0⟩, ⟨sRo, sMn, 1⟩], [[⟨1, sFix⟩, ⟨1, sDocs⟩], [⟨3, sFix⟩, ⟨1, sOther⟩]]⟩
def gvN : List Nt := [⟨5, sOther, 1, 2⟩]
def gvG : List Nt := [⟨0, sDocs, 1, -1⟩, ⟨3, sFix, 3, 1⟩]
theorem gv_sz : LSz gvL := ⟨by decide, by decide, by decide, by intro s hs; simp only [gvL, List.mem_cons, List.not_mem_nil, or_false] at hs; rcases hs with rfl | rfl <;> decide⟩
theorem gv_diff : ldiff gvL sMn sRo = ([0, 3], [5], 0) := by kernel_rfl
theorem gv_news : nnews gvL sMn sRo = (gvN, 0) := by kernel_rfl
theorem gv_gone0 : goneO (clsI gvL.known) (evV gvL sMn) (evV gvL sRo) [0, 3] = [⟨0, sDocs, 1, -1⟩] := by kernel_rfl
theorem gv_gone1 : lastsF (clsI gvL.known) (evV gvL sRo) [0, 3] = [⟨3, sFix, 3, 1⟩] := by kernel_rfl
theorem srtN_one (n : Nt) : srtN [n] = [n] := by
  have : srtA [n] (List.finRange 1) = List.finRange 1 := by
    have e : List.finRange 1 = [0] := rfl
    rw [e]; simp [srtA]
  unfold srtN
  rw [show List.finRange [n].length = List.finRange 1 from rfl, this]
  rfl
theorem gv_gone : ngone gvL sMn sRo = (gvG, 0) := by
  rw [ngone, gv_diff]
  simp only
  rw [if_neg (by simp), gv_gone0, gv_gone1, srtN_one]; rfl
theorem gv_text : ntext gvL sMn sRo = (⟨#[99, 97, 109, 101, 32, 53, 32, 111, 116, 104, 101, 114, 32, 108, 97, 110, 100, 10, 119, 101, 110, 116, 32, 48, 32, 100, 111, 99, 115, 10, 119, 101, 110, 116, 32, 51, 32, 102, 105, 120, 32, 114, 101, 118, 101, 114, 116, 10]⟩, 0) := by
  rw [ntext, gv_diff, gv_news, gv_gone]
  simp only
  rw [if_neg (by simp)]
  congr 1
theorem bKw : ∀ a b, evBuild cx 138 [(0, .lit a), (1, .lit b)] = some (.agg [.lit a, .lit b]) := fun _ _ => by kernel_rfl
theorem bEv : ∀ a b, evBuild cx 61 [(0, .lit a), (1, .lit b)] = some (.agg [.lit a, .lit b]) := fun _ _ => by kernel_rfl
theorem bBr1 : ∀ a, evBuild cx 51 [(0, .lit a)] = some (.agg [.lit a, .lit (.string ⟨#[]⟩), .lit (.int .i64 0)]) := fun _ => by kernel_rfl
theorem bBr3 : ∀ a b c, evBuild cx 51 [(0, .lit a), (1, .lit b), (2, .lit c)] = some (.agg [.lit a, .lit b, .lit c]) := fun _ _ _ => by kernel_rfl
theorem bLdg : ∀ i v o n c i' v' o' n' c' i2 v2 o2 n2 c2, evBuild cx 26 [(0, .own i v o n c), (1, .own i' v' o' n' c'), (2, .own i2 v2 o2 n2 c2)] = some (.agg [.own i v o n c, .own i' v' o' n' c', .own i2 v2 o2 n2 c2]) := fun _ _ _ _ _ _ _ _ _ _ _ _ _ _ _ => by kernel_rfl
theorem v_given : CallSpec cx 84 [] (encLdg gvL) := by
  refine callSpec_of_vc Tryz.func84 rfl (by decide) (by kernel_rfl) (Nat.le_of_ble_eq_true rfl) ?_
  simp -dsimp (maxSteps := 9^9) (disch := first | omega | decide +kernel) only [↓bp0, bd0, bd_PN, reduceIte, Nat.reduceEqDiff, evStore, Nat.reduceAdd, Nat.reduceMul, Int.reduceEq, Int.reduceLT, Int.reduceLE, Nat.reduceLeDiff, List.reduceReplicate, reduceCtorEq, evRange, cNt, tk4, Nat.reduceLT, retQ, resL, finL, newL, flat, tupOf, List.toList_toArray, Tryz.f84, PV.cellsP, Bool.and_false, drcs, drc, dr1, dr1s, drRows, bKw, bBr1, bBr3, bEv, bLdg]
  exact leT_one (.inl (.inl rfl)) (fun _ h => by cases h)
theorem r_SameN (g : List Nt) (hg : g.length ≤ 9223372036854775807) (h : ∀ n ∈ g, ∀ x y, evBin cx .neq 81 x y (.agg [.lit (.int .i64 n.cls), .lit (.string n.chg), .lit (.int .u8 n.kind), .lit (.int .i64 n.pl)]) (.agg [.lit (.int .i64 n.cls), .lit (.string n.chg), .lit (.int .u8 n.kind), .lit (.int .i64 n.pl)]) = some (.lit (.bool false))) : CallSpec cx 50 [encNts g, encNts g] (bl true) := by
  refine callSpec_of_vc Tryz.func50 rfl (by decide) (by kernel_rfl) (Nat.le_of_ble_eq_true rfl) ?_
  try simp -dsimp (maxSteps := 9^9) (disch := first | omega | decide +kernel) only [↓bp0, bd0, bd_PN, reduceIte, Nat.reduceEqDiff, evStore, Nat.reduceAdd, Nat.reduceMul, Int.reduceEq, Int.reduceLT, Int.reduceLE, Nat.reduceLeDiff, List.reduceReplicate, reduceCtorEq, evRange, cNt, tk4, Nat.reduceLT, Tryz.f50, encNts, List.length_map]
  refine LoopQ.rule (fun m st => ∃ (i : Nat), i ≤ g.length ∧ m = g.length - i ∧
    st = ⟨mkE [(0, encNts g), (1, encNts g), (5, i64 i)], mkS [], 0⟩) _ _ (weak_of ?_)
    ⟨0, by omega, rfl, rfl⟩ ?_
  · first | (simp -dsimp (maxSteps := 9^9) (disch := first | omega | decide +kernel) only [↓bp0, bd0, bd_PN, reduceIte, Nat.reduceEqDiff, evStore, Nat.reduceAdd, Nat.reduceMul, Int.reduceEq, Int.reduceLT, Int.reduceLE, Nat.reduceLeDiff, List.reduceReplicate, reduceCtorEq, evRange, cNt, tk4, Nat.reduceLT, encNts]; done) | simp -dsimp [evl, putN, i64, u32, bl, encL, encB, encLL, encNts]
  rintro m st ⟨i, hi, rfl, rfl⟩
  try simp -dsimp (maxSteps := 9^9) (disch := first | omega | decide +kernel) only [↓bp0, bd0, bd_PN, reduceIte, Nat.reduceEqDiff, evStore, Nat.reduceAdd, Nat.reduceMul, Int.reduceEq, Int.reduceLT, Int.reduceLE, Nat.reduceLeDiff, List.reduceReplicate, reduceCtorEq, evRange, cNt, tk4, Nat.reduceLT, encNts, List.length_map]
  refine onC_nlt (fun h2 => ?_) (fun h2 => ?_)
  · obtain ⟨a, hx, hxm⟩ := get_of_lt h2
    have hq := fun x y => h a hxm x y
    try simp -dsimp (maxSteps := 9^9) (disch := first | omega | decide +kernel) only [↓bp0, bd0, bd_PN, reduceIte, Nat.reduceEqDiff, evStore, Nat.reduceAdd, Nat.reduceMul, Int.reduceEq, Int.reduceLT, Int.reduceLE, Nat.reduceLeDiff, List.reduceReplicate, reduceCtorEq, evRange, cNt, tk4, Nat.reduceLT, hx, encNts, hq]
    refine ⟨_, _, ?_, weak_of ?_, i + 1, h2, rfl, rfl⟩
    · omega
    · first | (simp -dsimp (maxSteps := 9^9) (disch := first | omega | decide +kernel) only [↓bp0, bd0, bd_PN, reduceIte, Nat.reduceEqDiff, evStore, Nat.reduceAdd, Nat.reduceMul, Int.reduceEq, Int.reduceLT, Int.reduceLE, Nat.reduceLeDiff, List.reduceReplicate, reduceCtorEq, evRange, cNt, tk4, Nat.reduceLT, wrapS h2 hg, encNts]; done) | simp -dsimp [evl, putN, i64, u32, bl, encL, encB, encLL, wrapS h2 hg, encNts]
  · simp -dsimp (maxSteps := 9^9) (disch := first | omega | decide +kernel) only [↓bp0, bd0, bd_PN, reduceIte, Nat.reduceEqDiff, evStore, Nat.reduceAdd, Nat.reduceMul, Int.reduceEq, Int.reduceLT, Int.reduceLE, Nat.reduceLeDiff, List.reduceReplicate, reduceCtorEq, evRange, cNt, tk4, Nat.reduceLT, retQ, resL, finL, newL, flat, tupOf, List.toList_toArray, Tryz.f50]
    exact leT_one .rfl' (by simp)
theorem gvN_eq : CallSpec cx 50 [encNts gvN, encNts gvN] (bl true) := r_SameN gvN (by decide) fun n hn x y => by
  simp only [gvN, List.mem_cons, List.not_mem_nil, or_false] at hn
  subst hn
  kernel_rfl
theorem gvG_eq : CallSpec cx 50 [encNts gvG, encNts gvG] (bl true) := r_SameN gvG (by decide) fun n hn x y => by
  simp only [gvG, List.mem_cons, List.not_mem_nil, or_false] at hn
  rcases hn with rfl | rfl
  · kernel_rfl
  · kernel_rfl
theorem v_long (a b : Str) : CallSpec cx 33 [str a, str b] (bl (decide ((100 : Int) < (a.size : Int)) || decide ((100 : Int) < (b.size : Int)))) := by
  refine callSpec_of_vc Tryz.func33 rfl (by decide) (by kernel_rfl) (Nat.le_of_ble_eq_true rfl) ?_
  cases c1 : decide ((100 : Int) < (a.size : Int))
  all_goals cases c2 : decide ((100 : Int) < (b.size : Int))
  all_goals
    simp -dsimp (maxSteps := 9^9) (disch := first | omega | decide +kernel) only [↓bp0, bd0, bd_PN, reduceIte, Nat.reduceEqDiff, evStore, Nat.reduceAdd, Nat.reduceMul, Int.reduceEq, Int.reduceLT, Int.reduceLE, Nat.reduceLeDiff, List.reduceReplicate, reduceCtorEq, evRange, cNt, tk4, Nat.reduceLT, retQ, resL, finL, newL, flat, tupOf, List.toList_toArray, Tryz.f33, c1, c2]
    exact leT_one (le1.rfl' (p := bl _)) (fun _ h => by cases h)
def bothE (l : Ldg) (a b : Str) : Int := if lchk l ≠ 0 then lchk l else if idx l.brs a < 0 ∨ idx l.brs b < 0 then 6 else 0
theorem v_Both (l : Ldg) (a b : Str) (hz : LSz l) (hn : LNm l) : CallSpec cx 34 [encLdg l, str a, str b] (i64 (bothE l a b)) := by
  refine callSpec_of_vc Tryz.func34 rfl (by decide) (by kernel_rfl) (Nat.le_of_ble_eq_true rfl) ?_
  try simp -dsimp (maxSteps := 9^9) (disch := first | omega | decide +kernel) only [↓bp0, bd0, bd_PN, reduceIte, Nat.reduceEqDiff, evStore, Nat.reduceAdd, Nat.reduceMul, Int.reduceEq, Int.reduceLT, Int.reduceLE, Nat.reduceLeDiff, List.reduceReplicate, reduceCtorEq, evRange, cNt, tk4, Nat.reduceLT, Tryz.f34]
  refine CallQ.imm (r_lCheck l hz hn) (by rfl) (by first | rfl | (simp -dsimp (maxSteps := 9^9) (disch := first | omega | decide +kernel) only [↓bp0, bd0, bd_PN, reduceIte, Nat.reduceEqDiff, evStore, Nat.reduceAdd, Nat.reduceMul, Int.reduceEq, Int.reduceLT, Int.reduceLE, Nat.reduceLeDiff, List.reduceReplicate, reduceCtorEq, evRange, cNt, tk4, Nat.reduceLT, drcs, drc, flat]; done) | simp -dsimp [evl, drcs, drc, flat, i64, u32, bl, encL, encB, encLL]) (by first | exact .inl rfl | exact .inr rfl | exact .inr scalB | exact .inr scalI | exact .inr scalT | exact .inr scalM | exact .inr scalMT | exact .inr scalE | exact .inr scalET | exact .inr scalN | exact .inr scalNT) ?_
  cases h0 : decide (lchk l = 0)
  · have h0' := of_decide_eq_false h0
    simp -dsimp (maxSteps := 9^9) (disch := first | omega | decide +kernel) only [↓bp0, bd0, bd_PN, reduceIte, Nat.reduceEqDiff, evStore, Nat.reduceAdd, Nat.reduceMul, Int.reduceEq, Int.reduceLT, Int.reduceLE, Nat.reduceLeDiff, List.reduceReplicate, reduceCtorEq, evRange, cNt, tk4, Nat.reduceLT, retQ, resL, finL, newL, flat, tupOf, List.toList_toArray, Tryz.f34, h0]
    rw [bothE, if_pos h0']
    exact leT_one (le1.rfl' (p := i64 _)) (fun _ h => by cases h)
  have h0' := of_decide_eq_true h0
  rw [bothE, if_neg (by rw [Decidable.not_not]; exact h0')]
  have hbl : l.brs.length ≤ 9223372036854775807 := by have := hz.brs; omega
  try simp -dsimp (maxSteps := 9^9) (disch := first | omega | decide +kernel) only [↓bp0, bd0, bd_PN, reduceIte, Nat.reduceEqDiff, evStore, Nat.reduceAdd, Nat.reduceMul, Int.reduceEq, Int.reduceLT, Int.reduceLE, Nat.reduceLeDiff, List.reduceReplicate, reduceCtorEq, evRange, cNt, tk4, Nat.reduceLT, h0]
  refine CallQ.imm (r_Index l.brs a hbl) (by rfl) (by first | rfl | (simp -dsimp (maxSteps := 9^9) (disch := first | omega | decide +kernel) only [↓bp0, bd0, bd_PN, reduceIte, Nat.reduceEqDiff, evStore, Nat.reduceAdd, Nat.reduceMul, Int.reduceEq, Int.reduceLT, Int.reduceLE, Nat.reduceLeDiff, List.reduceReplicate, reduceCtorEq, evRange, cNt, tk4, Nat.reduceLT, drcs, drc, flat]; done) | simp -dsimp [evl, drcs, drc, flat, i64, u32, bl, encL, encB, encLL]) (by first | exact .inl rfl | exact .inr rfl | exact .inr scalB | exact .inr scalI | exact .inr scalT | exact .inr scalM | exact .inr scalMT | exact .inr scalE | exact .inr scalET | exact .inr scalN | exact .inr scalNT) ?_
  cases h1 : decide (idx l.brs a < 0)
  case true =>
    simp -dsimp (maxSteps := 9^9) (disch := first | omega | decide +kernel) only [↓bp0, bd0, bd_PN, reduceIte, Nat.reduceEqDiff, evStore, Nat.reduceAdd, Nat.reduceMul, Int.reduceEq, Int.reduceLT, Int.reduceLE, Nat.reduceLeDiff, List.reduceReplicate, reduceCtorEq, evRange, cNt, tk4, Nat.reduceLT, retQ, resL, finL, newL, flat, tupOf, List.toList_toArray, Tryz.f34, h1]
    rw [if_pos (.inl (of_decide_eq_true h1))]
    exact leT_one (le1.rfl' (p := i64 _)) (fun _ h => by cases h)
  try simp -dsimp (maxSteps := 9^9) (disch := first | omega | decide +kernel) only [↓bp0, bd0, bd_PN, reduceIte, Nat.reduceEqDiff, evStore, Nat.reduceAdd, Nat.reduceMul, Int.reduceEq, Int.reduceLT, Int.reduceLE, Nat.reduceLeDiff, List.reduceReplicate, reduceCtorEq, evRange, cNt, tk4, Nat.reduceLT, h1]
  refine CallQ.imm (r_Index l.brs b hbl) (by rfl) (by first | rfl | (simp -dsimp (maxSteps := 9^9) (disch := first | omega | decide +kernel) only [↓bp0, bd0, bd_PN, reduceIte, Nat.reduceEqDiff, evStore, Nat.reduceAdd, Nat.reduceMul, Int.reduceEq, Int.reduceLT, Int.reduceLE, Nat.reduceLeDiff, List.reduceReplicate, reduceCtorEq, evRange, cNt, tk4, Nat.reduceLT, drcs, drc, flat]; done) | simp -dsimp [evl, drcs, drc, flat, i64, u32, bl, encL, encB, encLL]) (by first | exact .inl rfl | exact .inr rfl | exact .inr scalB | exact .inr scalI | exact .inr scalT | exact .inr scalM | exact .inr scalMT | exact .inr scalE | exact .inr scalET | exact .inr scalN | exact .inr scalNT) ?_
  cases h2 : decide (idx l.brs b < 0)
  · simp -dsimp (maxSteps := 9^9) (disch := first | omega | decide +kernel) only [↓bp0, bd0, bd_PN, reduceIte, Nat.reduceEqDiff, evStore, Nat.reduceAdd, Nat.reduceMul, Int.reduceEq, Int.reduceLT, Int.reduceLE, Nat.reduceLeDiff, List.reduceReplicate, reduceCtorEq, evRange, cNt, tk4, Nat.reduceLT, retQ, resL, finL, newL, flat, tupOf, List.toList_toArray, Tryz.f34, h1, h2]
    rw [if_neg (by rw [not_or]; exact ⟨of_decide_eq_false h1, of_decide_eq_false h2⟩)]
    exact leT_one (le1.rfl' (p := i64 _)) (fun _ h => by cases h)
  · simp -dsimp (maxSteps := 9^9) (disch := first | omega | decide +kernel) only [↓bp0, bd0, bd_PN, reduceIte, Nat.reduceEqDiff, evStore, Nat.reduceAdd, Nat.reduceMul, Int.reduceEq, Int.reduceLT, Int.reduceLE, Nat.reduceLeDiff, List.reduceReplicate, reduceCtorEq, evRange, cNt, tk4, Nat.reduceLT, retQ, resL, finL, newL, flat, tupOf, List.toList_toArray, Tryz.f34, h1, h2]
    rw [if_pos (.inr (of_decide_eq_true h2))]
    exact leT_one (le1.rfl' (p := i64 _)) (fun _ h => by cases h)
theorem v_alive : CallSpec cx 31 [] (bl true) := by
  have c1 := n_News gvL sMn sRo gv_sz
  have c2 := n_Gone gvL sMn sRo gv_sz
  have c3 := n_Text gvL sMn sRo gv_sz
  rw [gv_news] at c1
  rw [gv_gone] at c2
  rw [gv_text] at c3
  simp only at c1 c2 c3
  refine callSpec_of_vc Tryz.func31 rfl (by decide) (by kernel_rfl) (Nat.le_of_ble_eq_true rfl) ?_
  try simp -dsimp (maxSteps := 9^9) (disch := first | omega | decide +kernel) only [↓bp0, bd0, bd_PN, reduceIte, Nat.reduceEqDiff, evStore, Nat.reduceAdd, Nat.reduceMul, Int.reduceEq, Int.reduceLT, Int.reduceLE, Nat.reduceLeDiff, List.reduceReplicate, reduceCtorEq, evRange, cNt, tk4, Nat.reduceLT, Tryz.f31]
  refine CallQ.imm (v_given) (by rfl) (by first | rfl | (simp -dsimp (maxSteps := 9^9) (disch := first | omega | decide +kernel) only [↓bp0, bd0, bd_PN, reduceIte, Nat.reduceEqDiff, evStore, Nat.reduceAdd, Nat.reduceMul, Int.reduceEq, Int.reduceLT, Int.reduceLE, Nat.reduceLeDiff, List.reduceReplicate, reduceCtorEq, evRange, cNt, tk4, Nat.reduceLT, drcs, drc, flat]; done) | simp -dsimp [evl, drcs, drc, flat, i64, u32, bl, encL, encB, encLL]) (by first | exact .inl rfl | exact .inr rfl | exact .inr scalB | exact .inr scalI | exact .inr scalT | exact .inr scalM | exact .inr scalMT | exact .inr scalE | exact .inr scalET | exact .inr scalN | exact .inr scalNT) ?_
  try simp -dsimp (maxSteps := 9^9) (disch := first | omega | decide +kernel) only [↓bp0, bd0, bd_PN, reduceIte, Nat.reduceEqDiff, evStore, Nat.reduceAdd, Nat.reduceMul, Int.reduceEq, Int.reduceLT, Int.reduceLE, Nat.reduceLeDiff, List.reduceReplicate, reduceCtorEq, evRange, cNt, tk4, Nat.reduceLT]
  refine CallQ.imm (c1) (by rfl) (by first | rfl | (simp -dsimp (maxSteps := 9^9) (disch := first | omega | decide +kernel) only [↓bp0, bd0, bd_PN, reduceIte, Nat.reduceEqDiff, evStore, Nat.reduceAdd, Nat.reduceMul, Int.reduceEq, Int.reduceLT, Int.reduceLE, Nat.reduceLeDiff, List.reduceReplicate, reduceCtorEq, evRange, cNt, tk4, Nat.reduceLT, drcs, drc, flat]; done) | simp -dsimp [evl, drcs, drc, flat, i64, u32, bl, encL, encB, encLL]) (by first | exact .inl rfl | exact .inr rfl | exact .inr scalB | exact .inr scalI | exact .inr scalT | exact .inr scalM | exact .inr scalMT | exact .inr scalE | exact .inr scalET | exact .inr scalN | exact .inr scalNT) ?_
  try simp -dsimp (maxSteps := 9^9) (disch := first | omega | decide +kernel) only [↓bp0, bd0, bd_PN, reduceIte, Nat.reduceEqDiff, evStore, Nat.reduceAdd, Nat.reduceMul, Int.reduceEq, Int.reduceLT, Int.reduceLE, Nat.reduceLeDiff, List.reduceReplicate, reduceCtorEq, evRange, cNt, tk4, Nat.reduceLT, newNts]
  refine CallQ.imm (v_given) (by rfl) (by first | rfl | (simp -dsimp (maxSteps := 9^9) (disch := first | omega | decide +kernel) only [↓bp0, bd0, bd_PN, reduceIte, Nat.reduceEqDiff, evStore, Nat.reduceAdd, Nat.reduceMul, Int.reduceEq, Int.reduceLT, Int.reduceLE, Nat.reduceLeDiff, List.reduceReplicate, reduceCtorEq, evRange, cNt, tk4, Nat.reduceLT, drcs, drc, flat]; done) | simp -dsimp [evl, drcs, drc, flat, i64, u32, bl, encL, encB, encLL]) (by first | exact .inl rfl | exact .inr rfl | exact .inr scalB | exact .inr scalI | exact .inr scalT | exact .inr scalM | exact .inr scalMT | exact .inr scalE | exact .inr scalET | exact .inr scalN | exact .inr scalNT) ?_
  try simp -dsimp (maxSteps := 9^9) (disch := first | omega | decide +kernel) only [↓bp0, bd0, bd_PN, reduceIte, Nat.reduceEqDiff, evStore, Nat.reduceAdd, Nat.reduceMul, Int.reduceEq, Int.reduceLT, Int.reduceLE, Nat.reduceLeDiff, List.reduceReplicate, reduceCtorEq, evRange, cNt, tk4, Nat.reduceLT]
  refine CallQ.imm (c2) (by rfl) (by first | rfl | (simp -dsimp (maxSteps := 9^9) (disch := first | omega | decide +kernel) only [↓bp0, bd0, bd_PN, reduceIte, Nat.reduceEqDiff, evStore, Nat.reduceAdd, Nat.reduceMul, Int.reduceEq, Int.reduceLT, Int.reduceLE, Nat.reduceLeDiff, List.reduceReplicate, reduceCtorEq, evRange, cNt, tk4, Nat.reduceLT, drcs, drc, flat]; done) | simp -dsimp [evl, drcs, drc, flat, i64, u32, bl, encL, encB, encLL]) (by first | exact .inl rfl | exact .inr rfl | exact .inr scalB | exact .inr scalI | exact .inr scalT | exact .inr scalM | exact .inr scalMT | exact .inr scalE | exact .inr scalET | exact .inr scalN | exact .inr scalNT) ?_
  try simp -dsimp (maxSteps := 9^9) (disch := first | omega | decide +kernel) only [↓bp0, bd0, bd_PN, reduceIte, Nat.reduceEqDiff, evStore, Nat.reduceAdd, Nat.reduceMul, Int.reduceEq, Int.reduceLT, Int.reduceLE, Nat.reduceLeDiff, List.reduceReplicate, reduceCtorEq, evRange, cNt, tk4, Nat.reduceLT, newNts]
  refine CallQ.imm (v_given) (by rfl) (by first | rfl | (simp -dsimp (maxSteps := 9^9) (disch := first | omega | decide +kernel) only [↓bp0, bd0, bd_PN, reduceIte, Nat.reduceEqDiff, evStore, Nat.reduceAdd, Nat.reduceMul, Int.reduceEq, Int.reduceLT, Int.reduceLE, Nat.reduceLeDiff, List.reduceReplicate, reduceCtorEq, evRange, cNt, tk4, Nat.reduceLT, drcs, drc, flat]; done) | simp -dsimp [evl, drcs, drc, flat, i64, u32, bl, encL, encB, encLL]) (by first | exact .inl rfl | exact .inr rfl | exact .inr scalB | exact .inr scalI | exact .inr scalT | exact .inr scalM | exact .inr scalMT | exact .inr scalE | exact .inr scalET | exact .inr scalN | exact .inr scalNT) ?_
  try simp -dsimp (maxSteps := 9^9) (disch := first | omega | decide +kernel) only [↓bp0, bd0, bd_PN, reduceIte, Nat.reduceEqDiff, evStore, Nat.reduceAdd, Nat.reduceMul, Int.reduceEq, Int.reduceLT, Int.reduceLE, Nat.reduceLeDiff, List.reduceReplicate, reduceCtorEq, evRange, cNt, tk4, Nat.reduceLT]
  refine CallQ.imm (c3) (by rfl) (by first | rfl | (simp -dsimp (maxSteps := 9^9) (disch := first | omega | decide +kernel) only [↓bp0, bd0, bd_PN, reduceIte, Nat.reduceEqDiff, evStore, Nat.reduceAdd, Nat.reduceMul, Int.reduceEq, Int.reduceLT, Int.reduceLE, Nat.reduceLeDiff, List.reduceReplicate, reduceCtorEq, evRange, cNt, tk4, Nat.reduceLT, drcs, drc, flat]; done) | simp -dsimp [evl, drcs, drc, flat, i64, u32, bl, encL, encB, encLL]) (by first | exact .inl rfl | exact .inr rfl | exact .inr scalB | exact .inr scalI | exact .inr scalT | exact .inr scalM | exact .inr scalMT | exact .inr scalE | exact .inr scalET | exact .inr scalN | exact .inr scalNT) ?_
  try simp -dsimp (maxSteps := 9^9) (disch := first | omega | decide +kernel) only [↓bp0, bd0, bd_PN, reduceIte, Nat.reduceEqDiff, evStore, Nat.reduceAdd, Nat.reduceMul, Int.reduceEq, Int.reduceLT, Int.reduceLE, Nat.reduceLeDiff, List.reduceReplicate, reduceCtorEq, evRange, cNt, tk4, Nat.reduceLT, newNts, bldNt, PV.cellsP]
  refine CallQ.imm (gvN_eq) (by rfl) (by first | rfl | (simp -dsimp (maxSteps := 9^9) (disch := first | omega | decide +kernel) only [↓bp0, bd0, bd_PN, reduceIte, Nat.reduceEqDiff, evStore, Nat.reduceAdd, Nat.reduceMul, Int.reduceEq, Int.reduceLT, Int.reduceLE, Nat.reduceLeDiff, List.reduceReplicate, reduceCtorEq, evRange, cNt, tk4, Nat.reduceLT, drcs, drc, flat, encNts, gvN, List.map_cons, List.map_nil, List.drop_zero, drcs, drc, dr1, dr1s, drRows]; done) | simp -dsimp [evl, drcs, drc, flat, i64, u32, bl, encL, encB, encLL]) (by first | exact .inl rfl | exact .inr rfl | exact .inr scalB | exact .inr scalI | exact .inr scalT | exact .inr scalM | exact .inr scalMT | exact .inr scalE | exact .inr scalET | exact .inr scalN | exact .inr scalNT) ?_
  try simp -dsimp (maxSteps := 9^9) (disch := first | omega | decide +kernel) only [↓bp0, bd0, bd_PN, reduceIte, Nat.reduceEqDiff, evStore, Nat.reduceAdd, Nat.reduceMul, Int.reduceEq, Int.reduceLT, Int.reduceLE, Nat.reduceLeDiff, List.reduceReplicate, reduceCtorEq, evRange, cNt, tk4, Nat.reduceLT, newNts, bldNt, PV.cellsP]
  refine CallQ.imm (gvG_eq) (by rfl) (by first | rfl | (simp -dsimp (maxSteps := 9^9) (disch := first | omega | decide +kernel) only [↓bp0, bd0, bd_PN, reduceIte, Nat.reduceEqDiff, evStore, Nat.reduceAdd, Nat.reduceMul, Int.reduceEq, Int.reduceLT, Int.reduceLE, Nat.reduceLeDiff, List.reduceReplicate, reduceCtorEq, evRange, cNt, tk4, Nat.reduceLT, drcs, drc, flat, encNts, gvG, List.map_cons, List.map_nil, List.drop_zero, drcs, drc, dr1, dr1s, drRows]; done) | simp -dsimp [evl, drcs, drc, flat, i64, u32, bl, encL, encB, encLL]) (by first | exact .inl rfl | exact .inr rfl | exact .inr scalB | exact .inr scalI | exact .inr scalT | exact .inr scalM | exact .inr scalMT | exact .inr scalE | exact .inr scalET | exact .inr scalN | exact .inr scalNT) ?_
  simp -dsimp (maxSteps := 9^9) (disch := first | omega | decide +kernel) only [↓bp0, bd0, bd_PN, reduceIte, Nat.reduceEqDiff, evStore, Nat.reduceAdd, Nat.reduceMul, Int.reduceEq, Int.reduceLT, Int.reduceLE, Nat.reduceLeDiff, List.reduceReplicate, reduceCtorEq, evRange, cNt, tk4, Nat.reduceLT, retQ, resL, finL, newL, flat, tupOf, List.toList_toArray, Tryz.f31, decide_true]
  exact leT_one .rfl' (by simp)
end Go.Ab
end

section
/- Classes told once; what is gone one way is news the other way. -/
set_option maxRecDepth 1000000
set_option maxHeartbeats 8000000
namespace Go.Ab
open Go Go.Proofs Go.Sort
/-! ### classes -/
def clsN (L : List Nt) : List Int := L.map (·.cls)
theorem srtN_perm (O : List Nt) : (srtN O).Perm O := by
  have h1 : (srtA O (List.finRange O.length)).Perm (List.finRange O.length) := List.mergeSort_perm _ _
  have := h1.map fun a => O[a]
  rw [fin_A] at this
  exact this
end Go.Ab
end

section
/- NotesTurn. -/
set_option maxRecDepth 1000000
set_option maxHeartbeats 16000000
namespace Go.Ab
open Go Go.Proofs Go.Sort
theorem any_falseP {α : Type} {l : List α} {p : α → Bool} (h : l.any p = false) : ∀ a ∈ l, p a = false := fun a ha => by
  have := List.any_eq_false.1 h a ha; simpa using this
theorem big_noP {s : Str} (h : big s = false) : s.size ≤ 100 := by
  have := of_decide_eq_false h; omega
theorem grt26_noP {l : List Br} (h : grt26 l = false) : l.length ≤ 20 ∧ ∀ b ∈ l, b.name.size ≤ 100 := by
  rw [grt26, Bool.or_eq_false_iff] at h
  refine ⟨by have := of_decide_eq_false h.2; omega, fun b hb => ?_⟩
  have := any_falseP h.1 b hb
  rw [Bool.or_eq_false_iff] at this
  exact big_noP this.1
theorem grt29_noP {l : Ldg} (h : grt29 l = false) : LSz l ∧ LNm l := by
  unfold grt29 at h
  simp only [Bool.or_eq_false_iff] at h
  obtain ⟨⟨⟨⟨h1, h2⟩, h3⟩, h4⟩, h5⟩ := h
  have h6 := grt26_noP h4
  have h3' := of_decide_eq_false h3
  have h5' := of_decide_eq_false h5
  refine ⟨⟨by omega, by omega, by omega, fun s hs => ?_⟩, ⟨fun b hb => by have := h6.2 b hb; omega, fun k hk => by have := big_noP (any_falseP h1 k hk); omega⟩⟩
  have := any_falseP h2 s hs
  unfold grtE at this
  simp only [Bool.or_eq_false_iff] at this
  have := of_decide_eq_false this.1.2
  omega
theorem lview_of {l : Ldg} {n : Str} (h : lchk l = 0) (hi : 0 ≤ idx l.brs n) : (lview l n).2 = 0 := by
  have hok := lok_of h
  rw [lview, if_neg (by rw [Decidable.not_not]; exact h), bview, if_neg (by rw [Decidable.not_not]; exact hok.fits), if_neg (by omega)]
theorem ldiff_of {l : Ldg} {a b : Str} (ha : (lview l a).2 = 0) (hb : (lview l b).2 = 0) : ldiff l a b = (onlyL (cls0 l.known) (evV l a) (evV l b), onlyL (cls0 l.known) (evV l b) (evV l a), 0) := by
  rw [ldiff, if_neg (by rw [Decidable.not_not]; exact ha), if_neg (by rw [Decidable.not_not]; exact hb)]; rfl
theorem bothE_zero {l : Ldg} {a b : Str} (h : bothE l a b = 0) : (lview l a).2 = 0 ∧ (lview l b).2 = 0 ∧ lchk l = 0 := by
  unfold bothE at h
  split at h
  · rename_i h1; exact absurd h h1
  · rename_i h1
    rw [Decidable.not_not] at h1
    split at h
    · cases h
    · rename_i h2
      exact ⟨lview_of h1 (by omega), lview_of h1 (by omega), h1⟩
end Go.Ab
end
