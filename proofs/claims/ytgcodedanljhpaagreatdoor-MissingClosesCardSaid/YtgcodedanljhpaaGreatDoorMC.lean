/- The error of fixes. -/
import Derived.Test.YtgcodedanljhpaaGreatDoorMA
set_option linter.unusedSimpArgs false
set_option linter.unusedVariables false
section
set_option maxRecDepth 100000
set_option maxHeartbeats 8000000
namespace Go.Ab
open Go Go.Proofs
theorem bd_MB : type_of% (And.intro @evNext.eq_1 (And.intro @fld (And.intro @nit (And.intro @nxE (And.intro @ovR (And.intro @evBin_seql (And.intro @evBin_sneq (And.intro @str.eq_1 (And.intro @u8.eq_1 (And.intro @encBrs.eq_1 (And.intro @cBr.eq_1 (And.intro @encLdg.eq_1 (And.intro @encKws.eq_1 (And.intro @cKw.eq_1 (And.intro @encEvss.eq_1 (And.intro @encEvs.eq_1 (And.intro @cEv.eq_1 (And.intro @encMks.eq_1 (And.intro @cMk.eq_1 (And.intro @encStrs.eq_1 (And.intro @encFxs.eq_1 (And.intro @cFx.eq_1 (And.intro @tk2 (And.intro @tk3 (And.intro @List.set_cons_succ.{0} (And.intro @List.getElem?_cons_zero.{0} (And.intro @List.getElem?_cons_succ.{0} (@List.length_set.{0})))))))))))))))))))))))))))) := And.intro @evNext.eq_1 (And.intro @fld (And.intro @nit (And.intro @nxE (And.intro @ovR (And.intro @evBin_seql (And.intro @evBin_sneq (And.intro @str.eq_1 (And.intro @u8.eq_1 (And.intro @encBrs.eq_1 (And.intro @cBr.eq_1 (And.intro @encLdg.eq_1 (And.intro @encKws.eq_1 (And.intro @cKw.eq_1 (And.intro @encEvss.eq_1 (And.intro @encEvs.eq_1 (And.intro @cEv.eq_1 (And.intro @encMks.eq_1 (And.intro @cMk.eq_1 (And.intro @encStrs.eq_1 (And.intro @encFxs.eq_1 (And.intro @cFx.eq_1 (And.intro @tk2 (And.intro @tk3 (And.intro @List.set_cons_succ.{0} (And.intro @List.getElem?_cons_zero.{0} (And.intro @List.getElem?_cons_succ.{0} (@List.length_set.{0})))))))))))))))))))))))))))
def MapB (kvs : List (Value × PV × Nat)) (p : Int → Bool) : Prop := ∀ n, findP (.int .i64) (.int .i64 n) kvs = some (if p n then some (.lit (.bool true)) else none)
theorem MapB.push {kvs : List (Value × PV × Nat)} {p : Int → Bool} (h : MapB kvs p) {k : Int} {c : Nat} (hk : p k = false) : MapB (kvs ++ [(.int .i64 k, .lit (.bool true), c)]) fun n => p n || decide (n = k) := fun n => by
  rw [findP_snoc, h n]
  by_cases e : n = k
  · subst e; simp [hk, Instr.sameNow]
  · have hb : (n == k) = false := by simpa using e
    cases hp : p n
    · simp [Instr.sameNow, e, hb, hp]
    · simp [hp]
theorem keyI {n : Int} : keyB (.int .i64) (.int .i64 n) = true := rfl
theorem m_Check (l : Ldg) (x : List Fx) (hz : LSz l) (hx40 : x.length ≤ 2^40) (hb40 : ∀ f ∈ x, f.brs.length ≤ 2^40) : CallSpec cx 56 [encLdg l, encFxs x] (i64 (mchk l x)) := by
  have hbl := hz.brs
  refine callSpec_of_vc Tryz.func56 rfl (by decide) (by kernel_rfl) (Nat.le_of_ble_eq_true rfl) ?_
  try simp -dsimp (maxSteps := 9^9) (disch := first | omega | decide +kernel) only [↓bp0, bd0, bd_MB, reduceIte, Nat.reduceEqDiff, evStore, Nat.reduceAdd, Nat.reduceMul, Int.reduceEq, Int.reduceLT, Int.reduceLE, Nat.reduceLeDiff, List.reduceReplicate, reduceCtorEq, evRange, Nat.reduceLT, Tryz.f56]
  refine CallQ.imm (d_lCheck l hz.known hz.brs hz.evs hz.ev) (by rfl) (by first | rfl | (simp -dsimp (maxSteps := 9^9) (disch := first | omega | decide +kernel) only [↓bp0, bd0, bd_MB, reduceIte, Nat.reduceEqDiff, evStore, Nat.reduceAdd, Nat.reduceMul, Int.reduceEq, Int.reduceLT, Int.reduceLE, Nat.reduceLeDiff, List.reduceReplicate, reduceCtorEq, evRange, Nat.reduceLT, drcs, drc, flat]; done) | simp -dsimp [evl, drcs, drc, flat, i64, u32, bl, encL, encB, encLL]) (by first | exact .inl rfl | exact .inr rfl | exact .inr scalB | exact .inr scalI | exact .inr scalT | exact .inr scalM | exact .inr scalMT) ?_
  cases h0 : decide (lchk l = 0)
  · simp -dsimp (maxSteps := 9^9) (disch := first | omega | decide +kernel) only [↓bp0, bd0, bd_MB, reduceIte, Nat.reduceEqDiff, evStore, Nat.reduceAdd, Nat.reduceMul, Int.reduceEq, Int.reduceLT, Int.reduceLE, Nat.reduceLeDiff, List.reduceReplicate, reduceCtorEq, evRange, Nat.reduceLT, retQ, resL, finL, newL, flat, tupOf, List.toList_toArray, Tryz.f56, h0]
    refine leT_one (int_eq ?_) (by simp)
    rw [mchk, if_pos (of_decide_eq_false h0)]
  have h0' := of_decide_eq_true h0
  cases h30 : decide ((30 : Int) < x.length)
  case true =>
    simp -dsimp (maxSteps := 9^9) (disch := first | omega | decide +kernel) only [↓bp0, bd0, bd_MB, reduceIte, Nat.reduceEqDiff, evStore, Nat.reduceAdd, Nat.reduceMul, Int.reduceEq, Int.reduceLT, Int.reduceLE, Nat.reduceLeDiff, List.reduceReplicate, reduceCtorEq, evRange, Nat.reduceLT, retQ, resL, finL, newL, flat, tupOf, List.toList_toArray, Tryz.f56, h0, h30]
    refine leT_one (int_eq ?_) (by simp)
    have := of_decide_eq_true h30
    rw [mchk, if_neg (by rw [Decidable.not_not]; exact h0'), if_pos (by omega)]
  have e1 : mchk l x = fxE l [] x := by
    have := of_decide_eq_false h30
    rw [mchk, if_neg (by rw [Decidable.not_not]; exact h0'), if_neg (by omega)]
  try simp -dsimp (maxSteps := 9^9) (disch := first | omega | decide +kernel) only [↓bp0, bd0, bd_MB, reduceIte, Nat.reduceEqDiff, evStore, Nat.reduceAdd, Nat.reduceMul, Int.reduceEq, Int.reduceLT, Int.reduceLE, Nat.reduceLeDiff, List.reduceReplicate, reduceCtorEq, evRange, Nat.reduceLT, h0, h30, evMakeMap]
  refine LoopQ.rule (fun m st => ∃ (i nx ck : Nat) (kvs : List (Value × PV × Nat)), i ≤ x.length ∧ 2 ≤ nx ∧ MapB kvs (fun n => (x.take i).any fun g => decide (n = g.cls)) ∧ fxE l [] x = fxE l (x.take i) (x.drop i) ∧ m = x.length - i ∧
    st = ⟨mkE [(2, .ptr 0 0 0 0), (6, .mp 1), (20, encFxs x), (21, i64 x.length), (22, i64 i)], mkS [(0, .row 0 3 [[encKws l.known, encBrs l.brs, encEvss l.evs]] false), (1, .map kvs ck false)], nx⟩) _ _ (weak_of ?_)
    ⟨0, 2, 0, [], by omega, by omega, fun n => by simp [findP], by simp, rfl, rfl⟩ ?_
  · first | (simp -dsimp (maxSteps := 9^9) (disch := first | omega | decide +kernel) only [↓bp0, bd0, bd_MB, reduceIte, Nat.reduceEqDiff, evStore, Nat.reduceAdd, Nat.reduceMul, Int.reduceEq, Int.reduceLT, Int.reduceLE, Nat.reduceLeDiff, List.reduceReplicate, reduceCtorEq, evRange, Nat.reduceLT]; done) | simp -dsimp [evl, putN, i64, u32, bl, encL, encB, encLL]
  rintro m st ⟨i, nx, ck, kvs, hi, hnx, hM, hE, rfl, rfl⟩
  have hE1_0a : (nx = 0) = False := by simp; omega
  have hE1_0b : (0 = nx) = False := by simp; omega
  have hE1_1a : (nx = 1) = False := by simp; omega
  have hE1_1b : (1 = nx) = False := by simp; omega
  try simp -dsimp (maxSteps := 9^9) (disch := first | omega | decide +kernel) only [↓bp0, bd0, bd_MB, reduceIte, Nat.reduceEqDiff, evStore, Nat.reduceAdd, Nat.reduceMul, Int.reduceEq, Int.reduceLT, Int.reduceLE, Nat.reduceLeDiff, List.reduceReplicate, reduceCtorEq, evRange, Nat.reduceLT]
  refine onC_nlt (fun h2 => ?_) (fun h2 => ?_)
  rotate_left
  · simp -dsimp (maxSteps := 9^9) (disch := first | omega | decide +kernel) only [↓bp0, bd0, bd_MB, reduceIte, Nat.reduceEqDiff, evStore, Nat.reduceAdd, Nat.reduceMul, Int.reduceEq, Int.reduceLT, Int.reduceLE, Nat.reduceLeDiff, List.reduceReplicate, reduceCtorEq, evRange, Nat.reduceLT, retQ, resL, finL, newL, flat, tupOf, List.toList_toArray, Tryz.f56]
    refine leT_one (int_eq ?_) (by simp)
    rw [e1, hE, List.drop_of_length_le (by omega)]; rfl
  obtain ⟨f, hf, hfm⟩ := get_of_lt h2
  have hdr : x.drop i = f :: x.drop (i + 1) := by rw [List.drop_eq_getElem_cons h2]; congr 1; rw [List.getElem?_eq_getElem h2] at hf; exact Option.some.inj hf
  have hbad : ∀ n, oneE l (x.take i) f = n → n ≠ 0 → mchk l x = n := fun n hn h => by
    rw [e1, hE, hdr, fxE, if_pos (by rw [hn]; exact h), hn]
  have hgo : oneE l (x.take i) f = 0 → fxE l [] x = fxE l (x.take (i + 1)) (x.drop (i + 1)) := fun h => by
    rw [hE, hdr, fxE, if_neg (by rw [h]; simp), take_succ hf]
  have hfb := hb40 f hfm
  cases c1 : decide (f.cls < 0)
  case true =>
    simp -dsimp (maxSteps := 9^9) (disch := first | omega | decide +kernel) only [↓bp0, bd0, bd_MB, reduceIte, Nat.reduceEqDiff, evStore, Nat.reduceAdd, Nat.reduceMul, Int.reduceEq, Int.reduceLT, Int.reduceLE, Nat.reduceLeDiff, List.reduceReplicate, reduceCtorEq, evRange, Nat.reduceLT, retQ, resL, finL, newL, flat, tupOf, List.toList_toArray, Tryz.f56, hf, c1, hE1_0a, hE1_0b, hE1_1a, hE1_1b]
    exact leT_one (int_eq (hbad 8 (by rw [oneE, if_pos (.inl (of_decide_eq_true c1))]) (by decide)).symm) (by simp)
  cases c2 : decide ((30 : Int) ≤ f.cls)
  case true =>
    simp -dsimp (maxSteps := 9^9) (disch := first | omega | decide +kernel) only [↓bp0, bd0, bd_MB, reduceIte, Nat.reduceEqDiff, evStore, Nat.reduceAdd, Nat.reduceMul, Int.reduceEq, Int.reduceLT, Int.reduceLE, Nat.reduceLeDiff, List.reduceReplicate, reduceCtorEq, evRange, Nat.reduceLT, retQ, resL, finL, newL, flat, tupOf, List.toList_toArray, Tryz.f56, hf, c1, c2, hE1_0a, hE1_0b, hE1_1a, hE1_1b]
    exact leT_one (int_eq (hbad 8 (by rw [oneE, if_pos (.inr (.inl (of_decide_eq_true c2)))]) (by decide)).symm) (by simp)
  cases c3 : decide (f.wgt < 1)
  case true =>
    simp -dsimp (maxSteps := 9^9) (disch := first | omega | decide +kernel) only [↓bp0, bd0, bd_MB, reduceIte, Nat.reduceEqDiff, evStore, Nat.reduceAdd, Nat.reduceMul, Int.reduceEq, Int.reduceLT, Int.reduceLE, Nat.reduceLeDiff, List.reduceReplicate, reduceCtorEq, evRange, Nat.reduceLT, retQ, resL, finL, newL, flat, tupOf, List.toList_toArray, Tryz.f56, hf, c1, c2, c3, hE1_0a, hE1_0b, hE1_1a, hE1_1b]
    exact leT_one (int_eq (hbad 8 (by rw [oneE, if_pos (.inr (.inr (.inl (of_decide_eq_true c3))))]) (by decide)).symm) (by simp)
  cases c4 : decide ((9 : Int) < f.wgt)
  case true =>
    simp -dsimp (maxSteps := 9^9) (disch := first | omega | decide +kernel) only [↓bp0, bd0, bd_MB, reduceIte, Nat.reduceEqDiff, evStore, Nat.reduceAdd, Nat.reduceMul, Int.reduceEq, Int.reduceLT, Int.reduceLE, Nat.reduceLeDiff, List.reduceReplicate, reduceCtorEq, evRange, Nat.reduceLT, retQ, resL, finL, newL, flat, tupOf, List.toList_toArray, Tryz.f56, hf, c1, c2, c3, c4, hE1_0a, hE1_0b, hE1_1a, hE1_1b]
    exact leT_one (int_eq (hbad 8 (by rw [oneE, if_pos (.inr (.inr (.inr (.inl (of_decide_eq_true c4)))))]) (by decide)).symm) (by simp)
  cases c5 : decide ((f.brs.length : Int) = 0)
  case true =>
    have c5' := of_decide_eq_true c5
    simp -dsimp (maxSteps := 9^9) (disch := first | omega | decide +kernel) only [↓bp0, bd0, bd_MB, reduceIte, Nat.reduceEqDiff, evStore, Nat.reduceAdd, Nat.reduceMul, Int.reduceEq, Int.reduceLT, Int.reduceLE, Nat.reduceLeDiff, List.reduceReplicate, reduceCtorEq, evRange, Nat.reduceLT, retQ, resL, finL, newL, flat, tupOf, List.toList_toArray, Tryz.f56, hf, c1, c2, c3, c4, c5, hE1_0a, hE1_0b, hE1_1a, hE1_1b]
    exact leT_one (int_eq (hbad 8 (by rw [oneE, if_pos (.inr (.inr (.inr (.inr (by omega)))))]) (by decide)).symm) (by simp)
  have g1 : ¬ (f.cls < 0 ∨ 30 ≤ f.cls ∨ f.wgt < 1 ∨ 9 < f.wgt ∨ f.brs.length = 0) := by
    have := of_decide_eq_false c1
    have := of_decide_eq_false c2
    have := of_decide_eq_false c3
    have := of_decide_eq_false c4
    have := of_decide_eq_false c5
    omega
  have o1 : oneE l (x.take i) f = if (f.brs.any fun b => decide (idx l.brs b < 0)) = true then 6 else if dupS f.brs = true then 14 else if ((x.take i).any fun g => decide (f.cls = g.cls)) = true then 14 else 0 := by rw [oneE, if_neg g1]
  try simp -dsimp (maxSteps := 9^9) (disch := first | omega | decide +kernel) only [↓bp0, bd0, bd_MB, reduceIte, Nat.reduceEqDiff, evStore, Nat.reduceAdd, Nat.reduceMul, Int.reduceEq, Int.reduceLT, Int.reduceLE, Nat.reduceLeDiff, List.reduceReplicate, reduceCtorEq, evRange, Nat.reduceLT, hf, c1, c2, c3, c4, c5, hE1_0a, hE1_0b, hE1_1a, hE1_1b]
  refine CallQ.imm (fs_contains f.brs (by omega) 113 [.cptr (cLdg l)] rfl _ fun b _ => m_Check1 l b (by omega)) (by rfl) (by first | rfl | (simp -dsimp (maxSteps := 9^9) (disch := first | omega | decide +kernel) only [↓bp0, bd0, bd_MB, reduceIte, Nat.reduceEqDiff, evStore, Nat.reduceAdd, Nat.reduceMul, Int.reduceEq, Int.reduceLT, Int.reduceLE, Nat.reduceLeDiff, List.reduceReplicate, reduceCtorEq, evRange, Nat.reduceLT, drcs, drc, flat, cLdg, hE1_0a, hE1_0b, hE1_1a, hE1_1b]; done) | simp -dsimp [evl, drcs, drc, flat, i64, u32, bl, encL, encB, encLL]) (by first | exact .inl rfl | exact .inr rfl | exact .inr scalB | exact .inr scalI | exact .inr scalT | exact .inr scalM | exact .inr scalMT) ?_
  cases a1 : f.brs.any fun b => decide (idx l.brs b < 0)
  case true =>
    simp -dsimp (maxSteps := 9^9) (disch := first | omega | decide +kernel) only [↓bp0, bd0, bd_MB, reduceIte, Nat.reduceEqDiff, evStore, Nat.reduceAdd, Nat.reduceMul, Int.reduceEq, Int.reduceLT, Int.reduceLE, Nat.reduceLeDiff, List.reduceReplicate, reduceCtorEq, evRange, Nat.reduceLT, retQ, resL, finL, newL, flat, tupOf, List.toList_toArray, Tryz.f56, a1, hE1_0a, hE1_0b, hE1_1a, hE1_1b]
    exact leT_one (int_eq (hbad 6 (by rw [o1, if_pos a1]) (by decide)).symm) (by simp)
  have o2 : oneE l (x.take i) f = if dupS f.brs = true then 14 else if ((x.take i).any fun g => decide (f.cls = g.cls)) = true then 14 else 0 := by rw [o1, if_neg (by rw [a1]; simp)]
  try simp -dsimp (maxSteps := 9^9) (disch := first | omega | decide +kernel) only [↓bp0, bd0, bd_MB, reduceIte, Nat.reduceEqDiff, evStore, Nat.reduceAdd, Nat.reduceMul, Int.reduceEq, Int.reduceLT, Int.reduceLE, Nat.reduceLeDiff, List.reduceReplicate, reduceCtorEq, evRange, Nat.reduceLT, a1, hE1_0a, hE1_0b, hE1_1a, hE1_1b]
  refine LoopQ.rule (fun m st => ∃ k : Nat, k ≤ f.brs.length ∧ (∀ (j : Nat) b, j < k → f.brs[j]? = some b → ((f.brs.take j).any fun x => decide (b = x)) = false) ∧ m = f.brs.length - k ∧
    st = ⟨mkE [(2, .ptr 0 0 0 0), (6, .mp 1), (20, encFxs x), (21, i64 x.length), (22, i64 i), (8, .ptr nx 0 0 0), (55, encStrs f.brs), (56, i64 f.brs.length), (57, i64 k)],
      mkS [(0, .row 0 3 [[encKws l.known, encBrs l.brs, encEvss l.evs]] false), (1, .map kvs ck false), (nx, .row 0 3 [cFx f] false)], nx + 1⟩) _ _ (weak_of ?_)
    ⟨0, by omega, fun _ _ h => by omega, rfl, rfl⟩ ?_
  · first | (simp -dsimp (maxSteps := 9^9) (disch := first | omega | decide +kernel) only [↓bp0, bd0, bd_MB, reduceIte, Nat.reduceEqDiff, evStore, Nat.reduceAdd, Nat.reduceMul, Int.reduceEq, Int.reduceLT, Int.reduceLE, Nat.reduceLeDiff, List.reduceReplicate, reduceCtorEq, evRange, Nat.reduceLT, hE1_0a, hE1_0b, hE1_1a, hE1_1b]; done) | simp -dsimp [evl, putN, i64, u32, bl, encL, encB, encLL, hE1_0a, hE1_0b, hE1_1a, hE1_1b]
  rintro m st ⟨k, hk, hpre, rfl, rfl⟩
  try simp -dsimp (maxSteps := 9^9) (disch := first | omega | decide +kernel) only [↓bp0, bd0, bd_MB, reduceIte, Nat.reduceEqDiff, evStore, Nat.reduceAdd, Nat.reduceMul, Int.reduceEq, Int.reduceLT, Int.reduceLE, Nat.reduceLeDiff, List.reduceReplicate, reduceCtorEq, evRange, Nat.reduceLT, hE1_0a, hE1_0b, hE1_1a, hE1_1b]
  refine onC_nlt (fun h3 => ?_) (fun h3 => ?_)
  · obtain ⟨b, hb, hbm⟩ := get_of_lt h3
    have hkl : k ≤ f.brs.length := by omega
    have hall1 : ((f.brs.map fun s => [PV.lit (Value.string s)]).all fun e => e.length == 1) = true := by
      rw [List.all_eq_true]; intro e he; obtain ⟨s, _, rfl⟩ := List.mem_map.1 he; rfl
    try simp -dsimp (maxSteps := 9^9) (disch := first | omega | decide +kernel) only [↓bp0, bd0, bd_MB, reduceIte, Nat.reduceEqDiff, evStore, Nat.reduceAdd, Nat.reduceMul, Int.reduceEq, Int.reduceLT, Int.reduceLE, Nat.reduceLeDiff, List.reduceReplicate, reduceCtorEq, evRange, Nat.reduceLT, hb, hkl, hall1, evSlice, slc, Bool.false_and, List.drop_zero, hE1_0a, hE1_0b, hE1_1a, hE1_1b]
    refine CallQ.imm (cs_con (f.brs.take k) b (by rw [List.length_take]; omega)) (by rfl) (by first | rfl | (simp -dsimp (maxSteps := 9^9) (disch := first | omega | decide +kernel) only [↓bp0, bd0, bd_MB, reduceIte, Nat.reduceEqDiff, evStore, Nat.reduceAdd, Nat.reduceMul, Int.reduceEq, Int.reduceLT, Int.reduceLE, Nat.reduceLeDiff, List.reduceReplicate, reduceCtorEq, evRange, Nat.reduceLT, drcs, drc, flat, List.map_take]; done) | simp -dsimp [evl, drcs, drc, flat, i64, u32, bl, encL, encB, encLL]) (by first | exact .inl rfl | exact .inr rfl | exact .inr scalB | exact .inr scalI | exact .inr scalT | exact .inr scalM | exact .inr scalMT) ?_
    cases a2 : (f.brs.take k).any fun x => decide (b = x)
    · try simp -dsimp (maxSteps := 9^9) (disch := first | omega | decide +kernel) only [↓bp0, bd0, bd_MB, reduceIte, Nat.reduceEqDiff, evStore, Nat.reduceAdd, Nat.reduceMul, Int.reduceEq, Int.reduceLT, Int.reduceLE, Nat.reduceLeDiff, List.reduceReplicate, reduceCtorEq, evRange, Nat.reduceLT, a2, hE1_0a, hE1_0b, hE1_1a, hE1_1b]
      refine ⟨_, _, ?_, weak_of ?_, k + 1, h3, ?_, rfl, rfl⟩
      · omega
      · first | (simp -dsimp (maxSteps := 9^9) (disch := first | omega | decide +kernel) only [↓bp0, bd0, bd_MB, reduceIte, Nat.reduceEqDiff, evStore, Nat.reduceAdd, Nat.reduceMul, Int.reduceEq, Int.reduceLT, Int.reduceLE, Nat.reduceLeDiff, List.reduceReplicate, reduceCtorEq, evRange, Nat.reduceLT, wrapS h3 (show f.brs.length ≤ 9223372036854775807 by omega), hE1_0a, hE1_0b, hE1_1a, hE1_1b]; done) | simp -dsimp [evl, putN, i64, u32, bl, encL, encB, encLL, wrapS h3 (show f.brs.length ≤ 9223372036854775807 by omega), hE1_0a, hE1_0b, hE1_1a, hE1_1b]
      · intro j b' hj hb'
        by_cases e : j = k
        · subst e; rw [hb] at hb'; cases hb'; exact a2
        · exact hpre j b' (by omega) hb'
    · simp -dsimp (maxSteps := 9^9) (disch := first | omega | decide +kernel) only [↓bp0, bd0, bd_MB, reduceIte, Nat.reduceEqDiff, evStore, Nat.reduceAdd, Nat.reduceMul, Int.reduceEq, Int.reduceLT, Int.reduceLE, Nat.reduceLeDiff, List.reduceReplicate, reduceCtorEq, evRange, Nat.reduceLT, retQ, resL, finL, newL, flat, tupOf, List.toList_toArray, Tryz.f56, a2, hE1_0a, hE1_0b, hE1_1a, hE1_1b]
      exact leT_one (int_eq (hbad 14 (by rw [o2, if_pos (show dupS f.brs = true from anyI_iff.2 ⟨k, b, hb, a2⟩)]) (by decide)).symm) (by simp)
  have hdup : dupS f.brs = false := anyI_false.2 fun j b hb => hpre j b (by have := (List.getElem?_eq_some_iff.1 hb).1; omega) hb
  have o3 : oneE l (x.take i) f = if ((x.take i).any fun g => decide (f.cls = g.cls)) = true then 14 else 0 := by rw [o2, if_neg (by rw [hdup]; simp)]
  have hfp : findP (.int .i64) (.int .i64 f.cls) kvs = some (if ((x.take i).any fun g => decide (f.cls = g.cls)) = true then some (.lit (.bool true)) else none) := hM f.cls
  cases a3 : (x.take i).any fun g => decide (f.cls = g.cls)
  case true =>
    rw [a3] at hfp
    simp only [if_true] at hfp
    simp -dsimp (maxSteps := 9^9) (disch := first | omega | decide +kernel) only [↓bp0, bd0, bd_MB, reduceIte, Nat.reduceEqDiff, evStore, Nat.reduceAdd, Nat.reduceMul, Int.reduceEq, Int.reduceLT, Int.reduceLE, Nat.reduceLeDiff, List.reduceReplicate, reduceCtorEq, evRange, Nat.reduceLT, retQ, resL, finL, newL, flat, tupOf, List.toList_toArray, Tryz.f56, evLookup, keyI, hfp, hE1_0a, hE1_0b, hE1_1a, hE1_1b]
    exact leT_one (int_eq (hbad 14 (by rw [o3, if_pos a3]) (by decide)).symm) (by simp)
  rw [a3] at hfp
  simp only [Bool.false_eq_true, if_false] at hfp
  have hM2 : MapB (kvs ++ [(.int .i64 f.cls, .lit (.bool true), ck)]) fun n => (x.take (i + 1)).any fun g => decide (n = g.cls) := by
    have := hM.push (k := f.cls) (c := ck) a3
    intro n
    rw [this n]
    simp only [take_succ hf, List.any_append, List.any_cons, List.any_nil, Bool.or_false]
  try simp -dsimp (maxSteps := 9^9) (disch := first | omega | decide +kernel) only [↓bp0, bd0, bd_MB, reduceIte, Nat.reduceEqDiff, evStore, Nat.reduceAdd, Nat.reduceMul, Int.reduceEq, Int.reduceLT, Int.reduceLE, Nat.reduceLeDiff, List.reduceReplicate, reduceCtorEq, evRange, Nat.reduceLT, evLookup, evMapPut, keyI, hfp, hE1_0a, hE1_0b, hE1_1a, hE1_1b]
  refine ⟨_, _, ?_, weak_of ?_, i + 1, nx + 1, ck + 1, _, h2, by omega, hM2, hgo (by rw [o3, if_neg (by rw [a3]; simp)]), rfl, rfl⟩
  · omega
  · first | (simp -dsimp (maxSteps := 9^9) (disch := first | omega | decide +kernel) only [↓bp0, bd0, bd_MB, reduceIte, Nat.reduceEqDiff, evStore, Nat.reduceAdd, Nat.reduceMul, Int.reduceEq, Int.reduceLT, Int.reduceLE, Nat.reduceLeDiff, List.reduceReplicate, reduceCtorEq, evRange, Nat.reduceLT, wrapS h2 (show x.length ≤ 9223372036854775807 by omega), hE1_0a, hE1_0b, hE1_1a, hE1_1b]; done) | simp -dsimp [evl, putN, i64, u32, bl, encL, encB, encLL, wrapS h2 (show x.length ≤ 9223372036854775807 by omega), hE1_0a, hE1_0b, hE1_1a, hE1_1b]
end Go.Ab
end

section
/- Gaps of a branch. -/
set_option maxRecDepth 100000
set_option maxHeartbeats 8000000
namespace Go.Ab
open Go Go.Proofs
theorem bd_MC : type_of% (And.intro @evNext.eq_1 (And.intro @fld (And.intro @nit (And.intro @nxE (And.intro @ovR (And.intro @evBin_seql (And.intro @evBin_sneq (And.intro @str.eq_1 (And.intro @u8.eq_1 (And.intro @encBrs.eq_1 (And.intro @cBr.eq_1 (And.intro @encLdg.eq_1 (And.intro @encKws.eq_1 (And.intro @cKw.eq_1 (And.intro @encEvss.eq_1 (And.intro @encEvs.eq_1 (And.intro @cEv.eq_1 (And.intro @encMks.eq_1 (And.intro @cMk.eq_1 (And.intro @encStrs.eq_1 (And.intro @encFxs.eq_1 (And.intro @cFx.eq_1 (And.intro @cGp.eq_1 (And.intro @tk2 (And.intro @tk3 (And.intro @List.set_cons_succ.{0} (And.intro @List.getElem?_cons_zero.{0} (And.intro @List.getElem?_cons_succ.{0} (@List.length_set.{0}))))))))))))))))))))))))))))) := And.intro @evNext.eq_1 (And.intro @fld (And.intro @nit (And.intro @nxE (And.intro @ovR (And.intro @evBin_seql (And.intro @evBin_sneq (And.intro @str.eq_1 (And.intro @u8.eq_1 (And.intro @encBrs.eq_1 (And.intro @cBr.eq_1 (And.intro @encLdg.eq_1 (And.intro @encKws.eq_1 (And.intro @cKw.eq_1 (And.intro @encEvss.eq_1 (And.intro @encEvs.eq_1 (And.intro @cEv.eq_1 (And.intro @encMks.eq_1 (And.intro @cMk.eq_1 (And.intro @encStrs.eq_1 (And.intro @encFxs.eq_1 (And.intro @cFx.eq_1 (And.intro @cGp.eq_1 (And.intro @tk2 (And.intro @tk3 (And.intro @List.set_cons_succ.{0} (And.intro @List.getElem?_cons_zero.{0} (And.intro @List.getElem?_cons_succ.{0} (@List.length_set.{0}))))))))))))))))))))))))))))
def Sub (σ τ : Store) : Prop := ∀ j B, σ j = some B → τ j = some B
theorem Sub.rfl' {σ : Store} : Sub σ σ := fun _ _ h => h
theorem Sub.put {σ τ : Store} {k : Nat} {B : Blk} (h : Sub σ τ) (hk : σ k = none) : Sub σ (τ.put k B) := fun j B' hj => by
  simp only [Store.put]
  rw [if_neg (fun e => by subst e; rw [hk] at hj; cases hj)]
  exact h j B' hj
def nonL (σ : Store) : List (Nat × Blk) → Prop
  | [] => True
  | (i, _) :: r => σ i = none ∧ nonL σ r
theorem Sub.ov {σ : Store} : ∀ {ls : List (Nat × Blk)}, nonL σ ls → Sub σ (ovS ls σ)
  | [], _ => .rfl'
  | (i, B) :: r, h => fun j B' hj => by
    simp only [ovS]
    rw [if_neg (fun e => by subst e; rw [h.1] at hj; cases hj)]
    exact Sub.ov h.2 j B' hj
theorem weak_ofU {st : St} {le : List (Nat × PV)} {ls : List (Nat × Blk)} {σ : Store} {nx : Nat} (h1 : allE st.env le) (h2 : allS st.σ ls) (h3 : Sub σ st.σ) (h4 : st.nx ≤ nx) : Weak st ⟨mkE le, ovS ls σ, nx⟩ := by
  refine ⟨allE_spec le h1, fun j B' h => ?_, h4⟩
  rcases ovS_at h with h | h
  · exact allS_spec ls h2 j B' h
  · exact h3 j B' h
theorem weakσ_ofU {e : Env} {τ σ : Store} {ls : List (Nat × Blk)} {nx nx' : Nat} (h2 : allS τ ls) (h3 : Sub σ τ) (h4 : nx ≤ nx') : Weak ⟨e, τ, nx⟩ ⟨e, ovS ls σ, nx'⟩ := by
  refine ⟨fun _ _ h => h, fun j B' h => ?_, h4⟩
  simp only at h ⊢
  rcases ovS_at h with h | h
  · exact allS_spec ls h2 j B' h
  · exact h3 j B' h
theorem ov_del {σ : Store} {i : Nat} {B : Blk} : ovS [(i, B)] (σ.del i) = σ.put i B := by
  funext j
  simp only [ovS, Store.del, Store.put]
  split <;> rfl
theorem bldGp : ∀ a b c, evBuild cx 47 [(0, .lit a), (1, .lit b), (2, .lit c)] = some (.agg [.lit a, .lit b, .lit c]) := fun _ _ _ => by kernel_rfl
theorem gapsOf_snoc {x : List Fx} {f : Fx} {b : Str} {inn : List Int} : gapsOf (x ++ [f]) b inn = gapsOf x b inn ++ if wantB b inn f then [⟨b, f.cls, f.wgt⟩] else [] := by
  unfold gapsOf
  rw [List.filter_append, List.map_append]
  congr 1
  cases h : wantB b inn f <;> simp [h]
theorem gapsOf_len {x : List Fx} {b : Str} {inn : List Int} : (gapsOf x b inn).length ≤ x.length := by
  unfold gapsOf
  rw [List.length_map]; exact List.length_filter_le _ _
theorem m_gaps (x : List Fx) (b : Str) (inn : List Int) (hx : x.length ≤ 2^30) (hb : ∀ f ∈ x, f.brs.length ≤ 2^40) (hi : inn.length ≤ 2^40) (σ0 : Store) (nx id ver : Nat) (rows : List (List PV)) (hr : rows.length ≤ 2^30)
    (hσ : σ0 id = some (.row ver 3 rows false)) : StSpec cx 58 [.own id ver 0 rows.length false, encFxs x, str b, encL inn] σ0 nx
      (fun r σ' nx' => nx ≤ nx' ∧ ∃ ver', r = .own id ver' 0 (rows ++ (gapsOf x b inn).map cGp).length false ∧ σ' = σ0.put id (.row ver' 3 (rows ++ (gapsOf x b inn).map cGp) false)) := by
  refine StSpec.fresh (by kernel_rfl) fun hfr0 => ?_
  have hid : id < nx := by
    rcases Nat.lt_or_ge id nx with h1 | h1
    · exact h1
    · rw [hfr0 id h1] at hσ; cases hσ
  obtain ⟨σ, hσd⟩ : ∃ σ : Store, σ = σ0.del id := ⟨_, rfl⟩
  have hfr : ∀ j, nx ≤ j → σ j = none := fun j hj => by rw [hσd]; simp only [Store.del]; split; rfl; exact hfr0 j hj
  have hd : σ id = none := by rw [hσd]; simp [Store.del]
  have h00 : σ0 = ovS [(id, .row ver 3 rows false)] σ := by rw [hσd, ov_del, put_same hσ]
  have hput : ∀ B, σ0.put id B = ovS [(id, B)] σ := fun B => by rw [hσd, ov_del]
  simp only [hput]
  rw [h00]
  clear hfr0 hσ hput h00 hσd
  obtain ⟨R, hR⟩ : ∃ R : Nat → List (List PV), ∀ i, R i = rows ++ (gapsOf (x.take i) b inn).map cGp := ⟨_, fun _ => rfl⟩
  have hR0 : R 0 = rows := by rw [hR]; simp [gapsOf]
  have hRn : rows ++ (gapsOf x b inn).map cGp = R x.length := by rw [hR, List.take_length]
  have hlenR : ∀ i, i ≤ x.length → (R i).length ≤ 2^31 := fun i h => by
    have := gapsOf_len (x := x.take i) (b := b) (inn := inn)
    rw [List.length_take] at this
    rw [hR, List.length_append, List.length_map]; omega
  have hstep : ∀ i f, x[i]? = some f → R (i + 1) = R i ++ if wantB b inn f then [[.lit (.string b), .lit (.int .i64 f.cls), .lit (.int .i64 f.wgt)]] else [] := fun i f hf => by
    rw [hR, hR, take_succ hf, gapsOf_snoc, List.map_append, ← List.append_assoc]
    congr 1
    cases wantB b inn f <;> rfl
  rw [hRn]
  clear hR hRn
  refine stSpec_of_vc Tryz.func58 rfl (by decide) (by kernel_rfl) (Nat.le_of_ble_eq_true rfl) ?_
  try simp -dsimp (disch := first | omega | decide +kernel) only [↓bp0, bd0, bd_MC, reduceIte, Nat.reduceEqDiff, evStore, Nat.reduceAdd, Nat.reduceMul, Int.reduceEq, Int.reduceLT, Int.reduceLE, Nat.reduceLeDiff, List.reduceReplicate, reduceCtorEq, evRange, Nat.reduceLT, Tryz.f58]
  refine LoopQ.rule (fun m st => ∃ (i ver' nx' : Nat), i ≤ x.length ∧ nx ≤ nx' ∧ m = x.length - i ∧
    st = ⟨mkE [(0, .own id ver' 0 (R i).length false), (2, str b), (3, encL inn), (11, encFxs x), (12, i64 x.length), (13, i64 i)],
      ovS [(id, .row ver' 3 (R i) false)] σ, nx'⟩) _ _ ?_
    ⟨0, ver, nx, by omega, by omega, rfl, rfl⟩ ?_
  · refine weak_ofU (by first | (simp -dsimp (disch := first | omega | decide +kernel) only [↓bp0, bd0, bd_MC, reduceIte, Nat.reduceEqDiff, evStore, Nat.reduceAdd, Nat.reduceMul, Int.reduceEq, Int.reduceLT, Int.reduceLE, Nat.reduceLeDiff, List.reduceReplicate, reduceCtorEq, evRange, Nat.reduceLT, hR0]; done) | simp -dsimp [evl, putN, i64, u32, bl, encL, encB, encLL, hR0]) (by first | (simp -dsimp (disch := first | omega | decide +kernel) only [↓bp0, bd0, bd_MC, reduceIte, Nat.reduceEqDiff, evStore, Nat.reduceAdd, Nat.reduceMul, Int.reduceEq, Int.reduceLT, Int.reduceLE, Nat.reduceLeDiff, List.reduceReplicate, reduceCtorEq, evRange, Nat.reduceLT, hR0]; done) | simp -dsimp [evl, putN, i64, u32, bl, encL, encB, encLL, hR0]) (by (try simp -dsimp only [st_put_σ]); repeat (first | exact Sub.rfl' | refine Sub.put ?_ (hfr _ (by omega)) | refine Sub.put ?_ hd | exact Sub.ov ⟨hd, trivial⟩)) (by first | (simp -dsimp (disch := first | omega | decide +kernel) only [↓bp0, bd0, bd_MC, reduceIte, Nat.reduceEqDiff, evStore, Nat.reduceAdd, Nat.reduceMul, Int.reduceEq, Int.reduceLT, Int.reduceLE, Nat.reduceLeDiff, List.reduceReplicate, reduceCtorEq, evRange, Nat.reduceLT, hR0]; done) | simp -dsimp [evl, putN, i64, u32, bl, encL, encB, encLL, hR0])
  rintro m st ⟨i, ver', nx', hil, hnx, rfl, rfl⟩
  have hE1_0a : (id = nx') = False := by simp; omega
  have hE1_0b : (nx' = id) = False := by simp; omega
  have hE1_1a : (id = nx' + 1) = False := by simp; omega
  have hE1_1b : (nx' + 1 = id) = False := by simp; omega
  have hlen := hlenR i hil
  try simp -dsimp (disch := first | omega | decide +kernel) only [↓bp0, bd0, bd_MC, reduceIte, Nat.reduceEqDiff, evStore, Nat.reduceAdd, Nat.reduceMul, Int.reduceEq, Int.reduceLT, Int.reduceLE, Nat.reduceLeDiff, List.reduceReplicate, reduceCtorEq, evRange, Nat.reduceLT, hE1_0a, hE1_0b, hE1_1a, hE1_1b]
  refine onC_nlt (fun h2 => ?_) (fun h2 => ?_)
  · obtain ⟨f, hf, hfm⟩ := get_of_lt h2
    have hs := hstep i f hf
    have hbd : ((R i).length + 1) * 32 ≤ 140737488355328 := by omega
    try simp -dsimp (disch := first | omega | decide +kernel) only [↓bp0, bd0, bd_MC, reduceIte, Nat.reduceEqDiff, evStore, Nat.reduceAdd, Nat.reduceMul, Int.reduceEq, Int.reduceLT, Int.reduceLE, Nat.reduceLeDiff, List.reduceReplicate, reduceCtorEq, evRange, Nat.reduceLT, hf, hE1_0a, hE1_0b, hE1_1a, hE1_1b]
    refine CallQ.imm (cs_con f.brs b (by have := hb f hfm; omega)) (by rfl) (by rfl) (by first | exact .inl rfl | exact .inr rfl | exact .inr scalB | exact .inr scalI | exact .inr scalT | exact .inr scalM | exact .inr scalMT) ?_
    cases w1 : f.brs.any fun y => decide (b = y)
    · have hw : wantB b inn f = false := by rw [wantB, w1]; rfl
      rw [hw] at hs
      simp only [Bool.false_eq_true, if_false, List.append_nil] at hs
      try simp -dsimp (disch := first | omega | decide +kernel) only [↓bp0, bd0, bd_MC, reduceIte, Nat.reduceEqDiff, evStore, Nat.reduceAdd, Nat.reduceMul, Int.reduceEq, Int.reduceLT, Int.reduceLE, Nat.reduceLeDiff, List.reduceReplicate, reduceCtorEq, evRange, Nat.reduceLT, w1, hE1_0a, hE1_0b, hE1_1a, hE1_1b]
      refine ⟨_, _, ?_, ?_, i + 1, ver', nx' + 1, h2, by omega, rfl, rfl⟩
      · omega
      · refine weak_ofU (by first | (simp -dsimp (disch := first | omega | decide +kernel) only [↓bp0, bd0, bd_MC, reduceIte, Nat.reduceEqDiff, evStore, Nat.reduceAdd, Nat.reduceMul, Int.reduceEq, Int.reduceLT, Int.reduceLE, Nat.reduceLeDiff, List.reduceReplicate, reduceCtorEq, evRange, Nat.reduceLT, wrapS h2 (show x.length ≤ 9223372036854775807 by omega), hs, hE1_0a, hE1_0b, hE1_1a, hE1_1b]; done) | simp -dsimp [evl, putN, i64, u32, bl, encL, encB, encLL, wrapS h2 (show x.length ≤ 9223372036854775807 by omega), hs, hE1_0a, hE1_0b, hE1_1a, hE1_1b]) (by first | (simp -dsimp (disch := first | omega | decide +kernel) only [↓bp0, bd0, bd_MC, reduceIte, Nat.reduceEqDiff, evStore, Nat.reduceAdd, Nat.reduceMul, Int.reduceEq, Int.reduceLT, Int.reduceLE, Nat.reduceLeDiff, List.reduceReplicate, reduceCtorEq, evRange, Nat.reduceLT, wrapS h2 (show x.length ≤ 9223372036854775807 by omega), hs, hE1_0a, hE1_0b, hE1_1a, hE1_1b]; done) | simp -dsimp [evl, putN, i64, u32, bl, encL, encB, encLL, wrapS h2 (show x.length ≤ 9223372036854775807 by omega), hs, hE1_0a, hE1_0b, hE1_1a, hE1_1b]) (by (try simp -dsimp only [st_put_σ]); repeat (first | exact Sub.rfl' | refine Sub.put ?_ (hfr _ (by omega)) | refine Sub.put ?_ hd | exact Sub.ov ⟨hd, trivial⟩)) (by first | (simp -dsimp (disch := first | omega | decide +kernel) only [↓bp0, bd0, bd_MC, reduceIte, Nat.reduceEqDiff, evStore, Nat.reduceAdd, Nat.reduceMul, Int.reduceEq, Int.reduceLT, Int.reduceLE, Nat.reduceLeDiff, List.reduceReplicate, reduceCtorEq, evRange, Nat.reduceLT, wrapS h2 (show x.length ≤ 9223372036854775807 by omega), hs, hE1_0a, hE1_0b, hE1_1a, hE1_1b]; done) | simp -dsimp [evl, putN, i64, u32, bl, encL, encB, encLL, wrapS h2 (show x.length ≤ 9223372036854775807 by omega), hs, hE1_0a, hE1_0b, hE1_1a, hE1_1b])
    try simp -dsimp (disch := first | omega | decide +kernel) only [↓bp0, bd0, bd_MC, reduceIte, Nat.reduceEqDiff, evStore, Nat.reduceAdd, Nat.reduceMul, Int.reduceEq, Int.reduceLT, Int.reduceLE, Nat.reduceLeDiff, List.reduceReplicate, reduceCtorEq, evRange, Nat.reduceLT, w1, hE1_0a, hE1_0b, hE1_1a, hE1_1b]
    refine CallQ.imm (ci_con inn f.cls (by omega)) (by rfl) (by rfl) (by first | exact .inl rfl | exact .inr rfl | exact .inr scalB | exact .inr scalI | exact .inr scalT | exact .inr scalM | exact .inr scalMT) ?_
    cases w2 : inn.any fun y => decide (f.cls = y)
    case true =>
      have hw : wantB b inn f = false := by rw [wantB, w1, w2]; rfl
      rw [hw] at hs
      simp only [Bool.false_eq_true, if_false, List.append_nil] at hs
      try simp -dsimp (disch := first | omega | decide +kernel) only [↓bp0, bd0, bd_MC, reduceIte, Nat.reduceEqDiff, evStore, Nat.reduceAdd, Nat.reduceMul, Int.reduceEq, Int.reduceLT, Int.reduceLE, Nat.reduceLeDiff, List.reduceReplicate, reduceCtorEq, evRange, Nat.reduceLT, w1, w2, uUn, Option.bind_some, hE1_0a, hE1_0b, hE1_1a, hE1_1b]
      refine ⟨_, _, ?_, ?_, i + 1, ver', nx' + 1, h2, by omega, rfl, rfl⟩
      · omega
      · refine weak_ofU (by first | (simp -dsimp (disch := first | omega | decide +kernel) only [↓bp0, bd0, bd_MC, reduceIte, Nat.reduceEqDiff, evStore, Nat.reduceAdd, Nat.reduceMul, Int.reduceEq, Int.reduceLT, Int.reduceLE, Nat.reduceLeDiff, List.reduceReplicate, reduceCtorEq, evRange, Nat.reduceLT, wrapS h2 (show x.length ≤ 9223372036854775807 by omega), hs, hE1_0a, hE1_0b, hE1_1a, hE1_1b]; done) | simp -dsimp [evl, putN, i64, u32, bl, encL, encB, encLL, wrapS h2 (show x.length ≤ 9223372036854775807 by omega), hs, hE1_0a, hE1_0b, hE1_1a, hE1_1b]) (by first | (simp -dsimp (disch := first | omega | decide +kernel) only [↓bp0, bd0, bd_MC, reduceIte, Nat.reduceEqDiff, evStore, Nat.reduceAdd, Nat.reduceMul, Int.reduceEq, Int.reduceLT, Int.reduceLE, Nat.reduceLeDiff, List.reduceReplicate, reduceCtorEq, evRange, Nat.reduceLT, wrapS h2 (show x.length ≤ 9223372036854775807 by omega), hs, hE1_0a, hE1_0b, hE1_1a, hE1_1b]; done) | simp -dsimp [evl, putN, i64, u32, bl, encL, encB, encLL, wrapS h2 (show x.length ≤ 9223372036854775807 by omega), hs, hE1_0a, hE1_0b, hE1_1a, hE1_1b]) (by (try simp -dsimp only [st_put_σ]); repeat (first | exact Sub.rfl' | refine Sub.put ?_ (hfr _ (by omega)) | refine Sub.put ?_ hd | exact Sub.ov ⟨hd, trivial⟩)) (by first | (simp -dsimp (disch := first | omega | decide +kernel) only [↓bp0, bd0, bd_MC, reduceIte, Nat.reduceEqDiff, evStore, Nat.reduceAdd, Nat.reduceMul, Int.reduceEq, Int.reduceLT, Int.reduceLE, Nat.reduceLeDiff, List.reduceReplicate, reduceCtorEq, evRange, Nat.reduceLT, wrapS h2 (show x.length ≤ 9223372036854775807 by omega), hs, hE1_0a, hE1_0b, hE1_1a, hE1_1b]; done) | simp -dsimp [evl, putN, i64, u32, bl, encL, encB, encLL, wrapS h2 (show x.length ≤ 9223372036854775807 by omega), hs, hE1_0a, hE1_0b, hE1_1a, hE1_1b])
    have hw : wantB b inn f = true := by rw [wantB, w1, w2]; rfl
    rw [hw] at hs
    simp only [if_true] at hs
    try simp -dsimp (disch := first | omega | decide +kernel) only [↓bp0, bd0, bd_MC, reduceIte, Nat.reduceEqDiff, evStore, Nat.reduceAdd, Nat.reduceMul, Int.reduceEq, Int.reduceLT, Int.reduceLE, Nat.reduceLeDiff, List.reduceReplicate, reduceCtorEq, evRange, Nat.reduceLT, w1, w2, uUn, Option.bind_some, bldGp, hbd, hE1_0a, hE1_0b, hE1_1a, hE1_1b]
    refine ⟨_, _, ?_, ?_, i + 1, ver' + 1, nx' + 2, h2, by omega, rfl, rfl⟩
    · omega
    · refine weak_ofU (by first | (simp -dsimp (disch := first | omega | decide +kernel) only [↓bp0, bd0, bd_MC, reduceIte, Nat.reduceEqDiff, evStore, Nat.reduceAdd, Nat.reduceMul, Int.reduceEq, Int.reduceLT, Int.reduceLE, Nat.reduceLeDiff, List.reduceReplicate, reduceCtorEq, evRange, Nat.reduceLT, wrapS h2 (show x.length ≤ 9223372036854775807 by omega), hs, List.length_append, List.length_cons, List.length_nil, hE1_0a, hE1_0b, hE1_1a, hE1_1b]; done) | simp -dsimp [evl, putN, i64, u32, bl, encL, encB, encLL, wrapS h2 (show x.length ≤ 9223372036854775807 by omega), hs, List.length_append, List.length_cons, List.length_nil, hE1_0a, hE1_0b, hE1_1a, hE1_1b]) (by first | (simp -dsimp (disch := first | omega | decide +kernel) only [↓bp0, bd0, bd_MC, reduceIte, Nat.reduceEqDiff, evStore, Nat.reduceAdd, Nat.reduceMul, Int.reduceEq, Int.reduceLT, Int.reduceLE, Nat.reduceLeDiff, List.reduceReplicate, reduceCtorEq, evRange, Nat.reduceLT, wrapS h2 (show x.length ≤ 9223372036854775807 by omega), hs, List.length_append, List.length_cons, List.length_nil, hE1_0a, hE1_0b, hE1_1a, hE1_1b]; done) | simp -dsimp [evl, putN, i64, u32, bl, encL, encB, encLL, wrapS h2 (show x.length ≤ 9223372036854775807 by omega), hs, List.length_append, List.length_cons, List.length_nil, hE1_0a, hE1_0b, hE1_1a, hE1_1b]) (by (try simp -dsimp only [st_put_σ]); repeat (first | exact Sub.rfl' | refine Sub.put ?_ (hfr _ (by omega)) | refine Sub.put ?_ hd | exact Sub.ov ⟨hd, trivial⟩)) (by first | (simp -dsimp (disch := first | omega | decide +kernel) only [↓bp0, bd0, bd_MC, reduceIte, Nat.reduceEqDiff, evStore, Nat.reduceAdd, Nat.reduceMul, Int.reduceEq, Int.reduceLT, Int.reduceLE, Nat.reduceLeDiff, List.reduceReplicate, reduceCtorEq, evRange, Nat.reduceLT, wrapS h2 (show x.length ≤ 9223372036854775807 by omega), hs, List.length_append, List.length_cons, List.length_nil, hE1_0a, hE1_0b, hE1_1a, hE1_1b]; done) | simp -dsimp [evl, putN, i64, u32, bl, encL, encB, encLL, wrapS h2 (show x.length ≤ 9223372036854775807 by omega), hs, List.length_append, List.length_cons, List.length_nil, hE1_0a, hE1_0b, hE1_1a, hE1_1b])
  · have hil2 : i = x.length := by omega
    subst hil2
    simp -dsimp (disch := first | omega | decide +kernel) only [↓bp0, bd0, bd_MC, reduceIte, Nat.reduceEqDiff, evStore, Nat.reduceAdd, Nat.reduceMul, Int.reduceEq, Int.reduceLT, Int.reduceLE, Nat.reduceLeDiff, List.reduceReplicate, reduceCtorEq, evRange, Nat.reduceLT, stQ, resL, tupOf, List.toList_toArray, Tryz.f58]
    exact ⟨_, _, .refl _, hnx, ver', rfl, rfl⟩
end Go.Ab
end
