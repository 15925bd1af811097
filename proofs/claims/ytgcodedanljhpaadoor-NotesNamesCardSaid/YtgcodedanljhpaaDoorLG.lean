/- The error of a table. -/
import Derived.Test.YtgcodedanljhpaaDoorLE
set_option linter.unusedSimpArgs false
set_option linter.unusedVariables false
section
set_option maxRecDepth 100000
set_option maxHeartbeats 8000000
namespace Go.Ab
open Go Go.Proofs
theorem bd_LF : type_of% (And.intro @evNext.eq_1 (And.intro @fld (And.intro @nit (And.intro @nxE (And.intro @evBin_seql (And.intro @evBin_sneq (And.intro @str.eq_1 (And.intro @u8.eq_1 (And.intro @encBrs.eq_1 (And.intro @cBr.eq_1 (And.intro @List.set_cons_succ.{0} (And.intro @List.getElem?_cons_zero.{0} (And.intro @List.getElem?_cons_succ.{0} (@List.length_set.{0})))))))))))))) := And.intro @evNext.eq_1 (And.intro @fld (And.intro @nit (And.intro @nxE (And.intro @evBin_seql (And.intro @evBin_sneq (And.intro @str.eq_1 (And.intro @u8.eq_1 (And.intro @encBrs.eq_1 (And.intro @cBr.eq_1 (And.intro @List.set_cons_succ.{0} (And.intro @List.getElem?_cons_zero.{0} (And.intro @List.getElem?_cons_succ.{0} (@List.length_set.{0})))))))))))))
theorem allBr {l : List Br} : ((l.map cBr).all fun e => e.length == 3) = true := by
  rw [List.all_eq_true]; intro e he; obtain ⟨b, _, rfl⟩ := List.mem_map.1 he; rfl
theorem encTake {l : List Br} {i : Nat} : List.drop 0 (List.take i (l.map cBr)) = (l.take i).map cBr := by rw [List.drop_zero, List.map_take]
theorem onC_ilt {a b : Int} {t e : Prop} (h1 : a < b → t) (h2 : b ≤ a → e) : onC (some (.lit (.bool (decide (a < b))))) t e :=
  onC_dec h1 fun h => h2 (by omega)
theorem d_Check (l : List Br) (hl : l.length ≤ 9223372036854775807) : CallSpec cx 51 [encBrs l] (i64 (bchk l)) := by
  refine callSpec_of_vc Tryd.func51 rfl (by decide) (by kernel_rfl) (Nat.le_of_ble_eq_true rfl) ?_
  cases h8 : decide ((8 : Int) < l.length)
  case true =>
    simp -dsimp (maxSteps := 9^9) (disch := first | omega | decide +kernel) only [↓bp0, bd0, bd_LF, reduceIte, Nat.reduceEqDiff, evStore, Nat.reduceAdd, Nat.reduceMul, Int.reduceEq, Int.reduceLT, Int.reduceLE, Nat.reduceLeDiff, List.reduceReplicate, reduceCtorEq, evRange, Nat.reduceLT, retQ, resL, finL, newL, flat, tupOf, List.toList_toArray, Tryd.f51, h8]
    refine leT_one (int_eq ?_) (by simp)
    have := of_decide_eq_true h8
    rw [bchk.eq_def, if_pos (by omega)]
  have h8' := of_decide_eq_false h8
  have e1 : bchk l = if dupB l then 14 else match l[0]? with
      | none => 8
      | some b => if b.frm ≠ ⟨#[]⟩ ∨ b.pos ≠ 0 then 8 else if anyI (brB l) l then 8 else 0 := by
    rw [bchk.eq_def, if_neg (by omega)]
    rfl
  try simp -dsimp (maxSteps := 9^9) (disch := first | omega | decide +kernel) only [↓bp0, bd0, bd_LF, reduceIte, Nat.reduceEqDiff, evStore, Nat.reduceAdd, Nat.reduceMul, Int.reduceEq, Int.reduceLT, Int.reduceLE, Nat.reduceLeDiff, List.reduceReplicate, reduceCtorEq, evRange, Nat.reduceLT, Tryd.f51, h8]
  refine LoopQ.rule (fun m st => ∃ i nx : Nat, i ≤ l.length ∧ (∀ (j : Nat) b, j < i → l[j]? = some b → ¬ idx l b.name < j) ∧ m = l.length - i ∧
    st = ⟨mkE [(0, encBrs l), (10, encBrs l), (11, i64 l.length), (12, i64 i)], mkS [], nx⟩) _ _ (weak_of ?_) ⟨0, 0, by omega, fun _ _ h => by omega, rfl, rfl⟩ ?_
  · first | (simp -dsimp (maxSteps := 9^9) (disch := first | omega | decide +kernel) only [↓bp0, bd0, bd_LF, reduceIte, Nat.reduceEqDiff, evStore, Nat.reduceAdd, Nat.reduceMul, Int.reduceEq, Int.reduceLT, Int.reduceLE, Nat.reduceLeDiff, List.reduceReplicate, reduceCtorEq, evRange, Nat.reduceLT, encBrs]; done) | simp -dsimp [evl, putN, i64, u32, bl, encL, encB, encLL, encBrs]
  rintro m st ⟨i, nx, hi, hpre, rfl, rfl⟩
  try simp -dsimp (maxSteps := 9^9) (disch := first | omega | decide +kernel) only [↓bp0, bd0, bd_LF, reduceIte, Nat.reduceEqDiff, evStore, Nat.reduceAdd, Nat.reduceMul, Int.reduceEq, Int.reduceLT, Int.reduceLE, Nat.reduceLeDiff, List.reduceReplicate, reduceCtorEq, evRange, Nat.reduceLT, encBrs]
  refine onC_nlt (fun h2 => ?_) (fun h2 => ?_)
  · obtain ⟨b, hx, hxm⟩ := get_of_lt h2
    try simp -dsimp (maxSteps := 9^9) (disch := first | omega | decide +kernel) only [↓bp0, bd0, bd_LF, reduceIte, Nat.reduceEqDiff, evStore, Nat.reduceAdd, Nat.reduceMul, Int.reduceEq, Int.reduceLT, Int.reduceLE, Nat.reduceLeDiff, List.reduceReplicate, reduceCtorEq, evRange, Nat.reduceLT, hx]
    refine CallQ.imm (d_index l b.name hl) (by rfl) (by first | rfl | (simp -dsimp (maxSteps := 9^9) (disch := first | omega | decide +kernel) only [↓bp0, bd0, bd_LF, reduceIte, Nat.reduceEqDiff, evStore, Nat.reduceAdd, Nat.reduceMul, Int.reduceEq, Int.reduceLT, Int.reduceLE, Nat.reduceLeDiff, List.reduceReplicate, reduceCtorEq, evRange, Nat.reduceLT, drcs, drc, flat]; done) | simp -dsimp [evl, drcs, drc, flat, i64, u32, bl, encL, encB, encLL]) (by first | exact .inl rfl | exact .inr rfl | exact .inr scalB | exact .inr scalI | exact .inr scalT) ?_
    try simp -dsimp (maxSteps := 9^9) (disch := first | omega | decide +kernel) only [↓bp0, bd0, bd_LF, reduceIte, Nat.reduceEqDiff, evStore, Nat.reduceAdd, Nat.reduceMul, Int.reduceEq, Int.reduceLT, Int.reduceLE, Nat.reduceLeDiff, List.reduceReplicate, reduceCtorEq, evRange, Nat.reduceLT]
    refine onC_ilt (fun h3 => ?_) (fun h3 => ?_)
    · simp -dsimp (maxSteps := 9^9) (disch := first | omega | decide +kernel) only [↓bp0, bd0, bd_LF, reduceIte, Nat.reduceEqDiff, evStore, Nat.reduceAdd, Nat.reduceMul, Int.reduceEq, Int.reduceLT, Int.reduceLE, Nat.reduceLeDiff, List.reduceReplicate, reduceCtorEq, evRange, Nat.reduceLT, retQ, resL, finL, newL, flat, tupOf, List.toList_toArray]
      refine leT_one (int_eq ?_) (by simp)
      rw [e1, if_pos]
      rw [dupB, List.any_eq_true]
      exact ⟨i, List.mem_range.2 h2, by rw [hx]; exact decide_eq_true h3⟩
    try simp -dsimp (maxSteps := 9^9) (disch := first | omega | decide +kernel) only [↓bp0, bd0, bd_LF, reduceIte, Nat.reduceEqDiff, evStore, Nat.reduceAdd, Nat.reduceMul, Int.reduceEq, Int.reduceLT, Int.reduceLE, Nat.reduceLeDiff, List.reduceReplicate, reduceCtorEq, evRange, Nat.reduceLT]
    refine ⟨_, _, ?_, weak_of ?_, i + 1, nx + 1, h2, ?_, rfl, rfl⟩
    · omega
    · first | (simp -dsimp (maxSteps := 9^9) (disch := first | omega | decide +kernel) only [↓bp0, bd0, bd_LF, reduceIte, Nat.reduceEqDiff, evStore, Nat.reduceAdd, Nat.reduceMul, Int.reduceEq, Int.reduceLT, Int.reduceLE, Nat.reduceLeDiff, List.reduceReplicate, reduceCtorEq, evRange, Nat.reduceLT, wrapS h2 hl]; done) | simp -dsimp [evl, putN, i64, u32, bl, encL, encB, encLL, wrapS h2 hl]
    · intro j b' hj hb'
      by_cases hji : j = i
      · subst hji; rw [hx] at hb'; cases hb'; omega
      · exact hpre j b' (by omega) hb'
  have hdup : dupB l = false := by
    rw [dupB, List.any_eq_false]
    intro i hi
    rw [List.mem_range] at hi
    cases hb : l[i]? with
    | none => simp
    | some b => simpa using hpre i b (by omega) hb
  rw [if_neg (by rw [hdup]; simp)] at e1
  cases hnil : decide ((l.length : Int) = 0)
  case true =>
    have h0 : l = [] := List.eq_nil_of_length_eq_zero (by have := of_decide_eq_true hnil; omega)
    simp -dsimp (maxSteps := 9^9) (disch := first | omega | decide +kernel) only [↓bp0, bd0, bd_LF, reduceIte, Nat.reduceEqDiff, evStore, Nat.reduceAdd, Nat.reduceMul, Int.reduceEq, Int.reduceLT, Int.reduceLE, Nat.reduceLeDiff, List.reduceReplicate, reduceCtorEq, evRange, Nat.reduceLT, retQ, resL, finL, newL, flat, tupOf, List.toList_toArray, hnil]
    refine leT_one (int_eq ?_) (by simp)
    rw [e1, h0]; rfl
  have hpos : 0 < l.length := by have := of_decide_eq_false hnil; omega
  obtain ⟨b0, r, hl0⟩ : ∃ b0 r, l = b0 :: r := by
    cases l with
    | nil => simp at hpos
    | cons b r => exact ⟨b, r, rfl⟩
  have hx0 : l[0]? = some b0 := by rw [hl0]; rfl
  have e2 : bchk l = if b0.frm ≠ ⟨#[]⟩ ∨ b0.pos ≠ 0 then 8 else if anyI (brB l) l then 8 else 0 := by
    rw [e1, hx0]
  cases hf : decide (b0.frm = ⟨#[]⟩)
  case false =>
    simp -dsimp (maxSteps := 9^9) (disch := first | omega | decide +kernel) only [↓bp0, bd0, bd_LF, reduceIte, Nat.reduceEqDiff, evStore, Nat.reduceAdd, Nat.reduceMul, Int.reduceEq, Int.reduceLT, Int.reduceLE, Nat.reduceLeDiff, List.reduceReplicate, reduceCtorEq, evRange, Nat.reduceLT, retQ, resL, finL, newL, flat, tupOf, List.toList_toArray, hnil, hx0, cBr, hf, natK]
    refine leT_one (int_eq ?_) (by simp)
    rw [e2, if_pos (.inl (of_decide_eq_false hf))]
  cases hp : decide (b0.pos = 0)
  case false =>
    simp -dsimp (maxSteps := 9^9) (disch := first | omega | decide +kernel) only [↓bp0, bd0, bd_LF, reduceIte, Nat.reduceEqDiff, evStore, Nat.reduceAdd, Nat.reduceMul, Int.reduceEq, Int.reduceLT, Int.reduceLE, Nat.reduceLeDiff, List.reduceReplicate, reduceCtorEq, evRange, Nat.reduceLT, retQ, resL, finL, newL, flat, tupOf, List.toList_toArray, hnil, hx0, cBr, hf, hp, natK]
    refine leT_one (int_eq ?_) (by simp)
    rw [e2, if_pos (.inr (of_decide_eq_false hp))]
  have e3 : bchk l = if anyI (brB l) l then 8 else 0 := by
    rw [e2, if_neg]
    rw [not_or, Decidable.not_not, Decidable.not_not]
    exact ⟨of_decide_eq_true hf, of_decide_eq_true hp⟩
  try simp -dsimp (maxSteps := 9^9) (disch := first | omega | decide +kernel) only [↓bp0, bd0, bd_LF, reduceIte, Nat.reduceEqDiff, evStore, Nat.reduceAdd, Nat.reduceMul, Int.reduceEq, Int.reduceLT, Int.reduceLE, Nat.reduceLeDiff, List.reduceReplicate, reduceCtorEq, evRange, Nat.reduceLT, hnil, hx0, cBr, hf, hp, natK]
  refine LoopQ.rule (fun m st => ∃ i nx : Nat, i ≤ l.length ∧ (∀ (j : Nat) b, j < i → l[j]? = some b → brB l j b = false) ∧ m = l.length - i ∧
    st = ⟨mkE [(0, encBrs l), (41, encBrs l), (42, i64 l.length), (43, i64 i)], mkS [], nx⟩) _ _ (weak_of ?_) ⟨0, nx, by omega, fun _ _ h => by omega, rfl, rfl⟩ ?_
  · first | (simp -dsimp (maxSteps := 9^9) (disch := first | omega | decide +kernel) only [↓bp0, bd0, bd_LF, reduceIte, Nat.reduceEqDiff, evStore, Nat.reduceAdd, Nat.reduceMul, Int.reduceEq, Int.reduceLT, Int.reduceLE, Nat.reduceLeDiff, List.reduceReplicate, reduceCtorEq, evRange, Nat.reduceLT, encBrs]; done) | simp -dsimp [evl, putN, i64, u32, bl, encL, encB, encLL, encBrs]
  rintro m st ⟨i, nx, hi, hpre, rfl, rfl⟩
  try simp -dsimp (maxSteps := 9^9) (disch := first | omega | decide +kernel) only [↓bp0, bd0, bd_LF, reduceIte, Nat.reduceEqDiff, evStore, Nat.reduceAdd, Nat.reduceMul, Int.reduceEq, Int.reduceLT, Int.reduceLE, Nat.reduceLeDiff, List.reduceReplicate, reduceCtorEq, evRange, Nat.reduceLT, encBrs]
  refine onC_nlt (fun h2 => ?_) (fun h2 => ?_)
  · obtain ⟨b, hx, hxm⟩ := get_of_lt h2
    have hbad : brB l i b = true → bchk l = 8 := fun h => by
      rw [e3, if_pos (anyI_iff.2 ⟨i, b, hx, h⟩)]
    have hgo : brB l i b = false → ∀ (j : Nat) b, j < i + 1 → l[j]? = some b → brB l j b = false := fun h j b' hj hb' => by
      by_cases hji : j = i
      · subst hji; rw [hx] at hb'; cases hb'; exact h
      · exact hpre j b' (by omega) hb'
    try simp -dsimp (maxSteps := 9^9) (disch := first | omega | decide +kernel) only [↓bp0, bd0, bd_LF, reduceIte, Nat.reduceEqDiff, evStore, Nat.reduceAdd, Nat.reduceMul, Int.reduceEq, Int.reduceLT, Int.reduceLE, Nat.reduceLeDiff, List.reduceReplicate, reduceCtorEq, evRange, Nat.reduceLT, hx]
    refine CallY.imm (d_isName b.name) (by rfl) (by first | rfl | (simp -dsimp (maxSteps := 9^9) (disch := first | omega | decide +kernel) only [↓bp0, bd0, bd_LF, reduceIte, Nat.reduceEqDiff, evStore, Nat.reduceAdd, Nat.reduceMul, Int.reduceEq, Int.reduceLT, Int.reduceLE, Nat.reduceLeDiff, List.reduceReplicate, reduceCtorEq, evRange, Nat.reduceLT, drcs, drc, flat]; done) | simp -dsimp [evl, drcs, drc, flat, i64, u32, bl, encL, encB, encLL]) (by first | exact .inl rfl | exact .inr rfl | exact .inr scalB | exact .inr scalI | exact .inr scalT) ?_
    cases hn : nameB b.name
    · simp -dsimp (maxSteps := 9^9) (disch := first | omega | decide +kernel) only [↓bp0, bd0, bd_LF, reduceIte, Nat.reduceEqDiff, evStore, Nat.reduceAdd, Nat.reduceMul, Int.reduceEq, Int.reduceLT, Int.reduceLE, Nat.reduceLeDiff, List.reduceReplicate, reduceCtorEq, evRange, Nat.reduceLT, retQ, resL, finL, newL, flat, tupOf, List.toList_toArray, hn, uUn, Option.bind_some]
      exact leT_one (int_eq (hbad (by simp [brB, hn])).symm) (by simp)
    cases h1 : decide (b.pos < 0)
    case true =>
      simp -dsimp (maxSteps := 9^9) (disch := first | omega | decide +kernel) only [↓bp0, bd0, bd_LF, reduceIte, Nat.reduceEqDiff, evStore, Nat.reduceAdd, Nat.reduceMul, Int.reduceEq, Int.reduceLT, Int.reduceLE, Nat.reduceLeDiff, List.reduceReplicate, reduceCtorEq, evRange, Nat.reduceLT, retQ, resL, finL, newL, flat, tupOf, List.toList_toArray, hn, h1, uUn, Option.bind_some]
      exact leT_one (int_eq (hbad (by simp [brB, hn, h1])).symm) (by simp)
    cases h3 : decide (320 < b.pos)
    case true =>
      simp -dsimp (maxSteps := 9^9) (disch := first | omega | decide +kernel) only [↓bp0, bd0, bd_LF, reduceIte, Nat.reduceEqDiff, evStore, Nat.reduceAdd, Nat.reduceMul, Int.reduceEq, Int.reduceLT, Int.reduceLE, Nat.reduceLeDiff, List.reduceReplicate, reduceCtorEq, evRange, Nat.reduceLT, retQ, resL, finL, newL, flat, tupOf, List.toList_toArray, hn, h1, h3, uUn, Option.bind_some]
      exact leT_one (int_eq (hbad (by simp [brB, hn, h1, h3])).symm) (by simp)
    cases h4 : decide ((0 : Int) < i)
    case false =>
      have h4' := of_decide_eq_false h4
      try simp -dsimp (maxSteps := 9^9) (disch := first | omega | decide +kernel) only [↓bp0, bd0, bd_LF, reduceIte, Nat.reduceEqDiff, evStore, Nat.reduceAdd, Nat.reduceMul, Int.reduceEq, Int.reduceLT, Int.reduceLE, Nat.reduceLeDiff, List.reduceReplicate, reduceCtorEq, evRange, Nat.reduceLT, hn, h1, h3, h4, uUn, Option.bind_some]
      refine ⟨_, _, ?_, weak_of ?_, i + 1, nx + 1, h2, hgo ?_, rfl, rfl⟩
      · omega
      · first | (simp -dsimp (maxSteps := 9^9) (disch := first | omega | decide +kernel) only [↓bp0, bd0, bd_LF, reduceIte, Nat.reduceEqDiff, evStore, Nat.reduceAdd, Nat.reduceMul, Int.reduceEq, Int.reduceLT, Int.reduceLE, Nat.reduceLeDiff, List.reduceReplicate, reduceCtorEq, evRange, Nat.reduceLT, wrapS h2 hl]; done) | simp -dsimp [evl, putN, i64, u32, bl, encL, encB, encLL, wrapS h2 hl]
      · simp [brB, hn, h1, h3]; omega
    have h4' := of_decide_eq_true h4
    have h5 : decide (0 < i) = true := decide_eq_true (by omega)
    have hil : i ≤ l.length := by omega
    try simp -dsimp (maxSteps := 9^9) (disch := first | omega | decide +kernel) only [↓bp0, bd0, bd_LF, reduceIte, Nat.reduceEqDiff, evStore, Nat.reduceAdd, Nat.reduceMul, Int.reduceEq, Int.reduceLT, Int.reduceLE, Nat.reduceLeDiff, List.reduceReplicate, reduceCtorEq, evRange, Nat.reduceLT, hn, h1, h3, h4, hil, allBr, encTake, uUn, Option.bind_some, Bool.false_and, evSlice, slc]
    refine CallY.imm (d_index (l.take i) b.frm (by rw [List.length_take]; omega)) (by rfl) (by first | rfl | (simp -dsimp (maxSteps := 9^9) (disch := first | omega | decide +kernel) only [↓bp0, bd0, bd_LF, reduceIte, Nat.reduceEqDiff, evStore, Nat.reduceAdd, Nat.reduceMul, Int.reduceEq, Int.reduceLT, Int.reduceLE, Nat.reduceLeDiff, List.reduceReplicate, reduceCtorEq, evRange, Nat.reduceLT, drcs, drc, flat, encBrs, List.map_take]; done) | simp -dsimp [evl, drcs, drc, flat, i64, u32, bl, encL, encB, encLL]) (by first | exact .inl rfl | exact .inr rfl | exact .inr scalB | exact .inr scalI | exact .inr scalT) ?_
    cases h6 : decide (idx (l.take i) b.frm < 0)
    case true =>
      simp -dsimp (maxSteps := 9^9) (disch := first | omega | decide +kernel) only [↓bp0, bd0, bd_LF, reduceIte, Nat.reduceEqDiff, evStore, Nat.reduceAdd, Nat.reduceMul, Int.reduceEq, Int.reduceLT, Int.reduceLE, Nat.reduceLeDiff, List.reduceReplicate, reduceCtorEq, evRange, Nat.reduceLT, retQ, resL, finL, newL, flat, tupOf, List.toList_toArray, h6]
      exact leT_one (int_eq (hbad (by simp [brB, h5, h6])).symm) (by simp)
    try simp -dsimp (maxSteps := 9^9) (disch := first | omega | decide +kernel) only [↓bp0, bd0, bd_LF, reduceIte, Nat.reduceEqDiff, evStore, Nat.reduceAdd, Nat.reduceMul, Int.reduceEq, Int.reduceLT, Int.reduceLE, Nat.reduceLeDiff, List.reduceReplicate, reduceCtorEq, evRange, Nat.reduceLT, h6]
    refine ⟨_, _, ?_, weak_of ?_, i + 1, nx + 1, h2, hgo ?_, rfl, rfl⟩
    · omega
    · first | (simp -dsimp (maxSteps := 9^9) (disch := first | omega | decide +kernel) only [↓bp0, bd0, bd_LF, reduceIte, Nat.reduceEqDiff, evStore, Nat.reduceAdd, Nat.reduceMul, Int.reduceEq, Int.reduceLT, Int.reduceLE, Nat.reduceLeDiff, List.reduceReplicate, reduceCtorEq, evRange, Nat.reduceLT, wrapS h2 hl]; done) | simp -dsimp [evl, putN, i64, u32, bl, encL, encB, encLL, wrapS h2 hl]
    · simp [brB, hn, h1, h3, h5, h6]
  simp -dsimp (maxSteps := 9^9) (disch := first | omega | decide +kernel) only [↓bp0, bd0, bd_LF, reduceIte, Nat.reduceEqDiff, evStore, Nat.reduceAdd, Nat.reduceMul, Int.reduceEq, Int.reduceLT, Int.reduceLE, Nat.reduceLeDiff, List.reduceReplicate, reduceCtorEq, evRange, Nat.reduceLT, retQ, resL, finL, newL, flat, tupOf, List.toList_toArray]
  refine leT_one (int_eq ?_) (by simp)
  rw [e3, if_neg]
  rw [Bool.not_eq_true, anyI_false]
  exact fun j b hb => hpre j b (by have := (List.getElem?_eq_some_iff.1 hb).1; omega) hb
end Go.Ab
end

section
/- Where branches start. -/
set_option maxRecDepth 100000
set_option maxHeartbeats 8000000
namespace Go.Ab
open Go Go.Proofs
theorem bd_LG : type_of% (And.intro @evNext.eq_1 (And.intro @fld (And.intro @nit (And.intro @nxE (And.intro @evBin_seql (And.intro @evBin_sneq (And.intro @str.eq_1 (And.intro @u8.eq_1 (And.intro @encBrs.eq_1 (And.intro @cBr.eq_1 (And.intro @List.set_cons_succ.{0} (And.intro @List.getElem?_cons_zero.{0} (And.intro @List.getElem?_cons_succ.{0} (@List.length_set.{0})))))))))))))) := And.intro @evNext.eq_1 (And.intro @fld (And.intro @nit (And.intro @nxE (And.intro @evBin_seql (And.intro @evBin_sneq (And.intro @str.eq_1 (And.intro @u8.eq_1 (And.intro @encBrs.eq_1 (And.intro @cBr.eq_1 (And.intro @List.set_cons_succ.{0} (And.intro @List.getElem?_cons_zero.{0} (And.intro @List.getElem?_cons_succ.{0} (@List.length_set.{0})))))))))))))
structure TOk (l : List Br) (cs : List Int) : Prop where
  chk : bchk l = 0
  len : cs.length = l.length
  cnt : ∀ (i : Nat) c, cs[i]? = some c → 0 ≤ c ∧ c ≤ 40
def endsF (l : List Br) (cs : List Int) (i : Nat) (s : Str) : Option PV := if 0 ≤ idx (l.take i) s then some (i64 (endOf l cs (idx (l.take i) s).toNat)) else none
section
variable {l : List Br} {cs : List Int} (h : TOk l cs)
include h
theorem TOk.b {i : Nat} {b : Br} (hb : l[i]? = some b) : nameB b.name = true ∧ 0 ≤ b.pos ∧ b.pos ≤ 320 ∧ (0 < i → 0 ≤ idx (l.take i) b.frm) := brB_false (anyI_false.1 (bchk_ok h.chk).2.2.2 i b hb)
theorem TOk.uniq {i : Nat} {b : Br} (hb : l[i]? = some b) : idx l b.name = i := by
  have h1 := (bchk_ok h.chk).2.1
  have hi := (List.getElem?_eq_some_iff.1 hb).1
  rw [dupB, List.any_eq_false] at h1
  have := h1 i (List.mem_range.2 hi)
  rw [hb] at this
  simp only [decide_eq_true_eq] at this
  have := idx_first hb rfl
  omega
theorem TOk.new {i : Nat} {b : Br} (hb : l[i]? = some b) : idx (l.take i) b.name < 0 := by
  apply Classical.byContradiction
  intro hc
  have := idx_take (l := l) (i := i) (n := b.name) (by omega)
  have h2 := h.uniq hb
  omega
theorem TOk.ends {i : Nat} {b : Br} (hb : l[i]? = some b) (s : Str) : endsF l cs (i + 1) s = if s = b.name then some (i64 (endOf l cs i)) else endsF l cs i s := by
  have htk := take_succ hb
  have hi := (List.getElem?_eq_some_iff.1 hb).1
  have hlen : (l.take i).length = i := by rw [List.length_take]; omega
  unfold endsF
  by_cases e : s = b.name
  · subst e
    have h1 : idx (l.take (i + 1)) b.name = i := by
      have hb' : (l.take (i + 1))[i]? = some b := by rw [List.getElem?_take, if_pos (by omega)]; exact hb
      have h2 := idx_first hb' rfl
      have h3 := (idx_take (l := l) (i := i + 1) (n := b.name) h2.1).1
      rw [h.uniq hb] at h3; omega
    rw [h1, if_pos rfl, if_pos (by omega)]; simp
  · rw [if_neg e]
    have h1 : idx (l.take (i + 1)) s = idx (l.take i) s := by
      by_cases h0 : 0 ≤ idx (l.take (i + 1)) s
      · obtain ⟨e1, e2⟩ := idx_nat h0
        obtain ⟨b', hb', hn'⟩ := idx_some e1
        have hlt : (idx (l.take (i + 1)) s).toNat < i := by
          have h9 : (idx (l.take (i + 1)) s).toNat < i + 1 := by rw [List.length_take] at e2; omega
          rcases Nat.lt_or_ge (idx (l.take (i + 1)) s).toNat i with h8 | h8
          · exact h8
          · have : (idx (l.take (i + 1)) s).toNat = i := by omega
            rw [this, List.getElem?_take, if_pos (by omega), hb] at hb'
            cases hb'
            exact absurd hn'.symm e
        have hb2 : (l.take i)[(idx (l.take (i + 1)) s).toNat]? = some b' := by
          rw [List.getElem?_take, if_pos hlt]
          rw [List.getElem?_take, if_pos (by omega)] at hb'
          exact hb'
        have h3 := idx_first hb2 hn'
        have h4 := idx_take h3.1
        have h5 := idx_take h0
        omega
      · by_cases h2 : 0 ≤ idx (l.take i) s
        · obtain ⟨e1, e2⟩ := idx_nat h2
          obtain ⟨b', hb', hn'⟩ := idx_some e1
          have hlt : (idx (l.take i) s).toNat < i := by rw [hlen] at e2; exact e2
          rw [List.getElem?_take, if_pos hlt] at hb'
          have hb2 : (l.take (i + 1))[(idx (l.take i) s).toNat]? = some b' := by rw [List.getElem?_take, if_pos (by omega)]; exact hb'
          have := idx_first hb2 hn'
          omega
        · have h3 := idx_lo (l := l.take i) (n := s)
          have h4 := idx_lo (l := l.take (i + 1)) (n := s)
          omega
    rw [h1]
end
def fitsB (l : List Br) (cs : List Int) : Bool := !anyI (fun i b => !fitI l cs i b) l
theorem d_starts (l : List Br) (cs : List Int) (h : TOk l cs) : CallSpec cx 86 [encBrs l, encL cs] (.tup [newI (if fitsB l cs then l.map (·.pos) else []), bl (fitsB l cs)]) := by
  have hl : l.length ≤ 8 := (bchk_ok h.chk).1
  refine callSpec_of_vc Tryd.func86 rfl (by decide) (by kernel_rfl) (Nat.le_of_ble_eq_true rfl) ?_
  try simp -dsimp (maxSteps := 9^9) (disch := first | omega | decide +kernel) only [↓bp0, bd0, bd_LG, reduceIte, Nat.reduceEqDiff, evStore, Nat.reduceAdd, Nat.reduceMul, Int.reduceEq, Int.reduceLT, Int.reduceLE, Nat.reduceLeDiff, List.reduceReplicate, reduceCtorEq, evRange, Nat.reduceLT, Tryd.f86, evMakeMap]
  refine LoopQ.ghost 7 1 (by rfl) ?_
  refine LoopQ.rule (fun m st => ∃ (i id ver clock nx : Nat) (kvs : List (Value × PV × Nat)), i ≤ l.length ∧ 0 < id ∧ id < nx ∧ MapI kvs (endsF l cs i) ∧ (∀ (j : Nat) b, j < i → l[j]? = some b → fitI l cs j b = true) ∧ m = l.length - i ∧
    st = ⟨mkE [(0, encBrs l), (1, encL cs), (6, .mp 0), (7, .own id ver 0 i false), (11, encBrs l), (12, i64 l.length), (13, i64 i)], mkS [(0, .map kvs clock false), (id, .row ver 1 (((l.take i).map (·.pos)).map fun n => [i64 n]) false)], nx⟩) _ _ (weak_of ?_)
    ⟨0, 1, 0, 0, 2, [], by omega, by omega, by omega, ?_, fun _ _ h => by omega, rfl, rfl⟩ ?_
  · first | (simp -dsimp (maxSteps := 9^9) (disch := first | omega | decide +kernel) only [↓bp0, bd0, bd_LG, reduceIte, Nat.reduceEqDiff, evStore, Nat.reduceAdd, Nat.reduceMul, Int.reduceEq, Int.reduceLT, Int.reduceLE, Nat.reduceLeDiff, List.reduceReplicate, reduceCtorEq, evRange, Nat.reduceLT, ghR]; done) | simp -dsimp [evl, putN, i64, u32, bl, encL, encB, encLL, ghR]
  · intro s
    simp [findP, endsF, idx, fi]
  rintro m st ⟨i, id, ver, clock, nx, kvs, hi, hid0, hid, hM, hpre, rfl, rfl⟩
  have hE1 : (id = 0) = False := by simp; omega
  have hE2 : (nx = id) = False := by simp; omega
  have hE3 : (id = nx) = False := by simp; omega
  have hE4 : (nx + 1 = id) = False := by simp; omega
  have hE5 : (id = nx + 1) = False := by simp; omega
  have hE6 : (nx = 0) = False := by simp; omega
  have hE7 : (0 = nx) = False := by simp; omega
  have hE8 : (0 = id) = False := by simp; omega
  try simp -dsimp (maxSteps := 9^9) (disch := first | omega | decide +kernel) only [↓bp0, bd0, bd_LG, reduceIte, Nat.reduceEqDiff, evStore, Nat.reduceAdd, Nat.reduceMul, Int.reduceEq, Int.reduceLT, Int.reduceLE, Nat.reduceLeDiff, List.reduceReplicate, reduceCtorEq, evRange, Nat.reduceLT]
  refine onC_nlt (fun h2 => ?_) (fun h2 => ?_)
  · obtain ⟨b, hx, hxm⟩ := get_of_lt h2
    obtain ⟨c, hc, hcm⟩ := get_of_lt (show i < cs.length by rw [h.len]; exact h2)
    obtain ⟨_, hp0, hp1, hfrm⟩ := h.b hx
    have hc40 := h.cnt i c hc
    have hw : IntKind.i64.wrap (b.pos + c) = b.pos + c := IntWalk.i64_in _ (by omega)
    have hend : endOf l cs i = b.pos + c := by simp [endOf, hx, hc]
    have hnone : endsF l cs i b.name = none := by rw [endsF, if_neg]; have := h.new hx; omega
    have hM2 : MapI (kvs ++ [(.string b.name, i64 (b.pos + c), clock)]) (endsF l cs (i + 1)) := by
      have := hM.push (n := clock) (x := i64 (b.pos + c)) hnone
      intro s
      rw [this s, h.ends hx s, hend]
    have hMn : findP .string (.string b.name) kvs = some none := by rw [hM b.name, hnone]
    have hbd : (i + 1) * 8 ≤ 140737488355328 := by omega
    have hrow : (l.take i).length = i := by rw [List.length_take]; omega
    have hgo : fitI l cs i b = true → ∀ (j : Nat) b, j < i + 1 → l[j]? = some b → fitI l cs j b = true := fun hf j b' hj hb' => by
      by_cases hji : j = i
      · subst hji; rw [hx] at hb'; cases hb'; exact hf
      · exact hpre j b' (by omega) hb'
    have key : ∀ (B : Prop), (fitI l cs i b = true → B) → (fitI l cs i b = false → B) → B := fun B h1 h2 => by cases hf : fitI l cs i b; exact h2 hf; exact h1 hf
    cases h4 : decide ((0 : Int) < i)
    case false =>
      have h4' : i = 0 := by have := of_decide_eq_false h4; omega
      try simp -dsimp (maxSteps := 9^9) (disch := first | omega | decide +kernel) only [↓bp0, bd0, bd_LG, reduceIte, Nat.reduceEqDiff, evStore, Nat.reduceAdd, Nat.reduceMul, Int.reduceEq, Int.reduceLT, Int.reduceLE, Nat.reduceLeDiff, List.reduceReplicate, reduceCtorEq, evRange, Nat.reduceLT, hx, hc, h4, hw, hMn, evMapPut, keyS, hE1, hE2, hE3, hE4, hE5, hE6, hE7, hE8, hrow, hbd]
      refine ⟨_, _, ?_, weak_of ?_, i + 1, id, ver + 1, clock + 1, nx + 2, _, h2, hid0, by omega, hM2, hgo ?_, rfl, rfl⟩
      · omega
      · first | (simp -dsimp (maxSteps := 9^9) (disch := first | omega | decide +kernel) only [↓bp0, bd0, bd_LG, reduceIte, Nat.reduceEqDiff, evStore, Nat.reduceAdd, Nat.reduceMul, Int.reduceEq, Int.reduceLT, Int.reduceLE, Nat.reduceLeDiff, List.reduceReplicate, reduceCtorEq, evRange, Nat.reduceLT, wrapS h2 (show l.length ≤ 9223372036854775807 by omega), hE1, hE2, hE3, hE4, hE5, hE6, hE7, hE8, take_succ hx, List.map_append, List.map_cons, List.map_nil]; done) | simp -dsimp [evl, putN, i64, u32, bl, encL, encB, encLL, wrapS h2 (show l.length ≤ 9223372036854775807 by omega), hE1, hE2, hE3, hE4, hE5, hE6, hE7, hE8, take_succ hx, List.map_append, List.map_cons, List.map_nil]
      · simp [fitI, h4']
    have h4' : 0 < i := by have := of_decide_eq_true h4; omega
    have hfr := hfrm h4'
    have hit := idx_take hfr
    have hfe : endsF l cs i b.frm = some (i64 (endOf l cs (idx l b.frm).toNat)) := by rw [endsF, if_pos hfr, hit.1]
    have hMf : findP .string (.string b.frm) kvs = some (some (i64 (endOf l cs (idx l b.frm).toNat))) := by rw [hM b.frm, hfe]
    cases h5 : decide (endOf l cs (idx l b.frm).toNat < b.pos)
    case true =>
      simp -dsimp (maxSteps := 9^9) (disch := first | omega | decide +kernel) only [↓bp0, bd0, bd_LG, reduceIte, Nat.reduceEqDiff, evStore, Nat.reduceAdd, Nat.reduceMul, Int.reduceEq, Int.reduceLT, Int.reduceLE, Nat.reduceLeDiff, List.reduceReplicate, reduceCtorEq, evRange, Nat.reduceLT, retQ, resL, finL, newL, flat, tupOf, List.toList_toArray, hx, hc, h4, hMf, evLookup, keyS, h5, hE1, hE2, hE3, hE4, hE5, hE6, hE7, hE8]
      have hF : fitsB l cs = false := by
        rw [fitsB, Bool.not_eq_false', anyI_iff]
        refine ⟨i, b, hx, ?_⟩
        have := of_decide_eq_true h5
        simp [fitI]; omega
      rw [hF]
      exact ⟨.inr ⟨rfl, 1, rfl⟩, .rfl', trivial⟩
    · try simp -dsimp (maxSteps := 9^9) (disch := first | omega | decide +kernel) only [↓bp0, bd0, bd_LG, reduceIte, Nat.reduceEqDiff, evStore, Nat.reduceAdd, Nat.reduceMul, Int.reduceEq, Int.reduceLT, Int.reduceLE, Nat.reduceLeDiff, List.reduceReplicate, reduceCtorEq, evRange, Nat.reduceLT, hx, hc, h4, hw, hMf, hMn, evLookup, evMapPut, keyS, h5, hE1, hE2, hE3, hE4, hE5, hE6, hE7, hE8, hrow, hbd]
      refine ⟨_, _, ?_, weak_of ?_, i + 1, id, ver + 1, clock + 1, nx + 2, _, h2, hid0, by omega, hM2, hgo ?_, rfl, rfl⟩
      · omega
      · first | (simp -dsimp (maxSteps := 9^9) (disch := first | omega | decide +kernel) only [↓bp0, bd0, bd_LG, reduceIte, Nat.reduceEqDiff, evStore, Nat.reduceAdd, Nat.reduceMul, Int.reduceEq, Int.reduceLT, Int.reduceLE, Nat.reduceLeDiff, List.reduceReplicate, reduceCtorEq, evRange, Nat.reduceLT, wrapS h2 (show l.length ≤ 9223372036854775807 by omega), hE1, hE2, hE3, hE4, hE5, hE6, hE7, hE8, take_succ hx, List.map_append, List.map_cons, List.map_nil]; done) | simp -dsimp [evl, putN, i64, u32, bl, encL, encB, encLL, wrapS h2 (show l.length ≤ 9223372036854775807 by omega), hE1, hE2, hE3, hE4, hE5, hE6, hE7, hE8, take_succ hx, List.map_append, List.map_cons, List.map_nil]
      · have := of_decide_eq_false h5
        simp [fitI]; omega
  · have hil : i = l.length := by omega
    subst hil
    have hF : fitsB l cs = true := by
      rw [fitsB, Bool.not_eq_true', anyI_false]
      intro j b hb
      rw [hpre j b (List.getElem?_eq_some_iff.1 hb).1 hb]; rfl
    have hT : List.take l.length (List.map (fun n => [PV.lit (.int .i64 n)]) (List.map (fun x => x.pos) l)) = List.map (fun n => [PV.lit (.int .i64 n)]) (List.map (fun x => x.pos) l) := List.take_of_length_le (by simp)
    simp -dsimp (maxSteps := 9^9) (disch := first | omega | decide +kernel) only [↓bp0, bd0, bd_LG, reduceIte, Nat.reduceEqDiff, evStore, Nat.reduceAdd, Nat.reduceMul, Int.reduceEq, Int.reduceLT, Int.reduceLE, Nat.reduceLeDiff, List.reduceReplicate, reduceCtorEq, evRange, Nat.reduceLT, retQ, resL, finL, newL, flat, tupOf, List.toList_toArray, Tryd.f86, hE1, hE8, hF, List.take_length, hT]
    exact ⟨.rfl', .rfl', trivial⟩
end Go.Ab
end
