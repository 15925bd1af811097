/- The error of a table. -/
import Derived.Test.YtgcodedanljhpaaGreatDoorLE
set_option linter.unusedSimpArgs false
set_option linter.unusedVariables false
set_option maxRecDepth 100000
set_option maxHeartbeats 8000000
namespace Go.Ab
open Go Go.Proofs
theorem bd_LF : type_of% (And.intro @evNext.eq_1 (And.intro @fld (And.intro @nit (And.intro @nxE (And.intro @evBin_seql (And.intro @evBin_sneq (And.intro @str.eq_1 (And.intro @u8.eq_1 (And.intro @encBrs.eq_1 (And.intro @cBr.eq_1 (And.intro @List.set_cons_succ.{0} (And.intro @List.getElem?_cons_zero.{0} (And.intro @List.getElem?_cons_succ.{0} (@List.length_set.{0})))))))))))))) := And.intro @evNext.eq_1 (And.intro @fld (And.intro @nit (And.intro @nxE (And.intro @evBin_seql (And.intro @evBin_sneq (And.intro @str.eq_1 (And.intro @u8.eq_1 (And.intro @encBrs.eq_1 (And.intro @cBr.eq_1 (And.intro @List.set_cons_succ.{0} (And.intro @List.getElem?_cons_zero.{0} (And.intro @List.getElem?_cons_succ.{0} (@List.length_set.{0})))))))))))))
theorem allBr {l : List Br} : ((l.map cBr).all fun e => e.length == 3) = true := by
  rw [List.all_eq_true]; intro e he; obtain ⟨b, _, rfl⟩ := List.mem_map.1 he; rfl
theorem encTake {l : List Br} {i : Nat} : List.drop 0 (List.take i (l.map cBr)) = (l.take i).map cBr := by rw [List.drop_zero, List.map_take]
theorem onC_ilt {a b : Int} {t e : Prop} (h1 : a < b → t) (h2 : b ≤ a → e) : onC (some (.lit (.bool (decide (a < b))))) t e :=
  onC_dec h1 fun h => h2 (by omega)
theorem d_Check (l : List Br) (hl : l.length ≤ 9223372036854775807) : CallSpec cx 144 [encBrs l] (i64 (bchk l)) := by
  refine callSpec_of_vc Tryz.func144 rfl (by decide) (by kernel_rfl) (Nat.le_of_ble_eq_true rfl) ?_
  cases h8 : decide ((8 : Int) < l.length)
  case true =>
    simp -dsimp (maxSteps := 9^9) (disch := first | omega | decide +kernel) only [↓bp0, bd0, bd_LF, reduceIte, Nat.reduceEqDiff, evStore, Nat.reduceAdd, Nat.reduceMul, Int.reduceEq, Int.reduceLT, Int.reduceLE, Nat.reduceLeDiff, List.reduceReplicate, reduceCtorEq, evRange, Nat.reduceLT, retQ, resL, finL, newL, flat, tupOf, List.toList_toArray, Tryz.f144, h8]
    refine leT_one (int_eq ?_) (by simp)
    have := of_decide_eq_true h8
    rw [bchk.eq_def, if_pos (by omega)]
  have h8' := of_decide_eq_false h8
  have e1 : bchk l = if dupB l then 14 else match l[0]? with
      | none => 8
      | some b => if b.frm ≠ ⟨#[]⟩ ∨ b.pos ≠ 0 then 8 else if anyI (brB l) l then 8 else 0 := by
    rw [bchk.eq_def, if_neg (by omega)]
    rfl
  try simp -dsimp (maxSteps := 9^9) (disch := first | omega | decide +kernel) only [↓bp0, bd0, bd_LF, reduceIte, Nat.reduceEqDiff, evStore, Nat.reduceAdd, Nat.reduceMul, Int.reduceEq, Int.reduceLT, Int.reduceLE, Nat.reduceLeDiff, List.reduceReplicate, reduceCtorEq, evRange, Nat.reduceLT, Tryz.f144, h8]
  refine LoopQ.rule (fun m st => ∃ i nx : Nat, i ≤ l.length ∧ (∀ (j : Nat) b, j < i → l[j]? = some b → ¬ idx l b.name < j) ∧ m = l.length - i ∧
    st = ⟨mkE [(0, encBrs l), (10, encBrs l), (11, i64 l.length), (12, i64 i)], mkS [], nx⟩) _ _ (weak_of ?_) ⟨0, 0, by omega, fun _ _ h => by omega, rfl, rfl⟩ ?_
  · first | (simp -dsimp (maxSteps := 9^9) (disch := first | omega | decide +kernel) only [↓bp0, bd0, bd_LF, reduceIte, Nat.reduceEqDiff, evStore, Nat.reduceAdd, Nat.reduceMul, Int.reduceEq, Int.reduceLT, Int.reduceLE, Nat.reduceLeDiff, List.reduceReplicate, reduceCtorEq, evRange, Nat.reduceLT, encBrs]; done) | simp -dsimp [evl, putN, i64, u32, bl, encL, encB, encLL, encBrs]
  rintro m st ⟨i, nx, hi, hpre, rfl, rfl⟩
  try simp -dsimp (maxSteps := 9^9) (disch := first | omega | decide +kernel) only [↓bp0, bd0, bd_LF, reduceIte, Nat.reduceEqDiff, evStore, Nat.reduceAdd, Nat.reduceMul, Int.reduceEq, Int.reduceLT, Int.reduceLE, Nat.reduceLeDiff, List.reduceReplicate, reduceCtorEq, evRange, Nat.reduceLT, encBrs]
  refine onC_nlt (fun h2 => ?_) (fun h2 => ?_)
  · obtain ⟨b, hx, hxm⟩ := get_of_lt h2
    try simp -dsimp (maxSteps := 9^9) (disch := first | omega | decide +kernel) only [↓bp0, bd0, bd_LF, reduceIte, Nat.reduceEqDiff, evStore, Nat.reduceAdd, Nat.reduceMul, Int.reduceEq, Int.reduceLT, Int.reduceLE, Nat.reduceLeDiff, List.reduceReplicate, reduceCtorEq, evRange, Nat.reduceLT, hx]
    refine CallQ.imm (d_index l b.name hl) (by rfl) (by first | rfl | (simp -dsimp (maxSteps := 9^9) (disch := first | omega | decide +kernel) only [↓bp0, bd0, bd_LF, reduceIte, Nat.reduceEqDiff, evStore, Nat.reduceAdd, Nat.reduceMul, Int.reduceEq, Int.reduceLT, Int.reduceLE, Nat.reduceLeDiff, List.reduceReplicate, reduceCtorEq, evRange, Nat.reduceLT, drcs, drc, flat]; done) | simp -dsimp [evl, drcs, drc, flat, i64, u32, bl, encL, encB, encLL]) (by first | exact .inl rfl | exact .inr rfl | exact .inr scalB | exact .inr scalI | exact .inr scalT) ?_
    try simp -dsimp (maxSteps := 9^9) (disch := first | omega | decide +kernel) only [↓bp0, bd0, bd_LF, reduceIte, Nat.reduceEqDiff, evStore, Nat.reduceAdd, Nat.reduceMul, Int.reduceEq, Int.reduceLT, Int.reduceLE, Nat.reduceLeDiff, List.reduceReplicate, reduceCtorEq, evRange, Nat.reduceLT]
    refine onC_ilt (fun h3 => ?_) (fun h3 => ?_)
    · simp -dsimp (maxSteps := 9^9) (disch := first | omega | decide +kernel) only [↓bp0, bd0, bd_LF, reduceIte, Nat.reduceEqDiff, evStore, Nat.reduceAdd, Nat.reduceMul, Int.reduceEq, Int.reduceLT, Int.reduceLE, Nat.reduceLeDiff, List.reduceReplicate, reduceCtorEq, evRange, Nat.reduceLT, retQ, resL, finL, newL, flat, tupOf, List.toList_toArray]
      refine leT_one (int_eq ?_) (by simp)
      rw [e1, if_pos]
      rw [dupB, List.any_eq_true]
      exact ⟨i, List.mem_range.2 h2, by rw [hx]; exact decide_eq_true h3⟩
    try simp -dsimp (maxSteps := 9^9) (disch := first | omega | decide +kernel) only [↓bp0, bd0, bd_LF, reduceIte, Nat.reduceEqDiff, evStore, Nat.reduceAdd, Nat.reduceMul, Int.reduceEq, Int.reduceLT, Int.reduceLE, Nat.reduceLeDiff, List.reduceReplicate, reduceCtorEq, evRange, Nat.reduceLT]
    refine ⟨_, _, ?_, weak_of ?_, i + 1, nx + 1, h2, ?_, rfl, rfl⟩
    · omega
    · first | (simp -dsimp (maxSteps := 9^9) (disch := first | omega | decide +kernel) only [↓bp0, bd0, bd_LF, reduceIte, Nat.reduceEqDiff, evStore, Nat.reduceAdd, Nat.reduceMul, Int.reduceEq, Int.reduceLT, Int.reduceLE, Nat.reduceLeDiff, List.reduceReplicate, reduceCtorEq, evRange, Nat.reduceLT, wrapS h2 hl]; done) | simp -dsimp [evl, putN, i64, u32, bl, encL, encB, encLL, wrapS h2 hl]
    · intro j b' hj hb'
      by_cases hji : j = i
      · subst hji; rw [hx] at hb'; cases hb'; omega
      · exact hpre j b' (by omega) hb'
  have hdup : dupB l = false := by
    rw [dupB, List.any_eq_false]
    intro i hi
    rw [List.mem_range] at hi
    cases hb : l[i]? with
    | none => simp
    | some b => simpa using hpre i b (by omega) hb
  rw [if_neg (by rw [hdup]; simp)] at e1
  cases hnil : decide ((l.length : Int) = 0)
  case true =>
    have h0 : l = [] := List.eq_nil_of_length_eq_zero (by have := of_decide_eq_true hnil; omega)
    simp -dsimp (maxSteps := 9^9) (disch := first | omega | decide +kernel) only [↓bp0, bd0, bd_LF, reduceIte, Nat.reduceEqDiff, evStore, Nat.reduceAdd, Nat.reduceMul, Int.reduceEq, Int.reduceLT, Int.reduceLE, Nat.reduceLeDiff, List.reduceReplicate, reduceCtorEq, evRange, Nat.reduceLT, retQ, resL, finL, newL, flat, tupOf, List.toList_toArray, hnil]
    refine leT_one (int_eq ?_) (by simp)
    rw [e1, h0]; rfl
  have hpos : 0 < l.length := by have := of_decide_eq_false hnil; omega
  obtain ⟨b0, r, hl0⟩ : ∃ b0 r, l = b0 :: r := by
    cases l with
    | nil => simp at hpos
    | cons b r => exact ⟨b, r, rfl⟩
  have hx0 : l[0]? = some b0 := by rw [hl0]; rfl
  have e2 : bchk l = if b0.frm ≠ ⟨#[]⟩ ∨ b0.pos ≠ 0 then 8 else if anyI (brB l) l then 8 else 0 := by
    rw [e1, hx0]
  cases hf : decide (b0.frm = ⟨#[]⟩)
  case false =>
    simp -dsimp (maxSteps := 9^9) (disch := first | omega | decide +kernel) only [↓bp0, bd0, bd_LF, reduceIte, Nat.reduceEqDiff, evStore, Nat.reduceAdd, Nat.reduceMul, Int.reduceEq, Int.reduceLT, Int.reduceLE, Nat.reduceLeDiff, List.reduceReplicate, reduceCtorEq, evRange, Nat.reduceLT, retQ, resL, finL, newL, flat, tupOf, List.toList_toArray, hnil, hx0, cBr, hf, natK]
    refine leT_one (int_eq ?_) (by simp)
    rw [e2, if_pos (.inl (of_decide_eq_false hf))]
  cases hp : decide (b0.pos = 0)
  case false =>
    simp -dsimp (maxSteps := 9^9) (disch := first | omega | decide +kernel) only [↓bp0, bd0, bd_LF, reduceIte, Nat.reduceEqDiff, evStore, Nat.reduceAdd, Nat.reduceMul, Int.reduceEq, Int.reduceLT, Int.reduceLE, Nat.reduceLeDiff, List.reduceReplicate, reduceCtorEq, evRange, Nat.reduceLT, retQ, resL, finL, newL, flat, tupOf, List.toList_toArray, hnil, hx0, cBr, hf, hp, natK]
    refine leT_one (int_eq ?_) (by simp)
    rw [e2, if_pos (.inr (of_decide_eq_false hp))]
  have e3 : bchk l = if anyI (brB l) l then 8 else 0 := by
    rw [e2, if_neg]
    rw [not_or, Decidable.not_not, Decidable.not_not]
    exact ⟨of_decide_eq_true hf, of_decide_eq_true hp⟩
  try simp -dsimp (maxSteps := 9^9) (disch := first | omega | decide +kernel) only [↓bp0, bd0, bd_LF, reduceIte, Nat.reduceEqDiff, evStore, Nat.reduceAdd, Nat.reduceMul, Int.reduceEq, Int.reduceLT, Int.reduceLE, Nat.reduceLeDiff, List.reduceReplicate, reduceCtorEq, evRange, Nat.reduceLT, hnil, hx0, cBr, hf, hp, natK]
  refine LoopQ.rule (fun m st => ∃ i nx : Nat, i ≤ l.length ∧ (∀ (j : Nat) b, j < i → l[j]? = some b → brB l j b = false) ∧ m = l.length - i ∧
    st = ⟨mkE [(0, encBrs l), (41, encBrs l), (42, i64 l.length), (43, i64 i)], mkS [], nx⟩) _ _ (weak_of ?_) ⟨0, nx, by omega, fun _ _ h => by omega, rfl, rfl⟩ ?_
  · first | (simp -dsimp (maxSteps := 9^9) (disch := first | omega | decide +kernel) only [↓bp0, bd0, bd_LF, reduceIte, Nat.reduceEqDiff, evStore, Nat.reduceAdd, Nat.reduceMul, Int.reduceEq, Int.reduceLT, Int.reduceLE, Nat.reduceLeDiff, List.reduceReplicate, reduceCtorEq, evRange, Nat.reduceLT, encBrs]; done) | simp -dsimp [evl, putN, i64, u32, bl, encL, encB, encLL, encBrs]
  rintro m st ⟨i, nx, hi, hpre, rfl, rfl⟩
  try simp -dsimp (maxSteps := 9^9) (disch := first | omega | decide +kernel) only [↓bp0, bd0, bd_LF, reduceIte, Nat.reduceEqDiff, evStore, Nat.reduceAdd, Nat.reduceMul, Int.reduceEq, Int.reduceLT, Int.reduceLE, Nat.reduceLeDiff, List.reduceReplicate, reduceCtorEq, evRange, Nat.reduceLT, encBrs]
  refine onC_nlt (fun h2 => ?_) (fun h2 => ?_)
  · obtain ⟨b, hx, hxm⟩ := get_of_lt h2
    have hbad : brB l i b = true → bchk l = 8 := fun h => by
      rw [e3, if_pos (anyI_iff.2 ⟨i, b, hx, h⟩)]
    have hgo : brB l i b = false → ∀ (j : Nat) b, j < i + 1 → l[j]? = some b → brB l j b = false := fun h j b' hj hb' => by
      by_cases hji : j = i
      · subst hji; rw [hx] at hb'; cases hb'; exact h
      · exact hpre j b' (by omega) hb'
    try simp -dsimp (maxSteps := 9^9) (disch := first | omega | decide +kernel) only [↓bp0, bd0, bd_LF, reduceIte, Nat.reduceEqDiff, evStore, Nat.reduceAdd, Nat.reduceMul, Int.reduceEq, Int.reduceLT, Int.reduceLE, Nat.reduceLeDiff, List.reduceReplicate, reduceCtorEq, evRange, Nat.reduceLT, hx]
    refine CallY.imm (d_isName b.name) (by rfl) (by first | rfl | (simp -dsimp (maxSteps := 9^9) (disch := first | omega | decide +kernel) only [↓bp0, bd0, bd_LF, reduceIte, Nat.reduceEqDiff, evStore, Nat.reduceAdd, Nat.reduceMul, Int.reduceEq, Int.reduceLT, Int.reduceLE, Nat.reduceLeDiff, List.reduceReplicate, reduceCtorEq, evRange, Nat.reduceLT, drcs, drc, flat]; done) | simp -dsimp [evl, drcs, drc, flat, i64, u32, bl, encL, encB, encLL]) (by first | exact .inl rfl | exact .inr rfl | exact .inr scalB | exact .inr scalI | exact .inr scalT) ?_
    cases hn : nameB b.name
    · simp -dsimp (maxSteps := 9^9) (disch := first | omega | decide +kernel) only [↓bp0, bd0, bd_LF, reduceIte, Nat.reduceEqDiff, evStore, Nat.reduceAdd, Nat.reduceMul, Int.reduceEq, Int.reduceLT, Int.reduceLE, Nat.reduceLeDiff, List.reduceReplicate, reduceCtorEq, evRange, Nat.reduceLT, retQ, resL, finL, newL, flat, tupOf, List.toList_toArray, hn, uUn, Option.bind_some]
      exact leT_one (int_eq (hbad (by simp [brB, hn])).symm) (by simp)
    cases h1 : decide (b.pos < 0)
    case true =>
      simp -dsimp (maxSteps := 9^9) (disch := first | omega | decide +kernel) only [↓bp0, bd0, bd_LF, reduceIte, Nat.reduceEqDiff, evStore, Nat.reduceAdd, Nat.reduceMul, Int.reduceEq, Int.reduceLT, Int.reduceLE, Nat.reduceLeDiff, List.reduceReplicate, reduceCtorEq, evRange, Nat.reduceLT, retQ, resL, finL, newL, flat, tupOf, List.toList_toArray, hn, h1, uUn, Option.bind_some]
      exact leT_one (int_eq (hbad (by simp [brB, hn, h1])).symm) (by simp)
    cases h3 : decide (320 < b.pos)
    case true =>
      simp -dsimp (maxSteps := 9^9) (disch := first | omega | decide +kernel) only [↓bp0, bd0, bd_LF, reduceIte, Nat.reduceEqDiff, evStore, Nat.reduceAdd, Nat.reduceMul, Int.reduceEq, Int.reduceLT, Int.reduceLE, Nat.reduceLeDiff, List.reduceReplicate, reduceCtorEq, evRange, Nat.reduceLT, retQ, resL, finL, newL, flat, tupOf, List.toList_toArray, hn, h1, h3, uUn, Option.bind_some]
      exact leT_one (int_eq (hbad (by simp [brB, hn, h1, h3])).symm) (by simp)
    cases h4 : decide ((0 : Int) < i)
    case false =>
      have h4' := of_decide_eq_false h4
      try simp -dsimp (maxSteps := 9^9) (disch := first | omega | decide +kernel) only [↓bp0, bd0, bd_LF, reduceIte, Nat.reduceEqDiff, evStore, Nat.reduceAdd, Nat.reduceMul, Int.reduceEq, Int.reduceLT, Int.reduceLE, Nat.reduceLeDiff, List.reduceReplicate, reduceCtorEq, evRange, Nat.reduceLT, hn, h1, h3, h4, uUn, Option.bind_some]
      refine ⟨_, _, ?_, weak_of ?_, i + 1, nx + 1, h2, hgo ?_, rfl, rfl⟩
      · omega
      · first | (simp -dsimp (maxSteps := 9^9) (disch := first | omega | decide +kernel) only [↓bp0, bd0, bd_LF, reduceIte, Nat.reduceEqDiff, evStore, Nat.reduceAdd, Nat.reduceMul, Int.reduceEq, Int.reduceLT, Int.reduceLE, Nat.reduceLeDiff, List.reduceReplicate, reduceCtorEq, evRange, Nat.reduceLT, wrapS h2 hl]; done) | simp -dsimp [evl, putN, i64, u32, bl, encL, encB, encLL, wrapS h2 hl]
      · simp [brB, hn, h1, h3]; omega
    have h4' := of_decide_eq_true h4
    have h5 : decide (0 < i) = true := decide_eq_true (by omega)
    have hil : i ≤ l.length := by omega
    try simp -dsimp (maxSteps := 9^9) (disch := first | omega | decide +kernel) only [↓bp0, bd0, bd_LF, reduceIte, Nat.reduceEqDiff, evStore, Nat.reduceAdd, Nat.reduceMul, Int.reduceEq, Int.reduceLT, Int.reduceLE, Nat.reduceLeDiff, List.reduceReplicate, reduceCtorEq, evRange, Nat.reduceLT, hn, h1, h3, h4, hil, allBr, encTake, uUn, Option.bind_some, Bool.false_and, evSlice, slc]
    refine CallY.imm (d_index (l.take i) b.frm (by rw [List.length_take]; omega)) (by rfl) (by first | rfl | (simp -dsimp (maxSteps := 9^9) (disch := first | omega | decide +kernel) only [↓bp0, bd0, bd_LF, reduceIte, Nat.reduceEqDiff, evStore, Nat.reduceAdd, Nat.reduceMul, Int.reduceEq, Int.reduceLT, Int.reduceLE, Nat.reduceLeDiff, List.reduceReplicate, reduceCtorEq, evRange, Nat.reduceLT, drcs, drc, flat, encBrs, List.map_take]; done) | simp -dsimp [evl, drcs, drc, flat, i64, u32, bl, encL, encB, encLL]) (by first | exact .inl rfl | exact .inr rfl | exact .inr scalB | exact .inr scalI | exact .inr scalT) ?_
    cases h6 : decide (idx (l.take i) b.frm < 0)
    case true =>
      simp -dsimp (maxSteps := 9^9) (disch := first | omega | decide +kernel) only [↓bp0, bd0, bd_LF, reduceIte, Nat.reduceEqDiff, evStore, Nat.reduceAdd, Nat.reduceMul, Int.reduceEq, Int.reduceLT, Int.reduceLE, Nat.reduceLeDiff, List.reduceReplicate, reduceCtorEq, evRange, Nat.reduceLT, retQ, resL, finL, newL, flat, tupOf, List.toList_toArray, h6]
      exact leT_one (int_eq (hbad (by simp [brB, h5, h6])).symm) (by simp)
    try simp -dsimp (maxSteps := 9^9) (disch := first | omega | decide +kernel) only [↓bp0, bd0, bd_LF, reduceIte, Nat.reduceEqDiff, evStore, Nat.reduceAdd, Nat.reduceMul, Int.reduceEq, Int.reduceLT, Int.reduceLE, Nat.reduceLeDiff, List.reduceReplicate, reduceCtorEq, evRange, Nat.reduceLT, h6]
    refine ⟨_, _, ?_, weak_of ?_, i + 1, nx + 1, h2, hgo ?_, rfl, rfl⟩
    · omega
    · first | (simp -dsimp (maxSteps := 9^9) (disch := first | omega | decide +kernel) only [↓bp0, bd0, bd_LF, reduceIte, Nat.reduceEqDiff, evStore, Nat.reduceAdd, Nat.reduceMul, Int.reduceEq, Int.reduceLT, Int.reduceLE, Nat.reduceLeDiff, List.reduceReplicate, reduceCtorEq, evRange, Nat.reduceLT, wrapS h2 hl]; done) | simp -dsimp [evl, putN, i64, u32, bl, encL, encB, encLL, wrapS h2 hl]
    · simp [brB, hn, h1, h3, h5, h6]
  simp -dsimp (maxSteps := 9^9) (disch := first | omega | decide +kernel) only [↓bp0, bd0, bd_LF, reduceIte, Nat.reduceEqDiff, evStore, Nat.reduceAdd, Nat.reduceMul, Int.reduceEq, Int.reduceLT, Int.reduceLE, Nat.reduceLeDiff, List.reduceReplicate, reduceCtorEq, evRange, Nat.reduceLT, retQ, resL, finL, newL, flat, tupOf, List.toList_toArray]
  refine leT_one (int_eq ?_) (by simp)
  rw [e3, if_neg]
  rw [Bool.not_eq_true, anyI_false]
  exact fun j b hb => hpre j b (by have := (List.getElem?_eq_some_iff.1 hb).1; omega) hb
end Go.Ab
