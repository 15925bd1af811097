/- NotesTells. -/
import Derived.Test.YtgcodedanljhpaaGreatDoorQS
import Derived.Test.YtgcodedanljhpaaGreatDoorQT
import Derived.Test.YtgcodedanljhpaaGreatDoorPP
import Derived.Test.YtgcodedanljhpaaGreatDoorAcCall
import Derived.ChangeArms
import Derived.ChangeReads
import Derived.Below
import Derived.Carry
import Derived.ChangeSame
set_option linter.unusedSimpArgs false
set_option linter.unusedVariables false
section
set_option maxRecDepth 1000000
set_option maxHeartbeats 40000000
namespace Go.Ab
open Go Go.Proofs Go.Sort
theorem bd_QU : type_of% (And.intro @evNext.eq_1 (And.intro @fld (And.intro @nit (And.intro @nxE (And.intro @ghR (And.intro @ovR (And.intro @evBin_seql (And.intro @evBin_sneq (And.intro @str.eq_1 (And.intro @u8.eq_1 (And.intro @encBrs.eq_1 (And.intro @cBr.eq_1 (And.intro @encLdg.eq_1 (And.intro @encKws.eq_1 (And.intro @cKw.eq_1 (And.intro @encEvss.eq_1 (And.intro @encEvs.eq_1 (And.intro @cEv.eq_1 (And.intro @encMks.eq_1 (And.intro @cMk.eq_1 (And.intro @encStrs.eq_1 (And.intro @tk2 (And.intro @tk3 (And.intro @List.set_cons_succ.{0} (And.intro @List.getElem?_cons_zero.{0} (And.intro @List.getElem?_cons_succ.{0} (@List.length_set.{0}))))))))))))))))))))))))))) := And.intro @evNext.eq_1 (And.intro @fld (And.intro @nit (And.intro @nxE (And.intro @ghR (And.intro @ovR (And.intro @evBin_seql (And.intro @evBin_sneq (And.intro @str.eq_1 (And.intro @u8.eq_1 (And.intro @encBrs.eq_1 (And.intro @cBr.eq_1 (And.intro @encLdg.eq_1 (And.intro @encKws.eq_1 (And.intro @cKw.eq_1 (And.intro @encEvss.eq_1 (And.intro @encEvs.eq_1 (And.intro @cEv.eq_1 (And.intro @encMks.eq_1 (And.intro @cMk.eq_1 (And.intro @encStrs.eq_1 (And.intro @tk2 (And.intro @tk3 (And.intro @List.set_cons_succ.{0} (And.intro @List.getElem?_cons_zero.{0} (And.intro @List.getElem?_cons_succ.{0} (@List.length_set.{0}))))))))))))))))))))))))))
theorem eqNtT {x0 y0 : Int} {x1 y1 : ByteArray} {x2 y2 : Int} {x3 y3 : Int} {ox oy : Operand} : evBin cx .eql 81 ox oy (.agg [PV.lit (Value.int .i64 x0), PV.lit (Value.string x1), PV.lit (Value.int .u8 x2), PV.lit (Value.int .i64 x3)]) (.agg [PV.lit (Value.int .i64 y0), PV.lit (Value.string y1), PV.lit (Value.int .u8 y2), PV.lit (Value.int .i64 y3)]) = some (.lit (.bool (decide (x0 = y0) && (decide (x1 = y1) && (decide (x2 = y2) && (decide (x3 = y3) && true)))))) ∧ evBin cx .neq 81 ox oy (.agg [PV.lit (Value.int .i64 x0), PV.lit (Value.string x1), PV.lit (Value.int .u8 x2), PV.lit (Value.int .i64 x3)]) (.agg [PV.lit (Value.int .i64 y0), PV.lit (Value.string y1), PV.lit (Value.int .u8 y2), PV.lit (Value.int .i64 y3)]) = some (.lit (.bool !(decide (x0 = y0) && (decide (x1 = y1) && (decide (x2 = y2) && (decide (x3 = y3) && true)))))) :=
  pu_eql (xs := [Value.int .i64 x0, Value.string x1, Value.int .u8 x2, Value.int .i64 x3]) (ys := [Value.int .i64 y0, Value.string y1, Value.int .u8 y2, Value.int .i64 y3]) (by kernel_rfl) (pu_struct (fs := sfOf 81) (by kernel_rfl) (by kernel_rfl) (by
    rw [show (sfOf 81).toList = [(sfOf 81)[0]!, (sfOf 81)[1]!, (sfOf 81)[2]!, (sfOf 81)[3]!] by kernel_rfl]
    exact .cons (of_decide_eq_true (by kernel_rfl)) (by kernel_rfl) (by kernel_rfl) (fun _ => pu_int (k := .i64) (q := .i64) (by kernel_rfl)) (.cons (of_decide_eq_true (by kernel_rfl)) (by kernel_rfl) (by kernel_rfl) (fun _ => pu_str (by kernel_rfl)) (.cons (of_decide_eq_true (by kernel_rfl)) (by kernel_rfl) (by kernel_rfl) (fun _ => pu_int (k := .u8) (q := .u8) (by kernel_rfl)) (.cons (of_decide_eq_true (by kernel_rfl)) (by kernel_rfl) (by kernel_rfl) (fun _ => pu_int (k := .i64) (q := .i64) (by kernel_rfl)) (.nil))))))
theorem r_SameNtT (g : List Nt) (hg : g.length ≤ 9223372036854775807) : CallSpec cx 50 [encNts g, encNts g] (bl true) := r_SameN g hg fun n _ x y => by
  rw [eqNtT.2]; simp
theorem ldiff_gone {l : Ldg} {a b : Str} (e1 : (ldiff l a b).2.2 = 0) : (∀ n ∈ (nnews l a b).1, NtOk n) ∧ (∀ n ∈ (ngone l a b).1, NtOk n) ∧ (nnews l a b).1.length ≤ 2^22 ∧ (ngone l a b).1.length ≤ 2^22 := by
  obtain ⟨ha, hb⟩ := ldiff_ok e1
  have hNe : (nnews l a b).1 = lastsF (clsI l.known) (evV l b) (ldiff l a b).2.1 := by rw [nnews, if_neg (by rw [Decidable.not_not]; exact e1)]
  have hGe : (ngone l a b).1 = srtN (goneO (clsI l.known) (evV l a) (evV l b) (ldiff l a b).1) ++ lastsF (clsI l.known) (evV l b) (ldiff l a b).1 := by rw [ngone, if_neg (by rw [Decidable.not_not]; exact e1)]
  have hlA := evV_len ha
  have hlB := evV_len hb
  refine ⟨fun n hn => ?_, fun n hn => ?_, ?_, ?_⟩
  · rw [hNe] at hn; exact lastsF_ok hb hn
  · rw [hGe] at hn
    rcases List.mem_append.1 hn with h | h
    · obtain ⟨q, _, rfl⟩ := List.mem_map.1 h
      have hq : (goneO (clsI l.known) (evV l a) (evV l b) (ldiff l a b).1)[q] ∈ goneO (clsI l.known) (evV l a) (evV l b) (ldiff l a b).1 := List.getElem_mem q.isLt
      obtain ⟨t, ht, e⟩ := List.mem_map.1 hq
      rw [← e]
      exact neg_ok (lastsF_ok ha ht)
    · exact lastsF_ok hb h
  · rw [hNe]; have := lastsF_len (f := clsI l.known) (v := evV l b) (cs := (ldiff l a b).2.1); omega
  · rw [hGe, List.length_append, srtN_len, goneO, List.length_map]
    have h1 := lastsF_len (f := clsI l.known) (v := evV l b) (cs := (ldiff l a b).1)
    have h2 := lastsF_len (f := clsI l.known) (v := evV l a) (cs := keepN (lastsF (clsI l.known) (evV l b) (ldiff l a b).1) (ldiff l a b).1)
    omega
theorem r_Text43 (l : Ldg) (a b : Str) (hz : LSz l) (hn : LNm l) : CallSpec cx 49 [encLdg l, str a, str b] (.tup [str (ntext l a b).1, i64 (ntext l a b).2]) := by
  have c1 := r_News43 l a b hz hn
  have c2 := r_Gone43 l a b hz hn
  by_cases e1 : (ldiff l a b).2.2 = 0
  · have z1 : (nnews l a b).2 = 0 := by rw [nnews, if_neg (by rw [Decidable.not_not]; exact e1)]
    have z2 : (ngone l a b).2 = 0 := by rw [ngone, if_neg (by rw [Decidable.not_not]; exact e1)]
    rw [z1] at c1
    rw [z2] at c2
    obtain ⟨q1, q2, q3, q4⟩ := ldiff_gone e1
    rw [ntext, if_neg (by rw [Decidable.not_not]; exact e1)]
    exact r_TextG l a b _ _ c1 c2 q1 q2 (by omega) (by omega)
  · rw [ntext, if_pos e1]
    rw [nnews, if_pos e1] at c1
    have h1 : decide ((ldiff l a b).2.2 = 0) = false := decide_eq_false e1
    refine callSpec_of_vc Tryz.func49 rfl (by decide) (by kernel_rfl) (Nat.le_of_ble_eq_true rfl) ?_
    try simp -dsimp (maxSteps := 9^9) (disch := first | omega | decide +kernel) only [↓bp0, bd0, bd_QU, reduceIte, Nat.reduceEqDiff, evStore, Nat.reduceAdd, Nat.reduceMul, Int.reduceEq, Int.reduceLT, Int.reduceLE, Nat.reduceLeDiff, List.reduceReplicate, reduceCtorEq, evRange, cNt, tk4, Nat.reduceLT, Tryz.f49]
    refine CallQ.imm (c1) (by rfl) (by first | rfl | (simp -dsimp (maxSteps := 9^9) (disch := first | omega | decide +kernel) only [↓bp0, bd0, bd_QU, reduceIte, Nat.reduceEqDiff, evStore, Nat.reduceAdd, Nat.reduceMul, Int.reduceEq, Int.reduceLT, Int.reduceLE, Nat.reduceLeDiff, List.reduceReplicate, reduceCtorEq, evRange, cNt, tk4, Nat.reduceLT, drcs, drc, flat]; done) | simp -dsimp [evl, drcs, drc, flat, i64, u32, bl, encL, encB, encLL]) (by first | exact .inl rfl | exact .inr rfl | exact .inr scalB | exact .inr scalI | exact .inr scalT | exact .inr scalM | exact .inr scalMT | exact .inr scalE | exact .inr scalET | exact .inr scalN | exact .inr scalNT) ?_
    simp -dsimp (maxSteps := 9^9) (disch := first | omega | decide +kernel) only [↓bp0, bd0, bd_QU, reduceIte, Nat.reduceEqDiff, evStore, Nat.reduceAdd, Nat.reduceMul, Int.reduceEq, Int.reduceLT, Int.reduceLE, Nat.reduceLeDiff, List.reduceReplicate, reduceCtorEq, evRange, cNt, tk4, Nat.reduceLT, retQ, resL, finL, newL, flat, tupOf, List.toList_toArray, Tryz.f49, encNts, h1]
    exact leT_refl _
theorem nn_len {l : Ldg} {a b : Str} : (nnews l a b).1.length ≤ 2^22 ∧ (ngone l a b).1.length ≤ 2^22 := by
  by_cases e1 : (ldiff l a b).2.2 = 0
  · exact (ldiff_gone e1).2.2
  · rw [nnews, ngone, if_pos e1, if_pos e1]; simp
theorem ls_len {l : Ldg} {b : Str} {k : Int} : (lsince l b k).1.length ≤ 2^22 := by
  unfold lsince
  split
  · simp
  · rename_i h
    rw [Decidable.not_not] at h
    have := lastsF_len (f := clsI l.known) (v := evV l b) (cs := missI (leff l b).1 (laft l b k).1)
    have := evV_len (laft_view h)
    simp only
    omega
theorem l_Tells43 (l : Ldg) (a b : Str) (k : Int) (hl : l.known.length ≤ 9223372036854775807) (hb : l.brs.length ≤ 9223372036854775807) (hv : l.evs.length ≤ 9223372036854775807) (he : ∀ s ∈ l.evs, s.length ≤ 9223372036854775807) :
    CallSpec cx 10 [encLdg l, str a, str b, i64 k] (bl true) := by
  refine callSpec_of_vc Tryz.func10 rfl (by decide) (by kernel_rfl) (Nat.le_of_ble_eq_true rfl) ?_
  try simp -dsimp (maxSteps := 9^9) (disch := first | omega | decide +kernel) only [↓bp0, bd0, bd_QU, reduceIte, Nat.reduceEqDiff, evStore, Nat.reduceAdd, Nat.reduceMul, Int.reduceEq, Int.reduceLT, Int.reduceLE, Nat.reduceLeDiff, List.reduceReplicate, reduceCtorEq, evRange, cNt, tk4, Nat.reduceLT, Tryz.f10]
  refine CallQ.imm (r_Great29 l hl hb hv he) (by rfl) (by first | rfl | (simp -dsimp (maxSteps := 9^9) (disch := first | omega | decide +kernel) only [↓bp0, bd0, bd_QU, reduceIte, Nat.reduceEqDiff, evStore, Nat.reduceAdd, Nat.reduceMul, Int.reduceEq, Int.reduceLT, Int.reduceLE, Nat.reduceLeDiff, List.reduceReplicate, reduceCtorEq, evRange, cNt, tk4, Nat.reduceLT, drcs, drc, flat]; done) | simp -dsimp [evl, drcs, drc, flat, i64, u32, bl, encL, encB, encLL]) (by first | exact .inl rfl | exact .inr rfl | exact .inr scalB | exact .inr scalI | exact .inr scalT | exact .inr scalM | exact .inr scalMT | exact .inr scalE | exact .inr scalET | exact .inr scalN | exact .inr scalNT) ?_
  cases hg : grt29 l
  case true =>
    simp -dsimp (maxSteps := 9^9) (disch := first | omega | decide +kernel) only [↓bp0, bd0, bd_QU, reduceIte, Nat.reduceEqDiff, evStore, Nat.reduceAdd, Nat.reduceMul, Int.reduceEq, Int.reduceLT, Int.reduceLE, Nat.reduceLeDiff, List.reduceReplicate, reduceCtorEq, evRange, cNt, tk4, Nat.reduceLT, retQ, resL, finL, newL, flat, tupOf, List.toList_toArray, Tryz.f10, hg]
    exact leT_one .rfl' (by simp)
  obtain ⟨hz, hn⟩ := grt29_noP hg
  try simp -dsimp (maxSteps := 9^9) (disch := first | omega | decide +kernel) only [↓bp0, bd0, bd_QU, reduceIte, Nat.reduceEqDiff, evStore, Nat.reduceAdd, Nat.reduceMul, Int.reduceEq, Int.reduceLT, Int.reduceLE, Nat.reduceLeDiff, List.reduceReplicate, reduceCtorEq, evRange, cNt, tk4, Nat.reduceLT, hg]
  refine CallQ.imm (v_long a b) (by rfl) (by first | rfl | (simp -dsimp (maxSteps := 9^9) (disch := first | omega | decide +kernel) only [↓bp0, bd0, bd_QU, reduceIte, Nat.reduceEqDiff, evStore, Nat.reduceAdd, Nat.reduceMul, Int.reduceEq, Int.reduceLT, Int.reduceLE, Nat.reduceLeDiff, List.reduceReplicate, reduceCtorEq, evRange, cNt, tk4, Nat.reduceLT, drcs, drc, flat]; done) | simp -dsimp [evl, drcs, drc, flat, i64, u32, bl, encL, encB, encLL]) (by first | exact .inl rfl | exact .inr rfl | exact .inr scalB | exact .inr scalI | exact .inr scalT | exact .inr scalM | exact .inr scalMT | exact .inr scalE | exact .inr scalET | exact .inr scalN | exact .inr scalNT) ?_
  cases c1 : decide ((100 : Int) < (a.size : Int))
  case true =>
    simp -dsimp (maxSteps := 9^9) (disch := first | omega | decide +kernel) only [↓bp0, bd0, bd_QU, reduceIte, Nat.reduceEqDiff, evStore, Nat.reduceAdd, Nat.reduceMul, Int.reduceEq, Int.reduceLT, Int.reduceLE, Nat.reduceLeDiff, List.reduceReplicate, reduceCtorEq, evRange, cNt, tk4, Nat.reduceLT, retQ, resL, finL, newL, flat, tupOf, List.toList_toArray, Tryz.f10, c1, Bool.true_or]
    exact leT_one .rfl' (by simp)
  cases c2 : decide ((100 : Int) < (b.size : Int))
  case true =>
    simp -dsimp (maxSteps := 9^9) (disch := first | omega | decide +kernel) only [↓bp0, bd0, bd_QU, reduceIte, Nat.reduceEqDiff, evStore, Nat.reduceAdd, Nat.reduceMul, Int.reduceEq, Int.reduceLT, Int.reduceLE, Nat.reduceLeDiff, List.reduceReplicate, reduceCtorEq, evRange, cNt, tk4, Nat.reduceLT, retQ, resL, finL, newL, flat, tupOf, List.toList_toArray, Tryz.f10, c1, c2, Bool.or_true]
    exact leT_one .rfl' (by simp)
  have k1 := n_News l a b hz
  have k2 := r_News43 l a b hz hn
  have k3 := n_Gone l a b hz
  have k4 := r_Gone43 l a b hz hn
  have k5 := n_Since l b k hz
  have k6 := r_Since43 l b k hz hn
  have k7 := n_Text l a b hz
  have k8 := r_Text43 l a b hz hn
  obtain ⟨l1, l2⟩ := nn_len (l := l) (a := a) (b := b)
  have l3 := ls_len (l := l) (b := b) (k := k)
  generalize nnews l a b = X at k1 k2 l1
  generalize ngone l a b = Y at k3 k4 l2
  generalize lsince l b k = Z at k5 k6 l3
  generalize ntext l a b = T at k7 k8
  obtain ⟨X1, X2⟩ := X
  obtain ⟨Y1, Y2⟩ := Y
  obtain ⟨Z1, Z2⟩ := Z
  obtain ⟨T1, T2⟩ := T
  simp only at k1 k2 k3 k4 k5 k6 k7 k8 l1 l2 l3
  try simp -dsimp (maxSteps := 9^9) (disch := first | omega | decide +kernel) only [↓bp0, bd0, bd_QU, reduceIte, Nat.reduceEqDiff, evStore, Nat.reduceAdd, Nat.reduceMul, Int.reduceEq, Int.reduceLT, Int.reduceLE, Nat.reduceLeDiff, List.reduceReplicate, reduceCtorEq, evRange, cNt, tk4, Nat.reduceLT, c1, c2, Bool.or_false]
  refine CallQ.imm (r_Twin29 l hz) (by rfl) (by first | rfl | (simp -dsimp (maxSteps := 9^9) (disch := first | omega | decide +kernel) only [↓bp0, bd0, bd_QU, reduceIte, Nat.reduceEqDiff, evStore, Nat.reduceAdd, Nat.reduceMul, Int.reduceEq, Int.reduceLT, Int.reduceLE, Nat.reduceLeDiff, List.reduceReplicate, reduceCtorEq, evRange, cNt, tk4, Nat.reduceLT, drcs, drc, flat]; done) | simp -dsimp [evl, drcs, drc, flat, i64, u32, bl, encL, encB, encLL]) (by first | exact .inl rfl | exact .inr rfl | exact .inr scalB | exact .inr scalI | exact .inr scalT | exact .inr scalM | exact .inr scalMT | exact .inr scalE | exact .inr scalET | exact .inr scalN | exact .inr scalNT) ?_
  try simp -dsimp (maxSteps := 9^9) (disch := first | omega | decide +kernel) only [↓bp0, bd0, bd_QU, reduceIte, Nat.reduceEqDiff, evStore, Nat.reduceAdd, Nat.reduceMul, Int.reduceEq, Int.reduceLT, Int.reduceLE, Nat.reduceLeDiff, List.reduceReplicate, reduceCtorEq, evRange, cNt, tk4, Nat.reduceLT]
  refine CallQ.imm (k1) (by rfl) (by first | rfl | (simp -dsimp (maxSteps := 9^9) (disch := first | omega | decide +kernel) only [↓bp0, bd0, bd_QU, reduceIte, Nat.reduceEqDiff, evStore, Nat.reduceAdd, Nat.reduceMul, Int.reduceEq, Int.reduceLT, Int.reduceLE, Nat.reduceLeDiff, List.reduceReplicate, reduceCtorEq, evRange, cNt, tk4, Nat.reduceLT, drcs, drc, flat]; done) | simp -dsimp [evl, drcs, drc, flat, i64, u32, bl, encL, encB, encLL]) (by first | exact .inl rfl | exact .inr rfl | exact .inr scalB | exact .inr scalI | exact .inr scalT | exact .inr scalM | exact .inr scalMT | exact .inr scalE | exact .inr scalET | exact .inr scalN | exact .inr scalNT) ?_
  try simp -dsimp (maxSteps := 9^9) (disch := first | omega | decide +kernel) only [↓bp0, bd0, bd_QU, reduceIte, Nat.reduceEqDiff, evStore, Nat.reduceAdd, Nat.reduceMul, Int.reduceEq, Int.reduceLT, Int.reduceLE, Nat.reduceLeDiff, List.reduceReplicate, reduceCtorEq, evRange, cNt, tk4, Nat.reduceLT, newNts]
  refine CallQ.imm (k2) (by rfl) (by first | rfl | (simp -dsimp (maxSteps := 9^9) (disch := first | omega | decide +kernel) only [↓bp0, bd0, bd_QU, reduceIte, Nat.reduceEqDiff, evStore, Nat.reduceAdd, Nat.reduceMul, Int.reduceEq, Int.reduceLT, Int.reduceLE, Nat.reduceLeDiff, List.reduceReplicate, reduceCtorEq, evRange, cNt, tk4, Nat.reduceLT, drcs, drc, flat]; done) | simp -dsimp [evl, drcs, drc, flat, i64, u32, bl, encL, encB, encLL]) (by first | exact .inl rfl | exact .inr rfl | exact .inr scalB | exact .inr scalI | exact .inr scalT | exact .inr scalM | exact .inr scalMT | exact .inr scalE | exact .inr scalET | exact .inr scalN | exact .inr scalNT) ?_
  try simp -dsimp (maxSteps := 9^9) (disch := first | omega | decide +kernel) only [↓bp0, bd0, bd_QU, reduceIte, Nat.reduceEqDiff, evStore, Nat.reduceAdd, Nat.reduceMul, Int.reduceEq, Int.reduceLT, Int.reduceLE, Nat.reduceLeDiff, List.reduceReplicate, reduceCtorEq, evRange, cNt, tk4, Nat.reduceLT, encNts]
  refine CallQ.imm (k3) (by rfl) (by first | rfl | (simp -dsimp (maxSteps := 9^9) (disch := first | omega | decide +kernel) only [↓bp0, bd0, bd_QU, reduceIte, Nat.reduceEqDiff, evStore, Nat.reduceAdd, Nat.reduceMul, Int.reduceEq, Int.reduceLT, Int.reduceLE, Nat.reduceLeDiff, List.reduceReplicate, reduceCtorEq, evRange, cNt, tk4, Nat.reduceLT, drcs, drc, flat]; done) | simp -dsimp [evl, drcs, drc, flat, i64, u32, bl, encL, encB, encLL]) (by first | exact .inl rfl | exact .inr rfl | exact .inr scalB | exact .inr scalI | exact .inr scalT | exact .inr scalM | exact .inr scalMT | exact .inr scalE | exact .inr scalET | exact .inr scalN | exact .inr scalNT) ?_
  try simp -dsimp (maxSteps := 9^9) (disch := first | omega | decide +kernel) only [↓bp0, bd0, bd_QU, reduceIte, Nat.reduceEqDiff, evStore, Nat.reduceAdd, Nat.reduceMul, Int.reduceEq, Int.reduceLT, Int.reduceLE, Nat.reduceLeDiff, List.reduceReplicate, reduceCtorEq, evRange, cNt, tk4, Nat.reduceLT, newNts]
  refine CallQ.imm (k4) (by rfl) (by first | rfl | (simp -dsimp (maxSteps := 9^9) (disch := first | omega | decide +kernel) only [↓bp0, bd0, bd_QU, reduceIte, Nat.reduceEqDiff, evStore, Nat.reduceAdd, Nat.reduceMul, Int.reduceEq, Int.reduceLT, Int.reduceLE, Nat.reduceLeDiff, List.reduceReplicate, reduceCtorEq, evRange, cNt, tk4, Nat.reduceLT, drcs, drc, flat]; done) | simp -dsimp [evl, drcs, drc, flat, i64, u32, bl, encL, encB, encLL]) (by first | exact .inl rfl | exact .inr rfl | exact .inr scalB | exact .inr scalI | exact .inr scalT | exact .inr scalM | exact .inr scalMT | exact .inr scalE | exact .inr scalET | exact .inr scalN | exact .inr scalNT) ?_
  try simp -dsimp (maxSteps := 9^9) (disch := first | omega | decide +kernel) only [↓bp0, bd0, bd_QU, reduceIte, Nat.reduceEqDiff, evStore, Nat.reduceAdd, Nat.reduceMul, Int.reduceEq, Int.reduceLT, Int.reduceLE, Nat.reduceLeDiff, List.reduceReplicate, reduceCtorEq, evRange, cNt, tk4, Nat.reduceLT, encNts]
  refine CallQ.imm (k5) (by rfl) (by first | rfl | (simp -dsimp (maxSteps := 9^9) (disch := first | omega | decide +kernel) only [↓bp0, bd0, bd_QU, reduceIte, Nat.reduceEqDiff, evStore, Nat.reduceAdd, Nat.reduceMul, Int.reduceEq, Int.reduceLT, Int.reduceLE, Nat.reduceLeDiff, List.reduceReplicate, reduceCtorEq, evRange, cNt, tk4, Nat.reduceLT, drcs, drc, flat]; done) | simp -dsimp [evl, drcs, drc, flat, i64, u32, bl, encL, encB, encLL]) (by first | exact .inl rfl | exact .inr rfl | exact .inr scalB | exact .inr scalI | exact .inr scalT | exact .inr scalM | exact .inr scalMT | exact .inr scalE | exact .inr scalET | exact .inr scalN | exact .inr scalNT) ?_
  try simp -dsimp (maxSteps := 9^9) (disch := first | omega | decide +kernel) only [↓bp0, bd0, bd_QU, reduceIte, Nat.reduceEqDiff, evStore, Nat.reduceAdd, Nat.reduceMul, Int.reduceEq, Int.reduceLT, Int.reduceLE, Nat.reduceLeDiff, List.reduceReplicate, reduceCtorEq, evRange, cNt, tk4, Nat.reduceLT, encNts]
  refine CallQ.imm (k6) (by rfl) (by first | rfl | (simp -dsimp (maxSteps := 9^9) (disch := first | omega | decide +kernel) only [↓bp0, bd0, bd_QU, reduceIte, Nat.reduceEqDiff, evStore, Nat.reduceAdd, Nat.reduceMul, Int.reduceEq, Int.reduceLT, Int.reduceLE, Nat.reduceLeDiff, List.reduceReplicate, reduceCtorEq, evRange, cNt, tk4, Nat.reduceLT, drcs, drc, flat]; done) | simp -dsimp [evl, drcs, drc, flat, i64, u32, bl, encL, encB, encLL]) (by first | exact .inl rfl | exact .inr rfl | exact .inr scalB | exact .inr scalI | exact .inr scalT | exact .inr scalM | exact .inr scalMT | exact .inr scalE | exact .inr scalET | exact .inr scalN | exact .inr scalNT) ?_
  try simp -dsimp (maxSteps := 9^9) (disch := first | omega | decide +kernel) only [↓bp0, bd0, bd_QU, reduceIte, Nat.reduceEqDiff, evStore, Nat.reduceAdd, Nat.reduceMul, Int.reduceEq, Int.reduceLT, Int.reduceLE, Nat.reduceLeDiff, List.reduceReplicate, reduceCtorEq, evRange, cNt, tk4, Nat.reduceLT, encNts]
  refine CallQ.imm (k7) (by rfl) (by first | rfl | (simp -dsimp (maxSteps := 9^9) (disch := first | omega | decide +kernel) only [↓bp0, bd0, bd_QU, reduceIte, Nat.reduceEqDiff, evStore, Nat.reduceAdd, Nat.reduceMul, Int.reduceEq, Int.reduceLT, Int.reduceLE, Nat.reduceLeDiff, List.reduceReplicate, reduceCtorEq, evRange, cNt, tk4, Nat.reduceLT, drcs, drc, flat]; done) | simp -dsimp [evl, drcs, drc, flat, i64, u32, bl, encL, encB, encLL]) (by first | exact .inl rfl | exact .inr rfl | exact .inr scalB | exact .inr scalI | exact .inr scalT | exact .inr scalM | exact .inr scalMT | exact .inr scalE | exact .inr scalET | exact .inr scalN | exact .inr scalNT) ?_
  try simp -dsimp (maxSteps := 9^9) (disch := first | omega | decide +kernel) only [↓bp0, bd0, bd_QU, reduceIte, Nat.reduceEqDiff, evStore, Nat.reduceAdd, Nat.reduceMul, Int.reduceEq, Int.reduceLT, Int.reduceLE, Nat.reduceLeDiff, List.reduceReplicate, reduceCtorEq, evRange, cNt, tk4, Nat.reduceLT]
  refine CallQ.imm (k8) (by rfl) (by first | rfl | (simp -dsimp (maxSteps := 9^9) (disch := first | omega | decide +kernel) only [↓bp0, bd0, bd_QU, reduceIte, Nat.reduceEqDiff, evStore, Nat.reduceAdd, Nat.reduceMul, Int.reduceEq, Int.reduceLT, Int.reduceLE, Nat.reduceLeDiff, List.reduceReplicate, reduceCtorEq, evRange, cNt, tk4, Nat.reduceLT, drcs, drc, flat]; done) | simp -dsimp [evl, drcs, drc, flat, i64, u32, bl, encL, encB, encLL]) (by first | exact .inl rfl | exact .inr rfl | exact .inr scalB | exact .inr scalI | exact .inr scalT | exact .inr scalM | exact .inr scalMT | exact .inr scalE | exact .inr scalET | exact .inr scalN | exact .inr scalNT) ?_
  try simp -dsimp (maxSteps := 9^9) (disch := first | omega | decide +kernel) only [↓bp0, bd0, bd_QU, reduceIte, Nat.reduceEqDiff, evStore, Nat.reduceAdd, Nat.reduceMul, Int.reduceEq, Int.reduceLT, Int.reduceLE, Nat.reduceLeDiff, List.reduceReplicate, reduceCtorEq, evRange, cNt, tk4, Nat.reduceLT]
  refine CallQ.imm (r_SameNtT X1 (by omega)) (by rfl) (by first | rfl | (simp -dsimp (maxSteps := 9^9) (disch := first | omega | decide +kernel) only [↓bp0, bd0, bd_QU, reduceIte, Nat.reduceEqDiff, evStore, Nat.reduceAdd, Nat.reduceMul, Int.reduceEq, Int.reduceLT, Int.reduceLE, Nat.reduceLeDiff, List.reduceReplicate, reduceCtorEq, evRange, cNt, tk4, Nat.reduceLT, drcs, drc, flat, encNts]; done) | simp -dsimp [evl, drcs, drc, flat, i64, u32, bl, encL, encB, encLL]) (by first | exact .inl rfl | exact .inr rfl | exact .inr scalB | exact .inr scalI | exact .inr scalT | exact .inr scalM | exact .inr scalMT | exact .inr scalE | exact .inr scalET | exact .inr scalN | exact .inr scalNT) ?_
  try simp -dsimp (maxSteps := 9^9) (disch := first | omega | decide +kernel) only [↓bp0, bd0, bd_QU, reduceIte, Nat.reduceEqDiff, evStore, Nat.reduceAdd, Nat.reduceMul, Int.reduceEq, Int.reduceLT, Int.reduceLE, Nat.reduceLeDiff, List.reduceReplicate, reduceCtorEq, evRange, cNt, tk4, Nat.reduceLT, eq_self, decide_true]
  refine CallQ.imm (r_SameNtT Y1 (by omega)) (by rfl) (by first | rfl | (simp -dsimp (maxSteps := 9^9) (disch := first | omega | decide +kernel) only [↓bp0, bd0, bd_QU, reduceIte, Nat.reduceEqDiff, evStore, Nat.reduceAdd, Nat.reduceMul, Int.reduceEq, Int.reduceLT, Int.reduceLE, Nat.reduceLeDiff, List.reduceReplicate, reduceCtorEq, evRange, cNt, tk4, Nat.reduceLT, drcs, drc, flat, encNts]; done) | simp -dsimp [evl, drcs, drc, flat, i64, u32, bl, encL, encB, encLL]) (by first | exact .inl rfl | exact .inr rfl | exact .inr scalB | exact .inr scalI | exact .inr scalT | exact .inr scalM | exact .inr scalMT | exact .inr scalE | exact .inr scalET | exact .inr scalN | exact .inr scalNT) ?_
  try simp -dsimp (maxSteps := 9^9) (disch := first | omega | decide +kernel) only [↓bp0, bd0, bd_QU, reduceIte, Nat.reduceEqDiff, evStore, Nat.reduceAdd, Nat.reduceMul, Int.reduceEq, Int.reduceLT, Int.reduceLE, Nat.reduceLeDiff, List.reduceReplicate, reduceCtorEq, evRange, cNt, tk4, Nat.reduceLT, eq_self, decide_true]
  refine CallQ.imm (r_SameNtT Z1 (by omega)) (by rfl) (by first | rfl | (simp -dsimp (maxSteps := 9^9) (disch := first | omega | decide +kernel) only [↓bp0, bd0, bd_QU, reduceIte, Nat.reduceEqDiff, evStore, Nat.reduceAdd, Nat.reduceMul, Int.reduceEq, Int.reduceLT, Int.reduceLE, Nat.reduceLeDiff, List.reduceReplicate, reduceCtorEq, evRange, cNt, tk4, Nat.reduceLT, drcs, drc, flat, encNts]; done) | simp -dsimp [evl, drcs, drc, flat, i64, u32, bl, encL, encB, encLL]) (by first | exact .inl rfl | exact .inr rfl | exact .inr scalB | exact .inr scalI | exact .inr scalT | exact .inr scalM | exact .inr scalMT | exact .inr scalE | exact .inr scalET | exact .inr scalN | exact .inr scalNT) ?_
  try simp -dsimp (maxSteps := 9^9) (disch := first | omega | decide +kernel) only [↓bp0, bd0, bd_QU, reduceIte, Nat.reduceEqDiff, evStore, Nat.reduceAdd, Nat.reduceMul, Int.reduceEq, Int.reduceLT, Int.reduceLE, Nat.reduceLeDiff, List.reduceReplicate, reduceCtorEq, evRange, cNt, tk4, Nat.reduceLT, eq_self, decide_true]
  refine CallQ.imm (r_Same29 l hz) (by rfl) (by first | rfl | (simp -dsimp (maxSteps := 9^9) (disch := first | omega | decide +kernel) only [↓bp0, bd0, bd_QU, reduceIte, Nat.reduceEqDiff, evStore, Nat.reduceAdd, Nat.reduceMul, Int.reduceEq, Int.reduceLT, Int.reduceLE, Nat.reduceLeDiff, List.reduceReplicate, reduceCtorEq, evRange, cNt, tk4, Nat.reduceLT, drcs, drc, flat]; done) | simp -dsimp [evl, drcs, drc, flat, i64, u32, bl, encL, encB, encLL]) (by first | exact .inl rfl | exact .inr rfl | exact .inr scalB | exact .inr scalI | exact .inr scalT | exact .inr scalM | exact .inr scalMT | exact .inr scalE | exact .inr scalET | exact .inr scalN | exact .inr scalNT) ?_
  simp -dsimp (maxSteps := 9^9) (disch := first | omega | decide +kernel) only [↓bp0, bd0, bd_QU, reduceIte, Nat.reduceEqDiff, evStore, Nat.reduceAdd, Nat.reduceMul, Int.reduceEq, Int.reduceLT, Int.reduceLE, Nat.reduceLeDiff, List.reduceReplicate, reduceCtorEq, evRange, cNt, tk4, Nat.reduceLT, retQ, resL, finL, newL, flat, tupOf, List.toList_toArray, Tryz.f10]
  exact leT_one .rfl' (by simp)
end Go.Ab
end

section
/- Abstract values: what the reading of an argument says, as a tree; the row's end. -/
namespace Go.Ab
open Go
universe u
def allKn (w : World) : Kn := ⟨fun _ _ => none, fun _ => none, fun b => b < w.heap.size⟩
def Opens (P : Program) (t : TypeId) {D : Type} (enc : D → List PV) (good : D → Prop) : Prop :=
  ∀ (H : Type) (en : TypeId × Value → H) (w : World) (base : Nat) (spare : Nat → Bool) (held : Bool) (fuel : Nat) (cs : List Value) (x : DataW H × List MemPlace),
    DataW.trod en P w base spare held fuel t cs = some x → ∃ d, good d ∧ RelList (allKn w) w (enc d) cs ∧ (enc d).all PV.one = true
section
variable {P : Program}
theorem Opens.int {t : TypeId} {k : IntKind} (ht : P.underlying t = some (.int k)) : Opens P t (fun n : Int => [PV.lit (.int k n)]) (fun n => (Lit.int k n).wf = true) := by
  intro H en w base spare held fuel cs x h
  obtain ⟨n, rfl, _, hw⟩ := DataW.trod_int ht h
  exact ⟨n, hw, by simp [RelList, Rel, ground], rfl⟩
theorem Opens.bool {t : TypeId} (ht : P.underlying t = some .bool) : Opens P t (fun b : Bool => [PV.lit (.bool b)]) (fun _ => True) := by
  intro H en w base spare held fuel cs x h
  obtain ⟨b, rfl, _⟩ := DataW.trod_bool ht h
  exact ⟨b, trivial, by simp [RelList, Rel, ground], rfl⟩
theorem Opens.string {t : TypeId} (ht : P.underlying t = some .string) : Opens P t (fun s : ByteArray => [PV.lit (.string s)]) (fun s => s.size ≤ maxLen) := by
  intro H en w base spare held fuel cs x h
  obtain ⟨s, rfl, _, hs⟩ := DataW.trod_string ht h
  exact ⟨s, hs, by simp [RelList, Rel, ground], rfl⟩
theorem mapM_cells {w : World} {b : Nat} : ∀ (n o : Nat) (l : List Value), (List.range' 0 n).mapM (fun i => w.cell? ((⟨b, o, none⟩ : Addr).add i)) = some l →
    l.length = n ∧ ∀ j v, l[j]? = some v → w.cell? ⟨b, o + j, none⟩ = some v := by
  intro n o l h
  have key : ∀ (m s : Nat) (l : List Value), (List.range' s m).mapM (fun i => w.cell? ((⟨b, o, none⟩ : Addr).add i)) = some l → l.length = m ∧ ∀ j v, l[j]? = some v → w.cell? ⟨b, o + (s + j), none⟩ = some v := by
    intro m
    induction m with
    | zero => intro s l h; simp at h; subst h; simp
    | succ m ih =>
      intro s l h
      rw [List.range'_succ, List.mapM_cons] at h
      simp only [bind, Option.bind_eq_some_iff, pure, Option.some.injEq] at h
      obtain ⟨v, h1, vs, h2, rfl⟩ := h
      obtain ⟨g1, g2⟩ := ih (s + 1) vs h2
      refine ⟨by simp [g1], fun j u hj => ?_⟩
      cases j with
      | zero => simp at hj; subst hj; rw [addr_add] at h1; exact h1
      | succ j =>
        have := g2 j u (by simpa using hj)
        rw [show s + (j + 1) = s + 1 + j from by omega]; exact this
  have := key n 0 l h
  simpa using this
theorem cells_of {w : World} {base b o n : Nat} {l : List Value} (h : w.cells? base ⟨b, o, none⟩ n = some l) : l.length = n ∧ ∀ j v, l[j]? = some v → w.cell? ⟨b, o + j, none⟩ = some v := by
  unfold World.cells? at h
  split at h
  · rw [List.range_eq_range'] at h
    exact mapM_cells n o l h
  · cases h
theorem cells_spot {w : World} {base n : Nat} {a : Addr} {l : List Value} (hn : 0 < n) (h : w.cells? base a n = some l) : a.spot = none := by
  unfold World.cells? at h
  split at h
  · obtain ⟨m, rfl⟩ : ∃ m, n = m + 1 := ⟨n - 1, by omega⟩
    rw [List.range_succ_eq_map, List.mapM_cons] at h
    simp only [bind, Option.bind_eq_some_iff] at h
    obtain ⟨v, h1, _⟩ := h
    cases hs : a.spot with
    | none => rfl
    | some s =>
      exfalso
      simp only [Addr.add, if_true, World.cell?] at h1
      split at h1
      · rw [hs] at h1; simp at h1
      · cases h1
  · cases h
theorem rows_of {w : World} {D : Type} {enc : D → List PV} {good : D → Prop} {s b : Nat} {f : List Value → Prop} (hs : ∀ d, (enc d).length = s)
    (hf : ∀ cs, f cs → ∃ d, good d ∧ RelList (allKn w) w (enc d) cs ∧ (enc d).all PV.one = true) : ∀ (n o : Nat),
    (∀ i, i < n → ∃ cs, cs.length = s ∧ f cs ∧ ∀ j v, cs[j]? = some v → w.cell? ⟨b, o + i * s + j, none⟩ = some v) → ∃ l : List D, l.length = n ∧ (∀ d ∈ l, good d) ∧ RelRows (allKn w) w b o s (l.map enc)
  | 0, o, _ => ⟨[], rfl, by simp, by simp [RelRows]⟩
  | n + 1, o, h => by
    obtain ⟨cs, h1, h2, h3⟩ := h 0 (by omega)
    obtain ⟨d, g1, g2, g3⟩ := hf cs h2
    obtain ⟨l, k1, k2, k3⟩ := rows_of hs hf n (o + s) fun i hi => by
      obtain ⟨cs, h1, h2, h3⟩ := h (i + 1) (by omega)
      exact ⟨cs, h1, h2, fun j v hj => by have := h3 j v hj; rw [show o + s + i * s + j = o + (i + 1) * s + j from by rw [Nat.add_mul]; omega]; exact this⟩
    refine ⟨d :: l, by simp [k1], fun x hx => by rcases List.mem_cons.1 hx with rfl | hx; exact g1; exact k2 x hx, ?_⟩
    simp only [List.map_cons, RelRows]
    refine ⟨hs d, relCells_of_list _ cs o g2 g3 fun j hj => ?_, k3⟩
    have hj' : j < cs.length := by rw [h1, ← hs d]; exact hj
    rw [List.getElem?_eq_getElem hj']
    have := h3 j _ (List.getElem?_eq_getElem hj')
    simpa using this
theorem Opens.slice {t e : TypeId} {D : Type} {enc : D → List PV} {good : D → Prop} {s : Nat} (ht : P.underlying t = some (.slice e)) (hc : P.cellsOf e = s) (h0 : 0 < s) (hs : ∀ d, (enc d).length = s) (he : Opens P e enc good) :
    Opens P t (fun l : List D => [PV.imm (l.map enc) false]) (fun l => l.length ≤ maxLen ∧ ∀ d ∈ l, good d) := by
  intro H en w base spare held fuel cs x h
  rcases DataW.trod_slice ht h with ⟨rfl, rfl⟩ | ⟨a, len, cap, elems, rest, n, rfl, rfl, rfl, hb, hl, hm, hel, hget, _⟩
  · exact ⟨[], ⟨by simp, by simp⟩, by simp only [RelList, Rel]; exact ⟨_, [], rfl, ⟨none, 0, 0, rfl, rfl, Nat.le_refl _, by simp, .inl rfl⟩, rfl⟩, rfl⟩
  · have hex : ∀ i, i < len → ∃ cs x, w.cells? base (a.add (i * P.cellsOf e)) (P.cellsOf e) = some cs ∧ DataW.trod en P w base spare held n e cs = some x := fun i hi => by
      have := hget i hi
      rw [List.getElem?_eq_getElem (by rw [hel]; exact hi), Option.bind_eq_some_iff] at this
      obtain ⟨cs, h1, h2⟩ := this
      exact ⟨cs, _, h1, h2⟩
    by_cases hz : len = 0
    · subst hz
      exact ⟨[], ⟨by simp, by simp⟩, by simp only [RelList, Rel]; exact ⟨_, [], rfl, ⟨some a, 0, cap, rfl, rfl, Nat.zero_le _, by simp, .inl rfl⟩, rfl⟩, rfl⟩
    · have hsp : a.spot = none := by
        obtain ⟨cs, x, h1, _⟩ := hex 0 (by omega)
        rw [Nat.zero_mul, Addr.add, if_pos rfl] at h1
        exact cells_spot (by rw [hc]; exact h0) h1
      obtain ⟨b, o, sp⟩ := a
      simp only at hsp
      subst hsp
      have hblk : b < w.heap.size := by
        obtain ⟨cs, x, h1, _⟩ := hex 0 (by omega)
        rw [addr_add] at h1
        obtain ⟨g1, g2⟩ := cells_of h1
        have hlt : 0 < cs.length := by rw [g1, hc]; exact h0
        have := g2 0 _ (List.getElem?_eq_getElem hlt)
        unfold World.cell? at this
        split at this
        · rename_i c e' fr hh; exact (Array.getElem?_eq_some_iff.1 hh).1
        · cases this
      obtain ⟨l, k1, k2, k3⟩ := rows_of (w := w) (b := b) (f := fun cs => ∃ x, DataW.trod en P w base spare held n e cs = some x) hs (fun cs ⟨x, hx⟩ => he H en w base spare held n cs x hx) len o fun i hi => by
        obtain ⟨cs, x, h1, h2⟩ := hex i hi
        rw [addr_add, hc] at h1
        obtain ⟨g1, g2⟩ := cells_of h1
        exact ⟨cs, g1, ⟨x, h2⟩, g2⟩
      refine ⟨l, ⟨by rw [k1]; omega, k2⟩, ?_, rfl⟩
      simp only [RelList, Rel]
      exact ⟨_, [], rfl, ⟨some ⟨b, o, none⟩, len, cap, rfl, by simp [k1], hl, by simp, .inr ⟨b, o, s, rfl, hblk, k3⟩⟩, rfl⟩
theorem Opens.struct2 {t : TypeId} {f0 f1 : Field} {D0 D1 : Type} {enc0 : D0 → List PV} {enc1 : D1 → List PV} {good0 : D0 → Prop} {good1 : D1 → Prop} {s0 s1 : Nat} (ht : P.underlying t = some (.struct #[f0, f1]))
    (hc : P.cellsOf t = s0 + s1) (h0 : P.cellsOf f0.type = s0) (h1 : P.cellsOf f1.type = s1) (o0 : f0.offset = 0) (o1 : f1.offset = s0) (e0 : Opens P f0.type enc0 good0) (e1 : Opens P f1.type enc1 good1) :
    Opens P t (fun d : D0 × D1 => enc0 d.1 ++ enc1 d.2) (fun d => good0 d.1 ∧ good1 d.2) := by
  intro H en w base spare held fuel cs x h
  obtain ⟨y0, y1, n, _, hl, g0, g1⟩ := ChangeShapes.trod_struct2 ht h
  rw [o0, h0, List.drop_zero] at g0
  rw [o1, h1] at g1
  obtain ⟨d0, a1, a2, a3⟩ := e0 H en w base spare held n _ _ g0
  obtain ⟨d1, b1, b2, b3⟩ := e1 H en w base spare held n _ _ g1
  refine ⟨(d0, d1), ⟨a1, b1⟩, ?_, by simp only [List.all_append, a3, b3, Bool.and_self]⟩
  have := relList_append _ _ a2 b2
  rwa [List.take_of_length_le (l := cs.drop s0) (by rw [List.length_drop]; omega), List.take_append_drop] at this
theorem Bel.below {w w' : World} (h : Bel w w') : RowKit.Below w.heap.size w w' := ⟨h.os, h.tape, h.output.eq, h.size, h.hold⟩
theorem trodAll_below {P : Program} (laidOut : laidOutB P = true) {H : Type} {en : TypeId × Value → H} {W W' : World} (bel : Bel W W') : ∀ (ts : List TypeId) (vs : List Value) (ds : List (DataW H)) (ps : List MemPlace),
    ts.all (fun t => P.readableRec t && decide (t < P.types.size)) = true → DataW.TrodAll en P W 0 (fun _ => true) true ts vs ds ps →
    DataW.TrodAll en P W' 0 (fun b => decide (b < W.heap.size)) true ts vs ds ps
  | [], [], [], ps, _, h => h
  | t :: ts, v :: vs, d :: ds, ps, hr, h => by
    obtain ⟨p, q, h1, h2, e⟩ := h
    simp only [List.all_cons, Bool.and_eq_true, decide_eq_true_eq] at hr
    refine ⟨p, q, RowKit.Below.trod laidOut hr.1.1 hr.1.2 h1 bel.below ?_, trodAll_below laidOut bel ts vs ds q hr.2 h2, e⟩
    obtain ⟨m, hm⟩ := h1
    exact DataW.trod_lt m _ _ _ hm
  | [], _ :: _, _, _, _, h => h.elim
  | [], [], _ :: _, _, _, h => h.elim
  | _ :: _, [], _, _, _, h => h.elim
  | _ :: _, _ :: _, [], _, _, h => h.elim
end
end Go.Ab
end
