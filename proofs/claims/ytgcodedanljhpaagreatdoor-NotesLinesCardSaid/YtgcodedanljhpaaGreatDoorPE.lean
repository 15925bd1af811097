/- ledger.Differ. -/
import Derived.Test.YtgcodedanljhpaaGreatDoorLP
set_option linter.unusedSimpArgs false
set_option linter.unusedVariables false
set_option maxRecDepth 1000000
set_option maxHeartbeats 16000000
namespace Go.Ab
open Go Go.Proofs
theorem bd_PE : type_of% (And.intro @evNext.eq_1 (And.intro @fld (And.intro @nit (And.intro @nxE (And.intro @ghR (And.intro @ovR (And.intro @evBin_seql (And.intro @evBin_sneq (And.intro @str.eq_1 (And.intro @u8.eq_1 (And.intro @encBrs.eq_1 (And.intro @cBr.eq_1 (And.intro @encLdg.eq_1 (And.intro @encKws.eq_1 (And.intro @cKw.eq_1 (And.intro @encEvss.eq_1 (And.intro @encEvs.eq_1 (And.intro @cEv.eq_1 (And.intro @encMks.eq_1 (And.intro @cMk.eq_1 (And.intro @tk2 (And.intro @tk3 (And.intro @List.set_cons_succ.{0} (And.intro @List.getElem?_cons_zero.{0} (And.intro @List.getElem?_cons_succ.{0} (@List.length_set.{0})))))))))))))))))))))))))) := And.intro @evNext.eq_1 (And.intro @fld (And.intro @nit (And.intro @nxE (And.intro @ghR (And.intro @ovR (And.intro @evBin_seql (And.intro @evBin_sneq (And.intro @str.eq_1 (And.intro @u8.eq_1 (And.intro @encBrs.eq_1 (And.intro @cBr.eq_1 (And.intro @encLdg.eq_1 (And.intro @encKws.eq_1 (And.intro @cKw.eq_1 (And.intro @encEvss.eq_1 (And.intro @encEvs.eq_1 (And.intro @cEv.eq_1 (And.intro @encMks.eq_1 (And.intro @cMk.eq_1 (And.intro @tk2 (And.intro @tk3 (And.intro @List.set_cons_succ.{0} (And.intro @List.getElem?_cons_zero.{0} (And.intro @List.getElem?_cons_succ.{0} (@List.length_set.{0})))))))))))))))))))))))))
def onlyP (f : Str → Int) (s t : List Ev) : List Bool := (List.range 30).map fun (c : Nat) => inB f s c && !inB f t c
def onlyL (f : Str → Int) (s t : List Ev) : List Int := lst 0 (onlyP f s t)
theorem onlyP_get {f : Str → Int} {s t : List Ev} {n : Nat} (h : n < 30) : (onlyP f s t)[n]? = some (inB f s n && !inB f t n) := by
  rw [onlyP, List.getElem?_map, List.getElem?_range h]; rfl
theorem onlyP_len {f : Str → Int} {s t : List Ev} : (onlyP f s t).length = 30 := by simp [onlyP]
def ldiff (l : Ldg) (a b : Str) : List Int × List Int × Int :=
  if (lview l a).2 ≠ 0 then ([], [], (lview l a).2) else if (lview l b).2 ≠ 0 then ([], [], (lview l b).2)
  else (onlyL (cls0 l.known) (seenE l (lview l a).1) (seenE l (lview l b).1), onlyL (cls0 l.known) (seenE l (lview l b).1) (seenE l (lview l a).1), 0)
theorem delE {σ : Store} {i k : Nat} : (σ.del i) k = if k = i then none else σ k := rfl
theorem d_Differ (l : Ldg) (a b : Str) (hz : LSz l) : CallSpec cx 41 [encLdg l, str a, str b] (.tup [newI (ldiff l a b).1, newI (ldiff l a b).2.1, i64 (ldiff l a b).2.2]) := by
  refine callSpec_of_vc Tryz.func41 rfl (by decide) (by kernel_rfl) (Nat.le_of_ble_eq_true rfl) ?_
  try simp -dsimp (maxSteps := 9^9) (disch := first | omega | decide +kernel) only [↓bp0, bd0, bd_PE, reduceIte, Nat.reduceEqDiff, evStore, Nat.reduceAdd, Nat.reduceMul, Int.reduceEq, Int.reduceLT, Int.reduceLE, Nat.reduceLeDiff, List.reduceReplicate, reduceCtorEq, evRange, Nat.reduceLT, Tryz.f41]
  refine CallQ.imm (d_lview l a hz) (by rfl) (by first | rfl | (simp -dsimp (maxSteps := 9^9) (disch := first | omega | decide +kernel) only [↓bp0, bd0, bd_PE, reduceIte, Nat.reduceEqDiff, evStore, Nat.reduceAdd, Nat.reduceMul, Int.reduceEq, Int.reduceLT, Int.reduceLE, Nat.reduceLeDiff, List.reduceReplicate, reduceCtorEq, evRange, Nat.reduceLT, drcs, drc, flat]; done) | simp -dsimp [evl, drcs, drc, flat, i64, u32, bl, encL, encB, encLL]) (by first | exact .inl rfl | exact .inr rfl | exact .inr scalB | exact .inr scalI | exact .inr scalT | exact .inr scalM | exact .inr scalMT) ?_
  cases h0 : decide ((lview l a).2 = 0)
  · have h0' := of_decide_eq_false h0
    rw [ldiff, if_pos h0']
    simp -dsimp (maxSteps := 9^9) (disch := first | omega | decide +kernel) only [↓bp0, bd0, bd_PE, reduceIte, Nat.reduceEqDiff, evStore, Nat.reduceAdd, Nat.reduceMul, Int.reduceEq, Int.reduceLT, Int.reduceLE, Nat.reduceLeDiff, List.reduceReplicate, reduceCtorEq, evRange, Nat.reduceLT, retQ, resL, finL, newL, flat, tupOf, List.toList_toArray, Tryz.f41, h0]
    exact ⟨.inr ⟨rfl, 1, rfl⟩, .inr ⟨rfl, 1, rfl⟩, .rfl', trivial⟩
  have h0' := of_decide_eq_true h0
  obtain ⟨hok, _⟩ := lview_ok h0'
  have hlc : lchk l = 0 := by
    unfold lview at h0'
    split at h0'
    · rename_i h1; exact absurd h0' h1
    · rename_i h1; exact Decidable.not_not.1 h1
  have hvb : lview l b = bview l.brs (cnts l) b := by rw [lview, if_neg (by rw [Decidable.not_not]; exact hlc)]
  obtain ⟨q1, q2, q3, q4⟩ := fold_pre h0'
  have cV := d_View l.brs (cnts l) b (by have := hz.brs; omega) (by have := hz.evs; simp [cnts]; omega)
  rw [← hvb] at cV
  have hD : ldiff l a b = if (lview l b).2 ≠ 0 then ([], [], (lview l b).2) else (onlyL (cls0 l.known) (seenE l (lview l a).1) (seenE l (lview l b).1), onlyL (cls0 l.known) (seenE l (lview l b).1) (seenE l (lview l a).1), 0) := by
    rw [ldiff, if_neg (by rw [Decidable.not_not]; exact h0')]
  rw [hD]
  clear hD
  try simp -dsimp (maxSteps := 9^9) (disch := first | omega | decide +kernel) only [↓bp0, bd0, bd_PE, reduceIte, Nat.reduceEqDiff, evStore, Nat.reduceAdd, Nat.reduceMul, Int.reduceEq, Int.reduceLT, Int.reduceLE, Nat.reduceLeDiff, List.reduceReplicate, reduceCtorEq, evRange, Nat.reduceLT, h0, newMks]
  first | refine vc_text (by kernel_rfl) ?_ | skip
  try simp -dsimp (maxSteps := 9^9) (disch := first | omega | decide +kernel) only [↓bp0, bd0, bd_PE, reduceIte, Nat.reduceEqDiff, evStore, Nat.reduceAdd, Nat.reduceMul, Int.reduceEq, Int.reduceLT, Int.reduceLE, Nat.reduceLeDiff, List.reduceReplicate, reduceCtorEq, evRange, Nat.reduceLT]
  refine CallY.imm (d_counts l hz.evs hz.ev) (by rfl) (by first | rfl | (simp -dsimp (maxSteps := 9^9) (disch := first | omega | decide +kernel) only [↓bp0, bd0, bd_PE, reduceIte, Nat.reduceEqDiff, evStore, Nat.reduceAdd, Nat.reduceMul, Int.reduceEq, Int.reduceLT, Int.reduceLE, Nat.reduceLeDiff, List.reduceReplicate, reduceCtorEq, evRange, Nat.reduceLT, drcs, drc, flat]; done) | simp -dsimp [evl, drcs, drc, flat, i64, u32, bl, encL, encB, encLL]) (by first | exact .inl rfl | exact .inr rfl | exact .inr scalB | exact .inr scalI | exact .inr scalT | exact .inr scalM | exact .inr scalMT) ?_
  try simp -dsimp (maxSteps := 9^9) (disch := first | omega | decide +kernel) only [↓bp0, bd0, bd_PE, reduceIte, Nat.reduceEqDiff, evStore, Nat.reduceAdd, Nat.reduceMul, Int.reduceEq, Int.reduceLT, Int.reduceLE, Nat.reduceLeDiff, List.reduceReplicate, reduceCtorEq, evRange, Nat.reduceLT, newI]
  refine CallY.imm (cV) (by rfl) (by first | rfl | (simp -dsimp (maxSteps := 9^9) (disch := first | omega | decide +kernel) only [↓bp0, bd0, bd_PE, reduceIte, Nat.reduceEqDiff, evStore, Nat.reduceAdd, Nat.reduceMul, Int.reduceEq, Int.reduceLT, Int.reduceLE, Nat.reduceLeDiff, List.reduceReplicate, reduceCtorEq, evRange, Nat.reduceLT, drcs, drc, flat, newI, encL]; done) | simp -dsimp [evl, drcs, drc, flat, i64, u32, bl, encL, encB, encLL]) (by first | exact .inl rfl | exact .inr rfl | exact .inr scalB | exact .inr scalI | exact .inr scalT | exact .inr scalM | exact .inr scalMT) ?_
  cases h1 : decide ((lview l b).2 = 0)
  · have h1' := of_decide_eq_false h1
    rw [if_pos h1']
    simp -dsimp (maxSteps := 9^9) (disch := first | omega | decide +kernel) only [↓bp0, bd0, bd_PE, reduceIte, Nat.reduceEqDiff, evStore, Nat.reduceAdd, Nat.reduceMul, Int.reduceEq, Int.reduceLT, Int.reduceLE, Nat.reduceLeDiff, List.reduceReplicate, reduceCtorEq, evRange, Nat.reduceLT, retQ, resL, finL, newL, flat, tupOf, List.toList_toArray, Tryz.f41, h1]
    exact ⟨.inr ⟨rfl, 1, rfl⟩, .inr ⟨rfl, 1, rfl⟩, .rfl', trivial⟩
  have h1' := of_decide_eq_true h1
  obtain ⟨_, p2, p3, p4⟩ := fold_pre h1'
  rw [if_neg (by rw [Decidable.not_not]; exact h1')]
  generalize hvA : (lview l a).1 = vA at q2 q3 q4 ⊢
  generalize hvB : (lview l b).1 = vB at p2 p3 p4 ⊢
  try simp -dsimp (maxSteps := 9^9) (disch := first | omega | decide +kernel) only [↓bp0, bd0, bd_PE, reduceIte, Nat.reduceEqDiff, evStore, Nat.reduceAdd, Nat.reduceMul, Int.reduceEq, Int.reduceLT, Int.reduceLE, Nat.reduceLeDiff, List.reduceReplicate, reduceCtorEq, evRange, Nat.reduceLT, h1, newMks]
  refine vc_regJ (fun τ => τ 0 = some (.row 0 3 [[encKws l.known, encBrs l.brs, encEvss l.evs]] false)) [0, 1, 3, 4, 6] [2, 5] (by kernel_rfl) (by kernel_rfl) ?_ ?_
  · exact (by simp -dsimp (maxSteps := 9^9) (disch := first | omega | decide +kernel) only [↓bp0, bd0, bd_PE, reduceIte, Nat.reduceEqDiff, evStore, Nat.reduceAdd, Nat.reduceMul, Int.reduceEq, Int.reduceLT, Int.reduceLE, Nat.reduceLeDiff, List.reduceReplicate, reduceCtorEq, evRange, Nat.reduceLT])
  try simp -dsimp (maxSteps := 9^9) (disch := first | omega | decide +kernel) only [↓bp0, bd0, bd_PE, reduceIte, Nat.reduceEqDiff, evStore, Nat.reduceAdd, Nat.reduceMul, Int.reduceEq, Int.reduceLT, Int.reduceLE, Nat.reduceLeDiff, List.reduceReplicate, reduceCtorEq, evRange, Nat.reduceLT, vcj, implies_true]
  refine ⟨fun τ hτ => by simp -dsimp (maxSteps := 9^9) (disch := first | omega | decide +kernel) only [↓bp0, bd0, bd_PE, reduceIte, Nat.reduceEqDiff, evStore, Nat.reduceAdd, Nat.reduceMul, Int.reduceEq, Int.reduceLT, Int.reduceLE, Nat.reduceLeDiff, List.reduceReplicate, reduceCtorEq, evRange, Nat.reduceLT, hτ], ?_⟩
  refine EffQ.inm (d_folded l q1 vA q2 q3 q4 _ _) ⟨.ptr _ 0 0 0, _, _, _, 0, Nat.le_refl _, Nat.lt_succ_self _, rfl, rfl⟩ (by rfl) ?_
  rintro r σ' nx1 ⟨ids, ver, hs1, hs2, rfl, rfl⟩
  simp only [St.put] at hs1
  have hs0 : 1 ≤ ids := hs1
  have D1 : (ids = 0) = False := eq_false (by omega)
  have D2 : (0 = ids) = False := eq_false (by omega)
  refine ⟨.inr (by simp -dsimp (maxSteps := 9^9) (disch := first | omega | decide +kernel) only [↓bp0, bd0, bd_PE, reduceIte, Nat.reduceEqDiff, evStore, Nat.reduceAdd, Nat.reduceMul, Int.reduceEq, Int.reduceLT, Int.reduceLE, Nat.reduceLeDiff, List.reduceReplicate, reduceCtorEq, evRange, Nat.reduceLT, D1, D2]), ?_⟩
  try simp -dsimp (maxSteps := 9^9) (disch := first | omega | decide +kernel) only [↓bp0, bd0, bd_PE, reduceIte, Nat.reduceEqDiff, evStore, Nat.reduceAdd, Nat.reduceMul, Int.reduceEq, Int.reduceLT, Int.reduceLE, Nat.reduceLeDiff, List.reduceReplicate, reduceCtorEq, evRange, Nat.reduceLT, vcj, implies_true, D1, D2]
  refine ⟨fun τ hτ => by simp -dsimp (maxSteps := 9^9) (disch := first | omega | decide +kernel) only [↓bp0, bd0, bd_PE, reduceIte, Nat.reduceEqDiff, evStore, Nat.reduceAdd, Nat.reduceMul, Int.reduceEq, Int.reduceLT, Int.reduceLE, Nat.reduceLeDiff, List.reduceReplicate, reduceCtorEq, evRange, Nat.reduceLT, hτ], ?_⟩
  refine EffQ.inm (d_folded l q1 vB p2 p3 p4 _ _) ⟨.ptr _ 0 0 0, _, _, _, 0, Nat.le_refl _, Nat.lt_succ_self _, rfl, rfl⟩ (by rfl) ?_
  rintro r σ' nx2 ⟨idt, ver2, ht1, ht2, rfl, rfl⟩
  simp only [St.put] at ht1
  have ht0 : nx1 ≤ idt := ht1
  have D3 : (idt = 0) = False := eq_false (by omega)
  have D4 : (0 = idt) = False := eq_false (by omega)
  have D5 : (idt = ids) = False := eq_false (by omega)
  have D6 : (ids = idt) = False := eq_false (by omega)
  refine ⟨.inr (by simp -dsimp (maxSteps := 9^9) (disch := first | omega | decide +kernel) only [↓bp0, bd0, bd_PE, reduceIte, Nat.reduceEqDiff, evStore, Nat.reduceAdd, Nat.reduceMul, Int.reduceEq, Int.reduceLT, Int.reduceLE, Nat.reduceLeDiff, List.reduceReplicate, reduceCtorEq, evRange, Nat.reduceLT, D1, D2, D3, D4, D5, D6]), ?_⟩
  try simp -dsimp (maxSteps := 9^9) (disch := first | omega | decide +kernel) only [↓bp0, bd0, bd_PE, reduceIte, Nat.reduceEqDiff, evStore, Nat.reduceAdd, Nat.reduceMul, Int.reduceEq, Int.reduceLT, Int.reduceLE, Nat.reduceLeDiff, List.reduceReplicate, reduceCtorEq, evRange, Nat.reduceLT, vcj, implies_true, D1, D2, D3, D4, D5, D6]
  obtain ⟨s, hs⟩ : ∃ s, s = seenE l vA := ⟨_, rfl⟩
  obtain ⟨t, ht⟩ : ∃ t, t = seenE l vB := ⟨_, rfl⟩
  rw [← hs, ← ht]
  refine LoopQ.ghost 6 1 (by rfl) ?_
  refine LoopQ.ghost 7 1 (by rfl) ?_
  have hl1 := stC_len (cls0 l.known) s
  have hl2 := stC_len (cls0 l.known) t
  have hst := onlyP_len (f := cls0 l.known) (s := s) (t := t)
  have hts := onlyP_len (f := cls0 l.known) (s := t) (t := s)
  generalize cls0 l.known = f at *
  refine LoopQ.rule (fun m st => ∃ i va vb nx : Nat, i ≤ 30 ∧ nx2 + 1 < nx ∧ m = 30 - i ∧
    st = ⟨mkE [(6, .own nx2 va 0 (lst 0 ((onlyP f s t).take i)).length false), (7, .own (nx2 + 1) vb 0 (lst 0 ((onlyP f t s).take i)).length false), (11, .ptr ids ver 0 0), (12, .ptr idt ver2 0 0), (41, i64 i)],
      mkS [(ids, .row ver 60 [stC f s] false), (idt, .row ver2 60 [stC f t] false), (nx2, .row va 1 ((lst 0 ((onlyP f s t).take i)).map fun n => [i64 n]) false), (nx2 + 1, .row vb 1 ((lst 0 ((onlyP f t s).take i)).map fun n => [i64 n]) false)], nx⟩) _ _ (weak_of ?_)
    ⟨0, 0, 0, nx2 + 2, by omega, by omega, rfl, rfl⟩ ?_
  · have G1 : (nx2 = ids) = False := eq_false (by omega)
    have G2 : (ids = nx2) = False := eq_false (by omega)
    have G3 : (nx2 = idt) = False := eq_false (by omega)
    have G4 : (idt = nx2) = False := eq_false (by omega)
    have G5 : (nx2 + 1 = ids) = False := eq_false (by omega)
    have G6 : (ids = nx2 + 1) = False := eq_false (by omega)
    have G7 : (nx2 + 1 = idt) = False := eq_false (by omega)
    have G8 : (idt = nx2 + 1) = False := eq_false (by omega)
    first | (simp -dsimp (maxSteps := 9^9) (disch := first | omega | decide +kernel) only [↓bp0, bd0, bd_PE, reduceIte, Nat.reduceEqDiff, evStore, Nat.reduceAdd, Nat.reduceMul, Int.reduceEq, Int.reduceLT, Int.reduceLE, Nat.reduceLeDiff, List.reduceReplicate, reduceCtorEq, evRange, Nat.reduceLT, ghR, lst, D5, D6, G1, G2, G3, G4, G5, G6, G7, G8]; done) | simp -dsimp [evl, putN, i64, u32, bl, encL, encB, encLL, ghR, lst, D5, D6, G1, G2, G3, G4, G5, G6, G7, G8]
  rintro m st ⟨i, va, vb, nx, hi, hnx, rfl, rfl⟩
  have G1 : (nx2 = ids) = False := eq_false (by omega)
  have G2 : (ids = nx2) = False := eq_false (by omega)
  have G3 : (nx2 = idt) = False := eq_false (by omega)
  have G4 : (idt = nx2) = False := eq_false (by omega)
  have G5 : (nx2 + 1 = ids) = False := eq_false (by omega)
  have G6 : (ids = nx2 + 1) = False := eq_false (by omega)
  have G7 : (nx2 + 1 = idt) = False := eq_false (by omega)
  have G8 : (idt = nx2 + 1) = False := eq_false (by omega)
  have H1 : (nx = ids) = False := eq_false (by omega)
  have H2 : (ids = nx) = False := eq_false (by omega)
  have H3 : (nx = idt) = False := eq_false (by omega)
  have H4 : (idt = nx) = False := eq_false (by omega)
  have H5 : (nx = nx2) = False := eq_false (by omega)
  have H6 : (nx2 = nx) = False := eq_false (by omega)
  have H7 : (nx = nx2 + 1) = False := eq_false (by omega)
  have H8 : (nx2 + 1 = nx) = False := eq_false (by omega)
  have hlA := lst_len ((onlyP f s t).take i) 0
  have hlB := lst_len ((onlyP f t s).take i) 0
  rw [List.length_take] at hlA hlB
  have hbA : ((lst 0 ((onlyP f s t).take i)).length + 1) * 8 ≤ 140737488355328 := by omega
  have hbB : ((lst 0 ((onlyP f t s).take i)).length + 1) * 8 ≤ 140737488355328 := by omega
  try simp -dsimp (maxSteps := 9^9) (disch := first | omega | decide +kernel) only [↓bp0, bd0, bd_PE, reduceIte, Nat.reduceEqDiff, evStore, Nat.reduceAdd, Nat.reduceMul, Int.reduceEq, Int.reduceLT, Int.reduceLE, Nat.reduceLeDiff, List.reduceReplicate, reduceCtorEq, evRange, Nat.reduceLT, D5, D6, G1, G2, G3, G4, G5, G6, G7, G8, H1, H2, H3, H4, H5, H6, H7, H8]
  refine onC_ilt (fun h2 => ?_) (fun h2 => ?_)
  · have h2 : i < 30 := by omega
    have x1 := stC_in (f := f) (es := s) h2
    have x2 := stC_in (f := f) (es := t) h2
    have t1 := take_succ (onlyP_get (f := f) (s := s) (t := t) h2)
    have t2 := take_succ (onlyP_get (f := f) (s := t) (t := s) h2)
    have l1 := lst_snoc ((onlyP f s t).take i) 0 (inB f s i && !inB f t i)
    have l2 := lst_snoc ((onlyP f t s).take i) 0 (inB f t i && !inB f s i)
    rw [List.length_take, Nat.min_eq_left (by omega), Nat.zero_add] at l1 l2
    cases e1 : inB f s i
    all_goals cases e2 : inB f t i
    all_goals
      rw [e1, e2] at t1 t2 l1 l2
      rw [e1] at x1
      rw [e2] at x2
      simp only [Bool.not_true, Bool.not_false, Bool.and_true, Bool.and_false, Bool.and_self, if_true, if_false, Bool.false_eq_true, List.append_nil] at t1 t2 l1 l2
    case true.false =>
      try simp -dsimp (maxSteps := 9^9) (disch := first | omega | decide +kernel) only [↓bp0, bd0, bd_PE, reduceIte, Nat.reduceEqDiff, evStore, Nat.reduceAdd, Nat.reduceMul, Int.reduceEq, Int.reduceLT, Int.reduceLE, Nat.reduceLeDiff, List.reduceReplicate, reduceCtorEq, evRange, Nat.reduceLT, x1, x2, h2, Nat.mul_one, List.getElem?_drop, Nat.add_zero, List.drop_zero, uUn, Option.bind_some, hbA, hbB, D5, D6, G1, G2, G3, G4, G5, G6, G7, G8, H1, H2, H3, H4, H5, H6, H7, H8]
      refine ⟨_, _, ?_, weak_of ?_, i + 1, va + 1, vb, nx + 1, by omega, by omega, rfl, rfl⟩
      · omega
      · first | (simp -dsimp (maxSteps := 9^9) (disch := first | omega | decide +kernel) only [↓bp0, bd0, bd_PE, reduceIte, Nat.reduceEqDiff, evStore, Nat.reduceAdd, Nat.reduceMul, Int.reduceEq, Int.reduceLT, Int.reduceLE, Nat.reduceLeDiff, List.reduceReplicate, reduceCtorEq, evRange, Nat.reduceLT, wrapS h2 (show 30 ≤ 9223372036854775807 by omega), t1, t2, l1, l2, Bool.and_true, Bool.and_false, Bool.not_true, Bool.not_false, List.append_nil, D5, D6, G1, G2, G3, G4, G5, G6, G7, G8, H1, H2, H3, H4, H5, H6, H7, H8]; done) | simp -dsimp [evl, putN, i64, u32, bl, encL, encB, encLL, wrapS h2 (show 30 ≤ 9223372036854775807 by omega), t1, t2, l1, l2, Bool.and_true, Bool.and_false, Bool.not_true, Bool.not_false, List.append_nil, D5, D6, G1, G2, G3, G4, G5, G6, G7, G8, H1, H2, H3, H4, H5, H6, H7, H8]
    case false.true =>
      try simp -dsimp (maxSteps := 9^9) (disch := first | omega | decide +kernel) only [↓bp0, bd0, bd_PE, reduceIte, Nat.reduceEqDiff, evStore, Nat.reduceAdd, Nat.reduceMul, Int.reduceEq, Int.reduceLT, Int.reduceLE, Nat.reduceLeDiff, List.reduceReplicate, reduceCtorEq, evRange, Nat.reduceLT, x1, x2, h2, Nat.mul_one, List.getElem?_drop, Nat.add_zero, List.drop_zero, uUn, Option.bind_some, hbA, hbB, D5, D6, G1, G2, G3, G4, G5, G6, G7, G8, H1, H2, H3, H4, H5, H6, H7, H8]
      refine ⟨_, _, ?_, weak_of ?_, i + 1, va, vb + 1, nx + 1, by omega, by omega, rfl, rfl⟩
      · omega
      · first | (simp -dsimp (maxSteps := 9^9) (disch := first | omega | decide +kernel) only [↓bp0, bd0, bd_PE, reduceIte, Nat.reduceEqDiff, evStore, Nat.reduceAdd, Nat.reduceMul, Int.reduceEq, Int.reduceLT, Int.reduceLE, Nat.reduceLeDiff, List.reduceReplicate, reduceCtorEq, evRange, Nat.reduceLT, wrapS h2 (show 30 ≤ 9223372036854775807 by omega), t1, t2, l1, l2, Bool.and_true, Bool.and_false, Bool.not_true, Bool.not_false, List.append_nil, D5, D6, G1, G2, G3, G4, G5, G6, G7, G8, H1, H2, H3, H4, H5, H6, H7, H8]; done) | simp -dsimp [evl, putN, i64, u32, bl, encL, encB, encLL, wrapS h2 (show 30 ≤ 9223372036854775807 by omega), t1, t2, l1, l2, Bool.and_true, Bool.and_false, Bool.not_true, Bool.not_false, List.append_nil, D5, D6, G1, G2, G3, G4, G5, G6, G7, G8, H1, H2, H3, H4, H5, H6, H7, H8]
    all_goals
      try simp -dsimp (maxSteps := 9^9) (disch := first | omega | decide +kernel) only [↓bp0, bd0, bd_PE, reduceIte, Nat.reduceEqDiff, evStore, Nat.reduceAdd, Nat.reduceMul, Int.reduceEq, Int.reduceLT, Int.reduceLE, Nat.reduceLeDiff, List.reduceReplicate, reduceCtorEq, evRange, Nat.reduceLT, x1, x2, h2, Nat.mul_one, List.getElem?_drop, Nat.add_zero, List.drop_zero, uUn, Option.bind_some, hbA, hbB, D5, D6, G1, G2, G3, G4, G5, G6, G7, G8, H1, H2, H3, H4, H5, H6, H7, H8]
      refine ⟨_, _, ?_, weak_of ?_, i + 1, va, vb, nx, by omega, by omega, rfl, rfl⟩
      · omega
      · first | (simp -dsimp (maxSteps := 9^9) (disch := first | omega | decide +kernel) only [↓bp0, bd0, bd_PE, reduceIte, Nat.reduceEqDiff, evStore, Nat.reduceAdd, Nat.reduceMul, Int.reduceEq, Int.reduceLT, Int.reduceLE, Nat.reduceLeDiff, List.reduceReplicate, reduceCtorEq, evRange, Nat.reduceLT, wrapS h2 (show 30 ≤ 9223372036854775807 by omega), t1, t2, l1, l2, Bool.and_true, Bool.and_false, Bool.not_true, Bool.not_false, List.append_nil, D5, D6, G1, G2, G3, G4, G5, G6, G7, G8, H1, H2, H3, H4, H5, H6, H7, H8]; done) | simp -dsimp [evl, putN, i64, u32, bl, encL, encB, encLL, wrapS h2 (show 30 ≤ 9223372036854775807 by omega), t1, t2, l1, l2, Bool.and_true, Bool.and_false, Bool.not_true, Bool.not_false, List.append_nil, D5, D6, G1, G2, G3, G4, G5, G6, G7, G8, H1, H2, H3, H4, H5, H6, H7, H8]
  · rw [List.take_of_length_le (by omega), List.take_of_length_le (by omega)]
    simp -dsimp (maxSteps := 9^9) (disch := first | omega | decide +kernel) only [↓bp0, bd0, bd_PE, reduceIte, Nat.reduceEqDiff, evStore, Nat.reduceAdd, Nat.reduceMul, Int.reduceEq, Int.reduceLT, Int.reduceLE, Nat.reduceLeDiff, List.reduceReplicate, reduceCtorEq, evRange, Nat.reduceLT, retQ, resL, finL, newL, flat, tupOf, List.toList_toArray, Tryz.f41, delE, D5, D6, G1, G2, G3, G4, G5, G6, G7, G8, H1, H2, H3, H4, H5, H6, H7, H8]
    exact ⟨.rfl', .rfl', .rfl', trivial⟩
end Go.Ab
