/- The last notes of classes: notes.lasts. -/
import Derived.Test.YtgcodedanljhpaaGreatDoorPC
set_option linter.unusedSimpArgs false
set_option linter.unusedVariables false
set_option maxRecDepth 1000000
set_option maxHeartbeats 16000000
namespace Go.Ab
open Go Go.Proofs
theorem bd_PD : type_of% (And.intro @evNext.eq_1 (And.intro @fld (And.intro @nit (And.intro @nxE (And.intro @ghR (And.intro @ovR (And.intro @evBin_seql (And.intro @evBin_sneq (And.intro @str.eq_1 (And.intro @u8.eq_1 (And.intro @encBrs.eq_1 (And.intro @cBr.eq_1 (And.intro @encLdg.eq_1 (And.intro @encKws.eq_1 (And.intro @cKw.eq_1 (And.intro @encEvss.eq_1 (And.intro @encEvs.eq_1 (And.intro @cEv.eq_1 (And.intro @encMks.eq_1 (And.intro @cMk.eq_1 (And.intro @encStrs.eq_1 (And.intro @tk2 (And.intro @tk3 (And.intro @List.set_cons_succ.{0} (And.intro @List.getElem?_cons_zero.{0} (And.intro @List.getElem?_cons_succ.{0} (@List.length_set.{0}))))))))))))))))))))))))))) := And.intro @evNext.eq_1 (And.intro @fld (And.intro @nit (And.intro @nxE (And.intro @ghR (And.intro @ovR (And.intro @evBin_seql (And.intro @evBin_sneq (And.intro @str.eq_1 (And.intro @u8.eq_1 (And.intro @encBrs.eq_1 (And.intro @cBr.eq_1 (And.intro @encLdg.eq_1 (And.intro @encKws.eq_1 (And.intro @cKw.eq_1 (And.intro @encEvss.eq_1 (And.intro @encEvs.eq_1 (And.intro @cEv.eq_1 (And.intro @encMks.eq_1 (And.intro @cMk.eq_1 (And.intro @encStrs.eq_1 (And.intro @tk2 (And.intro @tk3 (And.intro @List.set_cons_succ.{0} (And.intro @List.getElem?_cons_zero.{0} (And.intro @List.getElem?_cons_succ.{0} (@List.length_set.{0}))))))))))))))))))))))))))
def selB (f : Str → Int) (v : List Ev) (cs : List Int) (i : Nat) : Bool := match v[i]? with
  | some e => !((v.drop (i + 1)).any fun x => decide (f x.chg = f e.chg)) && (cs.any fun y => decide (f e.chg = y))
  | none => false
def ntAt (f : Str → Int) (v : List Ev) (i : Nat) : Nt := match v[i]? with
  | some e => ⟨f e.chg, e.chg, e.kind, i⟩
  | none => default
def lastsF (f : Str → Int) (v : List Ev) (cs : List Int) : List Nt := ((List.range v.length).filter (selB f v cs)).map (ntAt f v)
section
variable {f : Str → Int} {v : List Ev} {cs : List Int}
def outK (f : Str → Int) (v : List Ev) (cs : List Int) (k : Nat) : List Nt := ((((List.range v.length).drop (v.length - k)).filter (selB f v cs)).map (ntAt f v)).reverse
def toldB (f : Str → Int) (v : List Ev) (cs : List Int) (k : Nat) (n : Int) : Bool := ((v.drop (v.length - k)).any fun e => decide (f e.chg = n)) && cs.any fun y => decide (n = y)
theorem outK_zero : outK f v cs 0 = [] := by
  rw [outK, List.drop_of_length_le (by simp)]; rfl
theorem outK_end : outK f v cs v.length = (lastsF f v cs).reverse := by
  rw [outK, Nat.sub_self, List.drop_zero]; rfl
theorem outK_len {k : Nat} : (outK f v cs k).length ≤ v.length := by
  rw [outK, List.length_reverse, List.length_map]
  refine Nat.le_trans (List.length_filter_le _ _) ?_
  rw [List.length_drop, List.length_range]; omega
theorem outK_step {k : Nat} (hk : k < v.length) : outK f v cs (k + 1) = outK f v cs k ++ if selB f v cs (v.length - 1 - k) then [ntAt f v (v.length - 1 - k)] else [] := by
  have h1 : v.length - (k + 1) = v.length - 1 - k := by omega
  have h2 : v.length - 1 - k < (List.range v.length).length := by rw [List.length_range]; omega
  rw [outK, h1, List.drop_eq_getElem_cons h2, List.getElem_range, List.filter_cons, show v.length - 1 - k + 1 = v.length - k from by omega]
  cases selB f v cs (v.length - 1 - k)
  · simp [outK]
  · simp [outK]
theorem toldB_zero {n : Int} : toldB f v cs 0 n = false := by
  rw [toldB, List.drop_of_length_le (by simp)]; rfl
theorem toldB_step {k : Nat} (hk : k < v.length) {e : Ev} (he : v[v.length - 1 - k]? = some e) {n : Int} : toldB f v cs (k + 1) n = ((decide (f e.chg = n) && cs.any fun y => decide (n = y)) || toldB f v cs k n) := by
  have h1 : v.length - (k + 1) = v.length - 1 - k := by omega
  have h2 : v.length - 1 - k < v.length := by omega
  rw [toldB, h1, List.drop_eq_getElem_cons h2, List.any_cons, show v.length - 1 - k + 1 = v.length - k from by omega, Bool.and_or_distrib_right]
  have : v[v.length - 1 - k] = e := by rw [List.getElem?_eq_getElem h2] at he; exact Option.some.inj he
  rw [this]; rfl
theorem selB_told {k : Nat} (hk : k < v.length) {e : Ev} (he : v[v.length - 1 - k]? = some e) : selB f v cs (v.length - 1 - k) = (!toldB f v cs k (f e.chg) && cs.any fun y => decide (f e.chg = y)) := by
  rw [selB, he, toldB, show v.length - 1 - k + 1 = v.length - k from by omega]
  simp only
  cases (cs.any fun y => decide (f e.chg = y)) <;> simp
end
def MapN (kvs : List (Value × PV × Nat)) (F : Int → Option PV) : Prop := ∀ n, findP (.int .i64) (.int .i64 n) kvs = some (F n)
theorem sameNow_int {a b : Int} : Instr.sameNow (.int .i64) (.int .i64 a) (.int .i64 b) = some (decide (a = b)) := by
  by_cases e : a = b <;> simp [Instr.sameNow, e]
theorem MapN.nil : MapN [] fun _ => none := fun _ => rfl
theorem MapN.push {kvs : List (Value × PV × Nat)} {F : Int → Option PV} (h : MapN kvs F) {k : Int} {x : PV} {n : Nat} (hk : F k = none) : MapN (kvs ++ [(.int .i64 k, x, n)]) fun s => if s = k then some x else F s := fun s => by
  rw [findP_snoc, h s]
  by_cases e : s = k
  · subst e; simp [hk, sameNow_int]
  · cases hf : F s with
    | none => simp [sameNow_int, e, hf]
    | some p => simp [e, hf]
theorem bldNt : ∀ a b c d, evBuild cx 81 [(0, .lit a), (1, .lit b), (2, .lit c), (3, .lit d)] = some (.agg [.lit a, .lit b, .lit c, .lit d]) := fun _ _ _ _ => by kernel_rfl
theorem RangeQ.ghostC {C : Ctx} {N : Nat} {st : St} {g : Operand} {ps : Array Tmp} {a c : Code} {Q : Exit → St → Prop} (id j sz : Nat) {ver n : Nat} {e : List PV} {fz : Bool} (hσ : st.σ id = some (.row ver n [e] fz)) (hj : e[j]? = some (.lit (.slice none 0 0)))
    (h : RangeQ C N g ps a c ⟨st.env, (st.σ.put st.nx (.row 0 sz [] false)).put id (.row ver n [e.set j (.own st.nx 0 0 0 false)] fz), st.nx + 1⟩ Q) : RangeQ C N g ps a c st Q :=
  fun ho => .ghostC id j sz hσ hj (h ho)
theorem RangeQ.weak {C : Ctx} {N : Nat} {st st0 : St} {g : Operand} {ps : Array Tmp} {a c : Code} {Q : Exit → St → Prop} (hw : Weak st st0) (h : RangeQ C N g ps a c st0 Q) : RangeQ C N g ps a c st Q := fun ho => .weaken hw (h ho)
theorem envPut {e : Env} {d t : Nat} {p : PV} : (e.put d p) t = if t = d then some p else e t := rfl
theorem n_lasts (l : Ldg) (v : List Ev) (cs : List Int) (hl : l.known.length ≤ 2^40) (hv : v.length ≤ 2^30) (hc : cs.length ≤ 2^40) : CallSpec cx 87 [encLdg l, encEvs v, encL cs] (newNts (lastsF (clsI l.known) v cs)) := by
  refine callSpec_of_vc Tryz.func87 rfl (by decide) (by kernel_rfl) (Nat.le_of_ble_eq_true rfl) ?_
  try simp -dsimp (maxSteps := 9^9) (disch := first | omega | decide +kernel) only [↓bp0, bd0, bd_PD, reduceIte, Nat.reduceEqDiff, evStore, Nat.reduceAdd, Nat.reduceMul, Int.reduceEq, Int.reduceLT, Int.reduceLE, Nat.reduceLeDiff, List.reduceReplicate, reduceCtorEq, evRange, Nat.reduceLT, Tryz.f87]
  refine CallQ.imm (d_Backward v) (by rfl) (by first | rfl | (simp -dsimp (maxSteps := 9^9) (disch := first | omega | decide +kernel) only [↓bp0, bd0, bd_PD, reduceIte, Nat.reduceEqDiff, evStore, Nat.reduceAdd, Nat.reduceMul, Int.reduceEq, Int.reduceLT, Int.reduceLE, Nat.reduceLeDiff, List.reduceReplicate, reduceCtorEq, evRange, Nat.reduceLT, drcs, drc, flat]; done) | simp -dsimp [evl, drcs, drc, flat, i64, u32, bl, encL, encB, encLL]) (by first | exact .inl rfl | exact .inr rfl | exact .inr scalB | exact .inr scalI | exact .inr scalT | exact .inr scalM | exact .inr scalMT | exact .inr scalE | exact .inr scalET) ?_
  try simp -dsimp (maxSteps := 9^9) (disch := first | omega | decide +kernel) only [↓bp0, bd0, bd_PD, reduceIte, Nat.reduceEqDiff, evStore, Nat.reduceAdd, Nat.reduceMul, Int.reduceEq, Int.reduceLT, Int.reduceLE, Nat.reduceLeDiff, List.reduceReplicate, reduceCtorEq, evRange, Nat.reduceLT]
  refine RangeQ.ghostC 2 0 4 (by rfl) (by rfl) ?_
  obtain ⟨f, hf⟩ : ∃ f : Str → Int, f = clsI l.known := ⟨_, rfl⟩
  rw [← hf]
  refine RangeQ.weak (st0 := ⟨mkE [(3, .ptr 0 0 0 0), (5, .ptr 1 0 0 0), (7, .ptr 2 0 0 0), (8, .ptr 4 0 0 0), (14, .clo (.func 153) [] [.cptr [encEvs v]])],
    mkS [(0, .row 0 3 [[encKws l.known, encBrs l.brs, encEvss l.evs]] false), (1, .row 0 1 [[encL cs]] false), (2, .row 0 1 [[.own 5 0 0 0 false]] false), (3, .map [] 0 false), (4, .row 0 1 [[.mp 3]] false), (5, .row 0 4 [] false)], 6⟩) (weak_of ?_) ?_
  · first | (simp -dsimp (maxSteps := 9^9) (disch := first | omega | decide +kernel) only [↓bp0, bd0, bd_PD, reduceIte, Nat.reduceEqDiff, evStore, Nat.reduceAdd, Nat.reduceMul, Int.reduceEq, Int.reduceLT, Int.reduceLE, Nat.reduceLeDiff, List.reduceReplicate, reduceCtorEq, evRange, Nat.reduceLT, ghR]; done) | simp -dsimp [evl, putN, i64, u32, bl, encL, encB, encLL, ghR]
  refine RangeQ.rule (fun k σ nx => ∃ (id ver : Nat) (kvs : List (Value × PV × Nat)) (ck : Nat), 5 ≤ id ∧ id < nx ∧ MapN kvs (fun n => if toldB f v cs k n then some (.lit (.bool true)) else none) ∧
    σ = mkS [(0, .row 0 3 [[encKws l.known, encBrs l.brs, encEvss l.evs]] false), (1, .row 0 1 [[encL cs]] false), (2, .row 0 1 [[.own id ver 0 (outK f v cs k).length false]] false), (3, .map kvs ck false), (4, .row 0 1 [[.mp 3]] false),
      (id, .row ver 4 ((outK f v cs k).map cNt) false)]) (by rfl) (it_Ev v hv) (fun _ => rfl) (by kernel_rfl) _ (.refl _)
      ⟨5, 0, [], 0, by omega, (show 5 < 6 by omega), (fun n => by simp only [toldB_zero]; rfl), by rw [outK_zero]; rfl⟩ ?_ ?_
  · rintro k σ nx hk ⟨id, ver, kvs, ck, hid1, hid, hM, rfl⟩
    have hi : v.length - 1 - k < v.length := by omega
    obtain ⟨e, hx, hxm⟩ := get_of_lt hi
    have hie : ((v.length : Nat) : Int) - 1 - (k : Int) = ((v.length - 1 - k : Nat) : Int) := by omega
    have hgd : v.getD (v.length - 1 - k) (⟨0, ⟨#[]⟩⟩ : Ev) = e := by rw [List.getD_eq_getElem?_getD, hx]; rfl
    have hol := outK_len (f := f) (v := v) (cs := cs) (k := k)
    have hos := outK_step (f := f) (cs := cs) hk
    have hsel := selB_told (f := f) (cs := cs) hk hx
    have hts := fun n => toldB_step (f := f) (cs := cs) hk hx (n := n)
    have hnt : ntAt f v (v.length - 1 - k) = ⟨f e.chg, e.chg, e.kind, ((v.length - 1 - k : Nat) : Int)⟩ := by rw [ntAt, hx]
    have hMc : findP (.int .i64) (.int .i64 (f e.chg)) kvs = some (if toldB f v cs k (f e.chg) = true then some (.lit (.bool true)) else none) := hM (f e.chg)
    have cC := n_class l e.chg hl
    rw [← hf] at cC
    rw [hsel, hnt] at hos
    simp only [hie, hgd]
    clear hsel hnt hie hgd hx
    generalize v.length - 1 - k = i at hi hos ⊢
    generalize hfe : f e.chg = c at hMc cC hos hts ⊢
    have hE1_0a : (id = 0) = False := by simp; omega
    have hE1_0b : (0 = id) = False := by simp; omega
    have hE1_1a : (id = 1) = False := by simp; omega
    have hE1_1b : (1 = id) = False := by simp; omega
    have hE1_2a : (id = 2) = False := by simp; omega
    have hE1_2b : (2 = id) = False := by simp; omega
    have hE1_3a : (id = 3) = False := by simp; omega
    have hE1_3b : (3 = id) = False := by simp; omega
    have hE1_4a : (id = 4) = False := by simp; omega
    have hE1_4b : (4 = id) = False := by simp; omega
    have hE1_5a : (id = nx) = False := by simp; omega
    have hE1_5b : (nx = id) = False := by simp; omega
    have hE1_6a : (id = nx + 1) = False := by simp; omega
    have hE1_6b : (nx + 1 = id) = False := by simp; omega
    have E6 : (nx = 0) = False := eq_false (by omega)
    have E7 : (nx = 1) = False := eq_false (by omega)
    have E8 : (nx = 2) = False := eq_false (by omega)
    have E9 : (nx = 3) = False := eq_false (by omega)
    have Ea : (nx = 4) = False := eq_false (by omega)
    have F6 : (0 = nx) = False := eq_false (by omega)
    have F7 : (1 = nx) = False := eq_false (by omega)
    have F8 : (2 = nx) = False := eq_false (by omega)
    have F9 : (3 = nx) = False := eq_false (by omega)
    have Fa : (4 = nx) = False := eq_false (by omega)
    try simp -dsimp (maxSteps := 9^9) (disch := first | omega | decide +kernel) only [↓bp0, bd0, bd_PD, reduceIte, Nat.reduceEqDiff, evStore, Nat.reduceAdd, Nat.reduceMul, Int.reduceEq, Int.reduceLT, Int.reduceLE, Nat.reduceLeDiff, List.reduceReplicate, reduceCtorEq, evRange, Nat.reduceLT, putsE, envPut, hE1_0a, hE1_0b, hE1_1a, hE1_1b, hE1_2a, hE1_2b, hE1_3a, hE1_3b, hE1_4a, hE1_4b, hE1_5a, hE1_5b, hE1_6a, hE1_6b, E6, E7, E8, E9, Ea, F6, F7, F8, F9, Fa]
    refine CallQ.imm (cC) (by rfl) (by first | rfl | (simp -dsimp (maxSteps := 9^9) (disch := first | omega | decide +kernel) only [↓bp0, bd0, bd_PD, reduceIte, Nat.reduceEqDiff, evStore, Nat.reduceAdd, Nat.reduceMul, Int.reduceEq, Int.reduceLT, Int.reduceLE, Nat.reduceLeDiff, List.reduceReplicate, reduceCtorEq, evRange, Nat.reduceLT, drcs, drc, flat, hE1_0a, hE1_0b, hE1_1a, hE1_1b, hE1_2a, hE1_2b, hE1_3a, hE1_3b, hE1_4a, hE1_4b, hE1_5a, hE1_5b, hE1_6a, hE1_6b, putsE, envPut, E6, E7, E8, E9, Ea, F6, F7, F8, F9, Fa]; done) | simp -dsimp [evl, drcs, drc, flat, i64, u32, bl, encL, encB, encLL]) (by first | exact .inl rfl | exact .inr rfl | exact .inr scalB | exact .inr scalI | exact .inr scalT | exact .inr scalM | exact .inr scalMT | exact .inr scalE | exact .inr scalET) ?_
    have hsame : (toldB f v cs k c = true ∨ (cs.any fun y => decide (c = y)) = false) → ∀ n, toldB f v cs (k + 1) n = toldB f v cs k n := fun h n => by
      rw [hts n]
      by_cases e1 : c = n
      · subst e1
        rcases h with h | h
        · rw [h]; simp
        · rw [h]; simp
      · rw [decide_eq_false e1]; simp
    cases hT : toldB f v cs k c
    case true =>
      rw [hT] at hMc hos
      simp only [if_true, Bool.not_true, Bool.false_and, Bool.false_eq_true, if_false, List.append_nil] at hMc hos
      try simp -dsimp (maxSteps := 9^9) (disch := first | omega | decide +kernel) only [↓bp0, bd0, bd_PD, reduceIte, Nat.reduceEqDiff, evStore, Nat.reduceAdd, Nat.reduceMul, Int.reduceEq, Int.reduceLT, Int.reduceLE, Nat.reduceLeDiff, List.reduceReplicate, reduceCtorEq, evRange, Nat.reduceLT, putsE, envPut, evLookup, keyI, hMc, rndQ, hE1_0a, hE1_0b, hE1_1a, hE1_1b, hE1_2a, hE1_2b, hE1_3a, hE1_3b, hE1_4a, hE1_4b, hE1_5a, hE1_5b, hE1_6a, hE1_6b, E6, E7, E8, E9, Ea, F6, F7, F8, F9, Fa]
      refine ⟨⟨mkE [], mkS [(0, .row 0 3 [[encKws l.known, encBrs l.brs, encEvss l.evs]] false), (1, .row 0 1 [[encL cs]] false), (2, .row 0 1 [[.own id ver 0 (outK f v cs k).length false]] false), (3, .map kvs ck false), (4, .row 0 1 [[.mp 3]] false),
        (id, .row ver 4 ((outK f v cs k).map cNt) false)], nx + 1⟩, weak_of ?_, id, ver, kvs, ck, hid1, (show id < nx + 1 by omega), ?_, by rw [hos]; rfl⟩
      · first | (simp -dsimp (maxSteps := 9^9) (disch := first | omega | decide +kernel) only [↓bp0, bd0, bd_PD, reduceIte, Nat.reduceEqDiff, evStore, Nat.reduceAdd, Nat.reduceMul, Int.reduceEq, Int.reduceLT, Int.reduceLE, Nat.reduceLeDiff, List.reduceReplicate, reduceCtorEq, evRange, Nat.reduceLT, hE1_0a, hE1_0b, hE1_1a, hE1_1b, hE1_2a, hE1_2b, hE1_3a, hE1_3b, hE1_4a, hE1_4b, hE1_5a, hE1_5b, hE1_6a, hE1_6b, E6, E7, E8, E9, Ea, F6, F7, F8, F9, Fa]; done) | simp -dsimp [evl, putN, i64, u32, bl, encL, encB, encLL, hE1_0a, hE1_0b, hE1_1a, hE1_1b, hE1_2a, hE1_2b, hE1_3a, hE1_3b, hE1_4a, hE1_4b, hE1_5a, hE1_5b, hE1_6a, hE1_6b, E6, E7, E8, E9, Ea, F6, F7, F8, F9, Fa]
      · intro n; have := hM n; simp only at this ⊢; rw [this, hsame (.inl hT) n]
    rw [hT] at hMc hos
    simp only [Bool.false_eq_true, if_false, Bool.not_false, Bool.true_and] at hMc hos
    try simp -dsimp (maxSteps := 9^9) (disch := first | omega | decide +kernel) only [↓bp0, bd0, bd_PD, reduceIte, Nat.reduceEqDiff, evStore, Nat.reduceAdd, Nat.reduceMul, Int.reduceEq, Int.reduceLT, Int.reduceLE, Nat.reduceLeDiff, List.reduceReplicate, reduceCtorEq, evRange, Nat.reduceLT, putsE, envPut, evLookup, keyI, hMc, rndQ, uUn, Option.bind_some, hE1_0a, hE1_0b, hE1_1a, hE1_1b, hE1_2a, hE1_2b, hE1_3a, hE1_3b, hE1_4a, hE1_4b, hE1_5a, hE1_5b, hE1_6a, hE1_6b, E6, E7, E8, E9, Ea, F6, F7, F8, F9, Fa]
    refine CallQ.imm (ci_con cs c (by omega)) (by rfl) (by first | rfl | (simp -dsimp (maxSteps := 9^9) (disch := first | omega | decide +kernel) only [↓bp0, bd0, bd_PD, reduceIte, Nat.reduceEqDiff, evStore, Nat.reduceAdd, Nat.reduceMul, Int.reduceEq, Int.reduceLT, Int.reduceLE, Nat.reduceLeDiff, List.reduceReplicate, reduceCtorEq, evRange, Nat.reduceLT, drcs, drc, flat, hE1_0a, hE1_0b, hE1_1a, hE1_1b, hE1_2a, hE1_2b, hE1_3a, hE1_3b, hE1_4a, hE1_4b, hE1_5a, hE1_5b, hE1_6a, hE1_6b, putsE, envPut, E6, E7, E8, E9, Ea, F6, F7, F8, F9, Fa]; done) | simp -dsimp [evl, drcs, drc, flat, i64, u32, bl, encL, encB, encLL]) (by first | exact .inl rfl | exact .inr rfl | exact .inr scalB | exact .inr scalI | exact .inr scalT | exact .inr scalM | exact .inr scalMT | exact .inr scalE | exact .inr scalET) ?_
    cases hA : cs.any fun y => decide (c = y)
    case false =>
      rw [hA] at hos
      simp only [Bool.false_eq_true, if_false, List.append_nil] at hos
      try simp -dsimp (maxSteps := 9^9) (disch := first | omega | decide +kernel) only [↓bp0, bd0, bd_PD, reduceIte, Nat.reduceEqDiff, evStore, Nat.reduceAdd, Nat.reduceMul, Int.reduceEq, Int.reduceLT, Int.reduceLE, Nat.reduceLeDiff, List.reduceReplicate, reduceCtorEq, evRange, Nat.reduceLT, putsE, envPut, hA, rndQ, uUn, Option.bind_some, hE1_0a, hE1_0b, hE1_1a, hE1_1b, hE1_2a, hE1_2b, hE1_3a, hE1_3b, hE1_4a, hE1_4b, hE1_5a, hE1_5b, hE1_6a, hE1_6b, E6, E7, E8, E9, Ea, F6, F7, F8, F9, Fa]
      refine ⟨⟨mkE [], mkS [(0, .row 0 3 [[encKws l.known, encBrs l.brs, encEvss l.evs]] false), (1, .row 0 1 [[encL cs]] false), (2, .row 0 1 [[.own id ver 0 (outK f v cs k).length false]] false), (3, .map kvs ck false), (4, .row 0 1 [[.mp 3]] false),
        (id, .row ver 4 ((outK f v cs k).map cNt) false)], nx + 1⟩, weak_of ?_, id, ver, kvs, ck, hid1, (show id < nx + 1 by omega), ?_, by rw [hos]; rfl⟩
      · first | (simp -dsimp (maxSteps := 9^9) (disch := first | omega | decide +kernel) only [↓bp0, bd0, bd_PD, reduceIte, Nat.reduceEqDiff, evStore, Nat.reduceAdd, Nat.reduceMul, Int.reduceEq, Int.reduceLT, Int.reduceLE, Nat.reduceLeDiff, List.reduceReplicate, reduceCtorEq, evRange, Nat.reduceLT, hE1_0a, hE1_0b, hE1_1a, hE1_1b, hE1_2a, hE1_2b, hE1_3a, hE1_3b, hE1_4a, hE1_4b, hE1_5a, hE1_5b, hE1_6a, hE1_6b, E6, E7, E8, E9, Ea, F6, F7, F8, F9, Fa]; done) | simp -dsimp [evl, putN, i64, u32, bl, encL, encB, encLL, hE1_0a, hE1_0b, hE1_1a, hE1_1b, hE1_2a, hE1_2b, hE1_3a, hE1_3b, hE1_4a, hE1_4b, hE1_5a, hE1_5b, hE1_6a, hE1_6b, E6, E7, E8, E9, Ea, F6, F7, F8, F9, Fa]
      · intro n; have := hM n; simp only at this ⊢; rw [this, hsame (.inr hA) n]
    rw [hA] at hos
    simp only [if_true] at hos
    have hbd : ((outK f v cs k).length + 1) * 40 ≤ 140737488355328 := by omega
    try simp -dsimp (maxSteps := 9^9) (disch := first | omega | decide +kernel) only [↓bp0, bd0, bd_PD, reduceIte, Nat.reduceEqDiff, evStore, Nat.reduceAdd, Nat.reduceMul, Int.reduceEq, Int.reduceLT, Int.reduceLE, Nat.reduceLeDiff, List.reduceReplicate, reduceCtorEq, evRange, Nat.reduceLT, putsE, envPut, hA, rndQ, evLookup, evMapPut, keyI, hMc, hbd, bldNt, uUn, Option.bind_some, hE1_0a, hE1_0b, hE1_1a, hE1_1b, hE1_2a, hE1_2b, hE1_3a, hE1_3b, hE1_4a, hE1_4b, hE1_5a, hE1_5b, hE1_6a, hE1_6b, E6, E7, E8, E9, Ea, F6, F7, F8, F9, Fa]
    refine ⟨⟨mkE [], mkS [(0, .row 0 3 [[encKws l.known, encBrs l.brs, encEvss l.evs]] false), (1, .row 0 1 [[encL cs]] false), (2, .row 0 1 [[.own id (ver + 1) 0 ((outK f v cs k).length + 1) false]] false), (3, .map (kvs ++ [(.int .i64 c, .lit (.bool true), ck)]) (ck + 1) false), (4, .row 0 1 [[.mp 3]] false),
        (id, .row (ver + 1) 4 ((outK f v cs k).map cNt ++ [cNt ⟨c, e.chg, e.kind, i⟩]) false)], nx + 2⟩, weak_of ?_, id, ver + 1, kvs ++ [(.int .i64 c, .lit (.bool true), ck)], ck + 1, hid1, (show id < nx + 2 by omega), ?_, ?_⟩
    · first | (simp -dsimp (maxSteps := 9^9) (disch := first | omega | decide +kernel) only [↓bp0, bd0, bd_PD, reduceIte, Nat.reduceEqDiff, evStore, Nat.reduceAdd, Nat.reduceMul, Int.reduceEq, Int.reduceLT, Int.reduceLE, Nat.reduceLeDiff, List.reduceReplicate, reduceCtorEq, evRange, Nat.reduceLT, cNt, hE1_0a, hE1_0b, hE1_1a, hE1_1b, hE1_2a, hE1_2b, hE1_3a, hE1_3b, hE1_4a, hE1_4b, hE1_5a, hE1_5b, hE1_6a, hE1_6b, E6, E7, E8, E9, Ea, F6, F7, F8, F9, Fa]; done) | simp -dsimp [evl, putN, i64, u32, bl, encL, encB, encLL, cNt, hE1_0a, hE1_0b, hE1_1a, hE1_1b, hE1_2a, hE1_2b, hE1_3a, hE1_3b, hE1_4a, hE1_4b, hE1_5a, hE1_5b, hE1_6a, hE1_6b, E6, E7, E8, E9, Ea, F6, F7, F8, F9, Fa]
    · have := hM.push (k := c) (x := .lit (.bool true)) (n := ck) (by show (if toldB f v cs k c = true then some (PV.lit (.bool true)) else none) = none; rw [hT]; rfl)
      intro n
      have h1 := this n
      simp only at h1 ⊢
      rw [h1, hts n]
      by_cases e1 : n = c
      · subst e1; rw [if_pos rfl, hA]; simp
      · rw [if_neg e1, decide_eq_false (fun h => e1 h.symm)]; simp
    · rw [hos, List.length_append, List.map_append]; rfl
  · rintro σ nx ⟨id, ver, kvs, ck, hid1, hid, hM, rfl⟩
    have hol := outK_len (f := f) (v := v) (cs := cs) (k := v.length)
    rw [outK_end] at hol ⊢
    have hll : (lastsF f v cs).reverse.length = (lastsF f v cs).length := List.length_reverse
    have hE2_0a : (id = 0) = False := by simp; omega
    have hE2_0b : (0 = id) = False := by simp; omega
    have hE2_1a : (id = 1) = False := by simp; omega
    have hE2_1b : (1 = id) = False := by simp; omega
    have hE2_2a : (id = 2) = False := by simp; omega
    have hE2_2b : (2 = id) = False := by simp; omega
    have hE2_3a : (id = 3) = False := by simp; omega
    have hE2_3b : (3 = id) = False := by simp; omega
    have hE2_4a : (id = 4) = False := by simp; omega
    have hE2_4b : (4 = id) = False := by simp; omega
    have hE2_5a : (id = nx) = False := by simp; omega
    have hE2_5b : (nx = id) = False := by simp; omega
    try simp -dsimp (maxSteps := 9^9) (disch := first | omega | decide +kernel) only [↓bp0, bd0, bd_PD, reduceIte, Nat.reduceEqDiff, evStore, Nat.reduceAdd, Nat.reduceMul, Int.reduceEq, Int.reduceLT, Int.reduceLE, Nat.reduceLeDiff, List.reduceReplicate, reduceCtorEq, evRange, Nat.reduceLT, hE2_0a, hE2_0b, hE2_1a, hE2_1b, hE2_2a, hE2_2b, hE2_3a, hE2_3b, hE2_4a, hE2_4b, hE2_5a, hE2_5b]
    refine CallQ.inm (d_Reverse (lastsF f v cs).reverse (by omega) _ _ id ver ?_) (by rfl) ?_
    · try simp -dsimp (maxSteps := 9^9) (disch := first | omega | decide +kernel) only [↓bp0, bd0, bd_PD, reduceIte, Nat.reduceEqDiff, evStore, Nat.reduceAdd, Nat.reduceMul, Int.reduceEq, Int.reduceLT, Int.reduceLE, Nat.reduceLeDiff, List.reduceReplicate, reduceCtorEq, evRange, Nat.reduceLT, hE2_0a, hE2_0b, hE2_1a, hE2_1b, hE2_2a, hE2_2b, hE2_3a, hE2_3b, hE2_4a, hE2_4b, hE2_5a, hE2_5b]
    rintro r σ' nx1 ⟨hn1, rfl⟩
    rw [List.reverse_reverse, hll]
    have hT : List.take (lastsF f v cs).length ((lastsF f v cs).map cNt) = (lastsF f v cs).map cNt := List.take_of_length_le (by rw [List.length_map]; omega)
    have hfl : (((lastsF f v cs).map cNt).all fun e => e.all flat) = true := by rw [List.all_eq_true]; intro e he; obtain ⟨b, _, rfl⟩ := List.mem_map.1 he; rfl
    simp -dsimp (maxSteps := 9^9) (disch := first | omega | decide +kernel) only [↓bp0, bd0, bd_PD, reduceIte, Nat.reduceEqDiff, evStore, Nat.reduceAdd, Nat.reduceMul, Int.reduceEq, Int.reduceLT, Int.reduceLE, Nat.reduceLeDiff, List.reduceReplicate, reduceCtorEq, evRange, Nat.reduceLT, retQ, resL, finL, newL, flat, tupOf, List.toList_toArray, Tryz.f87, hT, hfl, List.length_map, hE2_0a, hE2_0b, hE2_1a, hE2_1b, hE2_2a, hE2_2b, hE2_3a, hE2_3b, hE2_4a, hE2_4b, hE2_5a, hE2_5b]
    exact leT_one .rfl' (by simp)
end Go.Ab
