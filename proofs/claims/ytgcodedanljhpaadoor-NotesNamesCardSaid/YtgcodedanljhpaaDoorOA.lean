/- The last notes of classes: notes.lasts. -/
import Derived.Test.YtgcodedanljhpaaDoorPC
import Derived.Test.YtgcodedanljhpaaDoorLV
import Derived.Test.YtgcodedanljhpaaDoorAcFz
import Derived.Test.YtgcodedanljhpaaDoorLA
import Derived.Test.YtgcodedanljhpaaDoorAcLib
import Derived.Shelf.RegionOpenPlain
import Derived.Lib.SliceRun
import Derived.WalkKit
import Derived.Lib.Walk
set_option linter.unusedSimpArgs false
set_option linter.unusedVariables false
section
set_option maxRecDepth 1000000
set_option maxHeartbeats 16000000
namespace Go.Ab
open Go Go.Proofs
theorem bd_PD : type_of% (And.intro @evNext.eq_1 (And.intro @fld (And.intro @nit (And.intro @nxE (And.intro @ghR (And.intro @ovR (And.intro @evBin_seql (And.intro @evBin_sneq (And.intro @str.eq_1 (And.intro @u8.eq_1 (And.intro @encBrs.eq_1 (And.intro @cBr.eq_1 (And.intro @encLdg.eq_1 (And.intro @encKws.eq_1 (And.intro @cKw.eq_1 (And.intro @encEvss.eq_1 (And.intro @encEvs.eq_1 (And.intro @cEv.eq_1 (And.intro @encMks.eq_1 (And.intro @cMk.eq_1 (And.intro @encStrs.eq_1 (And.intro @tk2 (And.intro @tk3 (And.intro @List.set_cons_succ.{0} (And.intro @List.getElem?_cons_zero.{0} (And.intro @List.getElem?_cons_succ.{0} (@List.length_set.{0}))))))))))))))))))))))))))) := And.intro @evNext.eq_1 (And.intro @fld (And.intro @nit (And.intro @nxE (And.intro @ghR (And.intro @ovR (And.intro @evBin_seql (And.intro @evBin_sneq (And.intro @str.eq_1 (And.intro @u8.eq_1 (And.intro @encBrs.eq_1 (And.intro @cBr.eq_1 (And.intro @encLdg.eq_1 (And.intro @encKws.eq_1 (And.intro @cKw.eq_1 (And.intro @encEvss.eq_1 (And.intro @encEvs.eq_1 (And.intro @cEv.eq_1 (And.intro @encMks.eq_1 (And.intro @cMk.eq_1 (And.intro @encStrs.eq_1 (And.intro @tk2 (And.intro @tk3 (And.intro @List.set_cons_succ.{0} (And.intro @List.getElem?_cons_zero.{0} (And.intro @List.getElem?_cons_succ.{0} (@List.length_set.{0}))))))))))))))))))))))))))
def selB (f : Str → Int) (v : List Ev) (cs : List Int) (i : Nat) : Bool := match v[i]? with
  | some e => !((v.drop (i + 1)).any fun x => decide (f x.chg = f e.chg)) && (cs.any fun y => decide (f e.chg = y))
  | none => false
def ntAt (f : Str → Int) (v : List Ev) (i : Nat) : Nt := match v[i]? with
  | some e => ⟨f e.chg, e.chg, e.kind, i⟩
  | none => default
def lastsF (f : Str → Int) (v : List Ev) (cs : List Int) : List Nt := ((List.range v.length).filter (selB f v cs)).map (ntAt f v)
section
variable {f : Str → Int} {v : List Ev} {cs : List Int}
def outK (f : Str → Int) (v : List Ev) (cs : List Int) (k : Nat) : List Nt := ((((List.range v.length).drop (v.length - k)).filter (selB f v cs)).map (ntAt f v)).reverse
def toldB (f : Str → Int) (v : List Ev) (cs : List Int) (k : Nat) (n : Int) : Bool := ((v.drop (v.length - k)).any fun e => decide (f e.chg = n)) && cs.any fun y => decide (n = y)
theorem outK_zero : outK f v cs 0 = [] := by
  rw [outK, List.drop_of_length_le (by simp)]; rfl
theorem outK_end : outK f v cs v.length = (lastsF f v cs).reverse := by
  rw [outK, Nat.sub_self, List.drop_zero]; rfl
theorem outK_len {k : Nat} : (outK f v cs k).length ≤ v.length := by
  rw [outK, List.length_reverse, List.length_map]
  refine Nat.le_trans (List.length_filter_le _ _) ?_
  rw [List.length_drop, List.length_range]; omega
theorem outK_step {k : Nat} (hk : k < v.length) : outK f v cs (k + 1) = outK f v cs k ++ if selB f v cs (v.length - 1 - k) then [ntAt f v (v.length - 1 - k)] else [] := by
  have h1 : v.length - (k + 1) = v.length - 1 - k := by omega
  have h2 : v.length - 1 - k < (List.range v.length).length := by rw [List.length_range]; omega
  rw [outK, h1, List.drop_eq_getElem_cons h2, List.getElem_range, List.filter_cons, show v.length - 1 - k + 1 = v.length - k from by omega]
  cases selB f v cs (v.length - 1 - k)
  · simp [outK]
  · simp [outK]
theorem toldB_zero {n : Int} : toldB f v cs 0 n = false := by
  rw [toldB, List.drop_of_length_le (by simp)]; rfl
theorem toldB_step {k : Nat} (hk : k < v.length) {e : Ev} (he : v[v.length - 1 - k]? = some e) {n : Int} : toldB f v cs (k + 1) n = ((decide (f e.chg = n) && cs.any fun y => decide (n = y)) || toldB f v cs k n) := by
  have h1 : v.length - (k + 1) = v.length - 1 - k := by omega
  have h2 : v.length - 1 - k < v.length := by omega
  rw [toldB, h1, List.drop_eq_getElem_cons h2, List.any_cons, show v.length - 1 - k + 1 = v.length - k from by omega, Bool.and_or_distrib_right]
  have : v[v.length - 1 - k] = e := by rw [List.getElem?_eq_getElem h2] at he; exact Option.some.inj he
  rw [this]; rfl
theorem selB_told {k : Nat} (hk : k < v.length) {e : Ev} (he : v[v.length - 1 - k]? = some e) : selB f v cs (v.length - 1 - k) = (!toldB f v cs k (f e.chg) && cs.any fun y => decide (f e.chg = y)) := by
  rw [selB, he, toldB, show v.length - 1 - k + 1 = v.length - k from by omega]
  simp only
  cases (cs.any fun y => decide (f e.chg = y)) <;> simp
end
def MapN (kvs : List (Value × PV × Nat)) (F : Int → Option PV) : Prop := ∀ n, findP (.int .i64) (.int .i64 n) kvs = some (F n)
theorem sameNow_int {a b : Int} : Instr.sameNow (.int .i64) (.int .i64 a) (.int .i64 b) = some (decide (a = b)) := by
  by_cases e : a = b <;> simp [Instr.sameNow, e]
theorem MapN.nil : MapN [] fun _ => none := fun _ => rfl
theorem MapN.push {kvs : List (Value × PV × Nat)} {F : Int → Option PV} (h : MapN kvs F) {k : Int} {x : PV} {n : Nat} (hk : F k = none) : MapN (kvs ++ [(.int .i64 k, x, n)]) fun s => if s = k then some x else F s := fun s => by
  rw [findP_snoc, h s]
  by_cases e : s = k
  · subst e; simp [hk, sameNow_int]
  · cases hf : F s with
    | none => simp [sameNow_int, e, hf]
    | some p => simp [e, hf]
theorem bldNt : ∀ a b c d, evBuild cx 57 [(0, .lit a), (1, .lit b), (2, .lit c), (3, .lit d)] = some (.agg [.lit a, .lit b, .lit c, .lit d]) := fun _ _ _ _ => by kernel_rfl
theorem RangeQ.ghostC {C : Ctx} {N : Nat} {st : St} {g : Operand} {ps : Array Tmp} {a c : Code} {Q : Exit → St → Prop} (id j sz : Nat) {ver n : Nat} {e : List PV} {fz : Bool} (hσ : st.σ id = some (.row ver n [e] fz)) (hj : e[j]? = some (.lit (.slice none 0 0)))
    (h : RangeQ C N g ps a c ⟨st.env, (st.σ.put st.nx (.row 0 sz [] false)).put id (.row ver n [e.set j (.own st.nx 0 0 0 false)] fz), st.nx + 1⟩ Q) : RangeQ C N g ps a c st Q :=
  fun ho => .ghostC id j sz hσ hj (h ho)
theorem RangeQ.weak {C : Ctx} {N : Nat} {st st0 : St} {g : Operand} {ps : Array Tmp} {a c : Code} {Q : Exit → St → Prop} (hw : Weak st st0) (h : RangeQ C N g ps a c st0 Q) : RangeQ C N g ps a c st Q := fun ho => .weaken hw (h ho)
theorem envPut {e : Env} {d t : Nat} {p : PV} : (e.put d p) t = if t = d then some p else e t := rfl
theorem n_lasts (l : Ldg) (v : List Ev) (cs : List Int) (hl : l.known.length ≤ 2^40) (hv : v.length ≤ 2^30) (hc : cs.length ≤ 2^40) : CallSpec cx 36 [encLdg l, encEvs v, encL cs] (newNts (lastsF (clsI l.known) v cs)) := by
  refine callSpec_of_vc Tryd.func36 rfl (by decide) (by kernel_rfl) (Nat.le_of_ble_eq_true rfl) ?_
  try simp -dsimp (disch := omega) only [↓bp0, bd0, bd_PD, evStore, evRange, Tryd.f36, simprocAttr]
  refine CallQ.imm (d_Backward v) (by rfl) (by rfl) (by first | exact .inl rfl | exact .inr rfl | exact .inr scalB | exact .inr scalI | exact .inr scalT | exact .inr scalM | exact .inr scalMT | exact .inr scalE | exact .inr scalET) ?_
  try simp -dsimp (disch := omega) only [↓bp0, bd0, bd_PD, evStore, evRange, simprocAttr]
  refine RangeQ.ghostC 2 0 4 (by rfl) (by rfl) ?_
  obtain ⟨f, hf⟩ : ∃ f : Str → Int, f = clsI l.known := ⟨_, rfl⟩
  rw [← hf]
  refine RangeQ.weak (st0 := ⟨mkE [(3, .ptr 0 0 0 0), (5, .ptr 1 0 0 0), (7, .ptr 2 0 0 0), (8, .ptr 4 0 0 0), (14, .clo (.func 91) [] [.cptr [encEvs v]])],
    mkS [(0, .row 0 3 [[encKws l.known, encBrs l.brs, encEvss l.evs]] false), (1, .row 0 1 [[encL cs]] false), (2, .row 0 1 [[.own 5 0 0 0 false]] false), (3, .map [] 0 false), (4, .row 0 1 [[.mp 3]] false), (5, .row 0 4 [] false)], 6⟩) (weak_of ?_) ?_
  · first | (simp -dsimp (disch := omega) only [↓bp0, bd0, bd_PD, evStore, evRange, ghR, simprocAttr]; done) | simp -dsimp [evl, putN, i64, u32, bl, encL, encB, encLL, ghR]
  refine RangeQ.rule (fun k σ nx => ∃ (id ver : Nat) (kvs : List (Value × PV × Nat)) (ck : Nat), 5 ≤ id ∧ id < nx ∧ MapN kvs (fun n => if toldB f v cs k n then some (.lit (.bool true)) else none) ∧
    σ = mkS [(0, .row 0 3 [[encKws l.known, encBrs l.brs, encEvss l.evs]] false), (1, .row 0 1 [[encL cs]] false), (2, .row 0 1 [[.own id ver 0 (outK f v cs k).length false]] false), (3, .map kvs ck false), (4, .row 0 1 [[.mp 3]] false),
      (id, .row ver 4 ((outK f v cs k).map cNt) false)]) (by rfl) (it_Ev v hv) (fun _ => rfl) (by kernel_rfl) _ (.refl _)
      ⟨5, 0, [], 0, by omega, (show 5 < 6 by omega), (fun n => by simp only [toldB_zero]; rfl), by rw [outK_zero]; rfl⟩ ?_ ?_
  · rintro k σ nx hk ⟨id, ver, kvs, ck, hid1, hid, hM, rfl⟩
    have hi : v.length - 1 - k < v.length := by omega
    obtain ⟨e, hx, hxm⟩ := get_of_lt hi
    have hie : ((v.length : Nat) : Int) - 1 - (k : Int) = ((v.length - 1 - k : Nat) : Int) := by omega
    have hgd : v.getD (v.length - 1 - k) (⟨0, ⟨#[]⟩⟩ : Ev) = e := by rw [List.getD_eq_getElem?_getD, hx]; rfl
    have hol := outK_len (f := f) (v := v) (cs := cs) (k := k)
    have hos := outK_step (f := f) (cs := cs) hk
    have hsel := selB_told (f := f) (cs := cs) hk hx
    have hts := fun n => toldB_step (f := f) (cs := cs) hk hx (n := n)
    have hnt : ntAt f v (v.length - 1 - k) = ⟨f e.chg, e.chg, e.kind, ((v.length - 1 - k : Nat) : Int)⟩ := by rw [ntAt, hx]
    have hMc : findP (.int .i64) (.int .i64 (f e.chg)) kvs = some (if toldB f v cs k (f e.chg) = true then some (.lit (.bool true)) else none) := hM (f e.chg)
    have cC := n_class l e.chg hl
    rw [← hf] at cC
    rw [hsel, hnt] at hos
    simp only [hie, hgd]
    clear hsel hnt hie hgd hx
    generalize v.length - 1 - k = i at hi hos ⊢
    generalize hfe : f e.chg = c at hMc cC hos hts ⊢
    have hE1_0a : (id = 0) = False := by simp; omega
    have hE1_0b : (0 = id) = False := by simp; omega
    have hE1_1a : (id = 1) = False := by simp; omega
    have hE1_1b : (1 = id) = False := by simp; omega
    have hE1_2a : (id = 2) = False := by simp; omega
    have hE1_2b : (2 = id) = False := by simp; omega
    have hE1_3a : (id = 3) = False := by simp; omega
    have hE1_3b : (3 = id) = False := by simp; omega
    have hE1_4a : (id = 4) = False := by simp; omega
    have hE1_4b : (4 = id) = False := by simp; omega
    have hE1_5a : (id = nx) = False := by simp; omega
    have hE1_5b : (nx = id) = False := by simp; omega
    have hE1_6a : (id = nx + 1) = False := by simp; omega
    have hE1_6b : (nx + 1 = id) = False := by simp; omega
    have E6 : (nx = 0) = False := eq_false (by omega)
    have E7 : (nx = 1) = False := eq_false (by omega)
    have E8 : (nx = 2) = False := eq_false (by omega)
    have E9 : (nx = 3) = False := eq_false (by omega)
    have Ea : (nx = 4) = False := eq_false (by omega)
    have F6 : (0 = nx) = False := eq_false (by omega)
    have F7 : (1 = nx) = False := eq_false (by omega)
    have F8 : (2 = nx) = False := eq_false (by omega)
    have F9 : (3 = nx) = False := eq_false (by omega)
    have Fa : (4 = nx) = False := eq_false (by omega)
    try simp -dsimp (disch := omega) only [↓bp0, bd0, bd_PD, evStore, evRange, putsE, envPut, hE1_0a, hE1_0b, hE1_1a, hE1_1b, hE1_2a, hE1_2b, hE1_3a, hE1_3b, hE1_4a, hE1_4b, hE1_5a, hE1_5b, hE1_6a, hE1_6b, E6, E7, E8, E9, Ea, F6, F7, F8, F9, Fa, simprocAttr]
    refine CallQ.imm (cC) (by rfl) (by rfl) (by first | exact .inl rfl | exact .inr rfl | exact .inr scalB | exact .inr scalI | exact .inr scalT | exact .inr scalM | exact .inr scalMT | exact .inr scalE | exact .inr scalET) ?_
    have hsame : (toldB f v cs k c = true ∨ (cs.any fun y => decide (c = y)) = false) → ∀ n, toldB f v cs (k + 1) n = toldB f v cs k n := fun h n => by
      rw [hts n]
      by_cases e1 : c = n
      · subst e1
        rcases h with h | h
        · rw [h]; simp
        · rw [h]; simp
      · rw [decide_eq_false e1]; simp
    cases hT : toldB f v cs k c
    case true =>
      rw [hT] at hMc hos
      simp only [if_true, Bool.not_true, Bool.false_and, Bool.false_eq_true, if_false, List.append_nil] at hMc hos
      try simp -dsimp (disch := omega) only [↓bp0, bd0, bd_PD, evStore, evRange, putsE, envPut, evLookup, keyI, hMc, rndQ, hE1_0a, hE1_0b, hE1_1a, hE1_1b, hE1_2a, hE1_2b, hE1_3a, hE1_3b, hE1_4a, hE1_4b, hE1_5a, hE1_5b, hE1_6a, hE1_6b, E6, E7, E8, E9, Ea, F6, F7, F8, F9, Fa, simprocAttr]
      refine ⟨⟨mkE [], mkS [(0, .row 0 3 [[encKws l.known, encBrs l.brs, encEvss l.evs]] false), (1, .row 0 1 [[encL cs]] false), (2, .row 0 1 [[.own id ver 0 (outK f v cs k).length false]] false), (3, .map kvs ck false), (4, .row 0 1 [[.mp 3]] false),
        (id, .row ver 4 ((outK f v cs k).map cNt) false)], nx + 1⟩, weak_of ?_, id, ver, kvs, ck, hid1, (show id < nx + 1 by omega), ?_, by rw [hos]; rfl⟩
      · first | (simp -dsimp (disch := omega) only [↓bp0, bd0, bd_PD, evStore, evRange, hE1_0a, hE1_0b, hE1_1a, hE1_1b, hE1_2a, hE1_2b, hE1_3a, hE1_3b, hE1_4a, hE1_4b, hE1_5a, hE1_5b, hE1_6a, hE1_6b, E6, E7, E8, E9, Ea, F6, F7, F8, F9, Fa, simprocAttr]; done) | simp -dsimp [evl, putN, i64, u32, bl, encL, encB, encLL, hE1_0a, hE1_0b, hE1_1a, hE1_1b, hE1_2a, hE1_2b, hE1_3a, hE1_3b, hE1_4a, hE1_4b, hE1_5a, hE1_5b, hE1_6a, hE1_6b, E6, E7, E8, E9, Ea, F6, F7, F8, F9, Fa]
      · intro n; have := hM n; simp only at this ⊢; rw [this, hsame (.inl hT) n]
    rw [hT] at hMc hos
    simp only [Bool.false_eq_true, if_false, Bool.not_false, Bool.true_and] at hMc hos
    try simp -dsimp (disch := omega) only [↓bp0, bd0, bd_PD, evStore, evRange, putsE, envPut, evLookup, keyI, hMc, rndQ, uUn, Option.bind_some, hE1_0a, hE1_0b, hE1_1a, hE1_1b, hE1_2a, hE1_2b, hE1_3a, hE1_3b, hE1_4a, hE1_4b, hE1_5a, hE1_5b, hE1_6a, hE1_6b, E6, E7, E8, E9, Ea, F6, F7, F8, F9, Fa, simprocAttr]
    refine CallQ.imm (ci_con cs c (by omega)) (by rfl) (by rfl) (by first | exact .inl rfl | exact .inr rfl | exact .inr scalB | exact .inr scalI | exact .inr scalT | exact .inr scalM | exact .inr scalMT | exact .inr scalE | exact .inr scalET) ?_
    cases hA : cs.any fun y => decide (c = y)
    case false =>
      rw [hA] at hos
      simp only [Bool.false_eq_true, if_false, List.append_nil] at hos
      try simp -dsimp (disch := omega) only [↓bp0, bd0, bd_PD, evStore, evRange, putsE, envPut, hA, rndQ, uUn, Option.bind_some, hE1_0a, hE1_0b, hE1_1a, hE1_1b, hE1_2a, hE1_2b, hE1_3a, hE1_3b, hE1_4a, hE1_4b, hE1_5a, hE1_5b, hE1_6a, hE1_6b, E6, E7, E8, E9, Ea, F6, F7, F8, F9, Fa, simprocAttr]
      refine ⟨⟨mkE [], mkS [(0, .row 0 3 [[encKws l.known, encBrs l.brs, encEvss l.evs]] false), (1, .row 0 1 [[encL cs]] false), (2, .row 0 1 [[.own id ver 0 (outK f v cs k).length false]] false), (3, .map kvs ck false), (4, .row 0 1 [[.mp 3]] false),
        (id, .row ver 4 ((outK f v cs k).map cNt) false)], nx + 1⟩, weak_of ?_, id, ver, kvs, ck, hid1, (show id < nx + 1 by omega), ?_, by rw [hos]; rfl⟩
      · first | (simp -dsimp (disch := omega) only [↓bp0, bd0, bd_PD, evStore, evRange, hE1_0a, hE1_0b, hE1_1a, hE1_1b, hE1_2a, hE1_2b, hE1_3a, hE1_3b, hE1_4a, hE1_4b, hE1_5a, hE1_5b, hE1_6a, hE1_6b, E6, E7, E8, E9, Ea, F6, F7, F8, F9, Fa, simprocAttr]; done) | simp -dsimp [evl, putN, i64, u32, bl, encL, encB, encLL, hE1_0a, hE1_0b, hE1_1a, hE1_1b, hE1_2a, hE1_2b, hE1_3a, hE1_3b, hE1_4a, hE1_4b, hE1_5a, hE1_5b, hE1_6a, hE1_6b, E6, E7, E8, E9, Ea, F6, F7, F8, F9, Fa]
      · intro n; have := hM n; simp only at this ⊢; rw [this, hsame (.inr hA) n]
    rw [hA] at hos
    simp only [if_true] at hos
    have hbd : ((outK f v cs k).length + 1) * 40 ≤ 140737488355328 := by omega
    try simp -dsimp (disch := omega) only [↓bp0, bd0, bd_PD, evStore, evRange, putsE, envPut, hA, rndQ, evLookup, evMapPut, keyI, hMc, hbd, bldNt, uUn, Option.bind_some, hE1_0a, hE1_0b, hE1_1a, hE1_1b, hE1_2a, hE1_2b, hE1_3a, hE1_3b, hE1_4a, hE1_4b, hE1_5a, hE1_5b, hE1_6a, hE1_6b, E6, E7, E8, E9, Ea, F6, F7, F8, F9, Fa, simprocAttr]
    refine ⟨⟨mkE [], mkS [(0, .row 0 3 [[encKws l.known, encBrs l.brs, encEvss l.evs]] false), (1, .row 0 1 [[encL cs]] false), (2, .row 0 1 [[.own id (ver + 1) 0 ((outK f v cs k).length + 1) false]] false), (3, .map (kvs ++ [(.int .i64 c, .lit (.bool true), ck)]) (ck + 1) false), (4, .row 0 1 [[.mp 3]] false),
        (id, .row (ver + 1) 4 ((outK f v cs k).map cNt ++ [cNt ⟨c, e.chg, e.kind, i⟩]) false)], nx + 2⟩, weak_of ?_, id, ver + 1, kvs ++ [(.int .i64 c, .lit (.bool true), ck)], ck + 1, hid1, (show id < nx + 2 by omega), ?_, ?_⟩
    · first | (simp -dsimp (disch := omega) only [↓bp0, bd0, bd_PD, evStore, evRange, cNt, hE1_0a, hE1_0b, hE1_1a, hE1_1b, hE1_2a, hE1_2b, hE1_3a, hE1_3b, hE1_4a, hE1_4b, hE1_5a, hE1_5b, hE1_6a, hE1_6b, E6, E7, E8, E9, Ea, F6, F7, F8, F9, Fa, simprocAttr]; done) | simp -dsimp [evl, putN, i64, u32, bl, encL, encB, encLL, cNt, hE1_0a, hE1_0b, hE1_1a, hE1_1b, hE1_2a, hE1_2b, hE1_3a, hE1_3b, hE1_4a, hE1_4b, hE1_5a, hE1_5b, hE1_6a, hE1_6b, E6, E7, E8, E9, Ea, F6, F7, F8, F9, Fa]
    · have := hM.push (k := c) (x := .lit (.bool true)) (n := ck) (by show (if toldB f v cs k c = true then some (PV.lit (.bool true)) else none) = none; rw [hT]; rfl)
      intro n
      have h1 := this n
      simp only at h1 ⊢
      rw [h1, hts n]
      by_cases e1 : n = c
      · subst e1; rw [if_pos rfl, hA]; simp
      · rw [if_neg e1, decide_eq_false (fun h => e1 h.symm)]; simp
    · rw [hos, List.length_append, List.map_append]; rfl
  · rintro σ nx ⟨id, ver, kvs, ck, hid1, hid, hM, rfl⟩
    have hol := outK_len (f := f) (v := v) (cs := cs) (k := v.length)
    rw [outK_end] at hol ⊢
    have hll : (lastsF f v cs).reverse.length = (lastsF f v cs).length := List.length_reverse
    have hE2_0a : (id = 0) = False := by simp; omega
    have hE2_0b : (0 = id) = False := by simp; omega
    have hE2_1a : (id = 1) = False := by simp; omega
    have hE2_1b : (1 = id) = False := by simp; omega
    have hE2_2a : (id = 2) = False := by simp; omega
    have hE2_2b : (2 = id) = False := by simp; omega
    have hE2_3a : (id = 3) = False := by simp; omega
    have hE2_3b : (3 = id) = False := by simp; omega
    have hE2_4a : (id = 4) = False := by simp; omega
    have hE2_4b : (4 = id) = False := by simp; omega
    have hE2_5a : (id = nx) = False := by simp; omega
    have hE2_5b : (nx = id) = False := by simp; omega
    try simp -dsimp (disch := omega) only [↓bp0, bd0, bd_PD, evStore, evRange, hE2_0a, hE2_0b, hE2_1a, hE2_1b, hE2_2a, hE2_2b, hE2_3a, hE2_3b, hE2_4a, hE2_4b, hE2_5a, hE2_5b, simprocAttr]
    refine CallQ.inm (d_Reverse (lastsF f v cs).reverse (by omega) _ _ id ver ?_) (by rfl) ?_
    · try simp -dsimp (disch := omega) only [↓bp0, bd0, bd_PD, evStore, evRange, hE2_0a, hE2_0b, hE2_1a, hE2_1b, hE2_2a, hE2_2b, hE2_3a, hE2_3b, hE2_4a, hE2_4b, hE2_5a, hE2_5b, simprocAttr]
    rintro r σ' nx1 ⟨hn1, rfl⟩
    rw [List.reverse_reverse, hll]
    have hT : List.take (lastsF f v cs).length ((lastsF f v cs).map cNt) = (lastsF f v cs).map cNt := List.take_of_length_le (by rw [List.length_map]; omega)
    have hfl : (((lastsF f v cs).map cNt).all fun e => e.all flat) = true := by rw [List.all_eq_true]; intro e he; obtain ⟨b, _, rfl⟩ := List.mem_map.1 he; rfl
    simp -dsimp (disch := omega) only [↓bp0, bd0, bd_PD, evStore, evRange, retQ, resL, finL, newL, flat, tupOf, List.toList_toArray, Tryd.f36, hT, hfl, List.length_map, hE2_0a, hE2_0b, hE2_1a, hE2_1b, hE2_2a, hE2_2b, hE2_3a, hE2_3b, hE2_4a, hE2_4b, hE2_5a, hE2_5b, simprocAttr]
    exact leT_one .rfl' (by simp)
end Go.Ab
end

section
/- ledger.Differ. -/
set_option maxRecDepth 1000000
set_option maxHeartbeats 16000000
namespace Go.Ab
open Go Go.Proofs
theorem bd_PE : type_of% (And.intro @evNext.eq_1 (And.intro @fld (And.intro @nit (And.intro @nxE (And.intro @ghR (And.intro @ovR (And.intro @evBin_seql (And.intro @evBin_sneq (And.intro @str.eq_1 (And.intro @u8.eq_1 (And.intro @encBrs.eq_1 (And.intro @cBr.eq_1 (And.intro @encLdg.eq_1 (And.intro @encKws.eq_1 (And.intro @cKw.eq_1 (And.intro @encEvss.eq_1 (And.intro @encEvs.eq_1 (And.intro @cEv.eq_1 (And.intro @encMks.eq_1 (And.intro @cMk.eq_1 (And.intro @tk2 (And.intro @tk3 (And.intro @List.set_cons_succ.{0} (And.intro @List.getElem?_cons_zero.{0} (And.intro @List.getElem?_cons_succ.{0} (@List.length_set.{0})))))))))))))))))))))))))) := And.intro @evNext.eq_1 (And.intro @fld (And.intro @nit (And.intro @nxE (And.intro @ghR (And.intro @ovR (And.intro @evBin_seql (And.intro @evBin_sneq (And.intro @str.eq_1 (And.intro @u8.eq_1 (And.intro @encBrs.eq_1 (And.intro @cBr.eq_1 (And.intro @encLdg.eq_1 (And.intro @encKws.eq_1 (And.intro @cKw.eq_1 (And.intro @encEvss.eq_1 (And.intro @encEvs.eq_1 (And.intro @cEv.eq_1 (And.intro @encMks.eq_1 (And.intro @cMk.eq_1 (And.intro @tk2 (And.intro @tk3 (And.intro @List.set_cons_succ.{0} (And.intro @List.getElem?_cons_zero.{0} (And.intro @List.getElem?_cons_succ.{0} (@List.length_set.{0})))))))))))))))))))))))))
def onlyP (f : Str → Int) (s t : List Ev) : List Bool := (List.range 30).map fun (c : Nat) => inB f s c && !inB f t c
def onlyL (f : Str → Int) (s t : List Ev) : List Int := lst 0 (onlyP f s t)
theorem onlyP_get {f : Str → Int} {s t : List Ev} {n : Nat} (h : n < 30) : (onlyP f s t)[n]? = some (inB f s n && !inB f t n) := by
  rw [onlyP, List.getElem?_map, List.getElem?_range h]; rfl
theorem onlyP_len {f : Str → Int} {s t : List Ev} : (onlyP f s t).length = 30 := by simp [onlyP]
def ldiff (l : Ldg) (a b : Str) : List Int × List Int × Int :=
  if (lview l a).2 ≠ 0 then ([], [], (lview l a).2) else if (lview l b).2 ≠ 0 then ([], [], (lview l b).2)
  else (onlyL (cls0 l.known) (seenE l (lview l a).1) (seenE l (lview l b).1), onlyL (cls0 l.known) (seenE l (lview l b).1) (seenE l (lview l a).1), 0)
theorem delE {σ : Store} {i k : Nat} : (σ.del i) k = if k = i then none else σ k := rfl
theorem d_Differ (l : Ldg) (a b : Str) (hz : LSz l) : CallSpec cx 34 [encLdg l, str a, str b] (.tup [newI (ldiff l a b).1, newI (ldiff l a b).2.1, i64 (ldiff l a b).2.2]) := by
  refine callSpec_of_vc Tryd.func34 rfl (by decide) (by kernel_rfl) (Nat.le_of_ble_eq_true rfl) ?_
  try simp -dsimp (disch := omega) only [↓bp0, bd0, bd_PE, evStore, evRange, Tryd.f34, simprocAttr]
  refine CallQ.imm (d_lview l a hz) (by rfl) (by rfl) (by first | exact .inl rfl | exact .inr rfl | exact .inr scalB | exact .inr scalI | exact .inr scalT | exact .inr scalM | exact .inr scalMT) ?_
  cases h0 : decide ((lview l a).2 = 0)
  · have h0' := of_decide_eq_false h0
    rw [ldiff, if_pos h0']
    simp -dsimp (disch := omega) only [↓bp0, bd0, bd_PE, evStore, evRange, retQ, resL, finL, newL, flat, tupOf, List.toList_toArray, Tryd.f34, h0, simprocAttr]
    exact ⟨.inr ⟨rfl, 1, rfl⟩, .inr ⟨rfl, 1, rfl⟩, .rfl', trivial⟩
  have h0' := of_decide_eq_true h0
  obtain ⟨hok, _⟩ := lview_ok h0'
  have hlc : lchk l = 0 := by
    unfold lview at h0'
    split at h0'
    · rename_i h1; exact absurd h0' h1
    · rename_i h1; exact Decidable.not_not.1 h1
  have hvb : lview l b = bview l.brs (cnts l) b := by rw [lview, if_neg (by rw [Decidable.not_not]; exact hlc)]
  obtain ⟨q1, q2, q3, q4⟩ := fold_pre h0'
  have cV := d_View l.brs (cnts l) b (by have := hz.brs; omega) (by have := hz.evs; simp [cnts]; omega)
  rw [← hvb] at cV
  have hD : ldiff l a b = if (lview l b).2 ≠ 0 then ([], [], (lview l b).2) else (onlyL (cls0 l.known) (seenE l (lview l a).1) (seenE l (lview l b).1), onlyL (cls0 l.known) (seenE l (lview l b).1) (seenE l (lview l a).1), 0) := by
    rw [ldiff, if_neg (by rw [Decidable.not_not]; exact h0')]
  rw [hD]
  clear hD
  try simp -dsimp (disch := omega) only [↓bp0, bd0, bd_PE, evStore, evRange, h0, newMks, simprocAttr]
  first | refine vc_text (by kernel_rfl) ?_ | skip
  try simp -dsimp (disch := omega) only [↓bp0, bd0, bd_PE, evStore, evRange, simprocAttr]
  refine CallY.imm (d_counts l hz.evs hz.ev) (by rfl) (by rfl) (by first | exact .inl rfl | exact .inr rfl | exact .inr scalB | exact .inr scalI | exact .inr scalT | exact .inr scalM | exact .inr scalMT) ?_
  try simp -dsimp (disch := omega) only [↓bp0, bd0, bd_PE, evStore, evRange, newI, simprocAttr]
  refine CallY.imm (cV) (by rfl) (by rfl) (by first | exact .inl rfl | exact .inr rfl | exact .inr scalB | exact .inr scalI | exact .inr scalT | exact .inr scalM | exact .inr scalMT) ?_
  cases h1 : decide ((lview l b).2 = 0)
  · have h1' := of_decide_eq_false h1
    rw [if_pos h1']
    simp -dsimp (disch := omega) only [↓bp0, bd0, bd_PE, evStore, evRange, retQ, resL, finL, newL, flat, tupOf, List.toList_toArray, Tryd.f34, h1, simprocAttr]
    exact ⟨.inr ⟨rfl, 1, rfl⟩, .inr ⟨rfl, 1, rfl⟩, .rfl', trivial⟩
  have h1' := of_decide_eq_true h1
  obtain ⟨_, p2, p3, p4⟩ := fold_pre h1'
  rw [if_neg (by rw [Decidable.not_not]; exact h1')]
  generalize hvA : (lview l a).1 = vA at q2 q3 q4 ⊢
  generalize hvB : (lview l b).1 = vB at p2 p3 p4 ⊢
  try simp -dsimp (disch := omega) only [↓bp0, bd0, bd_PE, evStore, evRange, h1, newMks, simprocAttr]
  refine vc_regJ (fun τ => τ 0 = some (.row 0 3 [[encKws l.known, encBrs l.brs, encEvss l.evs]] false)) [0, 1, 3, 4, 6] [2, 5] (by kernel_rfl) (by kernel_rfl) ?_ ?_
  · exact (by simp -dsimp (disch := omega) only [↓bp0, bd0, bd_PE, evStore, evRange, simprocAttr])
  try simp -dsimp (disch := omega) only [↓bp0, bd0, bd_PE, evStore, evRange, vcj, implies_true, simprocAttr]
  refine ⟨fun τ hτ => by simp -dsimp (disch := omega) only [↓bp0, bd0, bd_PE, evStore, evRange, hτ, simprocAttr], ?_⟩
  refine EffQ.inm (d_folded l q1 vA q2 q3 q4 _ _) ⟨.ptr _ 0 0 0, _, _, _, 0, Nat.le_refl _, Nat.lt_succ_self _, rfl, rfl⟩ (by rfl) ?_
  rintro r σ' nx1 ⟨ids, ver, hs1, hs2, rfl, rfl⟩
  simp only [St.put] at hs1
  have hs0 : 1 ≤ ids := hs1
  have D1 : (ids = 0) = False := eq_false (by omega)
  have D2 : (0 = ids) = False := eq_false (by omega)
  refine ⟨.inr (by simp -dsimp (disch := omega) only [↓bp0, bd0, bd_PE, evStore, evRange, D1, D2, simprocAttr]), ?_⟩
  try simp -dsimp (disch := omega) only [↓bp0, bd0, bd_PE, evStore, evRange, vcj, implies_true, D1, D2, simprocAttr]
  refine ⟨fun τ hτ => by simp -dsimp (disch := omega) only [↓bp0, bd0, bd_PE, evStore, evRange, hτ, simprocAttr], ?_⟩
  refine EffQ.inm (d_folded l q1 vB p2 p3 p4 _ _) ⟨.ptr _ 0 0 0, _, _, _, 0, Nat.le_refl _, Nat.lt_succ_self _, rfl, rfl⟩ (by rfl) ?_
  rintro r σ' nx2 ⟨idt, ver2, ht1, ht2, rfl, rfl⟩
  simp only [St.put] at ht1
  have ht0 : nx1 ≤ idt := ht1
  have D3 : (idt = 0) = False := eq_false (by omega)
  have D4 : (0 = idt) = False := eq_false (by omega)
  have D5 : (idt = ids) = False := eq_false (by omega)
  have D6 : (ids = idt) = False := eq_false (by omega)
  refine ⟨.inr (by simp -dsimp (disch := omega) only [↓bp0, bd0, bd_PE, evStore, evRange, D1, D2, D3, D4, D5, D6, simprocAttr]), ?_⟩
  try simp -dsimp (disch := omega) only [↓bp0, bd0, bd_PE, evStore, evRange, vcj, implies_true, D1, D2, D3, D4, D5, D6, simprocAttr]
  obtain ⟨s, hs⟩ : ∃ s, s = seenE l vA := ⟨_, rfl⟩
  obtain ⟨t, ht⟩ : ∃ t, t = seenE l vB := ⟨_, rfl⟩
  rw [← hs, ← ht]
  refine LoopQ.ghost 6 1 (by rfl) ?_
  refine LoopQ.ghost 7 1 (by rfl) ?_
  have hl1 := stC_len (cls0 l.known) s
  have hl2 := stC_len (cls0 l.known) t
  have hst := onlyP_len (f := cls0 l.known) (s := s) (t := t)
  have hts := onlyP_len (f := cls0 l.known) (s := t) (t := s)
  generalize cls0 l.known = f at *
  refine LoopQ.rule (fun m st => ∃ i va vb nx : Nat, i ≤ 30 ∧ nx2 + 1 < nx ∧ m = 30 - i ∧
    st = ⟨mkE [(6, .own nx2 va 0 (lst 0 ((onlyP f s t).take i)).length false), (7, .own (nx2 + 1) vb 0 (lst 0 ((onlyP f t s).take i)).length false), (11, .ptr ids ver 0 0), (12, .ptr idt ver2 0 0), (41, i64 i)],
      mkS [(ids, .row ver 60 [stC f s] false), (idt, .row ver2 60 [stC f t] false), (nx2, .row va 1 ((lst 0 ((onlyP f s t).take i)).map fun n => [i64 n]) false), (nx2 + 1, .row vb 1 ((lst 0 ((onlyP f t s).take i)).map fun n => [i64 n]) false)], nx⟩) _ _ (weak_of ?_)
    ⟨0, 0, 0, nx2 + 2, by omega, by omega, rfl, rfl⟩ ?_
  · have G1 : (nx2 = ids) = False := eq_false (by omega)
    have G2 : (ids = nx2) = False := eq_false (by omega)
    have G3 : (nx2 = idt) = False := eq_false (by omega)
    have G4 : (idt = nx2) = False := eq_false (by omega)
    have G5 : (nx2 + 1 = ids) = False := eq_false (by omega)
    have G6 : (ids = nx2 + 1) = False := eq_false (by omega)
    have G7 : (nx2 + 1 = idt) = False := eq_false (by omega)
    have G8 : (idt = nx2 + 1) = False := eq_false (by omega)
    first | (simp -dsimp (disch := omega) only [↓bp0, bd0, bd_PE, evStore, evRange, ghR, lst, D5, D6, G1, G2, G3, G4, G5, G6, G7, G8, simprocAttr]; done) | simp -dsimp [evl, putN, i64, u32, bl, encL, encB, encLL, ghR, lst, D5, D6, G1, G2, G3, G4, G5, G6, G7, G8]
  rintro m st ⟨i, va, vb, nx, hi, hnx, rfl, rfl⟩
  have G1 : (nx2 = ids) = False := eq_false (by omega)
  have G2 : (ids = nx2) = False := eq_false (by omega)
  have G3 : (nx2 = idt) = False := eq_false (by omega)
  have G4 : (idt = nx2) = False := eq_false (by omega)
  have G5 : (nx2 + 1 = ids) = False := eq_false (by omega)
  have G6 : (ids = nx2 + 1) = False := eq_false (by omega)
  have G7 : (nx2 + 1 = idt) = False := eq_false (by omega)
  have G8 : (idt = nx2 + 1) = False := eq_false (by omega)
  have H1 : (nx = ids) = False := eq_false (by omega)
  have H2 : (ids = nx) = False := eq_false (by omega)
  have H3 : (nx = idt) = False := eq_false (by omega)
  have H4 : (idt = nx) = False := eq_false (by omega)
  have H5 : (nx = nx2) = False := eq_false (by omega)
  have H6 : (nx2 = nx) = False := eq_false (by omega)
  have H7 : (nx = nx2 + 1) = False := eq_false (by omega)
  have H8 : (nx2 + 1 = nx) = False := eq_false (by omega)
  have hlA := lst_len ((onlyP f s t).take i) 0
  have hlB := lst_len ((onlyP f t s).take i) 0
  rw [List.length_take] at hlA hlB
  have hbA : ((lst 0 ((onlyP f s t).take i)).length + 1) * 8 ≤ 140737488355328 := by omega
  have hbB : ((lst 0 ((onlyP f t s).take i)).length + 1) * 8 ≤ 140737488355328 := by omega
  try simp -dsimp (disch := omega) only [↓bp0, bd0, bd_PE, evStore, evRange, D5, D6, G1, G2, G3, G4, G5, G6, G7, G8, H1, H2, H3, H4, H5, H6, H7, H8, simprocAttr]
  refine onC_ilt (fun h2 => ?_) (fun h2 => ?_)
  · have h2 : i < 30 := by omega
    have x1 := stC_in (f := f) (es := s) h2
    have x2 := stC_in (f := f) (es := t) h2
    have t1 := take_succ (onlyP_get (f := f) (s := s) (t := t) h2)
    have t2 := take_succ (onlyP_get (f := f) (s := t) (t := s) h2)
    have l1 := lst_snoc ((onlyP f s t).take i) 0 (inB f s i && !inB f t i)
    have l2 := lst_snoc ((onlyP f t s).take i) 0 (inB f t i && !inB f s i)
    rw [List.length_take, Nat.min_eq_left (by omega), Nat.zero_add] at l1 l2
    cases e1 : inB f s i
    all_goals cases e2 : inB f t i
    all_goals
      rw [e1, e2] at t1 t2 l1 l2
      rw [e1] at x1
      rw [e2] at x2
      simp only [Bool.not_true, Bool.not_false, Bool.and_true, Bool.and_false, Bool.and_self, if_true, if_false, Bool.false_eq_true, List.append_nil] at t1 t2 l1 l2
    case true.false =>
      try simp -dsimp (disch := omega) only [↓bp0, bd0, bd_PE, evStore, evRange, x1, x2, h2, Nat.mul_one, List.getElem?_drop, Nat.add_zero, List.drop_zero, uUn, Option.bind_some, hbA, hbB, D5, D6, G1, G2, G3, G4, G5, G6, G7, G8, H1, H2, H3, H4, H5, H6, H7, H8, simprocAttr]
      refine ⟨_, _, ?_, weak_of ?_, i + 1, va + 1, vb, nx + 1, by omega, by omega, rfl, rfl⟩
      · omega
      · first | (simp -dsimp (disch := omega) only [↓bp0, bd0, bd_PE, evStore, evRange, wrapS h2 (show 30 ≤ 9223372036854775807 by omega), t1, t2, l1, l2, Bool.and_true, Bool.and_false, Bool.not_true, Bool.not_false, List.append_nil, D5, D6, G1, G2, G3, G4, G5, G6, G7, G8, H1, H2, H3, H4, H5, H6, H7, H8, simprocAttr]; done) | simp -dsimp [evl, putN, i64, u32, bl, encL, encB, encLL, wrapS h2 (show 30 ≤ 9223372036854775807 by omega), t1, t2, l1, l2, Bool.and_true, Bool.and_false, Bool.not_true, Bool.not_false, List.append_nil, D5, D6, G1, G2, G3, G4, G5, G6, G7, G8, H1, H2, H3, H4, H5, H6, H7, H8]
    case false.true =>
      try simp -dsimp (disch := omega) only [↓bp0, bd0, bd_PE, evStore, evRange, x1, x2, h2, Nat.mul_one, List.getElem?_drop, Nat.add_zero, List.drop_zero, uUn, Option.bind_some, hbA, hbB, D5, D6, G1, G2, G3, G4, G5, G6, G7, G8, H1, H2, H3, H4, H5, H6, H7, H8, simprocAttr]
      refine ⟨_, _, ?_, weak_of ?_, i + 1, va, vb + 1, nx + 1, by omega, by omega, rfl, rfl⟩
      · omega
      · first | (simp -dsimp (disch := omega) only [↓bp0, bd0, bd_PE, evStore, evRange, wrapS h2 (show 30 ≤ 9223372036854775807 by omega), t1, t2, l1, l2, Bool.and_true, Bool.and_false, Bool.not_true, Bool.not_false, List.append_nil, D5, D6, G1, G2, G3, G4, G5, G6, G7, G8, H1, H2, H3, H4, H5, H6, H7, H8, simprocAttr]; done) | simp -dsimp [evl, putN, i64, u32, bl, encL, encB, encLL, wrapS h2 (show 30 ≤ 9223372036854775807 by omega), t1, t2, l1, l2, Bool.and_true, Bool.and_false, Bool.not_true, Bool.not_false, List.append_nil, D5, D6, G1, G2, G3, G4, G5, G6, G7, G8, H1, H2, H3, H4, H5, H6, H7, H8]
    all_goals
      try simp -dsimp (disch := omega) only [↓bp0, bd0, bd_PE, evStore, evRange, x1, x2, h2, Nat.mul_one, List.getElem?_drop, Nat.add_zero, List.drop_zero, uUn, Option.bind_some, hbA, hbB, D5, D6, G1, G2, G3, G4, G5, G6, G7, G8, H1, H2, H3, H4, H5, H6, H7, H8, simprocAttr]
      refine ⟨_, _, ?_, weak_of ?_, i + 1, va, vb, nx, by omega, by omega, rfl, rfl⟩
      · omega
      · first | (simp -dsimp (disch := omega) only [↓bp0, bd0, bd_PE, evStore, evRange, wrapS h2 (show 30 ≤ 9223372036854775807 by omega), t1, t2, l1, l2, Bool.and_true, Bool.and_false, Bool.not_true, Bool.not_false, List.append_nil, D5, D6, G1, G2, G3, G4, G5, G6, G7, G8, H1, H2, H3, H4, H5, H6, H7, H8, simprocAttr]; done) | simp -dsimp [evl, putN, i64, u32, bl, encL, encB, encLL, wrapS h2 (show 30 ≤ 9223372036854775807 by omega), t1, t2, l1, l2, Bool.and_true, Bool.and_false, Bool.not_true, Bool.not_false, List.append_nil, D5, D6, G1, G2, G3, G4, G5, G6, G7, G8, H1, H2, H3, H4, H5, H6, H7, H8]
  · rw [List.take_of_length_le (by omega), List.take_of_length_le (by omega)]
    simp -dsimp (disch := omega) only [↓bp0, bd0, bd_PE, evStore, evRange, retQ, resL, finL, newL, flat, tupOf, List.toList_toArray, Tryd.f34, delE, D5, D6, G1, G2, G3, G4, G5, G6, G7, G8, H1, H2, H3, H4, H5, H6, H7, H8, simprocAttr]
    exact ⟨.rfl', .rfl', .rfl', trivial⟩
end Go.Ab
end

section
/- Abstract values: a nil slice handed to a call that holds it as own memory. -/
namespace Go.Ab
open Go
end Go.Ab
end

section
/- slices.Clone of data: a row of own memory. Where there are no elements (the slice may be nil or not): by hand. -/
set_option maxRecDepth 1000000
set_option maxHeartbeats 8000000
namespace Go.Ab
open Go Go.Proofs Go.Shelf Go.RowKit
theorem bel_alloc (w : World) (o : Obj) : Bel w (w.alloc o) :=
  ⟨rfl, rfl, ⟨rfl, Nat.le_refl _⟩, (by show w.heap.size ≤ (w.heap.push o).size; rw [Array.size_push]; omega), fun b hb => (by show (w.heap.push o)[b]? = w.heap[b]?; rw [Array.getElem?_push_lt hb, Array.getElem?_eq_getElem hb])⟩
def ClonQ (es : List (List PV)) (sz : Nat) (σ : Store) (nx : Nat) (r : PV) (σ' : Store) (nx' : Nat) : Prop :=
  ∃ ver, r = .own nx ver 0 es.length false ∧ σ' = σ.put nx (.row ver sz es false) ∧ nx' = nx + 1
theorem StSpec.clone0 {C : Ctx} {f : FuncId} {σ : Store} {nx sz : Nat} {clip : Bool} (hf : isGo C.P f = true) (h : ∀ A cp w, Calls C.P f #[.slice A 0 cp] w fun e w' => ∃ A', e = .returned (.slice A' 0 0) ∧ Bel w w') :
    StSpec C f [.imm [] clip] σ nx (ClonQ [] sz σ nx) := by
  refine ⟨hf, fun κ w vs s hr => ?_⟩
  simp only [RelList] at hr
  obtain ⟨v, vs', rfl, h1, rfl⟩ := hr
  simp only [Rel] at h1
  obtain ⟨A, len, cap, rfl, h2, h3, h4, _⟩ := h1
  obtain rfl : len = 0 := h2
  refine (h A cap w).mono ?_
  rintro e w' ⟨A', rfl, hb⟩
  have hle : κ.le (withLoc κ nx 0 ⟨false, 0, 0, sz, 0, 0⟩) := withLoc_le (s.fresh _ _ (Nat.le_refl _)).1
  have hm := s.made (sz := sz) (es := []) (L := ⟨false, 0, 0, sz, 0, 0⟩) (w' := w') (κ' := withLoc κ nx 0 ⟨false, 0, 0, sz, 0, 0⟩)
    hle rfl rfl (fun _ _ => rfl) hb.size hb.hold (fun h => by cases h)
    ⟨⟨false, 0, 0, sz, 0, 0⟩, by simp [withLoc], rfl, rfl, .inr ⟨rfl, rfl⟩⟩
  refine ⟨_, .own nx 0 0 0 false, _, _, _, rfl, ⟨0, rfl, rfl, rfl⟩, hm.1, hm.2 hb.os hb.tape hb.output, ?_⟩
  simp only [Rel]
  exact ⟨A', 0, rfl, Nat.le_refl _, by simp, ⟨false, 0, 0, sz, 0, 0⟩, by simp [withLoc], .inr ⟨rfl, fun _ => Nat.le_refl _⟩⟩
theorem CallSpec.clone0 {C : Ctx} {f : FuncId} {sz : Nat} {clip : Bool} (hf : isGo C.P f = true) (h : ∀ A cp w, Calls C.P f #[.slice A 0 cp] w fun e w' => ∃ A', e = .returned (.slice A' 0 0) ∧ Bel w w') :
    CallSpec C f [.imm [] clip] (.new sz []) := by
  refine ⟨hf, fun w fz vs _ _ hr => ?_⟩
  simp only [RelList] at hr
  obtain ⟨v, vs', rfl, h1, rfl⟩ := hr
  simp only [Rel] at h1
  obtain ⟨A, len, cap, rfl, h2, h3, h4, _⟩ := h1
  obtain rfl : len = 0 := h2
  refine (h A cap w).mono ?_
  rintro e w' ⟨A', rfl, hb⟩
  exact ⟨_, [], rfl, hb, List.nodup_nil, (fun b hb => absurd hb List.not_mem_nil), A', 0, rfl, Nat.le_refl _, (fun e he => absurd he List.not_mem_nil), .inr ⟨rfl, rfl⟩⟩
end Go.Ab
end
