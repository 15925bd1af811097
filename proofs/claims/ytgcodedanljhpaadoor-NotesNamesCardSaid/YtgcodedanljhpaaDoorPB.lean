/- Fixes and gaps: terms and small contracts. -/
import Derived.Test.YtgcodedanljhpaaDoorLV
import Derived.Test.YtgcodedanljhpaaDoorLB
set_option linter.unusedSimpArgs false
set_option linter.unusedVariables false
section
set_option maxRecDepth 100000
set_option maxHeartbeats 8000000
namespace Go.Ab
open Go Go.Proofs
theorem bd_MA : type_of% (And.intro @evNext.eq_1 (And.intro @fld (And.intro @nit (And.intro @nxE (And.intro @ovR (And.intro @evBin_seql (And.intro @evBin_sneq (And.intro @str.eq_1 (And.intro @u8.eq_1 (And.intro @encBrs.eq_1 (And.intro @cBr.eq_1 (And.intro @encLdg.eq_1 (And.intro @encKws.eq_1 (And.intro @cKw.eq_1 (And.intro @encEvss.eq_1 (And.intro @encEvs.eq_1 (And.intro @cEv.eq_1 (And.intro @encMks.eq_1 (And.intro @cMk.eq_1 (And.intro @encStrs.eq_1 (And.intro @tk2 (And.intro @tk3 (And.intro @List.set_cons_succ.{0} (And.intro @List.getElem?_cons_zero.{0} (And.intro @List.getElem?_cons_succ.{0} (@List.length_set.{0})))))))))))))))))))))))))) := And.intro @evNext.eq_1 (And.intro @fld (And.intro @nit (And.intro @nxE (And.intro @ovR (And.intro @evBin_seql (And.intro @evBin_sneq (And.intro @str.eq_1 (And.intro @u8.eq_1 (And.intro @encBrs.eq_1 (And.intro @cBr.eq_1 (And.intro @encLdg.eq_1 (And.intro @encKws.eq_1 (And.intro @cKw.eq_1 (And.intro @encEvss.eq_1 (And.intro @encEvs.eq_1 (And.intro @cEv.eq_1 (And.intro @encMks.eq_1 (And.intro @cMk.eq_1 (And.intro @encStrs.eq_1 (And.intro @tk2 (And.intro @tk3 (And.intro @List.set_cons_succ.{0} (And.intro @List.getElem?_cons_zero.{0} (And.intro @List.getElem?_cons_succ.{0} (@List.length_set.{0})))))))))))))))))))))))))
structure Fx where
  cls : Int
  wgt : Int
  brs : List Str
structure Gp where
  br : Str
  cls : Int
  wgt : Int
def cFx (f : Fx) : List PV := [.lit (.int .i64 f.cls), .lit (.int .i64 f.wgt), encStrs f.brs]
def encFxs (l : List Fx) : PV := .imm (l.map cFx) false
def cGp (g : Gp) : List PV := [str g.br, .lit (.int .i64 g.cls), .lit (.int .i64 g.wgt)]
def dupS (l : List Str) : Bool := anyI (fun i (b : Str) => (l.take i).any fun x => decide (b = x)) l
def oneE (l : Ldg) (pre : List Fx) (f : Fx) : Int :=
  if f.cls < 0 ∨ 30 ≤ f.cls ∨ f.wgt < 1 ∨ 9 < f.wgt ∨ f.brs.length = 0 then 8
  else if (f.brs.any fun b => decide (idx l.brs b < 0)) = true then 6
  else if dupS f.brs = true then 14
  else if (pre.any fun g => decide (f.cls = g.cls)) = true then 14 else 0
def fxE (l : Ldg) : List Fx → List Fx → Int
  | _, [] => 0
  | pre, f :: r => if oneE l pre f ≠ 0 then oneE l pre f else fxE l (pre ++ [f]) r
def mchk (l : Ldg) (x : List Fx) : Int := if lchk l ≠ 0 then lchk l else if 30 < x.length then 4 else fxE l [] x
def wantB (b : Str) (inn : List Int) (f : Fx) : Bool := (f.brs.any fun x => decide (b = x)) && !(inn.any fun c => decide (f.cls = c))
def gapsOf (x : List Fx) (b : Str) (inn : List Int) : List Gp := (x.filter (wantB b inn)).map fun f => ⟨b, f.cls, f.wgt⟩
theorem ci_ix (l : List Int) (n : Int) (hl : l.length ≤ 9223372036854775807) : CallSpec cx 80 [encL l, i64 n] (i64 (fi (fun x => decide (n = x)) l)) := by
  refine callSpec_of_vc Tryd.func80 rfl (by decide) (by kernel_rfl) (Nat.le_of_ble_eq_true rfl) ?_
  try simp -dsimp (disch := omega) only [↓bp0, bd0, bd_MA, evStore, evRange, Tryd.f80, encL, simprocAttr]
  refine LoopQ.rule (fun m st => ∃ i : Nat, i ≤ l.length ∧ (∀ j, j < i → ∀ x, l[j]? = some x → decide (n = x) = false) ∧ m = l.length - i ∧
    st = ⟨mkE [(0, encL l), (1, i64 n), (7, i64 l.length), (8, i64 i)], mkS [], 0⟩) _ _ (weak_of ?_) ⟨0, by omega, by simp, rfl, rfl⟩ ?_
  · first | (simp -dsimp (disch := omega) only [↓bp0, bd0, bd_MA, evStore, evRange, encL, simprocAttr]; done) | simp -dsimp [evl, putN, i64, u32, bl, encL, encB, encLL, encL]
  rintro m st ⟨i, hi, hpre, rfl, rfl⟩
  try simp -dsimp (disch := omega) only [↓bp0, bd0, bd_MA, evStore, evRange, encL, simprocAttr]
  refine onC_nlt (fun h2 => ?_) (fun h2 => ?_)
  · obtain ⟨x, hx, hxm⟩ := get_of_lt h2
    cases he : decide (n = x)
    · try simp -dsimp (disch := omega) only [↓bp0, bd0, bd_MA, evStore, evRange, hx, he, encL, simprocAttr]
      refine ⟨_, _, ?_, weak_of ?_, i + 1, h2, ?_, rfl, rfl⟩
      · omega
      · first | (simp -dsimp (disch := omega) only [↓bp0, bd0, bd_MA, evStore, evRange, wrapS h2 hl, encL, simprocAttr]; done) | simp -dsimp [evl, putN, i64, u32, bl, encL, encB, encLL, wrapS h2 hl, encL]
      · intro j hj y hy
        by_cases hji : j = i
        · subst hji; rw [hx] at hy; cases hy; exact he
        · exact hpre j (by omega) y hy
    · simp -dsimp (disch := omega) only [↓bp0, bd0, bd_MA, evStore, evRange, retQ, resL, finL, newL, flat, tupOf, List.toList_toArray, Tryd.f80, hx, he, encL, simprocAttr]
      rw [fi_at (fun x => decide (n = x)) _ _ _ hx hpre he]
      exact leT_one .rfl' (by simp)
  · simp -dsimp (disch := omega) only [↓bp0, bd0, bd_MA, evStore, evRange, retQ, resL, finL, newL, flat, tupOf, List.toList_toArray, Tryd.f80, simprocAttr]
    rw [fi_none (fun x => decide (n = x)) _ fun j y hy => hpre j (by have := (List.getElem?_eq_some_iff.1 hy).1; omega) y hy]
    exact leT_one .rfl' (by simp)
theorem ci_con (l : List Int) (n : Int) (hl : l.length ≤ 9223372036854775807) : CallSpec cx 48 [encL l, i64 n] (bl (l.any fun x => decide (n = x))) := by
  refine callSpec_of_vc Tryd.func48 rfl (by decide) (by kernel_rfl) (Nat.le_of_ble_eq_true rfl) ?_
  try simp -dsimp (disch := omega) only [↓bp0, bd0, bd_MA, evStore, evRange, Tryd.f48, encL, simprocAttr]
  refine CallQ.imm (ci_ix l n hl) (by rfl) (by rfl) (by first | exact .inl rfl | exact .inr rfl | exact .inr scalB | exact .inr scalI | exact .inr scalT | exact .inr scalM | exact .inr scalMT) ?_
  simp -dsimp (disch := omega) only [↓bp0, bd0, bd_MA, evStore, evRange, retQ, resL, finL, newL, flat, tupOf, List.toList_toArray, Tryd.f48, simprocAttr]
  refine leT_one (bl_eq ?_) (by simp)
  rw [Bool.eq_iff_iff, decide_eq_true_iff, ← fi_any]
def cLdg (l : Ldg) : List PV := [encKws l.known, encBrs l.brs, encEvss l.evs]
end Go.Ab
end

section
/- Notes: classes, views; slices.Backward. -/
set_option maxRecDepth 100000
set_option maxHeartbeats 8000000
namespace Go.Ab
open Go Go.Proofs
theorem bd_PB : type_of% (And.intro @evNext.eq_1 (And.intro @fld (And.intro @nit (And.intro @nxE (And.intro @ghR (And.intro @ovR (And.intro @evBin_seql (And.intro @evBin_sneq (And.intro @str.eq_1 (And.intro @u8.eq_1 (And.intro @encBrs.eq_1 (And.intro @cBr.eq_1 (And.intro @encLdg.eq_1 (And.intro @encKws.eq_1 (And.intro @cKw.eq_1 (And.intro @encEvss.eq_1 (And.intro @encEvs.eq_1 (And.intro @cEv.eq_1 (And.intro @encMks.eq_1 (And.intro @cMk.eq_1 (And.intro @encStrs.eq_1 (And.intro @tk2 (And.intro @tk3 (And.intro @List.set_cons_succ.{0} (And.intro @List.getElem?_cons_zero.{0} (And.intro @List.getElem?_cons_succ.{0} (@List.length_set.{0}))))))))))))))))))))))))))) := And.intro @evNext.eq_1 (And.intro @fld (And.intro @nit (And.intro @nxE (And.intro @ghR (And.intro @ovR (And.intro @evBin_seql (And.intro @evBin_sneq (And.intro @str.eq_1 (And.intro @u8.eq_1 (And.intro @encBrs.eq_1 (And.intro @cBr.eq_1 (And.intro @encLdg.eq_1 (And.intro @encKws.eq_1 (And.intro @cKw.eq_1 (And.intro @encEvss.eq_1 (And.intro @encEvs.eq_1 (And.intro @cEv.eq_1 (And.intro @encMks.eq_1 (And.intro @cMk.eq_1 (And.intro @encStrs.eq_1 (And.intro @tk2 (And.intro @tk3 (And.intro @List.set_cons_succ.{0} (And.intro @List.getElem?_cons_zero.{0} (And.intro @List.getElem?_cons_succ.{0} (@List.length_set.{0}))))))))))))))))))))))))))
theorem n_class (l : Ldg) (c : Str) (hl : l.known.length ≤ 2^40) : CallSpec cx 73 [encLdg l, str c] (i64 (clsI l.known c)) := by
  refine callSpec_of_vc Tryd.func73 rfl (by decide) (by kernel_rfl) (Nat.le_of_ble_eq_true rfl) ?_
  try simp -dsimp (disch := omega) only [↓bp0, bd0, bd_PB, evStore, evRange, Tryd.f73, simprocAttr]
  refine LoopQ.rule (fun m st => ∃ i nx : Nat, i ≤ l.known.length ∧ clsOf (l.known.take i) c = none ∧ m = l.known.length - i ∧
    st = ⟨mkE [(1, str c), (8, encKws l.known), (9, i64 l.known.length), (10, i64 i)], mkS [], nx⟩) _ _ (weak_of ?_) ⟨0, 1, by omega, rfl, rfl, rfl⟩ ?_
  · first | (simp -dsimp (disch := omega) only [↓bp0, bd0, bd_PB, evStore, evRange, simprocAttr]; done) | simp -dsimp [evl, putN, i64, u32, bl, encL, encB, encLL]
  rintro m st ⟨i, nx, hi, hpre, rfl, rfl⟩
  try simp -dsimp (disch := omega) only [↓bp0, bd0, bd_PB, evStore, evRange, simprocAttr]
  refine onC_nlt (fun h2 => ?_) (fun h2 => ?_)
  · obtain ⟨k, hx, hxm⟩ := get_of_lt h2
    have htk := take_succ hx
    have hsn : clsOf (l.known.take (i + 1)) c = if k.chg = c then some k.cls else none := by rw [htk, clsOf_snoc, hpre]
    cases he : decide (k.chg = c)
    · have he' := of_decide_eq_false he
      try simp -dsimp (disch := omega) only [↓bp0, bd0, bd_PB, evStore, evRange, hx, he, simprocAttr]
      refine ⟨_, _, ?_, weak_of ?_, i + 1, nx + 1, h2, by rw [hsn, if_neg he'], rfl, rfl⟩
      · omega
      · first | (simp -dsimp (disch := omega) only [↓bp0, bd0, bd_PB, evStore, evRange, wrapS h2 (show l.known.length ≤ 9223372036854775807 by omega), simprocAttr]; done) | simp -dsimp [evl, putN, i64, u32, bl, encL, encB, encLL, wrapS h2 (show l.known.length ≤ 9223372036854775807 by omega)]
    · have he' := of_decide_eq_true he
      simp -dsimp (disch := omega) only [↓bp0, bd0, bd_PB, evStore, evRange, retQ, resL, finL, newL, flat, tupOf, List.toList_toArray, Tryd.f73, hx, he, simprocAttr]
      refine leT_one (int_eq ?_) (by simp)
      have : clsOf l.known c = some k.cls := by
        rw [if_pos he'] at hsn
        unfold clsOf at hsn ⊢
        rw [← List.take_append_drop (i + 1) l.known, List.find?_append]
        obtain ⟨q, h1, h3⟩ := Option.map_eq_some_iff.1 hsn
        rw [h1]; simp [h3]
      rw [clsI, this]; rfl
  · rw [List.take_of_length_le (by omega)] at hpre
    simp -dsimp (disch := omega) only [↓bp0, bd0, bd_PB, evStore, evRange, retQ, resL, finL, newL, flat, tupOf, List.toList_toArray, Tryd.f73, simprocAttr]
    refine leT_one (int_eq ?_) (by simp)
    rw [clsI, hpre]; rfl
theorem scalET {l : List Ev} {n : Int} : scal (.tup [newEvs l, i64 n]) = true := by
  simp only [scal, scal1, newEvs, List.all_map, List.all_eq_true, List.all_cons, List.all_nil, Bool.and_true, Bool.and_eq_true, i64]
  intro x _; rfl
theorem bview_err {l : List Br} {cs : List Int} {n : Str} (h : (bview l cs n).2 ≠ 0) : (bview l cs n).1 = [] := by
  unfold bview at h ⊢
  split
  · rfl
  · rename_i h1
    rw [if_neg h1] at h
    split
    · rfl
    · rename_i h2
      rw [if_neg h2] at h
      exact absurd rfl h
theorem n_view (l : Ldg) (n : Str) (hz : LSz l) (hv : ∀ m ∈ (bview l.brs (cnts l) n).1, ∃ c, (cnts l)[m.1]? = some c ∧ (m.2 : Int) < c) (hvl : (bview l.brs (cnts l) n).1.length ≤ 2^30) :
    CallSpec cx 35 [encLdg l, str n] (.tup [newEvs (seenE l (bview l.brs (cnts l) n).1), i64 (bview l.brs (cnts l) n).2]) := by
  have hzb := hz.brs
  have hze := hz.evs
  have he := hz.ev
  have cV := d_View l.brs (cnts l) n (by omega) (by rw [cnts_len]; omega)
  have hv0 := fun h => bview_err (l := l.brs) (cs := cnts l) (n := n) h
  generalize bview l.brs (cnts l) n = B at hv hvl cV hv0 ⊢
  obtain ⟨v, e⟩ := B
  simp only at hv hvl cV hv0 ⊢
  refine callSpec_of_vc Tryd.func35 rfl (by decide) (by kernel_rfl) (Nat.le_of_ble_eq_true rfl) ?_
  try simp -dsimp (disch := omega) only [↓bp0, bd0, bd_PB, evStore, evRange, Tryd.f35, simprocAttr]
  refine LoopQ.ghost 6 1 (by rfl) ?_
  refine LoopQ.rule (fun m st => ∃ (i id ver nx : Nat), i ≤ l.evs.length ∧ 1 ≤ id ∧ id < nx ∧ m = l.evs.length - i ∧
    st = ⟨mkE [(1, str n), (2, .ptr 0 0 0 0), (6, .own id ver 0 i false), (15, encEvss l.evs), (16, i64 l.evs.length), (17, i64 i)], mkS [(0, .row 0 3 [[encKws l.known, encBrs l.brs, encEvss l.evs]] false), (id, .row ver 1 (((cnts l).take i).map fun n => [i64 n]) false)], nx⟩) _ _ (weak_of ?_)
    ⟨0, 1, 0, 2, by omega, by omega, by omega, rfl, rfl⟩ ?_
  · first | (simp -dsimp (disch := omega) only [↓bp0, bd0, bd_PB, evStore, evRange, ghR, List.take_zero, List.map_nil, simprocAttr]; done) | simp -dsimp [evl, putN, i64, u32, bl, encL, encB, encLL, ghR, List.take_zero, List.map_nil]
  rintro m st ⟨i, id, ver, nx, hi, hid1, hid, rfl, rfl⟩
  have hE1_0a : (id = 0) = False := by simp; omega
  have hE1_0b : (0 = id) = False := by simp; omega
  have hE1_1a : (id = nx) = False := by simp; omega
  have hE1_1b : (nx = id) = False := by simp; omega
  have hE1_2a : (nx = 0) = False := by simp; omega
  have hE1_2b : (0 = nx) = False := by simp; omega
  try simp -dsimp (disch := omega) only [↓bp0, bd0, bd_PB, evStore, evRange, hE1_0a, hE1_0b, hE1_1a, hE1_1b, hE1_2a, hE1_2b, simprocAttr]
  refine onC_nlt (fun h2 => ?_) (fun h2 => ?_)
  · obtain ⟨x, hx, hxm⟩ := get_of_lt h2
    have hc : (cnts l)[i]? = some (x.length : Int) := by simp [cnts, hx]
    have hts := take_succ hc
    have hbd : (i + 1) * 8 ≤ 140737488355328 := by omega
    have hlt : ((cnts l).take i).length = i := by rw [List.length_take, cnts_len]; omega
    try simp -dsimp (disch := omega) only [↓bp0, bd0, bd_PB, evStore, evRange, hx, hE1_0a, hE1_0b, hE1_1a, hE1_1b, hE1_2a, hE1_2b, hbd, hlt, simprocAttr]
    refine ⟨_, _, ?_, weak_of ?_, i + 1, id, ver + 1, nx + 1, h2, hid1, by omega, rfl, rfl⟩
    · omega
    · first | (simp -dsimp (disch := omega) only [↓bp0, bd0, bd_PB, evStore, evRange, hE1_0a, hE1_0b, hE1_1a, hE1_1b, hE1_2a, hE1_2b, wrapS h2 (show l.evs.length ≤ 9223372036854775807 by omega), hts, List.map_append, List.map_cons, List.map_nil, simprocAttr]; done) | simp -dsimp [evl, putN, i64, u32, bl, encL, encB, encLL, hE1_0a, hE1_0b, hE1_1a, hE1_1b, hE1_2a, hE1_2b, wrapS h2 (show l.evs.length ≤ 9223372036854775807 by omega), hts, List.map_append, List.map_cons, List.map_nil]
  have hil : i = l.evs.length := by omega
  subst hil
  have htl : (cnts l).take l.evs.length = cnts l := List.take_of_length_le (by rw [cnts_len]; omega)
  have hT : List.take l.evs.length ((cnts l).map fun n => [PV.lit (.int .i64 n)]) = (cnts l).map fun n => [PV.lit (.int .i64 n)] := List.take_of_length_le (by simp [cnts])
  rw [htl]
  have hcl := cnts_len l
  try simp -dsimp (disch := omega) only [↓bp0, bd0, bd_PB, evStore, evRange, hE1_0a, hE1_0b, hE1_1a, hE1_1b, hE1_2a, hE1_2b, simprocAttr]
  refine CallQ.imm (cV) (by rfl) (by first | rfl | (simp -dsimp (disch := omega) only [↓bp0, bd0, bd_PB, evStore, evRange, drcs, drc, flat, hE1_0a, hE1_0b, hE1_1a, hE1_1b, hE1_2a, hE1_2b, hT, hcl, encL, List.drop_zero, simprocAttr]; done) | simp -dsimp [evl, drcs, drc, flat, i64, u32, bl, encL, encB, encLL]) (by first | exact .inl rfl | exact .inr rfl | exact .inr scalB | exact .inr scalI | exact .inr scalT | exact .inr scalM | exact .inr scalMT | exact .inr scalE) ?_
  cases h0 : decide (e = 0)
  · have h0' := of_decide_eq_false h0
    have hvn := hv0 h0'
    subst hvn
    simp -dsimp (disch := omega) only [↓bp0, bd0, bd_PB, evStore, evRange, retQ, resL, finL, newL, flat, tupOf, List.toList_toArray, Tryd.f35, h0, hE1_0a, hE1_0b, hE1_1a, hE1_1b, hE1_2a, hE1_2b, simprocAttr]
    exact ⟨.inr ⟨rfl, 2, rfl⟩, .rfl', trivial⟩
  have h0' := of_decide_eq_true h0
  subst h0'
  try simp -dsimp (disch := omega) only [↓bp0, bd0, bd_PB, evStore, evRange, hE1_0a, hE1_0b, hE1_1a, hE1_1b, hE1_2a, hE1_2b, newMks, simprocAttr]
  refine LoopQ.ghost 11 2 (by rfl) ?_
  refine LoopQ.rule (fun m st => ∃ (k id ver nx : Nat), k ≤ v.length ∧ 1 ≤ id ∧ id < nx ∧ m = v.length - k ∧
    st = ⟨mkE [(2, .ptr 0 0 0 0), (11, .own id ver 0 k false), (38, encMks v), (39, i64 v.length), (40, i64 k)], mkS [(0, .row 0 3 [[encKws l.known, encBrs l.brs, encEvss l.evs]] false), (id, .row ver 2 ((seenE l (v.take k)).map cEv) false)], nx⟩) _ _ (weak_of ?_)
    ⟨0, nx, 0, nx + 1, by omega, by omega, by omega, rfl, rfl⟩ ?_
  · first | (simp -dsimp (disch := omega) only [↓bp0, bd0, bd_PB, evStore, evRange, ghR, List.take_zero, seenE, List.map_nil, hE1_0a, hE1_0b, hE1_1a, hE1_1b, hE1_2a, hE1_2b, simprocAttr]; done) | simp -dsimp [evl, putN, i64, u32, bl, encL, encB, encLL, ghR, List.take_zero, seenE, List.map_nil, hE1_0a, hE1_0b, hE1_1a, hE1_1b, hE1_2a, hE1_2b]
  clear hi hid1 hid hT
  rintro m st ⟨k, id, ver, nx, hkl, hid1, hid, rfl, rfl⟩
  have hE2_0a : (id = 0) = False := by simp; omega
  have hE2_0b : (0 = id) = False := by simp; omega
  have hE2_1a : (id = nx) = False := by simp; omega
  have hE2_1b : (nx = id) = False := by simp; omega
  have hE2_2a : (nx = 0) = False := by simp; omega
  have hE2_2b : (0 = nx) = False := by simp; omega
  have hE2_3a : (id = nx + 1) = False := by simp; omega
  have hE2_3b : (nx + 1 = id) = False := by simp; omega
  have hlk : (seenE l (v.take k)).length = k := by simp only [seenE, List.length_map, List.length_take]; omega
  try simp -dsimp (disch := omega) only [↓bp0, bd0, bd_PB, evStore, evRange, hE2_0a, hE2_0b, hE2_1a, hE2_1b, hE2_2a, hE2_2b, hE2_3a, hE2_3b, encMks, simprocAttr]
  refine onC_nlt (fun h2 => ?_) (fun h2 => ?_)
  · obtain ⟨⟨j, e⟩, hx, hxm⟩ := get_of_lt h2
    obtain ⟨c0, hc0, hlt⟩ := hv _ hxm
    obtain ⟨own, x, hj, he1, hev, hxo⟩ := evAt_get hc0 hlt
    simp only at hj he1
    have hts : seenE l (v.take (k + 1)) = seenE l (v.take k) ++ [x] := by rw [take_succ hx]; simp [seenE, hev]
    have hbd : (k + 1) * 24 ≤ 140737488355328 := by omega
    try simp -dsimp (disch := omega) only [↓bp0, bd0, bd_PB, evStore, evRange, hx, hE2_0a, hE2_0b, hE2_1a, hE2_1b, hE2_2a, hE2_2b, hE2_3a, hE2_3b, encMks, simprocAttr]
    refine vc_regJ (fun _ => True) [0] [] (by kernel_rfl) (by kernel_rfl) ?_ ?_
    · trivial
    try simp -dsimp (disch := omega) only [↓bp0, bd0, bd_PB, evStore, evRange, vcj, implies_true, or_true, true_and, hx, hj, he1, hlk, hbd, hE2_0a, hE2_0b, hE2_1a, hE2_1b, hE2_2a, hE2_2b, hE2_3a, hE2_3b, simprocAttr]
    refine ⟨_, _, ?_, weak_of ?_, k + 1, id, ver + 1, nx + 2, h2, hid1, by omega, rfl, rfl⟩
    · omega
    · first | (simp -dsimp (disch := omega) only [↓bp0, bd0, bd_PB, evStore, evRange, hE2_0a, hE2_0b, hE2_1a, hE2_1b, hE2_2a, hE2_2b, hE2_3a, hE2_3b, wrapS h2 (show v.length ≤ 9223372036854775807 by omega), hts, List.map_append, List.map_cons, List.map_nil, simprocAttr]; done) | simp -dsimp [evl, putN, i64, u32, bl, encL, encB, encLL, hE2_0a, hE2_0b, hE2_1a, hE2_1b, hE2_2a, hE2_2b, hE2_3a, hE2_3b, wrapS h2 (show v.length ≤ 9223372036854775807 by omega), hts, List.map_append, List.map_cons, List.map_nil]
  · have hkv : k = v.length := by omega
    subst hkv
    have hT : List.take v.length ((seenE l (v.take v.length)).map cEv) = (seenE l (v.take v.length)).map cEv := List.take_of_length_le (by rw [List.length_map]; omega)
    simp -dsimp (disch := omega) only [↓bp0, bd0, bd_PB, evStore, evRange, retQ, resL, finL, newL, flat, tupOf, List.toList_toArray, Tryd.f35, hT, hlk, flE, hE2_0a, hE2_0b, hE2_1a, hE2_1b, hE2_2a, hE2_2b, hE2_3a, hE2_3b, simprocAttr]
    rw [List.take_length]
    exact ⟨.rfl', .rfl', trivial⟩
theorem d_Backward (v : List Ev) : CallSpec cx 72 [encEvs v] (.clo (.func 91) [] [.cptr [encEvs v]]) := by
  refine callSpec_of_vc Tryd.func72 rfl (by decide) (by kernel_rfl) (Nat.le_of_ble_eq_true rfl) ?_
  simp -dsimp (disch := omega) only [↓bp0, bd0, bd_PB, evStore, evRange, retQ, resL, finL, newL, flat, tupOf, List.toList_toArray, Tryd.f72, drcs, drc, simprocAttr]
  exact leT_refl _
end Go.Ab
end
