/- The references of events. -/
import Derived.Test.YtgcodedanljhpaaGreatDoorLT
import Derived.Test.YtgcodedanljhpaaGreatDoorLP
set_option linter.unusedSimpArgs false
set_option linter.unusedVariables false
section
set_option maxRecDepth 100000
set_option maxHeartbeats 8000000
namespace Go.Ab
open Go Go.Proofs
theorem bd_LU : type_of% (And.intro @evNext.eq_1 (And.intro @fld (And.intro @nit (And.intro @nxE (And.intro @ovR (And.intro @evBin_seql (And.intro @evBin_sneq (And.intro @str.eq_1 (And.intro @u8.eq_1 (And.intro @encBrs.eq_1 (And.intro @cBr.eq_1 (And.intro @encLdg.eq_1 (And.intro @encKws.eq_1 (And.intro @cKw.eq_1 (And.intro @encEvss.eq_1 (And.intro @encEvs.eq_1 (And.intro @cEv.eq_1 (And.intro @encMks.eq_1 (And.intro @cMk.eq_1 (And.intro @tk2 (And.intro @tk3 (And.intro @List.set_cons_succ.{0} (And.intro @List.getElem?_cons_zero.{0} (And.intro @List.getElem?_cons_succ.{0} (@List.length_set.{0}))))))))))))))))))))))))) := And.intro @evNext.eq_1 (And.intro @fld (And.intro @nit (And.intro @nxE (And.intro @ovR (And.intro @evBin_seql (And.intro @evBin_sneq (And.intro @str.eq_1 (And.intro @u8.eq_1 (And.intro @encBrs.eq_1 (And.intro @cBr.eq_1 (And.intro @encLdg.eq_1 (And.intro @encKws.eq_1 (And.intro @cKw.eq_1 (And.intro @encEvss.eq_1 (And.intro @encEvs.eq_1 (And.intro @cEv.eq_1 (And.intro @encMks.eq_1 (And.intro @cMk.eq_1 (And.intro @tk2 (And.intro @tk3 (And.intro @List.set_cons_succ.{0} (And.intro @List.getElem?_cons_zero.{0} (And.intro @List.getElem?_cons_succ.{0} (@List.length_set.{0}))))))))))))))))))))))))
/-! ### the last event of a class -/
def LI (f : Str → Int) : List Ev → Int → Nat → Option Nat
  | [], _, _ => none
  | e :: r, c, o => match LI f r c (o + 1) with
    | some k => some k
    | none => if f e.chg = c then some o else none
theorem LI_snoc {f : Str → Int} : ∀ (es : List Ev) (x : Ev) (c : Int) (o : Nat), LI f (es ++ [x]) c o = if f x.chg = c then some (o + es.length) else LI f es c o
  | [], x, c, o => by simp [LI]
  | e :: es, x, c, o => by
    simp only [List.cons_append, LI, LI_snoc es x c (o + 1)]
    by_cases h : f x.chg = c
    · simp [h]; omega
    · simp [h]
theorem LI_spec {f : Str → Int} : ∀ (es : List Ev) (c : Int) (o : Nat), match LI f es c o with
    | none => lastK f es c = none
    | some k => o ≤ k ∧ ∃ e, es[k - o]? = some e ∧ lastK f es c = some e.kind
  | [], c, o => by simp [LI, lastK]
  | e :: es, c, o => by
    have ih := LI_spec (f := f) es c (o + 1)
    simp only [LI, lastK]
    cases h : LI f es c (o + 1) with
    | some k =>
      rw [h] at ih
      obtain ⟨h1, x, h2, h3⟩ := ih
      simp only
      refine ⟨by omega, x, ?_, by rw [h3]⟩
      rw [show k - o = (k - (o + 1)) + 1 from by omega, List.getElem?_cons_succ]; exact h2
    | none =>
      rw [h] at ih
      simp only at ih ⊢
      rw [ih]
      by_cases e1 : f e.chg = c
      · rw [if_pos e1]; simp [e1]
      · rw [if_neg e1]; simp [e1]
def lastI (f : Str → Int) (es : List Ev) (c : Int) : Int := match LI f es c 0 with
  | some k => (k : Int)
  | none => -1
theorem lastI_some {f : Str → Int} {es : List Ev} {c : Int} (h : 0 ≤ lastI f es c) : ∃ (k : Nat) (e : Ev), lastI f es c = k ∧ es[k]? = some e ∧ lastK f es c = some e.kind := by
  have hs := LI_spec (f := f) es c 0
  unfold lastI at h ⊢
  cases hL : LI f es c 0 with
  | none => rw [hL] at h; simp at h
  | some k =>
    rw [hL] at hs
    obtain ⟨_, e, h1, h2⟩ := hs
    exact ⟨k, e, rfl, by simpa using h1, h2⟩
theorem lastI_none {f : Str → Int} {es : List Ev} {c : Int} (h : lastI f es c < 0) : lastI f es c = -1 ∧ lastK f es c = none := by
  have hs := LI_spec (f := f) es c 0
  unfold lastI at h ⊢
  cases hL : LI f es c 0 with
  | none => rw [hL] at hs; exact ⟨rfl, hs⟩
  | some k => rw [hL] at h; simp at h; omega
theorem lastI_snoc {f : Str → Int} {es : List Ev} {x : Ev} {c : Int} : lastI f (es ++ [x]) c = if f x.chg = c then (es.length : Int) else lastI f es c := by
  unfold lastI
  rw [LI_snoc]
  split
  · rename_i h
    split at h
    · cases h; simp [*]
    · simp [*]
  · rename_i h
    split at h
    · cases h
    · simp [*]
theorem r_last (l : Ldg) (s : List Ev) (c : Int) (hl : l.known.length ≤ 2^40) (hs : s.length ≤ 2^40) : CallSpec cx 129 [encLdg l, encEvs s, i64 c] (i64 (lastI (clsI l.known) s c)) := by
  refine callSpec_of_vc Tryz.func129 rfl (by decide) (by kernel_rfl) (Nat.le_of_ble_eq_true rfl) ?_
  try simp -dsimp (disch := omega) only [↓bp0, bd0, bd_LU, evStore, evRange, Tryz.f129, simprocAttr]
  refine LoopQ.rule (fun m st => ∃ i : Nat, i ≤ s.length ∧ m = s.length - i ∧
    st = ⟨mkE [(1, encEvs s), (2, i64 c), (3, .ptr 0 0 0 0), (7, i64 (lastI (clsI l.known) (s.take i) c)), (8, i64 i)], mkS [(0, .row 0 3 [[encKws l.known, encBrs l.brs, encEvss l.evs]] false)], 1⟩) _ _ (weak_of ?_) ⟨0, by omega, rfl, rfl⟩ ?_
  · first | (simp -dsimp (disch := omega) only [↓bp0, bd0, bd_LU, evStore, evRange, List.take_zero, lastI, LI, simprocAttr]; done) | simp -dsimp [evl, putN, i64, u32, bl, encL, encB, encLL, List.take_zero, lastI, LI]
  rintro m st ⟨i, hi, rfl, rfl⟩
  try simp -dsimp (disch := omega) only [↓bp0, bd0, bd_LU, evStore, evRange, simprocAttr]
  refine onC_nlt (fun h2 => ?_) (fun h2 => ?_)
  · obtain ⟨x, hx, hxm⟩ := get_of_lt h2
    have hts := take_succ hx
    have hsn : lastI (clsI l.known) (s.take (i + 1)) c = if clsI l.known x.chg = c then (i : Int) else lastI (clsI l.known) (s.take i) c := by
      rw [hts, lastI_snoc, List.length_take, Nat.min_eq_left (by omega)]
    try simp -dsimp (disch := omega) only [↓bp0, bd0, bd_LU, evStore, evRange, hx, simprocAttr]
    first | refine vc_text (by kernel_rfl) ?_ | skip
    try simp -dsimp (disch := omega) only [↓bp0, bd0, bd_LU, evStore, evRange, hx, simprocAttr]
    refine CallY.imm (r_Class l x.chg hl) (by rfl) (by rfl) (by first | exact .inl rfl | exact .inr rfl | exact .inr scalB | exact .inr scalI | exact .inr scalT | exact .inr scalM | exact .inr scalMT) ?_
    cases he : decide (clsI l.known x.chg = c)
    · rw [if_neg (of_decide_eq_false he)] at hsn
      try simp -dsimp (disch := omega) only [↓bp0, bd0, bd_LU, evStore, evRange, he, simprocAttr]
      refine ⟨_, _, ?_, weak_of ?_, i + 1, h2, rfl, rfl⟩
      · omega
      · first | (simp -dsimp (disch := omega) only [↓bp0, bd0, bd_LU, evStore, evRange, wrapS h2 (show s.length ≤ 9223372036854775807 by omega), hsn, simprocAttr]; done) | simp -dsimp [evl, putN, i64, u32, bl, encL, encB, encLL, wrapS h2 (show s.length ≤ 9223372036854775807 by omega), hsn]
    · rw [if_pos (of_decide_eq_true he)] at hsn
      try simp -dsimp (disch := omega) only [↓bp0, bd0, bd_LU, evStore, evRange, he, simprocAttr]
      refine ⟨_, _, ?_, weak_of ?_, i + 1, h2, rfl, rfl⟩
      · omega
      · first | (simp -dsimp (disch := omega) only [↓bp0, bd0, bd_LU, evStore, evRange, wrapS h2 (show s.length ≤ 9223372036854775807 by omega), hsn, simprocAttr]; done) | simp -dsimp [evl, putN, i64, u32, bl, encL, encB, encLL, wrapS h2 (show s.length ≤ 9223372036854775807 by omega), hsn]
  · rw [List.take_of_length_le (by omega)]
    simp -dsimp (disch := omega) only [↓bp0, bd0, bd_LU, evStore, evRange, retQ, resL, finL, newL, flat, tupOf, List.toList_toArray, Tryz.f129, simprocAttr]
    exact leT_one .rfl' (by simp)
theorem r_In (l : Ldg) (s : List Ev) (c : Int) (hl : l.known.length ≤ 2^40) (hs : s.length ≤ 2^40) : CallSpec cx 128 [encLdg l, encEvs s, i64 c] (bl (inB (clsI l.known) s c)) := by
  refine callSpec_of_vc Tryz.func128 rfl (by decide) (by kernel_rfl) (Nat.le_of_ble_eq_true rfl) ?_
  try simp -dsimp (disch := omega) only [↓bp0, bd0, bd_LU, evStore, evRange, Tryz.f128, simprocAttr]
  refine CallQ.imm (r_last l s c hl hs) (by rfl) (by rfl) (by first | exact .inl rfl | exact .inr rfl | exact .inr scalB | exact .inr scalI | exact .inr scalT | exact .inr scalM | exact .inr scalMT) ?_
  cases h0 : decide ((0 : Int) ≤ lastI (clsI l.known) s c)
  · obtain ⟨h1, h2⟩ := lastI_none (Int.not_le.1 (of_decide_eq_false h0))
    simp -dsimp (disch := omega) only [↓bp0, bd0, bd_LU, evStore, evRange, retQ, resL, finL, newL, flat, tupOf, List.toList_toArray, Tryz.f128, h0, simprocAttr]
    refine leT_one (bl_eq ?_) (by simp)
    rw [inB, h2]
  · obtain ⟨k, e, h1, h2, h3⟩ := lastI_some (of_decide_eq_true h0)
    rw [h1] at h0
    rw [h1]
    simp -dsimp (disch := omega) only [↓bp0, bd0, bd_LU, evStore, evRange, retQ, resL, finL, newL, flat, tupOf, List.toList_toArray, Tryz.f128, h0, h2, simprocAttr]
    refine leT_one (bl_eq ?_) (by simp)
    rw [inB, h3]; simp
theorem r_allowed (l : Ldg) (s : List Ev) (x : Ev) (hl : l.known.length ≤ 2^40) (hs : s.length ≤ 2^40) : CallSpec cx 83 [encLdg l, encEvs s, .agg (cEv x)] (i64 (alwC (clsI l.known) s x.kind (clsI l.known x.chg))) := by
  refine callSpec_of_vc Tryz.func83 rfl (by decide) (by kernel_rfl) (Nat.le_of_ble_eq_true rfl) ?_
  try simp -dsimp (disch := omega) only [↓bp0, bd0, bd_LU, evStore, evRange, Tryz.f83, simprocAttr]
  refine CallQ.imm (r_Class l x.chg hl) (by rfl) (by rfl) (by first | exact .inl rfl | exact .inr rfl | exact .inr scalB | exact .inr scalI | exact .inr scalT | exact .inr scalM | exact .inr scalMT) ?_
  generalize clsI l.known x.chg = c
  cases h1 : decide (x.kind < 1)
  case true =>
    simp -dsimp (disch := omega) only [↓bp0, bd0, bd_LU, evStore, evRange, retQ, resL, finL, newL, flat, tupOf, List.toList_toArray, Tryz.f83, h1, simprocAttr]
    refine leT_one (int_eq ?_) (by simp)
    rw [alwC, if_pos (.inl (of_decide_eq_true h1))]
  cases h2 : decide ((4 : Int) < x.kind)
  case true =>
    simp -dsimp (disch := omega) only [↓bp0, bd0, bd_LU, evStore, evRange, retQ, resL, finL, newL, flat, tupOf, List.toList_toArray, Tryz.f83, h1, h2, simprocAttr]
    refine leT_one (int_eq ?_) (by simp)
    rw [alwC, if_pos (.inr (of_decide_eq_true h2))]
  have e1 : ¬ (x.kind < 1 ∨ 4 < x.kind) := by
    rw [not_or]; exact ⟨of_decide_eq_false h1, of_decide_eq_false h2⟩
  try simp -dsimp (disch := omega) only [↓bp0, bd0, bd_LU, evStore, evRange, h1, h2, simprocAttr]
  refine CallQ.imm (r_In l s c hl hs) (by rfl) (by rfl) (by first | exact .inl rfl | exact .inr rfl | exact .inr scalB | exact .inr scalI | exact .inr scalT | exact .inr scalM | exact .inr scalMT) ?_
  have hK : ∀ f : Str → Int, inB f s c = true → (lastK f s c).isSome = true := fun f h => by
    unfold inB at h
    cases hk : lastK f s c with
    | none => rw [hk] at h; cases h
    | some k => rfl
  have hli : (0 ≤ lastI (clsI l.known) s c ↔ (lastK (clsI l.known) s c).isSome = true) := by
    constructor
    · intro h
      obtain ⟨k, e, _, _, h3⟩ := lastI_some h
      rw [h3]; rfl
    · intro h
      apply Classical.byContradiction
      intro hn
      rw [(lastI_none (Int.not_le.1 hn)).2] at h; cases h
  cases h3 : decide (x.kind = 3)
  case true =>
    have h3' := of_decide_eq_true h3
    have h5 : decide (x.kind = 1) = false := decide_eq_false (by omega)
    have h6 : decide (x.kind = 4) = false := decide_eq_false (by omega)
    have e2 : alwC (clsI l.known) s x.kind c = if inB (clsI l.known) s c then 0 else 36 := by rw [alwC, if_neg e1, if_pos h3']
    cases hb : inB (clsI l.known) s c
    · try simp -dsimp (disch := omega) only [↓bp0, bd0, bd_LU, evStore, evRange, h3, h5, h6, hb, simprocAttr]
      refine CallQ.imm (r_In l s c hl hs) (by rfl) (by rfl) (by first | exact .inl rfl | exact .inr rfl | exact .inr scalB | exact .inr scalI | exact .inr scalT | exact .inr scalM | exact .inr scalMT) ?_
      simp -dsimp (disch := omega) only [↓bp0, bd0, bd_LU, evStore, evRange, retQ, resL, finL, newL, flat, tupOf, List.toList_toArray, Tryz.f83, h3, h5, h6, hb, uUn, Option.bind_some, simprocAttr]
      refine leT_one (int_eq ?_) (by simp)
      rw [e2, hb]; rfl
    · try simp -dsimp (disch := omega) only [↓bp0, bd0, bd_LU, evStore, evRange, h3, h5, h6, hb, simprocAttr]
      refine CallQ.imm (r_In l s c hl hs) (by rfl) (by rfl) (by first | exact .inl rfl | exact .inr rfl | exact .inr scalB | exact .inr scalI | exact .inr scalT | exact .inr scalM | exact .inr scalMT) ?_
      simp -dsimp (disch := omega) only [↓bp0, bd0, bd_LU, evStore, evRange, retQ, resL, finL, newL, flat, tupOf, List.toList_toArray, Tryz.f83, h3, h5, h6, hb, uUn, Option.bind_some, simprocAttr]
      refine leT_one (int_eq ?_) (by simp)
      rw [e2, hb]; rfl
  have h3' := of_decide_eq_false h3
  cases hb : inB (clsI l.known) s c
  case true =>
    simp -dsimp (disch := omega) only [↓bp0, bd0, bd_LU, evStore, evRange, retQ, resL, finL, newL, flat, tupOf, List.toList_toArray, Tryz.f83, h3, hb, simprocAttr]
    refine leT_one (int_eq ?_) (by simp)
    rw [alwC, if_neg e1, if_neg h3', hb]; rfl
  have e2 : alwC (clsI l.known) s x.kind c = if x.kind = 1 ∧ (lastK (clsI l.known) s c).isSome = true then 14 else if x.kind = 4 ∧ (lastK (clsI l.known) s c).isSome = false then 36 else 0 := by
    rw [alwC, if_neg e1, if_neg h3', hb]; rfl
  cases h5 : decide (x.kind = 1)
  case true =>
    have h5' := of_decide_eq_true h5
    have h6 : decide (x.kind = 4) = false := decide_eq_false (by omega)
    try simp -dsimp (disch := omega) only [↓bp0, bd0, bd_LU, evStore, evRange, h3, h5, h6, hb, simprocAttr]
    refine CallQ.imm (r_last l s c hl hs) (by rfl) (by rfl) (by first | exact .inl rfl | exact .inr rfl | exact .inr scalB | exact .inr scalI | exact .inr scalT | exact .inr scalM | exact .inr scalMT) ?_
    cases h7 : decide ((0 : Int) ≤ lastI (clsI l.known) s c)
    · have h7' := of_decide_eq_false h7
      simp -dsimp (disch := omega) only [↓bp0, bd0, bd_LU, evStore, evRange, retQ, resL, finL, newL, flat, tupOf, List.toList_toArray, Tryz.f83, h3, h5, h6, h7, hb, simprocAttr]
      refine leT_one (int_eq ?_) (by simp)
      rw [hli] at h7'
      rw [e2, if_neg (fun h => h7' h.2), if_neg (fun h => by omega)]
    · have h7' := of_decide_eq_true h7
      simp -dsimp (disch := omega) only [↓bp0, bd0, bd_LU, evStore, evRange, retQ, resL, finL, newL, flat, tupOf, List.toList_toArray, Tryz.f83, h3, h5, h6, h7, hb, simprocAttr]
      refine leT_one (int_eq ?_) (by simp)
      rw [e2, if_pos ⟨h5', hli.1 h7'⟩]
  have h5' := of_decide_eq_false h5
  cases h6 : decide (x.kind = 4)
  · have h6' := of_decide_eq_false h6
    simp -dsimp (disch := omega) only [↓bp0, bd0, bd_LU, evStore, evRange, retQ, resL, finL, newL, flat, tupOf, List.toList_toArray, Tryz.f83, h3, h5, h6, hb, simprocAttr]
    refine leT_one (int_eq ?_) (by simp)
    rw [e2, if_neg (fun h => h5' h.1), if_neg (fun h => h6' h.1)]
  have h6' := of_decide_eq_true h6
  try simp -dsimp (disch := omega) only [↓bp0, bd0, bd_LU, evStore, evRange, h3, h5, h6, hb, simprocAttr]
  refine CallQ.imm (r_last l s c hl hs) (by rfl) (by rfl) (by first | exact .inl rfl | exact .inr rfl | exact .inr scalB | exact .inr scalI | exact .inr scalT | exact .inr scalM | exact .inr scalMT) ?_
  cases h7 : decide (lastI (clsI l.known) s c < 0)
  · have h7' := of_decide_eq_false h7
    have h8 := hli.1 (Int.not_lt.1 h7')
    simp -dsimp (disch := omega) only [↓bp0, bd0, bd_LU, evStore, evRange, retQ, resL, finL, newL, flat, tupOf, List.toList_toArray, Tryz.f83, h3, h5, h6, h7, hb, simprocAttr]
    refine leT_one (int_eq ?_) (by simp)
    rw [e2, if_neg (fun h => h5' h.1), if_neg (fun h => by rw [h8] at h; cases h.2)]
  · have h7' := of_decide_eq_true h7
    simp -dsimp (disch := omega) only [↓bp0, bd0, bd_LU, evStore, evRange, retQ, resL, finL, newL, flat, tupOf, List.toList_toArray, Tryz.f83, h3, h5, h6, h7, hb, simprocAttr]
    refine leT_one (int_eq ?_) (by simp)
    rw [e2, if_neg (fun h => h5' h.1), if_pos ⟨h6', by rw [(lastI_none h7').2]; rfl⟩]
end Go.Ab
end

section
/- The reference's events of views, and its error of a ledger. -/
set_option maxRecDepth 100000
set_option maxHeartbeats 8000000
namespace Go.Ab
open Go Go.Proofs
def newEvs (es : List Ev) : PV := .new 2 (es.map cEv)
theorem scalE {l : List Ev} : scal (newEvs l) = true := by
  simp only [scal, scal1, newEvs, List.all_map, List.all_eq_true]
  intro x _; rfl
theorem flE {l : List Ev} : ((l.map cEv).all fun e => e.all flat) = true := by
  rw [List.all_eq_true]; intro e he; obtain ⟨b, _, rfl⟩ := List.mem_map.1 he; rfl
theorem r_Seen (l : Ldg) (v : List (Nat × Nat)) (n : Nat) (hv : ∀ m ∈ v, ∃ c, (cnts l)[m.1]? = some c ∧ (m.2 : Int) < c) (hl : v.length ≤ 2^30) : CallSpec cx 25 [encLdg l, encMks v, i64 n] (newEvs (seenE l (v.take n))) := by
  refine callSpec_of_vc Tryz.func25 rfl (by decide) (by kernel_rfl) (Nat.le_of_ble_eq_true rfl) ?_
  try simp -dsimp (disch := omega) only [↓bp0, bd0, evStore, evRange, evNext, fld, nit, nxE, ovR, evBin_seql, evBin_sneq, str, u8, encBrs, cBr, encLdg, encKws, cKw, encEvss, encEvs, cEv, encMks, cMk, tk2, tk3, List.set_cons_succ, List.getElem?_cons_zero, List.getElem?_cons_succ, List.length_set, Tryz.f25, simprocAttr]
  refine LoopQ.ghost 7 2 (by rfl) ?_
  refine LoopQ.rule (fun m st => ∃ (k id ver nx : Nat), k ≤ v.length ∧ k ≤ n ∧ 1 ≤ id ∧ id < nx ∧ m = v.length - k ∧
    st = ⟨mkE [(1, encMks v), (2, i64 n), (3, .ptr 0 0 0 0), (7, .own id ver 0 k false), (8, i64 k)], mkS [(0, .row 0 3 [[encKws l.known, encBrs l.brs, encEvss l.evs]] false), (id, .row ver 2 ((seenE l (v.take k)).map cEv) false)], nx⟩) _ _ (weak_of ?_)
    ⟨0, 1, 0, 2, by omega, by omega, by omega, by omega, rfl, rfl⟩ ?_
  · first | (simp -dsimp (disch := omega) only [↓bp0, bd0, evStore, evRange, evNext, fld, nit, nxE, ovR, evBin_seql, evBin_sneq, str, u8, encBrs, cBr, encLdg, encKws, cKw, encEvss, encEvs, cEv, encMks, cMk, tk2, tk3, List.set_cons_succ, List.getElem?_cons_zero, List.getElem?_cons_succ, List.length_set, ghR, List.take_zero, seenE, List.map_nil, simprocAttr]; done) | simp -dsimp [evl, putN, i64, u32, bl, encL, encB, encLL, ghR, List.take_zero, seenE, List.map_nil]
  rintro m st ⟨k, id, ver, nx, hkl, hkn, hid1, hid, rfl, rfl⟩
  have hE1_0a : (id = 0) = False := by simp; omega
  have hE1_0b : (0 = id) = False := by simp; omega
  have hE1_1a : (id = nx) = False := by simp; omega
  have hE1_1b : (nx = id) = False := by simp; omega
  have hE1_2a : (nx = 0) = False := by simp; omega
  have hE1_2b : (0 = nx) = False := by simp; omega
  have hfin : (v.length ≤ k ∨ n ≤ k) → seenE l (v.take k) = seenE l (v.take n) := fun h => by
    rcases h with h | h
    · rw [List.take_of_length_le h, List.take_of_length_le (by omega)]
    · rw [show k = n from by omega]
  have hlk : (seenE l (v.take k)).length = k := by simp only [seenE, List.length_map, List.length_take]; omega
  have hT : List.take k ((seenE l (v.take k)).map cEv) = (seenE l (v.take k)).map cEv := List.take_of_length_le (by rw [List.length_map]; omega)
  cases h1 : decide ((k : Int) < n)
  · have h1' := of_decide_eq_false h1
    simp -dsimp (disch := omega) only [↓bp0, bd0, evStore, evRange, evNext, fld, nit, nxE, ovR, evBin_seql, evBin_sneq, str, u8, encBrs, cBr, encLdg, encKws, cKw, encEvss, encEvs, cEv, encMks, cMk, tk2, tk3, List.set_cons_succ, List.getElem?_cons_zero, List.getElem?_cons_succ, List.length_set, retQ, resL, finL, newL, flat, tupOf, List.toList_toArray, Tryz.f25, h1, hT, hlk, flE, hE1_0a, hE1_0b, hE1_1a, hE1_1b, hE1_2a, hE1_2b, simprocAttr]
    rw [hfin (.inr (by omega))]
    exact leT_one .rfl' (by simp)
  cases h2 : decide ((k : Int) < v.length)
  · have h2' := of_decide_eq_false h2
    simp -dsimp (disch := omega) only [↓bp0, bd0, evStore, evRange, evNext, fld, nit, nxE, ovR, evBin_seql, evBin_sneq, str, u8, encBrs, cBr, encLdg, encKws, cKw, encEvss, encEvs, cEv, encMks, cMk, tk2, tk3, List.set_cons_succ, List.getElem?_cons_zero, List.getElem?_cons_succ, List.length_set, retQ, resL, finL, newL, flat, tupOf, List.toList_toArray, Tryz.f25, h1, h2, hT, hlk, flE, hE1_0a, hE1_0b, hE1_1a, hE1_1b, hE1_2a, hE1_2b, simprocAttr]
    rw [hfin (.inl (by omega))]
    exact leT_one .rfl' (by simp)
  have h1' := of_decide_eq_true h1
  have h2' := of_decide_eq_true h2
  obtain ⟨⟨j, e⟩, hx, hxm⟩ := get_of_lt (l := v) (show k < v.length by omega)
  obtain ⟨c0, hc0, hlt⟩ := hv _ hxm
  obtain ⟨own, x, hj, he, hev, hxo⟩ := evAt_get hc0 hlt
  simp only at hj he
  have hts : seenE l (v.take (k + 1)) = seenE l (v.take k) ++ [x] := by rw [take_succ hx]; simp [seenE, hev]
  have hbd : (k + 1) * 24 ≤ 140737488355328 := by omega
  try simp -dsimp (disch := omega) only [↓bp0, bd0, evStore, evRange, evNext, fld, nit, nxE, ovR, evBin_seql, evBin_sneq, str, u8, encBrs, cBr, encLdg, encKws, cKw, encEvss, encEvs, cEv, encMks, cMk, tk2, tk3, List.set_cons_succ, List.getElem?_cons_zero, List.getElem?_cons_succ, List.length_set, h1, h2, hx, hE1_0a, hE1_0b, hE1_1a, hE1_1b, hE1_2a, hE1_2b, simprocAttr]
  refine vc_regJ (fun _ => True) [0] [] (by kernel_rfl) (by kernel_rfl) ?_ ?_
  · trivial
  try simp -dsimp (disch := omega) only [↓bp0, bd0, evStore, evRange, evNext, fld, nit, nxE, ovR, evBin_seql, evBin_sneq, str, u8, encBrs, cBr, encLdg, encKws, cKw, encEvss, encEvs, cEv, encMks, cMk, tk2, tk3, List.set_cons_succ, List.getElem?_cons_zero, List.getElem?_cons_succ, List.length_set, vcj, implies_true, or_true, true_and, hx, hj, he, hlk, hbd, hE1_0a, hE1_0b, hE1_1a, hE1_1b, hE1_2a, hE1_2b, simprocAttr]
  refine ⟨_, _, ?_, weak_of ?_, k + 1, id, ver + 1, nx + 1, by omega, by omega, hid1, by omega, rfl, rfl⟩
  · omega
  · first | (simp -dsimp (disch := omega) only [↓bp0, bd0, evStore, evRange, evNext, fld, nit, nxE, ovR, evBin_seql, evBin_sneq, str, u8, encBrs, cBr, encLdg, encKws, cKw, encEvss, encEvs, cEv, encMks, cMk, tk2, tk3, List.set_cons_succ, List.getElem?_cons_zero, List.getElem?_cons_succ, List.length_set, hE1_0a, hE1_0b, hE1_1a, hE1_1b, hE1_2a, hE1_2b, wrapS (show k < v.length by omega) (show v.length ≤ 9223372036854775807 by omega), hts, List.map_append, List.map_cons, List.map_nil, simprocAttr]; done) | simp -dsimp [evl, putN, i64, u32, bl, encL, encB, encLL, hE1_0a, hE1_0b, hE1_1a, hE1_1b, hE1_2a, hE1_2b, wrapS (show k < v.length by omega) (show v.length ≤ 9223372036854775807 by omega), hts, List.map_append, List.map_cons, List.map_nil]
end Go.Ab
end

section
/- Fixes and gaps: terms and small contracts. -/
set_option maxRecDepth 100000
set_option maxHeartbeats 8000000
namespace Go.Ab
open Go Go.Proofs
theorem bd_MA : type_of% (And.intro @evNext.eq_1 (And.intro @fld (And.intro @nit (And.intro @nxE (And.intro @ovR (And.intro @evBin_seql (And.intro @evBin_sneq (And.intro @str.eq_1 (And.intro @u8.eq_1 (And.intro @encBrs.eq_1 (And.intro @cBr.eq_1 (And.intro @encLdg.eq_1 (And.intro @encKws.eq_1 (And.intro @cKw.eq_1 (And.intro @encEvss.eq_1 (And.intro @encEvs.eq_1 (And.intro @cEv.eq_1 (And.intro @encMks.eq_1 (And.intro @cMk.eq_1 (And.intro @encStrs.eq_1 (And.intro @tk2 (And.intro @tk3 (And.intro @List.set_cons_succ.{0} (And.intro @List.getElem?_cons_zero.{0} (And.intro @List.getElem?_cons_succ.{0} (@List.length_set.{0})))))))))))))))))))))))))) := And.intro @evNext.eq_1 (And.intro @fld (And.intro @nit (And.intro @nxE (And.intro @ovR (And.intro @evBin_seql (And.intro @evBin_sneq (And.intro @str.eq_1 (And.intro @u8.eq_1 (And.intro @encBrs.eq_1 (And.intro @cBr.eq_1 (And.intro @encLdg.eq_1 (And.intro @encKws.eq_1 (And.intro @cKw.eq_1 (And.intro @encEvss.eq_1 (And.intro @encEvs.eq_1 (And.intro @cEv.eq_1 (And.intro @encMks.eq_1 (And.intro @cMk.eq_1 (And.intro @encStrs.eq_1 (And.intro @tk2 (And.intro @tk3 (And.intro @List.set_cons_succ.{0} (And.intro @List.getElem?_cons_zero.{0} (And.intro @List.getElem?_cons_succ.{0} (@List.length_set.{0})))))))))))))))))))))))))
structure Fx where
  cls : Int
  wgt : Int
  brs : List Str
structure Gp where
  br : Str
  cls : Int
  wgt : Int
def cFx (f : Fx) : List PV := [.lit (.int .i64 f.cls), .lit (.int .i64 f.wgt), encStrs f.brs]
def encFxs (l : List Fx) : PV := .imm (l.map cFx) false
def cGp (g : Gp) : List PV := [str g.br, .lit (.int .i64 g.cls), .lit (.int .i64 g.wgt)]
def dupS (l : List Str) : Bool := anyI (fun i (b : Str) => (l.take i).any fun x => decide (b = x)) l
def oneE (l : Ldg) (pre : List Fx) (f : Fx) : Int :=
  if f.cls < 0 ∨ 30 ≤ f.cls ∨ f.wgt < 1 ∨ 9 < f.wgt ∨ f.brs.length = 0 then 8
  else if (f.brs.any fun b => decide (idx l.brs b < 0)) = true then 6
  else if dupS f.brs = true then 14
  else if (pre.any fun g => decide (f.cls = g.cls)) = true then 14 else 0
def fxE (l : Ldg) : List Fx → List Fx → Int
  | _, [] => 0
  | pre, f :: r => if oneE l pre f ≠ 0 then oneE l pre f else fxE l (pre ++ [f]) r
def mchk (l : Ldg) (x : List Fx) : Int := if lchk l ≠ 0 then lchk l else if 30 < x.length then 4 else fxE l [] x
def wantB (b : Str) (inn : List Int) (f : Fx) : Bool := (f.brs.any fun x => decide (b = x)) && !(inn.any fun c => decide (f.cls = c))
def gapsOf (x : List Fx) (b : Str) (inn : List Int) : List Gp := (x.filter (wantB b inn)).map fun f => ⟨b, f.cls, f.wgt⟩
theorem ci_ix (l : List Int) (n : Int) (hl : l.length ≤ 9223372036854775807) : CallSpec cx 142 [encL l, i64 n] (i64 (fi (fun x => decide (n = x)) l)) := by
  refine callSpec_of_vc Tryz.func142 rfl (by decide) (by kernel_rfl) (Nat.le_of_ble_eq_true rfl) ?_
  try simp -dsimp (disch := omega) only [↓bp0, bd0, bd_MA, evStore, evRange, Tryz.f142, encL, simprocAttr]
  refine LoopQ.rule (fun m st => ∃ i : Nat, i ≤ l.length ∧ (∀ j, j < i → ∀ x, l[j]? = some x → decide (n = x) = false) ∧ m = l.length - i ∧
    st = ⟨mkE [(0, encL l), (1, i64 n), (7, i64 l.length), (8, i64 i)], mkS [], 0⟩) _ _ (weak_of ?_) ⟨0, by omega, by simp, rfl, rfl⟩ ?_
  · first | (simp -dsimp (disch := omega) only [↓bp0, bd0, bd_MA, evStore, evRange, encL, simprocAttr]; done) | simp -dsimp [evl, putN, i64, u32, bl, encL, encB, encLL, encL]
  rintro m st ⟨i, hi, hpre, rfl, rfl⟩
  try simp -dsimp (disch := omega) only [↓bp0, bd0, bd_MA, evStore, evRange, encL, simprocAttr]
  refine onC_nlt (fun h2 => ?_) (fun h2 => ?_)
  · obtain ⟨x, hx, hxm⟩ := get_of_lt h2
    cases he : decide (n = x)
    · try simp -dsimp (disch := omega) only [↓bp0, bd0, bd_MA, evStore, evRange, hx, he, encL, simprocAttr]
      refine ⟨_, _, ?_, weak_of ?_, i + 1, h2, ?_, rfl, rfl⟩
      · omega
      · first | (simp -dsimp (disch := omega) only [↓bp0, bd0, bd_MA, evStore, evRange, wrapS h2 hl, encL, simprocAttr]; done) | simp -dsimp [evl, putN, i64, u32, bl, encL, encB, encLL, wrapS h2 hl, encL]
      · intro j hj y hy
        by_cases hji : j = i
        · subst hji; rw [hx] at hy; cases hy; exact he
        · exact hpre j (by omega) y hy
    · simp -dsimp (disch := omega) only [↓bp0, bd0, bd_MA, evStore, evRange, retQ, resL, finL, newL, flat, tupOf, List.toList_toArray, Tryz.f142, hx, he, encL, simprocAttr]
      rw [fi_at (fun x => decide (n = x)) _ _ _ hx hpre he]
      exact leT_one .rfl' (by simp)
  · simp -dsimp (disch := omega) only [↓bp0, bd0, bd_MA, evStore, evRange, retQ, resL, finL, newL, flat, tupOf, List.toList_toArray, Tryz.f142, simprocAttr]
    rw [fi_none (fun x => decide (n = x)) _ fun j y hy => hpre j (by have := (List.getElem?_eq_some_iff.1 hy).1; omega) y hy]
    exact leT_one .rfl' (by simp)
theorem ci_con (l : List Int) (n : Int) (hl : l.length ≤ 9223372036854775807) : CallSpec cx 106 [encL l, i64 n] (bl (l.any fun x => decide (n = x))) := by
  refine callSpec_of_vc Tryz.func106 rfl (by decide) (by kernel_rfl) (Nat.le_of_ble_eq_true rfl) ?_
  try simp -dsimp (disch := omega) only [↓bp0, bd0, bd_MA, evStore, evRange, Tryz.f106, encL, simprocAttr]
  refine CallQ.imm (ci_ix l n hl) (by rfl) (by rfl) (by first | exact .inl rfl | exact .inr rfl | exact .inr scalB | exact .inr scalI | exact .inr scalT | exact .inr scalM | exact .inr scalMT) ?_
  simp -dsimp (disch := omega) only [↓bp0, bd0, bd_MA, evStore, evRange, retQ, resL, finL, newL, flat, tupOf, List.toList_toArray, Tryz.f106, simprocAttr]
  refine leT_one (bl_eq ?_) (by simp)
  rw [Bool.eq_iff_iff, decide_eq_true_iff, ← fi_any]
def cLdg (l : Ldg) : List PV := [encKws l.known, encBrs l.brs, encEvss l.evs]
end Go.Ab
end
