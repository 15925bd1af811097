/- What ledgers are made of: classes, counts, states. -/
import Derived.Test.YtgcodedanljhpaaDoorLJ
set_option linter.unusedSimpArgs false
set_option linter.unusedVariables false
section
set_option maxRecDepth 100000
set_option maxHeartbeats 8000000
namespace Go.Ab
open Go Go.Proofs
theorem bd_LK : type_of% (And.intro @evNext.eq_1 (And.intro @fld (And.intro @nit (And.intro @nxE (And.intro @evBin_seql (And.intro @evBin_sneq (And.intro @str.eq_1 (And.intro @u8.eq_1 (And.intro @encBrs.eq_1 (And.intro @cBr.eq_1 (And.intro @encLdg.eq_1 (And.intro @encKws.eq_1 (And.intro @cKw.eq_1 (And.intro @encEvss.eq_1 (And.intro @cEv.eq_1 (And.intro @List.set_cons_succ.{0} (And.intro @List.getElem?_cons_zero.{0} (And.intro @List.getElem?_cons_succ.{0} (@List.length_set.{0}))))))))))))))))))) := And.intro @evNext.eq_1 (And.intro @fld (And.intro @nit (And.intro @nxE (And.intro @evBin_seql (And.intro @evBin_sneq (And.intro @str.eq_1 (And.intro @u8.eq_1 (And.intro @encBrs.eq_1 (And.intro @cBr.eq_1 (And.intro @encLdg.eq_1 (And.intro @encKws.eq_1 (And.intro @cKw.eq_1 (And.intro @encEvss.eq_1 (And.intro @cEv.eq_1 (And.intro @List.set_cons_succ.{0} (And.intro @List.getElem?_cons_zero.{0} (And.intro @List.getElem?_cons_succ.{0} (@List.length_set.{0}))))))))))))))))))
theorem tk2 : ∀ {α : Type} {a b : α}, List.take 2 [a, b] = [a, b] := rfl
theorem d_counts (l : Ldg) (hl : l.evs.length ≤ 2^40) (he : ∀ s ∈ l.evs, s.length ≤ 2^40) : CallSpec cx 55 [encLdg l] (newI (cnts l)) := by
  refine callSpec_of_vc Tryd.func55 rfl (by decide) (by kernel_rfl) (Nat.le_of_ble_eq_true rfl) ?_
  have hbd : 8 * l.evs.length ≤ 140737488355328 := by omega
  have hbd' : l.evs.length ≤ 140737488355328 := by omega
  try simp -dsimp (disch := omega) only [↓bp0, bd0, bd_LK, evStore, evRange, Tryd.f55, hbd, hbd', simprocAttr]
  refine LoopQ.rule (fun m st => ∃ (i nx : Nat) (out : List Int), i ≤ l.evs.length ∧ 1 < nx ∧ out.length = l.evs.length ∧ out.take i = (cnts l).take i ∧ m = l.evs.length - i ∧
    st = ⟨mkE [(3, .own 1 0 0 l.evs.length false), (11, encEvss l.evs), (12, i64 l.evs.length), (13, i64 i)], mkS [(1, .row 0 1 (out.map fun n => [i64 n]) false)], nx⟩) _ _ (weak_of ?_)
    ⟨0, 2, List.replicate l.evs.length 0, by omega, by omega, by simp, by simp, rfl, rfl⟩ ?_
  · first | (simp -dsimp (disch := omega) only [↓bp0, bd0, bd_LK, evStore, evRange, List.map_replicate, simprocAttr]; done) | simp -dsimp [evl, putN, i64, u32, bl, encL, encB, encLL, List.map_replicate]
    try rfl
  rintro m st ⟨i, nx, out, hi, hnx, hol, htk, rfl, rfl⟩
  try simp -dsimp (disch := omega) only [↓bp0, bd0, bd_LK, evStore, evRange, simprocAttr]
  refine onC_nlt (fun h2 => ?_) (fun h2 => ?_)
  · obtain ⟨x, hx, hxm⟩ := get_of_lt h2
    have hox : out[i]? = some out[i] := List.getElem?_eq_getElem (by omega)
    try simp -dsimp (disch := omega) only [↓bp0, bd0, bd_LK, evStore, evRange, hx, encEvs, h2, hox, simprocAttr]
    refine ⟨_, _, ?_, weak_of ?_, i + 1, nx, out.set i x.length, h2, hnx, by simp [hol], ?_, rfl, rfl⟩
    · omega
    · first | (simp -dsimp (disch := omega) only [↓bp0, bd0, bd_LK, evStore, evRange, wrapS h2 (show l.evs.length ≤ 9223372036854775807 by omega), List.map_set, encEvs, simprocAttr]; done) | simp -dsimp [evl, putN, i64, u32, bl, encL, encB, encLL, wrapS h2 (show l.evs.length ≤ 9223372036854775807 by omega), List.map_set, encEvs]
    · have hc : (cnts l)[i]? = some (x.length : Int) := by simp [cnts, hx]
      rw [take_succ hc, take_succ (show (out.set i (x.length : Int))[i]? = some (x.length : Int) from List.getElem?_set_self (by omega)), List.take_set_of_le (by omega), htk]
  · have hil : i = l.evs.length := by omega
    subst hil
    have : out = cnts l := by
      rw [← hol, List.take_length] at htk
      rw [htk, hol, List.take_of_length_le (by simp [cnts])]
    subst this
    have hT : List.take l.evs.length ((cnts l).map fun n => [PV.lit (.int .i64 n)]) = (cnts l).map fun n => [PV.lit (.int .i64 n)] := List.take_of_length_le (by simp [cnts])
    simp -dsimp (disch := omega) only [↓bp0, bd0, bd_LK, evStore, evRange, retQ, resL, finL, newL, flat, tupOf, List.toList_toArray, Tryd.f55, hT, hol, simprocAttr]
    exact leT_one .rfl' (by simp)
structure ClsM (known : List Kw) (kvs : List (Value × PV × Nat)) : Prop where
  map : MapI kvs fun s => (clsLast known s).map fun n => .lit (.int .i64 n)
  le : kvs.length ≤ known.length
  nodup : kvs.length = known.length ↔ nodupB known = true
def ClsQ (known : List Kw) (σ : Store) (nx : Nat) (r : PV) (σ' : Store) (nx' : Nat) : Prop := ∃ id kvs clock, nx ≤ id ∧ id < nx' ∧ r = .mp id ∧ σ' = σ.put id (.map kvs clock false) ∧ ClsM known kvs
theorem ClsM.nil : ClsM [] [] := ⟨fun _ => rfl, Nat.le_refl _, by simp [nodupB]⟩
theorem ClsM.new {l : List Kw} {kvs : List (Value × PV × Nat)} (h : ClsM l kvs) {k : Kw} (n : Nat) (hn : clsLast l k.chg = none) : ClsM (l ++ [k]) (kvs ++ [(.string k.chg, .lit (.int .i64 k.cls), n)]) := by
  refine ⟨fun s => ?_, by simp [h.le], ?_⟩
  · have := (h.map.push (k := k.chg) (x := .lit (.int .i64 k.cls)) (n := n) (by simp [hn])) s
    rw [this]
    simp only [clsLast_snoc]
    by_cases e : s = k.chg <;> simp [e]
  · rw [nodupB_snoc, Bool.and_eq_true, Bool.not_eq_true', clsLast_none.1 hn, ← h.nodup]; simp
theorem ClsM.old {l : List Kw} {kvs : List (Value × PV × Nat)} (h : ClsM l kvs) {k : Kw} {m : Int} (hn : clsLast l k.chg = some m) : ClsM (l ++ [k]) (updP .string (.string k.chg) (.lit (.int .i64 k.cls)) kvs) := by
  have hl := updP_len (d := .string) (k := .string k.chg) (x := .lit (.int .i64 k.cls)) kvs
  refine ⟨fun s => ?_, by rw [hl]; have := h.le; simp; omega, ?_⟩
  · have := (h.map.upd (k := k.chg) (x := .lit (.int .i64 k.cls)) (p0 := .lit (.int .i64 m)) (by simp [hn])) s
    rw [this]
    simp only [clsLast_snoc]
    by_cases e : s = k.chg <;> simp [e]
  · have h1 : (l.any fun q => decide (q.chg = k.chg)) = true := by
      cases h2 : l.any fun q => decide (q.chg = k.chg) with
      | true => rfl
      | false => rw [clsLast_none.2 h2] at hn; cases hn
    rw [nodupB_snoc, h1, hl, List.length_append]
    have := h.le
    simp; omega
theorem d_classes (l : Ldg) (hl : l.known.length ≤ 2^40) (σ : Store) (nx : Nat) : StSpec cx 49 [encLdg l] σ nx (ClsQ l.known σ nx) := by
  refine StSpec.fresh (by kernel_rfl) fun hfr => ?_
  refine stSpec_of_vc Tryd.func49 rfl (by decide) (by kernel_rfl) (Nat.le_of_ble_eq_true rfl) ?_
  try simp -dsimp (disch := omega) only [↓bp0, bd0, bd_LK, evStore, evRange, Tryd.f49, evMakeMap, simprocAttr]
  refine LoopQ.rule (fun m st => ∃ (i id nx' clock : Nat) (kvs : List (Value × PV × Nat)), i ≤ l.known.length ∧ nx ≤ id ∧ id < nx' ∧ ClsM (l.known.take i) kvs ∧ m = l.known.length - i ∧
    st = ⟨mkE [(3, .mp id), (8, encKws l.known), (9, i64 l.known.length), (10, i64 i)], σ.put id (.map kvs clock false), nx'⟩) _ _ ?_
    ⟨0, nx + 1, nx + 2, 0, [], by omega, by omega, by omega, .nil, rfl, rfl⟩ ?_
  · refine weak_ofP hfr (by first | (simp -dsimp (disch := omega) only [↓bp0, bd0, bd_LK, evStore, evRange, simprocAttr]; done) | simp -dsimp [evl, putN, i64, u32, bl, encL, encB, encLL]) (by first | (simp -dsimp (disch := omega) only [↓bp0, bd0, bd_LK, evStore, evRange, simprocAttr]; done) | simp -dsimp [evl, putN, i64, u32, bl, encL, encB, encLL]) (by (try simp -dsimp only [st_put_σ]); repeat (first | exact Agr.rfl' | refine Agr.put ?_ (by omega) | exact Agr.ov (by simp only [geL]; omega))) (by first | (simp -dsimp (disch := omega) only [↓bp0, bd0, bd_LK, evStore, evRange, simprocAttr]; done) | simp -dsimp [evl, putN, i64, u32, bl, encL, encB, encLL])
  rintro m st ⟨i, id, nx', clock, kvs, hi, hid, hid2, hM, rfl, rfl⟩
  have hE2 : (id = nx') = False := by simp; omega
  have hE3 : (nx' = id) = False := by simp; omega
  try simp -dsimp (disch := omega) only [↓bp0, bd0, bd_LK, evStore, evRange, simprocAttr]
  refine onC_nlt (fun h2 => ?_) (fun h2 => ?_)
  · obtain ⟨k, hx, hxm⟩ := get_of_lt h2
    have hfp : findP .string (.string k.chg) kvs = some ((clsLast (l.known.take i) k.chg).map fun n => .lit (.int .i64 n)) := hM.map k.chg
    have htk := take_succ hx
    cases hc : clsLast (l.known.take i) k.chg with
    | none =>
      rw [hc] at hfp
      have hM2 := hM.new clock hc
      rw [← htk] at hM2
      try simp -dsimp (disch := omega) only [↓bp0, bd0, bd_LK, evStore, evRange, hx, tk2, hE2, hE3, evMapPut, keyS, hfp, simprocAttr]
      refine ⟨_, _, ?_, ?_, i + 1, id, nx' + 1, clock + 1, _, h2, hid, by omega, hM2, rfl, rfl⟩
      · omega
      · refine weak_ofP hfr (by first | (simp -dsimp (disch := omega) only [↓bp0, bd0, bd_LK, evStore, evRange, wrapS h2 (show l.known.length ≤ 9223372036854775807 by omega), hE2, hE3, simprocAttr]; done) | simp -dsimp [evl, putN, i64, u32, bl, encL, encB, encLL, wrapS h2 (show l.known.length ≤ 9223372036854775807 by omega), hE2, hE3]) (by first | (simp -dsimp (disch := omega) only [↓bp0, bd0, bd_LK, evStore, evRange, wrapS h2 (show l.known.length ≤ 9223372036854775807 by omega), hE2, hE3, simprocAttr]; done) | simp -dsimp [evl, putN, i64, u32, bl, encL, encB, encLL, wrapS h2 (show l.known.length ≤ 9223372036854775807 by omega), hE2, hE3]) (by (try simp -dsimp only [st_put_σ]); repeat (first | exact Agr.rfl' | refine Agr.put ?_ (by omega) | exact Agr.ov (by simp only [geL]; omega))) (by first | (simp -dsimp (disch := omega) only [↓bp0, bd0, bd_LK, evStore, evRange, wrapS h2 (show l.known.length ≤ 9223372036854775807 by omega), hE2, hE3, simprocAttr]; done) | simp -dsimp [evl, putN, i64, u32, bl, encL, encB, encLL, wrapS h2 (show l.known.length ≤ 9223372036854775807 by omega), hE2, hE3])
    | some n =>
      rw [hc] at hfp
      have hM2 := hM.old hc
      rw [← htk] at hM2
      try simp -dsimp (disch := omega) only [↓bp0, bd0, bd_LK, evStore, evRange, hx, tk2, hE2, hE3, evMapPut, keyS, hfp, simprocAttr]
      refine ⟨_, _, ?_, ?_, i + 1, id, nx' + 1, clock, _, h2, hid, by omega, hM2, rfl, rfl⟩
      · omega
      · refine weak_ofP hfr (by first | (simp -dsimp (disch := omega) only [↓bp0, bd0, bd_LK, evStore, evRange, wrapS h2 (show l.known.length ≤ 9223372036854775807 by omega), hE2, hE3, simprocAttr]; done) | simp -dsimp [evl, putN, i64, u32, bl, encL, encB, encLL, wrapS h2 (show l.known.length ≤ 9223372036854775807 by omega), hE2, hE3]) (by first | (simp -dsimp (disch := omega) only [↓bp0, bd0, bd_LK, evStore, evRange, wrapS h2 (show l.known.length ≤ 9223372036854775807 by omega), hE2, hE3, simprocAttr]; done) | simp -dsimp [evl, putN, i64, u32, bl, encL, encB, encLL, wrapS h2 (show l.known.length ≤ 9223372036854775807 by omega), hE2, hE3]) (by (try simp -dsimp only [st_put_σ]); repeat (first | exact Agr.rfl' | refine Agr.put ?_ (by omega) | exact Agr.ov (by simp only [geL]; omega))) (by first | (simp -dsimp (disch := omega) only [↓bp0, bd0, bd_LK, evStore, evRange, wrapS h2 (show l.known.length ≤ 9223372036854775807 by omega), hE2, hE3, simprocAttr]; done) | simp -dsimp [evl, putN, i64, u32, bl, encL, encB, encLL, wrapS h2 (show l.known.length ≤ 9223372036854775807 by omega), hE2, hE3])
  · rw [List.take_of_length_le (by omega)] at hM
    simp -dsimp (disch := omega) only [↓bp0, bd0, bd_LK, evStore, evRange, stQ, resL, tupOf, List.toList_toArray, Tryd.f49, simprocAttr]
    exact ⟨_, _, .refl _, id, kvs, clock, hid, hid2, rfl, rfl, hM⟩
/-! ### states -/
def stC (f : Str → Int) (es : List Ev) : List PV := (seenL f es ++ inL f es).map fun b => .lit (.bool b)
theorem stC_len (f : Str → Int) (es : List Ev) : (stC f es).length = 60 := by simp [stC, seenL, inL]
theorem stC_seen {f : Str → Int} {es : List Ev} {n : Nat} (h : n < 30) : (stC f es)[n]? = some (.lit (.bool (lastK f es n).isSome)) := by
  rw [stC, List.getElem?_map, List.getElem?_append_left (by rw [seenL_len]; exact h), seenL_get h]; rfl
theorem stC_in {f : Str → Int} {es : List Ev} {n : Nat} (h : n < 30) : (stC f es)[30 + n]? = some (.lit (.bool (inB f es n))) := by
  rw [stC, List.getElem?_map, List.getElem?_append_right (by rw [seenL_len]; omega), seenL_len, show 30 + n - 30 = n from by omega, inL_get h]; rfl
theorem d_allow (f : Str → Int) (es : List Ev) (kind : Int) (c : Nat) (hc : c < 30) : CallSpec cx 57 [.cptr (stC f es), u8 kind, i64 c] (i64 (alwC f es kind c)) := by
  have hs := stC_seen (f := f) (es := es) hc
  have hi := stC_in (f := f) (es := es) hc
  have hs' : (stC f es)[0 + c]? = some (.lit (.bool (lastK f es c).isSome)) := by rw [Nat.zero_add]; exact hs
  refine callSpec_of_vc Tryd.func57 rfl (by decide) (by kernel_rfl) (Nat.le_of_ble_eq_true rfl) ?_
  cases h1 : decide (kind < 1)
  case true =>
    simp -dsimp (disch := omega) only [↓bp0, bd0, bd_LK, evStore, evRange, retQ, resL, finL, newL, flat, tupOf, List.toList_toArray, Tryd.f57, h1, simprocAttr]
    refine leT_one (int_eq ?_) (by simp)
    rw [alwC, if_pos (.inl (of_decide_eq_true h1))]
  cases h2 : decide ((4 : Int) < kind)
  case true =>
    simp -dsimp (disch := omega) only [↓bp0, bd0, bd_LK, evStore, evRange, retQ, resL, finL, newL, flat, tupOf, List.toList_toArray, Tryd.f57, h1, h2, simprocAttr]
    refine leT_one (int_eq ?_) (by simp)
    rw [alwC, if_pos (.inr (of_decide_eq_true h2))]
  have e1 : ¬ (kind < 1 ∨ 4 < kind) := by
    rw [not_or]; exact ⟨of_decide_eq_false h1, of_decide_eq_false h2⟩
  cases h3 : decide (kind = 3)
  case true =>
    have h3' := of_decide_eq_true h3
    cases hb : inB f es c
    · simp -dsimp (disch := omega) only [↓bp0, bd0, bd_LK, evStore, evRange, retQ, resL, finL, newL, flat, tupOf, List.toList_toArray, Tryd.f57, h1, h2, h3, hc, List.getElem?_drop, Nat.add_zero, List.drop_zero, Nat.mul_one, hi, hb, uUn, Option.bind_some, simprocAttr]
      refine leT_one (int_eq ?_) (by simp)
      rw [alwC, if_neg e1, if_pos h3', hb]; rfl
    · simp -dsimp (disch := omega) only [↓bp0, bd0, bd_LK, evStore, evRange, retQ, resL, finL, newL, flat, tupOf, List.toList_toArray, Tryd.f57, h1, h2, h3, hc, List.getElem?_drop, Nat.add_zero, List.drop_zero, Nat.mul_one, hi, hb, uUn, Option.bind_some, simprocAttr]
      refine leT_one (int_eq ?_) (by simp)
      rw [alwC, if_neg e1, if_pos h3', hb]; rfl
  have h3' := of_decide_eq_false h3
  cases hb : inB f es c
  case true =>
    simp -dsimp (disch := omega) only [↓bp0, bd0, bd_LK, evStore, evRange, retQ, resL, finL, newL, flat, tupOf, List.toList_toArray, Tryd.f57, h1, h2, h3, hc, List.getElem?_drop, Nat.add_zero, List.drop_zero, Nat.mul_one, hi, hb, uUn, Option.bind_some, simprocAttr]
    refine leT_one (int_eq ?_) (by simp)
    rw [alwC, if_neg e1, if_neg h3', hb]; rfl
  have e2 : alwC f es kind c = if kind = 1 ∧ (lastK f es c).isSome = true then 14 else if kind = 4 ∧ (lastK f es c).isSome = false then 36 else 0 := by
    rw [alwC, if_neg e1, if_neg h3', hb]; rfl
  cases h4 : decide (kind = 1)
  case true =>
    have h4' := of_decide_eq_true h4
    have h5 : decide (kind = 4) = false := decide_eq_false (by omega)
    cases hk : (lastK f es c).isSome
    · rw [hk] at hs'
      simp -dsimp (disch := omega) only [↓bp0, bd0, bd_LK, evStore, evRange, retQ, resL, finL, newL, flat, tupOf, List.toList_toArray, Tryd.f57, h1, h2, h3, h4, h5, hc, List.getElem?_drop, Nat.add_zero, List.drop_zero, Nat.mul_one, Nat.zero_add, hi, hs', hs, hk, hb, uUn, Option.bind_some, simprocAttr]
      refine leT_one (int_eq ?_) (by simp)
      rw [e2, hk]; simp; omega
    · rw [hk] at hs'
      simp -dsimp (disch := omega) only [↓bp0, bd0, bd_LK, evStore, evRange, retQ, resL, finL, newL, flat, tupOf, List.toList_toArray, Tryd.f57, h1, h2, h3, h4, h5, hc, List.getElem?_drop, Nat.add_zero, List.drop_zero, Nat.mul_one, Nat.zero_add, hi, hs', hs, hk, hb, uUn, Option.bind_some, simprocAttr]
      refine leT_one (int_eq ?_) (by simp)
      rw [e2, hk]; simp [h4']
  have h4' := of_decide_eq_false h4
  cases h5 : decide (kind = 4)
  · have h5' := of_decide_eq_false h5
    simp -dsimp (disch := omega) only [↓bp0, bd0, bd_LK, evStore, evRange, retQ, resL, finL, newL, flat, tupOf, List.toList_toArray, Tryd.f57, h1, h2, h3, h4, h5, hc, List.getElem?_drop, Nat.add_zero, List.drop_zero, Nat.mul_one, hi, hb, uUn, Option.bind_some, simprocAttr]
    refine leT_one (int_eq ?_) (by simp)
    rw [e2]; simp [h4', h5']
  have h5' := of_decide_eq_true h5
  cases hk : (lastK f es c).isSome
  · rw [hk] at hs'
    simp -dsimp (disch := omega) only [↓bp0, bd0, bd_LK, evStore, evRange, retQ, resL, finL, newL, flat, tupOf, List.toList_toArray, Tryd.f57, h1, h2, h3, h4, h5, hc, List.getElem?_drop, Nat.add_zero, List.drop_zero, Nat.mul_one, Nat.zero_add, hi, hs', hs, hk, hb, uUn, Option.bind_some, simprocAttr]
    refine leT_one (int_eq ?_) (by simp)
    rw [e2, hk]; simp [h4', h5']
  · rw [hk] at hs'
    simp -dsimp (disch := omega) only [↓bp0, bd0, bd_LK, evStore, evRange, retQ, resL, finL, newL, flat, tupOf, List.toList_toArray, Tryd.f57, h1, h2, h3, h4, h5, hc, List.getElem?_drop, Nat.add_zero, List.drop_zero, Nat.mul_one, Nat.zero_add, hi, hs', hs, hk, hb, uUn, Option.bind_some, simprocAttr]
    refine leT_one (int_eq ?_) (by simp)
    rw [e2, hk]; simp [h4', h5']
end Go.Ab
end

section
/- States: put, list. -/
set_option maxRecDepth 100000
set_option maxHeartbeats 8000000
namespace Go.Ab
open Go Go.Proofs
theorem bd_LL : type_of% (And.intro @evNext.eq_1 (And.intro @fld (And.intro @nit (And.intro @nxE (And.intro @evBin_seql (And.intro @evBin_sneq (And.intro @str.eq_1 (And.intro @u8.eq_1 (And.intro @encBrs.eq_1 (And.intro @cBr.eq_1 (And.intro @encLdg.eq_1 (And.intro @encKws.eq_1 (And.intro @cKw.eq_1 (And.intro @encEvss.eq_1 (And.intro @cEv.eq_1 (And.intro @List.set_cons_succ.{0} (And.intro @List.getElem?_cons_zero.{0} (And.intro @List.getElem?_cons_succ.{0} (@List.length_set.{0}))))))))))))))))))) := And.intro @evNext.eq_1 (And.intro @fld (And.intro @nit (And.intro @nxE (And.intro @evBin_seql (And.intro @evBin_sneq (And.intro @str.eq_1 (And.intro @u8.eq_1 (And.intro @encBrs.eq_1 (And.intro @cBr.eq_1 (And.intro @encLdg.eq_1 (And.intro @encKws.eq_1 (And.intro @cKw.eq_1 (And.intro @encEvss.eq_1 (And.intro @cEv.eq_1 (And.intro @List.set_cons_succ.{0} (And.intro @List.getElem?_cons_zero.{0} (And.intro @List.getElem?_cons_succ.{0} (@List.length_set.{0}))))))))))))))))))
theorem stC_put {f : Str → Int} {es : List Ev} {x : Ev} {c : Nat} (h : f x.chg = c) (hc : c < 30) : ((stC f es).set c (.lit (.bool true))).set (30 + c) (.lit (.bool (!decide (x.kind = 3)))) = stC f (es ++ [x]) := by
  have h1 := seenL_put (f := f) (es := es) (x := x) (by omega)
  have h2 := inL_put (f := f) (es := es) (x := x) (by omega)
  have h3 : (f x.chg).toNat = c := by omega
  rw [h3] at h1 h2
  have e : (!decide (x.kind = 3)) = decide (x.kind ≠ 3) := by simp
  rw [show stC f (es ++ [x]) = ((seenL f es).set c true ++ (inL f es).set c (decide (x.kind ≠ 3))).map fun b => .lit (.bool b) from by rw [h1, h2, stC], e]
  simp only [stC, List.map_append, List.map_set]
  rw [List.set_append_left _ _ (by simp [seenL]; exact hc), List.set_append_right _ _ (by simp [seenL])]
  simp [seenL]
theorem d_put (f : Str → Int) (es : List Ev) (x : Ev) (c : Nat) (h : f x.chg = c) (hc : c < 30) (σ : Store) (nx id ver : Nat) (hσ : σ id = some (.row ver 60 [stC f es] false)) :
    StSpec cx 58 [.ptr id ver 0 0, u8 x.kind, i64 c] σ nx (fun r σ' nx' => r = .tup [] ∧ nx' = nx ∧ σ' = σ.put id (.row ver 60 [stC f (es ++ [x])] false)) := by
  have hl := stC_len f es
  have hp := stC_put (es := es) h hc
  have hl2 : 30 + c + 1 ≤ 60 := by omega
  have hl3 : c + 1 ≤ 60 := by omega
  refine stSpec_of_vc Tryd.func58 rfl (by decide) (by kernel_rfl) (Nat.le_of_ble_eq_true rfl) ?_
  simp -dsimp (disch := omega) only [↓bp0, bd0, bd_LL, evStore, evRange, stQ, resL, tupOf, List.toList_toArray, Tryd.f58, hσ, hc, hl, hl2, hl3, Nat.mul_one, Nat.zero_add, Nat.add_zero, List.length_set, put_put, hp, simprocAttr]
  exact ⟨_, _, .refl _, rfl, rfl⟩
theorem d_list (f : Str → Int) (es : List Ev) : CallSpec cx 65 [.cptr (stC f es)] (newI (lst 0 (inL f es))) := by
  have hl := stC_len f es
  have hT : ((stC f es).drop 30).take 30 = (inL f es).map fun b => .lit (.bool b) := by
    rw [stC, List.map_append, List.drop_append_of_le_length (by simp [seenL]), List.drop_of_length_le (by simp [seenL]), List.nil_append, List.take_of_length_le (by simp [inL])]
  have hl30 := inL_len (f := f) es
  generalize inL f es = L at hT hl30
  refine callSpec_of_vc Tryd.func65 rfl (by decide) (by kernel_rfl) (Nat.le_of_ble_eq_true rfl) ?_
  try simp -dsimp (disch := omega) only [↓bp0, bd0, bd_LL, evStore, evRange, Tryd.f65, hT, List.length_drop, hl, simprocAttr]
  refine LoopQ.ghost 3 1 (by rfl) ?_
  refine LoopQ.rule (fun m st => ∃ i id ver nx : Nat, i ≤ 30 ∧ id < nx ∧ m = 30 - i ∧
    st = ⟨mkE [(3, .own id ver 0 (lst 0 (L.take i)).length false), (9, .agg (L.map fun b => .lit (.bool b))), (10, i64 i)], mkS [(id, .row ver 1 ((lst 0 (L.take i)).map fun n => [i64 n]) false)], nx⟩) _ _ (weak_of ?_)
    ⟨0, 0, 0, 1, by omega, by omega, rfl, rfl⟩ ?_
  · first | (simp -dsimp (disch := omega) only [↓bp0, bd0, bd_LL, evStore, evRange, ghR, lst, simprocAttr]; done) | simp -dsimp [evl, putN, i64, u32, bl, encL, encB, encLL, ghR, lst]
  rintro m st ⟨i, id, ver, nx, hi, hid, rfl, rfl⟩
  have hE2 : (id = nx) = False := by simp; omega
  have hE3 : (nx = id) = False := by simp; omega
  have hlen := lst_len (L.take i) 0
  rw [List.length_take] at hlen
  have hbd : ((lst 0 (L.take i)).length + 1) * 8 ≤ 140737488355328 := by omega
  try simp -dsimp (disch := omega) only [↓bp0, bd0, bd_LL, evStore, evRange, simprocAttr]
  refine onC_ilt (fun h2 => ?_) (fun h2 => ?_)
  · have h2 : i < 30 := by omega
    obtain ⟨b, hx, hxm⟩ := get_of_lt (l := L) (show i < L.length by omega)
    have hs := take_succ hx
    have hls := lst_snoc (L.take i) 0 b
    rw [List.length_take, Nat.min_eq_left (by omega), Nat.zero_add] at hls
    cases b
    · try simp -dsimp (disch := omega) only [↓bp0, bd0, bd_LL, evStore, evRange, hx, h2, evIdx, partP, Nat.mul_one, simprocAttr]
      refine ⟨_, _, ?_, weak_of ?_, i + 1, id, ver, nx, by omega, hid, rfl, rfl⟩
      · omega
      · first | (simp -dsimp (disch := omega) only [↓bp0, bd0, bd_LL, evStore, evRange, wrapS h2 (show 30 ≤ 9223372036854775807 by omega), hs, hls, hE2, hE3, simprocAttr]; done) | simp -dsimp [evl, putN, i64, u32, bl, encL, encB, encLL, wrapS h2 (show 30 ≤ 9223372036854775807 by omega), hs, hls, hE2, hE3]
    · try simp -dsimp (disch := omega) only [↓bp0, bd0, bd_LL, evStore, evRange, hx, h2, evIdx, partP, Nat.mul_one, hE2, hE3, hbd, simprocAttr]
      refine ⟨_, _, ?_, weak_of ?_, i + 1, id, ver + 1, nx + 1, by omega, by omega, rfl, rfl⟩
      · omega
      · first | (simp -dsimp (disch := omega) only [↓bp0, bd0, bd_LL, evStore, evRange, wrapS h2 (show 30 ≤ 9223372036854775807 by omega), hs, hls, hE2, hE3, simprocAttr]; done) | simp -dsimp [evl, putN, i64, u32, bl, encL, encB, encLL, wrapS h2 (show 30 ≤ 9223372036854775807 by omega), hs, hls, hE2, hE3]
  · rw [List.take_of_length_le (by omega)]
    simp -dsimp (disch := omega) only [↓bp0, bd0, bd_LL, evStore, evRange, retQ, resL, finL, newL, flat, tupOf, List.toList_toArray, Tryd.f65, simprocAttr]
    exact leT_one .rfl' (by simp)
end Go.Ab
end
