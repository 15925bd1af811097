/- States behind events. -/
import Derived.Test.YtgcodedanljhpaaDoorLL
set_option linter.unusedSimpArgs false
set_option linter.unusedVariables false
section
set_option maxRecDepth 100000
set_option maxHeartbeats 8000000
namespace Go.Ab
open Go Go.Proofs
theorem bd_LM : type_of% (And.intro @evNext.eq_1 (And.intro @fld (And.intro @nit (And.intro @nxE (And.intro @ovR (And.intro @evBin_seql (And.intro @evBin_sneq (And.intro @str.eq_1 (And.intro @u8.eq_1 (And.intro @encBrs.eq_1 (And.intro @cBr.eq_1 (And.intro @encLdg.eq_1 (And.intro @encKws.eq_1 (And.intro @cKw.eq_1 (And.intro @encEvss.eq_1 (And.intro @encEvs.eq_1 (And.intro @cEv.eq_1 (And.intro @encMks.eq_1 (And.intro @cMk.eq_1 (And.intro @tk2 (And.intro @tk3 (And.intro @List.set_cons_succ.{0} (And.intro @List.getElem?_cons_zero.{0} (And.intro @List.getElem?_cons_succ.{0} (@List.length_set.{0}))))))))))))))))))))))))) := And.intro @evNext.eq_1 (And.intro @fld (And.intro @nit (And.intro @nxE (And.intro @ovR (And.intro @evBin_seql (And.intro @evBin_sneq (And.intro @str.eq_1 (And.intro @u8.eq_1 (And.intro @encBrs.eq_1 (And.intro @cBr.eq_1 (And.intro @encLdg.eq_1 (And.intro @encKws.eq_1 (And.intro @cKw.eq_1 (And.intro @encEvss.eq_1 (And.intro @encEvs.eq_1 (And.intro @cEv.eq_1 (And.intro @encMks.eq_1 (And.intro @cMk.eq_1 (And.intro @tk2 (And.intro @tk3 (And.intro @List.set_cons_succ.{0} (And.intro @List.getElem?_cons_zero.{0} (And.intro @List.getElem?_cons_succ.{0} (@List.length_set.{0}))))))))))))))))))))))))
theorem bldBr : ∀ a, evBuild cx 62 [(0, .lit a)] = some (.agg [.lit a, .lit (.string ⟨#[]⟩), .lit (.int .i64 0)]) := fun _ => by kernel_rfl
theorem bchk1 (s : Str) : bchk [⟨s, ⟨#[]⟩, 0⟩] = if nameB s then 0 else 8 := by
  have h1 : idx [⟨s, ⟨#[]⟩, 0⟩] s = 0 := by simp [idx, fi]
  have hd : dupB [⟨s, ⟨#[]⟩, 0⟩] = false := by
    rw [dupB, List.any_eq_false]
    intro i hi
    simp at hi; subst hi
    simp [h1]
  have hb : anyI (brB [⟨s, ⟨#[]⟩, 0⟩]) [⟨s, ⟨#[]⟩, 0⟩] = !nameB s := by
    rw [Bool.eq_iff_iff, anyI_iff]
    constructor
    · rintro ⟨i, b, hb, h⟩
      have : i = 0 := by have := (List.getElem?_eq_some_iff.1 hb).1; simpa using this
      subst this
      simp at hb; subst hb
      simpa [brB] using h
    · intro h
      exact ⟨0, _, rfl, by simpa [brB] using h⟩
  rw [bchk, if_neg (by simp), if_neg (by simp [hd]), hb]
  cases nameB s <;> simp
theorem d_lName (s : Str) : CallSpec cx 50 [str s] (bl (nameB s)) := by
  refine callSpec_of_vc Tryd.func50 rfl (by decide) (by kernel_rfl) (Nat.le_of_ble_eq_true rfl) ?_
  try simp -dsimp (disch := omega) only [↓bp0, bd0, bd_LM, evStore, evRange, Tryd.f50, bldBr, simprocAttr]
  refine CallQ.imm (d_Check [⟨s, ⟨#[]⟩, 0⟩] (by simp)) (by rfl) (by rfl) (by first | exact .inl rfl | exact .inr rfl | exact .inr scalB | exact .inr scalI | exact .inr scalT | exact .inr scalM | exact .inr scalMT) ?_
  simp -dsimp (disch := omega) only [↓bp0, bd0, bd_LM, evStore, evRange, retQ, resL, finL, newL, flat, tupOf, List.toList_toArray, Tryd.f50, bchk1, simprocAttr]
  refine leT_one (bl_eq ?_) (by simp)
  cases nameB s <;> rfl
theorem d_lCheck1 (s : List Ev) : CallSpec cx 53 [encEvs s] (bl (decide (40 < s.length))) := by
  refine callSpec_of_vc Tryd.func53 rfl (by decide) (by kernel_rfl) (Nat.le_of_ble_eq_true rfl) ?_
  simp -dsimp (disch := omega) only [↓bp0, bd0, bd_LM, evStore, evRange, retQ, resL, finL, newL, flat, tupOf, List.toList_toArray, Tryd.f53, simprocAttr]
  exact leT_one (bl_eq (by rw [decide_eq_decide]; omega)) (by simp)
theorem le_index (l : List (List Ev)) (hl : l.length ≤ 9223372036854775807) (f : Nat) (cap : List PV) (hn : nofrs cap = true) (P : List Ev → Bool) (h : ∀ k ∈ l, CallSpec cx f ([encEvs k] ++ cap) (bl (P k))) :
    CallSpec cx 83 [encEvss l, .clo (.func f) [] cap] (i64 (fi P l)) := by
  refine callSpec_of_vc Tryd.func83 rfl (by decide) (by kernel_rfl) (Nat.le_of_ble_eq_true rfl) ?_
  try simp -dsimp (disch := omega) only [↓bp0, bd0, bd_LM, evStore, evRange, Tryd.f83, encEvss, encEvs, simprocAttr]
  refine LoopQ.rule (fun m st => ∃ i : Nat, i ≤ l.length ∧ (∀ j, j < i → ∀ x, l[j]? = some x → P x = false) ∧ m = l.length - i ∧
    st = ⟨mkE [(0, encEvss l), (1, .clo (.func f) [] cap), (7, i64 l.length), (8, i64 i)], mkS [], 0⟩) _ _ (weak_of ?_) ⟨0, by omega, by simp, rfl, rfl⟩ ?_
  · first | (simp -dsimp (disch := omega) only [↓bp0, bd0, bd_LM, evStore, evRange, encEvss, encEvs, simprocAttr]; done) | simp -dsimp [evl, putN, i64, u32, bl, encL, encB, encLL, encEvss, encEvs]
  rintro m st ⟨i, hi, hpre, rfl, rfl⟩
  try simp -dsimp (disch := omega) only [↓bp0, bd0, bd_LM, evStore, evRange, encEvss, encEvs, simprocAttr]
  refine onC_nlt (fun h2 => ?_) (fun h2 => ?_)
  · obtain ⟨x, hx, hxm⟩ := get_of_lt h2
    try simp -dsimp (disch := omega) only [↓bp0, bd0, bd_LM, evStore, evRange, hx, encEvss, encEvs, simprocAttr]
    refine CallQ.imm (h x hxm) (by rfl) (drcs_nofr _ _ (by simp [nofrs, nofr, i64, encL, hn, encEvss, encEvs])) (.inr rfl) ?_
    try simp -dsimp (disch := omega) only [↓bp0, bd0, bd_LM, evStore, evRange, simprocAttr]
    refine onC_bool (fun h3 => ?_) (fun h3 => ?_)
    · simp -dsimp (disch := omega) only [↓bp0, bd0, bd_LM, evStore, evRange, retQ, resL, finL, newL, flat, tupOf, List.toList_toArray, Tryd.f83, simprocAttr]
      rw [fi_at _ _ _ _ hx hpre h3]
      exact leT_one .rfl' (by simp)
    try simp -dsimp (disch := omega) only [↓bp0, bd0, bd_LM, evStore, evRange, simprocAttr]
    refine ⟨_, _, ?_, weak_of ?_, i + 1, h2, ?_, rfl, rfl⟩
    · omega
    · first | (simp -dsimp (disch := omega) only [↓bp0, bd0, bd_LM, evStore, evRange, wrapS h2 hl, encEvss, encEvs, simprocAttr]; done) | simp -dsimp [evl, putN, i64, u32, bl, encL, encB, encLL, wrapS h2 hl, encEvss, encEvs]
    · intro j hj y hy
      by_cases hji : j = i
      · subst hji; rw [hx] at hy; cases hy; exact h3
      · exact hpre j (by omega) y hy
  · simp -dsimp (disch := omega) only [↓bp0, bd0, bd_LM, evStore, evRange, retQ, resL, finL, newL, flat, tupOf, List.toList_toArray, Tryd.f83, simprocAttr]
    rw [fi_none _ _ fun j y hy => hpre j (by have := (List.getElem?_eq_some_iff.1 hy).1; omega) y hy]
    exact leT_one .rfl' (by simp)
theorem le_contains (l : List (List Ev)) (hl : l.length ≤ 9223372036854775807) (f : Nat) (cap : List PV) (hn : nofrs cap = true) (P : List Ev → Bool) (h : ∀ k ∈ l, CallSpec cx f ([encEvs k] ++ cap) (bl (P k))) :
    CallSpec cx 52 [encEvss l, .clo (.func f) [] cap] (bl (l.any P)) := by
  refine callSpec_of_vc Tryd.func52 rfl (by decide) (by kernel_rfl) (Nat.le_of_ble_eq_true rfl) ?_
  try simp -dsimp (disch := omega) only [↓bp0, bd0, bd_LM, evStore, evRange, Tryd.f52, encEvss, encEvs, simprocAttr]
  refine CallQ.imm (le_index l hl f cap hn P h) (by rfl) (drcs_nofr _ _ (by simp [nofrs, nofr, i64, encL, hn, encEvss, encEvs])) (.inr rfl) ?_
  simp -dsimp (disch := omega) only [↓bp0, bd0, bd_LM, evStore, evRange, retQ, resL, finL, newL, flat, tupOf, List.toList_toArray, Tryd.f52, simprocAttr]
  refine leT_one (bl_eq ?_) (by simp)
  rw [Bool.eq_iff_iff, decide_eq_true_iff, ← fi_any]
theorem ClsM.find {known : List Kw} {kvs : List (Value × PV × Nat)} (h : ClsM known kvs) (hn : nodupB known = true) {s : Str} (hk : (clsOf known s).isSome = true) : findP .string (.string s) kvs = some (some (.lit (.int .i64 (cls0 known s)))) := by
  have : findP .string (.string s) kvs = some ((clsLast known s).map fun n => .lit (.int .i64 n)) := h.map s
  rw [this, cls_nodup hn]
  unfold cls0
  cases hc : clsOf known s with
  | none => rw [hc] at hk; cases hk
  | some n => rfl
theorem tzSt : tz cx.P 131 = some (.agg (List.replicate 60 (.lit (.bool false)))) := by kernel_rfl
theorem stC_nil {f : Str → Int} : stC f [] = List.replicate 60 (.lit (.bool false)) := by rw [stC, seenL_nil, inL_nil]; rfl
theorem onesSt : (List.replicate 60 (PV.lit (.bool false))).all PV.one = true := rfl
structure POk (l : Ldg) : Prop where
  known : l.known.length ≤ 30
  nodup : nodupB l.known = true
  kw : l.known.any kwB = false
  len : l.evs.length = l.brs.length
  evs : ∀ s ∈ l.evs, s.length ≤ 40
  fits : bfits l.brs (cnts l) = 0
theorem POk.vok {l : Ldg} (h : POk l) : VOk l.brs (cnts l) := vok_of h.fits
theorem POk.cls {l : Ldg} (h : POk l) (s : Str) : ∃ c : Nat, cls0 l.known s = c ∧ c < 30 := by
  have := cls0_range h.kw s
  exact ⟨(cls0 l.known s).toNat, by omega, by omega⟩
theorem POk.cnt {l : Ldg} (h : POk l) : (cnts l).length = l.evs.length := by simp [cnts]
theorem seenE_take (l : Ldg) (v : List (Nat × Nat)) (k : Nat) : seenE l (v.take k) = (seenE l v).take k := by simp [seenE, List.map_take]
def StQ (f : Str → Int) (es : List Ev) (σ : Store) (nx : Nat) (r : PV) (σ' : Store) (nx' : Nat) : Prop := ∃ id ver, nx ≤ id ∧ id < nx' ∧ r = .ptr id ver 0 0 ∧ σ' = σ.put id (.row ver 60 [stC f es] false)
theorem d_folded (l : Ldg) (h : POk l) (v : List (Nat × Nat)) (hv : ∀ m ∈ v, ∃ c, (cnts l)[m.1]? = some c ∧ (m.2 : Int) < c) (hk : ∀ e ∈ seenE l v, (clsOf l.known e.chg).isSome = true) (hl : v.length ≤ 2^40) (σ : Store) (nx : Nat) :
    StSpec cx 64 [encLdg l, encMks v] σ nx (StQ (cls0 l.known) (seenE l v) σ nx) := by
  refine StSpec.fresh (by kernel_rfl) fun hfr => ?_
  refine stSpec_of_vc Tryd.func64 rfl (by decide) (by kernel_rfl) (Nat.le_of_ble_eq_true rfl) ?_
  try simp -dsimp (disch := omega) only [↓bp0, bd0, bd_LM, evStore, evRange, Tryd.f64, tzSt, onesSt, simprocAttr]
  refine CallQ.inm (d_classes l (by have := h.known; omega) _ _) (by rfl) ?_
  rintro r σ' nx1 ⟨idm, kvs, clock, hm1, hm2, rfl, rfl, hM⟩
  try simp -dsimp (disch := omega) only [↓bp0, bd0, bd_LM, evStore, evRange, simprocAttr]
  simp only [St.put] at hm1
  refine LoopQ.rule (fun m st => ∃ (k nx' : Nat), k ≤ v.length ∧ idm < nx' ∧ m = v.length - k ∧
    st = ⟨mkE [(2, .ptr nx 0 0 0), (5, .ptr (nx + 1) 0 0 0), (6, .mp idm), (13, encMks v), (14, i64 v.length), (15, i64 k)],
      ovS [(nx, .row 0 3 [[encKws l.known, encBrs l.brs, encEvss l.evs]] false), (nx + 1, .row 0 60 [stC (cls0 l.known) ((seenE l v).take k)] false), (idm, .map kvs clock false)] σ, nx'⟩) _ _ ?_
    ⟨0, nx1, by omega, hm2, rfl, rfl⟩ ?_
  · refine weak_ofV hfr (by first | (simp -dsimp (disch := omega) only [↓bp0, bd0, bd_LM, evStore, evRange, (by simp; omega : (idm = nx) = False), (by simp; omega : (idm = nx + 1) = False), (by simp; omega : (nx = idm) = False), (by simp; omega : (nx + 1 = idm) = False), stC_nil, List.take_zero, simprocAttr]; done) | simp -dsimp [evl, putN, i64, u32, bl, encL, encB, encLL, (by simp; omega : (idm = nx) = False), (by simp; omega : (idm = nx + 1) = False), (by simp; omega : (nx = idm) = False), (by simp; omega : (nx + 1 = idm) = False), stC_nil, List.take_zero]) (by first | (simp -dsimp (disch := omega) only [↓bp0, bd0, bd_LM, evStore, evRange, (by simp; omega : (idm = nx) = False), (by simp; omega : (idm = nx + 1) = False), (by simp; omega : (nx = idm) = False), (by simp; omega : (nx + 1 = idm) = False), stC_nil, List.take_zero, simprocAttr]; done) | simp -dsimp [evl, putN, i64, u32, bl, encL, encB, encLL, (by simp; omega : (idm = nx) = False), (by simp; omega : (idm = nx + 1) = False), (by simp; omega : (nx = idm) = False), (by simp; omega : (nx + 1 = idm) = False), stC_nil, List.take_zero]) (by (try simp -dsimp only [st_put_σ]); repeat (first | exact Agr.rfl' | refine Agr.put ?_ (by omega) | exact Agr.ov (by simp only [geL]; omega))) (by first | (simp -dsimp (disch := omega) only [↓bp0, bd0, bd_LM, evStore, evRange, (by simp; omega : (idm = nx) = False), (by simp; omega : (idm = nx + 1) = False), (by simp; omega : (nx = idm) = False), (by simp; omega : (nx + 1 = idm) = False), stC_nil, List.take_zero, simprocAttr]; done) | simp -dsimp [evl, putN, i64, u32, bl, encL, encB, encLL, (by simp; omega : (idm = nx) = False), (by simp; omega : (idm = nx + 1) = False), (by simp; omega : (nx = idm) = False), (by simp; omega : (nx + 1 = idm) = False), stC_nil, List.take_zero])
  rintro m st ⟨k, nx', hkl, hid, rfl, rfl⟩
  have hm0 : nx + 2 ≤ idm := hm1
  have hE1 : (idm = nx) = False := by simp; omega
  have hE2 : (idm = nx + 1) = False := by simp; omega
  have hE3 : (nx = idm) = False := by simp; omega
  have hE4 : (nx + 1 = idm) = False := by simp; omega
  have hE5 : (idm = nx') = False := by simp; omega
  have hE6 : (nx' = idm) = False := by simp; omega
  have hE7 : (nx = nx') = False := by simp; omega
  have hE8 : (nx' = nx) = False := by simp; omega
  have hE9 : (nx + 1 = nx') = False := by simp; omega
  have hEa : (nx' = nx + 1) = False := by simp; omega
  have hEb : (idm = nx' + 1) = False := by simp; omega
  have hEc : (nx' + 1 = idm) = False := by simp; omega
  have hEd : (nx = nx' + 1) = False := by simp; omega
  have hEe : (nx' + 1 = nx) = False := by simp; omega
  try simp -dsimp (disch := omega) only [↓bp0, bd0, bd_LM, evStore, evRange, simprocAttr]
  refine onC_nlt (fun h2 => ?_) (fun h2 => ?_)
  · obtain ⟨⟨j, e⟩, hx, hxm⟩ := get_of_lt h2
    obtain ⟨c0, hc0, hlt⟩ := hv _ hxm
    obtain ⟨own, x, hj, he, hev, hxo⟩ := evAt_get hc0 hlt
    simp only at hj he
    have hsx : (seenE l v)[k]? = some x := by simp only [seenE, List.getElem?_map, hx, Option.map_some, hev]
    have hfp := hM.find h.nodup (hk x (List.mem_of_getElem? hsx))
    obtain ⟨c, hc, hc30⟩ := h.cls x.chg
    rw [hc] at hfp
    have hts := take_succ hsx
    try simp -dsimp (disch := omega) only [↓bp0, bd0, bd_LM, evStore, evRange, hx, hE1, hE2, hE3, hE4, hE5, hE6, hE7, hE8, hE9, hEa, hEb, hEc, hEd, hEe, simprocAttr]
    refine vc_regJ (fun τ => τ nx = some (.row 0 3 [[encKws l.known, encBrs l.brs, encEvss l.evs]] false) ∧ τ nx' = some (.row 0 2 [cMk (j, e)] false)) [0, 1, 2, 3, 4, 5, 6, 7, 8, 9] [] (by kernel_rfl) (by kernel_rfl) ?_ ?_
    · exact ⟨(by simp -dsimp (disch := omega) only [↓bp0, bd0, bd_LM, evStore, evRange, hE1, hE2, hE3, hE4, hE5, hE6, hE7, hE8, hE9, hEa, hEb, hEc, hEd, hEe, simprocAttr]), (by simp -dsimp (disch := omega) only [↓bp0, bd0, bd_LM, evStore, evRange, hE1, hE2, hE3, hE4, hE5, hE6, hE7, hE8, hE9, hEa, hEb, hEc, hEd, hEe, simprocAttr])⟩
    try simp -dsimp (disch := omega) only [↓bp0, bd0, bd_LM, evStore, evRange, vcj, implies_true, hE1, hE2, hE3, hE4, hE5, hE6, hE7, hE8, hE9, hEa, hEb, hEc, hEd, hEe, simprocAttr]
    refine ⟨fun τ hτ => by simp -dsimp (disch := omega) only [↓bp0, bd0, bd_LM, evStore, evRange, hτ.1, simprocAttr], ?_⟩
    try simp -dsimp (disch := omega) only [↓bp0, bd0, bd_LM, evStore, evRange, vcj, implies_true, hE1, hE2, hE3, hE4, hE5, hE6, hE7, hE8, hE9, hEa, hEb, hEc, hEd, hEe, simprocAttr]
    refine ⟨fun τ hτ => by simp -dsimp (disch := omega) only [↓bp0, bd0, bd_LM, evStore, evRange, hτ.2, simprocAttr], ?_⟩
    try simp -dsimp (disch := omega) only [↓bp0, bd0, bd_LM, evStore, evRange, vcj, implies_true, hj, hE1, hE2, hE3, hE4, hE5, hE6, hE7, hE8, hE9, hEa, hEb, hEc, hEd, hEe, simprocAttr]
    refine ⟨fun τ hτ => by simp -dsimp (disch := omega) only [↓bp0, bd0, bd_LM, evStore, evRange, hτ.2, simprocAttr], ?_⟩
    try simp -dsimp (disch := omega) only [↓bp0, bd0, bd_LM, evStore, evRange, vcj, implies_true, hj, he, hE1, hE2, hE3, hE4, hE5, hE6, hE7, hE8, hE9, hEa, hEb, hEc, hEd, hEe, simprocAttr]
    try simp -dsimp (disch := omega) only [↓bp0, bd0, bd_LM, evStore, evRange, hx, hj, he, hE1, hE2, hE3, hE4, hE5, hE6, hE7, hE8, hE9, hEa, hEb, hEc, hEd, hEe, evLookup, keyS, hfp, simprocAttr]
    refine CallQ.inm (d_put (cls0 l.known) ((seenE l v).take k) x c hc hc30 _ _ (nx + 1) 0 (by simp -dsimp (disch := omega) only [↓bp0, bd0, bd_LM, evStore, evRange, hE1, hE2, hE3, hE4, hE5, hE6, hE7, hE8, hE9, hEa, hEb, hEc, hEd, hEe, simprocAttr])) (by rfl) ?_
    rintro r σ' nx2 ⟨rfl, rfl, rfl⟩
    rw [← hts]
    try simp -dsimp (disch := omega) only [↓bp0, bd0, bd_LM, evStore, evRange, simprocAttr]
    refine ⟨_, _, ?_, ?_, k + 1, nx' + 2, h2, by omega, rfl, rfl⟩
    · omega
    · refine weak_ofV hfr (by first | (simp -dsimp (disch := omega) only [↓bp0, bd0, bd_LM, evStore, evRange, hE1, hE2, hE3, hE4, hE5, hE6, hE7, hE8, hE9, hEa, hEb, hEc, hEd, hEe, wrapS h2 (show v.length ≤ 9223372036854775807 by omega), simprocAttr]; done) | simp -dsimp [evl, putN, i64, u32, bl, encL, encB, encLL, hE1, hE2, hE3, hE4, hE5, hE6, hE7, hE8, hE9, hEa, hEb, hEc, hEd, hEe, wrapS h2 (show v.length ≤ 9223372036854775807 by omega)]) (by first | (simp -dsimp (disch := omega) only [↓bp0, bd0, bd_LM, evStore, evRange, hE1, hE2, hE3, hE4, hE5, hE6, hE7, hE8, hE9, hEa, hEb, hEc, hEd, hEe, wrapS h2 (show v.length ≤ 9223372036854775807 by omega), simprocAttr]; done) | simp -dsimp [evl, putN, i64, u32, bl, encL, encB, encLL, hE1, hE2, hE3, hE4, hE5, hE6, hE7, hE8, hE9, hEa, hEb, hEc, hEd, hEe, wrapS h2 (show v.length ≤ 9223372036854775807 by omega)]) (by (try simp -dsimp only [st_put_σ]); repeat (first | exact Agr.rfl' | refine Agr.put ?_ (by omega) | exact Agr.ov (by simp only [geL]; omega))) (by first | (simp -dsimp (disch := omega) only [↓bp0, bd0, bd_LM, evStore, evRange, hE1, hE2, hE3, hE4, hE5, hE6, hE7, hE8, hE9, hEa, hEb, hEc, hEd, hEe, wrapS h2 (show v.length ≤ 9223372036854775807 by omega), simprocAttr]; done) | simp -dsimp [evl, putN, i64, u32, bl, encL, encB, encLL, hE1, hE2, hE3, hE4, hE5, hE6, hE7, hE8, hE9, hEa, hEb, hEc, hEd, hEe, wrapS h2 (show v.length ≤ 9223372036854775807 by omega)])
  · have hkv : k = v.length := by omega
    have htk : (seenE l v).take k = seenE l v := List.take_of_length_le (by simp [seenE]; omega)
    rw [htk]
    simp -dsimp (disch := omega) only [↓bp0, bd0, bd_LM, evStore, evRange, stQ, resL, tupOf, List.toList_toArray, Tryd.f64, simprocAttr]
    exact ⟨_, _, weakσ_of hfr (by simp -dsimp (disch := omega) only [↓bp0, bd0, bd_LM, evStore, evRange, hE1, hE2, hE3, hE4, simprocAttr]) (by (try simp -dsimp only [st_put_σ]); repeat (first | exact Agr.rfl' | refine Agr.put ?_ (by omega) | exact Agr.ov (by simp only [geL]; omega))) (Nat.le_refl _), nx + 1, 0, by omega, by omega, rfl, rfl⟩
end Go.Ab
end

section
/- The state with which own events begin. -/
set_option maxRecDepth 100000
set_option maxHeartbeats 8000000
namespace Go.Ab
open Go Go.Proofs
theorem bd_LN : type_of% (And.intro @evNext.eq_1 (And.intro @fld (And.intro @nit (And.intro @nxE (And.intro @ovR (And.intro @evBin_seql (And.intro @evBin_sneq (And.intro @str.eq_1 (And.intro @u8.eq_1 (And.intro @encBrs.eq_1 (And.intro @cBr.eq_1 (And.intro @encLdg.eq_1 (And.intro @encKws.eq_1 (And.intro @cKw.eq_1 (And.intro @encEvss.eq_1 (And.intro @encEvs.eq_1 (And.intro @cEv.eq_1 (And.intro @encMks.eq_1 (And.intro @cMk.eq_1 (And.intro @tk2 (And.intro @tk3 (And.intro @List.set_cons_succ.{0} (And.intro @List.getElem?_cons_zero.{0} (And.intro @List.getElem?_cons_succ.{0} (@List.length_set.{0}))))))))))))))))))))))))) := And.intro @evNext.eq_1 (And.intro @fld (And.intro @nit (And.intro @nxE (And.intro @ovR (And.intro @evBin_seql (And.intro @evBin_sneq (And.intro @str.eq_1 (And.intro @u8.eq_1 (And.intro @encBrs.eq_1 (And.intro @cBr.eq_1 (And.intro @encLdg.eq_1 (And.intro @encKws.eq_1 (And.intro @cKw.eq_1 (And.intro @encEvss.eq_1 (And.intro @encEvs.eq_1 (And.intro @cEv.eq_1 (And.intro @encMks.eq_1 (And.intro @cMk.eq_1 (And.intro @tk2 (And.intro @tk3 (And.intro @List.set_cons_succ.{0} (And.intro @List.getElem?_cons_zero.{0} (And.intro @List.getElem?_cons_succ.{0} (@List.length_set.{0}))))))))))))))))))))))))
theorem tok_fits {l : List Br} {cs : List Int} (h : bfits l cs = 0) : TOk l cs := by
  have hv := vok_of h
  refine ⟨?_, hv.len, hv.cnt⟩
  apply Classical.byContradiction
  intro hc
  rw [bfits, if_pos hc] at h
  exact hc h
theorem bview_at {l : List Br} {cs : List Int} (h : bfits l cs = 0) {i : Nat} {b : Br} (hb : l[i]? = some b) : bview l cs b.name = (vw l cs i, 0) := by
  have := (tok_fits h).uniq hb
  rw [bview, if_neg (by rw [Decidable.not_not]; exact h), if_neg (by omega), this]; rfl
theorem allMk {l : List (Nat × Nat)} : ((l.map cMk).all fun e => e.length == 2) = true := by
  rw [List.all_eq_true]; intro e he; obtain ⟨b, _, rfl⟩ := List.mem_map.1 he; rfl
theorem d_begin (l : Ldg) (h : POk l) (i : Nat) (b : Br) (hb : l.brs[i]? = some b) (hk : ∀ e ∈ preE l i, (clsOf l.known e.chg).isSome = true) (kvs : List (Value × PV × Nat)) (hM : ClsM l.known kvs)
    (σ : Store) (nx idm ck : Nat) (hm : σ idm = some (.map kvs ck false)) : StSpec cx 56 [encLdg l, .mp idm, i64 i] σ nx (StQ (cls0 l.known) (preE l i) σ nx) := by
  refine StSpec.fresh (by kernel_rfl) fun hfr => ?_
  have hidm : idm < nx := by
    rcases Nat.lt_or_ge idm nx with h1 | h1
    · exact h1
    · rw [hfr idm h1] at hm; cases hm
  have hv := h.vok
  have hbn := bview_at h.fits hb
  obtain ⟨p, hp⟩ : ∃ p : Nat, b.pos = p := ⟨b.pos.toNat, by have := hv.at_ i b hb; omega⟩
  have hi := (List.getElem?_eq_some_iff.1 hb).1
  obtain ⟨b', c', hb', hc', hc0', _⟩ := hv.at hi
  rw [hb] at hb'; cases hb'
  have hlen := hv.length i hi hb hc'
  have hple : p ≤ (vw l.brs (cnts l) i).length := by omega
  have hpre : preE l i = seenE l ((vw l.brs (cnts l) i).take p) := by rw [preE, hb]; simp only [hp, Int.toNat_natCast]
  have hmem := hv.take_mem hb
  rw [hp, Int.toNat_natCast] at hmem
  rw [hpre] at hk ⊢
  have hvl : ((vw l.brs (cnts l) i).take p).length ≤ 2^40 := by rw [List.length_take]; have := hv.at_ i b hb; omega
  have hdt : List.drop 0 (List.take p ((vw l.brs (cnts l) i).map cMk)) = ((vw l.brs (cnts l) i).take p).map cMk := by rw [List.drop_zero, List.map_take]
  have hcl : (cnts l).length ≤ 9223372036854775807 := by rw [h.cnt, h.len]; have := hv.le8; omega
  have hbl : l.brs.length ≤ 9223372036854775807 := by have := hv.le8; omega
  have hel : l.evs.length ≤ 2^40 := by rw [h.len]; have := hv.le8; omega
  have hes : ∀ s ∈ l.evs, s.length ≤ 2^40 := fun s hs => by have := h.evs s hs; omega
  generalize hV : (vw l.brs (cnts l) i).take p = v at hk hmem hvl hdt
  refine stSpec_of_vc Tryd.func56 rfl (by decide) (by kernel_rfl) (Nat.le_of_ble_eq_true rfl) ?_
  try simp -dsimp (disch := omega) only [↓bp0, bd0, bd_LN, evStore, evRange, Tryd.f56, tzSt, onesSt, simprocAttr]
  refine vc_text (by kernel_rfl) ?_
  try simp -dsimp (disch := omega) only [↓bp0, bd0, bd_LN, evStore, evRange, hb, simprocAttr]
  refine CallY.imm (d_counts l hel hes) (by rfl) (by rfl) (by first | exact .inl rfl | exact .inr rfl | exact .inr scalB | exact .inr scalI | exact .inr scalT | exact .inr scalM | exact .inr scalMT) ?_
  try simp -dsimp (disch := omega) only [↓bp0, bd0, bd_LN, evStore, evRange, hb, simprocAttr]
  refine CallY.imm (d_View l.brs (cnts l) b.name hbl hcl) (by rfl) (by rfl) (by first | exact .inl rfl | exact .inr rfl | exact .inr scalB | exact .inr scalI | exact .inr scalT | exact .inr scalM | exact .inr scalMT) ?_
  try simp -dsimp (disch := omega) only [↓bp0, bd0, bd_LN, evStore, evRange, hbn, newMks, hb, hp, hple, evSlice, slc, allMk, Bool.false_and, hdt, simprocAttr]
  have hmm : ∀ (k : Nat), k ≤ v.length → (seenE l v).length = v.length := fun _ _ => by simp [seenE]
  refine LoopQ.rule (fun m st => ∃ (k nx' : Nat), k ≤ v.length ∧ nx + 2 ≤ nx' ∧ m = v.length - k ∧
    st = ⟨mkE [(1, .mp idm), (3, .ptr nx 0 0 0), (7, .ptr (nx + 1) 0 0 0), (35, encMks v), (36, i64 v.length), (37, i64 k)],
      ovS [(nx, .row 0 3 [[encKws l.known, encBrs l.brs, encEvss l.evs]] false), (nx + 1, .row 0 60 [stC (cls0 l.known) ((seenE l v).take k)] false)] σ, nx'⟩) _ _ ?_
    ⟨0, _, by omega, Nat.le_refl _, rfl, rfl⟩ ?_
  · refine weak_ofV hfr (by first | (simp -dsimp (disch := omega) only [↓bp0, bd0, bd_LN, evStore, evRange, stC_nil, List.take_zero, simprocAttr]; done) | simp -dsimp [evl, putN, i64, u32, bl, encL, encB, encLL, stC_nil, List.take_zero]) (by first | (simp -dsimp (disch := omega) only [↓bp0, bd0, bd_LN, evStore, evRange, stC_nil, List.take_zero, simprocAttr]; done) | simp -dsimp [evl, putN, i64, u32, bl, encL, encB, encLL, stC_nil, List.take_zero]) (by (try simp -dsimp only [st_put_σ]); repeat (first | exact Agr.rfl' | refine Agr.put ?_ (by omega) | exact Agr.ov (by simp only [geL]; omega))) (by first | (simp -dsimp (disch := omega) only [↓bp0, bd0, bd_LN, evStore, evRange, stC_nil, List.take_zero, simprocAttr]; done) | simp -dsimp [evl, putN, i64, u32, bl, encL, encB, encLL, stC_nil, List.take_zero])
  rintro m st ⟨k, nx', hkl, hid, rfl, rfl⟩
  have hE0 : (idm = nx) = False := by simp; omega
  have hE0r : (nx = idm) = False := by simp; omega
  have hE1 : (idm = nx + 1) = False := by simp; omega
  have hE1r : (nx + 1 = idm) = False := by simp; omega
  have hE2 : (idm = nx') = False := by simp; omega
  have hE2r : (nx' = idm) = False := by simp; omega
  have hE3 : (nx = nx') = False := by simp; omega
  have hE3r : (nx' = nx) = False := by simp; omega
  have hE4 : (nx + 1 = nx') = False := by simp; omega
  have hE4r : (nx' = nx + 1) = False := by simp; omega
  have hE5 : (idm = nx' + 1) = False := by simp; omega
  have hE5r : (nx' + 1 = idm) = False := by simp; omega
  have hE6 : (nx = nx' + 1) = False := by simp; omega
  have hE6r : (nx' + 1 = nx) = False := by simp; omega
  try simp -dsimp (disch := omega) only [↓bp0, bd0, bd_LN, evStore, evRange, simprocAttr]
  refine onC_nlt (fun h2 => ?_) (fun h2 => ?_)
  · obtain ⟨⟨j, e⟩, hx, hxm⟩ := get_of_lt h2
    obtain ⟨_, c0, hc0, hlt⟩ := hmem _ hxm
    obtain ⟨own, x, hj, he, hev, hxo⟩ := evAt_get hc0 hlt
    simp only at hj he
    have hsx : (seenE l v)[k]? = some x := by simp only [seenE, List.getElem?_map, hx, Option.map_some, hev]
    have hfp := hM.find h.nodup (hk x (List.mem_of_getElem? hsx))
    obtain ⟨c, hc, hc30⟩ := h.cls x.chg
    rw [hc] at hfp
    have hts := take_succ hsx
    try simp -dsimp (disch := omega) only [↓bp0, bd0, bd_LN, evStore, evRange, hx, hE0, hE0r, hE1, hE1r, hE2, hE2r, hE3, hE3r, hE4, hE4r, hE5, hE5r, hE6, hE6r, simprocAttr]
    refine vc_regJ (fun τ => τ nx = some (.row 0 3 [[encKws l.known, encBrs l.brs, encEvss l.evs]] false) ∧ τ nx' = some (.row 0 2 [cMk (j, e)] false)) [0, 1, 2, 3, 4, 5, 6, 7, 8, 9] [] (by kernel_rfl) (by kernel_rfl) ?_ ?_
    · exact ⟨(by simp -dsimp (disch := omega) only [↓bp0, bd0, bd_LN, evStore, evRange, hE0, hE0r, hE1, hE1r, hE2, hE2r, hE3, hE3r, hE4, hE4r, hE5, hE5r, hE6, hE6r, simprocAttr]), (by simp -dsimp (disch := omega) only [↓bp0, bd0, bd_LN, evStore, evRange, hE0, hE0r, hE1, hE1r, hE2, hE2r, hE3, hE3r, hE4, hE4r, hE5, hE5r, hE6, hE6r, simprocAttr])⟩
    try simp -dsimp (disch := omega) only [↓bp0, bd0, bd_LN, evStore, evRange, vcj, implies_true, hE0, hE0r, hE1, hE1r, hE2, hE2r, hE3, hE3r, hE4, hE4r, hE5, hE5r, hE6, hE6r, simprocAttr]
    refine ⟨fun τ hτ => by simp -dsimp (disch := omega) only [↓bp0, bd0, bd_LN, evStore, evRange, hτ.1, simprocAttr], ?_⟩
    try simp -dsimp (disch := omega) only [↓bp0, bd0, bd_LN, evStore, evRange, vcj, implies_true, hE0, hE0r, hE1, hE1r, hE2, hE2r, hE3, hE3r, hE4, hE4r, hE5, hE5r, hE6, hE6r, simprocAttr]
    refine ⟨fun τ hτ => by simp -dsimp (disch := omega) only [↓bp0, bd0, bd_LN, evStore, evRange, hτ.2, simprocAttr], ?_⟩
    try simp -dsimp (disch := omega) only [↓bp0, bd0, bd_LN, evStore, evRange, vcj, implies_true, hj, hE0, hE0r, hE1, hE1r, hE2, hE2r, hE3, hE3r, hE4, hE4r, hE5, hE5r, hE6, hE6r, simprocAttr]
    refine ⟨fun τ hτ => by simp -dsimp (disch := omega) only [↓bp0, bd0, bd_LN, evStore, evRange, hτ.2, simprocAttr], ?_⟩
    try simp -dsimp (disch := omega) only [↓bp0, bd0, bd_LN, evStore, evRange, vcj, implies_true, hj, he, hE0, hE0r, hE1, hE1r, hE2, hE2r, hE3, hE3r, hE4, hE4r, hE5, hE5r, hE6, hE6r, simprocAttr]
    try simp -dsimp (disch := omega) only [↓bp0, bd0, bd_LN, evStore, evRange, hx, hj, he, hE0, hE0r, hE1, hE1r, hE2, hE2r, hE3, hE3r, hE4, hE4r, hE5, hE5r, hE6, hE6r, hm, evLookup, keyS, hfp, simprocAttr]
    refine CallQ.inm (d_put (cls0 l.known) ((seenE l v).take k) x c hc hc30 _ _ (nx + 1) 0 (by simp -dsimp (disch := omega) only [↓bp0, bd0, bd_LN, evStore, evRange, hE0, hE0r, hE1, hE1r, hE2, hE2r, hE3, hE3r, hE4, hE4r, hE5, hE5r, hE6, hE6r, simprocAttr])) (by rfl) ?_
    rintro r σ' nx2 ⟨rfl, rfl, rfl⟩
    rw [← hts]
    try simp -dsimp (disch := omega) only [↓bp0, bd0, bd_LN, evStore, evRange, simprocAttr]
    refine ⟨_, _, ?_, ?_, k + 1, nx' + 2, h2, by omega, rfl, rfl⟩
    · omega
    · refine weak_ofV hfr (by first | (simp -dsimp (disch := omega) only [↓bp0, bd0, bd_LN, evStore, evRange, hE0, hE0r, hE1, hE1r, hE2, hE2r, hE3, hE3r, hE4, hE4r, hE5, hE5r, hE6, hE6r, wrapS h2 (show v.length ≤ 9223372036854775807 by omega), simprocAttr]; done) | simp -dsimp [evl, putN, i64, u32, bl, encL, encB, encLL, hE0, hE0r, hE1, hE1r, hE2, hE2r, hE3, hE3r, hE4, hE4r, hE5, hE5r, hE6, hE6r, wrapS h2 (show v.length ≤ 9223372036854775807 by omega)]) (by first | (simp -dsimp (disch := omega) only [↓bp0, bd0, bd_LN, evStore, evRange, hE0, hE0r, hE1, hE1r, hE2, hE2r, hE3, hE3r, hE4, hE4r, hE5, hE5r, hE6, hE6r, wrapS h2 (show v.length ≤ 9223372036854775807 by omega), simprocAttr]; done) | simp -dsimp [evl, putN, i64, u32, bl, encL, encB, encLL, hE0, hE0r, hE1, hE1r, hE2, hE2r, hE3, hE3r, hE4, hE4r, hE5, hE5r, hE6, hE6r, wrapS h2 (show v.length ≤ 9223372036854775807 by omega)]) (by (try simp -dsimp only [st_put_σ]); repeat (first | exact Agr.rfl' | refine Agr.put ?_ (by omega) | exact Agr.ov (by simp only [geL]; omega))) (by first | (simp -dsimp (disch := omega) only [↓bp0, bd0, bd_LN, evStore, evRange, hE0, hE0r, hE1, hE1r, hE2, hE2r, hE3, hE3r, hE4, hE4r, hE5, hE5r, hE6, hE6r, wrapS h2 (show v.length ≤ 9223372036854775807 by omega), simprocAttr]; done) | simp -dsimp [evl, putN, i64, u32, bl, encL, encB, encLL, hE0, hE0r, hE1, hE1r, hE2, hE2r, hE3, hE3r, hE4, hE4r, hE5, hE5r, hE6, hE6r, wrapS h2 (show v.length ≤ 9223372036854775807 by omega)])
  · have hkv : k = v.length := by omega
    have htk : (seenE l v).take k = seenE l v := List.take_of_length_le (by simp [seenE]; omega)
    rw [htk]
    simp -dsimp (disch := omega) only [↓bp0, bd0, bd_LN, evStore, evRange, stQ, resL, tupOf, List.toList_toArray, Tryd.f56, simprocAttr]
    exact ⟨_, _, weakσ_of hfr (by simp -dsimp (disch := omega) only [↓bp0, bd0, bd_LN, evStore, evRange, hE0, hE0r, hE1, hE1r, hE2, hE2r, hE3, hE3r, hE4, hE4r, hE5, hE5r, hE6, hE6r, simprocAttr]) (by (try simp -dsimp only [st_put_σ]); repeat (first | exact Agr.rfl' | refine Agr.put ?_ (by omega) | exact Agr.ov (by simp only [geL]; omega))) (Nat.le_refl _), nx + 1, 0, by omega, by omega, rfl, rfl⟩
end Go.Ab
end
