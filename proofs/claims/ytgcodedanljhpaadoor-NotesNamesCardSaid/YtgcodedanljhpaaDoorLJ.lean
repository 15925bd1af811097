/- Views. -/
import Derived.Test.YtgcodedanljhpaaDoorLG
set_option linter.unusedSimpArgs false
set_option linter.unusedVariables false
section
set_option maxRecDepth 100000
set_option maxHeartbeats 8000000
namespace Go.Ab
open Go Go.Proofs
theorem bd_LH : type_of% (And.intro @evNext.eq_1 (And.intro @fld (And.intro @nit (And.intro @nxE (And.intro @evBin_seql (And.intro @evBin_sneq (And.intro @str.eq_1 (And.intro @u8.eq_1 (And.intro @encBrs.eq_1 (And.intro @cBr.eq_1 (And.intro @List.set_cons_succ.{0} (And.intro @List.getElem?_cons_zero.{0} (And.intro @List.getElem?_cons_succ.{0} (@List.length_set.{0})))))))))))))) := And.intro @evNext.eq_1 (And.intro @fld (And.intro @nit (And.intro @nxE (And.intro @evBin_seql (And.intro @evBin_sneq (And.intro @str.eq_1 (And.intro @u8.eq_1 (And.intro @encBrs.eq_1 (And.intro @cBr.eq_1 (And.intro @List.set_cons_succ.{0} (And.intro @List.getElem?_cons_zero.{0} (And.intro @List.getElem?_cons_succ.{0} (@List.length_set.{0})))))))))))))
theorem li_index (l : List (Int)) (hl : l.length ≤ 9223372036854775807) (f : Nat) (cap : List PV) (hn : nofrs cap = true) (P : Int → Bool) (h : ∀ k ∈ l, CallSpec cx f ([i64 k] ++ cap) (bl (P k))) :
    CallSpec cx 75 [encL l, .clo (.func f) [] cap] (i64 (fi P l)) := by
  refine callSpec_of_vc Tryd.func75 rfl (by decide) (by kernel_rfl) (Nat.le_of_ble_eq_true rfl) ?_
  try simp -dsimp (disch := omega) only [↓bp0, bd0, bd_LH, evStore, evRange, Tryd.f75, simprocAttr]
  refine LoopQ.rule (fun m st => ∃ i : Nat, i ≤ l.length ∧ (∀ j, j < i → ∀ x, l[j]? = some x → P x = false) ∧ m = l.length - i ∧
    st = ⟨mkE [(0, encL l), (1, .clo (.func f) [] cap), (7, i64 l.length), (8, i64 i)], mkS [], 0⟩) _ _ (weak_of ?_) ⟨0, by omega, by simp, rfl, rfl⟩ ?_
  · first | (simp -dsimp (disch := omega) only [↓bp0, bd0, bd_LH, evStore, evRange, simprocAttr]; done) | simp -dsimp [evl, putN, i64, u32, bl, encL, encB, encLL]
  rintro m st ⟨i, hi, hpre, rfl, rfl⟩
  try simp -dsimp (disch := omega) only [↓bp0, bd0, bd_LH, evStore, evRange, simprocAttr]
  refine onC_nlt (fun h2 => ?_) (fun h2 => ?_)
  · obtain ⟨x, hx, hxm⟩ := get_of_lt h2
    try simp -dsimp (disch := omega) only [↓bp0, bd0, bd_LH, evStore, evRange, hx, simprocAttr]
    refine CallQ.imm (h x hxm) (by rfl) (drcs_nofr _ _ (by simp [nofrs, nofr, i64, encL, hn])) (.inr rfl) ?_
    try simp -dsimp (disch := omega) only [↓bp0, bd0, bd_LH, evStore, evRange, simprocAttr]
    refine onC_bool (fun h3 => ?_) (fun h3 => ?_)
    · simp -dsimp (disch := omega) only [↓bp0, bd0, bd_LH, evStore, evRange, retQ, resL, finL, newL, flat, tupOf, List.toList_toArray, Tryd.f75, simprocAttr]
      rw [fi_at _ _ _ _ hx hpre h3]
      exact leT_one .rfl' (by simp)
    try simp -dsimp (disch := omega) only [↓bp0, bd0, bd_LH, evStore, evRange, simprocAttr]
    refine ⟨_, _, ?_, weak_of ?_, i + 1, h2, ?_, rfl, rfl⟩
    · omega
    · first | (simp -dsimp (disch := omega) only [↓bp0, bd0, bd_LH, evStore, evRange, wrapS h2 hl, simprocAttr]; done) | simp -dsimp [evl, putN, i64, u32, bl, encL, encB, encLL, wrapS h2 hl]
    · intro j hj y hy
      by_cases hji : j = i
      · subst hji; rw [hx] at hy; cases hy; exact h3
      · exact hpre j (by omega) y hy
  · simp -dsimp (disch := omega) only [↓bp0, bd0, bd_LH, evStore, evRange, retQ, resL, finL, newL, flat, tupOf, List.toList_toArray, Tryd.f75, simprocAttr]
    rw [fi_none _ _ fun j y hy => hpre j (by have := (List.getElem?_eq_some_iff.1 hy).1; omega) y hy]
    exact leT_one .rfl' (by simp)
theorem li_contains (l : List (Int)) (hl : l.length ≤ 9223372036854775807) (f : Nat) (cap : List PV) (hn : nofrs cap = true) (P : Int → Bool) (h : ∀ k ∈ l, CallSpec cx f ([i64 k] ++ cap) (bl (P k))) :
    CallSpec cx 84 [encL l, .clo (.func f) [] cap] (bl (l.any P)) := by
  refine callSpec_of_vc Tryd.func84 rfl (by decide) (by kernel_rfl) (Nat.le_of_ble_eq_true rfl) ?_
  try simp -dsimp (disch := omega) only [↓bp0, bd0, bd_LH, evStore, evRange, Tryd.f84, simprocAttr]
  refine CallQ.imm (li_index l hl f cap hn P h) (by rfl) (drcs_nofr _ _ (by simp [nofrs, nofr, i64, encL, hn])) (.inr rfl) ?_
  simp -dsimp (disch := omega) only [↓bp0, bd0, bd_LH, evStore, evRange, retQ, resL, finL, newL, flat, tupOf, List.toList_toArray, Tryd.f84, simprocAttr]
  refine leT_one (bl_eq ?_) (by simp)
  rw [Bool.eq_iff_iff, decide_eq_true_iff, ← fi_any]
theorem d_Fits1 (n : Int) : CallSpec cx 85 [i64 n] (bl (decide (n < 0) || decide (40 < n))) := by
  refine callSpec_of_vc Tryd.func85 rfl (by decide) (by kernel_rfl) (Nat.le_of_ble_eq_true rfl) ?_
  cases h : decide (n < 0)
  · simp -dsimp (disch := omega) only [↓bp0, bd0, bd_LH, evStore, evRange, retQ, resL, finL, newL, flat, tupOf, List.toList_toArray, Tryd.f85, h, simprocAttr]
    exact leT_one (bl_eq (by simp)) (by simp)
  · simp -dsimp (disch := omega) only [↓bp0, bd0, bd_LH, evStore, evRange, retQ, resL, finL, newL, flat, tupOf, List.toList_toArray, Tryd.f85, h, simprocAttr]
    exact leT_one (bl_eq (by simp)) (by simp)
theorem tok_of {l : List Br} {cs : List Int} (h1 : bchk l = 0) (h2 : cs.length = l.length) (h3 : (cs.any fun n => decide (n < 0) || decide (40 < n)) = false) : TOk l cs :=
  ⟨h1, h2, fun i c hc => by
    have := List.any_eq_false.1 h3 c (List.mem_of_getElem? hc)
    simp only [Bool.or_eq_true, decide_eq_true_eq, not_or] at this
    omega⟩
theorem d_Fits (l : List Br) (cs : List Int) (hl : l.length ≤ 9223372036854775807) (hc : cs.length ≤ 9223372036854775807) : CallSpec cx 54 [encBrs l, encL cs] (i64 (bfits l cs)) := by
  refine callSpec_of_vc Tryd.func54 rfl (by decide) (by kernel_rfl) (Nat.le_of_ble_eq_true rfl) ?_
  try simp -dsimp (disch := omega) only [↓bp0, bd0, bd_LH, evStore, evRange, Tryd.f54, simprocAttr]
  refine CallQ.imm (d_Check l hl) (by rfl) (by rfl) (by first | exact .inl rfl | exact .inr rfl | exact .inr scalB | exact .inr scalI | exact .inr scalT) ?_
  cases h0 : decide (bchk l = 0)
  · have h0' := of_decide_eq_false h0
    simp -dsimp (disch := omega) only [↓bp0, bd0, bd_LH, evStore, evRange, retQ, resL, finL, newL, flat, tupOf, List.toList_toArray, Tryd.f54, h0, simprocAttr]
    refine leT_one (int_eq ?_) (by simp)
    rw [bfits, if_pos h0']
  have h0' := of_decide_eq_true h0
  have e1 : bfits l cs = if cs.length ≠ l.length ∨ (cs.any fun n => decide (n < 0) || decide (40 < n)) = true then 2
    else if anyI (fun i b => !fitI l cs i b) l then 16 else 0 := by rw [bfits, if_neg (by rw [Decidable.not_not]; exact h0')]
  cases h1 : decide ((cs.length : Int) = (l.length : Int))
  · have h1' := of_decide_eq_false h1
    simp -dsimp (disch := omega) only [↓bp0, bd0, bd_LH, evStore, evRange, retQ, resL, finL, newL, flat, tupOf, List.toList_toArray, Tryd.f54, h0, h1, simprocAttr]
    refine leT_one (int_eq ?_) (by simp)
    rw [e1, if_pos (.inl (by omega))]
  have h1' : cs.length = l.length := by have := of_decide_eq_true h1; omega
  try simp -dsimp (disch := omega) only [↓bp0, bd0, bd_LH, evStore, evRange, h0, h1, simprocAttr]
  refine CallQ.imm (li_contains cs hc 85 [] rfl _ fun n _ => d_Fits1 n) (by rfl) (by rfl) (by first | exact .inl rfl | exact .inr rfl | exact .inr scalB | exact .inr scalI | exact .inr scalT) ?_
  cases h2 : cs.any fun n => decide (n < 0) || decide (40 < n)
  case true =>
    simp -dsimp (disch := omega) only [↓bp0, bd0, bd_LH, evStore, evRange, retQ, resL, finL, newL, flat, tupOf, List.toList_toArray, Tryd.f54, h2, simprocAttr]
    refine leT_one (int_eq ?_) (by simp)
    rw [e1, if_pos (.inr h2)]
  have e2 : bfits l cs = if fitsB l cs then 0 else 16 := by
    rw [e1, if_neg (by rw [not_or, h2]; simp [h1']), fitsB]
    cases anyI (fun i b => !fitI l cs i b) l <;> rfl
  try simp -dsimp (disch := omega) only [↓bp0, bd0, bd_LH, evStore, evRange, h2, simprocAttr]
  refine CallQ.imm (d_starts l cs (tok_of h0' h1' h2)) (by rfl) (by rfl) (by first | exact .inl rfl | exact .inr rfl | exact .inr scalB | exact .inr scalI | exact .inr scalT) ?_
  cases h3 : fitsB l cs
  · simp -dsimp (disch := omega) only [↓bp0, bd0, bd_LH, evStore, evRange, retQ, resL, finL, newL, flat, tupOf, List.toList_toArray, Tryd.f54, h3, uUn, Option.bind_some, simprocAttr]
    refine leT_one (int_eq ?_) (by simp)
    rw [e2, h3]; rfl
  · simp -dsimp (disch := omega) only [↓bp0, bd0, bd_LH, evStore, evRange, retQ, resL, finL, newL, flat, tupOf, List.toList_toArray, Tryd.f54, h3, uUn, Option.bind_some, simprocAttr]
    refine leT_one (int_eq ?_) (by simp)
    rw [e2, h3]; rfl
def HeldO (σ : Store) (nx sz : Nat) (rows : List (List PV)) (r : PV) (σ' : Store) (nx' : Nat) : Prop := ∃ id ver, nx ≤ id ∧ id < nx' ∧ r = .own id ver 0 rows.length false ∧ σ' = σ.put id (.row ver sz rows false)
structure Vst (l : List Br) (cs : List Int) (ic il ik nx : Nat) (σ : Store) : Prop where
  c : σ ic = some (.row 0 1 [[.clo (.func 116) [] [.ptr ic 0 0 0, .ptr il 0 0 0, .ptr ik 0 0 0]]] false)
  l : σ il = some (.row 0 1 [[encBrs l]] false)
  k : σ ik = some (.row 0 1 [[encL cs]] false)
  lt : ic < nx ∧ il < nx ∧ ik < nx
theorem Vst.put {l : List Br} {cs : List Int} {ic il ik nx id nx' : Nat} {σ : Store} {B : Blk} (h : Vst l cs ic il ik nx σ) (hid : nx ≤ id) (hnx : nx ≤ nx') : Vst l cs ic il ik nx' (σ.put id B) := by
  obtain ⟨h1, h2, h3⟩ := h.lt
  refine ⟨?_, ?_, ?_, by omega⟩ <;> simp only [Store.put]
  · rw [if_neg (by omega)]; exact h.c
  · rw [if_neg (by omega)]; exact h.l
  · rw [if_neg (by omega)]; exact h.k
theorem bldMk : ∀ a b, evBuild cx 133 [(0, .lit a), (1, .lit b)] = some (.agg [.lit a, .lit b]) := fun _ _ => by kernel_rfl
theorem mnI {P : Program} {a b : Int} : ((concs [PV.lit (.int .i64 a), PV.lit (.int .i64 b)]).bind fun vs => (purely P (Builtin.min_ #[] 0 vs.toArray)).bind ofV) = some (.lit (.int .i64 (if b < a then b else a))) := by rfl
theorem flM {l : List (Nat × Nat)} : ((l.map cMk).all fun e => e.all flat) = true := by
  rw [List.all_eq_true]; intro e he; obtain ⟨b, _, rfl⟩ := List.mem_map.1 he; rfl
def wv (pre : List (Nat × Nat)) (i k : Nat) (most : Nat) : List (Nat × Nat) := (pre ++ own i (k : Int)).take most
theorem own_succ (i k : Nat) : own i ((k + 1 : Nat) : Int) = own i (k : Int) ++ [(i, k)] := by
  simp [own, List.range_succ]
theorem wv_step {pre : List (Nat × Nat)} {i k most : Nat} (h : (wv pre i k most).length < most) : wv pre i (k + 1) most = wv pre i k most ++ [(i, k)] := by
  unfold wv at *
  have hL : (pre ++ own i (k : Int)).length < most := by rw [List.length_take] at h; omega
  rw [own_succ, ← List.append_assoc, List.take_of_length_le (l := pre ++ own i (k : Int)) (by omega), List.take_of_length_le]
  rw [List.length_append]; simp only [List.length_cons, List.length_nil]; omega
theorem wv_full {pre : List (Nat × Nat)} {i k c most : Nat} (hk : k ≤ c) (h : most ≤ (wv pre i k most).length) : wv pre i c most = wv pre i k most := by
  unfold wv at *
  have hL : most ≤ (pre ++ own i (k : Int)).length := by rw [List.length_take] at h; omega
  have e : (own i (c : Int)).take k = own i (k : Int) := by
    simp only [own, Int.toNat_natCast, ← List.map_take, List.take_range]
    rw [Nat.min_eq_left hk]
  rw [← List.take_append_drop k (own i (c : Int)), e, ← List.append_assoc, List.take_append_of_le_length hL]
end Go.Ab
end

section
/- Views: the program's. -/
set_option maxRecDepth 100000
set_option maxHeartbeats 8000000
namespace Go.Ab
open Go Go.Proofs
theorem bd_LI : type_of% (And.intro @evNext.eq_1 (And.intro @fld (And.intro @nit (And.intro @nxE (And.intro @evBin_seql (And.intro @evBin_sneq (And.intro @str.eq_1 (And.intro @u8.eq_1 (And.intro @encBrs.eq_1 (And.intro @cBr.eq_1 (And.intro @List.set_cons_succ.{0} (And.intro @List.getElem?_cons_zero.{0} (And.intro @List.getElem?_cons_succ.{0} (@List.length_set.{0})))))))))))))) := And.intro @evNext.eq_1 (And.intro @fld (And.intro @nit (And.intro @nxE (And.intro @evBin_seql (And.intro @evBin_sneq (And.intro @str.eq_1 (And.intro @u8.eq_1 (And.intro @encBrs.eq_1 (And.intro @cBr.eq_1 (And.intro @List.set_cons_succ.{0} (And.intro @List.getElem?_cons_zero.{0} (And.intro @List.getElem?_cons_succ.{0} (@List.length_set.{0})))))))))))))
section
variable {l : List Br} {cs : List Int} (h : VOk l cs)
def OfSp (l : List Br) (cs : List Int) (i : Nat) : Prop := ∀ (most : Int) (ic il ik nx : Nat) (σ : Store), 0 ≤ most → most ≤ 1000000 → Vst l cs ic il ik nx σ →
  StSpec cx 116 [i64 i, i64 most, .ptr ic 0 0 0, .ptr il 0 0 0, .ptr ik 0 0 0] σ nx (HeldO σ nx 2 (((vw l cs i).take most.toNat).map cMk))
include h
theorem of_one (i : Nat) (hi : i < l.length) (ih : ∀ j, j < i → OfSp l cs j) : OfSp l cs i := by
  intro most ic il ik nx σ hm0 hm1 hV
  obtain ⟨b, c, hb, hc, hc0, hc1⟩ := h.at hi
  obtain ⟨m, rfl⟩ : ∃ m : Nat, most = m := ⟨most.toNat, by omega⟩
  obtain ⟨c, rfl⟩ : ∃ k : Nat, c = k := ⟨c.toNat, by omega⟩
  have hVc := hV.c
  have hVl := hV.l
  have hVk := hV.k
  obtain ⟨hlt1, hlt2, hlt3⟩ := hV.lt
  have hpos := h.at_ i b hb
  have hle8 := h.le8
  simp only [Int.toNat_natCast]
  have hvw : (vw l cs i).take m = wv (if i = 0 then [] else (vw l cs (idx l b.frm).toNat).take b.pos.toNat) i c m := by rw [h.eq hb hc]; rfl
  rw [hvw]
  generalize hpre : (if i = 0 then [] else (vw l cs (idx l b.frm).toNat).take b.pos.toNat) = pre
  have hwl : ∀ k, (wv pre i k m).length ≤ 1000000 := fun k => by unfold wv; rw [List.length_take]; omega
  have hA : decide ((0 : Int) < i) = false → i = 0 := fun h4 => by have := of_decide_eq_false h4; omega
  have hA2 : i = 0 → wv pre i 0 m = [] := fun h0 => by rw [← hpre, if_pos h0, wv]; simp [own]
  have hB : decide ((0 : Int) < i) = true → 0 < i := fun h4 => by have := of_decide_eq_true h4; omega
  have hB2 : 0 < i → 0 ≤ idx l b.frm ∧ (idx l b.frm).toNat < i := fun h0 => h.frm i b hb h0
  refine StSpec.fresh (by kernel_rfl) fun hfr => ?_
  refine stSpec_of_vc Tryd.func116 rfl (by decide) (by kernel_rfl) (Nat.le_of_ble_eq_true rfl) ?_
  apply share
  case h =>
    intro hbody
    cases h4 : decide ((0 : Int) < i)
    case false =>
      have h0 := hA h4
      have hw0 := hA2 h0
      try simp -dsimp (disch := omega) only [↓bp0, bd0, bd_LI, evStore, evRange, Tryd.f116, h4, simprocAttr]
      refine LoopQ.ghost 8 2 (by rfl) ?_
      refine LoopQ.rule (fun mm st => ∃ (k id ver nx' : Nat), k ≤ c ∧ nx ≤ id ∧ id < nx' ∧ mm = c - k ∧
        st = ⟨mkE [(0, i64 i), (1, i64 m), (4, .ptr ik 0 0 0), (8, .own id ver 0 (wv pre i k m).length false), (9, i64 k)], σ.put id (.row ver 2 ((wv pre i k m).map cMk) false), nx'⟩) _ _ (weak_ofS ?_)
        ⟨0, nx, 0, nx + 1, by omega, by omega, by omega, rfl, rfl⟩ hbody
      first | (simp -dsimp (disch := omega) only [↓bp0, bd0, bd_LI, evStore, evRange, ghR, hw0, simprocAttr]; done) | simp -dsimp [evl, putN, i64, u32, bl, encL, encB, encLL, ghR, hw0]
      rfl
    · have h0 := hB h4
      obtain ⟨hf1, hf2⟩ := hB2 h0
      try simp -dsimp (disch := omega) only [↓bp0, bd0, bd_LI, evStore, evRange, Tryd.f116, h4, hVc, hVl, hb, hpos, simprocAttr]
      refine vc_text (by kernel_rfl) ?_
      try simp -dsimp (disch := omega) only [↓bp0, bd0, bd_LI, evStore, evRange, hVc, hVl, hb, simprocAttr]
      refine CallY.imm (d_index l b.frm (by omega)) (by rfl) (by rfl) (by first | exact .inl rfl | exact .inr rfl | exact .inr scalB | exact .inr scalI | exact .inr scalT) ?_
      try simp -dsimp (disch := omega) only [↓bp0, bd0, bd_LI, evStore, evRange, hVc, hVl, hb, mnI, simprocAttr]
      refine CallY.q 15 rfl (by kernel_rfl) ?_
      obtain ⟨jj, hjj, hjl⟩ : ∃ j : Nat, idx l b.frm = j ∧ j < i := ⟨(idx l b.frm).toNat, by omega, hf2⟩
      rw [hjj]
      refine CallQ.inm (ih jj hjl (if b.pos < (m : Int) then b.pos else m) ic il ik _ _ (by split <;> omega) (by split <;> omega) hV) (by rfl) ?_
      rintro r σ' nx1 ⟨id, ver, q1, q2, rfl, rfl⟩
      have hwp : (vw l cs jj).take (if b.pos < (m : Int) then b.pos else (m : Int)).toNat = wv pre i 0 m := by
        have hne : ¬ i = 0 := by omega
        rw [← hpre, if_neg hne, wv, hjj, Int.toNat_natCast]
        simp only [own, Int.toNat_natCast, List.range_zero, List.map_nil, List.append_nil, List.take_take]
        congr 1
        have := hpos.1
        split <;> omega
      rw [hwp]
      try simp -dsimp (disch := omega) only [↓bp0, bd0, bd_LI, evStore, evRange, simprocAttr]
      refine LoopQ.rule (fun mm st => ∃ (k id ver nx' : Nat), k ≤ c ∧ nx ≤ id ∧ id < nx' ∧ mm = c - k ∧
        st = ⟨mkE [(0, i64 i), (1, i64 m), (4, .ptr ik 0 0 0), (8, .own id ver 0 (wv pre i k m).length false), (9, i64 k)], σ.put id (.row ver 2 ((wv pre i k m).map cMk) false), nx'⟩) _ _ (weak_ofS ?_)
        ⟨0, id, ver, nx1, by omega, q1, q2, rfl, rfl⟩ hbody
      first | (simp -dsimp (disch := omega) only [↓bp0, bd0, bd_LI, evStore, evRange, List.length_map, simprocAttr]; done) | simp -dsimp [evl, putN, i64, u32, bl, encL, encB, encLL, List.length_map]
  rintro mm st ⟨k, id, ver, nx', hkc, hid, hid2, rfl, rfl⟩
  have hE1 : (ik = id) = False := by simp; omega
  have hE2 : (id = nx') = False := by simp; omega
  have hE3 : (nx' = id) = False := by simp; omega
  have hbd : ((wv pre i k m).length + 1) * 16 ≤ 140737488355328 := by have := hwl k; omega
  have hend : ∀ x, x = wv pre i k m → x = wv pre i c m → True := fun _ _ _ => trivial
  cases h5 : decide ((k : Int) < c)
  case false =>
    have hk : k = c := by have := of_decide_eq_false h5; omega
    subst hk
    simp -dsimp (disch := omega) only [↓bp0, bd0, bd_LI, evStore, evRange, stQ, resL, tupOf, List.toList_toArray, Tryd.f116, hE1, hE2, hE3, hVk, hc, h5, simprocAttr]
    exact ⟨_, _, .refl _, id, ver, hid, hid2, by rw [List.length_map], rfl⟩
  cases h6 : decide (((wv pre i k m).length : Int) < m)
  case false =>
    have h6' := of_decide_eq_false h6
    have hf := wv_full (c := c) hkc (show m ≤ (wv pre i k m).length by omega)
    simp -dsimp (disch := omega) only [↓bp0, bd0, bd_LI, evStore, evRange, stQ, resL, tupOf, List.toList_toArray, Tryd.f116, hE1, hE2, hE3, hVk, hc, h5, h6, simprocAttr]
    exact ⟨_, _, .refl _, id, ver, hid, hid2, by rw [List.length_map, hf], by rw [hf]⟩
  have h5' := of_decide_eq_true h5
  have h6' := of_decide_eq_true h6
  have hs := wv_step (pre := pre) (i := i) (k := k) (most := m) (by omega)
  try simp -dsimp (disch := omega) only [↓bp0, bd0, bd_LI, evStore, evRange, hE1, hE2, hE3, hVk, hc, h5, h6, bldMk, hbd, simprocAttr]
  refine ⟨_, _, ?_, ?_, k + 1, id, ver + 1, nx' + 1, by omega, hid, by omega, rfl, rfl⟩
  · omega
  · refine weak_ofP hfr (by first | (simp -dsimp (disch := omega) only [↓bp0, bd0, bd_LI, evStore, evRange, wrapS (show k < c by omega) (show c ≤ 9223372036854775807 by omega), hs, hE1, hE2, hE3, List.map_append, List.map_cons, List.map_nil, cMk, List.length_append, List.length_cons, List.length_nil, put_put, simprocAttr]; done) | simp -dsimp [evl, putN, i64, u32, bl, encL, encB, encLL, wrapS (show k < c by omega) (show c ≤ 9223372036854775807 by omega), hs, hE1, hE2, hE3, List.map_append, List.map_cons, List.map_nil, cMk, List.length_append, List.length_cons, List.length_nil, put_put]) (by first | (simp -dsimp (disch := omega) only [↓bp0, bd0, bd_LI, evStore, evRange, wrapS (show k < c by omega) (show c ≤ 9223372036854775807 by omega), hs, hE1, hE2, hE3, List.map_append, List.map_cons, List.map_nil, cMk, List.length_append, List.length_cons, List.length_nil, put_put, simprocAttr]; done) | simp -dsimp [evl, putN, i64, u32, bl, encL, encB, encLL, wrapS (show k < c by omega) (show c ≤ 9223372036854775807 by omega), hs, hE1, hE2, hE3, List.map_append, List.map_cons, List.map_nil, cMk, List.length_append, List.length_cons, List.length_nil, put_put]) (by (try simp -dsimp only [st_put_σ]); repeat (first | exact Agr.rfl' | refine Agr.put ?_ (by omega) | exact Agr.ov (by simp only [geL]; omega))) (by first | (simp -dsimp (disch := omega) only [↓bp0, bd0, bd_LI, evStore, evRange, wrapS (show k < c by omega) (show c ≤ 9223372036854775807 by omega), hs, hE1, hE2, hE3, List.map_append, List.map_cons, List.map_nil, cMk, List.length_append, List.length_cons, List.length_nil, put_put, simprocAttr]; done) | simp -dsimp [evl, putN, i64, u32, bl, encL, encB, encLL, wrapS (show k < c by omega) (show c ≤ 9223372036854775807 by omega), hs, hE1, hE2, hE3, List.map_append, List.map_cons, List.map_nil, cMk, List.length_append, List.length_cons, List.length_nil, put_put])
theorem of_all : ∀ i, i < l.length → OfSp l cs i := by
  intro i
  induction i using Nat.strongRecOn with
  | _ i ih => exact fun hi => of_one h i hi fun j hj => ih j hj (by omega)
end
end Go.Ab
end

section
/- The view of a branch. -/
set_option maxRecDepth 100000
set_option maxHeartbeats 8000000
namespace Go.Ab
open Go Go.Proofs
theorem d_view (l : List Br) (cs : List Int) (h : VOk l cs) (i : Nat) (hi : i < l.length) : CallSpec cx 90 [encBrs l, encL cs, i64 i] (newMks (vw l cs i)) := by
  obtain ⟨b, c, hb, hc, hc0, hc1⟩ := h.at hi
  have hpos := h.at_ i b hb
  have hlen := h.length i hi hb hc
  have hw : IntKind.i64.wrap (b.pos + c) = b.pos + c := IntWalk.i64_in _ (by omega)
  refine callSpec_of_vc Tryd.func90 rfl (by decide) (by kernel_rfl) (Nat.le_of_ble_eq_true rfl) ?_
  try simp -dsimp (maxSteps := 9^9) (disch := first | omega | decide +kernel) only [↓vcl, ↓vcy, ↓vco, vck, gR, evl, evb, evBuiltin, evLen, evIdxA, evLoad, loadP, aggD, tis, i64, u32, bl, encL, encB, encLL, reduceIte, Nat.reduceEqDiff, forget, forget1, wantd, tzs, eve, evStore, evBox, evAlloc, evBuildSlice, evMakeSlice, evAppend, fillRows, zcells, elemsOf, putAll, PV.one, Nat.reduceAdd, Nat.reduceMul, Int.cast_ofNat_Int, Int.reduceEq, Int.reduceLT, Int.reduceLE, Nat.reduceLeDiff, List.reduceReplicate, reduceCtorEq, evRange, evNext, fld, nit, nxE, evBin_seql, evBin_sneq, str, u8, encBrs, cBr, List.set_cons_succ, List.getElem?_cons_zero, List.getElem?_cons_succ, Nat.reduceLT, List.length_set, Tryd.f90, hb, hc, hw]
  refine CallY.q 12 rfl (by kernel_rfl) ?_
  refine CallQ.inm (of_all h i hi (b.pos + c) 2 0 1 _ _ (by omega) (by omega) ⟨rfl, rfl, rfl, (by decide : 2 < 3 ∧ 0 < 3 ∧ 1 < 3)⟩) (by rfl) ?_
  rintro r σ' nx1 ⟨id, ver, q1, q2, rfl, rfl⟩
  have htk : (vw l cs i).take (b.pos + c).toNat = vw l cs i := List.take_of_length_le (by omega)
  rw [htk]
  have hT : List.take (vw l cs i).length ((vw l cs i).map cMk) = (vw l cs i).map cMk := List.take_of_length_le (by simp)
  simp -dsimp (maxSteps := 9^9) (disch := first | omega | decide +kernel) only [↓vcl, ↓vcy, ↓vco, vck, gR, evl, evb, evBuiltin, evLen, evIdxA, evLoad, loadP, aggD, tis, i64, u32, bl, encL, encB, encLL, reduceIte, Nat.reduceEqDiff, forget, forget1, wantd, tzs, eve, evStore, evBox, evAlloc, evBuildSlice, evMakeSlice, evAppend, fillRows, zcells, elemsOf, putAll, PV.one, Nat.reduceAdd, Nat.reduceMul, Int.cast_ofNat_Int, Int.reduceEq, Int.reduceLT, Int.reduceLE, Nat.reduceLeDiff, List.reduceReplicate, reduceCtorEq, evRange, evNext, fld, nit, nxE, evBin_seql, evBin_sneq, str, u8, encBrs, cBr, List.set_cons_succ, List.getElem?_cons_zero, List.getElem?_cons_succ, Nat.reduceLT, List.length_set, retQ, resL, finL, newL, flat, tupOf, List.toList_toArray, Tryd.f90, flM, hT, List.length_map]
  exact leT_one .rfl' (by simp)
theorem litM {l : List (Nat × Nat)} : ((l.map cMk).all fun e => e.all isLit) = true := by
  rw [List.all_eq_true]; intro e he; obtain ⟨b, _, rfl⟩ := List.mem_map.1 he; rfl
theorem scalM {l : List (Nat × Nat)} : scal (newMks l) = true := litM
theorem scalMT {l : List (Nat × Nat)} {n : Int} : scal (.tup [newMks l, i64 n]) = true := by
  simp only [scal, List.all_cons, List.all_nil, Bool.and_true, scal1, newMks, i64, litM]
theorem d_View (l : List Br) (cs : List Int) (n : Str) (hl : l.length ≤ 9223372036854775807) (hc : cs.length ≤ 9223372036854775807) : CallSpec cx 71 [encBrs l, encL cs, str n] (.tup [newMks (bview l cs n).1, i64 (bview l cs n).2]) := by
  refine callSpec_of_vc Tryd.func71 rfl (by decide) (by kernel_rfl) (Nat.le_of_ble_eq_true rfl) ?_
  try simp -dsimp (disch := omega) only [↓vcl, ↓vcy, ↓vco, vck, gR, evl, evb, evBuiltin, evLen, evIdxA, evLoad, loadP, aggD, tis, i64, u32, bl, encL, encB, encLL, forget, forget1, wantd, tzs, eve, evStore, evBox, evAlloc, evBuildSlice, evMakeSlice, evAppend, fillRows, zcells, elemsOf, putAll, PV.one, Int.cast_ofNat_Int, evRange, evNext, fld, nit, nxE, evBin_seql, evBin_sneq, str, u8, encBrs, cBr, List.set_cons_succ, List.getElem?_cons_zero, List.getElem?_cons_succ, List.length_set, Tryd.f71, simprocAttr]
  refine CallQ.imm (d_Fits l cs hl hc) (by rfl) (by rfl) (by first | exact .inl rfl | exact .inr rfl | exact .inr scalB | exact .inr scalI | exact .inr scalT) ?_
  cases h0 : decide (bfits l cs = 0)
  · have h0' := of_decide_eq_false h0
    simp -dsimp (disch := omega) only [↓vcl, ↓vcy, ↓vco, vck, gR, evl, evb, evBuiltin, evLen, evIdxA, evLoad, loadP, aggD, tis, i64, u32, bl, encL, encB, encLL, forget, forget1, wantd, tzs, eve, evStore, evBox, evAlloc, evBuildSlice, evMakeSlice, evAppend, fillRows, zcells, elemsOf, putAll, PV.one, Int.cast_ofNat_Int, evRange, evNext, fld, nit, nxE, evBin_seql, evBin_sneq, str, u8, encBrs, cBr, List.set_cons_succ, List.getElem?_cons_zero, List.getElem?_cons_succ, List.length_set, retQ, resL, finL, newL, flat, tupOf, List.toList_toArray, Tryd.f71, h0, simprocAttr]
    rw [bview, if_pos h0']
    exact ⟨.inr ⟨rfl, 2, rfl⟩, .rfl', trivial⟩
  have h0' := of_decide_eq_true h0
  have hv := vok_of h0'
  have e1 : bview l cs n = if idx l n < 0 then ([], 6) else (vw l cs (idx l n).toNat, 0) := by rw [bview, if_neg (by rw [Decidable.not_not]; exact h0')]
  try simp -dsimp (disch := omega) only [↓vcl, ↓vcy, ↓vco, vck, gR, evl, evb, evBuiltin, evLen, evIdxA, evLoad, loadP, aggD, tis, i64, u32, bl, encL, encB, encLL, forget, forget1, wantd, tzs, eve, evStore, evBox, evAlloc, evBuildSlice, evMakeSlice, evAppend, fillRows, zcells, elemsOf, putAll, PV.one, Int.cast_ofNat_Int, evRange, evNext, fld, nit, nxE, evBin_seql, evBin_sneq, str, u8, encBrs, cBr, List.set_cons_succ, List.getElem?_cons_zero, List.getElem?_cons_succ, List.length_set, h0, simprocAttr]
  refine CallQ.imm (d_index l n hl) (by rfl) (by rfl) (by first | exact .inl rfl | exact .inr rfl | exact .inr scalB | exact .inr scalI | exact .inr scalT) ?_
  cases h1 : decide (idx l n < 0)
  case true =>
    simp -dsimp (disch := omega) only [↓vcl, ↓vcy, ↓vco, vck, gR, evl, evb, evBuiltin, evLen, evIdxA, evLoad, loadP, aggD, tis, i64, u32, bl, encL, encB, encLL, forget, forget1, wantd, tzs, eve, evStore, evBox, evAlloc, evBuildSlice, evMakeSlice, evAppend, fillRows, zcells, elemsOf, putAll, PV.one, Int.cast_ofNat_Int, evRange, evNext, fld, nit, nxE, evBin_seql, evBin_sneq, str, u8, encBrs, cBr, List.set_cons_succ, List.getElem?_cons_zero, List.getElem?_cons_succ, List.length_set, retQ, resL, finL, newL, flat, tupOf, List.toList_toArray, Tryd.f71, h1, simprocAttr]
    rw [e1, if_pos (of_decide_eq_true h1)]
    exact ⟨.inr ⟨rfl, 2, rfl⟩, .rfl', trivial⟩
  have h1' := of_decide_eq_false h1
  obtain ⟨hi1, hi2⟩ := idx_nat (l := l) (n := n) (by omega)
  try simp -dsimp (disch := omega) only [↓vcl, ↓vcy, ↓vco, vck, gR, evl, evb, evBuiltin, evLen, evIdxA, evLoad, loadP, aggD, tis, i64, u32, bl, encL, encB, encLL, forget, forget1, wantd, tzs, eve, evStore, evBox, evAlloc, evBuildSlice, evMakeSlice, evAppend, fillRows, zcells, elemsOf, putAll, PV.one, Int.cast_ofNat_Int, evRange, evNext, fld, nit, nxE, evBin_seql, evBin_sneq, str, u8, encBrs, cBr, List.set_cons_succ, List.getElem?_cons_zero, List.getElem?_cons_succ, List.length_set, h1, simprocAttr]
  rw [hi1]
  refine CallQ.thaw (d_view l cs hv (idx l n).toNat hi2) (by rfl) (by first | rfl | (simp -dsimp (disch := omega) only [↓vcl, ↓vcy, ↓vco, vck, gR, evl, evb, evBuiltin, evLen, evIdxA, evLoad, loadP, aggD, tis, i64, u32, bl, encL, encB, encLL, forget, forget1, wantd, tzs, eve, evStore, evBox, evAlloc, evBuildSlice, evMakeSlice, evAppend, fillRows, zcells, elemsOf, putAll, PV.one, Int.cast_ofNat_Int, evRange, evNext, fld, nit, nxE, evBin_seql, evBin_sneq, str, u8, encBrs, cBr, List.set_cons_succ, List.getElem?_cons_zero, List.getElem?_cons_succ, List.length_set, drcs, drc, flat, encBrs, simprocAttr]; done)) litM ?_
  have hT : List.take (vw l cs (idx l n).toNat).length ((vw l cs (idx l n).toNat).map cMk) = (vw l cs (idx l n).toNat).map cMk := List.take_of_length_le (by simp)
  simp -dsimp (disch := omega) only [↓vcl, ↓vcy, ↓vco, vck, gR, evl, evb, evBuiltin, evLen, evIdxA, evLoad, loadP, aggD, tis, i64, u32, bl, encL, encB, encLL, forget, forget1, wantd, tzs, eve, evStore, evBox, evAlloc, evBuildSlice, evMakeSlice, evAppend, fillRows, zcells, elemsOf, putAll, PV.one, Int.cast_ofNat_Int, evRange, evNext, fld, nit, nxE, evBin_seql, evBin_sneq, str, u8, encBrs, cBr, List.set_cons_succ, List.getElem?_cons_zero, List.getElem?_cons_succ, List.length_set, retQ, resL, finL, newL, flat, tupOf, List.toList_toArray, Tryd.f71, flM, hT, List.length_map, simprocAttr]
  rw [e1, if_neg (by omega)]
  exact ⟨.rfl', .rfl', trivial⟩
end Go.Ab
end
