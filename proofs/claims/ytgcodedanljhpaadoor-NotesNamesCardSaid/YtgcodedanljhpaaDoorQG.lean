/- What NotesOnce asks, in plain terms. -/
import Derived.Test.YtgcodedanljhpaaDoorQD
import Derived.Test.YtgcodedanljhpaaDoorAcDeep
import Derived.Test.YtgcodedanljhpaaDoorPH
set_option linter.unusedSimpArgs false
set_option linter.unusedVariables false
section
set_option maxRecDepth 1000000
set_option maxHeartbeats 8000000
namespace Go.Ab
open Go Go.Proofs Go.Sort
def XAt (v : List Ev) (n : Nt) : Prop := ∃ (p : Nat) (e : Ev), n.pl = (p : Int) ∧ v[p]? = some e ∧ e.chg = n.chg ∧ e.kind = n.kind ∧ n.kind ≠ 3
def YAt (l : Ldg) (b : Str) (v : List Ev) (n : Nt) : Prop := (n.pl = -1 ∧ lastM l b n.cls = none) ∨ ∃ (p : Nat) (e : Ev) (m : Nat × Nat), n.pl = (p : Int) ∧ v[p]? = some e ∧ e.chg = n.chg ∧ n.kind = 3 ∧ lastM l b n.cls = some m ∧ (evAt l m).kind = 3
def YBf (n m : Nt) : Prop := (n.pl = -1 ∧ m.pl = -1 ∧ n.cls < m.cls) ∨ (n.pl < m.pl ∧ 0 ≤ m.pl)
structure OnceP (l : Ldg) (b : Str) (X Y : List Nt) (A B : List Int) : Prop where
  xl : X.length = B.length
  xi : ∀ n ∈ X, n.cls ∈ B
  xu : X.Pairwise fun a b => a.cls ≠ b.cls
  yl : Y.length = A.length
  yi : ∀ n ∈ Y, n.cls ∈ A
  yu : Y.Pairwise fun a b => a.cls ≠ b.cls
  xa : ∀ n ∈ X, XAt (evV l b) n
  xp : X.Pairwise fun a b => a.pl < b.pl
  ya : ∀ n ∈ Y, YAt l b (evV l b) n
  yp : Y.Pairwise YBf
end Go.Ab
end

section
/- Abstract values: a nil slice held as data of no elements. -/
namespace Go.Ab
open Go
def St.nilI (st : St) (t : Nat) : St := ⟨st.env.put t (.imm [] false), st.σ, st.nx⟩
theorem Sim.nilI {C : Ctx} {N : Nat} {κ : Kn} {st : St} {a : Act} {w : World} (s : Sim C N κ st a w) (t : Nat) (hn : st.env t = some (.lit (.slice none 0 0))) : Sim C N κ (st.nilI t) a w := by
  refine ⟨s.defers, s.size, fun t' v hv => ?_, s.blk, s.dist, s.nfz, s.yfz, s.fzlt, s.fresh, s.later, s.glob⟩
  simp only [St.nilI, Env.put] at hv
  by_cases e : t' = t
  · subst e
    simp only [if_true, Option.some.injEq] at hv
    subst hv
    obtain ⟨g1, g2⟩ := s.env _ _ hn
    refine ⟨g1, ?_⟩
    simp only [Rel] at g2 ⊢
    rw [g2.1]
    exact ⟨none, 0, 0, rfl, rfl, Nat.le_refl _, fun h => (by cases h), .inl trivial⟩
  · rw [if_neg e] at hv
    exact s.env t' v hv
theorem AbsW.nilI {C : Ctx} {N : Nat} {c : Code} {st : St} {Q : Exit → St → Prop} (t : Nat) (hn : st.env t = some (.lit (.slice none 0 0))) (h : AbsW C N c (st.nilI t) Q) : AbsW C N c st Q :=
  fun rd mm hr κ a w s => h rd mm hr κ a w (s.nilI t hn)
theorem LoopQ.nilI {C : Ctx} {N : Nat} {c : Code} {st : St} {Q : Exit → St → Prop} (t : Nat) (hn : st.env t = some (.lit (.slice none 0 0))) (h : LoopQ C N c (st.nilI t) Q) : LoopQ C N c st Q :=
  fun ho => .nilI t hn (h ho)
end Go.Ab
end

section
/- slices.DeleteFunc on a row of own memory, for any closure over data. -/
set_option maxRecDepth 1000000
set_option maxHeartbeats 8000000
namespace Go.Ab
open Go Go.Proofs
theorem bd_QG : type_of% (And.intro @evNext.eq_1 (And.intro @fld (And.intro @nit (And.intro @nxE (And.intro @ghR (And.intro @ovR (And.intro @evBin_seql (And.intro @evBin_sneq (And.intro @str.eq_1 (And.intro @u8.eq_1 (And.intro @encBrs.eq_1 (And.intro @cBr.eq_1 (And.intro @encLdg.eq_1 (And.intro @encKws.eq_1 (And.intro @cKw.eq_1 (And.intro @encEvss.eq_1 (And.intro @encEvs.eq_1 (And.intro @cEv.eq_1 (And.intro @encMks.eq_1 (And.intro @cMk.eq_1 (And.intro @encStrs.eq_1 (And.intro @tk2 (And.intro @tk3 (And.intro @List.set_cons_succ.{0} (And.intro @List.getElem?_cons_zero.{0} (And.intro @List.getElem?_cons_succ.{0} (@List.length_set.{0}))))))))))))))))))))))))))) := And.intro @evNext.eq_1 (And.intro @fld (And.intro @nit (And.intro @nxE (And.intro @ghR (And.intro @ovR (And.intro @evBin_seql (And.intro @evBin_sneq (And.intro @str.eq_1 (And.intro @u8.eq_1 (And.intro @encBrs.eq_1 (And.intro @cBr.eq_1 (And.intro @encLdg.eq_1 (And.intro @encKws.eq_1 (And.intro @cKw.eq_1 (And.intro @encEvss.eq_1 (And.intro @encEvs.eq_1 (And.intro @cEv.eq_1 (And.intro @encMks.eq_1 (And.intro @cMk.eq_1 (And.intro @encStrs.eq_1 (And.intro @tk2 (And.intro @tk3 (And.intro @List.set_cons_succ.{0} (And.intro @List.getElem?_cons_zero.{0} (And.intro @List.getElem?_cons_succ.{0} (@List.length_set.{0}))))))))))))))))))))))))))
def keepP (p : Int → Bool) (L : List Int) : List Int := L.filter fun c => !p c
theorem d_DelG (p : Int → Bool) (fn : Nat) (xs : List (List PV)) (hp : ∀ c, CallSpec cx fn ([i64 c] ++ [.cptr [.imm xs false]]) (bl (p c))) (L : List Int) (hL : L.length ≤ 2^30) (σ0 : Store) (nx id bx vb : Nat) (hσ : σ0 id = some (.row 0 1 (L.map fun n => [i64 n]) false)) (hx0 : σ0 bx = some (.row vb 1 [[.imm xs false]] false)) (hne : ¬ bx = id) :
    StSpec cx 37 [.own id 0 0 L.length false, .clo (.func fn) [] [.ptr bx vb 0 0]] σ0 nx
      (fun r σ' nx' => nx ≤ nx' ∧ ∃ E : List Int, E.length = L.length ∧ E.take (keepP p L).length = keepP p L ∧ r = .own id 0 0 (keepP p L).length false ∧ σ' = σ0.put id (.row 0 1 (E.map fun n => [i64 n]) false)) := by
  refine StSpec.fresh (by kernel_rfl) fun hfr0 => ?_
  have hid : id < nx := by
    rcases Nat.lt_or_ge id nx with h1 | h1
    · exact h1
    · rw [hfr0 id h1] at hσ; cases hσ
  have hbx : bx < nx := by
    rcases Nat.lt_or_ge bx nx with h1 | h1
    · exact h1
    · rw [hfr0 bx h1] at hx0; cases hx0
  obtain ⟨σ, hσd⟩ : ∃ σ : Store, σ = (σ0.del id).del bx := ⟨_, rfl⟩
  have hfr : ∀ j, nx ≤ j → σ j = none := fun j hj => by rw [hσd]; simp only [Store.del]; split; rfl; split; rfl; exact hfr0 j hj
  have hd : σ id = none := by rw [hσd]; simp [Store.del]
  have hd2 : σ bx = none := by rw [hσd]; simp [Store.del]
  have hput : ∀ B, σ0.put id B = ovS [(id, B), (bx, .row vb 1 [[.imm xs false]] false)] σ := fun B => by
    rw [hσd]
    funext k
    simp only [ovS, Store.put, Store.del]
    by_cases e1 : k = id
    · rw [if_pos e1, if_pos e1]
    · rw [if_neg e1, if_neg e1]
      by_cases e2 : k = bx
      · rw [if_pos e2, e2, hx0]
      · rw [if_neg e2, if_neg e2, if_neg e1]
  have h00 : σ0 = ovS [(id, .row 0 1 (L.map fun n => [i64 n]) false), (bx, .row vb 1 [[.imm xs false]] false)] σ := by rw [← hput, put_same hσ]
  simp only [hput]
  rw [h00]
  clear hfr0 hσ hx0 hput h00 hσd
  have E1 : (bx = id) = False := eq_false hne
  have E2 : (id = bx) = False := eq_false (fun e => hne e.symm)
  have E3 : (id = nx) = False := eq_false (by omega)
  have E4 : (nx = id) = False := eq_false (by omega)
  have E5 : (bx = nx) = False := eq_false (by omega)
  have E6 : (nx = bx) = False := eq_false (by omega)
  have hT : List.take L.length (L.map fun n => [PV.lit (.int .i64 n)]) = L.map fun n => [PV.lit (.int .i64 n)] := List.take_of_length_le (by simp)
  have hfs := fi_spec (p) L
  refine stSpec_of_vc Tryd.func37 rfl (by decide) (by kernel_rfl) (Nat.le_of_ble_eq_true rfl) ?_
  try simp -dsimp (disch := omega) only [↓bp0, bd0, bd_QG, evStore, evRange, Tryd.f37, E1, E2, E3, E4, E5, E6, simprocAttr]
  refine CallQ.imm (li_index L (by omega) fn [.cptr [.imm xs false]] rfl (p) fun c _ => hp c) (by rfl) (by first | rfl | (simp -dsimp (disch := omega) only [↓bp0, bd0, bd_QG, evStore, evRange, drcs, drc, flat, E1, E2, E3, E4, E5, E6, hT, List.length_map, List.drop_zero, simprocAttr]; done) | simp -dsimp [evl, drcs, drc, flat, i64, u32, bl, encL, encB, encLL]) (by first | exact .inl rfl | exact .inr rfl | exact .inr scalB | exact .inr scalI | exact .inr scalT | exact .inr scalM | exact .inr scalMT | exact .inr scalE | exact .inr scalET | exact .inr scalN | exact .inr scalNT) ?_
  rcases hfs with ⟨h1, h2⟩ | ⟨i0, x0, h1, h2, h3, h4⟩
  · have hk : keepP p L = L := by
      rw [keepP, List.filter_eq_self]
      intro c hc; rw [h2 c hc]; rfl
    rw [hk]
    simp -dsimp (disch := omega) only [↓bp0, bd0, bd_QG, evStore, evRange, stQ, resL, tupOf, List.toList_toArray, Tryd.f37, h1, E1, E2, E3, E4, E5, E6, simprocAttr]
    exact ⟨_, _, .refl _, Nat.le_refl _, L, rfl, List.take_length, rfl⟩
  have hi0 : i0 < L.length := (List.getElem?_eq_some_iff.1 h2).1
  have hk0 : keepP p (L.take i0) = L.take i0 := by
    rw [keepP, List.filter_eq_self]
    intro c hc
    obtain ⟨q, hq⟩ := List.mem_iff_getElem?.1 hc
    have hql : q < i0 := by have := (List.getElem?_eq_some_iff.1 hq).1; rw [List.length_take] at this; omega
    rw [List.getElem?_take, if_pos hql] at hq
    rw [h4 q hql c hq]; rfl
  have hstep : ∀ j x, L[j]? = some x → keepP p (L.take (j + 1)) = keepP p (L.take j) ++ if p x then [] else [x] := fun j x hx => by
    rw [keepP, keepP, take_succ hx, List.filter_append]
    congr 1
    cases e : p x <;> simp [e]
  have hk1 : keepP p (L.take (i0 + 1)) = L.take i0 := by rw [hstep i0 x0 h2, h3, hk0]; simp
  have hlk : ∀ j, (keepP p (L.take j)).length ≤ j := fun j => by
    have := List.length_filter_le (fun c => !p c) (L.take j)
    rw [List.length_take] at this
    exact Nat.le_trans this (Nat.min_le_left _ _)
  have hw1 : IntKind.i64.wrap ((i0 : Int) + 1) = ((i0 + 1 : Nat) : Int) := by rw [IntWalk.i64_in _ (by omega)]; omega
  try simp -dsimp (disch := omega) only [↓bp0, bd0, bd_QG, evStore, evRange, h1, hw1, E1, E2, E3, E4, E5, E6, simprocAttr]
  refine LoopQ.rule (fun m st => ∃ (i j : Nat) (E : List Int), i < j ∧ j ≤ L.length ∧ E.length = L.length ∧ i = (keepP p (L.take j)).length ∧ E.take i = keepP p (L.take j) ∧ (∀ q, j ≤ q → E[q]? = L[q]?) ∧ m = L.length - j ∧
    st = ⟨mkE [(0, .own id 0 0 L.length false), (1, .clo (.func fn) [] [.ptr bx vb 0 0]), (5, i64 i), (6, i64 j)], ovS [(id, .row 0 1 (E.map fun n => [i64 n]) false), (bx, .row vb 1 [[.imm xs false]] false)] σ, nx⟩) _ _ ?_
    ⟨i0, i0 + 1, L, by omega, by omega, rfl, by rw [hk1, List.length_take]; omega, by rw [hk1], fun _ _ => rfl, rfl, rfl⟩ ?_
  · refine weak_ofU (by first | (simp -dsimp (disch := omega) only [↓bp0, bd0, bd_QG, evStore, evRange, E1, E2, E3, E4, E5, E6, simprocAttr]; done) | simp -dsimp [evl, putN, i64, u32, bl, encL, encB, encLL, E1, E2, E3, E4, E5, E6]) (by first | (simp -dsimp (disch := omega) only [↓bp0, bd0, bd_QG, evStore, evRange, E1, E2, E3, E4, E5, E6, simprocAttr]; done) | simp -dsimp [evl, putN, i64, u32, bl, encL, encB, encLL, E1, E2, E3, E4, E5, E6]) (by (try simp -dsimp only [st_put_σ]); repeat (first | exact Sub.rfl' | refine Sub.put ?_ (hfr _ (by omega)) | refine Sub.put ?_ hd | exact Sub.ov ⟨hd, hd2, trivial⟩ | exact Sub.ov ⟨hd2, trivial⟩)) (by first | (simp -dsimp (disch := omega) only [↓bp0, bd0, bd_QG, evStore, evRange, simprocAttr]; done) | simp -dsimp [evl, putN, i64, u32, bl, encL, encB, encLL])
  clear hk1 hk0 h1 h2 h3 h4 hw1 hT
  rintro m st ⟨i, j, E, hij, hj, hE, hi, htk, hpe, rfl, rfl⟩
  have hlm : (E.map fun n => [PV.lit (.int .i64 n)]).length = L.length := by rw [List.length_map, hE]
  try simp -dsimp (disch := omega) only [↓bp0, bd0, bd_QG, evStore, evRange, E1, E2, E3, E4, E5, E6, simprocAttr]
  refine onC_nlt (fun h5 => ?_) (fun h5 => ?_)
  · obtain ⟨x, hx, _⟩ := get_of_lt h5
    have hEx : E[j]? = some x := by rw [hpe j (Nat.le_refl _)]; exact hx
    have hs := hstep j x hx
    have hil : i < L.length := by omega
    have hwj : IntKind.i64.wrap ((j : Int) + 1) = ((j + 1 : Nat) : Int) := by rw [IntWalk.i64_in _ (by omega)]; omega
    have hwi : IntKind.i64.wrap ((i : Int) + 1) = ((i + 1 : Nat) : Int) := by rw [IntWalk.i64_in _ (by omega)]; omega
    have hEi : E[i]? = some E[i] := List.getElem?_eq_getElem (by omega)
    try simp -dsimp (disch := omega) only [↓bp0, bd0, bd_QG, evStore, evRange, hEx, h5, hE, E1, E2, E3, E4, E5, E6, simprocAttr]
    refine CallQ.imm (hp x) (by rfl) (by first | rfl | (simp -dsimp (disch := omega) only [↓bp0, bd0, bd_QG, evStore, evRange, drcs, drc, flat, E1, E2, E3, E4, E5, E6, List.cons_append, List.nil_append, simprocAttr]; done) | simp -dsimp [evl, drcs, drc, flat, i64, u32, bl, encL, encB, encLL]) (by first | exact .inl rfl | exact .inr rfl | exact .inr scalB | exact .inr scalI | exact .inr scalT | exact .inr scalM | exact .inr scalMT | exact .inr scalE | exact .inr scalET | exact .inr scalN | exact .inr scalNT) ?_
    cases e1 : p x
    · rw [e1] at hs
      simp only [Bool.false_eq_true, if_false] at hs
      try simp -dsimp (disch := omega) only [↓bp0, bd0, bd_QG, evStore, evRange, e1, Bool.not_false, Bool.not_true, uUn, Option.bind_some, hil, hE, hEi, hwi, E1, E2, E3, E4, E5, E6, simprocAttr]
      refine ⟨_, _, ?_, ?_, i + 1, j + 1, E.set i x, by omega, h5, by rw [List.length_set, hE], by rw [hs, List.length_append, ← hi]; rfl, ?_, ?_, rfl, rfl⟩
      · omega
      · refine weak_ofU (by first | (simp -dsimp (disch := omega) only [↓bp0, bd0, bd_QG, evStore, evRange, hwj, List.map_set, E1, E2, E3, E4, E5, E6, simprocAttr]; done) | simp -dsimp [evl, putN, i64, u32, bl, encL, encB, encLL, hwj, List.map_set, E1, E2, E3, E4, E5, E6]) (by first | (simp -dsimp (disch := omega) only [↓bp0, bd0, bd_QG, evStore, evRange, hwj, List.map_set, E1, E2, E3, E4, E5, E6, simprocAttr]; done) | simp -dsimp [evl, putN, i64, u32, bl, encL, encB, encLL, hwj, List.map_set, E1, E2, E3, E4, E5, E6]) (by (try simp -dsimp only [st_put_σ]); repeat (first | exact Sub.rfl' | refine Sub.put ?_ (hfr _ (by omega)) | refine Sub.put ?_ hd | exact Sub.ov ⟨hd, hd2, trivial⟩ | exact Sub.ov ⟨hd2, trivial⟩)) (by first | (simp -dsimp (disch := omega) only [↓bp0, bd0, bd_QG, evStore, evRange, simprocAttr]; done) | simp -dsimp [evl, putN, i64, u32, bl, encL, encB, encLL])
      · have : (E.set i x)[i]? = some x := List.getElem?_set_self (by omega)
        rw [take_succ this, List.take_set_of_le (Nat.le_refl _), htk, hs]
      · intro q hq
        rw [List.getElem?_set_ne (by omega)]
        exact hpe q (by omega)
    · rw [e1] at hs
      simp only [if_true, List.append_nil] at hs
      try simp -dsimp (disch := omega) only [↓bp0, bd0, bd_QG, evStore, evRange, e1, Bool.not_false, Bool.not_true, uUn, Option.bind_some, E1, E2, E3, E4, E5, E6, simprocAttr]
      refine ⟨_, _, ?_, ?_, i, j + 1, E, by omega, h5, hE, by rw [hs]; exact hi, by rw [hs]; exact htk, fun q hq => hpe q (by omega), rfl, rfl⟩
      · omega
      · refine weak_ofU (by first | (simp -dsimp (disch := omega) only [↓bp0, bd0, bd_QG, evStore, evRange, hwj, E1, E2, E3, E4, E5, E6, simprocAttr]; done) | simp -dsimp [evl, putN, i64, u32, bl, encL, encB, encLL, hwj, E1, E2, E3, E4, E5, E6]) (by first | (simp -dsimp (disch := omega) only [↓bp0, bd0, bd_QG, evStore, evRange, hwj, E1, E2, E3, E4, E5, E6, simprocAttr]; done) | simp -dsimp [evl, putN, i64, u32, bl, encL, encB, encLL, hwj, E1, E2, E3, E4, E5, E6]) (by (try simp -dsimp only [st_put_σ]); repeat (first | exact Sub.rfl' | refine Sub.put ?_ (hfr _ (by omega)) | refine Sub.put ?_ hd | exact Sub.ov ⟨hd, hd2, trivial⟩ | exact Sub.ov ⟨hd2, trivial⟩)) (by first | (simp -dsimp (disch := omega) only [↓bp0, bd0, bd_QG, evStore, evRange, simprocAttr]; done) | simp -dsimp [evl, putN, i64, u32, bl, encL, encB, encLL])
  · have hjl : j = L.length := by omega
    subst hjl
    rw [List.take_length] at hi htk
    have hil : i ≤ L.length := by omega
    have hkl : (keepP p L).length = i := hi.symm
    have hov : (i + (L.length - i) ≤ L.length) = True := eq_true (by omega)
    simp -dsimp (disch := omega) only [↓bp0, bd0, bd_QG, evStore, evRange, stQ, resL, tupOf, List.toList_toArray, Tryd.f37, false_imp_iff, evSlice, slc, hil, evClear, evOver, over, hov, List.length_replicate, hE, Nat.zero_add, E1, E2, E3, E4, E5, E6, simprocAttr]
    refine ⟨_, _, .refl _, Nat.le_refl _, E.take i ++ List.replicate (L.length - i) 0 ++ E.drop (i + (L.length - i)), by simp; omega, ?_, ?_, ?_⟩
    · rw [hkl, List.append_assoc, List.take_append_of_le_length (by rw [List.length_take]; omega), List.take_of_length_le (by rw [List.length_take]; omega), htk]
    · rw [hkl, Nat.sub_zero]
    · rw [ov_put2]; simp [i64]
end Go.Ab
end
