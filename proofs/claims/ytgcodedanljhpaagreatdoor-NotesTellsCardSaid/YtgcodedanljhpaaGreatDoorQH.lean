/- slices.DeleteFunc on a row of own memory, for any closure over data. -/
import Derived.Test.YtgcodedanljhpaaGreatDoorPH
import Derived.Test.YtgcodedanljhpaaGreatDoorAcNil2
set_option linter.unusedSimpArgs false
set_option linter.unusedVariables false
section
set_option maxRecDepth 1000000
set_option maxHeartbeats 8000000
namespace Go.Ab
open Go Go.Proofs
theorem bd_QG : type_of% (And.intro @evNext.eq_1 (And.intro @fld (And.intro @nit (And.intro @nxE (And.intro @ghR (And.intro @ovR (And.intro @evBin_seql (And.intro @evBin_sneq (And.intro @str.eq_1 (And.intro @u8.eq_1 (And.intro @encBrs.eq_1 (And.intro @cBr.eq_1 (And.intro @encLdg.eq_1 (And.intro @encKws.eq_1 (And.intro @cKw.eq_1 (And.intro @encEvss.eq_1 (And.intro @encEvs.eq_1 (And.intro @cEv.eq_1 (And.intro @encMks.eq_1 (And.intro @cMk.eq_1 (And.intro @encStrs.eq_1 (And.intro @tk2 (And.intro @tk3 (And.intro @List.set_cons_succ.{0} (And.intro @List.getElem?_cons_zero.{0} (And.intro @List.getElem?_cons_succ.{0} (@List.length_set.{0}))))))))))))))))))))))))))) := And.intro @evNext.eq_1 (And.intro @fld (And.intro @nit (And.intro @nxE (And.intro @ghR (And.intro @ovR (And.intro @evBin_seql (And.intro @evBin_sneq (And.intro @str.eq_1 (And.intro @u8.eq_1 (And.intro @encBrs.eq_1 (And.intro @cBr.eq_1 (And.intro @encLdg.eq_1 (And.intro @encKws.eq_1 (And.intro @cKw.eq_1 (And.intro @encEvss.eq_1 (And.intro @encEvs.eq_1 (And.intro @cEv.eq_1 (And.intro @encMks.eq_1 (And.intro @cMk.eq_1 (And.intro @encStrs.eq_1 (And.intro @tk2 (And.intro @tk3 (And.intro @List.set_cons_succ.{0} (And.intro @List.getElem?_cons_zero.{0} (And.intro @List.getElem?_cons_succ.{0} (@List.length_set.{0}))))))))))))))))))))))))))
def keepP (p : Int → Bool) (L : List Int) : List Int := L.filter fun c => !p c
theorem d_DelG (p : Int → Bool) (fn : Nat) (xs : List (List PV)) (hp : ∀ c, CallSpec cx fn ([i64 c] ++ [.cptr [.imm xs false]]) (bl (p c))) (L : List Int) (hL : L.length ≤ 2^30) (σ0 : Store) (nx id bx vb : Nat) (hσ : σ0 id = some (.row 0 1 (L.map fun n => [i64 n]) false)) (hx0 : σ0 bx = some (.row vb 1 [[.imm xs false]] false)) (hne : ¬ bx = id) :
    StSpec cx 88 [.own id 0 0 L.length false, .clo (.func fn) [] [.ptr bx vb 0 0]] σ0 nx
      (fun r σ' nx' => nx ≤ nx' ∧ ∃ E : List Int, E.length = L.length ∧ E.take (keepP p L).length = keepP p L ∧ r = .own id 0 0 (keepP p L).length false ∧ σ' = σ0.put id (.row 0 1 (E.map fun n => [i64 n]) false)) := by
  refine StSpec.fresh (by kernel_rfl) fun hfr0 => ?_
  have hid : id < nx := by
    rcases Nat.lt_or_ge id nx with h1 | h1
    · exact h1
    · rw [hfr0 id h1] at hσ; cases hσ
  have hbx : bx < nx := by
    rcases Nat.lt_or_ge bx nx with h1 | h1
    · exact h1
    · rw [hfr0 bx h1] at hx0; cases hx0
  obtain ⟨σ, hσd⟩ : ∃ σ : Store, σ = (σ0.del id).del bx := ⟨_, rfl⟩
  have hfr : ∀ j, nx ≤ j → σ j = none := fun j hj => by rw [hσd]; simp only [Store.del]; split; rfl; split; rfl; exact hfr0 j hj
  have hd : σ id = none := by rw [hσd]; simp [Store.del]
  have hd2 : σ bx = none := by rw [hσd]; simp [Store.del]
  have hput : ∀ B, σ0.put id B = ovS [(id, B), (bx, .row vb 1 [[.imm xs false]] false)] σ := fun B => by
    rw [hσd]
    funext k
    simp only [ovS, Store.put, Store.del]
    by_cases e1 : k = id
    · rw [if_pos e1, if_pos e1]
    · rw [if_neg e1, if_neg e1]
      by_cases e2 : k = bx
      · rw [if_pos e2, e2, hx0]
      · rw [if_neg e2, if_neg e2, if_neg e1]
  have h00 : σ0 = ovS [(id, .row 0 1 (L.map fun n => [i64 n]) false), (bx, .row vb 1 [[.imm xs false]] false)] σ := by rw [← hput, put_same hσ]
  simp only [hput]
  rw [h00]
  clear hfr0 hσ hx0 hput h00 hσd
  have E1 : (bx = id) = False := eq_false hne
  have E2 : (id = bx) = False := eq_false (fun e => hne e.symm)
  have E3 : (id = nx) = False := eq_false (by omega)
  have E4 : (nx = id) = False := eq_false (by omega)
  have E5 : (bx = nx) = False := eq_false (by omega)
  have E6 : (nx = bx) = False := eq_false (by omega)
  have hT : List.take L.length (L.map fun n => [PV.lit (.int .i64 n)]) = L.map fun n => [PV.lit (.int .i64 n)] := List.take_of_length_le (by simp)
  have hfs := fi_spec (p) L
  refine stSpec_of_vc Tryz.func88 rfl (by decide) (by kernel_rfl) (Nat.le_of_ble_eq_true rfl) ?_
  try simp -dsimp (disch := omega) only [↓bp0, bd0, bd_QG, evStore, evRange, Tryz.f88, E1, E2, E3, E4, E5, E6, simprocAttr]
  refine CallQ.imm (li_index L (by omega) fn [.cptr [.imm xs false]] rfl (p) fun c _ => hp c) (by rfl) (by first | rfl | (simp -dsimp (disch := omega) only [↓bp0, bd0, bd_QG, evStore, evRange, drcs, drc, flat, E1, E2, E3, E4, E5, E6, hT, List.length_map, List.drop_zero, simprocAttr]; done) | simp -dsimp [evl, drcs, drc, flat, i64, u32, bl, encL, encB, encLL]) (by first | exact .inl rfl | exact .inr rfl | exact .inr scalB | exact .inr scalI | exact .inr scalT | exact .inr scalM | exact .inr scalMT | exact .inr scalE | exact .inr scalET | exact .inr scalN | exact .inr scalNT) ?_
  rcases hfs with ⟨h1, h2⟩ | ⟨i0, x0, h1, h2, h3, h4⟩
  · have hk : keepP p L = L := by
      rw [keepP, List.filter_eq_self]
      intro c hc; rw [h2 c hc]; rfl
    rw [hk]
    simp -dsimp (disch := omega) only [↓bp0, bd0, bd_QG, evStore, evRange, stQ, resL, tupOf, List.toList_toArray, Tryz.f88, h1, E1, E2, E3, E4, E5, E6, simprocAttr]
    exact ⟨_, _, .refl _, Nat.le_refl _, L, rfl, List.take_length, rfl⟩
  have hi0 : i0 < L.length := (List.getElem?_eq_some_iff.1 h2).1
  have hk0 : keepP p (L.take i0) = L.take i0 := by
    rw [keepP, List.filter_eq_self]
    intro c hc
    obtain ⟨q, hq⟩ := List.mem_iff_getElem?.1 hc
    have hql : q < i0 := by have := (List.getElem?_eq_some_iff.1 hq).1; rw [List.length_take] at this; omega
    rw [List.getElem?_take, if_pos hql] at hq
    rw [h4 q hql c hq]; rfl
  have hstep : ∀ j x, L[j]? = some x → keepP p (L.take (j + 1)) = keepP p (L.take j) ++ if p x then [] else [x] := fun j x hx => by
    rw [keepP, keepP, take_succ hx, List.filter_append]
    congr 1
    cases e : p x <;> simp [e]
  have hk1 : keepP p (L.take (i0 + 1)) = L.take i0 := by rw [hstep i0 x0 h2, h3, hk0]; simp
  have hlk : ∀ j, (keepP p (L.take j)).length ≤ j := fun j => by
    have := List.length_filter_le (fun c => !p c) (L.take j)
    rw [List.length_take] at this
    exact Nat.le_trans this (Nat.min_le_left _ _)
  have hw1 : IntKind.i64.wrap ((i0 : Int) + 1) = ((i0 + 1 : Nat) : Int) := by rw [IntWalk.i64_in _ (by omega)]; omega
  try simp -dsimp (disch := omega) only [↓bp0, bd0, bd_QG, evStore, evRange, h1, hw1, E1, E2, E3, E4, E5, E6, simprocAttr]
  refine LoopQ.rule (fun m st => ∃ (i j : Nat) (E : List Int), i < j ∧ j ≤ L.length ∧ E.length = L.length ∧ i = (keepP p (L.take j)).length ∧ E.take i = keepP p (L.take j) ∧ (∀ q, j ≤ q → E[q]? = L[q]?) ∧ m = L.length - j ∧
    st = ⟨mkE [(0, .own id 0 0 L.length false), (1, .clo (.func fn) [] [.ptr bx vb 0 0]), (5, i64 i), (6, i64 j)], ovS [(id, .row 0 1 (E.map fun n => [i64 n]) false), (bx, .row vb 1 [[.imm xs false]] false)] σ, nx⟩) _ _ ?_
    ⟨i0, i0 + 1, L, by omega, by omega, rfl, by rw [hk1, List.length_take]; omega, by rw [hk1], fun _ _ => rfl, rfl, rfl⟩ ?_
  · refine weak_ofU (by first | (simp -dsimp (disch := omega) only [↓bp0, bd0, bd_QG, evStore, evRange, E1, E2, E3, E4, E5, E6, simprocAttr]; done) | simp -dsimp [evl, putN, i64, u32, bl, encL, encB, encLL, E1, E2, E3, E4, E5, E6]) (by first | (simp -dsimp (disch := omega) only [↓bp0, bd0, bd_QG, evStore, evRange, E1, E2, E3, E4, E5, E6, simprocAttr]; done) | simp -dsimp [evl, putN, i64, u32, bl, encL, encB, encLL, E1, E2, E3, E4, E5, E6]) (by (try simp -dsimp only [st_put_σ]); repeat (first | exact Sub.rfl' | refine Sub.put ?_ (hfr _ (by omega)) | refine Sub.put ?_ hd | exact Sub.ov ⟨hd, hd2, trivial⟩ | exact Sub.ov ⟨hd2, trivial⟩)) (by first | (simp -dsimp (disch := omega) only [↓bp0, bd0, bd_QG, evStore, evRange, simprocAttr]; done) | simp -dsimp [evl, putN, i64, u32, bl, encL, encB, encLL])
  clear hk1 hk0 h1 h2 h3 h4 hw1 hT
  rintro m st ⟨i, j, E, hij, hj, hE, hi, htk, hpe, rfl, rfl⟩
  have hlm : (E.map fun n => [PV.lit (.int .i64 n)]).length = L.length := by rw [List.length_map, hE]
  try simp -dsimp (disch := omega) only [↓bp0, bd0, bd_QG, evStore, evRange, E1, E2, E3, E4, E5, E6, simprocAttr]
  refine onC_nlt (fun h5 => ?_) (fun h5 => ?_)
  · obtain ⟨x, hx, _⟩ := get_of_lt h5
    have hEx : E[j]? = some x := by rw [hpe j (Nat.le_refl _)]; exact hx
    have hs := hstep j x hx
    have hil : i < L.length := by omega
    have hwj : IntKind.i64.wrap ((j : Int) + 1) = ((j + 1 : Nat) : Int) := by rw [IntWalk.i64_in _ (by omega)]; omega
    have hwi : IntKind.i64.wrap ((i : Int) + 1) = ((i + 1 : Nat) : Int) := by rw [IntWalk.i64_in _ (by omega)]; omega
    have hEi : E[i]? = some E[i] := List.getElem?_eq_getElem (by omega)
    try simp -dsimp (disch := omega) only [↓bp0, bd0, bd_QG, evStore, evRange, hEx, h5, hE, E1, E2, E3, E4, E5, E6, simprocAttr]
    refine CallQ.imm (hp x) (by rfl) (by first | rfl | (simp -dsimp (disch := omega) only [↓bp0, bd0, bd_QG, evStore, evRange, drcs, drc, flat, E1, E2, E3, E4, E5, E6, List.cons_append, List.nil_append, simprocAttr]; done) | simp -dsimp [evl, drcs, drc, flat, i64, u32, bl, encL, encB, encLL]) (by first | exact .inl rfl | exact .inr rfl | exact .inr scalB | exact .inr scalI | exact .inr scalT | exact .inr scalM | exact .inr scalMT | exact .inr scalE | exact .inr scalET | exact .inr scalN | exact .inr scalNT) ?_
    cases e1 : p x
    · rw [e1] at hs
      simp only [Bool.false_eq_true, if_false] at hs
      try simp -dsimp (disch := omega) only [↓bp0, bd0, bd_QG, evStore, evRange, e1, Bool.not_false, Bool.not_true, uUn, Option.bind_some, hil, hE, hEi, hwi, E1, E2, E3, E4, E5, E6, simprocAttr]
      refine ⟨_, _, ?_, ?_, i + 1, j + 1, E.set i x, by omega, h5, by rw [List.length_set, hE], by rw [hs, List.length_append, ← hi]; rfl, ?_, ?_, rfl, rfl⟩
      · omega
      · refine weak_ofU (by first | (simp -dsimp (disch := omega) only [↓bp0, bd0, bd_QG, evStore, evRange, hwj, List.map_set, E1, E2, E3, E4, E5, E6, simprocAttr]; done) | simp -dsimp [evl, putN, i64, u32, bl, encL, encB, encLL, hwj, List.map_set, E1, E2, E3, E4, E5, E6]) (by first | (simp -dsimp (disch := omega) only [↓bp0, bd0, bd_QG, evStore, evRange, hwj, List.map_set, E1, E2, E3, E4, E5, E6, simprocAttr]; done) | simp -dsimp [evl, putN, i64, u32, bl, encL, encB, encLL, hwj, List.map_set, E1, E2, E3, E4, E5, E6]) (by (try simp -dsimp only [st_put_σ]); repeat (first | exact Sub.rfl' | refine Sub.put ?_ (hfr _ (by omega)) | refine Sub.put ?_ hd | exact Sub.ov ⟨hd, hd2, trivial⟩ | exact Sub.ov ⟨hd2, trivial⟩)) (by first | (simp -dsimp (disch := omega) only [↓bp0, bd0, bd_QG, evStore, evRange, simprocAttr]; done) | simp -dsimp [evl, putN, i64, u32, bl, encL, encB, encLL])
      · have : (E.set i x)[i]? = some x := List.getElem?_set_self (by omega)
        rw [take_succ this, List.take_set_of_le (Nat.le_refl _), htk, hs]
      · intro q hq
        rw [List.getElem?_set_ne (by omega)]
        exact hpe q (by omega)
    · rw [e1] at hs
      simp only [if_true, List.append_nil] at hs
      try simp -dsimp (disch := omega) only [↓bp0, bd0, bd_QG, evStore, evRange, e1, Bool.not_false, Bool.not_true, uUn, Option.bind_some, E1, E2, E3, E4, E5, E6, simprocAttr]
      refine ⟨_, _, ?_, ?_, i, j + 1, E, by omega, h5, hE, by rw [hs]; exact hi, by rw [hs]; exact htk, fun q hq => hpe q (by omega), rfl, rfl⟩
      · omega
      · refine weak_ofU (by first | (simp -dsimp (disch := omega) only [↓bp0, bd0, bd_QG, evStore, evRange, hwj, E1, E2, E3, E4, E5, E6, simprocAttr]; done) | simp -dsimp [evl, putN, i64, u32, bl, encL, encB, encLL, hwj, E1, E2, E3, E4, E5, E6]) (by first | (simp -dsimp (disch := omega) only [↓bp0, bd0, bd_QG, evStore, evRange, hwj, E1, E2, E3, E4, E5, E6, simprocAttr]; done) | simp -dsimp [evl, putN, i64, u32, bl, encL, encB, encLL, hwj, E1, E2, E3, E4, E5, E6]) (by (try simp -dsimp only [st_put_σ]); repeat (first | exact Sub.rfl' | refine Sub.put ?_ (hfr _ (by omega)) | refine Sub.put ?_ hd | exact Sub.ov ⟨hd, hd2, trivial⟩ | exact Sub.ov ⟨hd2, trivial⟩)) (by first | (simp -dsimp (disch := omega) only [↓bp0, bd0, bd_QG, evStore, evRange, simprocAttr]; done) | simp -dsimp [evl, putN, i64, u32, bl, encL, encB, encLL])
  · have hjl : j = L.length := by omega
    subst hjl
    rw [List.take_length] at hi htk
    have hil : i ≤ L.length := by omega
    have hkl : (keepP p L).length = i := hi.symm
    have hov : (i + (L.length - i) ≤ L.length) = True := eq_true (by omega)
    simp -dsimp (disch := omega) only [↓bp0, bd0, bd_QG, evStore, evRange, stQ, resL, tupOf, List.toList_toArray, Tryz.f88, false_imp_iff, evSlice, slc, hil, evClear, evOver, over, hov, List.length_replicate, hE, Nat.zero_add, E1, E2, E3, E4, E5, E6, simprocAttr]
    refine ⟨_, _, .refl _, Nat.le_refl _, E.take i ++ List.replicate (L.length - i) 0 ++ E.drop (i + (L.length - i)), by simp; omega, ?_, ?_, ?_⟩
    · rw [hkl, List.append_assoc, List.take_append_of_le_length (by rw [List.length_take]; omega), List.take_of_length_le (by rw [List.length_take]; omega), htk]
    · rw [hkl, Nat.sub_zero]
    · rw [ov_put2]; simp [i64]
end Go.Ab
end

section
/- The reference of notes in plain terms: notes put in their order one by one. -/
set_option maxRecDepth 1000000
set_option maxHeartbeats 8000000
namespace Go.Ab
open Go Go.Proofs Go.Sort
theorem pw_unique {α : Type} {R : α → α → Prop} (ha : ∀ a b, R a b → R b a → False) : ∀ {X Y : List α}, X.Pairwise R → Y.Pairwise R → (∀ a, a ∈ X ↔ a ∈ Y) → X = Y
  | [], [], _, _, _ => rfl
  | [], y :: Y, _, _, h => by have := (h y).2 (by simp); simp at this
  | x :: X, [], _, _, h => by have := (h x).1 (by simp); simp at this
  | x :: X, y :: Y, hX, hY, h => by
    obtain ⟨hx, hX'⟩ := List.pairwise_cons.1 hX
    obtain ⟨hy, hY'⟩ := List.pairwise_cons.1 hY
    have e : x = y := by
      have h1 := (h x).1 (by simp)
      have h2 := (h y).2 (by simp)
      rcases List.mem_cons.1 h1 with h1 | h1
      · exact h1
      rcases List.mem_cons.1 h2 with h2 | h2
      · exact h2.symm
      exact (ha x y (hx y h2) (hy x h1)).elim
    subst e
    have : X = Y := pw_unique ha hX' hY' fun a => by
      constructor
      · intro h1
        rcases List.mem_cons.1 ((h a).1 (List.mem_cons_of_mem _ h1)) with h2 | h2
        · subst h2; exact (ha _ _ (hx _ h1) (hx _ h1)).elim
        · exact h2
      · intro h1
        rcases List.mem_cons.1 ((h a).2 (List.mem_cons_of_mem _ h1)) with h2 | h2
        · subst h2; exact (ha _ _ (hy _ h1) (hy _ h1)).elim
        · exact h2
    rw [this]
def insP (L : List Nt) (n : Nt) : Nat → Nat
  | 0 => 0
  | k + 1 => match L[k]? with
    | some m => if n.pl < m.pl then insP L n k else k + 1
    | none => k + 1
def insN (L : List Nt) (n : Nt) : List Nt := L.take (insP L n L.length) ++ n :: L.drop (insP L n L.length)
theorem insP_spec {L : List Nt} {n : Nt} : ∀ (k : Nat), k ≤ L.length → insP L n k ≤ k ∧ (∀ i m, insP L n k ≤ i → i < k → L[i]? = some m → n.pl < m.pl) ∧ (∀ m, 0 < insP L n k → L[insP L n k - 1]? = some m → m.pl ≤ n.pl)
  | 0, _ => ⟨Nat.le_refl _, fun i m h1 h2 => by omega, fun m h => by simp [insP] at h⟩
  | k + 1, hk => by
    have hm : L[k]? = some L[k] := List.getElem?_eq_getElem (by omega)
    obtain ⟨h1, h2, h3⟩ := insP_spec (L := L) (n := n) k (by omega)
    rw [insP, hm]
    by_cases h : n.pl < L[k].pl
    · simp only [h, if_true]
      refine ⟨by omega, fun i m hi hik hx => ?_, h3⟩
      by_cases e : i = k
      · subst e; rw [hm] at hx; cases hx; exact h
      · exact h2 i m hi (by omega) hx
    · simp only [h, if_false]
      refine ⟨Nat.le_refl _, fun i m hi hik => by omega, fun m _ hx => ?_⟩
      rw [Nat.add_sub_cancel, hm] at hx
      cases hx; omega
theorem insN_mem {L : List Nt} {n a : Nt} : a ∈ insN L n ↔ a = n ∨ a ∈ L := by
  have : a ∈ L ↔ a ∈ L.take (insP L n L.length) ∨ a ∈ L.drop (insP L n L.length) := by rw [← List.mem_append, List.take_append_drop]
  rw [insN, List.mem_append, List.mem_cons, this]
  constructor
  · rintro (h | h | h)
    · exact .inr (.inl h)
    · exact .inl h
    · exact .inr (.inr h)
  · rintro (h | h | h)
    · exact .inr (.inl h)
    · exact .inl h
    · exact .inr (.inr h)
theorem insN_len {L : List Nt} {n : Nt} : (insN L n).length = L.length + 1 := by
  have := (insP_spec (L := L) (n := n) L.length (Nat.le_refl _)).1
  rw [insN, List.length_append, List.length_cons, List.length_take, List.length_drop]; omega
theorem YBf_le {a b : Nt} (h : YBf a b) : a.pl ≤ b.pl := by unfold YBf at h; omega
theorem YBf_asym (a b : Nt) (h : YBf a b) (h' : YBf b a) : False := by unfold YBf at h h'; omega
theorem insN_pw {L : List Nt} {n : Nt} (hL : L.Pairwise YBf) (hn : -1 ≤ n.pl) (h : ∀ m ∈ L, -1 ≤ m.pl ∧ (m.pl = n.pl → n.pl = -1 ∧ m.cls < n.cls)) : (insN L n).Pairwise YBf := by
  obtain ⟨h1, h2, h3⟩ := insP_spec (L := L) (n := n) L.length (Nat.le_refl _)
  have hL' := hL
  rw [← List.take_append_drop (insP L n L.length) L] at hL
  obtain ⟨p1, p2, p3⟩ := List.pairwise_append.1 hL
  refine List.pairwise_append.2 ⟨p1, List.pairwise_cons.2 ⟨fun b hb => ?_, p2⟩, fun a ha b hb => ?_⟩
  · obtain ⟨j, hj⟩ := List.mem_iff_getElem?.1 hb
    rw [List.getElem?_drop] at hj
    have := h2 _ b (Nat.le_add_right _ j) (List.getElem?_eq_some_iff.1 hj).1 hj
    unfold YBf; omega
  · rcases List.mem_cons.1 hb with rfl | hb
    · obtain ⟨i, hi⟩ := List.mem_iff_getElem?.1 ha
      have hil := (List.getElem?_eq_some_iff.1 hi).1
      rw [List.length_take] at hil
      rw [List.getElem?_take, if_pos (by omega)] at hi
      have hlast : L[insP L b L.length - 1]? = some L[insP L b L.length - 1] := List.getElem?_eq_getElem (by omega)
      have h4 := h3 _ (by omega) hlast
      have h5 : a.pl ≤ b.pl := by
        by_cases e : i = insP L b L.length - 1
        · subst e; rw [hlast] at hi; cases hi; exact h4
        · have h6 : YBf (L[i]'(by omega)) (L[insP L b L.length - 1]'(by omega)) := (List.pairwise_iff_getElem.1 hL') i (insP L b L.length - 1) (by omega) (by omega) (by omega)
          have := YBf_le h6
          rw [List.getElem?_eq_getElem (by omega)] at hi
          cases hi; omega
      obtain ⟨h6, h7⟩ := h a (List.mem_of_getElem? hi)
      unfold YBf
      by_cases e : a.pl = b.pl
      · obtain ⟨h8, h9⟩ := h7 e
        left; omega
      · right; omega
    · exact p3 a ha b hb
def insAll (g : Int → Nt) (cs : List Int) : List Nt := cs.foldl (fun o c => insN o (g c)) []
theorem insAll_snoc {g : Int → Nt} {cs : List Int} {c : Int} : insAll g (cs ++ [c]) = insN (insAll g cs) (g c) := by
  rw [insAll, List.foldl_append]; rfl
theorem insAll_len {g : Int → Nt} : ∀ (cs : List Int) (o : List Nt), (cs.foldl (fun o c => insN o (g c)) o).length = o.length + cs.length
  | [], o => by simp
  | c :: r, o => by rw [List.foldl_cons, insAll_len r, insN_len, List.length_cons]; omega
theorem insAll_ok {g : Int → Nt} : ∀ (cs done : List Int) (o : List Nt), (done ++ cs).Pairwise (· < ·) → (∀ c ∈ done ++ cs, (g c).cls = c ∧ -1 ≤ (g c).pl) → (∀ c ∈ done ++ cs, ∀ d ∈ done ++ cs, c ≠ d → (g c).pl = (g d).pl → (g c).pl = -1) →
    (∀ t, t ∈ o ↔ ∃ c ∈ done, t = g c) → o.Pairwise YBf → (∀ t, t ∈ cs.foldl (fun o c => insN o (g c)) o ↔ ∃ c ∈ done ++ cs, t = g c) ∧ (cs.foldl (fun o c => insN o (g c)) o).Pairwise YBf
  | [], done, o, hp, h1, h2, h3, h4 => by simpa using ⟨h3, h4⟩
  | c :: r, done, o, hp, h1, h2, h3, h4 => by
    have e : done ++ c :: r = (done ++ [c]) ++ r := by simp
    have hlt : ∀ d ∈ done, d < c := fun d hd => (List.pairwise_append.1 hp).2.2 d hd c (by simp)
    rw [List.foldl_cons, e]
    rw [e] at hp h1 h2
    refine insAll_ok r (done ++ [c]) (insN o (g c)) hp h1 h2 (fun t => ?_) ?_
    · rw [insN_mem, h3]
      constructor
      · rintro (h | ⟨d, hd, rfl⟩)
        · exact ⟨c, by simp, h⟩
        · exact ⟨d, by simp [hd], rfl⟩
      · rintro ⟨d, hd, rfl⟩
        rcases List.mem_append.1 hd with hd | hd
        · exact .inr ⟨d, hd, rfl⟩
        · simp only [List.mem_singleton] at hd; subst hd; exact .inl rfl
    · refine insN_pw h4 (h1 c (by simp)).2 fun m hm => ?_
      obtain ⟨d, hd, rfl⟩ := (h3 m).1 hm
      refine ⟨(h1 d (by simp [hd])).2, fun hq => ?_⟩
      have hdc := hlt d hd
      have := h2 d (by simp [hd]) c (by simp) (by omega) hq
      rw [(h1 d (by simp [hd])).1, (h1 c (by simp)).1]
      exact ⟨by omega, hdc⟩
theorem insAll_eq {g : Int → Nt} {cs : List Int} {Z : List Nt} (hp : cs.Pairwise (· < ·)) (h1 : ∀ c ∈ cs, (g c).cls = c ∧ -1 ≤ (g c).pl) (h2 : ∀ c ∈ cs, ∀ d ∈ cs, c ≠ d → (g c).pl = (g d).pl → (g c).pl = -1)
    (hZ : Z.Pairwise YBf) (hm : ∀ t, t ∈ Z ↔ ∃ c ∈ cs, t = g c) : insAll g cs = Z := by
  obtain ⟨k1, k2⟩ := insAll_ok (g := g) cs [] [] hp h1 h2 (by simp) .nil
  exact pw_unique YBf_asym k2 hZ fun a => by rw [hm]; exact k1 a
def lastA (f : Str → Int) (v : List Ev) (c : Int) : Nat → Option Nt
  | 0 => none
  | k + 1 => match v[k]? with
    | some e => if f e.chg = c then some ⟨c, e.chg, e.kind, k⟩ else lastA f v c k
    | none => none
theorem lastA_some {f : Str → Int} {v : List Ev} {c : Int} : ∀ {k : Nat} {n : Nt}, k ≤ v.length → lastA f v c k = some n → ∃ (p : Nat) (e : Ev), p < k ∧ v[p]? = some e ∧ f e.chg = c ∧ n = ⟨c, e.chg, e.kind, p⟩ ∧ ∀ q x, p < q → q < k → v[q]? = some x → f x.chg ≠ c
  | 0, n, _, h => by simp [lastA] at h
  | k + 1, n, hk, h => by
    have hx : v[k]? = some v[k] := List.getElem?_eq_getElem (by omega)
    rw [lastA, hx] at h
    by_cases hc : f v[k].chg = c
    · simp only [hc, if_true, Option.some.injEq] at h
      exact ⟨k, v[k], by omega, hx, hc, h.symm, fun q x h1 h2 => by omega⟩
    · simp only [hc, if_false] at h
      obtain ⟨p, e, h1, h2, h3, h4, h5⟩ := lastA_some (by omega) h
      refine ⟨p, e, by omega, h2, h3, h4, fun q x hq1 hq2 hq => ?_⟩
      by_cases e : q = k
      · subst e; rw [hx] at hq; cases hq; exact hc
      · exact h5 q x hq1 (by omega) hq
theorem lastA_of {f : Str → Int} {v : List Ev} {c : Int} {p : Nat} {e : Ev} (hp : v[p]? = some e) (hc : f e.chg = c) : ∀ {k : Nat}, k ≤ v.length → p < k → (∀ q x, p < q → q < k → v[q]? = some x → f x.chg ≠ c) → lastA f v c k = some ⟨c, e.chg, e.kind, p⟩
  | 0, _, h, _ => by omega
  | k + 1, hk, hpk, hn => by
    have hx : v[k]? = some v[k] := List.getElem?_eq_getElem (by omega)
    rw [lastA, hx]
    by_cases e1 : p = k
    · subst e1; rw [hx] at hp; cases hp; simp [hc]
    · have := hn k _ (by omega) (by omega) hx
      simp only [this, if_false]
      exact lastA_of hp hc (by omega) (by omega) fun q x h1 h2 => hn q x h1 (by omega)
theorem lastA_none {f : Str → Int} {v : List Ev} {c : Int} : ∀ {k : Nat}, k ≤ v.length → lastA f v c k = none → ∀ q x, q < k → v[q]? = some x → f x.chg ≠ c
  | 0, _, _, q, x, h, _ => by omega
  | k + 1, hk, h, q, x, hq, hx => by
    have hy : v[k]? = some v[k] := List.getElem?_eq_getElem (by omega)
    rw [lastA, hy] at h
    by_cases hc : f v[k].chg = c
    · simp [hc] at h
    · simp only [hc, if_false] at h
      by_cases e : q = k
      · subst e; rw [hy] at hx; cases hx; exact hc
      · exact lastA_none (by omega) h q x (by omega) hx
def lastN (f : Str → Int) (v : List Ev) (c : Int) : Option Nt := lastA f v c v.length
theorem lastsF_mem {f : Str → Int} {v : List Ev} {cs : List Int} {t : Nt} : t ∈ lastsF f v cs ↔ t.cls ∈ cs ∧ lastN f v t.cls = some t := by
  constructor
  · intro h
    obtain ⟨i, hi, rfl⟩ := List.mem_map.1 h
    have hs := (List.mem_filter.1 hi).2
    unfold selB at hs
    cases hx : v[i]? with
    | none => rw [hx] at hs; cases hs
    | some e =>
      rw [hx] at hs
      simp only [Bool.and_eq_true, Bool.not_eq_true'] at hs
      obtain ⟨h1, h2⟩ := hs
      obtain ⟨y, hy, e1⟩ := List.any_eq_true.1 h2
      rw [decide_eq_true_iff] at e1
      rw [List.any_eq_false] at h1
      have hat : ntAt f v i = ⟨f e.chg, e.chg, e.kind, i⟩ := by rw [ntAt, hx]
      rw [hat]
      refine ⟨by show f e.chg ∈ cs; rw [e1]; exact hy, ?_⟩
      show lastA f v (f e.chg) v.length = _
      refine lastA_of hx rfl (Nat.le_refl _) (List.getElem?_eq_some_iff.1 hx).1 fun q x h3 h4 hq => ?_
      have h5 : x ∈ v.drop (i + 1) := List.mem_iff_getElem?.2 ⟨q - (i + 1), by rw [List.getElem?_drop, show i + 1 + (q - (i + 1)) = q by omega]; exact hq⟩
      have := h1 x h5
      simpa using this
  · rintro ⟨h1, h2⟩
    obtain ⟨p, e, hp, hv, hc, hn, hl⟩ := lastA_some (Nat.le_refl _) h2
    refine List.mem_map.2 ⟨p, List.mem_filter.2 ⟨List.mem_range.2 hp, ?_⟩, by rw [ntAt, hv, hn]; show (⟨f e.chg, e.chg, e.kind, (p : Int)⟩ : Nt) = _; rw [hc]⟩
    unfold selB
    rw [hv]
    simp only [Bool.and_eq_true, Bool.not_eq_true']
    refine ⟨?_, List.any_eq_true.2 ⟨t.cls, h1, by rw [decide_eq_true_iff]; exact hc⟩⟩
    rw [List.any_eq_false]
    intro x hx
    obtain ⟨j, hj⟩ := List.mem_iff_getElem?.1 hx
    rw [List.getElem?_drop] at hj
    have := hl _ x (by omega) (List.getElem?_eq_some_iff.1 hj).1 hj
    rw [hc]
    simpa using this
theorem lastsF_yb {f : Str → Int} {v : List Ev} {cs : List Int} : (lastsF f v cs).Pairwise YBf := lastsF_inc.imp fun h => .inr ⟨h.1, by omega⟩
def nt0 : Nt := ⟨0, ⟨#[]⟩, 0, 0⟩
def newsG (f : Str → Int) (v : List Ev) (c : Int) : Nt := (lastN f v c).getD nt0
theorem lastN_cls {f : Str → Int} {v : List Ev} {c : Int} {n : Nt} (h : lastN f v c = some n) : n.cls = c ∧ ∃ (p : Nat) (e : Ev), n.pl = (p : Int) ∧ v[p]? = some e ∧ f e.chg = c := by
  obtain ⟨p, e, h1, h2, h3, h4, _⟩ := lastA_some (Nat.le_refl _) h
  subst h4
  exact ⟨rfl, p, e, rfl, h2, h3⟩
theorem noted_eq {f : Str → Int} {v : List Ev} {cs : List Int} (hp : cs.Pairwise (· < ·)) (h : ∀ c ∈ cs, ∃ e ∈ v, f e.chg = c) : insAll (newsG f v) cs = lastsF f v cs := by
  have hs : ∀ c ∈ cs, ∃ n, lastN f v c = some n := fun c hc => by
    cases hq : lastN f v c with
    | some n => exact ⟨n, rfl⟩
    | none =>
      obtain ⟨e, he, h1⟩ := h c hc
      obtain ⟨q, hq'⟩ := List.mem_iff_getElem?.1 he
      exact absurd h1 (lastA_none (Nat.le_refl _) hq q e (List.getElem?_eq_some_iff.1 hq').1 hq')
  refine insAll_eq hp (fun c hc => ?_) (fun c hc d hd hne he => ?_) lastsF_yb fun t => ?_
  · obtain ⟨n, hn⟩ := hs c hc
    obtain ⟨h1, p, e, h2, _⟩ := lastN_cls hn
    rw [newsG, hn]
    exact ⟨h1, by show -1 ≤ n.pl; omega⟩
  · obtain ⟨n, hn⟩ := hs c hc
    obtain ⟨m, hm⟩ := hs d hd
    obtain ⟨_, p, e, h2, h3, h4⟩ := lastN_cls hn
    obtain ⟨_, q, e', k2, k3, k4⟩ := lastN_cls hm
    rw [newsG, newsG, hn, hm] at he
    simp only [Option.getD_some] at he
    rw [h2, k2] at he
    have : p = q := by omega
    subst this
    rw [h3] at k3; cases k3
    exact absurd (h4.symm.trans k4) hne
  · rw [lastsF_mem]
    constructor
    · rintro ⟨h1, h2⟩; exact ⟨t.cls, h1, by rw [newsG, h2]; rfl⟩
    · rintro ⟨c, hc, rfl⟩
      obtain ⟨n, hn⟩ := hs c hc
      obtain ⟨h1, _⟩ := lastN_cls hn
      rw [newsG, hn, Option.getD_some, h1]
      exact ⟨hc, hn⟩
def goneG (f : Str → Int) (va vb : List Ev) (c : Int) : Nt := match lastN f vb c with
  | some n => n
  | none => negN ((lastN f va c).getD nt0)
def missI (a b : List Int) : List Int := a.filter fun x => !b.any fun y => decide (x = y)
theorem lst_inL_mem {f : Str → Int} {s : List Ev} {y : Int} : y ∈ lst 0 (inL f s) ↔ ∃ k : Nat, k < 30 ∧ y = (k : Int) ∧ inB f s y = true := by
  rw [mem_lst]
  constructor
  · rintro ⟨j, h1, h2⟩
    have hj := (List.getElem?_eq_some_iff.1 h1).1
    rw [inL, List.length_map, List.length_range] at hj
    rw [inL, List.getElem?_map, List.getElem?_range hj] at h1
    simp only [Option.map_some, Option.some.injEq] at h1
    exact ⟨j, hj, by rw [h2, Nat.zero_add], by rw [h2, Nat.zero_add]; exact h1⟩
  · rintro ⟨k, h1, rfl, h2⟩
    refine ⟨k, ?_, by rw [Nat.zero_add]⟩
    rw [inL, List.getElem?_map, List.getElem?_range h1]
    simpa using h2
theorem miss_only {f : Str → Int} {s t : List Ev} : missI (lst 0 (inL f s)) (lst 0 (inL f t)) = onlyL f s t := by
  refine pw_unique (R := fun a b : Int => a < b) (fun a b h1 h2 => by omega) ((lst_lt _ 0).2.filter _) (lst_lt _ 0).2 fun a => ?_
  rw [missI, List.mem_filter, lst_inL_mem, onlyL, mem_lst]
  constructor
  · rintro ⟨⟨k, h1, rfl, h2⟩, h3⟩
    refine ⟨k, ?_, by rw [Nat.zero_add]⟩
    rw [onlyP_get h1, h2, Option.some.injEq, Bool.true_and, Bool.not_eq_true']
    cases hq : inB f t (k : Int) with
    | false => rfl
    | true =>
      rw [Bool.not_eq_true', List.any_eq_false] at h3
      exact absurd (by simp) (h3 (k : Int) (lst_inL_mem.2 ⟨k, h1, rfl, hq⟩))
  · rintro ⟨j, h1, rfl⟩
    have hj := (List.getElem?_eq_some_iff.1 h1).1
    rw [onlyP_len] at hj
    rw [onlyP_get hj, Option.some.injEq, Bool.and_eq_true, Bool.not_eq_true'] at h1
    rw [Nat.zero_add]
    refine ⟨⟨j, hj, rfl, h1.1⟩, ?_⟩
    rw [Bool.not_eq_true', List.any_eq_false]
    intro y hy
    obtain ⟨k, _, rfl, hk⟩ := lst_inL_mem.1 hy
    simp only [decide_eq_true_eq]
    intro e
    rw [e] at h1
    rw [h1.2] at hk; cases hk
theorem onlyL_lt {f : Str → Int} {s t : List Ev} : (onlyL f s t).Pairwise (· < ·) := (lst_lt _ 0).2
theorem gone_eq {f f0 : Str → Int} {s t : List Ev} (hs : ∀ e ∈ s, f0 e.chg = f e.chg) (hY : (srtN (goneO f s t (onlyL f0 s t)) ++ lastsF f t (onlyL f0 s t)).Pairwise YBf) :
    insAll (goneG f s t) (onlyL f0 s t) = srtN (goneO f s t (onlyL f0 s t)) ++ lastsF f t (onlyL f0 s t) := by
  have hA : ∀ c ∈ onlyL f0 s t, ∃ n, lastN f s c = some n := fun c hc => by
    cases hq : lastN f s c with
    | some n => exact ⟨n, rfl⟩
    | none =>
      obtain ⟨e, he, h1⟩ := onlyL_mem hc
      obtain ⟨q, hq'⟩ := List.mem_iff_getElem?.1 he
      exact absurd (by rw [← hs e he]; exact h1) (lastA_none (Nat.le_refl _) hq q e (List.getElem?_eq_some_iff.1 hq').1 hq')
  have hcls : ∀ c ∈ onlyL f0 s t, (goneG f s t c).cls = c := fun c hc => by
    unfold goneG
    split
    · rename_i n hn; exact (lastN_cls hn).1
    · obtain ⟨n, hn⟩ := hA c hc
      rw [hn]
      exact (lastN_cls hn).1
  refine insAll_eq onlyL_lt (fun c hc => ⟨hcls c hc, ?_⟩) (fun c hc d hd hne he => ?_) hY fun u => ?_
  · unfold goneG
    split
    · rename_i n hn
      obtain ⟨_, p, _, h2, _⟩ := lastN_cls hn
      omega
    · simp [negN]
  · unfold goneG at he ⊢
    split at he
    · rename_i n hn
      obtain ⟨_, p, e, h2, h3, h4⟩ := lastN_cls hn
      split at he
      · rename_i m hm
        obtain ⟨_, q, e', k2, k3, k4⟩ := lastN_cls hm
        rw [h2, k2] at he
        have : p = q := by omega
        subst this
        rw [h3] at k3; cases k3
        exact absurd (h4.symm.trans k4) hne
      · simp only [negN] at he; omega
    · rename_i hn
      simp only [hn, negN]
  · rw [List.mem_append, lastsF_mem, (srtN_perm _).mem_iff]
    constructor
    · rintro (h | ⟨h1, h2⟩)
      · obtain ⟨w, hw, rfl⟩ := List.mem_map.1 h
        obtain ⟨h1, h2⟩ := lastsF_mem.1 hw
        obtain ⟨h3, h4⟩ := List.mem_filter.1 h1
        refine ⟨w.cls, h3, ?_⟩
        have h5 : lastN f t w.cls = none := by
          cases hq : lastN f t w.cls with
          | none => rfl
          | some n =>
            have hnc := (lastN_cls hq).1
            have : n ∈ lastsF f t (onlyL f0 s t) := lastsF_mem.2 (by rw [hnc]; exact ⟨h3, hq⟩)
            have : toldN (lastsF f t (onlyL f0 s t)) w.cls = true := List.any_eq_true.2 ⟨n, this, by simp [hnc]⟩
            rw [this] at h4; cases h4
        unfold goneG
        rw [h5]
        simp only [h2, Option.getD_some]
      · refine ⟨u.cls, h1, ?_⟩
        unfold goneG; rw [h2]
    · rintro ⟨c, hc, rfl⟩
      unfold goneG
      split
      · rename_i n hn
        right
        rw [(lastN_cls hn).1]
        exact ⟨hc, hn⟩
      · rename_i hn
        left
        obtain ⟨m, hm⟩ := hA c hc
        rw [hm, Option.getD_some]
        refine List.mem_map.2 ⟨m, lastsF_mem.2 ⟨?_, by rw [(lastN_cls hm).1]; exact hm⟩, rfl⟩
        rw [(lastN_cls hm).1]
        refine List.mem_filter.2 ⟨hc, ?_⟩
        rw [Bool.not_eq_true', toldN, List.any_eq_false]
        intro n h1
        obtain ⟨_, h2⟩ := lastsF_mem.1 h1
        simp only [decide_eq_true_eq]
        intro e
        rw [e, hn] at h2; cases h2
end Go.Ab
end
