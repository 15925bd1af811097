/- Abstract values: several results, in their depth. -/
import Derived.Test.YtgcodedanljhpaaGreatDoorAcAgg
import Derived.Test.YtgcodedanljhpaaGreatDoorAcDeep
import Derived.RangeFuncSeq
set_option linter.unusedSimpArgs false
set_option linter.unusedVariables false
section
namespace Go.Ab
open Go
def leR1 (p q : PV) : Prop := p = q ∨ (∃ x0 y0, p = .agg x0 ∧ q = .agg y0 ∧ leDs x0 y0) ∨ (∃ es c, p = .imm es c ∧ leD p q)
def leRs : List PV → List PV → Prop
  | [], qs => qs = []
  | p :: ps, qs => ∃ q qs', qs = q :: qs' ∧ leR1 p q ∧ leRs ps qs'
theorem leR1.ret {κ : Kn} {w : World} {p q : PV} {v : Value} {us : List Nat} (h : leR1 p q) (hr : RetN1 κ w p v us) : RetN1 κ w q v us := by
  rcases h with rfl | ⟨x0, y0, rfl, rfl, hl⟩ | ⟨es, c, rfl, hl⟩
  · exact hr
  · have g6 : us = [] ∧ Rel κ w (.agg x0) v := hr
    refine (⟨g6.1, ?_⟩ : us = [] ∧ Rel κ w (.agg y0) v)
    have g7 := g6.2
    simp only [Rel] at g7 ⊢
    obtain ⟨vs, e, ho, hr⟩ := g7
    exact ⟨vs, e, leDs_all hl ho, hr.deep hl⟩
  · have g6 : us = [] ∧ Rel κ w (.imm es c) v := hr
    have g7 := Rel.deep _ _ _ g6.2 hl
    simp only [leD] at hl
    obtain ⟨es', c', rfl, _⟩ := hl
    exact ⟨g6.1, g7⟩
theorem leRs.ret {κ : Kn} {w : World} : ∀ {ps qs : List PV} {vs : List Value} {us : List Nat}, leRs ps qs → RetNs κ w ps vs us → RetNs κ w qs vs us
  | [], qs, vs, us, h, hr => by simp only [leRs] at h; subst h; exact hr
  | p :: ps, qs, vs, us, h, hr => by
    simp only [leRs] at h
    obtain ⟨q, qs', rfl, h1, h2⟩ := h
    obtain ⟨v, vs', u, us', rfl, rfl, g1, g2⟩ := hr
    exact ⟨v, vs', u, us', rfl, rfl, h1.ret g1, leRs.ret h2 g2⟩
theorem CallSpec.deepT {C : Ctx} {f : FuncId} {args : List PV} {ps qs : List PV} (h : CallSpec C f args (.tup ps)) (hl : leRs ps qs) : CallSpec C f args (.tup qs) :=
  ⟨h.1, fun w fz vs h1 h2 h3 => (h.2 w fz vs h1 h2 h3).mono fun e w' ⟨v, us, g1, g2, g3, g4, g5⟩ => ⟨v, us, g1, g2, g3, g4, by
    simp only [RetTop] at g5 ⊢
    obtain ⟨xs, e, g6⟩ := g5
    exact ⟨xs, e, leRs.ret hl g6⟩⟩⟩
end Go.Ab
end

section
/- branch.Cut and ledger.Cut. -/
set_option maxRecDepth 1000000
set_option maxHeartbeats 16000000
namespace Go.Ab
open Go Go.Proofs
theorem bd_QN : type_of% (And.intro @evNext.eq_1 (And.intro @fld (And.intro @nit (And.intro @nxE (And.intro @ovR (And.intro @evBin_seql (And.intro @evBin_sneq (And.intro @str.eq_1 (And.intro @u8.eq_1 (And.intro @encBrs.eq_1 (And.intro @cBr.eq_1 (And.intro @encLdg.eq_1 (And.intro @encKws.eq_1 (And.intro @cKw.eq_1 (And.intro @encEvss.eq_1 (And.intro @encEvs.eq_1 (And.intro @cEv.eq_1 (And.intro @encMks.eq_1 (And.intro @cMk.eq_1 (And.intro @tk2 (And.intro @tk3 (And.intro @List.set_cons_succ.{0} (And.intro @List.getElem?_cons_zero.{0} (And.intro @List.getElem?_cons_succ.{0} (@List.length_set.{0}))))))))))))))))))))))))) := And.intro @evNext.eq_1 (And.intro @fld (And.intro @nit (And.intro @nxE (And.intro @ovR (And.intro @evBin_seql (And.intro @evBin_sneq (And.intro @str.eq_1 (And.intro @u8.eq_1 (And.intro @encBrs.eq_1 (And.intro @cBr.eq_1 (And.intro @encLdg.eq_1 (And.intro @encKws.eq_1 (And.intro @cKw.eq_1 (And.intro @encEvss.eq_1 (And.intro @encEvs.eq_1 (And.intro @cEv.eq_1 (And.intro @encMks.eq_1 (And.intro @cMk.eq_1 (And.intro @tk2 (And.intro @tk3 (And.intro @List.set_cons_succ.{0} (And.intro @List.getElem?_cons_zero.{0} (And.intro @List.getElem?_cons_succ.{0} (@List.length_set.{0}))))))))))))))))))))))))
def newBrs (l : List Br) : PV := .new 3 (l.map cBr)
theorem litBr {g : List Br} : (g.map cBr).all (fun e => e.all isLit) = true := by
  simp only [List.all_map, List.all_eq_true]; intro x _; rfl
theorem flBr {g : List Br} : ((g.map cBr).all fun e => e.all flat) = true := by
  simp only [List.all_map, List.all_eq_true]; intro x _; rfl
theorem scalBrT {l : List Br} {n : Int} : scal (.tup [newBrs l, i64 n]) = true := by
  simp only [scal, scal1, newBrs, List.all_map, List.all_eq_true, List.all_cons, List.all_nil, Bool.and_true, Bool.and_eq_true, i64]
  intro x _; rfl
theorem scalBr {l : List Br} : scal (newBrs l) = true := by
  simp only [scal, scal1, newBrs, List.all_map, List.all_eq_true]
  intro x _; rfl
theorem bldBrC : ∀ a b c, evBuild cx 51 [(0, .lit a), (1, .lit b), (2, .lit c)] = some (.agg [.lit a, .lit b, .lit c]) := fun _ _ _ => by kernel_rfl
def bcutE (l : List Br) (cs : List Int) (frm nm : Str) (k : Int) : Int := if (bview l cs frm).2 ≠ 0 then (bview l cs frm).2 else if k < 0 ∨ ((bview l cs frm).1.length : Int) < k then 2 else bchk (l ++ [⟨nm, frm, k⟩])
theorem d_bCut (l : List Br) (cs : List Int) (frm nm : Str) (k : Int) (hl : l.length ≤ 2^40) (hc : cs.length ≤ 2^40) :
    CallSpec cx 111 [encBrs l, encL cs, str frm, str nm, i64 k] (.tup [newBrs (if bcutE l cs frm nm k = 0 then l ++ [⟨nm, frm, k⟩] else []), i64 (bcutE l cs frm nm k)]) := by
  refine callSpec_of_vc Tryz.func111 rfl (by decide) (by kernel_rfl) (Nat.le_of_ble_eq_true rfl) ?_
  try simp -dsimp (disch := omega) only [↓bp0, bd0, bd_QN, evStore, evRange, Tryz.f111, simprocAttr]
  refine CallQ.imm (d_View l cs frm (by omega) (by omega)) (by rfl) (by first | rfl | (simp -dsimp (disch := omega) only [↓bp0, bd0, bd_QN, evStore, evRange, drcs, drc, flat, simprocAttr]; done) | simp -dsimp [evl, drcs, drc, flat, i64, u32, bl, encL, encB, encLL]) (by first | exact .inl rfl | exact .inr rfl | exact .inr scalB | exact .inr scalI | exact .inr scalT | exact .inr scalM | exact .inr scalMT | exact .inr scalBr | exact .inr scalBrT) ?_
  cases h0 : decide ((bview l cs frm).2 = 0)
  · have e1 : bcutE l cs frm nm k = (bview l cs frm).2 := by rw [bcutE, if_pos (of_decide_eq_false h0)]
    rw [e1, if_neg (of_decide_eq_false h0), newBrs]
    simp -dsimp (disch := omega) only [↓bp0, bd0, bd_QN, evStore, evRange, retQ, resL, finL, newL, flat, tupOf, List.toList_toArray, Tryz.f111, h0, newMks, simprocAttr]
    exact ⟨.inr ⟨rfl, 3, rfl⟩, .rfl', trivial⟩
  have h0' := of_decide_eq_true h0
  cases h1 : decide (k < 0)
  case true =>
    have e1 : bcutE l cs frm nm k = 2 := by rw [bcutE, if_neg (by rw [Decidable.not_not]; exact h0'), if_pos (.inl (of_decide_eq_true h1))]
    rw [e1, if_neg (by decide), newBrs]
    simp -dsimp (disch := omega) only [↓bp0, bd0, bd_QN, evStore, evRange, retQ, resL, finL, newL, flat, tupOf, List.toList_toArray, Tryz.f111, h0, h1, newMks, simprocAttr]
    exact ⟨.inr ⟨rfl, 3, rfl⟩, .rfl', trivial⟩
  cases h2 : decide (((bview l cs frm).1.length : Int) < k)
  case true =>
    have e1 : bcutE l cs frm nm k = 2 := by rw [bcutE, if_neg (by rw [Decidable.not_not]; exact h0'), if_pos (.inr (of_decide_eq_true h2))]
    rw [e1, if_neg (by decide), newBrs]
    simp -dsimp (disch := omega) only [↓bp0, bd0, bd_QN, evStore, evRange, retQ, resL, finL, newL, flat, tupOf, List.toList_toArray, Tryz.f111, h0, h1, h2, newMks, List.length_map, simprocAttr]
    exact ⟨.inr ⟨rfl, 3, rfl⟩, .rfl', trivial⟩
  have e1 : bcutE l cs frm nm k = bchk (l ++ [⟨nm, frm, k⟩]) := by rw [bcutE, if_neg (by rw [Decidable.not_not]; exact h0'), if_neg (by rw [not_or]; exact ⟨of_decide_eq_false h1, of_decide_eq_false h2⟩)]
  rw [e1]
  have hbd : (l.length + 1) * 40 ≤ 140737488355328 := by omega
  have hK := d_Check (l ++ [⟨nm, frm, k⟩]) (by rw [List.length_append, List.length_singleton]; omega)
  try simp -dsimp (disch := omega) only [↓bp0, bd0, bd_QN, evStore, evRange, h0, h1, h2, newMks, List.length_map, simprocAttr]
  refine CallQ.thaw (clN_Br l (by omega)) (by rfl) (by first | rfl | (simp -dsimp (disch := omega) only [↓bp0, bd0, bd_QN, evStore, evRange, drcs, drc, flat, encBrs, simprocAttr]; done)) litBr ?_
  have hfl : ((l.map cBr ++ [[PV.lit (Value.string nm), PV.lit (Value.string frm), PV.lit (Value.int .i64 k)]]).all fun e => e.all flat) = true := by rw [List.all_append, flBr]; rfl
  have hT : List.take (l.length + 1) (l.map cBr ++ [[PV.lit (Value.string nm), PV.lit (Value.string frm), PV.lit (Value.int .i64 k)]]) = l.map cBr ++ [[PV.lit (Value.string nm), PV.lit (Value.string frm), PV.lit (Value.int .i64 k)]] := List.take_of_length_le (by simp)
  try simp -dsimp (disch := omega) only [↓bp0, bd0, bd_QN, evStore, evRange, bldBrC, List.length_map, hbd, simprocAttr]
  refine CallQ.imm (hK) (by rfl) (by first | rfl | (simp -dsimp (disch := omega) only [↓bp0, bd0, bd_QN, evStore, evRange, drcs, drc, flat, List.length_map, List.map_append, List.map_cons, List.map_nil, List.length_append, List.length_cons, List.length_nil, Nat.zero_add, List.drop_zero, hfl, hT, Nat.le_refl, simprocAttr]; done) | simp -dsimp [evl, drcs, drc, flat, i64, u32, bl, encL, encB, encLL]) (by first | exact .inl rfl | exact .inr rfl | exact .inr scalB | exact .inr scalI | exact .inr scalT | exact .inr scalM | exact .inr scalMT | exact .inr scalBr | exact .inr scalBrT) ?_
  cases h3 : decide (bchk (l ++ [⟨nm, frm, k⟩]) = 0)
  · rw [if_neg (of_decide_eq_false h3), newBrs]
    simp -dsimp (disch := omega) only [↓bp0, bd0, bd_QN, evStore, evRange, retQ, resL, finL, newL, flat, tupOf, List.toList_toArray, Tryz.f111, h3, simprocAttr]
    exact ⟨.inr ⟨rfl, 3, rfl⟩, .rfl', trivial⟩
  rw [if_pos (of_decide_eq_true h3), of_decide_eq_true h3, newBrs]
  simp -dsimp (disch := omega) only [↓bp0, bd0, bd_QN, evStore, evRange, retQ, resL, finL, newL, flat, tupOf, List.toList_toArray, Tryz.f111, h3, List.length_map, List.map_append, List.map_cons, List.map_nil, List.length_append, List.length_cons, List.length_nil, Nat.zero_add, List.drop_zero, hfl, hT, Nat.le_refl, simprocAttr]
  exact leT_refl _
theorem lcutE_b {l : Ldg} {frm nm : Str} {k : Int} (h : lchk l = 0) : lcutE l frm nm k = bcutE l.brs (cnts l) frm nm k := by
  have e : lview l frm = bview l.brs (cnts l) frm := by rw [lview, if_neg (by rw [Decidable.not_not]; exact h)]
  rw [lcutE, e]; rfl
theorem lcutE_n {l : Ldg} {frm nm : Str} {k : Int} (h : lchk l ≠ 0) : lcutE l frm nm k = lchk l := by
  have e : (lview l frm).2 = lchk l := by rw [lview, if_pos h]
  rw [lcutE, e, if_pos h]
theorem drRows_snoc {σ : Store} {v : Value} : ∀ {rs ds : List (List PV)}, drRows σ rs = some ds → drRows σ (rs ++ [[.lit v]]) = some (ds ++ [[.lit v]])
  | [], ds, h => by simp only [drRows, Option.some.injEq] at h; subst h; rfl
  | r :: rs, ds, h => by
    simp only [List.cons_append, drRows] at h ⊢
    cases h1 : dr1s σ r with
    | none => rw [h1] at h; cases h
    | some a =>
      cases h2 : drRows σ rs with
      | none => rw [h1, h2] at h; cases h
      | some b =>
        rw [h1, h2] at h
        simp only [Option.some.injEq] at h
        subst h
        rw [drRows_snoc h2]; rfl
theorem leDR_snoc {a b : List PV} (h : leDs a b) : ∀ X : List (List PV), leDR (X ++ [a]) (X ++ [b])
  | [] => by simp only [List.nil_append, leDR]; exact ⟨b, [], rfl, h, rfl⟩
  | x :: X => by simp only [List.cons_append, leDR]; exact ⟨x, X ++ [b], rfl, leDs_refl x, leDR_snoc h X⟩
def encCutR (l : Ldg) (frm nm : Str) (k : Int) : PV := if lcutE l frm nm k = 0 then .agg [encKws l.known, encBrs (l.brs ++ [⟨nm, frm, k⟩]), .imm ((l.evs.map fun x => [encEvs x]) ++ [[.lit (.slice none 0 0)]]) false] else .agg [.lit (.slice none 0 0), .lit (.slice none 0 0), .lit (.slice none 0 0)]
def encCut (l : Ldg) (frm nm : Str) (k : Int) : PV := if lcutE l frm nm k = 0 then encLdg (addB l ⟨nm, frm, k⟩) else .agg [.lit (.slice none 0 0), .lit (.slice none 0 0), .lit (.slice none 0 0)]
theorem d_lCutR (l : Ldg) (frm nm : Str) (k : Int) (hz : LSz l) : CallSpec cx 55 [encLdg l, str frm, str nm, i64 k] (.tup [encCutR l frm nm k, i64 (lcutE l frm nm k)]) := by
  refine callSpec_of_vc Tryz.func55 rfl (by decide) (by kernel_rfl) (Nat.le_of_ble_eq_true rfl) ?_
  try simp -dsimp (disch := omega) only [↓bp0, bd0, bd_QN, evStore, evRange, Tryz.f55, zLdg, simprocAttr]
  refine CallQ.imm (d_lCheck l hz.known (by have := hz.brs; omega) (by have := hz.evs; omega) hz.ev) (by rfl) (by rfl) (by first | exact .inl rfl | exact .inr rfl | exact .inr scalB | exact .inr scalI | exact .inr scalT | exact .inr scalM | exact .inr scalMT | exact .inr scalBr | exact .inr scalBrT) ?_
  cases h0 : decide (lchk l = 0)
  · have h0' := of_decide_eq_false h0
    rw [encCutR, lcutE_n h0', if_neg h0']
    try simp -dsimp (disch := omega) only [↓bp0, bd0, bd_QN, evStore, evRange, h0, zLdg, simprocAttr]
    simp -dsimp (disch := omega) only [↓bp0, bd0, bd_QN, evStore, evRange, retQ, resL, finL, newL, flat, tupOf, List.toList_toArray, Tryz.f55, h0, zLdg, drcs, drc, simprocAttr]
    exact leT_refl _
  have h0' := of_decide_eq_true h0
  have hok := lok_of h0'
  rw [encCutR, lcutE_b h0']
  have hcl : (cnts l).length ≤ 2^40 := by rw [cnts_len]; exact hz.evs
  try simp -dsimp (disch := omega) only [↓bp0, bd0, bd_QN, evStore, evRange, h0, zLdg, simprocAttr]
  first | refine vc_text (by kernel_rfl) ?_ | skip
  try simp -dsimp (disch := omega) only [↓bp0, bd0, bd_QN, evStore, evRange, h0, zLdg, simprocAttr]
  refine CallY.imm (d_counts l hz.evs hz.ev) (by rfl) (by rfl) (by first | exact .inl rfl | exact .inr rfl | exact .inr scalB | exact .inr scalI | exact .inr scalT | exact .inr scalM | exact .inr scalMT | exact .inr scalBr | exact .inr scalBrT) ?_
  try simp -dsimp (disch := omega) only [↓bp0, bd0, bd_QN, evStore, evRange, newI, simprocAttr]
  refine CallY.imm (d_bCut l.brs (cnts l) frm nm k hz.brs hcl) (by rfl) (by rfl) (by first | exact .inl rfl | exact .inr rfl | exact .inr scalB | exact .inr scalI | exact .inr scalT | exact .inr scalM | exact .inr scalMT | exact .inr scalBr | exact .inr scalBrT) ?_
  cases h1 : decide (bcutE l.brs (cnts l) frm nm k = 0)
  · have h1' := of_decide_eq_false h1
    rw [if_neg h1', if_neg h1']
    try simp -dsimp (disch := omega) only [↓bp0, bd0, bd_QN, evStore, evRange, h1, zLdg, newBrs, simprocAttr]
    simp -dsimp (disch := omega) only [↓bp0, bd0, bd_QN, evStore, evRange, retQ, resL, finL, newL, flat, tupOf, List.toList_toArray, Tryz.f55, h1, zLdg, drcs, drc, simprocAttr]
    exact leT_refl _
  have h1' := of_decide_eq_true h1
  rw [if_pos h1', if_pos h1']
  try simp -dsimp (disch := omega) only [↓bp0, bd0, bd_QN, evStore, evRange, h1, zLdg, newBrs, simprocAttr]
  refine CallQ.inm (m_clone l hz.known hz.brs (by have := hok.vok.pos; have := hok.len; omega) hz.evs hz.ev _ _) (by rfl) ?_
  rintro r τ nx3 ⟨E, vr, rs, rfl, r2, r3, r4, r5, r6⟩
  have r4' : 2 ≤ E := r4
  have r5' : E < nx3 := r5
  have a1 : τ 1 = some (.row 0 3 [[.lit (.slice none 0 0), .lit (.slice none 0 0), .lit (.slice none 0 0)]] false) := (r6 1 (show 1 < 2 by omega)).trans (by simp -dsimp (disch := omega) only [↓bp0, bd0, bd_QN, evStore, evRange, newBrs, simprocAttr])
  have r3' : CR τ E nx3 2 rs l.evs := r3
  have hrl := CR.len r3'
  clear r6 r4 r3
  have b7 : ∀ τ' : Store, (∀ j, 2 ≤ j → j < nx3 → j ≠ E → τ' j = τ j) → drRows τ' (rs ++ [[.lit (.slice none 0 0)]]) = some ((l.evs.map fun e => [encEvs e]) ++ [[.lit (.slice none 0 0)]]) := fun τ' k2 =>
    drRows_snoc (CR.read (CR.congr (Nat.le_refl _) (fun j q1 q2 q3 => k2 j q1 q2 q3) r3'))
  have hfl : ((rs ++ [[PV.lit (.slice none 0 0)]]).all fun e => e.all flat) = false := by
    have h0 : 0 < l.evs.length := by have := hok.vok.pos; have := hok.len; omega
    obtain ⟨own, hx, _⟩ := get_of_lt h0
    obtain ⟨ide, ve, b1, _⟩ := CR.at r3' hx
    exact List.all_eq_false.2 ⟨_, List.mem_append_left _ (List.mem_of_getElem? b1), Bool.false_ne_true⟩
  have htk : List.take (l.evs.length + 1) (rs ++ [[PV.lit (.slice none 0 0)]]) = rs ++ [[PV.lit (.slice none 0 0)]] := List.take_of_length_le (by rw [List.length_append, List.length_singleton]; omega)
  have htr : List.take l.evs.length rs = rs := List.take_of_length_le (by omega)
  have h24 : ((l.evs.length + 1) * 24 ≤ 140737488355328) = True := eq_true (by have := hz.evs; omega)
  have F0a : (nx3 = E) = False := eq_false (by omega)
  have F0b : (E = nx3) = False := eq_false (by omega)
  have F1a : (nx3 = 1) = False := eq_false (by omega)
  have F1b : (1 = nx3) = False := eq_false (by omega)
  have F2a : (nx3 + 1 = E) = False := eq_false (by omega)
  have F2b : (E = nx3 + 1) = False := eq_false (by omega)
  have F3a : (nx3 + 1 = 1) = False := eq_false (by omega)
  have F3b : (1 = nx3 + 1) = False := eq_false (by omega)
  have F4a : (nx3 + 1 = nx3) = False := eq_false (by omega)
  have F4b : (nx3 = nx3 + 1) = False := eq_false (by omega)
  have F5a : (E = 1) = False := eq_false (by omega)
  have F5b : (1 = E) = False := eq_false (by omega)
  try simp -dsimp (disch := omega) only [↓bp0, bd0, bd_QN, evStore, evRange, F0a, F0b, F1a, F1b, F2a, F2b, F3a, F3b, F4a, F4b, F5a, F5b, a1, r2, hrl, htr, h24, newBrs, simprocAttr]
  simp -dsimp (disch := omega) only [↓bp0, bd0, bd_QN, evStore, evRange, retQ, resL, finL, newL, flat, tupOf, List.toList_toArray, Tryz.f55, F0a, F0b, F1a, F1b, F2a, F2b, F3a, F3b, F4a, F4b, F5a, F5b, a1, r2, hrl, hfl, htk, h24, List.length_append, List.length_singleton, List.drop_zero, Nat.zero_add, Nat.le_refl, drcs, drc, Bool.false_eq_true, and_false, and_true, simprocAttr]
  rw [b7, h1']
  · exact leT_refl (PV.tup [PV.agg [PV.imm (l.known.map cKw) false, PV.imm (l.brs.map cBr ++ [[PV.lit (Value.string nm), PV.lit (Value.string frm), PV.lit (Value.int .i64 k)]]) false, PV.imm ((l.evs.map fun e => [encEvs e]) ++ [[PV.lit (.slice none 0 0)]]) false], PV.lit (Value.int .i64 0)])
  · intro j k1 k2 k3
    repeat (refine (putNe (by omega)).trans ?_)
    rfl
theorem d_lCut (l : Ldg) (frm nm : Str) (k : Int) (hz : LSz l) : CallSpec cx 55 [encLdg l, str frm, str nm, i64 k] (.tup [encCut l frm nm k, i64 (lcutE l frm nm k)]) := by
  refine (d_lCutR l frm nm k hz).deepT ?_
  refine ⟨_, _, rfl, ?_, _, _, rfl, .inl rfl, rfl⟩
  unfold encCutR encCut
  split
  · refine .inr (.inl ⟨_, _, rfl, rfl, ?_⟩)
    simp only [leDs]
    refine ⟨_, _, rfl, leD_refl _, _, _, rfl, leD_refl _, _, _, rfl, ?_, rfl⟩
    unfold encEvss leD
    refine ⟨_, _, rfl, .inl rfl, ?_⟩
    simp only [addB, List.map_append, List.map_cons, List.map_nil]
    refine leDR_snoc ?_ _
    simp only [leDs]
    exact ⟨_, _, rfl, by unfold leD; exact .inr ⟨rfl, rfl⟩, rfl⟩
  · exact .inl rfl
end Go.Ab
end

section
/- Loops over functions: the rule. -/
namespace Go.Ab
open Go Go.RowKit
def SeqC (P : Program) (gf : FuncId) (lb : Array Value) (encs : Nat → Array Value) (M : Nat) (Kp : World → World → Prop) (w : World) : Prop :=
  ∀ (n l : Nat) (J : Nat → World → Prop) (Jx : World → Prop) (W : World), Kp w W →
    (∀ k W1, J k W1 → k < M → YieldAt (wd none) (n - 1) P l (encs k) W1 fun e W' => (e = .returned (.bool true) ∧ J (k + 1) W' ∧ Kp W1 W') ∨ (e = .returned (.bool false) ∧ Jx W')) →
    J 0 W → CallsIn (wd none) n P gf (#[.func (.yield l) #[] #[]] ++ lb) W fun e W' => (∃ v, e = .returned v) ∧ (J M W' ∨ Jx W')
def IterSpec (C : Ctx) (gf : FuncId) (caps : List PV) (encs : Nat → List PV) (M : Nat) : Prop :=
  (∀ args w, (callFunc gf args).run C.P w = .ok (.enter gf args) w) ∧ ∀ (κ : Kn) (w : World) (lb : Array Value), (∀ b, κ.fz b → b < w.heap.size) → RelList κ w caps lb.toList →
    ∃ evs : Nat → Array Value, (∀ k, k < M → RelList κ w (encs k) (evs k).toList) ∧ SeqC C.P gf lb evs M (fun A B => ∀ b, κ.fz b → B.heap[b]? = A.heap[b]?) w
def putsE (e : Env) : List Nat → List PV → Env
  | t :: ts, p :: ps => putsE (e.put t p) ts ps
  | _, _ => e
def rndQ (env : Env) (I : Store → Nat → Prop) (Q : Exit → St → Prop) : Exit → St → Prop
  | .normal, s => ∃ s', Weak s s' ∧ I s'.σ s'.nx
  | .ret, s => Q .ret ⟨env, s.σ, s.nx⟩
  | .exit i, s => Q (.exit i) ⟨env, s.σ, s.nx⟩
  | .goto l, s => Q (.goto l) ⟨env, s.σ, s.nx⟩
  | _, _ => False
section
variable {C : Ctx} {N : Nat}
theorem Sim.puts {κ : Kn} {w : World} : ∀ (ts : List Nat) (ps : List PV) (vs : List Value) (st : St) (a : Act), (∀ t ∈ ts, t < N) → ts.length = ps.length → RelList κ w ps vs → Sim C N κ st a w →
    Sim C N κ { st with env := putsE st.env ts ps } { a with tmps := (ts.zip vs).foldl (fun t (p, v) => t.setIfInBounds p v) a.tmps } w
  | [], [], vs, st, a, _, _, h, s => by
    simp only [putsE, List.zip_nil_left, List.foldl_nil]; exact s
  | t :: ts, p :: ps, vs, st, a, ht, hl, h, s => by
    simp only [RelList] at h
    obtain ⟨v, vs', rfl, h1, h2⟩ := h
    have s1 := s.put (d := some t) (fun t' e => by cases e; exact ht _ (by simp)) h1
    exact Sim.puts ts ps vs' (st.put (some t) p) (a.put (some t) v) (fun t' h' => ht t' (by simp [h'])) (by simpa using hl) h2 s1
  | [], _ :: _, _, _, _, _, hl, _, _ => by simp at hl
  | _ :: _, [], _, _, _, _, hl, _, _ => by simp at hl
theorem Sim.reEnv {κ : Kn} {w : World} {st : St} {a a' : Act} {env : Env} (s : Sim C N κ st a w) (hz : a'.tmps.size = N) (he : ∀ t v, env t = some v → t < N ∧ Rel κ w v (a'.tmps.getD t undef)) : Sim C N κ ⟨env, st.σ, st.nx⟩ a' w :=
  ⟨trivial, hz, he, s.blk, s.dist, s.nfz, s.yfz, s.fzlt, s.fresh, s.later, s.glob⟩
theorem not_own {κ : Kn} {w : World} {st : St} {a : Act} (s : Sim C N κ st a w) {b : Nat} {o : Obj} (h : w.heap[b]? = some o) (ho : (∃ d, o = .deferred d) ∨ ∃ l, o = .loop l) : ∀ i B, st.σ i = some B → ¬ BlkAt κ i B b := fun i B hB hb => by
  obtain ⟨o', h1, h2, h3⟩ := hb.obj (s.blk i B hB).2
  rw [h] at h1
  cases h1
  rcases ho with ⟨d, rfl⟩ | ⟨l, rfl⟩
  · exact h2 _ rfl
  · exact h3 _ rfl
theorem Sim.recT {κ : Kn} {w : World} {st : St} {a : Act} (s : Sim C N κ st a w) {b : Nat} {l : Loop} {o' : Obj} (h : w.heap[b]? = some (.loop l)) : Sim C N κ st a (w.putObj b o') :=
  s.turn (cells_putObj h rfl) (by simp) fun i B b' hB hb => World.putObj_heap_other fun e => not_own s h (.inr ⟨l, rfl⟩) i B hB (e ▸ hb)
theorem Evo.kept {κ κ' : Kn} {w w' : World} {st : St} {σ' : Store} {a : Act} (e : Evo κ st.σ w κ' σ' w') (s : Sim C N κ st a w) {b : Nat} {o : Obj} (h : w.heap[b]? = some o) (ho : (∃ d, o = .deferred d) ∨ ∃ l, o = .loop l) : w'.heap[b]? = some o :=
  (e.keep b (Array.getElem?_eq_some_iff.1 h).1 fun ⟨i, B, h1, _, h3⟩ => not_own s h ho i B h1 h3).1.trans h
set_option maxHeartbeats 400000 in
theorem RangeQ.rule {g : Operand} {ps : Array Tmp} {assign body : Code} {st : St} {Q : Exit → St → Prop} {gf : FuncId} {caps : List PV} {encs : Nat → List PV} {M : Nat} (Inv : Nat → Store → Nat → Prop)
    (hg : rd C st.env g = some (.clo (.func gf) [] caps)) (hit : IterSpec C gf caps encs M) (hlen : ∀ k, (encs k).length = ps.size) (hnr : (norng assign && norng body) = true)
    (st0 : St) (hw0 : Weak st st0) (h0 : Inv 0 st0.σ st0.nx)
    (hs : ∀ k σ nx, k < M → Inv k σ nx → vc C N assign ⟨putsE st.env ps.toList (encs k), σ, nx⟩ (thenQ (fun s => vc C N body s (rndQ st.env (Inv (k + 1)) Q)) (fun _ _ => False)))
    (hdone : ∀ σ nx, Inv M σ nx → Q .normal ⟨st.env, σ, nx⟩) : RangeQ C N g ps assign body st Q := by
  intro ho rdd m hrd κ a w s
  simp only [okCode, Bool.and_eq_true] at ho
  simp only [Bool.and_eq_true] at hnr
  obtain rfl : rdd = none := hrd.resolve_right (by simp [norng])
  have hgv := rd_sound s hg
  simp only [Rel] at hgv
  obtain ⟨fs, cs, hgv, hfs, hcs⟩ := hgv
  have hfs' : fs = #[] := by simp only [RelList] at hfs; exact Array.toList_eq_nil_iff.1 hfs
  subst hfs'
  obtain ⟨evs, hev, hseq⟩ := hit.2 κ w cs s.fzlt hcs
  have hps : ∀ t ∈ ps.toList, t < N := fun t ht => by
    have := Array.all_eq_true_iff_forall_mem.1 ho.1.1 t (Array.mem_toList_iff.1 ht)
    simpa using this
  refine wpIn_rangeFunc fun fn hfn => ?_
  obtain ⟨rec, hrec⟩ : ∃ rec : LoopState → Option Code → Loop, rec = fun st pe => { state := st, pending := pe, fn, tmps := a.tmps, params := ps, assign, body, defers := w.heap.size } := ⟨_, rfl⟩
  obtain ⟨W1, hW1⟩ : ∃ W1, (w.alloc (.deferred (some []))).alloc (.loop (rec .ready none)) = W1 := ⟨_, rfl⟩
  have hL1 : W1.heap[w.heap.size + 1]? = some (.loop (rec .ready none)) := by
    rw [← hW1]; have := World.alloc_heap_new (w.alloc (.deferred (some []))) (.loop (rec .ready none)); rwa [World.size_alloc] at this
  have hold : ∀ b, b < w.heap.size → W1.heap[b]? = w.heap[b]? := fun b hb => by
    rw [← hW1]; exact (Below.heap_alloc _ _ _ (by simp; omega)).trans (Below.heap_alloc _ _ _ hb)
  have hD1 : W1.heap[w.heap.size]? = some (.deferred (some [])) := by
    rw [← hW1]; exact (Below.heap_alloc _ _ _ (by simp)).trans (World.alloc_heap_new w _)
  have hsz1 : w.heap.size ≤ W1.heap.size := by rw [← hW1]; simp; omega
  have ev1 : Evo κ st.σ w κ st.σ W1 := Evo.grow (.refl κ) hold hsz1 (by rw [← hW1]; rfl) (by rw [← hW1]; rfl) (by rw [← hW1]; exact ⟨rfl, Nat.le_refl _⟩) (fun _ h => .inl h) (fun _ _ => rfl) (fun _ => rfl)
  have s1 : Sim C N κ st a W1 := s.grow (.refl κ) hold hsz1 (fun _ h => .inl h) (fun _ _ => rfl) (fun _ => rfl)
  have hcall : CallsIn (wd none) (m - 1) C.P gf (#[.func (.yield (w.heap.size + 1)) #[] #[]] ++ cs) W1 (rangePost (wd none) m C.P (w.heap.size + 1) (fun e a' w' => ∃ κ' st', Q e st' ∧ Sim C N κ' st' a' w' ∧ Evo κ st.σ w κ' st'.σ w' ∧ DfOk κ' st'.σ a w a' w') { a with defers := [mrk w.heap.size] ++ a.defers }) := by
    refine (hseq (m - 1) (w.heap.size + 1)
      (fun k W => ∃ κk σk nxk, Inv k σk nxk ∧ Sim C N κk ⟨st.env, σk, nxk⟩ a W ∧ Evo κ st.σ w κk σk W ∧ W.heap[w.heap.size + 1]? = some (.loop (rec .ready none)) ∧ W.heap[w.heap.size]? = some (.deferred (some [])))
      (fun W => ∃ c e κk σk nxk, (∀ (a' : Act) (w' : World) (Q' : Exit → Act → World → Prop), Q' e a' w' → c.wpIn (wd none) m C.P Q' a' w') ∧ Q e ⟨st.env, σk, nxk⟩ ∧ Sim C N κk ⟨st.env, σk, nxk⟩ a W ∧ Evo κ st.σ w κk σk W ∧
        W.heap[w.heap.size + 1]? = some (.loop (rec .done (some c))) ∧ W.heap[w.heap.size]? = some (.deferred (some [])))
      W1 (fun b hb => hold b (s.fzlt b hb)) ?_ ⟨κ, st0.σ, st0.nx, h0, (s1.weak hw0).reEnv s.size fun t v ht => s1.env t v ht, ev1.trans (Evo.weak κ W1 hw0), hL1, hD1⟩).mono ?_
    · rintro k W ⟨κk, σk, nxk, hI, hsk, hek, hl, hd⟩ hk
      have hrl := hek.relList s (hev k hk)
      have hsize : (evs k).size = ps.size := by
        have h1 := relList_length _ _ hrl
        rw [← hlen k, ← h1]; simp
      have hy := run_yield (P := C.P) (args := evs k) hl (by rw [hrec]; exact hsize)
      rw [hrec] at hy
      refine ⟨fn, _, assign, body, hy, roundIn_of_wpIn hfn ?_⟩
      have hsim := Sim.puts ps.toList (encs k) (evs k).toList ⟨st.env, σk, nxk⟩ { a with defers := [] } hps (by rw [hlen]; simp) hrl ⟨trivial, hsk.size, hsk.env, hsk.blk, hsk.dist, hsk.nfz, hsk.yfz, hsk.fzlt, hsk.fresh, hsk.later, hsk.glob⟩
      have hfold : (ps.zip (evs k)).foldl (fun tmps (t, a) => tmps.setIfInBounds t a) a.tmps = (ps.toList.zip (evs k).toList).foldl (fun t (p, v) => t.setIfInBounds p v) a.tmps := by
        rw [← Array.foldl_toList, Array.toList_zip]
      simp only at hfold ⊢
      rw [hfold]
      refine wpIn_mono (vc_sound assign _ _ ho.1.2 (hs k σk nxk hk hI) (some (w.heap.size + 1)) (m - 1 - 1) (.inr hnr.1) κk _ W hsim) ?_
      rintro e a2 W2 ⟨κ2, st2, q, s2, ev2, _⟩
      cases e with
      | normal =>
        have hl2 := ev2.kept hsim hl (.inr ⟨_, rfl⟩)
        have hd2 := ev2.kept hsim hd (.inl ⟨_, rfl⟩)
        have e2 : Evo κ st.σ w κ2 st2.σ W2 := hek.trans ev2
        obtain ⟨W3, hW3⟩ : ∃ W3, W2.putObj (w.heap.size + 1) (.loop { rec .ready none with state := .busy }) = W3 := ⟨_, rfl⟩
        have s3 : Sim C N κ2 st2 a2 W3 := by rw [← hW3]; exact s2.recT hl2
        have e3 : Evo κ st.σ w κ2 st2.σ W3 := by rw [← hW3]; exact e2.shut (by omega)
        have hl3 : W3.heap[w.heap.size + 1]? = some (.loop { rec .ready none with state := .busy }) := by rw [← hW3]; exact World.putObj_heap_same (Array.getElem?_eq_some_iff.1 hl2).1
        have hd3 : W3.heap[w.heap.size]? = some (.deferred (some [])) := by rw [← hW3]; exact (World.putObj_heap_other (by omega)).trans hd2
        refine ⟨W3, by rw [← hW3]; exact run_beginRound hl2 (by rw [hrec]), wpIn_mono (vc_sound body _ _ ho.2 q (some (w.heap.size + 1)) (m - 1 - 1) (.inr hnr.2) κ2 a2 W3 s3) ?_⟩
        rintro e a4 W4 ⟨κ4, st4, q4, s4, ev4, _⟩
        have hl4 := ev4.kept s3 hl3 (.inr ⟨_, rfl⟩)
        have hd4 := ev4.kept s3 hd3 (.inl ⟨_, rfl⟩)
        have e4 : Evo κ st.σ w κ4 st4.σ W4 := e3.trans ev4
        have hz : ∀ (W5 : World) (st5 : St), Sim C N κ4 st5 a4 W5 → Evo κ st.σ w κ4 st5.σ W5 → Sim C N κ4 ⟨st.env, st5.σ, st5.nx⟩ a W5 := fun W5 st5 s5 e5 => s5.reEnv s.size fun t v ht => ⟨(s.env t v ht).1, e5.rel s (s.env t v ht).2⟩
        have fin : ∀ jump : Option Code, (Instr.endRound (w.heap.size + 1) jump).run C.P W4 = .ok (.bool jump.isNone) (W4.putObj (w.heap.size + 1) (.loop (rec (if jump.isNone then .ready else .done) jump))) ∧
            (W4.putObj (w.heap.size + 1) (.loop (rec (if jump.isNone then .ready else .done) jump))).heap[w.heap.size + 1]? = some (.loop (rec (if jump.isNone then .ready else .done) jump)) ∧
            (W4.putObj (w.heap.size + 1) (.loop (rec (if jump.isNone then .ready else .done) jump))).heap[w.heap.size]? = some (.deferred (some [])) ∧
            Sim C N κ4 st4 a4 (W4.putObj (w.heap.size + 1) (.loop (rec (if jump.isNone then .ready else .done) jump))) ∧ Evo κ st.σ w κ4 st4.σ (W4.putObj (w.heap.size + 1) (.loop (rec (if jump.isNone then .ready else .done) jump))) := fun jump => by
          have := run_endRound (P := C.P) jump hl4
          simp only [hrec] at this
          refine ⟨by simp only [hrec]; exact this, World.putObj_heap_same (Array.getElem?_eq_some_iff.1 hl4).1, (World.putObj_heap_other (by omega)).trans hd4, s4.recT hl4, e4.shut (by omega)⟩
        cases e with
        | normal =>
          obtain ⟨s', hw', hI'⟩ := q4
          obtain ⟨f1, f2, f3, f4, f5⟩ := fin none
          have e5 := f5.trans (Evo.weak κ4 _ hw')
          exact ⟨_, _, f1, .inl ⟨rfl, ⟨κ4, s'.σ, s'.nx, hI', hz _ _ (f4.weak hw') e5, e5, f2, f3⟩, fun b hb => (e5.fzkeep s b hb).trans (hek.fzkeep s b hb).symm⟩⟩
        | ret =>
          obtain ⟨f1, f2, f3, f4, f5⟩ := fin (some .ret)
          exact ⟨_, _, f1, .inr ⟨rfl, .ret, .ret, κ4, st4.σ, st4.nx, fun _ _ _ h => wpIn_ret h, q4, hz _ _ f4 f5, f5, f2, f3⟩⟩
        | exit i =>
          obtain ⟨f1, f2, f3, f4, f5⟩ := fin (some (.exit i))
          exact ⟨_, _, f1, .inr ⟨rfl, .exit i, .exit i, κ4, st4.σ, st4.nx, fun _ _ _ h => wpIn_exit h, q4, hz _ _ f4 f5, f5, f2, f3⟩⟩
        | goto i =>
          obtain ⟨f1, f2, f3, f4, f5⟩ := fin (some (.goto i))
          exact ⟨_, _, f1, .inr ⟨rfl, .goto i, .goto i, κ4, st4.σ, st4.nx, fun _ _ _ h => wpIn_goto h, q4, hz _ _ f4 f5, f5, f2, f3⟩⟩
        | panic ch => exact q4.elim
        | outgrown => exact q4.elim
      | _ => exact q.elim
    · have hdf : ∀ (κk : Kn) (σk : Store) (nxk : Nat) (W : World), Sim C N κk ⟨st.env, σk, nxk⟩ a W → W.heap[w.heap.size]? = some (.deferred (some [])) → DfOk κk σk a w { a with defers := [mrk w.heap.size] ++ a.defers } W := fun κk σk nxk W hsk hd =>
        ⟨[w.heap.size], rfl, by simp, fun D hD => by
          obtain rfl : D = w.heap.size := by simpa using hD
          exact ⟨Nat.le_refl _, hd, fun ⟨i, B, h1, _, h3⟩ => not_own hsk hd (.inl ⟨_, rfl⟩) i B h1 h3⟩⟩
      rintro e W6 ⟨⟨v, rfl⟩, ⟨κk, σk, nxk, hI, hsk, hek, hl, hd⟩ | ⟨c, e, κk, σk, nxk, hc, hq, hsk, hek, hl, hd⟩⟩
      · have hs7 : Sim C N κk ⟨st.env, σk, nxk⟩ a (W6.putObj (w.heap.size + 1) (.loop { rec .ready none with state := .exhausted })) := hsk.recT hl
        have hd7 := (World.putObj_heap_other (w := W6) (o := .loop { rec .ready none with state := .exhausted }) (show w.heap.size ≠ w.heap.size + 1 by omega)).trans hd
        have hend : (Instr.endLoop (w.heap.size + 1)).run C.P W6 = .ok none (W6.putObj (w.heap.size + 1) (.loop { rec .ready none with state := .exhausted })) := by
          have := run_endLoop (P := C.P) hl (by rw [hrec]; simp)
          simp only [hrec] at this ⊢; exact this
        refine ⟨none, _, hend, ?_⟩
        exact ⟨κk, ⟨st.env, σk, nxk⟩, hdone σk nxk hI, ⟨trivial, hs7.size, hs7.env, hs7.blk, hs7.dist, hs7.nfz, hs7.yfz, hs7.fzlt, hs7.fresh, hs7.later, hs7.glob⟩, hek.shut (by omega), hdf _ _ _ _ hs7 hd7⟩
      · have hs7 : Sim C N κk ⟨st.env, σk, nxk⟩ a (W6.putObj (w.heap.size + 1) (.loop { rec .done (some c) with state := .exhausted })) := hsk.recT hl
        have hd7 := (World.putObj_heap_other (w := W6) (o := .loop { rec .done (some c) with state := .exhausted }) (show w.heap.size ≠ w.heap.size + 1 by omega)).trans hd
        have hend : (Instr.endLoop (w.heap.size + 1)).run C.P W6 = .ok (some c) (W6.putObj (w.heap.size + 1) (.loop { rec .done (some c) with state := .exhausted })) := by
          have := run_endLoop (P := C.P) hl (by rw [hrec]; simp)
          simp only [hrec] at this ⊢; exact this
        refine ⟨some c, _, hend, hc _ _ _ ?_⟩
        exact ⟨κk, ⟨st.env, σk, nxk⟩, hq, ⟨trivial, hs7.size, hs7.env, hs7.blk, hs7.dist, hs7.nfz, hs7.yfz, hs7.fzlt, hs7.fresh, hs7.later, hs7.glob⟩, hek.shut (by omega), hdf _ _ _ _ hs7 hd7⟩
  refine ⟨w.heap.size + 1, [mrk w.heap.size], W1, { target := .fn (.func gf) cs, args := #[.func (.yield (w.heap.size + 1)) #[] #[]] }, W1, gf, #[.func (.yield (w.heap.size + 1)) #[] #[]] ++ cs, W1, ?_, ?_, ?_, ?_, ?_, ?_⟩
  · rw [← hW1, hrec]; exact run_enterLoop_outer _ _ _ _ _
  · simp only [resolve, hgv]
    simp [go_sem]
  · intro f' _; trivial
  · have := hit.1 (#[.func (.yield (w.heap.size + 1)) #[] #[]] ++ cs) W1
    simp only [invoke]
    exact this
  · exact wd_depth
  · exact hcall
end
end Go.Ab
end
