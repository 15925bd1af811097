/- Abstract values: several results, in their depth. -/
import Derived.Test.YtgcodedanljhpaaGreatDoorAcAgg
import Derived.Test.YtgcodedanljhpaaGreatDoorOC
import Derived.Test.YtgcodedanljhpaaGreatDoorQO
set_option linter.unusedSimpArgs false
set_option linter.unusedVariables false
section
namespace Go.Ab
open Go
def leR1 (p q : PV) : Prop := p = q ∨ (∃ x0 y0, p = .agg x0 ∧ q = .agg y0 ∧ leDs x0 y0) ∨ (∃ es c, p = .imm es c ∧ leD p q)
def leRs : List PV → List PV → Prop
  | [], qs => qs = []
  | p :: ps, qs => ∃ q qs', qs = q :: qs' ∧ leR1 p q ∧ leRs ps qs'
theorem leR1.ret {κ : Kn} {w : World} {p q : PV} {v : Value} {us : List Nat} (h : leR1 p q) (hr : RetN1 κ w p v us) : RetN1 κ w q v us := by
  rcases h with rfl | ⟨x0, y0, rfl, rfl, hl⟩ | ⟨es, c, rfl, hl⟩
  · exact hr
  · have g6 : us = [] ∧ Rel κ w (.agg x0) v := hr
    refine (⟨g6.1, ?_⟩ : us = [] ∧ Rel κ w (.agg y0) v)
    have g7 := g6.2
    simp only [Rel] at g7 ⊢
    obtain ⟨vs, e, ho, hr⟩ := g7
    exact ⟨vs, e, leDs_all hl ho, hr.deep hl⟩
  · have g6 : us = [] ∧ Rel κ w (.imm es c) v := hr
    have g7 := Rel.deep _ _ _ g6.2 hl
    simp only [leD] at hl
    obtain ⟨es', c', rfl, _⟩ := hl
    exact ⟨g6.1, g7⟩
theorem leRs.ret {κ : Kn} {w : World} : ∀ {ps qs : List PV} {vs : List Value} {us : List Nat}, leRs ps qs → RetNs κ w ps vs us → RetNs κ w qs vs us
  | [], qs, vs, us, h, hr => by simp only [leRs] at h; subst h; exact hr
  | p :: ps, qs, vs, us, h, hr => by
    simp only [leRs] at h
    obtain ⟨q, qs', rfl, h1, h2⟩ := h
    obtain ⟨v, vs', u, us', rfl, rfl, g1, g2⟩ := hr
    exact ⟨v, vs', u, us', rfl, rfl, h1.ret g1, leRs.ret h2 g2⟩
end Go.Ab
end

section
/- branch.Cut and ledger.Cut. -/
set_option maxRecDepth 1000000
set_option maxHeartbeats 16000000
namespace Go.Ab
open Go Go.Proofs
def newBrs (l : List Br) : PV := .new 3 (l.map cBr)
theorem flBr {g : List Br} : ((g.map cBr).all fun e => e.all flat) = true := by
  simp only [List.all_map, List.all_eq_true]; intro x _; rfl
def bcutE (l : List Br) (cs : List Int) (frm nm : Str) (k : Int) : Int := if (bview l cs frm).2 ≠ 0 then (bview l cs frm).2 else if k < 0 ∨ ((bview l cs frm).1.length : Int) < k then 2 else bchk (l ++ [⟨nm, frm, k⟩])
def encCutR (l : Ldg) (frm nm : Str) (k : Int) : PV := if lcutE l frm nm k = 0 then .agg [encKws l.known, encBrs (l.brs ++ [⟨nm, frm, k⟩]), .imm ((l.evs.map fun x => [encEvs x]) ++ [[.lit (.slice none 0 0)]]) false] else .agg [.lit (.slice none 0 0), .lit (.slice none 0 0), .lit (.slice none 0 0)]
def encCut (l : Ldg) (frm nm : Str) (k : Int) : PV := if lcutE l frm nm k = 0 then encLdg (addB l ⟨nm, frm, k⟩) else .agg [.lit (.slice none 0 0), .lit (.slice none 0 0), .lit (.slice none 0 0)]
end Go.Ab
end
