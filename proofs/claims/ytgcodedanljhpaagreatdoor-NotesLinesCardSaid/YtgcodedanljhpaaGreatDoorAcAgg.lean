/- Abstract values: what a tree says, another one says too, in its depth. -/
import Derived.Test.YtgcodedanljhpaaGreatDoorAcCall
set_option linter.unusedSimpArgs false
set_option linter.unusedVariables false
section
namespace Go.Ab
open Go
mutual
def leD : PV → PV → Prop
  | .imm es c, q => ∃ es' c', q = .imm es' c' ∧ (c' = c ∨ c' = false) ∧ leDR es es'
  | .lit v, q => q = .lit v ∨ (v = .slice none 0 0 ∧ q = .imm [] false)
  | p, q => p = q
def leDs : List PV → List PV → Prop
  | [], qs => qs = []
  | p :: ps, qs => ∃ q qs', qs = q :: qs' ∧ leD p q ∧ leDs ps qs'
def leDR : List (List PV) → List (List PV) → Prop
  | [], qs => qs = []
  | p :: ps, qs => ∃ q qs', qs = q :: qs' ∧ leDs p q ∧ leDR ps qs'
end
mutual
theorem leD_refl : ∀ p : PV, leD p p
  | .imm es c => by unfold leD; exact ⟨es, c, rfl, .inl rfl, leDR_refl es⟩
  | .lit v => by unfold leD; exact .inl rfl
  | .own .. => by simp [leD]
  | .cptr _ => by simp [leD]
  | .ptr .. => by simp [leD]
  | .clo .. => by simp [leD]
  | .ifc .. => by simp [leD]
  | .agg _ => by simp [leD]
  | .tup _ => by simp [leD]
  | .mp _ => by simp [leD]
  | .new .. => by simp [leD]
theorem leDs_refl : ∀ ps : List PV, leDs ps ps
  | [] => by simp [leDs]
  | p :: ps => by simp only [leDs]; exact ⟨p, ps, rfl, leD_refl p, leDs_refl ps⟩
theorem leDR_refl : ∀ ps : List (List PV), leDR ps ps
  | [] => by simp [leDR]
  | p :: ps => by simp only [leDR]; exact ⟨p, ps, rfl, leDs_refl p, leDR_refl ps⟩
end
theorem leD_one {p q : PV} (h : leD p q) (ho : p.one = true) : q.one = true := by
  cases p <;> simp only [leD] at h
  case imm => obtain ⟨_, _, rfl, _⟩ := h; rfl
  case lit => rcases h with rfl | ⟨_, rfl⟩ <;> rfl
  all_goals (subst h; exact ho)
theorem leDs_len : ∀ {ps qs : List PV}, leDs ps qs → qs.length = ps.length
  | [], qs, h => by simp only [leDs] at h; subst h; rfl
  | p :: ps, qs, h => by
    simp only [leDs] at h
    obtain ⟨q, qs', rfl, _, h2⟩ := h
    simp [leDs_len h2]
theorem leDR_len : ∀ {ps qs : List (List PV)}, leDR ps qs → qs.length = ps.length
  | [], qs, h => by simp only [leDR] at h; subst h; rfl
  | p :: ps, qs, h => by
    simp only [leDR] at h
    obtain ⟨q, qs', rfl, _, h2⟩ := h
    simp [leDR_len h2]
mutual
theorem Rel.deep {κ : Kn} {w : World} : ∀ (p q : PV) (v : Value), Rel κ w p v → leD p q → Rel κ w q v
  | .imm es c, q, v, h, hl => by
    simp only [leD] at hl
    obtain ⟨es', c', rfl, hc, hr⟩ := hl
    simp only [Rel] at h ⊢
    obtain ⟨A, len, cap, h1, h2, h3, h4, h5⟩ := h
    have hlen := leDR_len hr
    refine ⟨A, len, cap, h1, by omega, h3, fun e => ?_, ?_⟩
    · rcases hc with rfl | rfl
      · exact h4 e
      · cases e
    · rcases h5 with rfl | ⟨b, o, s, h6, h7, h8⟩
      · exact .inl (List.eq_nil_of_length_eq_zero (by simpa using hlen))
      · exact .inr ⟨b, o, s, h6, h7, RelRows.deep es es' b o s h8 hr⟩
  | .lit u, q, v, h, hl => by
    simp only [leD] at hl
    rcases hl with rfl | ⟨rfl, rfl⟩
    · exact h
    · simp only [Rel] at h ⊢
      obtain ⟨rfl, _⟩ := h
      exact ⟨none, 0, 0, rfl, rfl, Nat.le_refl _, by simp, .inl trivial⟩
  | .own .., q, v, h, hl => by simp only [leD] at hl; subst hl; exact h
  | .cptr _, q, v, h, hl => by simp only [leD] at hl; subst hl; exact h
  | .ptr .., q, v, h, hl => by simp only [leD] at hl; subst hl; exact h
  | .clo .., q, v, h, hl => by simp only [leD] at hl; subst hl; exact h
  | .ifc .., q, v, h, hl => by simp only [leD] at hl; subst hl; exact h
  | .agg _, q, v, h, hl => by simp only [leD] at hl; subst hl; exact h
  | .tup _, q, v, h, hl => by simp only [leD] at hl; subst hl; exact h
  | .mp _, q, v, h, hl => by simp only [leD] at hl; subst hl; exact h
  | .new .., q, v, h, hl => by simp only [leD] at hl; subst hl; exact h
theorem RelCells.deep {κ : Kn} {w : World} : ∀ (ps qs : List PV) (b o : Nat), RelCells κ w b o ps → leDs ps qs → RelCells κ w b o qs
  | [], qs, b, o, h, hl => by simp only [leDs] at hl; subst hl; exact h
  | p :: ps, qs, b, o, h, hl => by
    simp only [leDs] at hl
    obtain ⟨q, qs', rfl, h1, h2⟩ := hl
    simp only [RelCells] at h ⊢
    obtain ⟨⟨v, g1, g2, g3⟩, g4⟩ := h
    exact ⟨⟨v, g1, leD_one h1 g2, Rel.deep p q v g3 h1⟩, RelCells.deep ps qs' b (o + 1) g4 h2⟩
theorem RelRows.deep {κ : Kn} {w : World} : ∀ (ps qs : List (List PV)) (b o s : Nat), RelRows κ.bare w b o s ps → leDR ps qs → RelRows κ.bare w b o s qs
  | [], qs, b, o, s, h, hl => by simp only [leDR] at hl; subst hl; exact h
  | p :: ps, qs, b, o, s, h, hl => by
    simp only [leDR] at hl
    obtain ⟨q, qs', rfl, h1, h2⟩ := hl
    simp only [RelRows] at h ⊢
    exact ⟨by rw [leDs_len h1]; exact h.1, RelCells.deep p q b o h.2.1 h1, RelRows.deep ps qs' b (o + s) s h.2.2 h2⟩
end
theorem CallSpec.deep {C : Ctx} {f : FuncId} {args : List PV} {es : List (List PV)} {c : Bool} {r' : PV} (h : CallSpec C f args (.imm es c)) (hl : leD (.imm es c) r') : CallSpec C f args r' :=
  ⟨h.1, fun w fz vs h1 h2 h3 => (h.2 w fz vs h1 h2 h3).mono fun e w' ⟨v, us, g1, g2, g3, g4, g5⟩ => ⟨v, us, g1, g2, g3, g4, by
    have g6 : us = [] ∧ Rel _ w' (.imm es c) v := g5
    have g7 := Rel.deep _ _ _ g6.2 hl
    simp only [leD] at hl
    obtain ⟨es', c', rfl, _⟩ := hl
    exact ⟨g6.1, g7⟩⟩⟩
end Go.Ab
end

section
/- Abstract values: arguments, in their depth. -/
namespace Go.Ab
open Go
theorem RelList.deep {κ : Kn} {w : World} : ∀ {ps qs : List PV} {vs : List Value}, RelList κ w ps vs → leDs ps qs → RelList κ w qs vs
  | [], qs, vs, h, hl => by simp only [leDs] at hl; subst hl; exact h
  | p :: ps, qs, vs, h, hl => by
    simp only [leDs] at hl
    obtain ⟨q, qs', rfl, h1, h2⟩ := hl
    simp only [RelList] at h ⊢
    obtain ⟨v, vs', e, g1, g2⟩ := h
    exact ⟨v, vs', e, Rel.deep p q v g1 h1, RelList.deep g2 h2⟩
end Go.Ab
end

section
/- Abstract values: a result of several cells, in its depth. -/
namespace Go.Ab
open Go
end Go.Ab
end
