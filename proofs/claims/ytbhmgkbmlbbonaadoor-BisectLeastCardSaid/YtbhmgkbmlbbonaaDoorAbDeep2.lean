/- Abstract values: arguments, in their depth. -/
import Derived.Test.YtbhmgkbmlbbonaaDoorAbDeep
set_option linter.unusedSimpArgs false
set_option linter.unusedVariables false
namespace Go.Ab
open Go
theorem RelList.deep {κ : Kn} {w : World} : ∀ {ps qs : List PV} {vs : List Value}, RelList κ w ps vs → leDs ps qs → RelList κ w qs vs
  | [], qs, vs, h, hl => by simp only [leDs] at hl; subst hl; exact h
  | p :: ps, qs, vs, h, hl => by
    simp only [leDs] at hl
    obtain ⟨q, qs', rfl, h1, h2⟩ := hl
    simp only [RelList] at h ⊢
    obtain ⟨v, vs', e, g1, g2⟩ := h
    exact ⟨v, vs', e, Rel.deep p q v g1 h1, RelList.deep g2 h2⟩
/-- Arguments, in their depth. -/
theorem CallSpec.deepArgs {C : Ctx} {f : FuncId} {args args' : List PV} {r : PV} (h : CallSpec C f args r) (ha : leDs args' args) : CallSpec C f args' r :=
  ⟨h.1, fun w fz vs h1 h2 h3 => h.2 w fz vs h1 h2 (h3.deep ha)⟩
theorem leD_nils (n : Nat) : leDR (List.replicate n [.lit (.slice none 0 0)]) (List.replicate n [.imm [] false]) := by
  induction n with
  | zero => simp [leDR]
  | succ n ih =>
    simp only [List.replicate_succ, leDR]
    exact ⟨_, _, rfl, by simp [leDs, leD], ih⟩
end Go.Ab
