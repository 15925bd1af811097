/- MissingFinds returns true whatever is handed in, and leaves what is handed in as it was. -/
import Derived.Test.YtgcodedanljhpaaMR
import Derived.Test.YtgcodedanljhpaaMRow
set_option linter.unusedSimpArgs false
set_option linter.unusedVariables false
set_option maxRecDepth 100000
namespace Go.Proofs.Ytgcodedanljhpaa
open Go.ChangeShapes Go.WideShapes Go.ChangeAt Go.WideMaps Go.WideElems Go.RowKit Go.Ab
theorem liftedMissingFinds (os : Os) (started : os.Started) (H : Type) (enc : TypeId × Value → H) :
    ReturnsInHanded {} Try.checked os 3 .any (Rows.missingFindsSpec.pre6 enc Try.prog Try.f3 Rows.missingFindsRow.domain false) (Rows.missingFindsSpec.post enc Try.prog Try.f3 false true false false) := by
  refine returnsInHanded_of_change (C := Try.checked) own started (by kernel_rfl) Try.func3
    (ChangeSpec.witness6 (enc := enc) (C := Try.checked) false ⟨#[], #[.agg #[.slice none 0 0, .slice none 0 0, .slice none 0 0], .slice none 0 0, .string ⟨#[]⟩], []⟩ 8 (by kernel_rfl) (by kernel_rfl) (by kernel_rfl) (by kernel_rfl)) ?_
  intro W base args ds gs before hval0 hW hcnd _
  have hval : ∀ (j : Nat) t v, Try.f3.params[j]? = some t → args[j]? = some v → Value.okWide Try.prog W .any base t v := hval0
  have hW' := hW
  obtain ⟨p, q, hA0, hV, rfl, hfz, hnd⟩ := hW
  have hA : DataW.TrodAll enc Try.prog W 0 (fun _ => true) true Try.f3.params.toList args.toList ds p := hA0
  have hAll := hA
  rw [Try.params3] at hA hval
  obtain ⟨v0, v1, v2, d0, d1, d2, p0, p1, p2, rfl, rfl, rfl, h0, h1, h2⟩ := trodAll_three hA
  obtain ⟨rfl, rfl⟩ := trodVars_none hV
  clear hA0 hval0
  simp only [List.append_nil] at hW'
  obtain ⟨c0, rfl, hc0⟩ := okWide_struct Try.underlying26 (hval 0 26 v0 rfl rfl)
  obtain ⟨l, gl, rl⟩ := openS opensLdg h0
  obtain ⟨a1, len1, cap1, rfl⟩ := okWide_slice Try.underlying27 (hval 1 27 v1 rfl rfl)
  obtain ⟨x, gx, rx⟩ := open1 opensFxs rfl h1
  obtain ⟨s2, rfl⟩ := okWide_string Try.underlying9 (hval 2 9 v2 rfl rfl)
  obtain ⟨b, gb, rb⟩ := open1 opensS rfl h2
  have hm : maxLen ≤ 9223372036854775807 := by unfold maxLen; decide
  have hs := l_Finds l x b (Nat.le_trans gl.known hm) (Nat.le_trans gl.brs hm) (Nat.le_trans gl.evs hm) (fun s h => Nat.le_trans (gl.ev s h) hm) (Nat.le_trans gx.1 hm) (fun f h => Nat.le_trans (gx.2 f h) hm)
  refine (hs.2 W (fun b => b < W.heap.size) [.agg c0, .slice a1 len1 cap1, .string s2] (fun _ h => h) of_none ?_).mono ?_
  · simp only [RelList]
    exact ⟨_, _, rfl, rl, _, _, rfl, rx, _, _, rfl, rb, rfl⟩
  · rintro e W' ⟨v, us, rfl, bel, _, _, hret⟩
    have hv : v = .bool true := by
      have := hret.2
      simp only [bl, Rel] at this
      exact this.1
    subst hv
    exact ⟨_, rfl, _, _, _, [], _, [], hW', trodAll_mk1 (shut_bool Try.underlying4 _), trodAll_below laidOut bel _ _ _ _ (by kernel_rfl) hAll, rfl, bel.below.frame _, fun h => by cases h⟩
theorem missingFinds_holds : Rows.MissingFindsSaid :=
  OpenClaim.holds_of_wide 3 Try.f3 rfl rfl rfl rfl rfl rfl rfl ⟨rfl, rfl, rfl, rfl, rfl⟩ rfl rfl rfl rfl rfl (by kernel_rfl) Try.func3 (by kernel_rfl)
    (of_decide_eq_true (by kernel_rfl)) (by unfold Func.isWrapper; first | (rw [if_pos (by decide +kernel)]; kernel_rfl) | (rw [if_neg (by decide +kernel)]; exact ⟨rfl, rfl⟩))
    (fun os started H enc _ => liftedMissingFinds os started H enc)
#print axioms missingFinds_holds
end Go.Proofs.Ytgcodedanljhpaa
