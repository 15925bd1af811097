/- The reference's views. -/
import Derived.Test.YtgcodedanljhpaaDoorLR
set_option linter.unusedSimpArgs false
set_option linter.unusedVariables false
set_option maxRecDepth 100000
set_option maxHeartbeats 8000000
namespace Go.Ab
open Go Go.Proofs
theorem frzR : (∀ {st : St} {i ver : Nat} {es : List (List PV)} {t : Nat}, (st.freeze i ver es).env t = (st.env t).map (fzV i ver es)) ∧ (∀ {st : St} {i ver : Nat} {es : List (List PV)} {j : Nat}, (st.freeze i ver es).σ j = if j = i then none else (st.σ j).map (fzB i ver es)) ∧
    (∀ {st : St} {i ver : Nat} {es : List (List PV)}, (st.freeze i ver es).nx = st.nx) := ⟨rfl, rfl, rfl⟩
def cVs (v : List (Nat × Nat)) : List PV := [.imm (v.map cMk) false]
def newVs (V : List (List (Nat × Nat))) : PV := .new 1 (V.map cVs)
theorem fzM {a b : Nat} {c : List (List PV)} {L : List (List (Nat × Nat))} : ((L.map cVs).map fun r => r.map (fzV a b c)) = L.map cVs := by
  rw [List.map_map]; rfl
theorem flVs {L : List (List (Nat × Nat))} : ((L.map cVs).all fun e => e.all flat) = true := by
  rw [List.all_eq_true]; intro e he; obtain ⟨b, _, rfl⟩ := List.mem_map.1 he; rfl
theorem vlen {l : List Br} {cs : List Int} (h : TOk l cs) : ∀ i, i ≤ l.length → (∀ (j : Nat) b, j < i → l[j]? = some b → fitI l cs j b = true) → ∀ (j : Nat) b c, j < i → l[j]? = some b → cs[j]? = some c → ∃ v, (vws l cs i)[j]? = some v ∧ (v.length : Int) = b.pos + c := by
  intro i
  induction i with
  | zero => intro _ _ j b c hj; omega
  | succ i ih =>
    intro hi hf j b c hj hb hc
    have ih' := ih (by omega) fun j b hj hb => hf j b (by omega) hb
    by_cases e : j < i
    · obtain ⟨v, h1, h2⟩ := ih' j b c e hb hc
      refine ⟨v, ?_, h2⟩
      rw [vws, List.getElem?_append_left (by rw [vws_len]; exact e)]; exact h1
    · obtain rfl : j = i := by omega
      refine ⟨vw1 l cs (vws l cs j) j, ?_, ?_⟩
      · rw [vws, List.getElem?_append_right (by rw [vws_len]; omega), vws_len, Nat.sub_self]; rfl
      · obtain ⟨_, hp0, hp1, hfrm⟩ := h.b hb
        have hc40 := h.cnt j c hc
        have ho : (own j c).length = c.toNat := by simp [own]
        rw [vw1, hb, hc]
        simp only [List.length_append, ho]
        by_cases h0 : j = 0
        · subst h0
          obtain ⟨b0, q1, _, q3⟩ := (bchk_ok h.chk).2.2.1
          rw [hb] at q1; cases q1
          simp; omega
        · have hit := idx_take (hfrm (by omega))
          have hft := hf j b (by omega) hb
          obtain ⟨b', hb'⟩ : ∃ b', l[(idx l b.frm).toNat]? = some b' := ⟨_, List.getElem?_eq_getElem (by omega)⟩
          obtain ⟨c', hc'⟩ : ∃ c', cs[(idx l b.frm).toNat]? = some c' := ⟨_, List.getElem?_eq_getElem (by rw [h.len]; omega)⟩
          obtain ⟨v, h1, h2⟩ := ih' _ b' c' hit.2 hb' hc'
          simp only [fitI, endOf, hb', hc', Bool.or_eq_true, decide_eq_true_eq] at hft
          rw [if_neg h0, h1]
          simp only [Option.getD_some, List.length_take]
          omega
end Go.Ab
