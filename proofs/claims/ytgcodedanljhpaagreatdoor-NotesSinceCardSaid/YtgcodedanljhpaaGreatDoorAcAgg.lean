/- ledger.Append. -/
import Derived.Test.YtgcodedanljhpaaGreatDoorLP
import Derived.Test.YtgcodedanljhpaaGreatDoorLC
import Derived.Test.YtgcodedanljhpaaGreatDoorAcLib
import Derived.Test.YtgcodedanljhpaaGreatDoorAcCall
set_option linter.unusedSimpArgs false
set_option linter.unusedVariables false
section
set_option maxRecDepth 1000000
set_option maxHeartbeats 16000000
namespace Go.Ab
open Go Go.Proofs
def lappE (l : Ldg) (n : Str) (x : Ev) : Int :=
  if (lview l n).2 ≠ 0 then (lview l n).2 else if clsOf l.known x.chg = none then 6 else if (l.evs.getD (idx l.brs n).toNat []).length = 40 then 4
  else alwC (cls0 l.known) (seenE l (lview l n).1) x.kind (cls0 l.known x.chg)
def lapp (l : Ldg) (n : Str) (x : Ev) : Ldg := { l with evs := l.evs.set (idx l.brs n).toNat (l.evs.getD (idx l.brs n).toNat [] ++ [x]) }
def encApp (l : Ldg) (n : Str) (x : Ev) : PV := if lappE l n x = 0 then encLdg (lapp l n x) else .agg [.lit (.slice none 0 0), .lit (.slice none 0 0), .lit (.slice none 0 0)]
theorem zLdg : evBuild cx 26 [] = some (.agg [.lit (.slice none 0 0), .lit (.slice none 0 0), .lit (.slice none 0 0)]) := by kernel_rfl
end Go.Ab
end

section
/- One event more: the views of the branches. -/
namespace Go.Ab
open Go
theorem bfits_iff {l : List Br} {cs : List Int} : bfits l cs = 0 ↔ bchk l = 0 ∧ cs.length = l.length ∧ (∀ n ∈ cs, 0 ≤ n ∧ n ≤ 40) ∧ ∀ (i : Nat) b, l[i]? = some b → fitI l cs i b = true := by
  unfold bfits
  constructor
  · intro h
    by_cases h1 : bchk l = 0
    · rw [if_neg (by rw [Decidable.not_not]; exact h1)] at h
      split at h
      · cases h
      · rename_i h2
        split at h
        · cases h
        · rename_i h3
          rw [Bool.not_eq_true, anyI_false] at h3
          refine ⟨h1, Decidable.not_not.1 fun e => h2 (.inl e), fun n hn => ?_, fun i b hb => by have := h3 i b hb; simpa using this⟩
          have : ¬ (cs.any fun n => decide (n < 0) || decide (40 < n)) = true := fun e => h2 (.inr e)
          rw [Bool.not_eq_true, List.any_eq_false] at this
          have := this n hn
          simp only [Bool.or_eq_true, decide_eq_true_eq] at this
          omega
    · rw [if_pos h1] at h; exact absurd h h1
  · rintro ⟨h1, h2, h3, h4⟩
    rw [if_neg (by rw [Decidable.not_not]; exact h1), if_neg, if_neg]
    · rw [Bool.not_eq_true, anyI_false]
      intro i b hb
      rw [h4 i b hb]; rfl
    · rintro (e | e)
      · exact e h2
      · obtain ⟨n, hn, hx⟩ := List.any_eq_true.1 e
        have := h3 n hn
        simp only [Bool.or_eq_true, decide_eq_true_eq] at hx
        omega
def growL (l : Ldg) (i : Nat) (own : List Ev) (x : Ev) : Ldg := { l with evs := l.evs.set i (own ++ [x]) }
theorem lchk_of {l : Ldg} (h : LOk l) : lchk l = 0 := by
  unfold lchk
  rw [if_neg (by have := h.known; omega), if_neg (by rw [h.nodup]; decide), if_neg (by rw [h.kw]; decide), if_neg (by rw [Decidable.not_not]; exact h.chk), if_neg (by rw [Decidable.not_not]; exact h.len), if_neg, if_neg (by rw [Decidable.not_not]; exact h.fits), if_neg]
  · rw [Bool.not_eq_true, anyI_false]
    intro i own ho
    rw [h.run i own ho]; rfl
  · rw [Bool.not_eq_true, List.any_eq_false]
    intro s hs
    have := h.evs s hs
    simp only [decide_eq_true_eq]; omega
end Go.Ab
end

section
/- One branch more: a cut. -/
namespace Go.Ab
open Go
def addB (l : Ldg) (b : Br) : Ldg := { l with brs := l.brs ++ [b], evs := l.evs ++ [[]] }
def lcutE (l : Ldg) (frm nm : Str) (k : Int) : Int := if (lview l frm).2 ≠ 0 then (lview l frm).2 else if k < 0 ∨ ((lview l frm).1.length : Int) < k then 2 else bchk (l.brs ++ [⟨nm, frm, k⟩])
def lcut (l : Ldg) (frm nm : Str) (k : Int) : Ldg := if lcutE l frm nm k ≠ 0 then ⟨[], [], []⟩ else addB l ⟨nm, frm, k⟩
theorem cnts_add {l : Ldg} {b : Br} : cnts (addB l b) = cnts l ++ [0] := by simp [cnts, addB]
theorem idx_app {l : List Br} {b : Br} {n : Str} (h : 0 ≤ idx l n) : idx (l ++ [b]) n = idx l n := by
  obtain ⟨e, hlt⟩ := idx_nat h
  have ht : (l ++ [b]).take l.length = l := by simp
  have := idx_take (l := l ++ [b]) (n := n) (i := l.length) (by rw [ht]; exact h)
  rw [ht] at this
  exact this.1
theorem vws_app {l : List Br} {cs : List Int} (h : VOk l cs) {b : Br} {c : Int} : ∀ n, n ≤ l.length → vws (l ++ [b]) (cs ++ [c]) n = vws l cs n
  | 0, _ => rfl
  | n + 1, hn => by
    rw [vws, vws, vws_app h n (by omega)]
    congr 2
    obtain ⟨b', c', hb, hc, _⟩ := h.at (i := n) (by omega)
    have hl := h.len
    unfold vw1
    rw [List.getElem?_append_left (by omega), List.getElem?_append_left (by omega), hb, hc]
    simp only
    by_cases h0 : n = 0
    · rw [if_pos h0, if_pos h0]
    · rw [if_neg h0, if_neg h0, idx_app (h.frm n b' hb (by omega)).1]
theorem vw_app {l : List Br} {cs : List Int} (h : VOk l cs) {b : Br} {c : Int} {i : Nat} (hi : i < l.length) : vw (l ++ [b]) (cs ++ [c]) i = vw l cs i := by
  have hb : i < (l ++ [b]).length := by rw [List.length_append]; omega
  have h1 := vws_vw (l := l ++ [b]) (cs := cs ++ [c]) (n := l.length) hi (by rw [List.length_append]; omega)
  rw [vws_app h _ (Nat.le_refl _), vws_vw hi (Nat.le_refl _)] at h1
  exact (Option.some.inj h1).symm
theorem vw_new {l : List Br} {cs : List Int} (h : VOk l cs) {b : Br} (hf : 0 ≤ idx l b.frm) : vw (l ++ [b]) (cs ++ [0]) l.length = (vw l cs (idx l b.frm).toNat).take b.pos.toNat := by
  obtain ⟨e, hlt⟩ := idx_nat hf
  rw [vw_def (by simp), vws_app h _ (Nat.le_refl _)]
  unfold vw1
  have h1 : (l ++ [b])[l.length]? = some b := by simp
  have h2 : (cs ++ [(0 : Int)])[l.length]? = some 0 := by rw [← h.len]; simp
  rw [h1, h2]
  simp only
  have := h.pos
  rw [if_neg (by omega), idx_app hf, vws_vw hlt (Nat.le_refl _)]
  simp [own]
theorem evAt_add {l : Ldg} {b : Br} {m : Nat × Nat} : evAt (addB l b) m = evAt l m := by
  have key : ((l.evs ++ [[]])[m.1]?).getD [] = (l.evs[m.1]?).getD [] := by
    rcases Nat.lt_or_ge m.1 l.evs.length with h | h
    · rw [List.getElem?_append_left h]
    · rw [List.getElem?_append_right h, List.getElem?_eq_none h]
      cases m.1 - l.evs.length <;> rfl
  unfold evAt
  show (((l.evs ++ [[]])[m.1]?).getD [])[m.2]?.getD _ = _
  rw [key]
theorem seenE_add {l : Ldg} {b : Br} {v : List (Nat × Nat)} : seenE (addB l b) v = seenE l v := List.map_congr_left fun m _ => evAt_add
theorem lview_idx {l : Ldg} {n : Str} (h : (lview l n).2 = 0) : LOk l ∧ 0 ≤ idx l.brs n ∧ (lview l n).1 = vw l.brs (cnts l) (idx l.brs n).toNat := by
  unfold lview at h ⊢
  by_cases h0 : lchk l = 0
  · rw [if_neg (by rw [Decidable.not_not]; exact h0)] at h ⊢
    have hl := lok_of h0
    unfold bview at h ⊢
    rw [if_neg (by rw [Decidable.not_not]; exact hl.fits)] at h ⊢
    split at h
    · cases h
    · rename_i h1
      rw [if_neg h1]
      exact ⟨hl, by omega, rfl⟩
  · rw [if_pos h0] at h; exact absurd h h0
theorem lview_by {l : Ldg} {n : Str} (h : LOk l) (hi : 0 ≤ idx l.brs n) : lview l n = (vw l.brs (cnts l) (idx l.brs n).toNat, 0) := by
  unfold lview
  rw [if_neg (by rw [Decidable.not_not]; exact lchk_of h)]
  unfold bview
  rw [if_neg (by rw [Decidable.not_not]; exact h.fits), if_neg (by omega)]
theorem bfits_add {l : List Br} {cs : List Int} {b : Br} (h : bfits l cs = 0) (hb : bchk (l ++ [b]) = 0) (hf : 0 ≤ idx l b.frm) (hp : b.pos ≤ ((vw l cs (idx l b.frm).toNat).length : Int)) (hp0 : 0 ≤ b.pos) : bfits (l ++ [b]) (cs ++ [0]) = 0 := by
  have hv := vok_of h
  obtain ⟨h1, h2, h3, h4⟩ := bfits_iff.1 h
  refine bfits_iff.2 ⟨hb, by simp [h2], fun n hn => ?_, fun j b' hb' => ?_⟩
  · rcases List.mem_append.1 hn with e | e
    · exact h3 n e
    · simp only [List.mem_singleton] at e; omega
  · obtain ⟨e, hlt⟩ := idx_nat hf
    have hend : ∀ k, k < l.length → endOf (l ++ [b]) (cs ++ [0]) k = endOf l cs k := fun k hk => by
      unfold endOf
      rw [List.getElem?_append_left hk, List.getElem?_append_left (by omega)]
    rcases Nat.lt_or_ge j l.length with hj | hj
    · rw [List.getElem?_append_left hj] at hb'
      have := h4 j b' hb'
      simp only [fitI, Bool.or_eq_true, decide_eq_true_eq] at this ⊢
      by_cases h0 : j = 0
      · exact .inl h0
      · have hfr := hv.frm j b' hb' (by omega)
        rw [idx_app hfr.1, hend _ (by omega)]
        exact this
    · have hjl := (List.getElem?_eq_some_iff.1 hb').1
      rw [List.length_append, List.length_singleton] at hjl
      have : j = l.length := by omega
      subst this
      have : b' = b := by simpa using hb'.symm
      subst this
      simp only [fitI, Bool.or_eq_true, decide_eq_true_eq]
      right
      rw [idx_app hf, hend _ hlt]
      obtain ⟨b0, c0, hb0, hc0, _⟩ := hv.at hlt
      rw [hv.length _ hlt hb0 hc0] at hp
      unfold endOf
      rw [hb0, hc0]
      simp only
      have := hv.cnt _ c0 hc0
      have := hv.at_ _ b0 hb0
      omega
theorem lcut_ok {l : Ldg} {frm nm : Str} {k : Int} (h : lcutE l frm nm k = 0) : LOk l ∧ 0 ≤ idx l.brs frm ∧ 0 ≤ k ∧ k ≤ ((lview l frm).1.length : Int) ∧ lcut l frm nm k = addB l ⟨nm, frm, k⟩ ∧ LOk (addB l ⟨nm, frm, k⟩) ∧ bchk (l.brs ++ [⟨nm, frm, k⟩]) = 0 := by
  have hl : lcut l frm nm k = addB l ⟨nm, frm, k⟩ := by rw [lcut, if_neg (by rw [Decidable.not_not]; exact h)]
  unfold lcutE at h
  by_cases h0 : (lview l frm).2 = 0
  · rw [if_neg (by rw [Decidable.not_not]; exact h0)] at h
    split at h
    · cases h
    · rename_i h1
      rw [not_or] at h1
      obtain ⟨g, hi, hv⟩ := lview_idx h0
      refine ⟨g, hi, by omega, by omega, hl, ?_, h⟩
      have hlen := g.len
      have hfit : bfits (l.brs ++ [⟨nm, frm, k⟩]) (cnts l ++ [0]) = 0 := bfits_add g.fits h hi (by show k ≤ _; rw [← hv]; omega) (by show 0 ≤ k; omega)
      refine ⟨g.known, g.nodup, g.kw, h, by simp only [addB, List.length_append]; simpa using hlen, fun s hs => ?_, by rw [cnts_add]; exact hfit, fun j o hj => ?_⟩
      · rcases List.mem_append.1 hs with e | e
        · exact g.evs s e
        · simp only [List.mem_singleton] at e; subst e; simp
      · show runB l.known (preE (addB l ⟨nm, frm, k⟩) j) o = true
        change (l.evs ++ [[]])[j]? = some o at hj
        rcases Nat.lt_or_ge j l.evs.length with hjl | hjl
        · rw [List.getElem?_append_left hjl] at hj
          have hjb : j < l.brs.length := by omega
          have e : preE (addB l ⟨nm, frm, k⟩) j = preE l j := by
            unfold preE
            have e1 : (addB l ⟨nm, frm, k⟩).brs = l.brs ++ [⟨nm, frm, k⟩] := rfl
            rw [e1, cnts_add, vw_app g.vok hjb, List.getElem?_append_left hjb, seenE_add]
          rw [e]; exact g.run j o hj
        · have hjl' := (List.getElem?_eq_some_iff.1 hj).1
          rw [List.length_append, List.length_singleton] at hjl'
          have : j = l.evs.length := by omega
          subst this
          have : o = [] := by simpa using hj.symm
          subst this
          rfl
  · rw [if_pos h0] at h; exact absurd h h0
end Go.Ab
end

section
/- Abstract values: a result of several cells, in its depth. -/
namespace Go.Ab
open Go
theorem leDs_all : ∀ {ps qs : List PV}, leDs ps qs → ps.all PV.one = true → qs.all PV.one = true
  | [], qs, h, _ => by simp only [leDs] at h; subst h; rfl
  | p :: ps, qs, h, ho => by
    simp only [leDs] at h
    obtain ⟨q, qs', rfl, h1, h2⟩ := h
    simp only [List.all_cons, Bool.and_eq_true] at ho ⊢
    exact ⟨leD_one h1 ho.1, leDs_all h2 ho.2⟩
end Go.Ab
end
