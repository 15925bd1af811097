/- Gaps of one branch in order: the law. -/
import Derived.Test.YtgcodedanljhpaaDoorML
set_option linter.unusedSimpArgs false
set_option linter.unusedVariables false
set_option maxRecDepth 1000000
set_option maxHeartbeats 8000000
namespace Go.Ab
open Go Go.Proofs Go.Sort
section
variable {l : Ldg} {x : List Fx} (i : Fin l.brs.length) (inn : List Int)
def oneA (x : List Fx) : List (GA l.brs.length) := (x.filter (wantB (l.brs[i]).name inn)).map (mkA i)
def refB (x : List Fx) : List (GA l.brs.length) := (List.range 9).flatMap fun (k : Nat) => (List.range 30).flatMap fun (c : Nat) =>
  (x.filter (cnd (9 - (k : Int)) c ((l.brs[i]).name, inn))).map fun _ => mkR k c i
theorem refB_toG : (refB i inn x).map (toG l) = o1 x [((l.brs[i]).name, inn)] 9 := by
  unfold refB o1 o2 o3 o4
  rw [List.map_flatMap]
  refine flatMap_eq _ fun k hk => ?_
  have hk' := List.mem_range.1 hk
  rw [List.map_flatMap]
  refine flatMap_eq _ fun c hc => ?_
  have hc' := List.mem_range.1 hc
  rw [List.flatMap_cons, List.flatMap_nil, List.append_nil, List.map_map]
  apply List.map_congr_left
  intro f _
  simp only [Function.comp, toG, mkR, Gp.mk.injEq, true_and]
  omega
theorem mem_oneA (a : GA l.brs.length) : a ∈ oneA i inn x ↔ ∃ f ∈ x, wantB (l.brs[i]).name inn f = true ∧ a = mkA i f := by
  unfold oneA
  constructor
  · intro hm
    obtain ⟨f, hf, rfl⟩ := List.mem_map.1 hm
    rw [List.mem_filter] at hf
    exact ⟨f, hf.1, hf.2, rfl⟩
  · rintro ⟨f, hf, hw, e⟩
    rw [e]
    exact List.mem_map.2 ⟨f, List.mem_filter.2 ⟨hf, hw⟩, rfl⟩
variable (h : mchk l x = 0)
include h
theorem oneA_gaps : (gapsOf x (l.brs[i]).name inn).map cGp = rowsOf (encG l) (oneA i inn x) := by
  rw [toG_enc]
  congr 1
  rw [gapsOf, oneA, List.map_map]
  apply List.map_congr_left
  intro f hf
  have := mchk_fx h (List.mem_filter.1 hf).1
  simp only [Function.comp, toG, mkA, Gp.mk.injEq, true_and]
  omega
theorem mem_refB (a : GA l.brs.length) : a ∈ refB i inn x ↔ a ∈ oneA i inn x := by
  rw [mem_oneA]
  unfold refB
  simp only [List.mem_flatMap, List.mem_range, List.mem_map, List.mem_filter]
  constructor
  · rintro ⟨k, hk, c, hc, f, ⟨hf, hq⟩, rfl⟩
    simp only [cnd, Bool.and_eq_true, decide_eq_true_eq] at hq
    obtain ⟨⟨⟨q1, q2⟩, q3⟩, q4⟩ := hq
    refine ⟨f, hf, ?_, ?_⟩
    · simp only [wantB, Bool.and_eq_true]
      exact ⟨q3, by rw [q2]; exact q4⟩
    · simp only [mkR, mkA, Prod.mk.injEq, Fin.mk.injEq, and_true]
      omega
  · rintro ⟨f, hf, hw, e⟩
    have hb := mchk_fx h hf
    simp only [wantB, Bool.and_eq_true] at hw
    refine ⟨(9 - f.wgt).toNat, by omega, f.cls.toNat, by omega, f, ⟨hf, ?_⟩, ?_⟩
    · have e1 : (9 : Int) - ((9 - f.wgt).toNat : Int) = f.wgt := by omega
      have e2 : (f.cls.toNat : Int) = f.cls := by omega
      rw [e1, e2]
      simp only [cnd, Bool.and_eq_true, decide_eq_true_eq]
      exact ⟨⟨⟨trivial, trivial⟩, hw.1⟩, hw.2⟩
    · rw [e]
      simp only [mkR, mkA, Prod.mk.injEq, Fin.mk.injEq, and_true]
      omega
theorem oneA_nodup : (oneA i inn x).Nodup := by
  unfold oneA
  rw [List.nodup_iff_pairwise_ne, List.pairwise_map]
  refine List.Pairwise.imp_of_mem ?_ ((fx_pw h).filter _)
  intro f g hf hg hne he
  have b1 := mchk_fx h (List.mem_filter.1 hf).1
  have b2 := mchk_fx h (List.mem_filter.1 hg).1
  simp only [mkA, Prod.mk.injEq, Fin.mk.injEq, and_true] at he
  omega
theorem srtB_pw : (srtG (oneA i inn x)).Pairwise ltG := by
  have hs : (srtG (oneA i inn x)).Pairwise fun a b => (!(ltOf cfG) b a) = true := by
    refine List.pairwise_mergeSort ?_ ?_ _
    · intro a b c h1 h2
      rw [Bool.not_eq_true', ltOf_Gf] at *
      unfold ltG at *
      omega
    · intro a b
      rw [Bool.or_eq_true, Bool.not_eq_true', Bool.not_eq_true', ltOf_Gf, ltOf_Gf]
      unfold ltG
      omega
  have hn : (srtG (oneA i inn x)).Nodup := (List.mergeSort_perm _ _).nodup_iff.2 (oneA_nodup i inn h)
  refine (hs.and (List.nodup_iff_pairwise_ne.1 hn)).imp ?_
  rintro a b ⟨h1, h2⟩
  rw [Bool.not_eq_true'] at h1
  cases h3 : ltOf cfG a b
  · exact absurd (totG a b h3 h1) h2
  · exact (ltOf_G a b).1 h3
theorem refB_pw : (refB i inn x).Pairwise ltG := by
  unfold refB
  rw [List.pairwise_flatMap]
  constructor
  · intro k hk
    rw [List.pairwise_flatMap]
    constructor
    · intro c hc
      rw [List.pairwise_map]
      refine List.Pairwise.imp_of_mem ?_ ((fx_pw h).filter _)
      intro f g hf hg hne
      have q1 := (List.mem_filter.1 hf).2
      have q2 := (List.mem_filter.1 hg).2
      simp only [cnd, Bool.and_eq_true, decide_eq_true_eq] at q1 q2
      exact absurd (q1.1.1.2.trans q2.1.1.2.symm) hne
    · refine List.Pairwise.imp_of_mem ?_ List.pairwise_lt_range
      intro c d hc hd hcd a ha b hb
      rw [List.mem_range] at hc hd
      simp only [List.mem_map] at ha hb
      obtain ⟨_, _, rfl⟩ := ha
      obtain ⟨_, _, rfl⟩ := hb
      refine .inr ⟨rfl, .inl ?_⟩
      simp only [mkR]; omega
  · refine List.Pairwise.imp_of_mem ?_ List.pairwise_lt_range
    intro k m hk hm hkm a ha b hb
    rw [List.mem_range] at hk hm
    simp only [List.mem_flatMap, List.mem_map] at ha hb
    obtain ⟨_, _, _, _, rfl⟩ := ha
    obtain ⟨_, _, _, _, rfl⟩ := hb
    refine .inl ?_
    simp only [mkR]; omega
theorem srtB_ref : (srtG (oneA i inn x)).map (toG l) = o1 x [((l.brs[i]).name, inn)] 9 := by
  rw [← refB_toG]
  congr 1
  exact sorted_ext (lt := ltG) (fun a => by unfold ltG; omega) (fun a b => by unfold ltG; omega) _ _ (srtB_pw i inn h) (refB_pw i inn h) fun a => by
    rw [mem_refB i inn h, srtG, List.mem_mergeSort]
end
def mthen (l : Ldg) (x : List Fx) (b : Str) (n : Int) : List Gp × Int :=
  if mchk l x ≠ 0 then ([], mchk l x) else if (laft l b n).2 ≠ 0 then ([], (laft l b n).2) else (o1 x [(b, (laft l b n).1)] 9, 0)
theorem laft_at {l : Ldg} {b : Str} {n : Int} (h : (laft l b n).2 = 0) : (lview l b).2 = 0 ∧ ∃ i : Fin l.brs.length, (l.brs[i]).name = b ∧ idx l.brs b = (i.val : Int) := by
  have h1 : (lview l b).2 = 0 := by
    unfold laft at h
    split at h
    · rename_i h1; exact absurd h h1
    · rename_i h1; exact Decidable.not_not.1 h1
  obtain ⟨_, i, hi, h2, _⟩ := lview_ok h1
  obtain ⟨c, hc, hn⟩ := idx_some h2
  obtain ⟨hlt, he⟩ := List.getElem?_eq_some_iff.1 hc
  exact ⟨h1, ⟨i, hi⟩, by show (l.brs[i]'hi).name = b; rw [he]; exact hn, h2⟩
theorem laft_len {l : Ldg} {b : Str} {n : Int} : (laft l b n).1.length ≤ 30 := by
  rw [laft]
  split
  · simp
  · split
    · simp
    · exact Nat.le_trans (lst_lenM _ _) (by simp [inL])
theorem o1_len {l : Ldg} {x : List Fx} (h : mchk l x = 0) (i : Fin l.brs.length) (inn : List Int) : (o1 x [((l.brs[i]).name, inn)] 9).length ≤ 30 := by
  rw [← srtB_ref i inn h, List.length_map, srtG, List.length_mergeSort, oneA, List.length_map]
  exact Nat.le_trans (List.length_filter_le _ _) (mchk_zero h).2.1
end Go.Ab
