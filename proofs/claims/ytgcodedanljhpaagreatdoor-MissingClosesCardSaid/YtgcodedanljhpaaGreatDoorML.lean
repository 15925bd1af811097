/- The reference's gaps. -/
import Derived.Test.YtgcodedanljhpaaGreatDoorMJ
set_option linter.unusedSimpArgs false
set_option linter.unusedVariables false
section
set_option maxRecDepth 1000000
set_option maxHeartbeats 8000000
namespace Go.Ab
open Go Go.Proofs Go.Sort
def prs (l : Ldg) : List Pr := l.brs.map fun b => (b.name, (leff l b.name).1)
def refG (l : Ldg) (x : List Fx) : List Gp := o1 x (prs l) 9
def refR (l : Ldg) (x : List Fx) : List Gp := if mchk l x ≠ 0 then [] else refG l x
end Go.Ab
end

section
/- The law: the sorted gaps are the reference's gaps. -/
set_option maxRecDepth 1000000
set_option maxHeartbeats 8000000
namespace Go.Ab
open Go Go.Proofs Go.Sort
theorem sorted_ext {α : Type} {lt : α → α → Prop} (irr : ∀ a, ¬ lt a a) (asm : ∀ a b, lt a b → ¬ lt b a) : ∀ (l1 l2 : List α), l1.Pairwise lt → l2.Pairwise lt → (∀ x, x ∈ l1 ↔ x ∈ l2) → l1 = l2
  | [], [], _, _, _ => rfl
  | [], b :: r, _, _, h => absurd ((h b).2 (by simp)) (by simp)
  | a :: r, [], _, _, h => absurd ((h a).1 (by simp)) (by simp)
  | a :: r1, b :: r2, h1, h2, h => by
    rw [List.pairwise_cons] at h1 h2
    have e : a = b := by
      rcases List.mem_cons.1 ((h a).1 (by simp)) with e | e
      · exact e
      · rcases List.mem_cons.1 ((h b).2 (by simp)) with e' | e'
        · exact e'.symm
        · exact absurd (h1.1 b e') (asm _ _ (h2.1 a e))
    subst e
    congr 1
    refine sorted_ext irr asm r1 r2 h1.2 h2.2 fun x => ?_
    constructor
    · intro hx
      rcases List.mem_cons.1 ((h x).1 (by simp [hx])) with e | e
      · subst e; exact absurd (h1.1 x hx) (irr x)
      · exact e
    · intro hx
      rcases List.mem_cons.1 ((h x).2 (by simp [hx])) with e | e
      · subst e; exact absurd (h2.1 x hx) (irr x)
      · exact e
theorem flatMap_eq {α β : Type} {f g : α → List β} : ∀ (l : List α), (∀ a ∈ l, f a = g a) → l.flatMap f = l.flatMap g
  | [], _ => rfl
  | a :: r, h => by rw [List.flatMap_cons, List.flatMap_cons, h a (by simp), flatMap_eq r fun b hb => h b (by simp [hb])]
def mkR {n : Nat} (k c : Nat) (i : Fin n) : GA n := (⟨(9 - k) % 10, by omega⟩, ⟨c % 30, by omega⟩, i)
def refA (l : Ldg) (x : List Fx) : List (GA l.brs.length) := (List.range 9).flatMap fun (k : Nat) => (List.range 30).flatMap fun (c : Nat) => (List.finRange l.brs.length).flatMap fun i =>
  (x.filter (cnd (9 - (k : Int)) c ((l.brs[i]).name, (leff l (l.brs[i]).name).1))).map fun _ => mkR k c i
theorem prs_fin (l : Ldg) : prs l = (List.finRange l.brs.length).map fun i => ((l.brs[i]).name, (leff l (l.brs[i]).name).1) := by
  unfold prs
  apply List.ext_getElem
  · simp
  · intro i h1 h2; simp
theorem refA_toG (l : Ldg) (x : List Fx) : (refA l x).map (toG l) = refG l x := by
  unfold refA refG o1 o2 o3 o4
  rw [List.map_flatMap]
  refine flatMap_eq _ fun k hk => ?_
  have hk' := List.mem_range.1 hk
  rw [List.map_flatMap]
  refine flatMap_eq _ fun c hc => ?_
  have hc' := List.mem_range.1 hc
  rw [List.map_flatMap, prs_fin, List.flatMap_map]
  refine flatMap_eq _ fun i _ => ?_
  rw [List.map_map]
  apply List.map_congr_left
  intro f _
  simp only [Function.comp, toG, mkR, Gp.mk.injEq, true_and]
  omega
theorem mem_allA {l : Ldg} {x : List Fx} (a : GA l.brs.length) : a ∈ allA l x ↔ ∃ f ∈ x, wantB (l.brs[a.2.2]).name (leff l (l.brs[a.2.2]).name).1 f = true ∧ a = mkA a.2.2 f := by
  unfold allA
  rw [List.mem_flatMap]
  constructor
  · rintro ⟨i, _, hm⟩
    obtain ⟨f, hf, rfl⟩ := List.mem_map.1 hm
    rw [List.mem_filter] at hf
    exact ⟨f, hf.1, hf.2, rfl⟩
  · rintro ⟨f, hf, hw, e⟩
    refine ⟨a.2.2, by simp, ?_⟩
    rw [e]
    exact List.mem_map.2 ⟨f, List.mem_filter.2 ⟨hf, hw⟩, rfl⟩
section
variable {l : Ldg} {x : List Fx} (h : mchk l x = 0)
include h
theorem fx_pw : x.Pairwise fun f g => f.cls ≠ g.cls := by
  rw [List.pairwise_iff_getElem]
  intro i j hi hj hij he
  have h1 := fxE_zero x [] (mchk_zero h).2.2 j x[j] (List.getElem?_eq_getElem hj)
  unfold oneE at h1
  split at h1
  · cases h1
  split at h1
  · cases h1
  split at h1
  · cases h1
  split at h1
  · cases h1
  · rename_i hn
    refine hn (any_hit (i := i) (a := x[i]) ?_ (by simp [he]))
    rw [List.nil_append, List.getElem?_take, if_pos hij]; exact List.getElem?_eq_getElem hi
theorem mem_refA (a : GA l.brs.length) : a ∈ refA l x ↔ a ∈ allA l x := by
  rw [mem_allA]
  unfold refA
  simp only [List.mem_flatMap, List.mem_range, List.mem_map, List.mem_filter]
  constructor
  · rintro ⟨k, hk, c, hc, i, _, f, ⟨hf, hq⟩, rfl⟩
    simp only [cnd, Bool.and_eq_true, decide_eq_true_eq] at hq
    obtain ⟨⟨⟨q1, q2⟩, q3⟩, q4⟩ := hq
    refine ⟨f, hf, ?_, ?_⟩
    · simp only [mkR, wantB, Bool.and_eq_true]
      exact ⟨q3, by rw [q2]; exact q4⟩
    · simp only [mkR, mkA, Prod.mk.injEq, Fin.mk.injEq, and_true]
      omega
  · rintro ⟨f, hf, hw, e⟩
    have hb := mchk_fx h hf
    simp only [wantB, Bool.and_eq_true] at hw
    refine ⟨(9 - f.wgt).toNat, by omega, f.cls.toNat, by omega, a.2.2, by simp, f, ⟨hf, ?_⟩, ?_⟩
    · have e1 : (9 : Int) - ((9 - f.wgt).toNat : Int) = f.wgt := by omega
      have e2 : (f.cls.toNat : Int) = f.cls := by omega
      rw [e1, e2]
      simp only [cnd, Bool.and_eq_true, decide_eq_true_eq]
      exact ⟨⟨⟨trivial, trivial⟩, hw.1⟩, hw.2⟩
    · rw [e]
      simp only [mkR, mkA, Prod.mk.injEq, Fin.mk.injEq, and_true]
      omega
theorem allA_nodup : (allA l x).Nodup := by
  unfold allA
  rw [List.nodup_iff_pairwise_ne, List.pairwise_flatMap]
  constructor
  · intro i _
    rw [List.pairwise_map]
    refine List.Pairwise.imp_of_mem ?_ ((fx_pw h).filter _)
    intro f g hf hg hne he
    have b1 := mchk_fx h (List.mem_filter.1 hf).1
    have b2 := mchk_fx h (List.mem_filter.1 hg).1
    simp only [mkA, Prod.mk.injEq, Fin.mk.injEq, and_true] at he
    omega
  · refine (List.nodup_iff_pairwise_ne.1 (List.nodup_finRange _)).imp ?_
    intro i j hij a ha b hb e
    obtain ⟨f, _, rfl⟩ := List.mem_map.1 ha
    obtain ⟨g, _, rfl⟩ := List.mem_map.1 hb
    simp only [mkA, Prod.mk.injEq] at e
    exact hij e.2.2
theorem srt_pw : (srtG (allA l x)).Pairwise ltG := by
  have hs : (srtG (allA l x)).Pairwise fun a b => (!(ltOf cfG) b a) = true := by
    refine List.pairwise_mergeSort ?_ ?_ _
    · intro a b c h1 h2
      rw [Bool.not_eq_true', ltOf_Gf] at *
      unfold ltG at *
      omega
    · intro a b
      rw [Bool.or_eq_true, Bool.not_eq_true', Bool.not_eq_true', ltOf_Gf, ltOf_Gf]
      unfold ltG
      omega
  have hn : (srtG (allA l x)).Nodup := (List.mergeSort_perm _ _).nodup_iff.2 (allA_nodup h)
  refine (hs.and (List.nodup_iff_pairwise_ne.1 hn)).imp ?_
  rintro a b ⟨h1, h2⟩
  rw [Bool.not_eq_true'] at h1
  cases h3 : ltOf cfG a b
  · exact absurd (totG a b h3 h1) h2
  · exact (ltOf_G a b).1 h3
theorem ref_pw : (refA l x).Pairwise ltG := by
  unfold refA
  rw [List.pairwise_flatMap]
  constructor
  · intro k hk
    rw [List.pairwise_flatMap]
    constructor
    · intro c hc
      rw [List.pairwise_flatMap]
      constructor
      · intro i _
        rw [List.pairwise_map]
        refine List.Pairwise.imp_of_mem ?_ ((fx_pw h).filter _)
        intro f g hf hg hne
        have q1 := (List.mem_filter.1 hf).2
        have q2 := (List.mem_filter.1 hg).2
        simp only [cnd, Bool.and_eq_true, decide_eq_true_eq] at q1 q2
        exact absurd (q1.1.1.2.trans q2.1.1.2.symm) hne
      · refine (List.pairwise_lt_finRange _).imp ?_
        intro i j hij a ha b hb
        obtain ⟨_, _, rfl⟩ := List.mem_map.1 ha
        obtain ⟨_, _, rfl⟩ := List.mem_map.1 hb
        exact .inr ⟨rfl, .inr ⟨rfl, hij⟩⟩
    · refine List.Pairwise.imp_of_mem ?_ List.pairwise_lt_range
      intro c d hc hd hcd a ha b hb
      rw [List.mem_range] at hc hd
      simp only [List.mem_flatMap, List.mem_map] at ha hb
      obtain ⟨i, _, _, _, rfl⟩ := ha
      obtain ⟨j, _, _, _, rfl⟩ := hb
      refine .inr ⟨rfl, .inl ?_⟩
      simp only [mkR]; omega
  · refine List.Pairwise.imp_of_mem ?_ List.pairwise_lt_range
    intro k m hk hm hkm a ha b hb
    rw [List.mem_range] at hk hm
    simp only [List.mem_flatMap, List.mem_map] at ha hb
    obtain ⟨_, _, i, _, _, _, rfl⟩ := ha
    obtain ⟨_, _, j, _, _, _, rfl⟩ := hb
    refine .inl ?_
    simp only [mkR]; omega
theorem srt_ref : srtG (allA l x) = refA l x :=
  sorted_ext (lt := ltG) (fun a => by unfold ltG; omega) (fun a b => by unfold ltG; omega) _ _ (srt_pw h) (ref_pw h) fun a => by
    rw [mem_refA h, srtG, List.mem_mergeSort]
end
end Go.Ab
end
