/- The fold over the events of a branch, in plain terms. -/
import Derived.Test.YtgcodedanljhpaaGreatDoorNI
set_option linter.unusedSimpArgs false
set_option linter.unusedVariables false
set_option maxRecDepth 1000000
set_option maxHeartbeats 8000000
namespace Go.Ab
open Go Go.Proofs Go.Sort
theorem lst_ge : ∀ (L : List Bool) (i : Nat), ∀ y ∈ lst i L, (i : Int) ≤ y
  | [], _, y, h => by simp [lst] at h
  | b :: r, i, y, h => by
    rw [lst] at h
    have ih := lst_ge r (i + 1) y
    split at h
    · rcases List.mem_cons.1 h with rfl | h
      · exact Int.le_refl _
      · have := ih h; omega
    · have := ih h; omega
theorem lst_any : ∀ (L : List Bool) (i k : Nat), ((lst i L).any fun y => decide (((i + k : Nat) : Int) = y)) = (L[k]?).getD false
  | [], _, _ => by simp [lst]
  | b :: r, i, 0 => by
    have h : ((lst (i + 1) r).any fun y => decide (((i + 0 : Nat) : Int) = y)) = false := by
      rw [List.any_eq_false]
      intro y hy
      have := lst_ge r (i + 1) y hy
      rw [decide_eq_true_eq]; omega
    rw [lst]
    cases b
    · simpa using h
    · simp
  | b :: r, i, k + 1 => by
    have ih := lst_any r (i + 1) k
    rw [show i + 1 + k = i + (k + 1) from by omega] at ih
    rw [lst]
    cases b
    · simpa using ih
    · simp only [if_true, List.any_cons, ih, List.getElem?_cons_succ]
      rw [decide_eq_false (by omega), Bool.false_or]
theorem eff_any {f : Str → Int} {es : List Ev} {c : Int} (h : 0 ≤ c ∧ c < 30) : ((lst 0 (inL f es)).any fun y => decide (c = y)) = inB f es c := by
  have := lst_any (inL f es) 0 c.toNat
  rw [inL_get (by omega), Nat.zero_add, Option.getD_some, show ((c.toNat : Nat) : Int) = c from by omega] at this
  exact this
def cntC (c : Int) : List Gp → Nat
  | [] => 0
  | g :: r => (if g.cls = c then 1 else 0) + cntC c r
theorem cntC_snoc {c : Int} {g : Gp} : ∀ G : List Gp, cntC c (G ++ [g]) = cntC c G + if g.cls = c then 1 else 0
  | [] => by simp [cntC]
  | h :: r => by rw [List.cons_append, cntC, cntC, cntC_snoc r]; omega
theorem cntC_perm {c : Int} {G H : List Gp} (h : G.Perm H) : cntC c G = cntC c H := by
  induction h with
  | nil => rfl
  | cons x _ ih => rw [cntC, cntC, ih]
  | swap x y l => simp only [cntC]; omega
  | trans _ _ h1 h2 => exact h1.trans h2
theorem cntC_le {c : Int} : ∀ G : List Gp, cntC c G ≤ G.length
  | [] => by simp [cntC]
  | g :: r => by have := cntC_le (c := c) r; rw [cntC, List.length_cons]; split <;> omega
theorem cntC_no {c : Int} {b : Str} {inn : List Int} : ∀ x : List Fx, (∀ f ∈ x, f.cls ≠ c) → cntC c (gapsOf x b inn) = 0
  | [], _ => rfl
  | f :: r, h => by
    have ih := cntC_no (c := c) (b := b) (inn := inn) r fun g hg => h g (by simp [hg])
    unfold gapsOf at ih ⊢
    rw [List.filter_cons]
    split
    · rw [List.map_cons, cntC, if_neg (h f (by simp)), ih]
    · exact ih
theorem cntC_one {b : Str} {inn : List Int} : ∀ (x : List Fx) (f : Fx), f ∈ x → (x.Pairwise fun f g => f.cls ≠ g.cls) → cntC f.cls (gapsOf x b inn) = if wantB b inn f then 1 else 0
  | [], f, h, _ => by simp at h
  | g :: r, f, h, hp => by
    rw [List.pairwise_cons] at hp
    unfold gapsOf
    rw [List.filter_cons]
    rcases List.mem_cons.1 h with rfl | h
    · have hr := cntC_no (c := f.cls) (b := b) (inn := inn) r fun q hq => fun e => hp.1 q hq e.symm
      unfold gapsOf at hr
      split
      · rw [List.map_cons, cntC, hr]; simp
      · exact hr
    · have hr := cntC_one (b := b) (inn := inn) r f h hp.2
      unfold gapsOf at hr
      split
      · rw [List.map_cons, cntC, if_neg (by simp only; exact hp.1 f h), hr, Nat.zero_add]
      · exact hr
section
variable {l : Ldg} {x : List Fx} (h : mchk l x = 0) (i : Fin l.brs.length) (inn : List Int)
include h
theorem o1_perm : (o1 x [((l.brs[i]).name, inn)] 9).Perm (gapsOf x (l.brs[i]).name inn) := by
  rw [← srtB_ref i inn h]
  have e : gapsOf x (l.brs[i]).name inn = (oneA i inn x).map (toG l) := by
    rw [gapsOf, oneA, List.map_map]
    apply List.map_congr_left
    intro f hf
    have := mchk_fx h (List.mem_filter.1 hf).1
    simp only [Function.comp, toG, mkA, Gp.mk.injEq, true_and]
    omega
  rw [e]
  exact (List.mergeSort_perm _ _).map _
theorem o1_cnt {f : Fx} (hf : f ∈ x) : cntC f.cls (o1 x [((l.brs[i]).name, inn)] 9) = if wantB (l.brs[i]).name inn f then 1 else 0 := by
  rw [cntC_perm (o1_perm h i inn), cntC_one x f hf (fx_pw h)]
theorem o1_mem {g : Gp} (hg : g ∈ o1 x [((l.brs[i]).name, inn)] 9) : g.br = (l.brs[i]).name ∧ ∃ f ∈ x, g.cls = f.cls ∧ g.wgt = f.wgt := by
  have := (o1_perm h i inn).mem_iff.1 hg
  obtain ⟨f, hf, rfl⟩ := List.mem_map.1 this
  exact ⟨rfl, f, (List.mem_filter.1 hf).1, rfl, rfl⟩
theorem fx_uniq {f g : Fx} (hf : f ∈ x) (hg : g ∈ x) (e : f.cls = g.cls) : f = g := by
  obtain ⟨a, ha⟩ := List.mem_iff_getElem?.1 hf
  obtain ⟨b, hb⟩ := List.mem_iff_getElem?.1 hg
  have hp := List.pairwise_iff_getElem.1 (fx_pw h)
  obtain ⟨ha1, ha2⟩ := List.getElem?_eq_some_iff.1 ha
  obtain ⟨hb1, hb2⟩ := List.getElem?_eq_some_iff.1 hb
  rcases Nat.lt_trichotomy a b with k | k | k
  · exact absurd (by rw [ha2, hb2]; exact e) (hp a b ha1 hb1 k)
  · subst k; rw [ha] at hb; exact Option.some.inj hb
  · exact absurd (by rw [ha2, hb2]; exact e.symm) (hp b a hb1 ha1 k)
end
def ownG (n : Str) (G : List Gp) : List Gp := G.filter fun g => decide (g.br = n)
theorem ownG_snoc {n : Str} {g : Gp} {G : List Gp} : ownG n (G ++ [g]) = ownG n G ++ if g.br = n then [g] else [] := by
  unfold ownG
  rw [List.filter_append]
  congr 1
  by_cases e : g.br = n <;> simp [e]
theorem filter_flatMap' {α β : Type} {p : β → Bool} {f : α → List β} : ∀ l : List α, (l.flatMap f).filter p = l.flatMap fun a => (f a).filter p
  | [] => rfl
  | a :: r => by rw [List.flatMap_cons, List.filter_append, filter_flatMap' r, List.flatMap_cons]
theorem o4_own {w c : Int} {p : Pr} {x : List Fx} {n : Str} : (o4 w c p x).filter (fun g => decide (g.br = n)) = if p.1 = n then o4 w c p x else [] := by
  unfold o4
  split
  · rename_i e
    rw [List.filter_eq_self]
    intro g hg
    obtain ⟨f, _, rfl⟩ := List.mem_map.1 hg
    simp [e]
  · rename_i e
    rw [List.filter_eq_nil_iff]
    intro g hg
    obtain ⟨f, _, rfl⟩ := List.mem_map.1 hg
    simp [e]
theorem o1_own {x : List Fx} {n : Str} (ps : List Pr) (m : Nat) : ownG n (o1 x ps m) = o1 x (ps.filter fun p => decide (p.1 = n)) m := by
  unfold ownG o1 o2 o3
  rw [filter_flatMap']
  refine flatMap_eq _ fun k _ => ?_
  rw [filter_flatMap']
  refine flatMap_eq _ fun c _ => ?_
  rw [filter_flatMap']
  induction ps with
  | nil => rfl
  | cons p r ih =>
    rw [List.flatMap_cons, ih, o4_own, List.filter_cons]
    by_cases e : p.1 = n
    · simp [e]
    · simp [e]
theorem filter_one {α : Type} {p : α → Bool} : ∀ (L : List α) (i : Nat) (a : α), L[i]? = some a → p a = true → (∀ (j : Nat) b, L[j]? = some b → p b = true → j = i) → L.filter p = [a]
  | [], _, _, h, _, _ => by simp at h
  | b :: r, 0, a, h, hp, hu => by
    simp only [List.getElem?_cons_zero, Option.some.injEq] at h
    subst h
    rw [List.filter_cons, if_pos hp]
    congr 1
    rw [List.filter_eq_nil_iff]
    intro c hc hpc
    obtain ⟨j, hj⟩ := List.mem_iff_getElem?.1 hc
    have := hu (j + 1) c (by simpa using hj) hpc
    omega
  | b :: r, i + 1, a, h, hp, hu => by
    have hb : ¬ p b = true := fun hb => by have := hu 0 b rfl hb; omega
    rw [List.filter_cons, if_neg hb]
    exact filter_one r i a (by simpa using h) hp fun j c hj hc => by have := hu (j + 1) c (by simpa using hj) hc; omega
theorem own_gapL {l : Ldg} {x : List Fx} (h : mchk l x = 0) (i : Fin l.brs.length) : ownG (l.brs[i]).name (gapL l x) = o1 x [((l.brs[i]).name, (leff l (l.brs[i]).name).1)] 9 := by
  have hok := lok_of (mchk_zero h).1
  rw [gapL_ref h, refG, o1_own]
  congr 1
  refine filter_one _ i.val _ ?_ ?_ ?_
  · rw [prs, List.getElem?_map, List.getElem?_eq_getElem i.isLt]; rfl
  · simp
  · intro j b hj hb
    rw [prs, List.getElem?_map, Option.map_eq_some_iff] at hj
    obtain ⟨c, hc, rfl⟩ := hj
    simp only [decide_eq_true_eq] at hb
    have h1 := (tok_fits hok.fits).uniq hc
    have h2 := (tok_fits hok.fits).uniq (List.getElem?_eq_getElem i.isLt)
    rw [show (l.brs[i.val]'i.isLt).name = (l.brs[i]).name from rfl, ← hb] at h2
    omega
def befB (l : Ldg) (a b : Gp) : Bool := if a.wgt ≠ b.wgt then decide (b.wgt < a.wgt) else if a.cls ≠ b.cls then decide (a.cls < b.cls) else decide (idx l.brs a.br < idx l.brs b.br)
theorem befI (w1 w2 c1 c2 i1 i2 : Int) (h : w2 < w1 ∨ (w1 = w2 ∧ (c1 < c2 ∨ (c1 = c2 ∧ i1 < i2)))) : (if w1 ≠ w2 then decide (w2 < w1) else if c1 ≠ c2 then decide (c1 < c2) else decide (i1 < i2)) = true := by
  by_cases k1 : w1 ≠ w2
  · rw [if_pos k1, decide_eq_true_eq]; omega
  · rw [if_neg k1]
    by_cases k2 : c1 ≠ c2
    · rw [if_pos k2, decide_eq_true_eq]; omega
    · rw [if_neg k2, decide_eq_true_eq]; omega
theorem bef_gapL {l : Ldg} {x : List Fx} (h : mchk l x = 0) {k : Nat} {a b : Gp} (ha : (gapL l x)[k]? = some a) (hb : (gapL l x)[k + 1]? = some b) : befB l a b = true := by
  have hok := lok_of (mchk_zero h).1
  have hp := List.pairwise_iff_getElem.1 (srt_pw h)
  rw [gapL, List.getElem?_map, Option.map_eq_some_iff] at ha hb
  obtain ⟨a', ha', rfl⟩ := ha
  obtain ⟨b', hb', rfl⟩ := hb
  obtain ⟨ha1, ha2⟩ := List.getElem?_eq_some_iff.1 ha'
  obtain ⟨hb1, hb2⟩ := List.getElem?_eq_some_iff.1 hb'
  have hlt := hp k (k + 1) ha1 hb1 (by omega)
  rw [ha2, hb2] at hlt
  have h1 := (tok_fits hok.fits).uniq (List.getElem?_eq_getElem a'.2.2.isLt)
  have h2 := (tok_fits hok.fits).uniq (List.getElem?_eq_getElem b'.2.2.isLt)
  have e1 : idx l.brs (toG l a').br = (a'.2.2.val : Int) := h1
  have e2 : idx l.brs (toG l b').br = (b'.2.2.val : Int) := h2
  unfold befB
  rw [e1, e2]
  unfold ltG at hlt
  exact befI _ _ _ _ _ _ (by simp only [toG]; omega)
end Go.Ab
