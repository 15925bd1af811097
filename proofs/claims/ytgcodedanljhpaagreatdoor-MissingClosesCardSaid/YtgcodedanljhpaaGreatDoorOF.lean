/- One event more: the views of the branches. -/
import Derived.Test.YtgcodedanljhpaaGreatDoorLC
import Derived.Test.YtgcodedanljhpaaGreatDoorOC
import Derived.Test.YtgcodedanljhpaaGreatDoorLW
import Derived.Test.YtgcodedanljhpaaGreatDoorNH
set_option linter.unusedSimpArgs false
set_option linter.unusedVariables false
section
namespace Go.Ab
open Go
theorem own_succN (i c : Nat) : own i ((c : Int) + 1) = own i c ++ [(i, c)] := by
  have h : ((c : Int) + 1).toNat = c + 1 := by omega
  rw [own, own, h, Int.toNat_natCast, List.range_succ, List.map_append]; rfl
theorem vw_grow {l : List Br} {cs : List Int} {i c : Nat} (h : VOk l cs) (hc : cs[i]? = some (c : Int)) (h' : VOk l (cs.set i ((c : Int) + 1))) :
    ∀ j, j < l.length → vw l (cs.set i ((c : Int) + 1)) j = if j = i then vw l cs i ++ [(i, c)] else vw l cs j := by
  intro j
  induction j using Nat.strongRecOn with
  | _ j ih =>
    intro hj
    obtain ⟨b, cj, hb, hcj, _, _⟩ := h.at hj
    have hlt : i < cs.length := (List.getElem?_eq_some_iff.1 hc).1
    have hpre : (if j = 0 then [] else (vw l (cs.set i ((c : Int) + 1)) (idx l b.frm).toNat).take b.pos.toNat) = (if j = 0 then [] else (vw l cs (idx l b.frm).toNat).take b.pos.toNat) := by
      by_cases h0 : j = 0
      · rw [if_pos h0, if_pos h0]
      · rw [if_neg h0, if_neg h0]
        have hp := (h.frm j b hb (by omega)).2
        rw [ih _ hp (by omega)]
        by_cases e : (idx l b.frm).toNat = i
        · rw [if_pos e, List.take_append_of_le_length (by have := h.long hb (by omega); rw [e] at this; exact this), e]
        · rw [if_neg e]
    by_cases e : j = i
    · subst e
      rw [hc] at hcj
      cases hcj
      have hc' : (cs.set j ((c : Int) + 1))[j]? = some ((c : Int) + 1) := List.getElem?_set_self hlt
      rw [if_pos rfl, h'.eq hb hc', h.eq hb hc, hpre, own_succN, List.append_assoc]
    · have hc' : (cs.set i ((c : Int) + 1))[j]? = some cj := by rw [List.getElem?_set_ne (Ne.symm e)]; exact hcj
      rw [if_neg e, h'.eq hb hc', h.eq hb hcj, hpre]
theorem bfits_iff {l : List Br} {cs : List Int} : bfits l cs = 0 ↔ bchk l = 0 ∧ cs.length = l.length ∧ (∀ n ∈ cs, 0 ≤ n ∧ n ≤ 40) ∧ ∀ (i : Nat) b, l[i]? = some b → fitI l cs i b = true := by
  unfold bfits
  constructor
  · intro h
    by_cases h1 : bchk l = 0
    · rw [if_neg (by rw [Decidable.not_not]; exact h1)] at h
      split at h
      · cases h
      · rename_i h2
        split at h
        · cases h
        · rename_i h3
          rw [Bool.not_eq_true, anyI_false] at h3
          refine ⟨h1, Decidable.not_not.1 fun e => h2 (.inl e), fun n hn => ?_, fun i b hb => by have := h3 i b hb; simpa using this⟩
          have : ¬ (cs.any fun n => decide (n < 0) || decide (40 < n)) = true := fun e => h2 (.inr e)
          rw [Bool.not_eq_true, List.any_eq_false] at this
          have := this n hn
          simp only [Bool.or_eq_true, decide_eq_true_eq] at this
          omega
    · rw [if_pos h1] at h; exact absurd h h1
  · rintro ⟨h1, h2, h3, h4⟩
    rw [if_neg (by rw [Decidable.not_not]; exact h1), if_neg, if_neg]
    · rw [Bool.not_eq_true, anyI_false]
      intro i b hb
      rw [h4 i b hb]; rfl
    · rintro (e | e)
      · exact e h2
      · obtain ⟨n, hn, hx⟩ := List.any_eq_true.1 e
        have := h3 n hn
        simp only [Bool.or_eq_true, decide_eq_true_eq] at hx
        omega
theorem bfits_grow {l : List Br} {cs : List Int} {i c : Nat} (h : bfits l cs = 0) (hc : cs[i]? = some (c : Int)) (h40 : c < 40) : bfits l (cs.set i ((c : Int) + 1)) = 0 := by
  obtain ⟨h1, h2, h3, h4⟩ := bfits_iff.1 h
  have hlt : i < cs.length := (List.getElem?_eq_some_iff.1 hc).1
  refine bfits_iff.2 ⟨h1, by rw [List.length_set]; exact h2, fun n hn => ?_, fun j b hb => ?_⟩
  · rcases List.mem_or_eq_of_mem_set hn with e | e
    · exact h3 n e
    · omega
  · have := h4 j b hb
    simp only [fitI, Bool.or_eq_true, decide_eq_true_eq] at this ⊢
    refine this.imp id fun hle => Int.le_trans hle ?_
    unfold endOf
    by_cases e : (idx l b.frm).toNat = i
    · rw [e, List.getElem?_set_self hlt, hc]
      cases l[i]? <;> simp only <;> omega
    · rw [List.getElem?_set_ne (Ne.symm e)]
      exact Int.le_refl _
def growL (l : Ldg) (i : Nat) (own : List Ev) (x : Ev) : Ldg := { l with evs := l.evs.set i (own ++ [x]) }
theorem cnts_grow {l : Ldg} {i : Nat} {own : List Ev} {x : Ev} : cnts (growL l i own x) = (cnts l).set i ((own.length : Int) + 1) := by
  simp only [cnts, growL, List.map_set, List.length_append, List.length_singleton]; rfl
theorem cnts_at {l : Ldg} {i : Nat} {own : List Ev} (ho : l.evs[i]? = some own) : (cnts l)[i]? = some (own.length : Int) := by
  rw [cnts, List.getElem?_map, ho]; rfl
theorem evAt_grow {l : Ldg} {i : Nat} {own : List Ev} {x : Ev} (ho : l.evs[i]? = some own) {m : Nat × Nat} (hm : ∃ c, (cnts l)[m.1]? = some c ∧ (m.2 : Int) < c) : evAt (growL l i own x) m = evAt l m := by
  obtain ⟨c, h1, h2⟩ := hm
  have hlt : i < l.evs.length := (List.getElem?_eq_some_iff.1 ho).1
  unfold evAt growL
  by_cases e : m.1 = i
  · rw [e, cnts_at ho] at h1
    cases h1
    simp only [e, List.getElem?_set_self hlt, ho, Option.getD_some]
    rw [List.getElem?_append_left (by omega)]
  · simp only [List.getElem?_set_ne (Ne.symm e)]
theorem seenE_grow {l : Ldg} {i : Nat} {own : List Ev} {x : Ev} (ho : l.evs[i]? = some own) {v : List (Nat × Nat)} (hv : ∀ m ∈ v, ∃ c, (cnts l)[m.1]? = some c ∧ (m.2 : Int) < c) : seenE (growL l i own x) v = seenE l v :=
  List.map_congr_left fun m hm => evAt_grow ho (hv m hm)
theorem preE_grow {l : Ldg} {i : Nat} {own : List Ev} {x : Ev} (h : VOk l.brs (cnts l)) (h' : VOk l.brs (cnts (growL l i own x))) (ho : l.evs[i]? = some own) {j : Nat} (hj : j < l.brs.length) : preE (growL l i own x) j = preE l j := by
  obtain ⟨b, c, hb, hc, c0, c1⟩ := h.at hj
  have hp := h.at_ j b hb
  rw [cnts_grow] at h'
  unfold preE
  have e1 : (growL l i own x).brs = l.brs := rfl
  rw [e1, hb, cnts_grow, vw_grow h (cnts_at ho) h' j hj]
  have e2 : (if j = i then vw l.brs (cnts l) i ++ [(i, own.length)] else vw l.brs (cnts l) j).take b.pos.toNat = (vw l.brs (cnts l) j).take b.pos.toNat := by
    by_cases e : j = i
    · subst e
      rw [if_pos rfl, List.take_append_of_le_length (by rw [h.length j hj hb hc]; omega)]
    · rw [if_neg e]
  simp only [e2]
  exact seenE_grow ho fun m hm => (h.mem j hj m (List.mem_of_mem_take hm)).2
theorem lchk_of {l : Ldg} (h : LOk l) : lchk l = 0 := by
  unfold lchk
  rw [if_neg (by have := h.known; omega), if_neg (by rw [h.nodup]; decide), if_neg (by rw [h.kw]; decide), if_neg (by rw [Decidable.not_not]; exact h.chk), if_neg (by rw [Decidable.not_not]; exact h.len), if_neg, if_neg (by rw [Decidable.not_not]; exact h.fits), if_neg]
  · rw [Bool.not_eq_true, anyI_false]
    intro i own ho
    rw [h.run i own ho]; rfl
  · rw [Bool.not_eq_true, List.any_eq_false]
    intro s hs
    have := h.evs s hs
    simp only [decide_eq_true_eq]; omega
theorem lok_grow {l : Ldg} {i : Nat} {own : List Ev} {x : Ev} (h : LOk l) (ho : l.evs[i]? = some own) (h40 : own.length < 40) (hk : (clsOf l.known x.chg).isSome = true)
    (ha : alw (cls0 l.known) (preE l i ++ own) x = 0) : LOk (growL l i own x) := by
  have hlt : i < l.evs.length := (List.getElem?_eq_some_iff.1 ho).1
  have hf : bfits l.brs (cnts (growL l i own x)) = 0 := by rw [cnts_grow]; exact bfits_grow h.fits (cnts_at ho) h40
  refine ⟨h.known, h.nodup, h.kw, h.chk, by simp only [growL, List.length_set]; exact h.len, fun s hs => ?_, hf, fun j o hj => ?_⟩
  · rcases List.mem_or_eq_of_mem_set hs with e | e
    · exact h.evs s e
    · subst e; rw [List.length_append, List.length_singleton]; omega
  · have hjl : j < l.brs.length := by
      have := (List.getElem?_eq_some_iff.1 hj).1
      simp only [growL, List.length_set] at this
      rw [← h.len]; exact this
    rw [show (growL l i own x).known = l.known from rfl, preE_grow (vok_of h.fits) (vok_of hf) ho hjl]
    by_cases e : j = i
    · subst e
      simp only [growL, List.getElem?_set_self hlt, Option.some.injEq] at hj
      subst hj
      refine runB_iff.2 fun k y hy => ?_
      by_cases hkl : k < own.length
      · rw [List.getElem?_append_left hkl] at hy
        rw [List.take_append_of_le_length (by omega)]
        exact runB_iff.1 (h.run j own ho) k y hy
      · have hk2 : k = own.length := by
          have := (List.getElem?_eq_some_iff.1 hy).1
          rw [List.length_append, List.length_singleton] at this
          omega
        subst hk2
        rw [List.getElem?_append_right (Nat.le_refl _), Nat.sub_self, List.getElem?_cons_zero] at hy
        cases hy
        rw [List.take_left]
        exact ⟨hk, ha⟩
    · simp only [growL, List.getElem?_set_ne (Ne.symm e)] at hj
      exact h.run j o hj
theorem seen_grow {l : Ldg} {i : Nat} {own : List Ev} {x : Ev} (h : VOk l.brs (cnts l)) (h' : VOk l.brs (cnts (growL l i own x))) (ho : l.evs[i]? = some own) {j : Nat} (hj : j < l.brs.length) :
    seenE (growL l i own x) (vw l.brs (cnts (growL l i own x)) j) = if j = i then seenE l (vw l.brs (cnts l) i) ++ [x] else seenE l (vw l.brs (cnts l) j) := by
  have hlt : i < l.evs.length := (List.getElem?_eq_some_iff.1 ho).1
  rw [cnts_grow] at h' ⊢
  rw [vw_grow h (cnts_at ho) h' j hj]
  by_cases e : j = i
  · subst e
    rw [if_pos rfl, if_pos rfl, seenE, List.map_append, ← seenE, seenE_grow ho fun m hm => (h.mem j hj m hm).2]
    congr 1
    simp only [List.map_cons, List.map_nil, evAt, growL, List.getElem?_set_self hlt, Option.getD_some]
    rw [List.getElem?_append_right (Nat.le_refl _), Nat.sub_self]; rfl
  · rw [if_neg e, if_neg e, seenE_grow ho fun m hm => (h.mem j hj m hm).2]
end Go.Ab
end

section
/- What an event that may be appended leaves. -/
namespace Go.Ab
open Go Go.Proofs
theorem lapp_ok {l : Ldg} {n : Str} {x : Ev} (h : lappE l n x = 0) : LOk l ∧ ∃ i own, i < l.brs.length ∧ idx l.brs n = (i : Int) ∧ l.evs[i]? = some own ∧ lapp l n x = growL l i own x ∧ LOk (growL l i own x) ∧
    (clsOf l.known x.chg).isSome = true ∧ alw (cls0 l.known) (seenE l (vw l.brs (cnts l) i)) x = 0 := by
  unfold lappE at h
  by_cases h0 : (lview l n).2 = 0
  · rw [if_neg (by rw [Decidable.not_not]; exact h0)] at h
    obtain ⟨hok, i, hib, hidx, hv⟩ := lview_ok h0
    have hie : i < l.evs.length := by have := hok.len; omega
    obtain ⟨own, hx, hxm⟩ := get_of_lt hie
    have hidx' : (idx l.brs n).toNat = i := by rw [hidx]; rfl
    have hgd : l.evs.getD i [] = own := by rw [List.getD_eq_getElem?_getD, hx]; rfl
    split at h
    · cases h
    · rename_i h1
      rw [hidx', hgd] at h
      split at h
      · cases h
      · rename_i h2
        have h40 : own.length < 40 := by have := hok.evs own hxm; omega
        have hk : (clsOf l.known x.chg).isSome = true := by
          cases e : clsOf l.known x.chg with
          | none => exact absurd e h1
          | some _ => rfl
        rw [hv] at h
        have hs := seen_split hok.vok hx hib
        refine ⟨hok, i, own, hib, hidx, hx, ?_, lok_grow hok hx h40 hk ?_, hk, h⟩
        · rw [lapp, hidx', hgd]; rfl
        · rw [← hs]; exact h
  · rw [if_pos h0] at h
    exact absurd h h0
end Go.Ab
end

section
/- What one event more changes in the gaps. -/
set_option maxRecDepth 1000000
set_option maxHeartbeats 8000000
namespace Go.Ab
open Go Go.Proofs Go.Sort
theorem lst_geC : ∀ (L : List Bool) (i : Nat), ∀ y ∈ lst i L, (i : Int) ≤ y
  | [], _, y, h => by simp [lst] at h
  | b :: r, i, y, h => by
    rw [lst] at h
    have ih := lst_geC r (i + 1) y
    split at h
    · rcases List.mem_cons.1 h with rfl | h
      · exact Int.le_refl _
      · have := ih h; omega
    · have := ih h; omega
theorem lst_anyC : ∀ (L : List Bool) (i k : Nat), ((lst i L).any fun y => decide (((i + k : Nat) : Int) = y)) = (L[k]?).getD false
  | [], _, _ => by simp [lst]
  | b :: r, i, 0 => by
    have h : ((lst (i + 1) r).any fun y => decide (((i + 0 : Nat) : Int) = y)) = false := by
      rw [List.any_eq_false]
      intro y hy
      have := lst_geC r (i + 1) y hy
      rw [decide_eq_true_eq]; omega
    rw [lst]
    cases b
    · simpa using h
    · simp
  | b :: r, i, k + 1 => by
    have ih := lst_anyC r (i + 1) k
    rw [show i + 1 + k = i + (k + 1) from by omega] at ih
    rw [lst]
    cases b
    · simpa using ih
    · simp only [if_true, List.any_cons, ih, List.getElem?_cons_succ]
      rw [decide_eq_false (by omega), Bool.false_or]
theorem eff_anyC {f : Str → Int} {es : List Ev} {c : Int} (h : 0 ≤ c ∧ c < 30) : ((lst 0 (inL f es)).any fun y => decide (c = y)) = inB f es c := by
  have := lst_anyC (inL f es) 0 c.toNat
  rw [inL_get (by omega), Nat.zero_add, Option.getD_some, show ((c.toNat : Nat) : Int) = c from by omega] at this
  exact this
theorem leff_at {l : Ldg} (hok : LOk l) (k : Nat) (hk : k < l.brs.length) : leff l (l.brs[k]).name = (effE l.known (seenE l (vw l.brs (cnts l) k)), 0) := by
  have hi := (tok_fits hok.fits).uniq (List.getElem?_eq_getElem hk)
  have h2 : lview l (l.brs[k]).name = (vw l.brs (cnts l) k, 0) := by
    rw [lview, if_neg (by rw [Decidable.not_not]; exact lchk_of hok), bview, if_neg (by rw [Decidable.not_not]; exact hok.fits), hi, if_neg (by omega), Int.toNat_natCast]
  rw [leff, h2]
  simp only
  rw [if_neg (by simp)]
theorem fxE_grow {l : Ldg} {i : Nat} {own : List Ev} {e : Ev} : ∀ (x pre : List Fx), fxE (growL l i own e) pre x = fxE l pre x
  | [], _ => rfl
  | f :: r, pre => by rw [fxE, fxE, fxE_grow r]; rfl
theorem mchk_grow {l : Ldg} {x : List Fx} {i : Nat} {own : List Ev} {e : Ev} (h : mchk l x = 0) (hm : LOk (growL l i own e)) : mchk (growL l i own e) x = 0 := by
  obtain ⟨_, h2, h3⟩ := mchk_zero h
  rw [mchk, if_neg (by rw [Decidable.not_not]; exact lchk_of hm), if_neg (by omega), fxE_grow, h3]
def atG (n : Str) (c : Int) (g : Gp) : Bool := decide (g.br = n) && decide (g.cls = c)
theorem srt_memC {n : Nat} {A : List (GA n)} {a : GA n} : a ∈ srtG A ↔ a ∈ A := by rw [srtG, List.mem_mergeSort]
theorem wantC {l : Ldg} (hok : LOk l) {x : List Fx} (h : mchk l x = 0) (j : Nat) (hj : j < l.brs.length) {f : Fx} (hf : f ∈ x) :
    wantB (l.brs[j]).name (leff l (l.brs[j]).name).1 f = ((f.brs.any fun y => decide ((l.brs[j]).name = y)) && !inB (cls0 l.known) (seenE l (vw l.brs (cnts l) j)) f.cls) := by
  have := mchk_fx h hf
  rw [leff_at hok j hj, wantB, effE, eff_anyC (by omega)]
theorem alw3 {f : Str → Int} {es : List Ev} {x : Ev} (h : alw f es x = 0) (h3 : x.kind = 3) : inB f es (f x.chg) = true := by
  unfold alw alwC at h
  rw [if_neg (by omega), if_pos h3] at h
  cases e : inB f es (f x.chg)
  · rw [e] at h; cases h
  · rfl
theorem clsI_cls0 {k : List Kw} {c : Str} (h : (clsOf k c).isSome = true) : clsI k c = cls0 k c := by
  obtain ⟨v, hv⟩ := Option.isSome_iff_exists.1 h
  rw [clsI, cls0, hv]; rfl
theorem grow_gaps {l : Ldg} {x : List Fx} (hx : mchk l x = 0) {i : Nat} {own : List Ev} {e : Ev} (hi : i < l.brs.length) (ho : l.evs[i]? = some own)
    (hm : LOk (growL l i own e)) (hk : (clsOf l.known e.chg).isSome = true) (ha : alw (cls0 l.known) (seenE l (vw l.brs (cnts l) i)) e = 0) :
    (if e.kind ≠ 3 then gapL (growL l i own e) x else gapL l x) = (if e.kind ≠ 3 then gapL l x else gapL (growL l i own e) x).filter fun g => !atG (l.brs[i]).name (clsI l.known e.chg) g := by
  have hok := lok_of (mchk_zero hx).1
  have hx' := mchk_grow hx hm (i := i) (own := own) (e := e)
  have hseen := fun j (hj : j < l.brs.length) => seen_grow hok.vok hm.vok ho hj (x := e)
  have hc := clsI_cls0 hk
  have hw1 := fun j hj {f} hf => wantC hok hx j hj (f := f) hf
  have hw2 := fun j hj {f} hf => wantC hm hx' j hj (f := f) hf
  have p1 := srt_pw hx
  have p2 := srt_pw hx'
  have m1 := mem_allA (l := l) (x := x)
  have m2 := mem_allA (l := growL l i own e) (x := x)
  have hbr : (growL l i own e).brs = l.brs := rfl
  have hkn : (growL l i own e).known = l.known := rfl
  have hg1 : gapL l x = (srtG (allA l x)).map (toG l) := rfl
  have hg2 : gapL (growL l i own e) x = (srtG (allA (growL l i own e) x)).map (toG l) := rfl
  have hA2 : ∃ A2 : List (GA l.brs.length), A2 = allA (growL l i own e) x := ⟨_, rfl⟩
  obtain ⟨A2, hA2⟩ := hA2
  have p2' : (srtG A2).Pairwise ltG := by rw [hA2]; exact p2
  have hg2' : gapL (growL l i own e) x = (srtG A2).map (toG l) := by rw [hA2]; rfl
  have hmem : ∀ a : GA l.brs.length, (∃ f, f ∈ x ∧ (f.brs.any fun y => decide ((l.brs[a.2.2]).name = y)) = true ∧ a = mkA a.2.2 f ∧ 0 ≤ f.cls ∧ f.cls < 30 ∧ (a.2.1.val : Int) = f.cls) → True := fun _ _ => trivial
  have hv : ∀ (j : Fin l.brs.length) (f : Fx), f ∈ x → ((mkA j f).2.1.val : Int) = f.cls := fun j f hf => by
    have := mchk_fx hx hf
    simp only [mkA]; omega
  have q1 : ∀ a : GA l.brs.length, a ∈ allA l x ↔ ∃ f ∈ x, ((f.brs.any fun y => decide ((l.brs[a.2.2]).name = y)) && !inB (cls0 l.known) (seenE l (vw l.brs (cnts l) a.2.2)) f.cls) = true ∧ a = mkA a.2.2 f := fun a => by
    rw [m1 a]
    constructor
    · rintro ⟨f, hf, h1, h2⟩; exact ⟨f, hf, (hw1 a.2.2.val a.2.2.isLt hf).symm.trans h1, h2⟩
    · rintro ⟨f, hf, h1, h2⟩; exact ⟨f, hf, (hw1 a.2.2.val a.2.2.isLt hf).trans h1, h2⟩
  have q2 : ∀ a : GA l.brs.length, a ∈ A2 ↔ ∃ f ∈ x, ((f.brs.any fun y => decide ((l.brs[a.2.2]).name = y)) && !(if a.2.2.val = i then (if cls0 l.known e.chg = f.cls then decide (e.kind ≠ 3) else inB (cls0 l.known) (seenE l (vw l.brs (cnts l) i)) f.cls) else inB (cls0 l.known) (seenE l (vw l.brs (cnts l) a.2.2)) f.cls)) = true ∧ a = mkA a.2.2 f := fun a => by
    have hs := hseen a.2.2.val a.2.2.isLt
    have hw := fun {f} hf => hw2 a.2.2.val a.2.2.isLt (f := f) hf
    simp only [hbr, hkn, hs] at hw
    rw [hA2]
    refine (m2 a).trans ?_
    have key : ∀ f : Fx, inB (cls0 l.known) (if a.2.2.val = i then seenE l (vw l.brs (cnts l) i) ++ [e] else seenE l (vw l.brs (cnts l) a.2.2.val)) f.cls = (if a.2.2.val = i then (if cls0 l.known e.chg = f.cls then decide (e.kind ≠ 3) else inB (cls0 l.known) (seenE l (vw l.brs (cnts l) i)) f.cls) else inB (cls0 l.known) (seenE l (vw l.brs (cnts l) a.2.2)) f.cls) := fun f => by
      by_cases hj : a.2.2.val = i
      · rw [if_pos hj, if_pos hj, inB_snoc]
      · rw [if_neg hj, if_neg hj]
    constructor
    · rintro ⟨f, hf, h1, h2⟩; refine ⟨f, hf, ?_, h2⟩; rw [← key f]; exact (hw hf).symm.trans h1
    · rintro ⟨f, hf, h1, h2⟩; refine ⟨f, hf, ?_, h2⟩; rw [← key f] at h1; exact (hw hf).trans h1
  clear hw1 hw2 m1 m2 hseen hA2
  have huniq : ∀ j : Fin l.brs.length, (l.brs[j]).name = (l.brs[i]).name ↔ j.val = i := fun j => by
    have h1 := (tok_fits hok.fits).uniq (List.getElem?_eq_getElem j.isLt)
    have h2 := (tok_fits hok.fits).uniq (List.getElem?_eq_getElem hi)
    constructor
    · intro h
      have h3 : (l.brs[j.val]'j.isLt).name = (l.brs[i]'hi).name := h
      rw [h3] at h1
      omega
    · intro h
      subst h
      rfl
  have hP : ∀ a : GA l.brs.length, atG (l.brs[i]).name (clsI l.known e.chg) (toG l a) = (decide (a.2.2.val = i) && decide ((a.2.1.val : Int) = cls0 l.known e.chg)) := fun a => by
    rw [atG, hc]
    congr 1
    exact decide_eq_decide.2 (huniq a.2.2)
  have hcore : ∀ L S : List (GA l.brs.length), (srtG L).Pairwise ltG → (srtG S).Pairwise ltG → (∀ a, a ∈ S ↔ a ∈ L ∧ ¬ (a.2.2.val = i ∧ (a.2.1.val : Int) = cls0 l.known e.chg)) →
      (srtG S).map (toG l) = ((srtG L).map (toG l)).filter fun g => !atG (l.brs[i]).name (clsI l.known e.chg) g := fun L S hL hS hLS => by
    rw [List.filter_map]
    congr 1
    refine sorted_ext (lt := ltG) (fun a => by unfold ltG; omega) (fun a b => by unfold ltG; omega) _ _ hS (hL.filter _) fun a => ?_
    rw [srt_memC, List.mem_filter, srt_memC, hLS a]
    simp only [Function.comp, hP, Bool.not_eq_true', Bool.and_eq_false_iff, decide_eq_false_iff_not]
    constructor
    · rintro ⟨h1, h2⟩; exact ⟨h1, by by_cases k : a.2.2.val = i; exact .inr fun k2 => h2 ⟨k, k2⟩; exact .inl k⟩
    · rintro ⟨h1, h2⟩; exact ⟨h1, fun k => h2.elim (fun z => z k.1) (fun z => z k.2)⟩
  by_cases h3 : e.kind = 3
  · rw [if_neg (by rw [Decidable.not_not]; exact h3), if_neg (by rw [Decidable.not_not]; exact h3), hg1, hg2']
    have hin := alw3 ha h3
    refine hcore A2 (allA l x) p2' p1 fun a => ?_
    rw [q1, q2]
    constructor
    · rintro ⟨f, hf, h1, h2⟩
      have hc1 : (a.2.1.val : Int) = f.cls := by rw [h2]; exact hv _ f hf
      simp only [Bool.and_eq_true, Bool.not_eq_true'] at h1
      have hne : ¬ (a.2.2.val = i ∧ (a.2.1.val : Int) = cls0 l.known e.chg) := by
        rintro ⟨k1, k2⟩
        rw [hc1] at k2
        have h5 := h1.2
        rw [k2, k1, hin] at h5
        exact absurd h5 (by simp)
      refine ⟨⟨f, hf, ?_, h2⟩, hne⟩
      simp only [Bool.and_eq_true, Bool.not_eq_true']
      refine ⟨h1.1, ?_⟩
      by_cases k : a.2.2.val = i
      · rw [if_pos k, if_neg (fun k2 => hne ⟨k, by rw [hc1]; exact k2.symm⟩), ← k]; exact h1.2
      · rw [if_neg k]; exact h1.2
    · rintro ⟨⟨f, hf, h1, h2⟩, hne⟩
      have hc1 : (a.2.1.val : Int) = f.cls := by rw [h2]; exact hv _ f hf
      refine ⟨f, hf, ?_, h2⟩
      simp only [Bool.and_eq_true, Bool.not_eq_true'] at h1 ⊢
      refine ⟨h1.1, ?_⟩
      have h4 := h1.2
      by_cases k : a.2.2.val = i
      · rw [if_pos k, if_neg (fun k2 => hne ⟨k, by rw [hc1]; exact k2.symm⟩), ← k] at h4; exact h4
      · rw [if_neg k] at h4; exact h4
  · rw [if_pos h3, if_pos h3, hg1, hg2']
    refine hcore (allA l x) A2 p1 p2' fun a => ?_
    rw [q1, q2]
    constructor
    · rintro ⟨f, hf, h1, h2⟩
      have hc1 : (a.2.1.val : Int) = f.cls := by rw [h2]; exact hv _ f hf
      simp only [Bool.and_eq_true, Bool.not_eq_true'] at h1
      have hne : ¬ (a.2.2.val = i ∧ (a.2.1.val : Int) = cls0 l.known e.chg) := by
        rintro ⟨k1, k2⟩
        rw [hc1] at k2
        rw [if_pos k1, if_pos k2.symm] at h1
        exact absurd h1.2 (by simp [h3])
      refine ⟨⟨f, hf, ?_, h2⟩, hne⟩
      simp only [Bool.and_eq_true, Bool.not_eq_true']
      refine ⟨h1.1, ?_⟩
      have h4 := h1.2
      by_cases k : a.2.2.val = i
      · rw [if_pos k, if_neg (fun k2 => hne ⟨k, by rw [hc1]; exact k2.symm⟩), ← k] at h4; exact h4
      · rw [if_neg k] at h4; exact h4
    · rintro ⟨⟨f, hf, h1, h2⟩, hne⟩
      have hc1 : (a.2.1.val : Int) = f.cls := by rw [h2]; exact hv _ f hf
      refine ⟨f, hf, ?_, h2⟩
      simp only [Bool.and_eq_true, Bool.not_eq_true'] at h1 ⊢
      refine ⟨h1.1, ?_⟩
      by_cases k : a.2.2.val = i
      · rw [if_pos k, if_neg (fun k2 => hne ⟨k, by rw [hc1]; exact k2.symm⟩), ← k]; exact h1.2
      · rw [if_neg k]; exact h1.2
end Go.Ab
end
