/- ledger.Last. -/
import Derived.Test.YtgcodedanljhpaaGreatDoorAcNil
import Derived.Test.YtgcodedanljhpaaGreatDoorPH
import Derived.Test.YtgcodedanljhpaaGreatDoorPP
import Derived.Test.YtgcodedanljhpaaGreatDoorAcDeep
set_option linter.unusedSimpArgs false
set_option linter.unusedVariables false
section
set_option maxRecDepth 1000000
set_option maxHeartbeats 16000000
namespace Go.Ab
open Go Go.Proofs
def lastM (l : Ldg) (n : Str) (c : Int) : Option (Nat × Nat) := (lview l n).1.reverse.find? fun m => decide (cls0 l.known (evAt l m).chg = c)
def lastMk (o : Option (Nat × Nat)) : Nat × Nat := o.getD (0, 0)
def lastKd (l : Ldg) (o : Option (Nat × Nat)) : Int := match o with
  | some m => (evAt l m).kind
  | none => 0
def lastEr (o : Option (Nat × Nat)) : Int := match o with
  | some _ => 0
  | none => 6
end Go.Ab
end

section
/- What NotesOnce asks, in plain terms. -/
set_option maxRecDepth 1000000
set_option maxHeartbeats 8000000
namespace Go.Ab
open Go Go.Proofs Go.Sort
theorem lastK_at {f : Str → Int} : ∀ {v : List Ev} {p : Nat} {e : Ev}, v[p]? = some e → (∀ x ∈ v.drop (p + 1), f x.chg ≠ f e.chg) → lastK f v (f e.chg) = some e.kind
  | [], p, e, h, _ => by simp at h
  | a :: r, 0, e, h, hn => by
    simp only [List.getElem?_cons_zero, Option.some.injEq] at h
    subst h
    have h1 : lastK f r (f a.chg) = none := by
      cases hq : lastK f r (f a.chg) with
      | none => rfl
      | some k =>
        obtain ⟨x, hx, e⟩ := lastK_some (f := f) (es := r) (c := f a.chg) (by rw [hq]; rfl)
        exact absurd e (hn x (by simpa using hx))
    rw [lastK, h1]
    simp
  | a :: r, p + 1, e, h, hn => by
    have ih := lastK_at (f := f) (v := r) (p := p) (e := e) (by simpa using h) (fun x hx => hn x (by simpa using hx))
    rw [lastK, ih]
theorem lastsF_at {f : Str → Int} {v : List Ev} {cs : List Int} {t : Nt} (h : t ∈ lastsF f v cs) : ∃ (p : Nat) (e : Ev), t.pl = (p : Int) ∧ v[p]? = some e ∧ t.chg = e.chg ∧ t.kind = e.kind ∧ lastK f v t.cls = some t.kind ∧ t.cls ∈ cs := by
  obtain ⟨i, hi, rfl⟩ := List.mem_map.1 h
  have hs := (List.mem_filter.1 hi).2
  unfold selB at hs
  cases hx : v[i]? with
  | none => rw [hx] at hs; cases hs
  | some e =>
    rw [hx] at hs
    simp only [Bool.and_eq_true, Bool.not_eq_true'] at hs
    obtain ⟨h1, h2⟩ := hs
    obtain ⟨y, hy, e1⟩ := List.any_eq_true.1 h2
    rw [decide_eq_true_iff] at e1
    rw [List.any_eq_false] at h1
    refine ⟨i, e, by rw [ntAt, hx], hx, by rw [ntAt, hx], by rw [ntAt, hx], ?_, by rw [ntAt, hx]; show f e.chg ∈ cs; rw [e1]; exact hy⟩
    rw [ntAt, hx]
    exact lastK_at hx fun x hx' he => h1 x hx' (by simp [he])
theorem lastsF_inc {f : Str → Int} {v : List Ev} {cs : List Int} : (lastsF f v cs).Pairwise fun a b => a.pl < b.pl ∧ 0 ≤ a.pl := by
  rw [lastsF, List.pairwise_map]
  refine List.Pairwise.imp_of_mem ?_ (List.pairwise_lt_range.filter _)
  intro i j hi hj hij
  have h1 := List.mem_range.1 (List.mem_filter.1 hi).1
  have h2 := List.mem_range.1 (List.mem_filter.1 hj).1
  rw [ntAt, ntAt, List.getElem?_eq_getElem h1, List.getElem?_eq_getElem h2]
  simp only
  omega
theorem lastM_K (l : Ldg) (f : Str → Int) (c : Int) : ∀ v : List (Nat × Nat), ((v.reverse.find? fun m => decide (f (evAt l m).chg = c)).map fun m => (evAt l m).kind) = lastK f (v.map (evAt l)) c
  | [] => rfl
  | a :: r => by
    have ih := lastM_K l f c r
    rw [List.reverse_cons, List.find?_append, List.map_cons, lastK, ← ih]
    cases r.reverse.find? fun m => decide (f (evAt l m).chg = c) with
    | some m => rfl
    | none =>
      by_cases h : f (evAt l a).chg = c
      · simp [h]
      · simp [h]
theorem lastM_of {l : Ldg} {b : Str} {c : Int} {o : Option Int} (hb : (lview l b).2 = 0) (h : lastK (clsI l.known) (evV l b) c = o) : (lastM l b c).map (fun m => (evAt l m).kind) = o := by
  have h1 := lastM_K l (cls0 l.known) c (lview l b).1
  rw [lastM, h1]
  have : lastK (cls0 l.known) (evV l b) c = lastK (clsI l.known) (evV l b) c := lastK_congr (fun e he => cls_eq (evV_ok hb he).2) c
  rw [← h, ← this]; rfl
theorem srtN_le (O : List Nt) : (srtN O).Pairwise fun a b => a.cls ≤ b.cls := by
  rw [srtN, List.pairwise_map, srtA]
  refine List.Pairwise.imp ?_ (List.pairwise_mergeSort (le := fun x y => !(ltOf (cfA O)) y x) (fun a b c h1 h2 => ?_) (fun a b => ?_) (List.finRange O.length))
  · intro a b h
    rw [Bool.not_eq_true', ltOf_Af] at h
    omega
  · rw [Bool.not_eq_true', ltOf_Af] at *
    omega
  · rw [Bool.or_eq_true, Bool.not_eq_true', Bool.not_eq_true', ltOf_Af, ltOf_Af]
    omega
theorem onlyL_in {f : Str → Int} {s t : List Ev} {c : Int} (h : c ∈ onlyL f s t) : inB f s c = true ∧ inB f t c = false := by
  obtain ⟨k, h1, h2⟩ := lst_mem _ _ _ h
  have hk : k < 30 := by have := (List.getElem?_eq_some_iff.1 h2).1; rw [onlyP_len] at this; exact this
  rw [onlyP_get hk, Option.some.injEq, Bool.and_eq_true, Bool.not_eq_true'] at h2
  rw [h1, Nat.zero_add]
  exact h2
def XAt (v : List Ev) (n : Nt) : Prop := ∃ (p : Nat) (e : Ev), n.pl = (p : Int) ∧ v[p]? = some e ∧ e.chg = n.chg ∧ e.kind = n.kind ∧ n.kind ≠ 3
def YAt (l : Ldg) (b : Str) (v : List Ev) (n : Nt) : Prop := (n.pl = -1 ∧ lastM l b n.cls = none) ∨ ∃ (p : Nat) (e : Ev) (m : Nat × Nat), n.pl = (p : Int) ∧ v[p]? = some e ∧ e.chg = n.chg ∧ n.kind = 3 ∧ lastM l b n.cls = some m ∧ (evAt l m).kind = 3
def YBf (n m : Nt) : Prop := (n.pl = -1 ∧ m.pl = -1 ∧ n.cls < m.cls) ∨ (n.pl < m.pl ∧ 0 ≤ m.pl)
structure OnceP (l : Ldg) (b : Str) (X Y : List Nt) (A B : List Int) : Prop where
  xl : X.length = B.length
  xi : ∀ n ∈ X, n.cls ∈ B
  xu : X.Pairwise fun a b => a.cls ≠ b.cls
  yl : Y.length = A.length
  yi : ∀ n ∈ Y, n.cls ∈ A
  yu : Y.Pairwise fun a b => a.cls ≠ b.cls
  xa : ∀ n ∈ X, XAt (evV l b) n
  xp : X.Pairwise fun a b => a.pl < b.pl
  ya : ∀ n ∈ Y, YAt l b (evV l b) n
  yp : Y.Pairwise YBf
theorem once_ok {l : Ldg} {a b : Str} (ha : (lview l a).2 = 0) (hb : (lview l b).2 = 0) : OnceP l b (nnews l a b).1 (ngone l a b).1 (ldiff l a b).1 (ldiff l a b).2.1 := by
  have d1 := ldiff_of ha hb
  have e1 : nnews l a b = (lastsF (clsI l.known) (evV l b) (onlyL (cls0 l.known) (evV l b) (evV l a)), 0) := by rw [nnews, d1]; simp
  have e2 : ngone l a b = (srtN (goneO (clsI l.known) (evV l a) (evV l b) (onlyL (cls0 l.known) (evV l a) (evV l b))) ++ lastsF (clsI l.known) (evV l b) (onlyL (cls0 l.known) (evV l a) (evV l b)), 0) := by rw [ngone, d1]; simp
  have hfA : ∀ e ∈ evV l a, cls0 l.known e.chg = clsI l.known e.chg := fun e he => cls_eq (evV_ok ha he).2
  have hfB : ∀ e ∈ evV l b, cls0 l.known e.chg = clsI l.known e.chg := fun e he => cls_eq (evV_ok hb he).2
  have hiB : ∀ c, inB (cls0 l.known) (evV l b) c = inB (clsI l.known) (evV l b) c := fun c => inB_congr hfB c
  obtain ⟨t1, t2⟩ := turn_cls (f := clsI l.known) (f0 := cls0 l.known) (s := evV l b) (t := evV l a) hfA
  have hm : ∀ c, c ∈ onlyL (cls0 l.known) (evV l b) (evV l a) ↔ c ∈ clsN (lastsF (clsI l.known) (evV l b) (onlyL (cls0 l.known) (evV l b) (evV l a))) := fun c => by
    rw [mem_lastsF]
    refine ⟨fun h => ⟨h, ?_⟩, fun h => h.1⟩
    obtain ⟨e, he, h1⟩ := onlyL_mem h
    exact ⟨e, he, by rw [← hfB e he]; exact h1⟩
  have hmA : ∀ c, c ∈ onlyL (cls0 l.known) (evV l a) (evV l b) ↔ c ∈ clsN (lastsF (clsI l.known) (evV l a) (onlyL (cls0 l.known) (evV l a) (evV l b))) := fun c => by
    rw [mem_lastsF]
    refine ⟨fun h => ⟨h, ?_⟩, fun h => h.1⟩
    obtain ⟨e, he, h1⟩ := onlyL_mem h
    exact ⟨e, he, by rw [← hfA e he]; exact h1⟩
  have hYm : ∀ c, c ∈ clsN (ngone l a b).1 ↔ c ∈ onlyL (cls0 l.known) (evV l a) (evV l b) := fun c => by
    rw [e2, t2, ← hmA]
  rw [d1]
  refine ⟨?_, fun n hn => ?_, ?_, ?_, fun n hn => ?_, ?_, fun n hn => ?_, ?_, fun n hn => ?_, ?_⟩
  · rw [e1]
    have := ((List.perm_ext_iff_of_nodup nodup_lastsF onlyL_nodup).2 fun c => (hm c).symm).length_eq
    simpa [clsN] using this
  · rw [e1] at hn; exact (hm n.cls).2 (List.mem_map.2 ⟨n, hn, rfl⟩)
  · rw [e1]; exact lastsF_pw
  · have h3 : (clsN (ngone l a b).1).Nodup := by rw [e2]; exact t1
    have := ((List.perm_ext_iff_of_nodup h3 onlyL_nodup).2 hYm).length_eq
    simpa [clsN] using this
  · exact (hYm n.cls).1 (List.mem_map.2 ⟨n, hn, rfl⟩)
  · rw [e2]
    have := t1
    rw [clsN, List.nodup_iff_pairwise_ne, List.pairwise_map] at this
    exact this
  · rw [e1] at hn
    obtain ⟨p, e, h1, h2, h3, h4, h5, h6⟩ := lastsF_at hn
    refine ⟨p, e, h1, h2, h3.symm, h4.symm, ?_⟩
    have h7 := (onlyL_in h6).1
    rw [hiB, inB, h5] at h7
    simpa using h7
  · rw [e1]; exact lastsF_inc.imp fun h => h.1
  · rw [e2] at hn
    rcases List.mem_append.1 hn with h | h
    · left
      have h' := (srtN_perm _).mem_iff.1 h
      obtain ⟨t, ht, rfl⟩ := List.mem_map.1 h'
      refine ⟨rfl, ?_⟩
      obtain ⟨p, e, _, _, _, _, _, h6⟩ := lastsF_at ht
      obtain ⟨h7, h8⟩ := List.mem_filter.1 h6
      have h9 : lastK (clsI l.known) (evV l b) t.cls = none := by
        cases hq : lastK (clsI l.known) (evV l b) t.cls with
        | none => rfl
        | some k =>
          exfalso
          obtain ⟨x, hx, e⟩ := lastK_some (f := clsI l.known) (es := evV l b) (c := t.cls) (by rw [hq]; rfl)
          have : t.cls ∈ clsN (lastsF (clsI l.known) (evV l b) (onlyL (cls0 l.known) (evV l a) (evV l b))) := (mem_lastsF _).2 ⟨h7, x, hx, e⟩
          obtain ⟨q, hq1, hq2⟩ := List.mem_map.1 this
          have : toldN (lastsF (clsI l.known) (evV l b) (onlyL (cls0 l.known) (evV l a) (evV l b))) t.cls = true := List.any_eq_true.2 ⟨q, hq1, by simpa using hq2⟩
          rw [this] at h8; cases h8
      have := lastM_of hb h9
      exact Option.map_eq_none_iff.1 this
    · right
      obtain ⟨p, e, h1, h2, h3, h4, h5, h6⟩ := lastsF_at h
      have h7 := (onlyL_in h6).2
      rw [hiB, inB, h5] at h7
      have hk : n.kind = 3 := by simpa using h7
      have := lastM_of hb h5
      obtain ⟨m, hm1, hm2⟩ := Option.map_eq_some_iff.1 this
      exact ⟨p, e, m, h1, h2, h3.symm, hk, hm1, by rw [hm2, hk]⟩
  · rw [e2]
    have hneg : ∀ n ∈ srtN (goneO (clsI l.known) (evV l a) (evV l b) (onlyL (cls0 l.known) (evV l a) (evV l b))), n.pl = -1 := fun n hn => by
      have h' := (srtN_perm _).mem_iff.1 hn
      obtain ⟨t, ht, rfl⟩ := List.mem_map.1 h'
      rfl
    have hnd : (srtN (goneO (clsI l.known) (evV l a) (evV l b) (onlyL (cls0 l.known) (evV l a) (evV l b)))).Pairwise fun a b => a.cls ≠ b.cls := by
      have := t1
      rw [clsN, List.map_append, List.nodup_append] at this
      have := this.1
      rw [List.nodup_iff_pairwise_ne, List.pairwise_map] at this
      exact this
    refine List.pairwise_append.2 ⟨?_, lastsF_inc.imp fun h => .inr ⟨h.1, by omega⟩, fun x hx y hy => ?_⟩
    · refine List.Pairwise.imp_of_mem ?_ ((srtN_le _).and hnd)
      intro x y hx hy h
      exact .inl ⟨hneg x hx, hneg y hy, by omega⟩
    · obtain ⟨p, e, h1, _⟩ := lastsF_at hy
      right
      rw [hneg x hx]; omega
end Go.Ab
end

section
/- Abstract values: a nil slice held as data of no elements. -/
namespace Go.Ab
open Go
def St.nilI (st : St) (t : Nat) : St := ⟨st.env.put t (.imm [] false), st.σ, st.nx⟩
theorem Sim.nilI {C : Ctx} {N : Nat} {κ : Kn} {st : St} {a : Act} {w : World} (s : Sim C N κ st a w) (t : Nat) (hn : st.env t = some (.lit (.slice none 0 0))) : Sim C N κ (st.nilI t) a w := by
  refine ⟨s.defers, s.size, fun t' v hv => ?_, s.blk, s.dist, s.nfz, s.yfz, s.fzlt, s.fresh, s.later, s.glob⟩
  simp only [St.nilI, Env.put] at hv
  by_cases e : t' = t
  · subst e
    simp only [if_true, Option.some.injEq] at hv
    subst hv
    obtain ⟨g1, g2⟩ := s.env _ _ hn
    refine ⟨g1, ?_⟩
    simp only [Rel] at g2 ⊢
    rw [g2.1]
    exact ⟨none, 0, 0, rfl, rfl, Nat.le_refl _, fun h => (by cases h), .inl trivial⟩
  · rw [if_neg e] at hv
    exact s.env t' v hv
theorem AbsW.nilI {C : Ctx} {N : Nat} {c : Code} {st : St} {Q : Exit → St → Prop} (t : Nat) (hn : st.env t = some (.lit (.slice none 0 0))) (h : AbsW C N c (st.nilI t) Q) : AbsW C N c st Q :=
  fun rd mm hr κ a w s => h rd mm hr κ a w (s.nilI t hn)
theorem LoopQ.nilI {C : Ctx} {N : Nat} {c : Code} {st : St} {Q : Exit → St → Prop} (t : Nat) (hn : st.env t = some (.lit (.slice none 0 0))) (h : LoopQ C N c (st.nilI t) Q) : LoopQ C N c st Q :=
  fun ho => .nilI t hn (h ho)
theorem nilR : (∀ {st : St} {t t' : Nat}, (st.nilI t).env t' = if t' = t then some (.imm [] false) else st.env t') ∧ (∀ {st : St} {t i : Nat}, (st.nilI t).σ i = st.σ i) ∧ (∀ {st : St} {t : Nat}, (st.nilI t).nx = st.nx) := ⟨rfl, rfl, rfl⟩
end Go.Ab
end
