/- ledger.Last. -/
import Derived.Test.YtgcodedanljhpaaGreatDoorPE
import Derived.Test.YtgcodedanljhpaaGreatDoorPH
import Derived.Test.YtgcodedanljhpaaGreatDoorPP
import Derived.Test.YtgcodedanljhpaaGreatDoorAcDeep
set_option linter.unusedSimpArgs false
set_option linter.unusedVariables false
section
set_option maxRecDepth 1000000
set_option maxHeartbeats 16000000
namespace Go.Ab
open Go Go.Proofs
def lastM (l : Ldg) (n : Str) (c : Int) : Option (Nat × Nat) := (lview l n).1.reverse.find? fun m => decide (cls0 l.known (evAt l m).chg = c)
def lastMk (o : Option (Nat × Nat)) : Nat × Nat := o.getD (0, 0)
def lastKd (l : Ldg) (o : Option (Nat × Nat)) : Int := match o with
  | some m => (evAt l m).kind
  | none => 0
def lastEr (o : Option (Nat × Nat)) : Int := match o with
  | some _ => 0
  | none => 6
end Go.Ab
end

section
/- What NotesOnce asks, in plain terms. -/
set_option maxRecDepth 1000000
set_option maxHeartbeats 8000000
namespace Go.Ab
open Go Go.Proofs Go.Sort
theorem lastK_at {f : Str → Int} : ∀ {v : List Ev} {p : Nat} {e : Ev}, v[p]? = some e → (∀ x ∈ v.drop (p + 1), f x.chg ≠ f e.chg) → lastK f v (f e.chg) = some e.kind
  | [], p, e, h, _ => by simp at h
  | a :: r, 0, e, h, hn => by
    simp only [List.getElem?_cons_zero, Option.some.injEq] at h
    subst h
    have h1 : lastK f r (f a.chg) = none := by
      cases hq : lastK f r (f a.chg) with
      | none => rfl
      | some k =>
        obtain ⟨x, hx, e⟩ := lastK_some (f := f) (es := r) (c := f a.chg) (by rw [hq]; rfl)
        exact absurd e (hn x (by simpa using hx))
    rw [lastK, h1]
    simp
  | a :: r, p + 1, e, h, hn => by
    have ih := lastK_at (f := f) (v := r) (p := p) (e := e) (by simpa using h) (fun x hx => hn x (by simpa using hx))
    rw [lastK, ih]
theorem lastsF_inc {f : Str → Int} {v : List Ev} {cs : List Int} : (lastsF f v cs).Pairwise fun a b => a.pl < b.pl ∧ 0 ≤ a.pl := by
  rw [lastsF, List.pairwise_map]
  refine List.Pairwise.imp_of_mem ?_ (List.pairwise_lt_range.filter _)
  intro i j hi hj hij
  have h1 := List.mem_range.1 (List.mem_filter.1 hi).1
  have h2 := List.mem_range.1 (List.mem_filter.1 hj).1
  rw [ntAt, ntAt, List.getElem?_eq_getElem h1, List.getElem?_eq_getElem h2]
  simp only
  omega
def XAt (v : List Ev) (n : Nt) : Prop := ∃ (p : Nat) (e : Ev), n.pl = (p : Int) ∧ v[p]? = some e ∧ e.chg = n.chg ∧ e.kind = n.kind ∧ n.kind ≠ 3
def YAt (l : Ldg) (b : Str) (v : List Ev) (n : Nt) : Prop := (n.pl = -1 ∧ lastM l b n.cls = none) ∨ ∃ (p : Nat) (e : Ev) (m : Nat × Nat), n.pl = (p : Int) ∧ v[p]? = some e ∧ e.chg = n.chg ∧ n.kind = 3 ∧ lastM l b n.cls = some m ∧ (evAt l m).kind = 3
def YBf (n m : Nt) : Prop := (n.pl = -1 ∧ m.pl = -1 ∧ n.cls < m.cls) ∨ (n.pl < m.pl ∧ 0 ≤ m.pl)
structure OnceP (l : Ldg) (b : Str) (X Y : List Nt) (A B : List Int) : Prop where
  xl : X.length = B.length
  xi : ∀ n ∈ X, n.cls ∈ B
  xu : X.Pairwise fun a b => a.cls ≠ b.cls
  yl : Y.length = A.length
  yi : ∀ n ∈ Y, n.cls ∈ A
  yu : Y.Pairwise fun a b => a.cls ≠ b.cls
  xa : ∀ n ∈ X, XAt (evV l b) n
  xp : X.Pairwise fun a b => a.pl < b.pl
  ya : ∀ n ∈ Y, YAt l b (evV l b) n
  yp : Y.Pairwise YBf
end Go.Ab
end

section
/- Abstract values: a nil slice held as data of no elements. -/
namespace Go.Ab
open Go
def St.nilI (st : St) (t : Nat) : St := ⟨st.env.put t (.imm [] false), st.σ, st.nx⟩
theorem Sim.nilI {C : Ctx} {N : Nat} {κ : Kn} {st : St} {a : Act} {w : World} (s : Sim C N κ st a w) (t : Nat) (hn : st.env t = some (.lit (.slice none 0 0))) : Sim C N κ (st.nilI t) a w := by
  refine ⟨s.defers, s.size, fun t' v hv => ?_, s.blk, s.dist, s.nfz, s.yfz, s.fzlt, s.fresh, s.later, s.glob⟩
  simp only [St.nilI, Env.put] at hv
  by_cases e : t' = t
  · subst e
    simp only [if_true, Option.some.injEq] at hv
    subst hv
    obtain ⟨g1, g2⟩ := s.env _ _ hn
    refine ⟨g1, ?_⟩
    simp only [Rel] at g2 ⊢
    rw [g2.1]
    exact ⟨none, 0, 0, rfl, rfl, Nat.le_refl _, fun h => (by cases h), .inl trivial⟩
  · rw [if_neg e] at hv
    exact s.env t' v hv
theorem AbsW.nilI {C : Ctx} {N : Nat} {c : Code} {st : St} {Q : Exit → St → Prop} (t : Nat) (hn : st.env t = some (.lit (.slice none 0 0))) (h : AbsW C N c (st.nilI t) Q) : AbsW C N c st Q :=
  fun rd mm hr κ a w s => h rd mm hr κ a w (s.nilI t hn)
theorem LoopQ.nilI {C : Ctx} {N : Nat} {c : Code} {st : St} {Q : Exit → St → Prop} (t : Nat) (hn : st.env t = some (.lit (.slice none 0 0))) (h : LoopQ C N c (st.nilI t) Q) : LoopQ C N c st Q :=
  fun ho => .nilI t hn (h ho)
end Go.Ab
end
