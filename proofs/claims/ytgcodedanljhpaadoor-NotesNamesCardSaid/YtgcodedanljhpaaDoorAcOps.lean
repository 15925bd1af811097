/- Abstract values: what the operations that only read come to. -/
import Derived.Test.YtgcodedanljhpaaDoorAcBase
import Derived.Laws.Sem
import Derived.MapKept
import Derived.Laws.BytesString
import Derived.Laws.Cells
set_option linter.unusedSimpArgs false
set_option linter.unusedVariables false
namespace Go.Ab
open Go
def ofV : Value → Option PV
  | .agg cs => if cs.toList.all ground then some (.agg (cs.toList.map .lit)) else none
  | .tuple vs => if vs.toList.all ground then some (.tup (vs.toList.map .lit)) else none
  | .func fn first cap => if first.isEmpty && cap.isEmpty then some (.clo fn [] []) else none
  | v => if ground v then some (.lit v) else none
theorem relList_lits (κ : Kn) (w : World) : ∀ vs : List Value, vs.all ground = true → RelList κ w (vs.map .lit) vs
  | [], _ => by simp [RelList]
  | v :: vs, h => by
    simp only [List.all_cons, Bool.and_eq_true] at h
    simp only [List.map_cons, RelList]
    exact ⟨v, vs, rfl, by simp [Rel, h.1], relList_lits κ w vs h.2⟩
theorem rel_lit {κ : Kn} {w : World} {u : Value} (h : ground u = true) : Rel κ w (.lit u) u := by simp [Rel, h]
theorem rel_ofV {κ : Kn} {w : World} {v : Value} {p : PV} (h : ofV v = some p) : Rel κ w p v := by
  cases v with
  | agg cs =>
    simp only [ofV] at h
    split at h
    · rename_i hg
      cases h
      simp only [Rel]
      exact ⟨cs, rfl, by simp [PV.one], relList_lits κ w _ hg⟩
    · cases h
  | tuple cs =>
    simp only [ofV] at h
    split at h
    · rename_i hg
      cases h
      simp only [Rel]
      exact ⟨cs, rfl, relList_lits κ w _ hg⟩
    · cases h
  | func fn a b =>
    simp only [ofV] at h
    split at h
    · rename_i hg
      cases h
      simp only [Bool.and_eq_true, Array.isEmpty_iff] at hg
      simp only [Rel]
      exact ⟨a, b, rfl, by simp [hg.1, RelList], by simp [hg.2, RelList]⟩
    · cases h
  | _ =>
    simp only [ofV] at h
    split at h
    · rename_i hg; cases h; exact rel_lit hg
    · cases h
def rd (C : Ctx) (e : Env) : Operand → Option PV
  | .tmp t => e t
  | .const v => ofV v
  | .global g => (C.G g).map .cptr
  | .func f => some (.clo (.func f) [] [])
section
variable {C : Ctx} {N : Nat} {κ : Kn} {st : St} {a : Act} {w : World}
theorem rd_sound (s : Sim C N κ st a w) {x : Operand} {p : PV} (h : rd C st.env x = some p) : Rel κ w p (a.eval x) := by
  cases x with
  | tmp t => exact (s.env t p h).2
  | const v => exact rel_ofV h
  | global g =>
    simp only [rd] at h
    cases hg : C.G g with
    | none => rw [hg] at h; cases h
    | some cs =>
      rw [hg] at h; cases h
      obtain ⟨h1, h2⟩ := s.glob g cs hg
      simp only [Rel, Act.eval]
      exact ⟨g, 0, rfl, h1, h2⟩
  | func f =>
    simp only [rd] at h; cases h
    simp [Rel, Act.eval, RelList]
end
def purely {α : Type} (P : Program) : Sem α → Option α
  | .pure a => some a
  | .program k => purely P (k P)
  | .mark _ k => purely P k
  | _ => none
theorem purely_run {α : Type} {P : Program} : ∀ {s : Sem α} {v : α}, purely P s = some v → ∀ w, s.run P w = .ok v w := by
  intro s
  induction s with
  | pure a => intro v h w; simp only [purely, Option.some.injEq] at h; subst h; rfl
  | program k ih => intro v h w; simp only [purely] at h; simp only [Sem.run]; exact ih P h w
  | mark m k ih => intro v h w; simp only [purely] at h; simp only [Sem.run]; exact ih h w
  | _ => intro v h; simp only [purely] at h; cases h
structure TI where
  desc : TypeDesc
  size : Nat
  bytes : Nat
def ti (P : Program) (t : TypeId) : Option TI :=
  match P.info? t, P.underlying t with
  | some i, some d => some ⟨d, i.size, i.bytes⟩
  | _, _ => none
def aggD : TypeDesc → Bool
  | .struct _ | .array _ _ => true
  | _ => false
theorem ti_spec {P : Program} {t : TypeId} {i : TI} (h : ti P t = some i) : P.underlying t = some i.desc ∧ ∃ j, P.info? t = some j ∧ j.size = i.size ∧ j.bytes = i.bytes := by
  unfold ti at h
  split at h
  · rename_i j d h1 h2; cases h; exact ⟨h2, j, h1, rfl, rfl⟩
  · cases h
section runs
variable {P : Program} {w : World} {t : TypeId} {i : TI} (h : ti P t = some i)
include h
theorem run_underlying : (underlying t).run P w = .ok i.desc w := by
  obtain ⟨h1, _⟩ := ti_spec h
  simp [underlying, h1]
theorem run_sizeOf : (sizeOf t).run P w = .ok i.size w := by
  obtain ⟨_, j, h1, h2, _⟩ := ti_spec h
  simp [sizeOf, typeInfo, h1, h2]
theorem run_isAgg : (isAgg t).run P w = .ok (aggD i.desc) w := by
  simp only [isAgg, Sem.run_bind, run_underlying h, Result.andThen_ok]
  cases i.desc <;> rfl
end runs
theorem addr_add (b o i : Nat) : (⟨b, o, none⟩ : Addr).add i = ⟨b, o + i, none⟩ := by
  unfold Addr.add; split
  · rename_i h; subst h; rfl
  · rfl
theorem relCells_drop {κ : Kn} {w : World} {b : Nat} : ∀ (k o : Nat) (cs : List PV), RelCells κ w b o cs → RelCells κ w b (o + k) (cs.drop k)
  | 0, o, cs, h => by simpa using h
  | k + 1, o, [], h => by simp [RelCells]
  | k + 1, o, c :: cs, h => by
    simp only [RelCells] at h
    have := relCells_drop k (o + 1) cs h.2
    simpa [Nat.add_assoc, Nat.add_comm 1 k] using this
theorem relRows_get {κ : Kn} {w : World} {b s : Nat} : ∀ (es : List (List PV)) (o i : Nat) (e : List PV), RelRows κ w b o s es → es[i]? = some e → e.length = s ∧ RelCells κ w b (o + i * s) e
  | [], o, i, e, h, he => by simp at he
  | e0 :: es, o, 0, e, h, he => by
    simp only [RelRows] at h
    simp at he; subst he
    simpa using ⟨h.1, h.2.1⟩
  | e0 :: es, o, i + 1, e, h, he => by
    simp only [RelRows] at h
    have := relRows_get es (o + s) i e h.2.2 (by simpa using he)
    rw [Nat.add_assoc, show s + i * s = (i + 1) * s from by rw [Nat.add_mul, Nat.one_mul, Nat.add_comm]] at this
    exact this
theorem relRows_drop {κ : Kn} {w : World} {b s : Nat} : ∀ (k : Nat) (es : List (List PV)) (o : Nat), RelRows κ w b o s es → RelRows κ w b (o + k * s) s (es.drop k)
  | 0, es, o, h => by simpa using h
  | k + 1, [], o, h => by simp [RelRows]
  | k + 1, e :: es, o, h => by
    simp only [RelRows] at h
    have := relRows_drop k es (o + s) h.2.2
    rw [Nat.add_assoc, show s + k * s = (k + 1) * s from by rw [Nat.add_mul, Nat.one_mul, Nat.add_comm]] at this
    simpa using this
theorem relRows_take {κ : Kn} {w : World} {b s : Nat} : ∀ (k : Nat) (es : List (List PV)) (o : Nat), RelRows κ w b o s es → RelRows κ w b o s (es.take k)
  | 0, es, o, h => by simp [RelRows]
  | k + 1, [], o, h => by simp [RelRows]
  | k + 1, e :: es, o, h => by
    simp only [RelRows, List.take_succ_cons] at h ⊢
    exact ⟨h.1, h.2.1, relRows_take k es (o + s) h.2.2⟩
theorem run_load_cell {P : Program} {w : World} {b o : Nat} {v : Value} (h : w.cell? ⟨b, o, none⟩ = some v) : (load ⟨b, o, none⟩).run P w = .ok v w := by
  simp [h]
theorem run_loadCellsFrom {κ : Kn} {P : Program} {w : World} {b o : Nat} : ∀ (n i : Nat) (acc : Array Value) (cs : List PV), n ≤ cs.length → RelCells κ w b (o + i) cs →
    ∃ vs : List Value, (loadCellsFrom ⟨b, o, none⟩ i n acc).run P w = .ok (acc ++ vs.toArray) w ∧ RelList κ w (cs.take n) vs ∧ (cs.take n).all PV.one = true ∧ vs.length = n
  | 0, i, acc, cs, _, _ => ⟨[], by simp [loadCellsFrom], by simp [RelList], by simp, rfl⟩
  | n + 1, i, acc, [], hn, _ => by simp at hn
  | n + 1, i, acc, c :: cs, hn, h => by
    simp only [RelCells] at h
    obtain ⟨⟨v, h1, h2, h3⟩, h4⟩ := h
    obtain ⟨vs, g1, g2, g3, g4⟩ := run_loadCellsFrom (P := P) n (i + 1) (acc.push v) cs (by simpa using hn) h4
    refine ⟨v :: vs, ?_, ?_, ?_, by simp [g4]⟩
    · simp only [loadCellsFrom, Sem.run_bind, addr_add, run_load_cell h1, Result.andThen_ok, g1]
      simp
    · simp only [List.take_succ_cons, RelList]; exact ⟨v, vs, rfl, h3, g2⟩
    · simp only [List.take_succ_cons, List.all_cons, h2, g3, Bool.and_self]
def loadP (C : Ctx) (t : TypeId) (cs : List PV) : Option PV :=
  match ti C.P t with
  | some i => if aggD i.desc then (if i.size ≤ cs.length then some (.agg (cs.take i.size)) else none) else cs[0]?
  | none => none
theorem loadP_sound {C : Ctx} {κ : Kn} {w : World} {t : TypeId} {b o : Nat} {cs : List PV} {p : PV} (h : loadP C t cs = some p) (hc : RelCells κ w b o cs) :
    ∃ v, (loadVar t ⟨b, o, none⟩).run C.P w = .ok v w ∧ Rel κ w p v := by
  unfold loadP at h
  split at h
  · rename_i i hi
    split at h
    · rename_i ha
      split at h
      · rename_i hl
        cases h
        obtain ⟨vs, g1, g2, g3, g4⟩ := run_loadCellsFrom (P := C.P) (o := o) i.size 0 #[] cs hl (by simpa using hc)
        refine ⟨.agg vs.toArray, ?_, ?_⟩
        · simp only [loadVar, Sem.run_bind, run_isAgg hi, Result.andThen_ok, ha, if_true, run_sizeOf hi, loadCells, g1]
          simp
        · simp only [Rel]; exact ⟨vs.toArray, rfl, g3, by simpa using g2⟩
      · cases h
    · rename_i ha
      cases cs with
      | nil => simp at h
      | cons c cs =>
        simp only [List.getElem?_cons_zero, Option.some.injEq] at h
        subst h
        simp only [RelCells] at hc
        obtain ⟨⟨v, h1, h2, h3⟩, _⟩ := hc
        refine ⟨v, ?_, h3⟩
        simp only [loadVar, Sem.run_bind, run_isAgg hi, Result.andThen_ok]
        rw [if_neg ha, run_load_cell h1]
  · cases h
def partP (C : Ctx) (t : TypeId) (cs : List PV) (off : Nat) : Option PV :=
  match ti C.P t with
  | some i => if aggD i.desc then (if off + i.size ≤ cs.length then some (.agg ((cs.drop off).take i.size)) else none) else cs[off]?
  | none => none
theorem relList_length {κ : Kn} {w : World} : ∀ (ps : List PV) (vs : List Value), RelList κ w ps vs → vs.length = ps.length
  | [], vs, h => by simp only [RelList] at h; simp [h]
  | p :: ps, vs, h => by
    simp only [RelList] at h
    obtain ⟨v, vs', rfl, _, h2⟩ := h
    simp [relList_length ps vs' h2]
theorem relList_drop {κ : Kn} {w : World} : ∀ (k : Nat) (ps : List PV) (vs : List Value), RelList κ w ps vs → RelList κ w (ps.drop k) (vs.drop k)
  | 0, ps, vs, h => by simpa using h
  | k + 1, [], vs, h => by simp only [RelList] at h; simp [h, RelList]
  | k + 1, p :: ps, vs, h => by
    simp only [RelList] at h
    obtain ⟨v, vs', rfl, _, h2⟩ := h
    simpa using relList_drop k ps vs' h2
theorem relList_take {κ : Kn} {w : World} : ∀ (k : Nat) (ps : List PV) (vs : List Value), RelList κ w ps vs → RelList κ w (ps.take k) (vs.take k)
  | 0, ps, vs, h => by simp [RelList]
  | k + 1, [], vs, h => by simp only [RelList] at h; simp [h, RelList]
  | k + 1, p :: ps, vs, h => by
    simp only [RelList] at h
    obtain ⟨v, vs', rfl, h1, h2⟩ := h
    simp only [List.take_succ_cons, RelList]
    exact ⟨v, _, rfl, h1, relList_take k ps vs' h2⟩
theorem relList_get {κ : Kn} {w : World} : ∀ (ps : List PV) (vs : List Value) (i : Nat) (p : PV), RelList κ w ps vs → ps[i]? = some p → ∃ v, vs[i]? = some v ∧ Rel κ w p v
  | [], vs, i, p, h, hp => by simp at hp
  | q :: ps, vs, 0, p, h, hp => by
    simp only [RelList] at h
    obtain ⟨v, vs', rfl, h1, _⟩ := h
    simp at hp; subst hp
    exact ⟨v, by simp, h1⟩
  | q :: ps, vs, i + 1, p, h, hp => by
    simp only [RelList] at h
    obtain ⟨v, vs', rfl, _, h2⟩ := h
    simpa using relList_get ps vs' i p h2 (by simpa using hp)
theorem relList_append {κ : Kn} {w : World} : ∀ (ps : List PV) (vs : List Value) {qs : List PV} {us : List Value}, RelList κ w ps vs → RelList κ w qs us → RelList κ w (ps ++ qs) (vs ++ us)
  | [], vs, qs, us, h, h' => by simp only [RelList] at h; simpa [h] using h'
  | p :: ps, vs, qs, us, h, h' => by
    simp only [RelList] at h
    obtain ⟨v, vs', rfl, h1, h2⟩ := h
    simp only [List.cons_append, RelList]
    exact ⟨v, _, rfl, h1, relList_append ps vs' h2 h'⟩
theorem all_take {α : Type} {p : α → Bool} {l : List α} {k : Nat} (h : l.all p = true) : (l.take k).all p = true := by
  rw [List.all_eq_true] at h ⊢; exact fun x hx => h x (List.mem_of_mem_take hx)
theorem all_drop {α : Type} {p : α → Bool} {l : List α} {k : Nat} (h : l.all p = true) : (l.drop k).all p = true := by
  rw [List.all_eq_true] at h ⊢; exact fun x hx => h x (List.mem_of_mem_drop hx)
theorem partP_sound {C : Ctx} {κ : Kn} {w : World} {t : TypeId} {cs : List PV} {vs : Array Value} {off : Nat} {p : PV} (h : partP C t cs off = some p) (hc : RelList κ w cs vs.toList) (ho : cs.all PV.one = true) :
    ∃ v, (part t vs off).run C.P w = .ok v w ∧ Rel κ w p v := by
  unfold partP at h
  split at h
  · rename_i i hi
    split at h
    · rename_i ha
      split at h
      · rename_i hl
        cases h
        refine ⟨.agg (vs.extract off (off + i.size)), ?_, ?_⟩
        · simp only [part, Sem.run_bind, run_isAgg hi, Result.andThen_ok, ha, if_true, run_sizeOf hi, Sem.run_pure]
        · simp only [Rel]
          refine ⟨_, rfl, all_take (all_drop ho), ?_⟩
          have := relList_take i.size _ _ (relList_drop off _ _ hc)
          simpa [Array.toList_extract, List.extract_eq_take_drop, Nat.add_sub_cancel_left] using this
      · cases h
    · rename_i ha
      obtain ⟨v, g1, g2⟩ := relList_get _ _ _ _ hc h
      refine ⟨v, ?_, g2⟩
      simp only [part, Sem.run_bind, run_isAgg hi, Result.andThen_ok]
      rw [if_neg ha]
      rw [Array.getElem?_toList] at g1
      rw [g1]; rfl
  · cases h
def lits : List PV → Option (List Value)
  | [] => some []
  | .lit v :: r => (lits r).map (v :: ·)
  | _ :: _ => none
def conc : PV → Option Value
  | .lit v => some v
  | .agg cs => (lits cs).map fun l => .agg l.toArray
  | _ => none
theorem lits_sound {κ : Kn} {w : World} : ∀ (ps : List PV) (vs l : List Value), RelList κ w ps vs → lits ps = some l → vs = l
  | [], vs, l, h, hl => by simp only [lits, Option.some.injEq] at hl; simp only [RelList] at h; rw [h, ← hl]
  | p :: r, vs, l, h, hl => by
    simp only [RelList] at h
    obtain ⟨v, vs', rfl, h1, h2⟩ := h
    cases p with
    | lit u =>
      simp only [lits, Option.map_eq_some_iff] at hl
      obtain ⟨l', g1, rfl⟩ := hl
      simp only [Rel] at h1
      rw [h1.1, lits_sound r vs' l' h2 g1]
    | _ => simp [lits] at hl
theorem conc_sound {κ : Kn} {w : World} {p : PV} {u v : Value} (h : Rel κ w p v) (hc : conc p = some u) : v = u := by
  cases p with
  | lit x => simp only [conc, Option.some.injEq] at hc; simp only [Rel] at h; rw [h.1, hc]
  | agg cs =>
    simp only [conc, Option.map_eq_some_iff] at hc
    obtain ⟨l, g1, rfl⟩ := hc
    simp only [Rel] at h
    obtain ⟨vs, rfl, _, h2⟩ := h
    have := lits_sound cs vs.toList l h2 g1
    rw [← this]
  | _ => simp [conc] at hc
def notNil : PV → Bool
  | .ptr .. | .cptr .. | .clo .. | .ifc .. | .mp .. => true
  | .imm (_ :: _) _ => true
  | _ => false
def isNilV : Value → Bool
  | .pointer none | .slice none 0 0 | .map none | .nilFunc | .nilIface => true
  | _ => false
def nilFits : TypeDesc → PV → Value → Bool
  | .pointer _, .ptr .., .pointer none => true
  | .pointer _, .cptr .., .pointer none => true
  | .func .., .clo .., .nilFunc => true
  | .interface _, .ifc .., .nilIface => true
  | .map .., .mp _, .map none => true
  | .slice _, .imm (_ :: _) _, .slice none 0 0 => true
  | _, _, _ => false
def evBin (C : Ctx) (op : BinOp) (t : TypeId) (x y : Operand) (p q : PV) : Option PV :=
  match conc p, conc q with
  | some u, some v => (purely C.P (do eqGuard op t x y u v; binOp op t u v)).bind ofV
  | none, some v =>
    match ti C.P t with
    | some i => if nilFits i.desc p v then (match op with | .eql => some (.lit (.bool false)) | .neq => some (.lit (.bool true)) | _ => none) else none
    | none => none
  | _, _ => none
theorem run_eql_fits {P : Program} {w : World} {κ : Kn} {t : TypeId} {i : TI} (hi : ti P t = some i) {p : PV} {u v : Value} (hr : Rel κ w p u) (h : nilFits i.desc p v = true) :
    (Op.equal t u v).run P w = .ok false w := by
  have hu := run_underlying (w := w) hi
  unfold Op.equal Op.maxDepth
  rw [show (10000 : Nat) = 9999 + 1 from rfl]
  unfold Op.equalIn
  simp only [Sem.run_bind, hu, Result.andThen_ok]
  obtain ⟨d, sz, by_⟩ := i
  simp only at h ⊢
  cases d <;> cases p <;> (try (simp [nilFits] at h; done))
  case pointer.cptr e cs => cases v <;> simp [nilFits] at h; rename_i a; cases a <;> simp at h; simp only [Rel] at hr; obtain ⟨b, o, rfl, _⟩ := hr; rfl
  case pointer.ptr e i1 i2 i3 i4 => cases v <;> simp [nilFits] at h; rename_i a; cases a <;> simp at h; simp only [Rel] at hr; obtain ⟨L, _, _, rfl⟩ := hr; rfl
  case slice.imm e es c =>
    cases es with
    | nil => simp [nilFits] at h
    | cons x xs =>
      cases v <;> simp [nilFits] at h
      rename_i a l c'
      cases a <;> cases l <;> cases c' <;> simp at h
      simp only [Rel] at hr
      obtain ⟨A, len, cap, rfl, h1, h2, h3, h4⟩ := hr
      rcases h4 with h4 | ⟨b, o, s, rfl, _⟩
      · cases h4
      · rfl
  case map.mp => cases v <;> simp [nilFits] at h; rename_i a; cases a <;> simp at h; simp only [Rel] at hr; obtain ⟨r, _, rfl⟩ := hr; rfl
  case func.clo => cases v <;> simp [nilFits] at h; simp only [Rel] at hr; obtain ⟨fs, cs, rfl, _⟩ := hr; rfl
  case interface.ifc => cases v <;> simp [nilFits] at h; simp only [Rel] at hr; obtain ⟨u, rfl, _⟩ := hr; rfl
theorem run_eqGuard_fits {P : Program} {w : World} {κ : Kn} {d : TypeDesc} {t : TypeId} {op : BinOp} {x y : Operand} {p : PV} {u v : Value} (hr : Rel κ w p u) (h : nilFits d p v = true) :
    (eqGuard op t x y u v).run P w = .ok () w := by
  unfold eqGuard
  cases d <;> cases p <;> (try (simp [nilFits] at h; done))
  all_goals (simp only [Rel] at hr)
  case pointer.cptr e cs => obtain ⟨b, o, rfl, _⟩ := hr; cases op <;> rfl
  case pointer.ptr e i1 i2 i3 i4 => obtain ⟨L, _, _, rfl⟩ := hr; cases op <;> rfl
  case slice.imm e es c => obtain ⟨A, len, cap, rfl, _⟩ := hr; cases op <;> rfl
  case map.mp => obtain ⟨r, _, rfl⟩ := hr; cases op <;> rfl
  case func.clo => obtain ⟨fs, cs, rfl, _⟩ := hr; cases op <;> rfl
  case interface.ifc => obtain ⟨u, rfl, _⟩ := hr; cases v <;> simp [nilFits] at h; cases op <;> rfl
theorem evBin_sound {C : Ctx} {κ : Kn} {w : World} {op : BinOp} {t : TypeId} {x y : Operand} {p q r : PV} {u v : Value} (h : evBin C op t x y p q = some r) (hp : Rel κ w p u) (hq : Rel κ w q v) :
    ∃ z, (do eqGuard op t x y u v; binOp op t u v : Sem Value).run C.P w = .ok z w ∧ Rel κ w r z := by
  unfold evBin at h
  split at h
  · rename_i u' v' h1 h2
    obtain rfl := conc_sound hp h1
    obtain rfl := conc_sound hq h2
    rw [Option.bind_eq_some_iff] at h
    obtain ⟨z, g1, g2⟩ := h
    exact ⟨z, purely_run g1 w, rel_ofV g2⟩
  · rename_i v' h1 h2
    obtain rfl := conc_sound hq h2
    split at h
    · rename_i i hi
      split at h
      · rename_i hf
        have e1 := run_eql_fits hi hp hf
        have e2 := run_eqGuard_fits (P := C.P) (t := t) (op := op) (x := x) (y := y) hp hf
        have nf : ∀ (d : TypeDesc), nilFits d p v = true → (∀ k n, u ≠ .int k n) ∧ (∀ k n, u ≠ .float k n) ∧ (∀ k n m, u ≠ .complex k n m) ∧ (∀ s, u ≠ .string s) ∧ (∀ s, v ≠ .string s) := by
          intro d hd
          cases d <;> cases p <;> (try (simp [nilFits] at hd; done))
          all_goals (simp only [Rel] at hp)
          case pointer.cptr e cs => obtain ⟨b, o, rfl, _⟩ := hp; cases v <;> simp_all [nilFits]
          case pointer.ptr e i1 i2 i3 i4 => obtain ⟨L, _, _, rfl⟩ := hp; cases v <;> simp_all [nilFits]
          case slice.imm e es c => obtain ⟨A, len, cap, rfl, _⟩ := hp; cases v <;> simp_all [nilFits]
          case map.mp => obtain ⟨r, _, rfl⟩ := hp; cases v <;> simp_all [nilFits]
          case func.clo => obtain ⟨fs, cs, rfl, _⟩ := hp; cases v <;> simp_all [nilFits]
          case interface.ifc => obtain ⟨u, rfl, _⟩ := hp; cases v <;> simp_all [nilFits]
        obtain ⟨n1, n2, n3, n4, n5⟩ := nf _ hf
        cases op <;> simp only [Option.some.injEq, reduceCtorEq] at h
        · subst h
          refine ⟨.bool false, ?_, rel_lit rfl⟩
          simp only [Sem.run_bind, e2, Result.andThen_ok]
          have : binOp .eql t u v = (do pure (.bool (← Op.equal t u v))) := by
            cases u <;> first | rfl | (exfalso; first | exact n1 _ _ rfl | exact n2 _ _ rfl | exact n3 _ _ _ rfl | exact n4 _ rfl)
          rw [this]
          simp only [Sem.run_bind, e1, Result.andThen_ok, Sem.run_pure]
        · subst h
          refine ⟨.bool true, ?_, rel_lit rfl⟩
          simp only [Sem.run_bind, e2, Result.andThen_ok]
          have : binOp .neq t u v = (do pure (.bool (!(← Op.equal t u v)))) := by
            cases u <;> first | rfl | (exfalso; first | exact n1 _ _ rfl | exact n2 _ _ rfl | exact n3 _ _ _ rfl | exact n4 _ rfl)
          rw [this]
          simp only [Sem.run_bind, e1, Result.andThen_ok, Sem.run_pure, Bool.not_false]
      · cases h
    · cases h
  · cases h
def tz (P : Program) (t : TypeId) : Option PV := (P.info? t).bind fun i => i.zero.bind ofV
theorem tz_sound {P : Program} {t : TypeId} {p : PV} (h : tz P t = some p) (κ : Kn) (w : World) : ∃ v, (zeroValue t).run P w = .ok v w ∧ Rel κ w p v := by
  unfold tz at h
  rw [Option.bind_eq_some_iff] at h
  obtain ⟨i, h1, h2⟩ := h
  rw [Option.bind_eq_some_iff] at h2
  obtain ⟨v, h2, h3⟩ := h2
  exact ⟨v, by simp [zeroValue, typeInfo, h1, h2], rel_ofV h3⟩
def rds (C : Ctx) (e : Env) : List Operand → Option (List PV)
  | [] => some []
  | x :: r => match rd C e x, rds C e r with
    | some p, some ps => some (p :: ps)
    | _, _ => none
def concs : List PV → Option (List Value)
  | [] => some []
  | p :: r => match conc p, concs r with
    | some v, some vs => some (v :: vs)
    | _, _ => none
theorem concs_sound {κ : Kn} {w : World} : ∀ (ps : List PV) (vs l : List Value), RelList κ w ps vs → concs ps = some l → vs = l
  | [], vs, l, h, hl => by simp only [concs, Option.some.injEq] at hl; simp only [RelList] at h; rw [h, ← hl]
  | p :: r, vs, l, h, hl => by
    simp only [RelList] at h
    obtain ⟨v, vs', rfl, h1, h2⟩ := h
    simp only [concs] at hl
    split at hl
    · rename_i v1 vs1 g1 g2
      cases hl
      rw [conc_sound h1 g1, concs_sound r vs' vs1 h2 g2]
    · cases hl
def natOf : PV → Option Nat
  | .lit (.int _ i) => if 0 ≤ i then some i.toNat else none
  | _ => none
theorem natOf_sound {κ : Kn} {w : World} {p : PV} {v : Value} {n : Nat} (h : Rel κ w p v) (hn : natOf p = some n) : ∃ k, v = .int k (n : Int) := by
  unfold natOf at hn
  split at hn
  · rename_i k i
    split at hn
    · rename_i hi
      cases hn
      simp only [Rel] at h
      exact ⟨k, by rw [h.1, Int.toNat_of_nonneg hi]⟩
    · cases hn
  · cases hn
def PV.cellsP : PV → List PV
  | .agg cs => cs
  | p => [p]
def evIdxA (C : Ctx) (σ : Store) (t : TypeId) (p q : PV) : Option PV :=
  match ti C.P t, natOf q with
  | some ⟨.slice elem, _, _⟩, some n =>
    match ti C.P elem, p with
    | some i, .imm es _ => match es[n]? with
      | some e => if e.length = i.size then some (.cptr e) else none
      | none => none
    | some i, .own id ver off len _ => match σ id with
      | some (.row ver' sz _ _) => if n < len ∧ ver = ver' ∧ i.size = sz then some (.ptr id ver (off + n) 0) else none
      | _ => none
    | _, _ => none
  | some ⟨.array len elem, _, _⟩, some n =>
    match ti C.P elem, p with
    | some i, .ptr id ver j off => if n < len then some (.ptr id ver j (off + n * i.size)) else none
    | some i, .cptr cs => if n < len then some (.cptr (cs.drop (n * i.size))) else none
    | _, _ => none
  | _, _ => none
theorem nat_guard (n len : Nat) (h : n < len) : (0 ≤ (n : Int) ∧ (n : Int) < (len : Int)) := ⟨by omega, by omega⟩
section
variable {C : Ctx} {N : Nat} {κ : Kn} {st : St} {a : Act} {w : World}
theorem row_loc (s : Sim C N κ st a w) {id ver sz : Nat} {es : List (List PV)} {fz : Bool} (h : st.σ id = some (.row ver sz es fz)) : ∃ L, κ.loc id ver = some L ∧ L.sz = sz ∧ L.len = es.length :=
  let ⟨_, L, h1, h2, h3, _⟩ := s.blk id _ h
  ⟨L, h1, h2, h3⟩
theorem evIdxA_sound (s : Sim C N κ st a w) {t : TypeId} {p q r : PV} {u v : Value} (h : evIdxA C st.σ t p q = some r) (hp : Rel κ w p u) (hq : Rel κ w q v) :
    ∃ z, (Instr.indexAt t u v).run C.P w = .ok z w ∧ Rel κ w r z := by
  unfold evIdxA at h
  split at h
  · rename_i elem sz0 by0 n hi hn
    obtain ⟨k, rfl⟩ := natOf_sound hq hn
    split at h
    · rename_i i es cl hie
      split at h
      · rename_i e he
        split at h
        · rename_i hl
          cases h
          simp only [Rel] at hp
          obtain ⟨A, len, cap, rfl, h1, h2, h3, h4⟩ := hp
          have hlt : n < len := by rw [h1]; exact (List.getElem?_eq_some_iff.1 he).1
          rcases h4 with h4 | ⟨b, o, s', rfl, hb, hr⟩
          · subst h4; simp at he
          · obtain ⟨g1, g2⟩ := relRows_get _ _ _ _ hr he
            refine ⟨.pointer (some ⟨b, o + n * i.size, none⟩), ?_, ?_⟩
            · simp only [Instr.indexAt, asIntOf, Sem.run_bind, Sem.run_pure, Result.andThen_ok, run_underlying hi]
              rw [if_pos (nat_guard n len hlt)]
              simp only [Sem.run_bind, run_sizeOf hie, Result.andThen_ok, Sem.run_pure, addr_add, Int.toNat_natCast]
            · simp only [Rel]
              exact ⟨b, _, rfl, hb, by rw [← hl, g1]; exact g2⟩
        · cases h
      · cases h
    · rename_i i id ver off len cl hie
      split at h
      · rename_i ver' sz es fz hσ
        split at h
        · rename_i hg
          obtain ⟨hlt, rfl, hsz⟩ := hg
          cases h
          obtain ⟨L, g1, g2, g3⟩ := row_loc s hσ
          simp only [Rel] at hp
          obtain ⟨A, cap, rfl, h1, h2, L', h3, h4⟩ := hp
          rw [g1] at h3; cases h3
          rcases h4 with ⟨h4, rfl, h5, h6⟩ | ⟨h4, h5⟩
          · refine ⟨.pointer (some ⟨L.blk, L.base + off * L.sz + n * i.size, none⟩), ?_, ?_⟩
            · simp only [Instr.indexAt, asIntOf, Sem.run_bind, Sem.run_pure, Result.andThen_ok, run_underlying hi]
              rw [if_pos (nat_guard n len hlt)]
              simp only [Sem.run_bind, run_sizeOf hie, Result.andThen_ok, Sem.run_pure, addr_add, Int.toNat_natCast]
            · simp only [Rel]
              refine ⟨L, g1, h4, ?_⟩
              rw [hsz, ← g2, Nat.add_mul]
              simp [Nat.add_assoc]
          · omega
        · cases h
      · cases h
    · cases h
  · rename_i len elem sz0 by0 n hi hn
    obtain ⟨k, rfl⟩ := natOf_sound hq hn
    split at h
    · rename_i i id ver j off hie
      split at h
      · rename_i hlt
        cases h
        simp only [Rel] at hp
        obtain ⟨L, h1, h2, rfl⟩ := hp
        refine ⟨.pointer (some ⟨L.blk, L.base + j * L.sz + off + n * i.size, none⟩), ?_, ?_⟩
        · simp only [Instr.indexAt, asIntOf, Sem.run_bind, Sem.run_pure, Result.andThen_ok, run_underlying hi, Instr.sureAddr]
          rw [if_pos (nat_guard n len hlt)]
          simp only [Sem.run_bind, run_sizeOf hie, Result.andThen_ok, Sem.run_pure, addr_add, Int.toNat_natCast]
        · simp only [Rel]
          exact ⟨L, h1, h2, by simp [Nat.add_assoc]⟩
      · cases h
    · rename_i i cs hie
      split at h
      · rename_i hlt
        cases h
        simp only [Rel] at hp
        obtain ⟨b, o, rfl, hb, hc⟩ := hp
        refine ⟨.pointer (some ⟨b, o + n * i.size, none⟩), ?_, ?_⟩
        · simp only [Instr.indexAt, asIntOf, Sem.run_bind, Sem.run_pure, Result.andThen_ok, run_underlying hi, Instr.sureAddr]
          rw [if_pos (nat_guard n len hlt)]
          simp only [Sem.run_bind, run_sizeOf hie, Result.andThen_ok, Sem.run_pure, addr_add, Int.toNat_natCast]
        · simp only [Rel]
          exact ⟨b, _, rfl, hb, relCells_drop _ _ _ hc⟩
      · cases h
    · cases h
  · cases h
def evFldA (C : Ctx) (t : TypeId) (p : PV) (f : Nat) : Option PV :=
  match ti C.P t with
  | some ⟨.struct fs, _, _⟩ => match fs[f]? with
    | some fd => match ti C.P fd.type, p with
      | some i, .ptr id ver j off => if i.size = 0 then none else some (.ptr id ver j (off + fd.offset))
      | some i, .cptr cs => if i.size = 0 then none else some (.cptr (cs.drop fd.offset))
      | _, _ => none
    | none => none
  | _ => none
theorem run_fieldPlace {P : Program} {w : World} {fd : Field} {i : TI} (hi : ti P fd.type = some i) (h0 : i.size ≠ 0) (b o : Nat) :
    (fieldPlace ⟨b, o, none⟩ fd).run P w = .ok ⟨b, o + fd.offset, none⟩ w := by
  unfold fieldPlace
  simp only [Sem.run_bind, run_sizeOf hi, Result.andThen_ok]
  rw [if_neg h0, addr_add]; rfl
theorem evFldA_sound {t : TypeId} {p r : PV} {f : Nat} {u : Value} (h : evFldA C t p f = some r) (hp : Rel κ w p u) :
    ∃ z, (Instr.fieldAt t u f).run C.P w = .ok z w ∧ Rel κ w r z := by
  unfold evFldA at h
  split at h
  · rename_i fs sz0 by0 hi
    split at h
    · rename_i fd hf
      split at h
      · rename_i i id ver j off hie
        split at h
        · cases h
        · rename_i h0
          cases h
          simp only [Rel] at hp
          obtain ⟨L, h1, h2, rfl⟩ := hp
          refine ⟨.pointer (some ⟨L.blk, L.base + j * L.sz + off + fd.offset, none⟩), ?_, ?_⟩
          · simp only [Instr.fieldAt, Sem.run_bind, run_underlying hi, Result.andThen_ok, hf, Instr.sureAddr, Sem.run_pure, run_fieldPlace hie h0]
          · simp only [Rel]
            exact ⟨L, h1, h2, by simp [Nat.add_assoc]⟩
      · rename_i i cs hie
        split at h
        · cases h
        · rename_i h0
          cases h
          simp only [Rel] at hp
          obtain ⟨b, o, rfl, hb, hc⟩ := hp
          refine ⟨.pointer (some ⟨b, o + fd.offset, none⟩), ?_, ?_⟩
          · simp only [Instr.fieldAt, Sem.run_bind, run_underlying hi, Result.andThen_ok, hf, Instr.sureAddr, Sem.run_pure, run_fieldPlace hie h0]
          · simp only [Rel]
            exact ⟨b, _, rfl, hb, relCells_drop _ _ _ hc⟩
      · cases h
    · cases h
  · cases h
def evLoad (C : Ctx) (σ : Store) (t : TypeId) (p : PV) : Option PV :=
  match p with
  | .cptr cs => loadP C t cs
  | .ptr id ver i off => match σ id with
    | some (.row ver' _ es _) => if ver = ver' then (match es[i]? with
      | some e => loadP C t (e.drop off)
      | none => none) else none
    | _ => none
  | _ => none
theorem row_cells (s : Sim C N κ st a w) {id ver sz i off : Nat} {es : List (List PV)} {fz : Bool} {e : List PV} {L : Loc} (h : st.σ id = some (.row ver sz es fz)) (hL : κ.loc id ver = some L) (he : es[i]? = some e) :
    e.length = sz ∧ RelCells κ w L.blk (L.base + i * L.sz + off) (e.drop off) := by
  obtain ⟨_, L', h1, h2, h3, h4⟩ := s.blk id _ h
  rw [h1] at hL; cases hL
  rcases h4 with ⟨_, _, _, h5⟩ | ⟨_, h5⟩
  · obtain ⟨g1, g2⟩ := relRows_get _ _ _ _ h5 he
    exact ⟨g1, by rw [h2]; exact relCells_drop off _ _ g2⟩
  · subst h5; simp at he
theorem evLoad_sound (s : Sim C N κ st a w) {t : TypeId} {p r : PV} {u : Value} (h : evLoad C st.σ t p = some r) (hp : Rel κ w p u) :
    ∃ z, (Instr.loadAt t u).run C.P w = .ok z w ∧ Rel κ w r z := by
  unfold evLoad at h
  split at h
  · rename_i cs
    simp only [Rel] at hp
    obtain ⟨b, o, rfl, hb, hc⟩ := hp
    obtain ⟨v, g1, g2⟩ := loadP_sound h hc
    exact ⟨v, by simp only [Instr.loadAt, Sem.run_bind, Instr.sureAddr, Sem.run_pure, Result.andThen_ok, g1], Rel.mono κ.bare_le (fun _ _ => rfl) _ _ g2⟩
  · rename_i id ver i off
    split at h
    · rename_i ver' sz es fz hσ
      split at h
      · rename_i hv
        subst hv
        split at h
        · rename_i e he
          simp only [Rel] at hp
          obtain ⟨L, h1, h2, rfl⟩ := hp
          obtain ⟨v, g1, g2⟩ := loadP_sound h (row_cells (off := off) s hσ h1 he).2
          exact ⟨v, by simp only [Instr.loadAt, Sem.run_bind, Instr.sureAddr, Sem.run_pure, Result.andThen_ok, g1], g2⟩
        · cases h
      · cases h
    · cases h
  · cases h
end
def bnd? (C : Ctx) (e : Env) (d : Nat) : Option Operand → Option Nat
  | none => some d
  | some x => (rd C e x).bind natOf
def evSlice (C : Ctx) (σ : Store) (e : Env) (t : TypeId) (p : PV) (lo hi mx : Option Operand) : Option PV :=
  match ti C.P t, p with
  | some ⟨.slice elem, _, _⟩, .imm es clip =>
    match ti C.P elem, bnd? C e 0 lo, bnd? C e es.length hi, mx with
    | some i, some l, some h, none => if l ≤ h ∧ h ≤ es.length ∧ es.all (fun e => e.length == i.size) then some (.imm ((es.take h).drop l) (clip && h == es.length)) else none
    | some i, some l, some h, some m => match (rd C e m).bind natOf with
      | some m => if l ≤ h ∧ h ≤ m ∧ m ≤ es.length ∧ es.all (fun e => e.length == i.size) ∧ hi.isSome then some (.imm ((es.take h).drop l) (h == m)) else none
      | none => none
    | _, _, _, _ => none
  | some ⟨.slice elem, _, _⟩, .own id ver off len clip =>
    match ti C.P elem, bnd? C e 0 lo, bnd? C e len hi, mx, σ id with
    | some i, some l, some h, none, some (.row ver' sz _ _) =>
      if l ≤ h ∧ h ≤ len ∧ ver = ver' ∧ i.size = sz ∧ (clip = true → h = len) then some (.own id ver (off + l) (h - l) clip) else none
    | some i, some l, some h, some m, some (.row ver' sz _ _) => match (rd C e m).bind natOf with
      | some m => if l ≤ h ∧ h = m ∧ m ≤ len ∧ ver = ver' ∧ i.size = sz ∧ hi.isSome then some (.own id ver (off + l) (h - l) true) else none
      | none => none
    | _, _, _, _, _ => none
  | some ⟨.slice elem, _, _⟩, .lit (.slice none 0 0) =>
    match ti C.P elem, bnd? C e 0 lo, bnd? C e 0 hi, mx with
    | some _, some 0, some 0, none => some (.lit (.slice none 0 0))
    | _, _, _, _ => none
  | some ⟨.string, _, _⟩, .lit (.string s) =>
    match bnd? C e 0 lo, bnd? C e s.size hi, mx with
    | some l, some h, none => if l ≤ h ∧ h ≤ s.size then some (.lit (.string (s.extract l h))) else none
    | _, _, _ => none
  | _, _ => none
theorem run_sliceBound {P : Program} {w : World} {k : IntKind} {n y : Nat} {code : BoundsCode} (h : n ≤ y) : (Instr.sliceBound (.int k (n : Int)) y code).run P w = .ok n w := by
  unfold Instr.sliceBound
  simp only [asIntOf, Sem.run_bind, Sem.run_pure, Result.andThen_ok]
  rw [if_pos ⟨by omega, by omega⟩]
  simp
section
variable {C : Ctx} {N : Nat} {κ : Kn} {st : St} {a : Act} {w : World}
theorem bnd_sound (s : Sim C N κ st a w) {d n : Nat} {x : Option Operand} (h : bnd? C st.env d x = some n) :
    (x = none ∧ n = d) ∨ ∃ y k, x = some y ∧ a.eval y = .int k (n : Int) := by
  cases x with
  | none => simp only [bnd?, Option.some.injEq] at h; exact .inl ⟨rfl, h.symm⟩
  | some y =>
    simp only [bnd?, Option.bind_eq_some_iff] at h
    obtain ⟨p, h1, h2⟩ := h
    obtain ⟨k, hk⟩ := natOf_sound (rd_sound s h1) h2
    exact .inr ⟨y, k, rfl, hk⟩
theorem run_sliceBounds2 (s : Sim C N κ st a w) {b : Bool} {len cap l h d : Nat} {lo hi : Option Operand} (h1 : bnd? C st.env 0 lo = some l) (h2 : bnd? C st.env d hi = some h)
    (hd : hi = none → d = len) (hl : l ≤ h) (hc : h ≤ cap) : (Instr.sliceBounds b len cap (lo.map a.eval) (hi.map a.eval) none).run C.P w = .ok (l, h, cap) w := by
  unfold Instr.sliceBounds
  rcases bnd_sound s h1 with ⟨rfl, rfl⟩ | ⟨y, k, rfl, e1⟩ <;> rcases bnd_sound s h2 with ⟨rfl, rfl⟩ | ⟨z, k', rfl, e2⟩
  · simp [hd rfl]
  · simp only [Sem.run_bind, Option.map_some, Option.map_none, e2, run_sliceBound hc, Result.andThen_ok, Sem.run_pure]
  · have := hd rfl
    subst this
    simp only [Sem.run_bind, Option.map_some, Option.map_none, e1, run_sliceBound hl, Result.andThen_ok, Sem.run_pure]
  · simp only [Sem.run_bind, Option.map_some, e1, e2, run_sliceBound hc, run_sliceBound hl, Result.andThen_ok, Sem.run_pure]
theorem run_sliceBounds3 (s : Sim C N κ st a w) {b : Bool} {len cap l h m d : Nat} {lo hi : Option Operand} {k : IntKind} (h1 : bnd? C st.env 0 lo = some l) (h2 : bnd? C st.env d hi = some h)
    (hs : hi.isSome = true) (hl : l ≤ h) (hm : h ≤ m) (hc : m ≤ cap) : (Instr.sliceBounds b len cap (lo.map a.eval) (hi.map a.eval) (some (.int k (m : Int)))).run C.P w = .ok (l, h, m) w := by
  unfold Instr.sliceBounds
  rcases bnd_sound s h1 with ⟨rfl, rfl⟩ | ⟨y, k, rfl, e1⟩ <;> rcases bnd_sound s h2 with ⟨rfl, rfl⟩ | ⟨z, k', rfl, e2⟩
  · simp at hs
  · simp only [Sem.run_bind, Option.map_some, Option.map_none, e2, run_sliceBound hc, run_sliceBound hm, Result.andThen_ok, Sem.run_pure]
  · simp at hs
  · simp only [Sem.run_bind, Option.map_some, e1, e2, run_sliceBound hc, run_sliceBound hm, run_sliceBound hl, Result.andThen_ok, Sem.run_pure]
theorem relRows_cut {b o sz l h : Nat} {es : List (List PV)} (hr : RelRows κ w b o sz es) : RelRows κ w b (o + l * sz) sz ((es.take h).drop l) := relRows_drop _ _ _ (relRows_take _ _ _ hr)
theorem rows_sz {b o s sz : Nat} {es : List (List PV)} (hr : RelRows κ w b o s es) (hs : es.all (fun e => e.length == sz) = true) : es = [] ∨ s = sz := by
  cases es with
  | nil => exact .inl rfl
  | cons e es =>
    simp only [RelRows] at hr
    simp only [List.all_cons, Bool.and_eq_true, beq_iff_eq] at hs
    exact .inr (hr.1.symm.trans hs.1)
theorem rel_imm_cut {κ : Kn} {es : List (List PV)} {clip clip' : Bool} {A : Option Addr} {len cap l h m sz : Nat} (hp : Rel κ w (.imm es clip) (.slice A len cap)) (hs : es.all (fun e => e.length == sz) = true)
    (hl : l ≤ h) (hh : h ≤ es.length) (hm : h ≤ m) (hc : clip' = true → m = h) : Rel κ w (.imm ((es.take h).drop l) clip') (.slice (if m = l then A else A.map (·.add (l * sz))) (h - l) (m - l)) := by
  simp only [Rel] at hp ⊢
  obtain ⟨A', len', cap', e, h1, h2, h3, h4⟩ := hp
  cases e
  refine ⟨_, _, _, rfl, by simp; omega, by omega, fun hx => by rw [hc hx], ?_⟩
  rcases h4 with h4 | ⟨b, o, s, rfl, hb, hr⟩
  · subst h4; exact .inl (by simp)
  · rcases rows_sz hr hs with h5 | h5
    · subst h5; exact .inl (by simp)
    · subst h5
      by_cases hml : m = l
      · have : h = l := by omega
        subst this
        exact .inl (by simp)
      · refine .inr ⟨b, o + l * s, s, ?_, hb, relRows_cut hr⟩
        rw [if_neg hml]; simp [addr_add]
theorem evSlice_sound (s : Sim C N κ st a w) {t : TypeId} {p r : PV} {lo hi mx : Option Operand} {u : Value} (h : evSlice C st.σ st.env t p lo hi mx = some r) (hp : Rel κ w p u) :
    ∃ z, (Instr.sliceAt t u (lo.map a.eval) (hi.map a.eval) (mx.map a.eval)).run C.P w = .ok z w ∧ Rel κ w r z := by
  unfold evSlice at h
  have main : ∀ {d : TypeDesc} {sz by_ : Nat}, ti C.P t = some ⟨d, sz, by_⟩ → (∀ n e, d ≠ .array n e) → (Instr.sliceAt t u (lo.map a.eval) (hi.map a.eval) (mx.map a.eval)).run C.P w = (Instr.slice t u (lo.map a.eval) (hi.map a.eval) (mx.map a.eval)).run C.P w := by
    intro d sz by_ hd hn
    unfold Instr.sliceAt
    simp only [Sem.run_bind, run_underlying hd, Result.andThen_ok]
  split at h
  · rename_i elem sz0 by0 es clip hi0
    rw [main hi0 (fun _ _ h => by cases h)]
    have hp' := hp
    simp only [Rel] at hp
    obtain ⟨A, len, cap, rfl, h1, h2, h3, h4⟩ := hp
    split at h
    · rename_i i l hh hie e1 e2
      split at h
      · rename_i hg
        obtain ⟨g1, g2, g3⟩ := hg
        cases h
        refine ⟨_, ?_, rel_imm_cut (clip' := clip && hh == es.length) (m := cap) hp' g3 g1 g2 (by omega) (fun hx => by simp only [Bool.and_eq_true, beq_iff_eq] at hx; rw [h3 hx.1, h1, hx.2])⟩
        simp only [Instr.slice, Sem.run_bind, run_underlying hi0, Result.andThen_ok, Option.map_none, run_sliceBounds2 (cap := cap) s e1 e2 (fun _ => h1.symm) g1 (by omega), run_sizeOf hie, Sem.run_pure]
      · cases h
    · rename_i i l hh m hie e1 e2
      split at h
      · rename_i m' e3
        split at h
        · rename_i hg
          obtain ⟨g1, g2, g3, g4, g5⟩ := hg
          cases h
          rw [Option.bind_eq_some_iff] at e3
          obtain ⟨pm, e4, e5⟩ := e3
          obtain ⟨k, ek⟩ := natOf_sound (rd_sound s e4) e5
          refine ⟨_, ?_, rel_imm_cut (clip' := hh == m') (m := m') hp' g4 g1 (by omega) g2 (fun hx => by simp only [beq_iff_eq] at hx; exact hx.symm)⟩
          simp only [Instr.slice, Sem.run_bind, run_underlying hi0, Result.andThen_ok, Option.map_some, ek, run_sliceBounds3 (cap := cap) s e1 e2 g5 g1 g2 (by omega), run_sizeOf hie, Sem.run_pure]
        · cases h
      · cases h
    · cases h
  · rename_i elem sz0 by0 id ver off len clip hi0
    rw [main hi0 (fun _ _ h => by cases h)]
    simp only [Rel] at hp
    obtain ⟨A, cap, rfl, h1, h2, L, h3, h4⟩ := hp
    split at h
    · rename_i i l hh ver' sz es fz hie e1 e2 hσ
      split at h
      · rename_i hg
        obtain ⟨g1, g2, rfl, g4, g5⟩ := hg
        cases h
        obtain ⟨L', k1, k2, k3⟩ := row_loc s hσ
        rw [h3] at k1; cases k1
        refine ⟨.slice (if cap = l then A else A.map (·.add (l * i.size))) (hh - l) (cap - l), ?_, ?_⟩
        · simp only [Instr.slice, Sem.run_bind, run_underlying hi0, Result.andThen_ok, Option.map_none, run_sliceBounds2 (cap := cap) s e1 e2 (fun _ => rfl) g1 (by omega), run_sizeOf hie, Sem.run_pure]
        · simp only [Rel]
          refine ⟨_, _, rfl, by omega, fun hx => by rw [h2 hx, g5 hx], L, h3, ?_⟩
          rcases h4 with ⟨q1, rfl, q2, q3⟩ | ⟨q1, q2⟩
          · by_cases hcl : cap = l
            · right
              refine ⟨by omega, fun hx => ?_⟩
              have := q3 hx
              omega
            · left
              refine ⟨q1, ?_, ?_, fun hx => ?_⟩
              · rw [if_neg hcl]; simp [addr_add, g4, k2, Nat.add_mul, Nat.add_assoc]
              · have : off + l + (cap - l) = off + cap := by omega
                rw [this]; exact q2
              · have := q3 hx; omega
          · right
            refine ⟨by omega, fun hx => ?_⟩
            have := q2 hx
            omega
      · cases h
    · rename_i i l hh m ver' sz es fz hie e1 e2 hσ
      split at h
      · rename_i m' e3
        split at h
        · rename_i hg
          obtain ⟨g1, rfl, g3, rfl, g4, g5⟩ := hg
          cases h
          rw [Option.bind_eq_some_iff] at e3
          obtain ⟨pm, e4, e5⟩ := e3
          obtain ⟨k, ek⟩ := natOf_sound (rd_sound s e4) e5
          obtain ⟨L', k1, k2, k3⟩ := row_loc s hσ
          rw [h3] at k1; cases k1
          refine ⟨.slice (if hh = l then A else A.map (·.add (l * i.size))) (hh - l) (hh - l), ?_, ?_⟩
          · simp only [Instr.slice, Sem.run_bind, run_underlying hi0, Result.andThen_ok, Option.map_some, ek, run_sliceBounds3 (cap := cap) s e1 e2 g5 g1 (Nat.le_refl hh) (by omega), run_sizeOf hie, Sem.run_pure]
          · simp only [Rel]
            refine ⟨_, _, rfl, Nat.le_refl _, fun _ => rfl, L, h3, ?_⟩
            rcases h4 with ⟨q1, rfl, q2, q3⟩ | ⟨q1, q2⟩
            · by_cases hcl : hh = l
              · right
                exact ⟨by omega, fun hx => by cases hx⟩
              · left
                refine ⟨q1, ?_, ?_, fun hx => by cases hx⟩
                · rw [if_neg hcl]; simp [addr_add, g4, k2, Nat.add_mul, Nat.add_assoc]
                · have h7 : off + l + (hh - l) ≤ off + cap := by omega
                  have := Nat.mul_le_mul_right L.sz h7
                  omega
            · right
              exact ⟨by omega, fun hx => by cases hx⟩
        · cases h
      · cases h
    · cases h
  · rename_i elem sz0 by0 hi0
    rw [main hi0 (fun _ _ h => by cases h)]
    simp only [Rel] at hp
    obtain ⟨rfl, _⟩ := hp
    split at h
    · rename_i i hie e1 e2
      cases h
      refine ⟨.slice none 0 0, ?_, rel_lit rfl⟩
      simp only [Instr.slice, Sem.run_bind, run_underlying hi0, Result.andThen_ok, Option.map_none, run_sliceBounds2 (cap := 0) s e1 e2 (fun _ => rfl) (Nat.le_refl 0) (Nat.le_refl 0), run_sizeOf hie, Sem.run_pure]
      rfl
    · cases h
  · rename_i sz0 by0 str hi0
    rw [main hi0 (fun _ _ h => by cases h)]
    simp only [Rel] at hp
    obtain ⟨rfl, _⟩ := hp
    split at h
    · rename_i l hh e1 e2
      split at h
      · rename_i hg
        cases h
        refine ⟨.string (str.extract l hh), ?_, rel_lit rfl⟩
        simp only [Instr.slice, Sem.run_bind, run_underlying hi0, Result.andThen_ok, Option.map_none, Option.isSome_none, Bool.false_eq_true, if_false, Sem.run_pure, run_sliceBounds2 (cap := str.size) s e1 e2 (fun _ => rfl) hg.1 hg.2]
      · cases h
    · cases h
  · cases h
end
def putAll (cells : List PV) (off : Nat) : List PV → List PV
  | [] => cells
  | c :: cs => putAll (cells.set off c) (off + 1) cs
def fillP (place : Nat → Option (Nat × Nat)) (cells : List PV) : List (Nat × PV) → Option (List PV)
  | [] => some cells
  | (i, p) :: rest => match place i with
    | none => none
    | some (off, size) => if p.cellsP.length = size ∧ off + size ≤ cells.length ∧ p.cellsP.all PV.one = true then fillP place (putAll cells off p.cellsP) rest else none
theorem rel_one {κ : Kn} {w : World} {p : PV} {v : Value} (h : Rel κ w p v) (ho : p.one = true) : one1 v = true := by
  cases p <;> simp only [PV.one, Bool.false_eq_true] at ho <;> simp only [Rel] at h
  case lit u => rw [h.1]; exact ground_one h.2
  case imm => obtain ⟨_, _, _, rfl, _⟩ := h; rfl
  case own => obtain ⟨_, _, rfl, _⟩ := h; rfl
  case cptr => obtain ⟨_, _, rfl, _⟩ := h; rfl
  case ptr => obtain ⟨_, _, _, rfl⟩ := h; rfl
  case clo => obtain ⟨_, _, rfl, _⟩ := h; rfl
  case ifc => obtain ⟨_, rfl, _⟩ := h; rfl
  case mp => obtain ⟨_, _, rfl⟩ := h; rfl
theorem cells_one {v : Value} (h : one1 v = true) : v.cells = #[v] := by cases v <;> simp_all [one1, Value.cells]
theorem rel_cells {κ : Kn} {w : World} {p : PV} {v : Value} (h : Rel κ w p v) (ho : p.cellsP.all PV.one = true) : RelList κ w p.cellsP v.cells.toList := by
  by_cases hp : ∃ cs, p = .agg cs
  · obtain ⟨cs, rfl⟩ := hp
    simp only [Rel] at h
    obtain ⟨vs, rfl, _, h2⟩ := h
    exact h2
  · have hc : p.cellsP = [p] := by cases p <;> first | rfl | (exfalso; exact hp ⟨_, rfl⟩)
    rw [hc] at ho ⊢
    simp only [List.all_cons, List.all_nil, Bool.and_true] at ho
    rw [cells_one (rel_one h ho)]
    simp only [RelList]
    exact ⟨v, [], rfl, h, rfl⟩
theorem relList_set {κ : Kn} {w : World} : ∀ (ps : List PV) (vs : List Value) (i : Nat) {p : PV} {v : Value}, RelList κ w ps vs → Rel κ w p v → RelList κ w (ps.set i p) (vs.set i v)
  | [], vs, i, p, v, h, _ => by simp only [RelList] at h; simp [h, RelList]
  | q :: ps, vs, 0, p, v, h, hr => by
    simp only [RelList] at h
    obtain ⟨u, vs', rfl, h1, h2⟩ := h
    simp only [List.set_cons_zero, RelList]
    exact ⟨v, vs', rfl, hr, h2⟩
  | q :: ps, vs, i + 1, p, v, h, hr => by
    simp only [RelList] at h
    obtain ⟨u, vs', rfl, h1, h2⟩ := h
    simp only [List.set_cons_succ, RelList]
    exact ⟨u, _, rfl, h1, relList_set ps vs' i h2 hr⟩
def putAllV (cells : List Value) (off : Nat) : List Value → List Value
  | [] => cells
  | c :: cs => putAllV (cells.set off c) (off + 1) cs
theorem relList_putAll {κ : Kn} {w : World} : ∀ (qs : List PV) (us : List Value) (ps : List PV) (vs : List Value) (off : Nat), RelList κ w ps vs → RelList κ w qs us → RelList κ w (putAll ps off qs) (putAllV vs off us)
  | [], us, ps, vs, off, h, h' => by simp only [RelList] at h'; subst h'; exact h
  | q :: qs, us, ps, vs, off, h, h' => by
    simp only [RelList] at h'
    obtain ⟨u, us', rfl, h1, h2⟩ := h'
    exact relList_putAll qs us' _ _ (off + 1) (relList_set _ _ _ h h1) h2
theorem foldl_putAll (us : List Value) : ∀ (cs : Array Value) (off j : Nat),
    ((us.zipIdx j).foldl (fun (cs : Array Value) (x : Value × Nat) => cs.setIfInBounds (off + x.2) x.1) cs).toList = putAllV cs.toList (off + j) us := by
  induction us with
  | nil => intro cs off j; rfl
  | cons u us ih =>
    intro cs off j
    simp only [List.zipIdx_cons, List.foldl_cons, putAllV]
    rw [ih]
    simp [Nat.add_assoc]
theorem length_putAll : ∀ (qs ps : List PV) (off : Nat), (putAll ps off qs).length = ps.length
  | [], ps, off => rfl
  | q :: qs, ps, off => by rw [putAll, length_putAll]; simp
theorem all_set {l : List PV} {i : Nat} {p : PV} (h : l.all PV.one = true) (hp : p.one = true) : (l.set i p).all PV.one = true := by
  rw [List.all_eq_true] at h ⊢
  intro x hx
  rcases List.mem_or_eq_of_mem_set hx with h' | h'
  · exact h x h'
  · rw [h']; exact hp
theorem all_putAll : ∀ (qs ps : List PV) (off : Nat), ps.all PV.one = true → qs.all PV.one = true → (putAll ps off qs).all PV.one = true
  | [], ps, off, h, _ => h
  | q :: qs, ps, off, h, h' => by
    simp only [List.all_cons, Bool.and_eq_true] at h'
    exact all_putAll qs _ _ (all_set h h'.1) h'.2
theorem fillP_sound {κ : Kn} {w : World} {place : Nat → Option (Nat × Nat)} : ∀ (parts : List (Nat × PV)) (vparts : List (Nat × Value)) (cells : List PV) (vs : Array Value) {r : List PV},
    fillP place cells parts = some r → RelList κ w cells vs.toList → cells.all PV.one = true →
    (parts.map (·.1) = vparts.map (·.1)) → RelList κ w (parts.map (·.2)) (vparts.map (·.2)) →
    ∃ vs', Instr.fill place vs vparts = some vs' ∧ RelList κ w r vs'.toList ∧ r.all PV.one = true
  | [], vparts, cells, vs, r, h, hc, ho, hi, _ => by
    simp only [fillP, Option.some.injEq] at h
    subst h
    cases vparts with
    | nil => exact ⟨vs, rfl, hc, ho⟩
    | cons => simp at hi
  | (i, p) :: rest, vparts, cells, vs, r, h, hc, ho, hi, hp => by
    cases vparts with
    | nil => simp at hi
    | cons x vrest =>
      obtain ⟨j, v⟩ := x
      simp only [List.map_cons, List.cons.injEq] at hi
      obtain ⟨rfl, hi⟩ := hi
      simp only [List.map_cons, RelList] at hp
      obtain ⟨v', vs1, e, hp1, hp2⟩ := hp
      simp only [List.cons.injEq] at e
      obtain ⟨rfl, rfl⟩ := e
      simp only [fillP] at h
      split at h
      · cases h
      · rename_i off size hpl
        split at h
        · rename_i hg
          obtain ⟨g1, g2, g3⟩ := hg
          have hrc := rel_cells hp1 g3
          have hlen : v.cells.size = size := by
            have := relList_length _ _ hrc
            simpa [g1] using this
          have hvl : vs.size = cells.length := by simpa using relList_length _ _ hc
          obtain ⟨vs', k1, k2, k3⟩ := fillP_sound rest vrest (putAll cells off p.cellsP) (v.cells.zipIdx.foldl (fun cs (c, j) => cs.setIfInBounds (off + j) c) vs) h (by
            have := relList_putAll _ _ _ _ off hc hrc
            rw [← Array.foldl_toList, Array.toList_zipIdx, foldl_putAll v.cells.toList vs off 0]
            exact this) (all_putAll _ _ _ ho g3) hi hp2
          refine ⟨vs', ?_, k2, k3⟩
          simp only [Instr.fill, hpl]
          rw [if_neg (by simp only [ne_eq, decide_not, Bool.or_eq_true, Bool.not_eq_true', decide_eq_false_iff_not, decide_eq_true_eq, not_or, Decidable.not_not, Nat.not_lt]; exact ⟨hlen, by rw [hlen, hvl]; exact g2⟩)]
          exact k1
        · cases h
def rdParts (C : Ctx) (e : Env) : List (Nat × Operand) → Option (List (Nat × PV))
  | [] => some []
  | (i, x) :: r => match rd C e x, rdParts C e r with
    | some p, some ps => some ((i, p) :: ps)
    | _, _ => none
theorem rdParts_sound {C : Ctx} {N : Nat} {κ : Kn} {st : St} {a : Act} {w : World} (s : Sim C N κ st a w) : ∀ (l : List (Nat × Operand)) (ps : List (Nat × PV)), rdParts C st.env l = some ps →
    ps.map (·.1) = (l.map fun x => (x.1, a.eval x.2)).map (·.1) ∧ RelList κ w (ps.map (·.2)) ((l.map fun x => (x.1, a.eval x.2)).map (·.2))
  | [], ps, h => by simp only [rdParts, Option.some.injEq] at h; subst h; simp [RelList]
  | (i, x) :: r, ps, h => by
    simp only [rdParts] at h
    split at h
    · rename_i p ps' h1 h2
      cases h
      obtain ⟨g1, g2⟩ := rdParts_sound s r ps' h2
      simp only [List.map_cons, g1, true_and, RelList]
      exact ⟨_, _, rfl, rd_sound s h1, g2⟩
    · cases h
theorem rds_sound {C : Ctx} {N : Nat} {κ : Kn} {st : St} {a : Act} {w : World} (s : Sim C N κ st a w) : ∀ (l : List Operand) (ps : List PV), rds C st.env l = some ps → RelList κ w ps (l.map a.eval)
  | [], ps, h => by simp only [rds, Option.some.injEq] at h; subst h; simp [RelList]
  | x :: r, ps, h => by
    simp only [rds] at h
    split at h
    · rename_i p ps' h1 h2
      cases h
      simp only [List.map_cons, RelList]
      exact ⟨_, _, rfl, rd_sound s h1, rds_sound s r ps' h2⟩
    · cases h
def placesP (P : Program) : List Field → Option (List (Nat × Nat))
  | [] => some []
  | f :: r => match ti P f.type, placesP P r with
    | some i, some l => some ((f.offset, i.size) :: l)
    | _, _ => none
theorem run_mapM_places {P : Program} {w : World} : ∀ (fs : List Field) (l : List (Nat × Nat)), placesP P fs = some l →
    (fs.mapM (fun f => do pure (f.offset, ← sizeOf f.type) : Field → Sem (Nat × Nat))).run P w = .ok l w
  | [], l, h => by simp only [placesP, Option.some.injEq] at h; subst h; simp
  | f :: r, l, h => by
    simp only [placesP] at h
    split at h
    · rename_i i l' h1 h2
      cases h
      simp only [List.mapM_cons, Sem.run_bind, run_sizeOf h1, Result.andThen_ok, Sem.run_pure, run_mapM_places r l' h2]
    · cases h
def evBuild (C : Ctx) (t : TypeId) (parts : List (Nat × PV)) : Option PV :=
  match ti C.P t, tz C.P t with
  | some ⟨.struct fs, _, _⟩, some (.agg z) => match placesP C.P fs.toList with
    | some pl => (fillP (pl[·]?) z parts).map .agg
    | none => none
  | some ⟨.array _ elem, _, _⟩, some (.agg z) => match ti C.P elem with
    | some i => (fillP (fun k => some (k * i.size, i.size)) z parts).map .agg
    | none => none
  | _, _ => none
theorem run_mapM_arr {P : Program} {w : World} (fs : Array Field) (l : List (Nat × Nat)) (h : placesP P fs.toList = some l) :
    (fs.mapM (fun f => do pure (f.offset, ← sizeOf f.type) : Field → Sem (Nat × Nat))).run P w = .ok l.toArray w := by
  rw [Array.mapM_eq_mapM_toList]
  simp only [Sem.run_map, run_mapM_places _ _ h, Result.andThen_ok]
theorem evBuild_sound {C : Ctx} {κ : Kn} {w : World} {t : TypeId} {ps : List (Nat × PV)} {vps : Array (Nat × Value)} {r : PV} (h : evBuild C t ps = some r)
    (hi : ps.map (·.1) = vps.toList.map (·.1)) (hp : RelList κ w (ps.map (·.2)) (vps.toList.map (·.2))) : ∃ z, (Instr.build t vps).run C.P w = .ok z w ∧ Rel κ w r z := by
  unfold evBuild at h
  split at h
  · rename_i fs sz by_ z hi0 hz
    split at h
    · rename_i pl hpl
      rw [Option.map_eq_some_iff] at h
      obtain ⟨rc, h1, rfl⟩ := h
      obtain ⟨zv, g1, g2⟩ := tz_sound hz κ w
      simp only [Rel] at g2
      obtain ⟨zs, rfl, g3, g4⟩ := g2
      obtain ⟨vs', k1, k2, k3⟩ := fillP_sound (κ := κ) (w := w) ps vps.toList z zs h1 g4 g3 hi hp
      refine ⟨.agg vs', ?_, by simp only [Rel]; exact ⟨vs', rfl, k3, k2⟩⟩
      simp only [Instr.build, Sem.run_bind, g1, Result.andThen_ok, run_underlying hi0, Value.cells, run_mapM_arr fs pl hpl]
      have : (fun (x : Nat) => (pl.toArray)[x]?) = (fun (x : Nat) => pl[x]?) := by funext x; simp
      rw [this, k1]; rfl
    · cases h
  · rename_i n elem sz by_ z hi0 hz
    split at h
    · rename_i i hie
      rw [Option.map_eq_some_iff] at h
      obtain ⟨rc, h1, rfl⟩ := h
      obtain ⟨zv, g1, g2⟩ := tz_sound hz κ w
      simp only [Rel] at g2
      obtain ⟨zs, rfl, g3, g4⟩ := g2
      obtain ⟨vs', k1, k2, k3⟩ := fillP_sound (κ := κ) (w := w) ps vps.toList z zs h1 g4 g3 hi hp
      refine ⟨.agg vs', ?_, by simp only [Rel]; exact ⟨vs', rfl, k3, k2⟩⟩
      simp only [Instr.build, Sem.run_bind, g1, Result.andThen_ok, run_underlying hi0, Value.cells, run_sizeOf hie, k1, Sem.run_pure]
    · cases h
  · cases h
def evIdx (C : Ctx) (t : TypeId) (p q : PV) : Option PV :=
  match p with
  | .agg cs => match ti C.P t, natOf q with
    | some ⟨.array len elem, _, _⟩, some n => match ti C.P elem with
      | some i => if n < len then partP C elem cs (n * i.size) else none
      | none => none
    | _, _ => none
  | .lit (.string s) => match ti C.P t, natOf q with
    | some ⟨.string, _, _⟩, some n => if h : n < s.size then some (.lit (.int .u8 (s[n]'h).toNat)) else none
    | _, _ => none
  | _ => none
theorem evIdx_sound {C : Ctx} {κ : Kn} {w : World} {t : TypeId} {p q r : PV} {u v : Value} (h : evIdx C t p q = some r) (hp : Rel κ w p u) (hq : Rel κ w q v) :
    ∃ z, (Instr.index t u v).run C.P w = .ok z w ∧ Rel κ w r z := by
  unfold evIdx at h
  split at h
  · rename_i cs
    split at h
    · rename_i len elem sz0 by0 n hi hn
      obtain ⟨k, rfl⟩ := natOf_sound hq hn
      split at h
      · rename_i i hie
        split at h
        · rename_i hlt
          simp only [Rel] at hp
          obtain ⟨vs, rfl, h1, h2⟩ := hp
          obtain ⟨z, g1, g2⟩ := partP_sound h h2 h1
          refine ⟨z, ?_, g2⟩
          simp only [Instr.index, asIntOf, Sem.run_bind, Sem.run_pure, Result.andThen_ok, run_underlying hi]
          rw [if_pos (nat_guard n len hlt)]
          simp only [Sem.run_bind, run_sizeOf hie, Result.andThen_ok, Int.toNat_natCast, g1]
        · cases h
      · cases h
    · cases h
  · rename_i s
    split at h
    · rename_i sz0 by0 n hi hn
      obtain ⟨k, rfl⟩ := natOf_sound hq hn
      split at h
      · rename_i hlt
        cases h
        simp only [Rel] at hp
        obtain ⟨rfl, _⟩ := hp
        refine ⟨_, ?_, rel_lit rfl⟩
        simp only [Instr.index, asIntOf, Sem.run_bind, Sem.run_pure, Result.andThen_ok, run_underlying hi]
        rw [if_pos (by omega)]
        have : s[(n : Int).toNat]? = some (s[n]'hlt) := by simp [hlt]
        simp only [this, Sem.run_pure]
      · cases h
    · cases h
  · cases h
def evLen (C : Ctx) (σ : Store) (t : TypeId) (p : PV) : Option PV :=
  match ti C.P t with
  | some ⟨.slice _, _, _⟩ => match p with
    | .imm es _ => some (.lit (.int .i64 es.length))
    | .own _ _ _ len _ => some (.lit (.int .i64 len))
    | .lit (.slice none 0 0) => some (.lit (.int .i64 0))
    | _ => none
  | some ⟨.string, _, _⟩ => match p with
    | .lit (.string s) => some (.lit (.int .i64 s.size))
    | _ => none
  | some ⟨.array n _, _, _⟩ => some (.lit (.int .i64 n))
  | some ⟨.pointer arr, _, _⟩ => match ti C.P arr with
    | some ⟨.array n _, _, _⟩ => some (.lit (.int .i64 n))
    | _ => none
  | some ⟨.map _ _, _, _⟩ => match p with
    | .lit (.map none) => some (.lit (.int .i64 0))
    | .mp id => match σ id with
      | some (.map kvs _ _) => some (.lit (.int .i64 kvs.length))
      | _ => none
    | _ => none
  | _ => none
theorem relEnts_length {κ : Kn} {w : World} : ∀ (kvs : List (Value × PV × Nat)) (es : List MapEntry), RelEnts κ w kvs es → es.length = kvs.length
  | [], es, h => by simp only [RelEnts] at h; simp [h]
  | (k, p, n) :: r, es, h => by
    obtain ⟨e, es', rfl, _, _, _, h5⟩ := h
    simp [relEnts_length r es' h5]
def lenB (d : TypeDesc) (u : Value) : Sem Value :=
  match d, u with
  | .string, .string s => pure (goInt s.size)
  | .array n _, _ => pure (goInt n)
  | .pointer arr, _ => do
    let .array n _ ← underlying arr | stuck "len: pointer to array expected"
    pure (goInt n)
  | .slice _, .slice _ n _ => pure (goInt n)
  | .map _ _, .map none | .chan _ _, .chan none => pure (goInt 0)
  | .map _ _, .map (some r) => do
    let .map entries _ ← getObj r | stuck "len: map expected"
    pure (goInt entries.size)
  | .chan _ _, .chan (some r) => do
    let .chan _ buf _ _ _ timer ← getObj r | stuck "len: channel expected"
    pure (goInt (if timer then 0 else buf.size))
  | _, _ => stuck "len: string, array, pointer to array, slice, map or channel expected"
theorem evLen_sound {C : Ctx} {N : Nat} {κ : Kn} {st : St} {a : Act} {w : World} (s : Sim C N κ st a w) {t ty : TypeId} {p r : PV} {u : Value} {argTypes : Array TypeId} {args : Array Value}
    (h : evLen C st.σ t p = some r) (hp : Rel κ w p u) (ht : argTypes[0]? = some t) (hu : args[0]? = some u) :
    ∃ z, (Builtin.len_ argTypes ty args).run C.P w = .ok z w ∧ Rel κ w r z := by
  unfold evLen at h
  have base : ∀ {i : TI}, ti C.P t = some i → (Builtin.len_ argTypes ty args).run C.P w = (lenB i.desc u).run C.P w := by
    intro i hi
    unfold Builtin.len_
    simp only [ht, hu, Sem.run_bind, run_underlying hi, Result.andThen_ok]
    rfl
  split at h
  · rename_i e sz by_ hi
    rw [base hi]
    split at h
    · cases h
      simp only [Rel] at hp
      obtain ⟨A, len, cap, rfl, h1, _⟩ := hp
      exact ⟨_, rfl, by rw [h1]; exact rel_lit rfl⟩
    · cases h
      simp only [Rel] at hp
      obtain ⟨A, cap, rfl, _⟩ := hp
      exact ⟨_, rfl, rel_lit rfl⟩
    · cases h
      simp only [Rel] at hp
      obtain ⟨rfl, _⟩ := hp
      exact ⟨_, rfl, rel_lit rfl⟩
    · cases h
  · rename_i sz by_ hi
    rw [base hi]
    split at h
    · cases h
      simp only [Rel] at hp
      obtain ⟨rfl, _⟩ := hp
      exact ⟨_, rfl, rel_lit rfl⟩
    · cases h
  · rename_i n e sz by_ hi
    rw [base hi]
    cases h
    exact ⟨_, rfl, rel_lit rfl⟩
  · rename_i arr sz by_ hi
    rw [base hi]
    split at h
    · rename_i n e sz by_ hi2
      cases h
      refine ⟨_, ?_, rel_lit rfl⟩
      simp only [lenB, Sem.run_bind, run_underlying hi2, Result.andThen_ok]
      rfl
    · cases h
  · rename_i k e sz by_ hi
    rw [base hi]
    split at h
    · cases h
      simp only [Rel] at hp
      obtain ⟨rfl, _⟩ := hp
      exact ⟨_, rfl, rel_lit rfl⟩
    · rename_i id
      split at h
      · rename_i kvs ck fz hσ
        cases h
        simp only [Rel] at hp
        obtain ⟨r, h1, rfl⟩ := hp
        obtain ⟨_, r', ents, g1, g2, g3⟩ := s.blk id _ hσ
        rw [h1] at g1; cases g1
        have := relEnts_length _ _ g3
        refine ⟨.int .i64 (ents.size : Int), ?_, by rw [← this]; exact rel_lit rfl⟩
        simp only [lenB, Sem.run_bind, getObj, Sem.run, g2]
        rfl
      · cases h
    · cases h
  · cases h
def evBuiltin (C : Ctx) (σ : Store) (b : Builtin) (argTypes : Array TypeId) (ps : List PV) : Option PV :=
  match b with
  | .len => match argTypes[0]?, ps[0]? with
    | some t, some p => evLen C σ t p
    | _, _ => none
  | .min => (concs ps).bind fun vs => (purely C.P (Builtin.min_ #[] 0 vs.toArray)).bind ofV
  | .max => (concs ps).bind fun vs => (purely C.P (Builtin.max_ #[] 0 vs.toArray)).bind ofV
  | _ => none
def byteL : List (List PV) → Option (List Int)
  | [] => some []
  | [.lit (.int .u8 n)] :: r => match byteL r with
    | some ns => some (n :: ns)
    | none => none
  | _ => none
def bstr (ns : List Int) : ByteArray := ns.foldl (fun r n => r.push (UInt8.ofNat n.toNat)) ByteArray.empty
def bytesT (C : Ctx) (s d : TypeId) : Bool :=
  match ti C.P s, ti C.P d with
  | some ⟨.slice e, _, _⟩, some ⟨.string, _, _⟩ => match ti C.P e with
    | some ⟨.int .u8, _, _⟩ => true
    | _ => false
  | _, _ => false
def evConv (C : Ctx) (σ : Store) (s d : TypeId) (p : PV) : Option PV :=
  match p with
  | .own id ver off len _ => match σ id with
    | some (.row ver' sz es _) => if ver = ver' ∧ off + len ≤ es.length ∧ bytesT C s d = true then match byteL ((es.drop off).take len) with
        | some ns => some (.lit (.string (bstr ns)))
        | none => none else none
    | _ => none
  | .imm es _ => if bytesT C s d = true then match byteL es with
      | some ns => some (.lit (.string (bstr ns)))
      | none => none else none
  | p => match conc p with
    | some u => (purely C.P (convert s d u)).bind ofV
    | none => none
def findP (d : TypeDesc) (k : Value) : List (Value × PV × Nat) → Option (Option PV)
  | [] => some none
  | (key, p, _) :: r => match Instr.sameNow d k key with
    | some true => some (some p)
    | some false => findP d k r
    | none => none
def keyB : TypeDesc → Value → Bool
  | .bool, .bool _ => true
  | .int k, .int k' _ => k' == k
  | .string, .string _ => true
  | _, _ => false
theorem keyB_spec {d : TypeDesc} {k : Value} (h : keyB d k = true) : MapKept.IsKey d k := by
  cases d <;> cases k <;> simp_all [keyB, MapKept.IsKey]
section
variable {C : Ctx} {N : Nat} {κ : Kn} {st : St} {a : Act} {w : World}
theorem findP_sound {d : TypeDesc} {k : Value} : ∀ (kvs : List (Value × PV × Nat)) (es : List MapEntry) (i : Nat) (r : Option PV), RelEnts κ w kvs es → findP d k kvs = some r →
    match r with
    | none => Instr.findNow d k es i = some none
    | some p => ∃ j v, Instr.findNow d k es i = some (some (j, v)) ∧ Rel κ w p v
  | [], es, i, r, h, hf => by
    simp only [RelEnts] at h
    simp only [findP, Option.some.injEq] at hf
    subst h hf
    rfl
  | (key, p, n) :: kvs, es, i, r, h, hf => by
    simp only [RelEnts] at h
    obtain ⟨e, es', rfl, h1, h2, h3, h4⟩ := h
    simp only [findP] at hf
    split at hf
    · rename_i hs
      cases hf
      exact ⟨i, e.val, by simp only [Instr.findNow, h1, hs], h3⟩
    · rename_i hs
      have := findP_sound kvs es' (i + 1) r h4 hf
      cases r with
      | none => simp only [Instr.findNow, h1, hs]; exact this
      | some q => obtain ⟨j, v, g1, g2⟩ := this; exact ⟨j, v, by simp only [Instr.findNow, h1, hs]; exact g1, g2⟩
    · cases hf
def evLookup (C : Ctx) (σ : Store) (t : TypeId) (p q : PV) (ok : Bool) : Option PV :=
  match p, q, ti C.P t with
  | .mp id, .lit k, some ⟨.map kt et, _, _⟩ => match σ id, ti C.P kt with
    | some (.map kvs _ _), some ki => if keyB ki.desc k = true then (match findP ki.desc k kvs with
        | some (some r) => some (if ok then .tup [r, .lit (.bool true)] else r)
        | some none => match tz C.P et with
          | some z => some (if ok then .tup [z, .lit (.bool false)] else z)
          | none => none
        | none => none) else none
    | _, _ => none
  | _, _, _ => none
theorem evLookup_sound (s : Sim C N κ st a w) {t : TypeId} {p q r : PV} {ok : Bool} {u v : Value} (h : evLookup C st.σ t p q ok = some r) (hp : Rel κ w p u) (hq : Rel κ w q v) :
    ∃ z, (Instr.lookup t u v ok).run C.P w = .ok z w ∧ Rel κ w r z := by
  unfold evLookup at h
  split at h
  · rename_i id k kt et sz by_ ht
    split at h
    · rename_i kvs clock fz ki hσ hk
      split at h
      · rename_i hkb
        simp only [Rel] at hp hq
        obtain ⟨rr, hm, rfl⟩ := hp
        obtain ⟨rfl, _⟩ := hq
        obtain ⟨_, r', ents, h1, h2, h3⟩ := s.blk id _ hσ
        rw [hm] at h1; cases h1
        have hck := MapKept.run_checkKey (P := C.P) (w := w) (kt := kt) (d := ki.desc) (k := v) (ti_spec hk).1 (keyB_spec hkb) ents.isEmpty 9999
        have run : ∀ (a : Option (Nat × Value)), Instr.findNow ki.desc v ents.toList 0 = some a → (Instr.lookup t (.map (some rr)) v ok).run C.P w = ((do
            let (x, b) ← match a with
              | some (_, x) => pure (x, true)
              | none => pure (← zeroValue et, false)
            pure (if ok then .tuple #[x, .bool b] else x) : Sem Value)).run C.P w := fun a ha => by
          have hfk := MapKept.run_findKey (P := C.P) (w := w) (kt := kt) (ti_spec hk).1 ha
          simp only [Instr.lookup, Sem.run_bind, run_underlying ht, Result.andThen_ok, MapKept.run_getObj_map h2, Sem.run_pure, hck, hfk]
          rfl
        split at h
        · rename_i x hx
          cases h
          obtain ⟨j, z, g1, g2⟩ := findP_sound (κ := κ) (w := w) kvs ents.toList 0 (some x) h3 hx
          refine ⟨if ok then .tuple #[z, .bool true] else z, by rw [run _ g1]; simp, ?_⟩
          cases ok
          · exact g2
          · simp only [if_true, Rel, RelList]
            exact ⟨_, rfl, z, _, rfl, g2, _, [], rfl, ⟨rfl, rfl⟩, rfl⟩
        · rename_i hx
          split at h
          · rename_i z hz
            cases h
            have g1 := findP_sound (κ := κ) (w := w) kvs ents.toList 0 none h3 hx
            obtain ⟨zv, k1, k2⟩ := tz_sound hz κ w
            refine ⟨if ok then .tuple #[zv, .bool false] else zv, by rw [run _ g1]; simp [k1], ?_⟩
            cases ok
            · exact k2
            · simp only [if_true, Rel, RelList]
              exact ⟨_, rfl, zv, _, rfl, k2, _, [], rfl, ⟨rfl, rfl⟩, rfl⟩
          · cases h
        · cases h
      · cases h
    · cases h
  · cases h
end
def evFld (C : Ctx) (t : TypeId) (p : PV) (f : Nat) : Option PV :=
  match ti C.P t, p with
  | some ⟨.struct fs, _, _⟩, .agg cs => match fs[f]? with
    | some fd => partP C fd.type cs fd.offset
    | none => none
  | _, _ => none
def evq (C : Ctx) (σ : Store) (e : Env) : Op → Option PV
  | .move x => rd C e x
  | .assign x => rd C e x
  | .pick c a b => match rd C e c with
    | some (.lit (.bool t)) => if t then rd C e a else rd C e b
    | _ => none
  | .binOp op t x y _ => match rd C e x, rd C e y with
    | some p, some q => evBin C op t x y p q
    | _, _ => none
  | .unOp op _ x => match rd C e x with
    | some p => (conc p).bind fun u => (purely C.P (Op.unary op u)).bind ofV
    | none => none
  | .convert s d x => match rd C e x with
    | some p => evConv C σ s d p
    | none => none
  | .makeInterface t x => match ti C.P t, rd C e x with
    | some i, some p => (match i.desc with | .interface _ => none | _ => some (.ifc t p))
    | _, _ => none
  | .makeFunc fn first cap => match rds C e first.toList, rds C e cap.toList with
    | some ps, some qs => some (.clo fn ps qs)
    | _, _ => none
  | .field t x f => match rd C e x with
    | some p => evFld C t p f
    | none => none
  | .fieldAddr t x f => match rd C e x with
    | some p => evFldA C t p f
    | none => none
  | .indexAddr t x ix => match rd C e x, rd C e ix with
    | some p, some q => evIdxA C σ t p q
    | _, _ => none
  | .index t x ix => match rd C e x, rd C e ix with
    | some p, some q => evIdx C t p q
    | _, _ => none
  | .load t x => match rd C e x with
    | some p => evLoad C σ t p
    | none => none
  | .extract x i => match rd C e x with
    | some (.tup ps) => ps[i]?
    | _ => none
  | .slice t x lo hi mx => match rd C e x with
    | some p => evSlice C σ e t p lo hi mx
    | none => none
  | .nilCheck x => match rd C e x with
    | some (.ptr id ver i off) => some (.ptr id ver i off)
    | some (.cptr cs) => some (.cptr cs)
    | some (.ifc t p) => some (.ifc t p)
    | some (.clo (.func f) a b) => some (.clo (.func f) a b)
    | _ => none
  | .lookup t x ix ok => match rd C e x, rd C e ix with
    | some p, some q => evLookup C σ t p q ok
    | _, _ => none
  | .build t parts => match rdParts C e parts.toList with
    | some ps => evBuild C t ps
    | none => none
  | .call { callee := .builtin b, args, argTypes } => match rds C e args.toList with
    | some ps => evBuiltin C σ b argTypes ps
    | none => none
  | _ => none
theorem byteL_cells {κ : Kn} {w : World} {b sz : Nat} : ∀ (es : List (List PV)) (o : Nat) (ns : List Int), byteL es = some ns → RelRows κ w b o sz es → ∀ j v, (ns.map (Value.int .u8))[j]? = some v → w.cell? ⟨b, o + j, none⟩ = some v
  | [], _, ns, h, _, j, v, hj => by
    simp only [byteL, Option.some.injEq] at h; subst h; simp at hj
  | e :: r, o, ns, h, hr, j, v, hj => by
    unfold byteL at h
    split at h
    · cases ‹_ :: _ = []›
    · rename_i n r' he
      cases he
      split at h
      · rename_i ns' hns
        cases h
        simp only [RelRows, RelCells] at hr
        obtain ⟨h1, ⟨⟨u, h2, _, h3⟩, _⟩, h4⟩ := hr
        simp only [Rel] at h3
        obtain ⟨rfl, _⟩ := h3
        cases j with
        | zero => simp at hj; subst hj; exact h2
        | succ j =>
          have hs : sz = 1 := by simpa using h1.symm
          subst hs
          have := byteL_cells r (o + 1) ns' hns h4 j v (by simpa using hj)
          rw [show o + (j + 1) = o + 1 + j from by omega]
          exact this
      · cases h
    · cases h
theorem byteL_len : ∀ (es : List (List PV)) (ns : List Int), byteL es = some ns → ns.length = es.length
  | [], ns, h => by simp only [byteL, Option.some.injEq] at h; subst h; rfl
  | e :: r, ns, h => by
    unfold byteL at h
    split at h
    · cases ‹_ :: _ = []›
    · rename_i n r' he
      cases he
      split at h
      · rename_i ns' hns
        cases h
        simp [byteL_len r ns' hns]
      · cases h
    · cases h
theorem run_conv_bytes {C : Ctx} {w : World} {sr ds : TypeId} (ht : bytesT C sr ds = true) {A : Option Addr} {len cap : Nat} {ns : List Int} (hl : ns.length = len) (hA : len = 0 ∨ ∃ b o, A = some ⟨b, o, none⟩ ∧ ∀ j v, (ns.map (Value.int .u8))[j]? = some v → w.cell? ⟨b, o + j, none⟩ = some v) :
    (convert sr ds (.slice A len cap)).run C.P w = .ok (.string (bstr ns)) w := by
  unfold bytesT at ht
  split at ht
  · rename_i e _ _ _ _ h1 h2
    split at ht
    · rename_i h3
      rw [run_convert_bytes_string w sr ds e A len cap (ti_spec h1).1 (ti_spec h3).1 (ti_spec h2).1]
      rcases hA with rfl | ⟨b, o, rfl, hc⟩
      · obtain rfl : ns = [] := List.eq_nil_of_length_eq_zero hl
        cases A with
        | none => simp [Conv.bytesToString, bstr]
        | some x => exact run_bytesToString w x 0 cap [] (by simp [loadCells, loadCellsFrom])
      · refine run_bytesToString w _ len cap ns ?_
        have := run_loadCells_list (P := C.P) w ⟨b, o, none⟩ (ns.map (Value.int .u8)) (fun j v hj => by rw [addr_add]; exact hc j v hj)
        simpa [hl] using this
    · cases ht
  · cases ht
theorem evConv_sound {C : Ctx} {N : Nat} {κ : Kn} {st : St} {a : Act} {w : World} (s : Sim C N κ st a w) {sr ds : TypeId} {p r : PV} {u : Value} (h : evConv C st.σ sr ds p = some r) (hp : Rel κ w p u) :
    ∃ z, (convert sr ds u).run C.P w = .ok z w ∧ Rel κ w r z := by
  unfold evConv at h
  split at h
  · rename_i id ver off len cl
    split at h
    · rename_i ver' sz es f hσ
      split at h
      · rename_i hg
        obtain ⟨rfl, hlen, ht⟩ := hg
        split at h
        · rename_i ns hns
          cases h
          simp only [Rel] at hp
          obtain ⟨A, cap, rfl, _, _, L, h3, h4⟩ := hp
          obtain ⟨_, L', k1, k2, k3, k4⟩ := s.blk id _ hσ
          rw [h3] at k1; cases k1
          have hnl : ns.length = len := by rw [byteL_len _ _ hns]; simp; omega
          refine ⟨_, run_conv_bytes ht hnl ?_, by simp [Rel, ground]⟩
          rcases h4 with ⟨q1, rfl, q2, q3⟩ | ⟨q1, q2⟩
          · rcases k4 with ⟨_, _, _, k5⟩ | ⟨k5, _⟩
            case inr => rw [q1] at k5; cases k5
            refine .inr ⟨_, _, rfl, ?_⟩
            have hr := relRows_take len _ _ (relRows_drop off _ _ k5)
            rw [← k2] at hr
            exact byteL_cells _ _ _ hns hr
          · left; omega
        · cases h
      · cases h
    · cases h
  · rename_i es cl
    split at h
    · rename_i ht
      split at h
      · rename_i ns hns
        cases h
        simp only [Rel] at hp
        obtain ⟨A, len, cap, rfl, h1, _, _, h4⟩ := hp
        have hnl : ns.length = len := by rw [byteL_len _ _ hns, h1]
        refine ⟨_, run_conv_bytes ht hnl ?_, by simp [Rel, ground]⟩
        rcases h4 with rfl | ⟨b, o, sz, rfl, _, hr⟩
        · left; exact h1
        · exact .inr ⟨_, _, rfl, byteL_cells _ _ _ hns hr⟩
      · cases h
    · cases h
  · split at h
    · rename_i v h2
      rw [Option.bind_eq_some_iff] at h
      obtain ⟨z, h3, h4⟩ := h
      have := conc_sound hp h2
      exact ⟨z, by rw [this]; exact purely_run h3 w, rel_ofV h4⟩
    · cases h
theorem run_value {P : Program} {w w' : World} {s : Sem Value} {z : Value} (h : s.run P w = .ok z w') : (do pure (.value (← s)) : Sem Next).run P w = .ok (.value z) w' := by
  simp [h]
theorem evq_sound {C : Ctx} {N : Nat} {κ : Kn} {st : St} {a : Act} {w : World} (s : Sim C N κ st a w) {o : Oper} {r : PV} (h : evq C st.σ st.env o.op = some r) :
    ∃ z, (execOp a.eval o).run C.P w = .ok (.value z) w ∧ Rel κ w r z := by
  obtain ⟨dst, op, ty, pos, after, guard⟩ := o
  simp only at h
  unfold evq at h
  split at h
  · exact ⟨_, rfl, rd_sound s h⟩
  · exact ⟨_, rfl, rd_sound s h⟩
  · rename_i c x y
    split at h
    · rename_i t hc
      have := rd_sound s hc
      simp only [Rel] at this
      cases t
      · exact ⟨a.eval y, by simp [execOp, this.1, asBool], rd_sound s (by simpa using h)⟩
      · exact ⟨a.eval x, by simp [execOp, this.1, asBool], rd_sound s (by simpa using h)⟩
    · cases h
  · rename_i bop t x y _
    split at h
    · rename_i p q h1 h2
      obtain ⟨z, g1, g2⟩ := evBin_sound h (rd_sound s h1) (rd_sound s h2)
      exact ⟨z, run_value g1, g2⟩
    · cases h
  · rename_i uop t x
    split at h
    · rename_i p h1
      rw [Option.bind_eq_some_iff] at h
      obtain ⟨u, h2, h3⟩ := h
      rw [Option.bind_eq_some_iff] at h3
      obtain ⟨z, h3, h4⟩ := h3
      have := conc_sound (rd_sound s h1) h2
      exact ⟨z, run_value (by rw [this]; exact purely_run h3 w), rel_ofV h4⟩
    · cases h
  · rename_i sr ds x
    split at h
    · rename_i p h1
      obtain ⟨z, g1, g2⟩ := evConv_sound s h (rd_sound s h1)
      exact ⟨z, run_value g1, g2⟩
    · cases h
  · rename_i t x
    split at h
    · rename_i i p hi h1
      have hr := rd_sound s h1
      obtain ⟨d, sz, by_⟩ := i
      have hu := run_underlying (w := w) hi
      cases d
      case interface => cases h
      all_goals
        cases h
        exact ⟨.iface t (a.eval x), run_value (by simp only [Instr.makeInterface, Sem.run_bind, hu, Result.andThen_ok]; rfl), by simp only [Rel]; exact ⟨_, rfl, hr⟩⟩
    · cases h
  · rename_i fn first cap
    split at h
    · rename_i ps qs h1 h2
      cases h
      refine ⟨.func fn (first.map a.eval) (cap.map a.eval), run_value (by simp [Instr.makeFunc]), ?_⟩
      simp only [Rel]
      exact ⟨_, _, rfl, by simpa using rds_sound s _ _ h1, by simpa using rds_sound s _ _ h2⟩
    · cases h
  · rename_i t x f
    split at h
    · rename_i p h1
      unfold evFld at h
      split at h
      · rename_i fs sz by_ cs hi
        split at h
        · rename_i fd hf
          have hr := rd_sound s h1
          simp only [Rel] at hr
          obtain ⟨vs, e, h2, h3⟩ := hr
          obtain ⟨z, g1, g2⟩ := partP_sound h h3 h2
          refine ⟨z, run_value ?_, g2⟩
          simp only [Instr.field, Sem.run_bind, run_underlying hi, Result.andThen_ok, hf, e, asAgg, Sem.run_pure, g1]
        · cases h
      · cases h
    · cases h
  · rename_i t x f
    split at h
    · rename_i p h1
      obtain ⟨z, g1, g2⟩ := evFldA_sound h (rd_sound s h1)
      exact ⟨z, run_value g1, g2⟩
    · cases h
  · rename_i t x ix
    split at h
    · rename_i p q h1 h2
      obtain ⟨z, g1, g2⟩ := evIdxA_sound s h (rd_sound s h1) (rd_sound s h2)
      exact ⟨z, run_value g1, g2⟩
    · cases h
  · rename_i t x ix
    split at h
    · rename_i p q h1 h2
      obtain ⟨z, g1, g2⟩ := evIdx_sound h (rd_sound s h1) (rd_sound s h2)
      exact ⟨z, run_value g1, g2⟩
    · cases h
  · rename_i t x
    split at h
    · rename_i p h1
      obtain ⟨z, g1, g2⟩ := evLoad_sound s h (rd_sound s h1)
      exact ⟨z, run_value g1, g2⟩
    · cases h
  · rename_i x i
    split at h
    · rename_i ps h1
      have hr := rd_sound s h1
      simp only [Rel] at hr
      obtain ⟨vs, e, h2⟩ := hr
      obtain ⟨v, g1, g2⟩ := relList_get _ _ _ _ h2 h
      refine ⟨v, run_value ?_, g2⟩
      rw [Array.getElem?_toList] at g1
      simp only [Instr.extract, e, g1, Sem.run_pure]
    · cases h
  · rename_i t x lo hi mx
    split at h
    · rename_i p h1
      obtain ⟨z, g1, g2⟩ := evSlice_sound s h (rd_sound s h1)
      exact ⟨z, run_value g1, g2⟩
    · cases h
  · rename_i x
    split at h
    · rename_i id ver i off h1
      cases h
      have hr := rd_sound s h1
      refine ⟨a.eval x, ?_, hr⟩
      simp only [Rel] at hr
      obtain ⟨L, _, _, e⟩ := hr
      simp only [execOp, e]; rfl
    · rename_i cs h1
      cases h
      have hr := rd_sound s h1
      refine ⟨a.eval x, ?_, hr⟩
      simp only [Rel] at hr
      obtain ⟨b, o, e, _⟩ := hr
      simp only [execOp, e]; rfl
    · rename_i t p h1
      cases h
      have hr := rd_sound s h1
      refine ⟨a.eval x, ?_, hr⟩
      simp only [Rel] at hr
      obtain ⟨u, e, _⟩ := hr
      simp only [execOp, e]; rfl
    · rename_i f q1 q2 h1
      cases h
      have hr := rd_sound s h1
      refine ⟨a.eval x, ?_, hr⟩
      simp only [Rel] at hr
      obtain ⟨u1, u2, e, _⟩ := hr
      simp only [execOp, e]; rfl
    · cases h
  · rename_i t x ix ok
    split at h
    · rename_i p q h1 h2
      obtain ⟨z, g1, g2⟩ := evLookup_sound s h (rd_sound s h1) (rd_sound s h2)
      exact ⟨z, run_value g1, g2⟩
    · cases h
  · rename_i t parts
    split at h
    · rename_i ps h1
      obtain ⟨g1, g2⟩ := rdParts_sound s _ _ h1
      obtain ⟨z, k1, k2⟩ := evBuild_sound (vps := parts.map fun (i, x) => (i, a.eval x)) h (by simpa using g1) (by simpa using g2)
      exact ⟨z, run_value k1, k2⟩
    · cases h
  · rename_i b args argTypes
    split at h
    · rename_i ps h1
      have hrs := rds_sound s _ _ h1
      have hex : ∀ (s1 : Sem Value) (z : Value), s1.run C.P w = .ok z w → (∀ cs, builtin b argTypes ty cs (args.map a.eval) = (do pure (.value (← s1)))) →
          (execOp a.eval ({ dst := dst, op := Op.call { callee := .builtin b, args := args, argTypes := argTypes }, type := ty, pos := pos, after := after, guard := guard } : Oper)).run C.P w = .ok (.value z) w := by
        intro s1 z hz hb
        simp only [execOp, resolve, Sem.run_bind, Sem.run_pure, Result.andThen_ok, invoke, hb, hz]
      unfold evBuiltin at h
      split at h
      · split at h
        · rename_i t p ht hp
          obtain ⟨v, k1, k2⟩ := relList_get _ _ _ _ hrs hp
          obtain ⟨z, g1, g2⟩ := evLen_sound (ty := ty) (args := args.map a.eval) s h k2 ht (by simpa using k1)
          exact ⟨z, hex _ z g1 (fun _ => rfl), g2⟩
        · cases h
      · rw [Option.bind_eq_some_iff] at h
        obtain ⟨vs, h2, h3⟩ := h
        rw [Option.bind_eq_some_iff] at h3
        obtain ⟨z, h3, h4⟩ := h3
        have e := concs_sound _ _ _ hrs h2
        have e' : args.map a.eval = vs.toArray := Array.ext' (by simp [e])
        exact ⟨z, hex (Builtin.min_ #[] 0 vs.toArray) z (purely_run h3 w) (fun _ => by rw [e']; rfl), rel_ofV h4⟩
      · rw [Option.bind_eq_some_iff] at h
        obtain ⟨vs, h2, h3⟩ := h
        rw [Option.bind_eq_some_iff] at h3
        obtain ⟨z, h3, h4⟩ := h3
        have e := concs_sound _ _ _ hrs h2
        have e' : args.map a.eval = vs.toArray := Array.ext' (by simp [e])
        exact ⟨z, hex (Builtin.max_ #[] 0 vs.toArray) z (purely_run h3 w) (fun _ => by rw [e']; rfl), rel_ofV h4⟩
      · cases h
    · cases h
  · cases h
end Go.Ab
