/- Abstract values: data as trees, own memory in a small store; what they stand for in a world of the model. -/
import Derived.Calls
import Derived.Orders
import Derived.RowKit
import Derived.OrdersIn
set_option linter.unusedSimpArgs false
set_option linter.unusedVariables false
namespace Go.Ab
open Go
inductive PV where
  | lit (v : Value)
  | imm (es : List (List PV)) (clip : Bool)
  | own (id ver off len : Nat) (clip : Bool)
  | cptr (cs : List PV)
  | ptr (id ver i off : Nat)
  | clo (fn : Fn) (first cap : List PV)
  | ifc (t : TypeId) (v : PV)
  | agg (cs : List PV)
  | tup (vs : List PV)
  | mp (id : Nat)
  | new (sz : Nat) (es : List (List PV))
  deriving Inhabited
def ground : Value → Bool
  | .bool _ | .int _ _ | .float _ _ | .complex _ _ _ | .string _ => true
  | .pointer none | .slice none 0 0 | .map none | .chan none | .nilFunc | .nilIface => true
  | _ => false
def one1 : Value → Bool
  | .agg _ | .tuple _ => false
  | _ => true
theorem ground_one {v : Value} (h : ground v = true) : one1 v = true := by
  cases v <;> simp_all [ground, one1]
def PV.one : PV → Bool
  | .agg _ | .tup _ => false
  | _ => true
structure Loc where
  real : Bool
  blk : Nat
  base : Nat
  sz : Nat
  len : Nat
  n : Nat
structure Kn where
  loc : Nat → Nat → Option Loc
  mloc : Nat → Option Nat
  fz : Nat → Prop
structure Kn.le (κ κ' : Kn) : Prop where
  loc : ∀ i v L, κ.loc i v = some L → κ'.loc i v = some L
  mloc : ∀ i r, κ.mloc i = some r → κ'.mloc i = some r
  fz : ∀ b, κ.fz b → κ'.fz b
theorem Kn.le.refl (κ : Kn) : κ.le κ := ⟨fun _ _ _ h => h, fun _ _ h => h, fun _ h => h⟩
theorem Kn.le.trans {a b c : Kn} (h : a.le b) (k : b.le c) : a.le c :=
  ⟨fun i v L x => k.loc i v L (h.loc i v L x), fun i r x => k.mloc i r (h.mloc i r x), fun b x => k.fz b (h.fz b x)⟩
def Kn.bare (κ : Kn) : Kn := ⟨fun _ _ => none, fun _ => none, κ.fz⟩
theorem Kn.bare_le (κ : Kn) : κ.bare.le κ := ⟨fun _ _ _ h => (by cases h), fun _ _ h => (by cases h), fun _ h => h⟩
theorem Kn.le.bare {κ κ' : Kn} (h : κ.le κ') : κ.bare.le κ'.bare := ⟨fun _ _ _ h => (by cases h), fun _ _ h => (by cases h), h.fz⟩
mutual
def Rel (κ : Kn) (w : World) : PV → Value → Prop
  | .lit u, v => v = u ∧ ground u = true
  | .imm es clip, v => ∃ A len cap, v = .slice A len cap ∧ len = es.length ∧ len ≤ cap ∧ (clip = true → cap = len) ∧
      (es = [] ∨ ∃ b o s, A = some ⟨b, o, none⟩ ∧ κ.fz b ∧ RelRows κ.bare w b o s es)
  | .own id ver off len clip, v => ∃ A cap, v = .slice A len cap ∧ len ≤ cap ∧ (clip = true → cap = len) ∧
      ∃ L, κ.loc id ver = some L ∧
      ((L.real = true ∧ A = some ⟨L.blk, L.base + off * L.sz, none⟩ ∧ L.base + (off + cap) * L.sz ≤ L.n ∧ (clip = false → L.len ≤ off + cap)) ∨
       (cap = 0 ∧ (clip = false → L.len ≤ off)))
  | .cptr cs, v => ∃ b o, v = .pointer (some ⟨b, o, none⟩) ∧ κ.fz b ∧ RelCells κ.bare w b o cs
  | .ptr id ver i off, v => ∃ L, κ.loc id ver = some L ∧ L.real = true ∧ v = .pointer (some ⟨L.blk, L.base + i * L.sz + off, none⟩)
  | .clo fn first cap, v => ∃ fs cs, v = .func fn fs cs ∧ RelList κ w first fs.toList ∧ RelList κ w cap cs.toList
  | .ifc t p, v => ∃ u, v = .iface t u ∧ Rel κ w p u
  | .agg cs, v => ∃ vs, v = .agg vs ∧ cs.all PV.one = true ∧ RelList κ w cs vs.toList
  | .tup ps, v => ∃ vs, v = .tuple vs ∧ RelList κ w ps vs.toList
  | .mp id, v => ∃ r, κ.mloc id = some r ∧ v = .map (some r)
  | .new _ _, _ => False
def RelList (κ : Kn) (w : World) : List PV → List Value → Prop
  | [], vs => vs = []
  | c :: cs, vs => ∃ v vs', vs = v :: vs' ∧ Rel κ w c v ∧ RelList κ w cs vs'
def RelCells (κ : Kn) (w : World) : Nat → Nat → List PV → Prop
  | _, _, [] => True
  | b, o, c :: cs => (∃ v, w.cell? ⟨b, o, none⟩ = some v ∧ c.one = true ∧ Rel κ w c v) ∧ RelCells κ w b (o + 1) cs
def RelRows (κ : Kn) (w : World) : Nat → Nat → Nat → List (List PV) → Prop
  | _, _, _, [] => True
  | b, o, s, e :: es => e.length = s ∧ RelCells κ w b o e ∧ RelRows κ w b (o + s) s es
end
theorem cell_congr {w w' : World} {b o : Nat} (h : w'.heap[b]? = w.heap[b]?) : w'.cell? ⟨b, o, none⟩ = w.cell? ⟨b, o, none⟩ := by
  simp [World.cell?, h]
section mono
mutual
theorem Rel.mono {w w' : World} {κ κ' : Kn} (hle : κ.le κ') (hw : ∀ b, κ.fz b → w'.heap[b]? = w.heap[b]?) : ∀ (p : PV) (v : Value), Rel κ w p v → Rel κ' w' p v
  | .lit u, v, h => by simpa only [Rel] using h
  | .imm es clip, v, h => by
    simp only [Rel] at h ⊢
    obtain ⟨A, len, cap, e, h1, h2, h3, h4⟩ := h
    refine ⟨A, len, cap, e, h1, h2, h3, h4.imp id ?_⟩
    rintro ⟨b, o, s, ha, hb, hr⟩
    exact ⟨b, o, s, ha, hle.fz b hb, RelRows.mono hle.bare hw b o s es (hw b hb) hr⟩
  | .own id ver off len clip, v, h => by
    simp only [Rel] at h ⊢
    obtain ⟨A, cap, e, h1, h2, L, h3, h4⟩ := h
    exact ⟨A, cap, e, h1, h2, L, hle.loc _ _ _ h3, h4⟩
  | .cptr cs, v, h => by
    simp only [Rel] at h ⊢
    obtain ⟨b, o, e, hb, hc⟩ := h
    exact ⟨b, o, e, hle.fz b hb, RelCells.mono hle.bare hw b o cs (hw b hb) hc⟩
  | .ptr id ver i off, v, h => by
    simp only [Rel] at h ⊢
    obtain ⟨L, h1, h2⟩ := h
    exact ⟨L, hle.loc _ _ _ h1, h2⟩
  | .clo fn first cap, v, h => by
    simp only [Rel] at h ⊢
    obtain ⟨fs, cs, e, h1, h2⟩ := h
    exact ⟨fs, cs, e, RelList.mono hle hw _ _ h1, RelList.mono hle hw _ _ h2⟩
  | .ifc t p, v, h => by
    simp only [Rel] at h ⊢
    obtain ⟨u, e, h1⟩ := h
    exact ⟨u, e, Rel.mono hle hw p u h1⟩
  | .agg cs, v, h => by
    simp only [Rel] at h ⊢
    obtain ⟨vs, e, h0, h1⟩ := h
    exact ⟨vs, e, h0, RelList.mono hle hw _ _ h1⟩
  | .tup cs, v, h => by
    simp only [Rel] at h ⊢
    obtain ⟨vs, e, h1⟩ := h
    exact ⟨vs, e, RelList.mono hle hw _ _ h1⟩
  | .mp id, v, h => by
    simp only [Rel] at h ⊢
    obtain ⟨r, h1, h2⟩ := h
    exact ⟨r, hle.mloc _ _ h1, h2⟩
  | .new _ es, v, h => by simp only [Rel] at h
theorem RelList.mono {w w' : World} {κ κ' : Kn} (hle : κ.le κ') (hw : ∀ b, κ.fz b → w'.heap[b]? = w.heap[b]?) : ∀ (ps : List PV) (vs : List Value), RelList κ w ps vs → RelList κ' w' ps vs
  | [], vs, h => by simpa only [RelList] using h
  | c :: cs, vs, h => by
    simp only [RelList] at h ⊢
    obtain ⟨v, vs', e, h1, h2⟩ := h
    exact ⟨v, vs', e, Rel.mono hle hw c v h1, RelList.mono hle hw cs vs' h2⟩
theorem RelCells.mono {w w' : World} {κ κ' : Kn} (hle : κ.le κ') (hw : ∀ b, κ.fz b → w'.heap[b]? = w.heap[b]?) : ∀ (b o : Nat) (cs : List PV), w'.heap[b]? = w.heap[b]? → RelCells κ w b o cs → RelCells κ' w' b o cs
  | _, _, [], _, _ => by simp only [RelCells]
  | b, o, c :: cs, hb, h => by
    simp only [RelCells] at h ⊢
    obtain ⟨⟨v, h1, h2, h3⟩, h4⟩ := h
    exact ⟨⟨v, by rw [cell_congr hb]; exact h1, h2, Rel.mono hle hw c v h3⟩, RelCells.mono hle hw b (o + 1) cs hb h4⟩
theorem RelRows.mono {w w' : World} {κ κ' : Kn} (hle : κ.le κ') (hw : ∀ b, κ.fz b → w'.heap[b]? = w.heap[b]?) : ∀ (b o s : Nat) (es : List (List PV)), w'.heap[b]? = w.heap[b]? → RelRows κ w b o s es → RelRows κ' w' b o s es
  | _, _, _, [], _, _ => by simp only [RelRows]
  | b, o, s, e :: es, hb, h => by
    simp only [RelRows] at h ⊢
    obtain ⟨h1, h2, h3⟩ := h
    exact ⟨h1, RelCells.mono hle hw b o e hb h2, RelRows.mono hle hw b (o + s) s es hb h3⟩
end
end mono
inductive Blk where
  | row (ver sz : Nat) (es : List (List PV)) (fz : Bool)
  | map (kvs : List (Value × PV × Nat)) (clock : Nat) (fz : Bool)
  | it (s : ByteArray) (pos : Nat)
  | bld (r T E : Nat) (s : ByteArray)
def Blk.fz : Blk → Bool
  | .row _ _ _ f => f
  | .map _ _ f => f
  | .it _ _ => false
  | .bld _ _ _ _ => false
abbrev Store := Nat → Option Blk
abbrev Env := Nat → Option PV
structure St where
  env : Env
  σ : Store
  nx : Nat
structure Ctx where
  P : Program
  G : Nat → Option (List PV)
  mixed : P.follows .mixedOrders = true
  B : TypeId → Option TypeId
  hB : ∀ t E, B t = some E → ∀ w, (zeroValue t).run P w = .ok (.agg #[.pointer none, .slice none 0 0]) w
def okFr (fr : Nat × Nat) (n : Nat) : Prop := ∀ o, o < n → ¬ (fr.1 ≤ o ∧ o < fr.2)
def BlkAt (κ : Kn) (i : Nat) : Blk → Nat → Prop
  | .row ver _ _ _, b => ∃ L, κ.loc i ver = some L ∧ L.real = true ∧ L.blk = b
  | .map _ _ _, b => κ.mloc i = some b
  | .it _ _, b => ∃ L, κ.loc i 0 = some L ∧ L.real = true ∧ L.blk = b
  | .bld r _ _ _, b => ∃ j L, (j = i ∨ j = r) ∧ κ.loc j 0 = some L ∧ L.real = true ∧ L.blk = b
def RelEnts (κ : Kn) (w : World) : List (Value × PV × Nat) → List MapEntry → Prop
  | [], es => es = []
  | (k, p, n) :: r, es => ∃ e es', es = e :: es' ∧ e.key = k ∧ e.born = n ∧ Rel κ w p e.val ∧ RelEnts κ w r es'
def SimBlk (κ : Kn) (w : World) (i : Nat) : Blk → Prop
  | .row ver sz es _ => ∃ L, κ.loc i ver = some L ∧ L.sz = sz ∧ L.len = es.length ∧
      ((L.real = true ∧ (∃ c elem fr, w.heap[L.blk]? = some (.cells c elem fr) ∧ c.size = L.n ∧ okFr fr L.n) ∧ L.base + es.length * sz ≤ L.n ∧ RelRows κ w L.blk L.base sz es) ∨
       (L.real = false ∧ es = []))
  | .map kvs clock _ => ∃ r ents, κ.mloc i = some r ∧ w.heap[r]? = some (.map ents clock) ∧ RelEnts κ w kvs ents.toList
  | .it s pos => ∃ L, κ.loc i 0 = some L ∧ L.real = true ∧ L.base = 0 ∧ w.heap[L.blk]? = some (.stringIter s pos)
  | .bld r T E s => ∃ L p v, κ.loc i 0 = some L ∧ L.real = true ∧ L.base = 0 ∧ w.heap[L.blk]? = some (.cells #[p, v] T (0, 0)) ∧ (p = .pointer none ∨ p = .pointer (some ⟨L.blk, 0, none⟩)) ∧
      ((r = i ∧ v = .slice none 0 0 ∧ s.size = 0) ∨
       ∃ M cap cur, κ.loc r 0 = some M ∧ M.real = true ∧ M.blk ≠ L.blk ∧ v = .slice (some ⟨M.blk, 0, none⟩) s.size cap ∧ w.heap[M.blk]? = some (.cells cur E (0, 0)) ∧ s.size ≤ cap ∧ s.size ≤ 140737488355328 ∧ cur.size = cap * 1 ∧
         cur.toList.take (s.size * 1) = s.data.toList.map fun b => Value.int .u8 b.toNat)
def Owned (κ : Kn) (σ : Store) (b : Nat) : Prop := ∃ i B, σ i = some B ∧ B.fz = false ∧ BlkAt κ i B b
structure Sim (C : Ctx) (N : Nat) (κ : Kn) (st : St) (a : Act) (w : World) : Prop where
  defers : True
  size : a.tmps.size = N
  env : ∀ t v, st.env t = some v → t < N ∧ Rel κ w v (a.tmps.getD t undef)
  blk : ∀ i B, st.σ i = some B → i < st.nx ∧ SimBlk κ w i B
  dist : ∀ i j B B' b, st.σ i = some B → st.σ j = some B' → BlkAt κ i B b → BlkAt κ j B' b → i = j
  nfz : ∀ b, Owned κ st.σ b → ¬ κ.fz b
  yfz : ∀ i B b, st.σ i = some B → B.fz = true → BlkAt κ i B b → κ.fz b
  fzlt : ∀ b, κ.fz b → b < w.heap.size
  fresh : ∀ i v, st.nx ≤ i → κ.loc i v = none ∧ κ.mloc i = none
  later : ∀ i ver sz es fz v, st.σ i = some (.row ver sz es fz) → ver < v → κ.loc i v = none
  glob : ∀ g cs, C.G g = some cs → κ.fz g ∧ RelCells κ.bare w g 0 cs
structure Outs (w w' : World) : Prop where
  eq : w'.output = w.output
  drawn : w.drawn ≤ w'.drawn
theorem Outs.refl (w : World) : Outs w w := ⟨rfl, Nat.le_refl _⟩
theorem Outs.trans {w w1 w2 : World} (k : Outs w1 w2) (h : Outs w w1) : Outs w w2 := ⟨k.eq.trans h.eq, Nat.le_trans h.drawn k.drawn⟩
structure Evo (κ : Kn) (σ : Store) (w : World) (κ' : Kn) (σ' : Store) (w' : World) : Prop where
  le : κ.le κ'
  os : w'.os = w.os
  tape : w'.tape = w.tape
  output : Outs w w'
  size : w.heap.size ≤ w'.heap.size
  keep : ∀ b, b < w.heap.size → ¬ Owned κ σ b → w'.heap[b]? = w.heap[b]? ∧ ¬ Owned κ' σ' b
  fznew : ∀ b, κ'.fz b → κ.fz b ∨ w.heap.size ≤ b ∨ ∃ i B, σ i = some B ∧ BlkAt κ i B b
  blknew : ∀ i B b, σ' i = some B → BlkAt κ' i B b → w.heap.size ≤ b ∨ ∃ i B, σ i = some B ∧ BlkAt κ i B b
theorem Evo.refl (κ : Kn) (σ : Store) (w : World) : Evo κ σ w κ σ w := ⟨.refl κ, rfl, rfl, .refl _, Nat.le_refl _, fun _ _ h => ⟨rfl, h⟩, fun _ h => .inl h, fun i B _ h1 h2 => .inr ⟨i, B, h1, h2⟩⟩
theorem Evo.trans {κ κ1 κ2 : Kn} {σ σ1 σ2 : Store} {w w1 w2 : World} (h : Evo κ σ w κ1 σ1 w1) (k : Evo κ1 σ1 w1 κ2 σ2 w2) : Evo κ σ w κ2 σ2 w2 :=
  ⟨h.le.trans k.le, k.os.trans h.os, k.tape.trans h.tape, k.output.trans h.output, Nat.le_trans h.size k.size, fun b hb hn => by
    obtain ⟨h1, h2⟩ := h.keep b hb hn
    obtain ⟨h3, h4⟩ := k.keep b (Nat.lt_of_lt_of_le hb h.size) h2
    exact ⟨h3.trans h1, h4⟩, fun b hb => by
    rcases k.fznew b hb with h1 | h1 | ⟨i, B, h1, h2⟩
    · exact h.fznew b h1
    · exact .inr (.inl (Nat.le_trans h.size h1))
    · exact .inr (h.blknew i B b h1 h2), fun i B b h1 h2 => by
    rcases k.blknew i B b h1 h2 with h3 | ⟨j, B', h3, h4⟩
    · exact .inl (Nat.le_trans h.size h3)
    · exact h.blknew j B' b h3 h4⟩
theorem Evo.fzkeep {C : Ctx} {N : Nat} {κ κ' : Kn} {st : St} {σ' : Store} {a : Act} {w w' : World} (h : Evo κ st.σ w κ' σ' w') (s : Sim C N κ st a w) :
    ∀ b, κ.fz b → w'.heap[b]? = w.heap[b]? := fun b hb => (h.keep b (s.fzlt b hb) (fun ho => s.nfz b ho hb)).1
theorem Evo.rel {C : Ctx} {N : Nat} {κ κ' : Kn} {st : St} {σ' : Store} {a : Act} {w w' : World} (h : Evo κ st.σ w κ' σ' w') (s : Sim C N κ st a w)
    {p : PV} {v : Value} (r : Rel κ w p v) : Rel κ' w' p v := Rel.mono h.le (h.fzkeep s) p v r
theorem Evo.relList {C : Ctx} {N : Nat} {κ κ' : Kn} {st : St} {σ' : Store} {a : Act} {w w' : World} (h : Evo κ st.σ w κ' σ' w') (s : Sim C N κ st a w)
    {p : List PV} {v : List Value} (r : RelList κ w p v) : RelList κ' w' p v := RelList.mono h.le (h.fzkeep s) p v r
theorem RelEnts.mono {κ κ' : Kn} {w w' : World} (hle : κ.le κ') (hw : ∀ b, κ.fz b → w'.heap[b]? = w.heap[b]?) :
    ∀ (kvs : List (Value × PV × Nat)) (es : List MapEntry), RelEnts κ w kvs es → RelEnts κ' w' kvs es
  | [], es, h => h
  | (k, p, n) :: r, es, h => by
    obtain ⟨e, es', h1, h2, h3, h4, h5⟩ := h
    exact ⟨e, es', h1, h2, h3, Rel.mono hle hw _ _ h4, RelEnts.mono hle hw r es' h5⟩
theorem SimBlk.mono {κ κ' : Kn} {w w' : World} {i : Nat} {B : Blk} (hle : κ.le κ') (hw : ∀ b, κ.fz b → w'.heap[b]? = w.heap[b]?)
    (hb : ∀ b, BlkAt κ i B b → w'.heap[b]? = w.heap[b]?) (h : SimBlk κ w i B) : SimBlk κ' w' i B := by
  cases B with
  | row ver sz es fz =>
    obtain ⟨L, h1, h2, h3, h4⟩ := h
    refine ⟨L, hle.loc _ _ _ h1, h2, h3, h4.imp ?_ id⟩
    rintro ⟨hr, ⟨c, elem, fr, g1, g2, g3⟩, g4, g5⟩
    have he := hb L.blk ⟨L, h1, hr, rfl⟩
    exact ⟨hr, ⟨c, elem, fr, by rw [he]; exact g1, g2, g3⟩, g4, RelRows.mono hle hw _ _ _ _ he g5⟩
  | map kvs clock fz =>
    obtain ⟨r, ents, h1, h2, h3⟩ := h
    exact ⟨r, ents, hle.mloc _ _ h1, by rw [hb r h1]; exact h2, RelEnts.mono hle hw _ _ h3⟩
  | it s pos =>
    obtain ⟨L, h1, h2, h3, h4⟩ := h
    exact ⟨L, hle.loc _ _ _ h1, h2, h3, by rw [hb L.blk ⟨L, h1, h2, rfl⟩]; exact h4⟩
  | bld r T E s =>
    obtain ⟨L, p, v, h1, h2, h3, h4, h5, h6⟩ := h
    refine ⟨L, p, v, hle.loc _ _ _ h1, h2, h3, by rw [hb L.blk ⟨i, L, .inl rfl, h1, h2, rfl⟩]; exact h4, h5, h6.imp id ?_⟩
    rintro ⟨M, cap, cur, g1, g2, g3, g4, g5, g6⟩
    exact ⟨M, cap, cur, hle.loc _ _ _ g1, g2, g3, g4, by rw [hb M.blk ⟨r, M, .inr rfl, g1, g2, rfl⟩]; exact g5, g6⟩
theorem BlkAt.mono {κ κ' : Kn} (hle : κ.le κ') {i : Nat} {B : Blk} {b : Nat} (h : BlkAt κ i B b) : BlkAt κ' i B b := by
  cases B with
  | row => obtain ⟨L, h1, h2⟩ := h; exact ⟨L, hle.loc _ _ _ h1, h2⟩
  | map => exact hle.mloc _ _ h
  | it => obtain ⟨L, h1, h2⟩ := h; exact ⟨L, hle.loc _ _ _ h1, h2⟩
  | bld r T E s => obtain ⟨j, L, h0, h1, h2⟩ := h; exact ⟨j, L, h0, hle.loc _ _ _ h1, h2⟩
theorem BlkAt.back {C : Ctx} {N : Nat} {κ κ' : Kn} {st : St} {a : Act} {w : World} (s : Sim C N κ st a w) (hle : κ.le κ') {i : Nat} {B : Blk} {b : Nat} (hB : st.σ i = some B) (h : BlkAt κ' i B b) : BlkAt κ i B b := by
  cases B with
  | row ver sz es fz =>
    obtain ⟨L, h1, h2⟩ := h
    obtain ⟨_, L', g1, _⟩ := s.blk i _ hB
    have := hle.loc _ _ _ g1
    rw [h1] at this
    cases this
    exact ⟨L, g1, h2⟩
  | map =>
    obtain ⟨_, r, ents, g1, _⟩ := s.blk i _ hB
    have := hle.mloc _ _ g1
    rw [show κ'.mloc i = some b from h] at this
    cases this
    exact g1
  | it s' pos =>
    obtain ⟨L, h1, h2⟩ := h
    obtain ⟨_, L', g1, _⟩ := s.blk i _ hB
    have := hle.loc _ _ _ g1
    rw [h1] at this
    cases this
    exact ⟨L, g1, h2⟩
  | bld r T E s' =>
    obtain ⟨j, L, h0, h1, h2⟩ := h
    obtain ⟨_, L', p, v, g1, _, _, _, _, g2⟩ := s.blk i _ hB
    have hi : ∀ {L : Loc}, κ'.loc i 0 = some L → κ.loc i 0 = some L := fun {L} h => by
      have := hle.loc _ _ _ g1
      rw [h] at this
      cases this
      exact g1
    rcases h0 with rfl | rfl
    · exact ⟨j, L, .inl rfl, hi h1, h2⟩
    · rcases g2 with ⟨rfl, _⟩ | ⟨M, cap, cur, k1, _⟩
      · exact ⟨j, L, .inl rfl, hi h1, h2⟩
      · have := hle.loc _ _ _ k1
        rw [h1] at this
        cases this
        exact ⟨j, L, .inr rfl, k1, h2⟩
theorem BlkAt.lt {κ : Kn} {w : World} {i : Nat} {B : Blk} {b : Nat} (h : BlkAt κ i B b) (s : SimBlk κ w i B) : b < w.heap.size := by
  cases B with
  | row ver sz es fz =>
    obtain ⟨L, h1, h2, h3⟩ := h
    obtain ⟨L', g1, _, _, g4⟩ := s
    rw [h1] at g1; cases g1
    rcases g4 with ⟨_, ⟨c, elem, fr, g, _⟩, _⟩ | ⟨g, _⟩
    · rw [h3] at g; exact (Array.getElem?_eq_some_iff.1 g).1
    · rw [g] at h2; cases h2
  | map =>
    obtain ⟨r, ents, g1, g2, _⟩ := s
    rw [show κ.mloc i = some b from h] at g1; cases g1
    exact (Array.getElem?_eq_some_iff.1 g2).1
  | it =>
    obtain ⟨L, h1, h2, h3⟩ := h
    obtain ⟨L', g1, _, _, g4⟩ := s
    rw [h1] at g1; cases g1
    rw [h3] at g4
    exact (Array.getElem?_eq_some_iff.1 g4).1
  | bld r T E s' =>
    obtain ⟨j, L, h0, h1, h2, h3⟩ := h
    obtain ⟨L', p, v, g1, _, _, g4, _, g6⟩ := s
    subst h3
    have hi : κ.loc i 0 = some L → L.blk < w.heap.size := fun h => by
      rw [h] at g1; cases g1
      exact (Array.getElem?_eq_some_iff.1 g4).1
    rcases h0 with rfl | rfl
    · exact hi h1
    · rcases g6 with ⟨rfl, _⟩ | ⟨M, cap, cur, k1, _, _, _, k5, _⟩
      · exact hi h1
      · rw [h1] at k1; cases k1
        exact (Array.getElem?_eq_some_iff.1 k5).1
theorem Sim.grow {C : Ctx} {N : Nat} {κ κ' : Kn} {st : St} {a : Act} {w w' : World} (s : Sim C N κ st a w) (hle : κ.le κ')
    (hold : ∀ b, b < w.heap.size → w'.heap[b]? = w.heap[b]?) (hsz : w.heap.size ≤ w'.heap.size)
    (hfz : ∀ b, κ'.fz b → κ.fz b ∨ (w.heap.size ≤ b ∧ b < w'.heap.size))
    (hloc : ∀ i v, κ'.loc i v = κ.loc i v) (hmloc : ∀ i, κ'.mloc i = κ.mloc i) : Sim C N κ' st a w' := by
  have hfzw : ∀ b, κ.fz b → w'.heap[b]? = w.heap[b]? := fun b hb => hold b (s.fzlt b hb)
  refine ⟨s.defers, s.size, fun t v h => ⟨(s.env t v h).1, Rel.mono hle hfzw _ _ (s.env t v h).2⟩, fun i B h => ⟨(s.blk i B h).1, SimBlk.mono hle hfzw (fun b hb => hold b (hb.lt (s.blk i B h).2)) (s.blk i B h).2⟩,
    fun i j B B' b hi hj h1 h2 => s.dist i j B B' b hi hj (h1.back s hle hi) (h2.back s hle hj), ?_, fun i B b h1 h2 h3 => hle.fz _ (s.yfz i B b h1 h2 (h3.back s hle h1)), ?_, ?_, ?_, fun g cs h => ⟨hle.fz _ (s.glob g cs h).1, RelCells.mono hle.bare hfzw _ _ _ (hfzw g (s.glob g cs h).1) (s.glob g cs h).2⟩⟩
  · rintro b ⟨i, B, h1, h2, h3⟩ hb
    have h4 := h3.back s hle h1
    rcases hfz b hb with h | ⟨h, _⟩
    · exact s.nfz b ⟨i, B, h1, h2, h4⟩ h
    · have := h4.lt (s.blk i B h1).2; omega
  · intro b hb
    rcases hfz b hb with h | ⟨_, h⟩
    · exact Nat.lt_of_lt_of_le (s.fzlt b h) hsz
    · exact h
  · intro i v h; rw [hloc, hmloc]; exact s.fresh i v h
  · intro i ver sz es fz v h1 h2; rw [hloc]; exact s.later i ver sz es fz v h1 h2
theorem Evo.grow {κ κ' : Kn} {σ : Store} {w w' : World} (hle : κ.le κ')
    (hold : ∀ b, b < w.heap.size → w'.heap[b]? = w.heap[b]?) (hsz : w.heap.size ≤ w'.heap.size) (ho : w'.os = w.os) (ht : w'.tape = w.tape) (hout : Outs w w')
    (hfz : ∀ b, κ'.fz b → κ.fz b ∨ (w.heap.size ≤ b ∧ b < w'.heap.size))
    (hloc : ∀ i v, κ'.loc i v = κ.loc i v) (hmloc : ∀ i, κ'.mloc i = κ.mloc i) : Evo κ σ w κ' σ w' := by
  have hback : ∀ i B b, BlkAt κ' i B b → BlkAt κ i B b := fun i B b h3 => by
    cases B with
    | row => obtain ⟨L, h, h'⟩ := h3; exact ⟨L, by rw [← hloc]; exact h, h'⟩
    | map => exact (hmloc i).symm.trans h3
    | it => obtain ⟨L, h, h'⟩ := h3; exact ⟨L, by rw [← hloc]; exact h, h'⟩
    | bld => obtain ⟨j, L, h0, h, h'⟩ := h3; exact ⟨j, L, h0, by rw [← hloc]; exact h, h'⟩
  refine ⟨hle, ho, ht, hout, hsz, fun b hb hn => ⟨hold b hb, ?_⟩, fun b hb => ?_, fun i B b h1 h2 => .inr ⟨i, B, h1, hback i B b h2⟩⟩
  · rintro ⟨i, B, h1, h2, h3⟩
    exact hn ⟨i, B, h1, h2, hback i B b h3⟩
  · rcases hfz b hb with h | h
    · exact .inl h
    · exact .inr (.inl h.1)
def Env.put (e : Env) (d : Nat) (v : PV) : Env := fun t => if t = d then some v else e t
def St.put (s : St) (d : Option Nat) (v : PV) : St :=
  match d with
  | some d => { s with env := s.env.put d v }
  | none => s
theorem Sim.put {C : Ctx} {N : Nat} {κ : Kn} {st : St} {a : Act} {w : World} (s : Sim C N κ st a w) {d : Option Nat} (hd : ∀ t, d = some t → t < N) {p : PV} {v : Value} (r : Rel κ w p v) :
    Sim C N κ (st.put d p) (a.put d v) w := by
  cases d with
  | none => exact s
  | some d =>
    refine ⟨s.defers, ?_, ?_, s.blk, s.dist, s.nfz, s.yfz, s.fzlt, s.fresh, s.later, s.glob⟩
    · simpa [Act.put] using s.size
    · intro t q h
      simp only [St.put, Env.put] at h
      by_cases e : t = d
      · subst e
        simp only [if_pos] at h
        cases h
        refine ⟨hd _ rfl, ?_⟩
        have : t < a.tmps.size := by rw [s.size]; exact hd _ rfl
        simp only [Act.put, Array.getD_eq_getD_getElem?, Array.getElem?_setIfInBounds_self_of_lt this, Option.getD_some]
        exact r
      · rw [if_neg e] at h
        obtain ⟨h1, h2⟩ := s.env t q h
        refine ⟨h1, ?_⟩
        simp only [Act.put, Array.getD_eq_getD_getElem?, Array.getElem?_setIfInBounds_ne (Ne.symm e)]
        simpa only [Array.getD_eq_getD_getElem?] using h2
structure Weak (st st' : St) : Prop where
  env : ∀ t v, st'.env t = some v → st.env t = some v
  σ : ∀ i b, st'.σ i = some b → st.σ i = some b
  nx : st.nx ≤ st'.nx
theorem Weak.refl (st : St) : Weak st st := ⟨fun _ _ h => h, fun _ _ h => h, Nat.le_refl _⟩
theorem Sim.weak {C : Ctx} {N : Nat} {κ : Kn} {st st' : St} {a : Act} {w : World} (s : Sim C N κ st a w) (h : Weak st st') : Sim C N κ st' a w :=
  ⟨s.defers, s.size, fun t v k => s.env t v (h.env t v k), fun i B k => ⟨Nat.lt_of_lt_of_le (s.blk i B (h.σ i B k)).1 h.nx, (s.blk i B (h.σ i B k)).2⟩,
    fun i j B B' b hi hj => s.dist i j B B' b (h.σ i B hi) (h.σ j B' hj), fun b ⟨i, B, h1, h2⟩ => s.nfz b ⟨i, B, h.σ _ _ h1, h2⟩, fun i B b h1 => s.yfz i B b (h.σ _ _ h1), s.fzlt,
    fun i v hi => s.fresh i v (Nat.le_trans h.nx hi), fun i ver sz es fz v h1 => s.later i ver sz es fz v (h.σ _ _ h1), s.glob⟩
theorem Evo.weak {st st' : St} (κ : Kn) (w : World) (h : Weak st st') : Evo κ st.σ w κ st'.σ w :=
  ⟨.refl κ, rfl, rfl, .refl _, Nat.le_refl _, fun b _ hn => ⟨rfl, fun ⟨i, B, h1, h2⟩ => hn ⟨i, B, h.σ _ _ h1, h2⟩⟩, fun _ h => .inl h, fun i B _ h1 h2 => .inr ⟨i, B, h.σ _ _ h1, h2⟩⟩
def wd (r : Option Nat) : Fence := { Fence.wide with round := r }
theorem wd_room {r : Option Nat} (n : Nat) : (wd r).room n := fun _ h => by simp [wd, Fence.wide] at h
theorem wd_depth {r : Option Nat} {n : Nat} : (wd r).depth.isSome = true → 1 ≤ n := fun h => by cases h
theorem callsIn_wd {r : Option Nat} {n : Nat} {P : Program} {f : FuncId} {args : Array Value} {w : World} {R : Ending → World → Prop} : CallsIn (wd r) n P f args w R ↔ Calls P f args w R :=
  ⟨fun h cs => let ⟨e, w', fr, r, s, x⟩ := h.2 cs (wd_room _); ⟨e, w', fr, r, comesIn_wide.1 s, x⟩,
   fun h => ⟨trivial, fun cs _ => let ⟨e, w', fr, r, s, x⟩ := h cs; ⟨e, w', fr, r, comesIn_wide.2 s, x⟩⟩⟩
theorem rowsIn_wd {r : Option Nat} {n : Nat} {P : Program} {row : String} {args : Array Value} {w : World} {R : Value → World → Prop} (h : Rows P row args w R) : RowsIn (wd r) n P row args w R :=
  fun c cs _ => let ⟨v, w', r, s⟩ := h c cs; ⟨v, w', r, stepsIn_wide.2 s⟩
def noDef (o : Oper) : Bool := match o.op with
  | .defer _ => false
  | _ => true
theorem noDef_ne {o : Oper} (h : noDef o = true) : ∀ c, o.op ≠ .defer c := fun c e => by simp [noDef, e] at h
theorem wpIn_of_wp {P : Program} {o : Oper} {a : Act} {w : World} {next : Act → World → Prop} {Q : Exit → Act → World → Prop} (r : Option Nat) (n : Nat) (hd : noDef o = true) (h : o.wp P a w next Q) : o.wpIn (wd r) n P a w next Q := by
  refine ⟨fun _ _ => trivial, ?_⟩
  rw [Oper.semAt_eq _ _ _ (noDef_ne hd)]
  unfold Oper.wp at h
  generalize (execOp a.eval o).run P w = x at *
  cases x with
  | ok v w' => cases v <;> simp only [Oper.upon, Oper.uponIn] at h ⊢ <;> first | exact h | exact ⟨wd_depth, callsIn_wd.2 h⟩ | exact ⟨wd_depth, rowsIn_wd h⟩ | exact h.elim
  | halt v w' => cases v <;> simp only [Oper.upon, Oper.uponIn] at h ⊢ <;> first | exact h | exact h.elim
def mrk (D : Nat) : Deferred := { target := .collected D, args := #[] }
def DfOk (κ : Kn) (σ : Store) (a : Act) (w : World) (a' : Act) (w' : World) : Prop :=
  ∃ ds : List Nat, a'.defers = ds.map mrk ++ a.defers ∧ ds.Nodup ∧ ∀ D ∈ ds, w.heap.size ≤ D ∧ w'.heap[D]? = some (.deferred (some [])) ∧ ¬ Owned κ σ D
theorem DfOk.same {κ : Kn} {σ : Store} {a a' : Act} {w w' : World} (h : a'.defers = a.defers) : DfOk κ σ a w a' w' := ⟨[], h, .nil, fun _ h => by cases h⟩
theorem DfOk.trans {κ κ1 κ2 : Kn} {σ σ1 σ2 : Store} {a a1 a2 : Act} {w w1 w2 : World} (h : DfOk κ1 σ1 a w a1 w1) (e : Evo κ σ w κ1 σ1 w1) (e2 : Evo κ1 σ1 w1 κ2 σ2 w2) (k : DfOk κ2 σ2 a1 w1 a2 w2) : DfOk κ2 σ2 a w a2 w2 := by
  obtain ⟨ds, h1, h0, h2⟩ := h
  obtain ⟨es, k1, k0, k2⟩ := k
  refine ⟨es ++ ds, by rw [k1, h1, List.map_append, List.append_assoc], List.nodup_append.2 ⟨k0, h0, fun x hx y hy e => ?_⟩, fun D hd => ?_⟩
  · subst e
    have := (k2 x hx).1
    have := (Array.getElem?_eq_some_iff.1 (h2 x hy).2.1).1
    omega
  rcases List.mem_append.1 hd with hd | hd
  · obtain ⟨g2, g3⟩ := k2 D hd
    exact ⟨Nat.le_trans e.size g2, g3⟩
  · obtain ⟨g2, g3, g4⟩ := h2 D hd
    obtain ⟨q1, q2⟩ := e2.keep D (Array.getElem?_eq_some_iff.1 g3).1 g4
    exact ⟨g2, q1.trans g3, q2⟩
def norng : Code → Bool
  | .seq a b => norng a && norng b
  | .cond _ a b => norng a && norng b
  | .block _ c => norng c
  | .loop c => norng c
  | .scope c => norng c
  | .rangeFunc .. => false
  | _ => true
def RdOk (r : Option Nat) (c : Code) : Prop := r = none ∨ norng c = true
def AbsW (C : Ctx) (N : Nat) (code : Code) (st : St) (Q : Exit → St → Prop) : Prop :=
  ∀ (r : Option Nat) (m : Nat), RdOk r code → ∀ κ a w, Sim C N κ st a w → code.wpIn (wd r) m C.P (fun e a' w' => ∃ κ' st', Q e st' ∧ Sim C N κ' st' a' w' ∧ Evo κ st.σ w κ' st'.σ w' ∧ DfOk κ' st'.σ a w a' w') a w
section rules
variable {C : Ctx} {N : Nat} {st : St} {Q : Exit → St → Prop}
theorem AbsW.mono {code : Code} {Q' : Exit → St → Prop} (h : AbsW C N code st Q) (hq : ∀ e s, Q e s → Q' e s) : AbsW C N code st Q' :=
  fun rd m hr κ a w s => wpIn_mono (h rd m hr κ a w s) fun _ _ _ ⟨κ', st', q, r⟩ => ⟨κ', st', hq _ _ q, r⟩
theorem AbsW.weaken {code : Code} {st' : St} (hw : Weak st st') (h : AbsW C N code st' Q) : AbsW C N code st Q :=
  fun rd m hr κ a w s => wpIn_mono (h rd m hr κ a w (s.weak hw)) fun _ _ _ ⟨κ', st'', q, r, ev, df⟩ => ⟨κ', st'', q, r, (Evo.weak κ w hw).trans ev, df⟩
def thenQ (next : St → Prop) (Q : Exit → St → Prop) : Exit → St → Prop
  | .normal, s => next s
  | e, s => Q e s
def blockQ (id : Nat) (Q : Exit → St → Prop) : Exit → St → Prop
  | .exit id', s => if id' = id then Q .normal s else Q (.exit id') s
  | e, s => Q e s
theorem AbsW.skip (h : Q .normal st) : AbsW C N .skip st Q := fun _ _ _ κ _ w s => wpIn_skip ⟨κ, st, h, s, .refl κ st.σ w, .same rfl⟩
theorem AbsW.label {l : Nat} (h : Q .normal st) : AbsW C N (.label l) st Q := fun _ _ _ κ _ w s => wpIn_label ⟨κ, st, h, s, .refl κ st.σ w, .same rfl⟩
theorem AbsW.exit {i : Nat} (h : Q (.exit i) st) : AbsW C N (.exit i) st Q := fun _ _ _ κ _ w s => wpIn_exit ⟨κ, st, h, s, .refl κ st.σ w, .same rfl⟩
theorem AbsW.ret (h : Q .ret st) : AbsW C N .ret st Q := fun _ _ _ κ _ w s => wpIn_ret ⟨κ, st, h, s, .refl κ st.σ w, .same rfl⟩
theorem AbsW.seq {x y : Code} (h : AbsW C N x st (thenQ (fun s => AbsW C N y s Q) Q)) : AbsW C N (.seq x y) st Q := fun rd m hr κ a w s => by
  have hr1 : RdOk rd x := hr.imp id fun e => by simp only [norng, Bool.and_eq_true] at e; exact e.1
  have hr2 : RdOk rd y := hr.imp id fun e => by simp only [norng, Bool.and_eq_true] at e; exact e.2
  refine wpIn_seq (wpIn_mono (h rd m hr1 κ a w s) ?_)
  rintro e a1 w1 ⟨κ1, st1, q, s1, ev, df⟩
  cases e with
  | normal => exact wpIn_mono (q rd m hr2 κ1 a1 w1 s1) fun _ _ _ ⟨κ2, st2, q2, s2, ev2, df2⟩ => ⟨κ2, st2, q2, s2, ev.trans ev2, df.trans ev ev2 df2⟩
  | _ => exact ⟨κ1, st1, q, s1, ev, df⟩
theorem AbsW.block {i : Nat} {c : Code} (h : AbsW C N c st (blockQ i Q)) : AbsW C N (.block i c) st Q := fun rd m hr κ a w s => by
  refine wpIn_block (wpIn_mono (h rd m (hr.imp id fun e => e) κ a w s) ?_)
  rintro e a1 w1 ⟨κ1, st1, q, s1, ev⟩
  cases e with
  | exit j =>
    simp only [Exit.inBlock, blockQ] at q ⊢
    split
    · rename_i hj; rw [if_pos hj] at q; exact ⟨κ1, st1, q, s1, ev⟩
    · rename_i hj; rw [if_neg hj] at q; exact ⟨κ1, st1, q, s1, ev⟩
  | _ => exact ⟨κ1, st1, q, s1, ev⟩
theorem AbsW.cond {c : Operand} {x y : Code} {t : Bool} (hc : ∀ κ a w, Sim C N κ st a w → a.eval c = .bool t) (h : AbsW C N (if t then x else y) st Q) : AbsW C N (.cond c x y) st Q :=
  fun rd m hr κ a w s => wpIn_cond (hc κ a w s) (h rd m (hr.imp id fun e => by simp only [norng, Bool.and_eq_true] at e; cases t; exact e.2; exact e.1) κ a w s)
theorem AbsW.loop {c : Code} (I : Nat → St → Prop) (m : Nat) (h0 : I m st)
    (hs : ∀ m s, I m s → AbsW C N c s (thenQ (fun s' => ∃ m' s'', m' < m ∧ Weak s' s'' ∧ I m' s'') Q)) : AbsW C N (.loop c) st Q := fun rd mm hr κ a w s bf k cs hro hfn hroom => by
  have hr : RdOk rd c := hr.imp id fun e => e
  have key : ∀ n, ∀ m, m ≤ n → ∀ st κ a w, I m st → Sim C N κ st a w →
      ∃ e a' w', (∃ κ' st', Q e st' ∧ Sim C N κ' st' a' w' ∧ Evo κ st.σ w κ' st'.σ w' ∧ DfOk κ' st'.σ a w a' w') ∧ ArrivesIn (Machine.fenced C.P (wd rd)) C.P (lone (bf.atR a (.code c :: .inLoop c :: k)) cs w) bf k cs e a' w' := by
    intro n
    induction n with
    | zero =>
      intro m hm st κ a w hI hS
      obtain ⟨e, a1, w1, ⟨κ1, st1, q, s1, ev⟩, harr⟩ := hs m st hI rd mm hr κ a w hS bf (.inLoop c :: k) cs hro hfn hroom
      cases e with
      | normal => obtain ⟨m', s'', hlt, _⟩ := q; omega
      | exit id => exact ⟨_, a1, w1, ⟨κ1, st1, q, s1, ev⟩, .pass (x := .inLoop c) rfl (fun _ _ => .inl (by simp)) harr⟩
      | goto l => exact ⟨_, a1, w1, ⟨κ1, st1, q, s1, ev⟩, .pass (x := .inLoop c) rfl (fun _ _ => .inl (by simp)) harr⟩
      | ret => exact ⟨_, a1, w1, ⟨κ1, st1, q, s1, ev⟩, .pass (x := .inLoop c) rfl (fun _ _ => .inl (by simp)) harr⟩
      | panic ch => exact ⟨_, a1, w1, ⟨κ1, st1, q, s1, ev⟩, .pass (x := .inLoop c) rfl (fun _ _ => .inl (by simp)) harr⟩
      | outgrown => exact ⟨_, a1, w1, ⟨κ1, st1, q, s1, ev⟩, .pass (x := .inLoop c) rfl (fun _ _ => .inl (by simp)) harr⟩
    | succ n ih =>
      intro m hm st κ a w hI hS
      obtain ⟨e, a1, w1, ⟨κ1, st1, q, s1, ev, df⟩, harr⟩ := hs m st hI rd mm hr κ a w hS bf (.inLoop c :: k) cs hro hfn hroom
      cases e with
      | normal =>
        obtain ⟨m', s'', hlt, hwk, hI'⟩ := q
        obtain ⟨e2, a2, w2, ⟨κ2, st2, q2, s2, ev2, df2⟩, harr2⟩ := ih m' (by omega) s'' κ1 a1 w1 hI' (s1.weak hwk)
        have ev3 := (Evo.weak κ1 w1 hwk).trans ev2
        exact ⟨e2, a2, w2, ⟨κ2, st2, q2, s2, ev.trans ev3, df.trans ev ev3 df2⟩, .of_steps (StepsIn.trans harr (.one (fenced_calm hfn hroom rfl) stepR_inLoop)) harr2⟩
      | exit id => exact ⟨_, a1, w1, ⟨κ1, st1, q, s1, ev, df⟩, .pass (x := .inLoop c) rfl (fun _ _ => .inl (by simp)) harr⟩
      | goto l => exact ⟨_, a1, w1, ⟨κ1, st1, q, s1, ev, df⟩, .pass (x := .inLoop c) rfl (fun _ _ => .inl (by simp)) harr⟩
      | ret => exact ⟨_, a1, w1, ⟨κ1, st1, q, s1, ev, df⟩, .pass (x := .inLoop c) rfl (fun _ _ => .inl (by simp)) harr⟩
      | panic ch => exact ⟨_, a1, w1, ⟨κ1, st1, q, s1, ev, df⟩, .pass (x := .inLoop c) rfl (fun _ _ => .inl (by simp)) harr⟩
      | outgrown => exact ⟨_, a1, w1, ⟨κ1, st1, q, s1, ev, df⟩, .pass (x := .inLoop c) rfl (fun _ _ => .inl (by simp)) harr⟩
  obtain ⟨e, a', w', hq, harr⟩ := key m m (Nat.le_refl _) st κ a w h0 s
  exact ⟨e, a', w', hq, .of_steps (.one (fenced_calm hfn hroom rfl) stepR_loop) harr⟩
end rules
end Go.Ab
