/- Abstract values: what the operations that write or make memory come to. -/
import Derived.Test.YtgcodedanljhpaaDoorAcOps
import Derived.Laws.Append
import Derived.IntWalk
set_option linter.unusedSimpArgs false
set_option linter.unusedVariables false
namespace Go.Ab
open Go
theorem relCells_append {κ : Kn} {w : World} {b : Nat} : ∀ (xs ys : List PV) (o : Nat), RelCells κ w b o (xs ++ ys) ↔ RelCells κ w b o xs ∧ RelCells κ w b (o + xs.length) ys
  | [], ys, o => by simp [RelCells]
  | x :: xs, ys, o => by
    simp only [List.cons_append, RelCells, relCells_append xs ys (o + 1), List.length_cons]
    rw [show o + 1 + xs.length = o + (xs.length + 1) from by omega, and_assoc]
theorem relRows_iff {κ : Kn} {w : World} {b s : Nat} : ∀ (es : List (List PV)) (o : Nat), RelRows κ w b o s es ↔ (∀ e ∈ es, e.length = s) ∧ RelCells κ w b o es.flatten
  | [], o => by simp [RelRows, RelCells]
  | e :: es, o => by
    simp only [RelRows, relRows_iff es (o + s), List.flatten_cons, relCells_append, List.mem_cons, forall_eq_or_imp]
    constructor
    · rintro ⟨h1, h2, h3, h4⟩; exact ⟨⟨h1, h3⟩, h2, by rw [h1]; exact h4⟩
    · rintro ⟨⟨h1, h3⟩, h2, h4⟩; exact ⟨h1, h2, h3, by rw [h1] at h4; exact h4⟩
theorem relCells_frame {κ κ' : Kn} {w w' : World} {b b' : Nat} (hle : κ.le κ') (hw : ∀ b, κ.fz b → w'.heap[b]? = w.heap[b]?) : ∀ (cs : List PV) (o o' : Nat),
    (∀ j, j < cs.length → w'.cell? ⟨b', o' + j, none⟩ = w.cell? ⟨b, o + j, none⟩) → RelCells κ w b o cs → RelCells κ' w' b' o' cs
  | [], _, _, _, _ => by simp [RelCells]
  | c :: cs, o, o', hc, h => by
    simp only [RelCells] at h ⊢
    obtain ⟨⟨v, h1, h2, h3⟩, h4⟩ := h
    refine ⟨⟨v, ?_, h2, Rel.mono hle hw _ _ h3⟩, relCells_frame hle hw cs (o + 1) (o' + 1) (fun j hj => ?_) h4⟩
    · have := hc 0 (by simp)
      simp only [Nat.add_zero] at this
      rw [this]; exact h1
    · have := hc (j + 1) (by simpa using hj)
      rw [show o' + 1 + j = o' + (j + 1) from by omega, show o + 1 + j = o + (j + 1) from by omega]
      exact this
theorem relCells_of_list {κ : Kn} {w : World} {b : Nat} : ∀ (cs : List PV) (vs : List Value) (o : Nat), RelList κ w cs vs → cs.all PV.one = true →
    (∀ j, j < cs.length → w.cell? ⟨b, o + j, none⟩ = vs[j]?) → RelCells κ w b o cs
  | [], _, _, _, _, _ => by simp [RelCells]
  | c :: cs, vs, o, h, ho, hc => by
    simp only [RelList] at h
    obtain ⟨v, vs', rfl, h1, h2⟩ := h
    simp only [List.all_cons, Bool.and_eq_true] at ho
    simp only [RelCells]
    refine ⟨⟨v, ?_, ho.1, h1⟩, relCells_of_list cs vs' (o + 1) h2 ho.2 (fun j hj => ?_)⟩
    · simpa using hc 0 (by simp)
    · have := hc (j + 1) (by simpa using hj)
      rw [show o + 1 + j = o + (j + 1) from by omega]
      simpa using this
theorem relCells_vals {κ : Kn} {w : World} {b : Nat} : ∀ (cs : List PV) (o : Nat), RelCells κ w b o cs → ∃ vs : List Value, vs.length = cs.length ∧ RelList κ w cs vs ∧ (∀ j v, vs[j]? = some v → w.cell? ⟨b, o + j, none⟩ = some v) ∧ cs.all PV.one = true
  | [], o, _ => ⟨[], rfl, by simp [RelList], by simp, rfl⟩
  | c :: cs, o, h => by
    simp only [RelCells] at h
    obtain ⟨⟨v, h1, h2, h3⟩, h4⟩ := h
    obtain ⟨vs, g1, g2, g3, g4⟩ := relCells_vals cs (o + 1) h4
    refine ⟨v :: vs, by simp [g1], by simp only [RelList]; exact ⟨v, vs, rfl, h3, g2⟩, fun j u hj => ?_, by simp [h2, g4]⟩
    cases j with
    | zero => simp at hj; subst hj; simpa using h1
    | succ j =>
      have := g3 j u (by simpa using hj)
      rw [show o + (j + 1) = o + 1 + j from by omega]; exact this
theorem relList_ones {κ : Kn} {w : World} : ∀ (cs : List PV) (vs : List Value), RelList κ w cs vs → cs.all PV.one = true → ∀ v ∈ vs, one1 v = true
  | [], vs, h, _ => by simp only [RelList] at h; simp [h]
  | c :: cs, vs, h, ho => by
    simp only [RelList] at h
    obtain ⟨v, vs', rfl, h1, h2⟩ := h
    simp only [List.all_cons, Bool.and_eq_true] at ho
    intro u hu
    rcases List.mem_cons.1 hu with rfl | hu
    · exact rel_one h1 ho.1
    · exact relList_ones cs vs' h2 ho.2 u hu
theorem one1_oneCell {v : Value} (h : one1 v = true) : v.oneCell' = true := by cases v <;> simp_all [one1, Value.oneCell']
/-! ### a row written -/
def setRow (w : World) (b : Nat) (c : List Value) (e : TypeId) (fr : Nat × Nat) : World := { w with heap := w.heap.setIfInBounds b (.cells c.toArray e fr) }
theorem putAllV_length : ∀ (us cs : List Value) (o : Nat), (putAllV cs o us).length = cs.length
  | [], _, _ => rfl
  | u :: us, cs, o => by rw [putAllV, putAllV_length]; simp
theorem putAllV_out : ∀ (us cs : List Value) (o j : Nat), (j < o ∨ o + us.length ≤ j) → (putAllV cs o us)[j]? = cs[j]?
  | [], _, _, _, _ => rfl
  | u :: us, cs, o, j, h => by
    rw [putAllV, putAllV_out us _ _ _ (by simp only [List.length_cons] at h; omega), List.getElem?_set_ne (by simp only [List.length_cons] at h; omega)]
theorem putAllV_in : ∀ (us cs : List Value) (o j : Nat), o + us.length ≤ cs.length → j < us.length → (putAllV cs o us)[o + j]? = us[j]?
  | [], _, _, _, _, h => by simp at h
  | u :: us, cs, o, 0, h, _ => by
    rw [putAllV, Nat.add_zero, putAllV_out us _ _ _ (by omega)]
    simp only [List.length_cons] at h
    simp [show o < cs.length from by omega]
  | u :: us, cs, o, j + 1, h, hj => by
    rw [putAllV, show o + (j + 1) = o + 1 + j from by omega, putAllV_in us _ (o + 1) j (by simp only [List.length_cons] at h; simp; omega) (by simpa using hj)]
    simp
theorem cell_row {w : World} {b o : Nat} {c : Array Value} {e : TypeId} {fr : Nat × Nat} (h : w.heap[b]? = some (.cells c e fr)) : w.cell? ⟨b, o, none⟩ = c[o]? := by
  simp [World.cell?, h]
theorem run_storeCells {P : Program} {b o : Nat} {e : TypeId} {fr : Nat × Nat} : ∀ (vs : List Value) (i : Nat) (c : Array Value) (w : World), w.heap[b]? = some (.cells c e fr) → okFr fr c.size →
    o + i + vs.length ≤ c.size → (∀ v ∈ vs, one1 v = true) → (storeCells ⟨b, o, none⟩ vs i).run P w = .ok () (setRow w b (putAllV c.toList (o + i) vs) e fr)
  | [], i, c, w, hb, _, _, _ => by
    simp only [storeCells, Sem.run_pure, putAllV, setRow, Array.toArray_toList]
    congr 1
    have : w.heap.setIfInBounds b (.cells c e fr) = w.heap := by
      apply Array.ext_getElem?
      intro k
      by_cases hk : k = b
      · subst hk
        rw [Array.getElem?_setIfInBounds_self_of_lt (Array.getElem?_eq_some_iff.1 hb).1, hb]
      · rw [Array.getElem?_setIfInBounds_ne (Ne.symm hk)]
    rw [this]
  | v :: vs, i, c, w, hb, hf, hl, ho => by
    have hlt : b < w.heap.size := (Array.getElem?_eq_some_iff.1 hb).1
    simp only [List.length_cons] at hl
    have hcell : w.cell? ⟨b, o + i, none⟩ = some (c[o + i]'(by omega)) := by rw [cell_row hb]; simp [show o + i < c.size from by omega]
    have hfr : w.frozen? ⟨b, o + i, none⟩ = false := by
      have := hf (o + i) (by omega)
      simp only [World.frozen?, hb]
      simpa using this
    have hset : w.setCell ⟨b, o + i, none⟩ v = setRow w b (c.toList.set (o + i) v) e fr := by
      simp only [World.setCell, setRow]
      congr 1
      apply Array.ext_getElem?
      intro k
      rw [Array.getElem?_modify]
      by_cases hk : k = b
      · subst hk
        rw [if_pos rfl, Array.getElem?_setIfInBounds_self_of_lt hlt, hb]
        simp only [Option.map_some, Option.some.injEq, Obj.cells.injEq, and_self, and_true]
        apply Array.ext'
        simp
      · rw [if_neg (Ne.symm hk), Array.getElem?_setIfInBounds_ne (Ne.symm hk)]
    simp only [storeCells, Sem.run_bind, addr_add, run_store P w _ v .plain (one1_oneCell (ho v (by simp))), hcell, hfr, Bool.false_eq_true, if_false, Result.andThen_ok, hset]
    have hb' : (setRow w b (c.toList.set (o + i) v) e fr).heap[b]? = some (.cells (c.toList.set (o + i) v).toArray e fr) := by
      simp only [setRow]; rw [Array.getElem?_setIfInBounds_self_of_lt hlt]
    have := run_storeCells (P := P) (b := b) (o := o) vs (i + 1) (c.toList.set (o + i) v).toArray _ hb' (by simpa using hf) (by simp; omega) (fun u hu => ho u (by simp [hu]))
    rw [this]
    simp only [setRow, putAllV, Nat.add_assoc, Array.setIfInBounds_setIfInBounds]
theorem setRow_heap_self {w : World} {b : Nat} {c : List Value} {e : TypeId} {fr : Nat × Nat} (h : b < w.heap.size) : (setRow w b c e fr).heap[b]? = some (.cells c.toArray e fr) := by
  simp only [setRow]; rw [Array.getElem?_setIfInBounds_self_of_lt h]
theorem setRow_heap_ne {w : World} {b k : Nat} {c : List Value} {e : TypeId} {fr : Nat × Nat} (h : k ≠ b) : (setRow w b c e fr).heap[k]? = w.heap[k]? := by
  simp only [setRow]; rw [Array.getElem?_setIfInBounds_ne (Ne.symm h)]
theorem setRow_size {w : World} {b : Nat} {c : List Value} {e : TypeId} {fr : Nat × Nat} : (setRow w b c e fr).heap.size = w.heap.size := by simp [setRow]
def Store.put (σ : Store) (i : Nat) (B : Blk) : Store := fun k => if k = i then some B else σ k
section
variable {C : Ctx} {N : Nat} {κ : Kn} {st : St} {a : Act} {w : World}
theorem Sim.change (s : Sim C N κ st a w) {id ver ver' sz : Nat} {es es' : List (List PV)} {L L' : Loc} {w' : World} {κ' : Kn}
    (hσ : st.σ id = some (.row ver sz es false)) (hL : κ.loc id ver = some L) (hle : κ.le κ') (hfz : κ'.fz = κ.fz) (hm : κ'.mloc = κ.mloc)
    (hloc : ∀ i v, κ'.loc i v = if i = id ∧ v = ver' then some L' else κ.loc i v) (hv : ver ≤ ver')
    (hsz : w.heap.size ≤ w'.heap.size) (hother : ∀ b, b < w.heap.size → (L.real = true → b ≠ L.blk) → w'.heap[b]? = w.heap[b]?)
    (hnew : L'.real = true → (L.real = true ∧ L'.blk = L.blk) ∨ w.heap.size ≤ L'.blk)
    (hB : SimBlk κ' w' id (.row ver' sz es' false)) :
    Sim C N κ' { st with σ := st.σ.put id (.row ver' sz es' false) } a w' ∧ (w'.os = w.os → w'.tape = w.tape → Outs w w' → Evo κ st.σ w κ' (st.σ.put id (.row ver' sz es' false)) w') := by
  have hLlt : L.real = true → L.blk < w.heap.size := fun hr => BlkAt.lt (κ := κ) (i := id) (B := .row ver sz es false) ⟨L, hL, hr, rfl⟩ (s.blk id _ hσ).2
  have hLfz : L.real = true → ¬ κ.fz L.blk := fun hr => s.nfz _ ⟨id, _, hσ, rfl, L, hL, hr, rfl⟩
  have hfzw : ∀ b, κ.fz b → w'.heap[b]? = w.heap[b]? := fun b hb => hother b (s.fzlt b hb) (fun hr e => hLfz hr (e ▸ hb))
  have hself : ∀ b, BlkAt κ' id (.row ver' sz es' false) b → (L.real = true ∧ b = L.blk) ∨ w.heap.size ≤ b := by
    rintro b ⟨M, h1, h2, rfl⟩
    rw [hloc, if_pos ⟨rfl, rfl⟩] at h1
    cases h1
    rcases hnew h2 with ⟨h3, h4⟩ | h3
    · exact .inl ⟨h3, h4⟩
    · exact .inr h3
  have hback : ∀ i B b, i ≠ id → st.σ i = some B → BlkAt κ' i B b → BlkAt κ i B b := by
    intro i B b hi hB h
    exact h.back s hle hB
  have hne : ∀ i B b, i ≠ id → st.σ i = some B → BlkAt κ i B b → (L.real = true → b ≠ L.blk) := by
    intro i B b hi hB h hr e
    subst e
    exact hi (s.dist i id B _ _ hB hσ h ⟨L, hL, hr, rfl⟩)
  have hput : ∀ i B, (st.σ.put id (.row ver' sz es' false)) i = some B → (i = id ∧ B = .row ver' sz es' false) ∨ (i ≠ id ∧ st.σ i = some B) := by
    intro i B h
    simp only [Store.put] at h
    split at h
    · rename_i hi; cases h; exact .inl ⟨hi, rfl⟩
    · rename_i hi; exact .inr ⟨hi, h⟩
  have hown : ∀ b, b < w.heap.size → Owned κ' (st.σ.put id (.row ver' sz es' false)) b → Owned κ st.σ b := by
    rintro b hb ⟨i, B, h1, h2, h3⟩
    rcases hput i B h1 with ⟨rfl, rfl⟩ | ⟨hi, h1⟩
    · rcases hself b h3 with ⟨hr, rfl⟩ | h
      · exact ⟨i, _, hσ, rfl, L, hL, hr, rfl⟩
      · omega
    · exact ⟨i, B, h1, h2, hback i B b hi h1 h3⟩
  refine ⟨⟨s.defers, s.size, fun t v h => ⟨(s.env t v h).1, Rel.mono hle hfzw _ _ (s.env t v h).2⟩, ?_, ?_, ?_, ?_, ?_, ?_, ?_, fun g cs h => ⟨hle.fz _ (s.glob g cs h).1, RelCells.mono hle.bare hfzw _ _ _ (hfzw g (s.glob g cs h).1) (s.glob g cs h).2⟩⟩, fun ho ht hout => ⟨hle, ho, ht, hout, hsz, ?_, fun b hb => .inl (by rw [hfz] at hb; exact hb), ?_⟩⟩
  · intro i B h
    rcases hput i B h with ⟨rfl, rfl⟩ | ⟨hi, h⟩
    · exact ⟨(s.blk i _ hσ).1, hB⟩
    · exact ⟨(s.blk i B h).1, SimBlk.mono hle hfzw (fun b hb => hother b (hb.lt (s.blk i B h).2) (hne i B b hi h hb)) (s.blk i B h).2⟩
  · intro i j B B' b hi hj h1 h2
    rcases hput i B hi with ⟨rfl, rfl⟩ | ⟨hi', hi2⟩ <;> rcases hput j B' hj with ⟨rfl, rfl⟩ | ⟨hj', hj2⟩
    · rfl
    · exfalso
      have h3 := hback j B' b hj' hj2 h2
      rcases hself b h1 with ⟨hr, rfl⟩ | h
      · exact hne j B' _ hj' hj2 h3 hr rfl
      · have := h3.lt (s.blk j B' hj2).2; omega
    · exfalso
      have h3 := hback i B b hi' hi2 h1
      rcases hself b h2 with ⟨hr, rfl⟩ | h
      · exact hne i B _ hi' hi2 h3 hr rfl
      · have := h3.lt (s.blk i B hi2).2; omega
    · exact s.dist i j B B' b hi2 hj2 (hback i B b hi' hi2 h1) (hback j B' b hj' hj2 h2)
  · intro b hb
    rw [hfz]
    rintro hfb
    exact s.nfz b (hown b (s.fzlt b hfb) hb) hfb
  · intro i B b h1 h2 h3
    rw [hfz]
    rcases hput i B h1 with ⟨rfl, rfl⟩ | ⟨hi, h1⟩
    · cases h2
    · exact s.yfz i B b h1 h2 (hback i B b hi h1 h3)
  · intro b hb; rw [hfz] at hb; exact Nat.lt_of_lt_of_le (s.fzlt b hb) hsz
  · intro i v hi
    rw [hloc, hm]
    have : i ≠ id := by have := (s.blk id _ hσ).1; simp only at hi; omega
    rw [if_neg (fun h => this h.1)]
    exact s.fresh i v hi
  · intro i v1 sz1 es1 fz1 v h1 hlt
    rw [hloc]
    rcases hput i _ h1 with ⟨rfl, h⟩ | ⟨hi, h⟩
    · cases h
      rw [if_neg (fun h => by omega)]
      exact s.later i ver sz es false v hσ (by omega)
    · rw [if_neg (fun h => hi h.1)]
      exact s.later i v1 sz1 es1 fz1 v h hlt
  · intro b hb hn
    refine ⟨hother b hb (fun hr e => hn ⟨id, _, hσ, rfl, L, hL, hr, e.symm⟩), fun ho => hn (hown b hb ho)⟩
  · intro i B b h1 h2
    rcases hput i B h1 with ⟨rfl, rfl⟩ | ⟨hi, h1⟩
    · rcases hself b h2 with ⟨hr, rfl⟩ | h
      · exact .inr ⟨i, _, hσ, L, hL, hr, rfl⟩
      · exact .inl h
    · exact .inr ⟨i, B, h1, hback i B b hi h1 h2⟩
theorem Sim.made (s : Sim C N κ st a w) {sz : Nat} {es : List (List PV)} {L : Loc} {w' : World} {κ' : Kn}
    (hle : κ.le κ') (hfz : κ'.fz = κ.fz) (hm : κ'.mloc = κ.mloc)
    (hloc : ∀ i v, κ'.loc i v = if i = st.nx ∧ v = 0 then some L else κ.loc i v)
    (hsz : w.heap.size ≤ w'.heap.size) (hother : ∀ b, b < w.heap.size → w'.heap[b]? = w.heap[b]?)
    (hnew : L.real = true → w.heap.size ≤ L.blk) (hB : SimBlk κ' w' st.nx (.row 0 sz es false)) :
    Sim C N κ' { st with σ := st.σ.put st.nx (.row 0 sz es false), nx := st.nx + 1 } a w' ∧ (w'.os = w.os → w'.tape = w.tape → Outs w w' → Evo κ st.σ w κ' (st.σ.put st.nx (.row 0 sz es false)) w') := by
  have hfzw : ∀ b, κ.fz b → w'.heap[b]? = w.heap[b]? := fun b hb => hother b (s.fzlt b hb)
  have hself : ∀ b, BlkAt κ' st.nx (.row 0 sz es false) b → w.heap.size ≤ b := by
    rintro b ⟨M, h1, h2, rfl⟩
    rw [hloc, if_pos ⟨rfl, rfl⟩] at h1
    cases h1
    exact hnew h2
  have hput : ∀ i B, (st.σ.put st.nx (.row 0 sz es false)) i = some B → (i = st.nx ∧ B = .row 0 sz es false) ∨ (i ≠ st.nx ∧ st.σ i = some B) := by
    intro i B h
    simp only [Store.put] at h
    split at h
    · rename_i hi; cases h; exact .inl ⟨hi, rfl⟩
    · rename_i hi; exact .inr ⟨hi, h⟩
  have hback : ∀ i B b, st.σ i = some B → BlkAt κ' i B b → BlkAt κ i B b := fun i B b hB h => h.back s hle hB
  have hown : ∀ b, b < w.heap.size → Owned κ' (st.σ.put st.nx (.row 0 sz es false)) b → Owned κ st.σ b := by
    rintro b hb ⟨i, B, h1, h2, h3⟩
    rcases hput i B h1 with ⟨rfl, rfl⟩ | ⟨hi, h1⟩
    · have := hself b h3; omega
    · exact ⟨i, B, h1, h2, hback i B b h1 h3⟩
  refine ⟨⟨s.defers, s.size, fun t v h => ⟨(s.env t v h).1, Rel.mono hle hfzw _ _ (s.env t v h).2⟩, ?_, ?_, ?_, ?_, ?_, ?_, ?_, fun g cs h => ⟨hle.fz _ (s.glob g cs h).1, RelCells.mono hle.bare hfzw _ _ _ (hfzw g (s.glob g cs h).1) (s.glob g cs h).2⟩⟩, fun ho ht hout => ⟨hle, ho, ht, hout, hsz, ?_, fun b hb => .inl (by rw [hfz] at hb; exact hb), ?_⟩⟩
  · intro i B h
    rcases hput i B h with ⟨rfl, rfl⟩ | ⟨hi, h⟩
    · exact ⟨by simp, hB⟩
    · exact ⟨by have := (s.blk i B h).1; simp; omega, SimBlk.mono hle hfzw (fun b hb => hother b (hb.lt (s.blk i B h).2)) (s.blk i B h).2⟩
  · intro i j B B' b hi hj h1 h2
    rcases hput i B hi with ⟨rfl, rfl⟩ | ⟨hi', hi⟩ <;> rcases hput j B' hj with ⟨rfl, rfl⟩ | ⟨hj', hj⟩
    · rfl
    · exfalso
      have h3 := (hback j B' b hj h2).lt (s.blk j B' hj).2
      have := hself b h1; omega
    · exfalso
      have h3 := (hback i B b hi h1).lt (s.blk i B hi).2
      have := hself b h2; omega
    · exact s.dist i j B B' b hi hj (hback i B b hi h1) (hback j B' b hj h2)
  · intro b hb
    rw [hfz]
    rintro hfb
    exact s.nfz b (hown b (s.fzlt b hfb) hb) hfb
  · intro i B b h1 h2 h3
    rw [hfz]
    rcases hput i B h1 with ⟨rfl, rfl⟩ | ⟨hi, h1⟩
    · cases h2
    · exact s.yfz i B b h1 h2 (hback i B b h1 h3)
  · intro b hb; rw [hfz] at hb; exact Nat.lt_of_lt_of_le (s.fzlt b hb) hsz
  · intro i v hi
    rw [hloc, hm]
    simp only at hi
    rw [if_neg (fun h => by omega)]
    exact s.fresh i v (by omega)
  · intro i v1 sz1 es1 fz1 v h1 hlt
    rw [hloc]
    rcases hput i _ h1 with ⟨rfl, h⟩ | ⟨hi, h⟩
    · cases h
      rw [if_neg (fun h => by omega)]
      exact (s.fresh st.nx v (Nat.le_refl _)).1
    · rw [if_neg (fun h => hi h.1)]
      exact s.later i v1 sz1 es1 fz1 v h hlt
  · intro b hb hn
    exact ⟨hother b hb, fun ho => hn (hown b hb ho)⟩
  · intro i B b h1 h2
    rcases hput i B h1 with ⟨rfl, rfl⟩ | ⟨hi, h1⟩
    · exact .inl (hself b h2)
    · exact .inr ⟨i, B, h1, hback i B b h1 h2⟩
end
def evStore (C : Ctx) (st : St) (t : TypeId) (p q : PV) : Option (PV × Store × Nat) :=
  match p, ti C.P t with
  | .ptr id ver i off, some tinf => match st.σ id with
    | some (.row ver' sz es false) => match es[i]? with
      | some e => if ver = ver' ∧ q.cellsP.length = tinf.size ∧ off + tinf.size ≤ e.length ∧ q.cellsP.all PV.one = true then
          some (.tup [], st.σ.put id (.row ver' sz (es.set i (putAll e off q.cellsP)) false), st.nx) else none
      | none => none
    | _ => none
  | _, _ => none
def evNew (st : St) (sz : Nat) (es : List (List PV)) : Store × Nat := (st.σ.put st.nx (.row 0 sz es false), st.nx + 1)
def evBox (st : St) (q : PV) : Option (PV × Store × Nat) :=
  if q.cellsP.all PV.one = true then some (.ptr st.nx 0 0 0, st.σ.put st.nx (.row 0 q.cellsP.length [q.cellsP] false), st.nx + 1) else none
def withLoc (κ : Kn) (i v : Nat) (L : Loc) : Kn := { κ with loc := fun i' v' => if i' = i ∧ v' = v then some L else κ.loc i' v' }
theorem withLoc_le {κ : Kn} {i v : Nat} {L : Loc} (h : κ.loc i v = none) : κ.le (withLoc κ i v L) := by
  refine ⟨fun i' v' M hm => ?_, fun _ _ h => h, fun _ h => h⟩
  simp only [withLoc]
  split
  · rename_i e; rw [e.1, e.2, h] at hm; cases hm
  · exact hm
theorem flatten_length {s : Nat} : ∀ (es : List (List PV)), (∀ e ∈ es, e.length = s) → es.flatten.length = es.length * s
  | [], _ => by simp
  | e :: es, h => by
    simp only [List.flatten_cons, List.length_append, List.length_cons, flatten_length es (fun x hx => h x (by simp [hx])), h e (by simp), Nat.add_mul]
    omega
section
variable {C : Ctx} {N : Nat} {κ : Kn} {st : St} {a : Act} {w : World}
theorem Sim.newRow (s : Sim C N κ st a w) {sz : Nat} {es : List (List PV)} {vs : List Value} {more : Array Value} {elem : TypeId} {w0 : World}
    (hr : RelList κ w es.flatten vs) (ho : es.flatten.all PV.one = true) (hl : ∀ e ∈ es, e.length = sz) (hw0 : w0.heap = w.heap) (h1 : w0.os = w.os) (h2 : w0.tape = w.tape) (h3 : Outs w w0) :
    ∃ κ' L, L.real = true ∧ L.blk = w.heap.size ∧ L.base = 0 ∧ L.sz = sz ∧ L.len = es.length ∧ L.n = vs.length + more.size ∧ κ'.loc st.nx 0 = some L ∧ κ.le κ' ∧
      Sim C N κ' { st with σ := st.σ.put st.nx (.row 0 sz es false), nx := st.nx + 1 } a { w0 with heap := w0.heap.push (.cells (vs.toArray ++ more) elem) } ∧
      Evo κ st.σ w κ' (st.σ.put st.nx (.row 0 sz es false)) { w0 with heap := w0.heap.push (.cells (vs.toArray ++ more) elem) } := by
  have hvl : vs.length = es.length * sz := by rw [relList_length _ _ hr, flatten_length _ hl]
  refine ⟨withLoc κ st.nx 0 ⟨true, w.heap.size, 0, sz, es.length, vs.length + more.size⟩, ⟨true, w.heap.size, 0, sz, es.length, vs.length + more.size⟩, rfl, rfl, rfl, rfl, rfl, rfl, by simp [withLoc], withLoc_le (s.fresh _ _ (Nat.le_refl _)).1, ?_⟩
  have hle := withLoc_le (L := ⟨true, w.heap.size, 0, sz, es.length, vs.length + more.size⟩) (s.fresh st.nx 0 (Nat.le_refl _)).1
  have hold : ∀ b, b < w.heap.size → ({ w0 with heap := w0.heap.push (.cells (vs.toArray ++ more) elem) } : World).heap[b]? = w.heap[b]? := by
    intro b hb; simp only [hw0]; rw [Array.getElem?_push, if_neg (by omega)]
  have hthe : ({ w0 with heap := w0.heap.push (.cells (vs.toArray ++ more) elem) } : World).heap[w.heap.size]? = some (.cells (vs.toArray ++ more) elem (0, 0)) := by
    simp only [hw0]; rw [Array.getElem?_push, if_pos rfl]
  have := s.made (sz := sz) (es := es) (L := ⟨true, w.heap.size, 0, sz, es.length, vs.length + more.size⟩) (w' := { w0 with heap := w0.heap.push (.cells (vs.toArray ++ more) elem) })
    (κ' := withLoc κ st.nx 0 ⟨true, w.heap.size, 0, sz, es.length, vs.length + more.size⟩) hle rfl rfl (fun i v => rfl) (by simp only [hw0, Array.size_push]; omega) hold (fun _ => Nat.le_refl _) (by
      refine ⟨⟨true, w.heap.size, 0, sz, es.length, vs.length + more.size⟩, by simp [withLoc], rfl, rfl, .inl ⟨rfl, ⟨_, elem, (0, 0), hthe, by simp, fun o _ h => by simp at h⟩, by simp [hvl], ?_⟩⟩
      rw [relRows_iff]
      refine ⟨hl, relCells_of_list _ vs 0 (RelList.mono hle (fun b hb => hold b (s.fzlt b hb)) _ _ hr) ho (fun j hj => ?_)⟩
      rw [cell_row hthe]
      have hj' : j < vs.length := by rw [relList_length _ _ hr]; exact hj
      simp only [Nat.zero_add]
      rw [Array.getElem?_append_left (by simpa using hj')]
      simp)
  exact ⟨this.1, this.2 h1 h2 ⟨h3.eq, h3.drawn⟩⟩
theorem evBox_sound (s : Sim C N κ st a w) {q r : PV} {σ' : Store} {nx' : Nat} {v : Value} {elem : TypeId} (h : evBox st q = some (r, σ', nx')) (hq : Rel κ w q v) :
    ∃ z w' κ', (newVar elem v).run C.P w = .ok z w' ∧ Rel κ' w' r (.pointer (some z)) ∧ Sim C N κ' { st with σ := σ', nx := nx' } a w' ∧ Evo κ st.σ w κ' σ' w' := by
  unfold evBox at h
  split at h
  · rename_i ho
    cases h
    have hr := rel_cells hq ho
    obtain ⟨κ', L, e1, e2, e3, e4, e5, e6, e7, e8, e9, e10⟩ := s.newRow (sz := q.cellsP.length) (es := [q.cellsP]) (vs := v.cells.toList) (more := #[]) (elem := elem) (w0 := w) (by simpa using hr) (by simpa using ho) (by simp) rfl rfl rfl (by first | exact .refl _ | exact ⟨rfl, Nat.le_succ _⟩)
    refine ⟨⟨w.heap.size, 0, none⟩, _, κ', ?_, ?_, e9, e10⟩
    · simp [newVar, newRow]
    · simp only [Rel]
      exact ⟨L, e7, e1, by rw [e2, e3, e4]; simp⟩
  · cases h
theorem evStore_sound (s : Sim C N κ st a w) {t : TypeId} {p q r : PV} {σ' : Store} {nx' : Nat} {u v : Value} (h : evStore C st t p q = some (r, σ', nx')) (hp : Rel κ w p u) (hq : Rel κ w q v) :
    ∃ w' κ', (Instr.storeAt t u v).run C.P w = .ok () w' ∧ r = .tup [] ∧ Sim C N κ' { st with σ := σ', nx := nx' } a w' ∧ Evo κ st.σ w κ' σ' w' := by
  unfold evStore at h
  split at h
  · rename_i id ver i off tinf hti
    split at h
    · rename_i ver' sz es hσ
      split at h
      · rename_i e he
        split at h
        · rename_i hg
          obtain ⟨rfl, g2, g3, g4⟩ := hg
          cases h
          simp only [Rel] at hp
          obtain ⟨L, h1, h2, rfl⟩ := hp
          obtain ⟨_, L', k1, k2, k3, k4⟩ := s.blk id _ hσ
          rw [h1] at k1; cases k1
          rcases k4 with ⟨_, ⟨c, elem, fr, k4, k5, k6⟩, k7, k8⟩ | ⟨k4, _⟩
          case inr => rw [h2] at k4; cases k4
          have hil : i < es.length := (List.getElem?_eq_some_iff.1 he).1
          have helen : e.length = sz := (relRows_get _ _ _ _ k8 he).1
          have hrc := rel_cells hq g4
          have hvl : v.cells.toList.length = tinf.size := by rw [relList_length _ _ hrc, g2]
          have hplace : L.base + i * L.sz + off + tinf.size ≤ L.base + es.length * sz := by
            rw [k2]
            have : (i + 1) * sz ≤ es.length * sz := Nat.mul_le_mul_right _ hil
            rw [Nat.add_mul, Nat.one_mul] at this
            omega
          have hrun := run_storeCells (P := C.P) (o := L.base + i * L.sz + off) v.cells.toList 0 c w k4 (by rw [k5]; exact k6) (by rw [hvl, k5]; omega) (relList_ones _ _ hrc g4)
          simp only [Nat.add_zero] at hrun
          have hblt : L.blk < w.heap.size := (Array.getElem?_eq_some_iff.1 k4).1
          have hnf : ∀ b, κ.fz b → b ≠ L.blk := fun b hb e => s.nfz L.blk ⟨id, _, hσ, rfl, L, h1, h2, rfl⟩ (e ▸ hb)
          have hfzw : ∀ b, κ.fz b → (setRow w L.blk (putAllV c.toList (L.base + i * L.sz + off) v.cells.toList) elem fr).heap[b]? = w.heap[b]? := fun b hb => setRow_heap_ne (hnf b hb)
          have hsplit : es = es.take i ++ e :: es.drop (i + 1) := by
            rw [← (List.getElem?_eq_some_iff.1 he).2]; simp
          have hset : es.set i (putAll e off q.cellsP) = es.take i ++ putAll e off q.cellsP :: es.drop (i + 1) := by
            rw [List.set_eq_take_append_cons_drop]; rw [if_pos hil]
          have hmem : ∀ x ∈ es, x.length = sz := ((relRows_iff _ _).1 k8).1
          have hfull := ((relRows_iff _ _).1 k8).2
          have htk : (es.take i).flatten.length = i * sz := by
            rw [flatten_length _ (fun x hx => hmem x (List.mem_of_mem_take hx))]; simp [Nat.min_eq_left (Nat.le_of_lt hil)]
          have hcellw : ∀ k, w.cell? ⟨L.blk, k, none⟩ = c.toList[k]? := fun k => by rw [cell_row k4]; simp
          have hcellw' : ∀ k, (setRow w L.blk (putAllV c.toList (L.base + i * L.sz + off) v.cells.toList) elem fr).cell? ⟨L.blk, k, none⟩ = (putAllV c.toList (L.base + i * L.sz + off) v.cells.toList)[k]? := fun k => by
            rw [cell_row (setRow_heap_self hblt)]; simp
          have hB : SimBlk κ (setRow w L.blk (putAllV c.toList (L.base + i * L.sz + off) v.cells.toList) elem fr) id (.row ver sz (es.set i (putAll e off q.cellsP)) false) := by
            refine ⟨L, h1, k2, by simp [k3], .inl ⟨h2, ⟨_, elem, fr, setRow_heap_self hblt, by simp [putAllV_length, k5], k6⟩, by simpa using k7, ?_⟩⟩
            rw [relRows_iff]
            refine ⟨fun x hx => ?_, ?_⟩
            · rcases List.mem_or_eq_of_mem_set hx with hx | rfl
              · exact hmem x hx
              · rw [length_putAll]; exact helen
            · rw [hset]
              rw [hsplit] at hfull
              simp only [List.flatten_append, List.flatten_cons, relCells_append, htk, length_putAll] at hfull ⊢
              obtain ⟨f1, f2, f3⟩ := hfull
              refine ⟨relCells_frame (.refl κ) hfzw _ _ _ (fun j hj => ?_) f1, ?_, relCells_frame (.refl κ) hfzw _ _ _ (fun j hj => ?_) f3⟩
              · rw [hcellw, hcellw', putAllV_out]
                left; rw [htk] at hj; rw [k2]; omega
              · obtain ⟨us, u1, u2, u3, u4⟩ := relCells_vals _ _ f2
                have hput := relList_putAll q.cellsP v.cells.toList e us off (RelList.mono (.refl κ) hfzw _ _ u2) (RelList.mono (.refl κ) hfzw _ _ hrc)
                refine relCells_of_list _ _ _ hput (all_putAll _ _ _ u4 g4) (fun j hj => ?_)
                rw [length_putAll] at hj
                rw [hcellw']
                by_cases hin : off ≤ j ∧ j < off + tinf.size
                · obtain ⟨d, rfl⟩ : ∃ d, j = off + d := ⟨j - off, by omega⟩
                  rw [k2, show L.base + i * sz + (off + d) = L.base + i * sz + off + d from by omega]
                  rw [putAllV_in v.cells.toList c.toList _ _ (by rw [hvl]; simp only [Array.length_toList, k5]; rw [k2] at hplace; omega) (by omega)]
                  rw [putAllV_in v.cells.toList us _ _ (by rw [hvl, u1]; omega) (by omega)]
                · rw [putAllV_out v.cells.toList c.toList _ _ (by rw [hvl, k2]; omega), ← hcellw, putAllV_out v.cells.toList us _ _ (by rw [hvl]; omega)]
                  have hj' : j < us.length := by rw [u1]; exact hj
                  rw [List.getElem?_eq_getElem hj']
                  exact u3 j _ (List.getElem?_eq_getElem hj')
              · rw [hcellw, hcellw', putAllV_out]
                right; rw [hvl, k2, helen]; omega
          have := s.change (ver' := ver) (L' := L) (κ' := κ) (w' := setRow w L.blk (putAllV c.toList (L.base + i * L.sz + off) v.cells.toList) elem fr) hσ h1 (.refl κ) rfl rfl
            (fun i v => by split <;> rename_i e <;> first | (rw [e.1, e.2, h1]) | rfl) (Nat.le_refl _) (by rw [setRow_size]; exact Nat.le_refl _) (fun b _ hb => setRow_heap_ne (hb h2)) (fun _ => .inl ⟨h2, rfl⟩) hB
          refine ⟨_, κ, ?_, rfl, this.1, this.2 rfl rfl (by first | exact .refl _ | exact ⟨rfl, Nat.le_succ _⟩ | exact ⟨rfl, Nat.le_refl _⟩)⟩
          simp only [Instr.storeAt, Sem.run_bind, Instr.sureAddr, Sem.run_pure, Result.andThen_ok, storeVar, run_sizeOf hti]
          have hsz : v.cells.size = tinf.size := by simpa using hvl
          rw [if_neg (by simp [hsz])]
          exact hrun
        · cases h
      · cases h
    · cases h
  · cases h
end
def evAlloc (C : Ctx) (st : St) (t : TypeId) : Option (PV × Store × Nat) :=
  match C.B t with
  | some E => some (.ptr st.nx 0 0 0, st.σ.put st.nx (.bld st.nx t E ⟨#[]⟩), st.nx + 1)
  | none => match tz C.P t with
    | some z => evBox st z
    | none => none
def zcells (C : Ctx) (t : TypeId) (i : TI) : Option (List PV) :=
  match tz C.P t with
  | some z => if z.cellsP.length = i.size ∧ z.cellsP.all PV.one = true ∧ i.size ≠ 0 then some z.cellsP else none
  | none => none
def fillRows (size : Nat) (es : List (List PV)) : List (Nat × PV) → Option (List (List PV))
  | [] => some es
  | (k, p) :: rest => if p.cellsP.length = size ∧ k < es.length ∧ p.cellsP.all PV.one = true then fillRows size (es.set k p.cellsP) rest else none
def evBuildSlice (C : Ctx) (st : St) (t : TypeId) (len : Nat) (parts : List (Nat × PV)) : Option (PV × Store × Nat) :=
  match ti C.P t with
  | some ⟨.slice elem, _, _⟩ => match ti C.P elem with
    | some i => match zcells C elem i with
      | some z => if len * i.size ≤ 16777216 then (match fillRows i.size (List.replicate len z) parts with
        | some es => some (.own st.nx 0 0 len false, st.σ.put st.nx (.row 0 i.size es false), st.nx + 1)
        | none => none) else none
      | none => none
    | none => none
  | _ => none
def evMakeSlice (C : Ctx) (st : St) (t : TypeId) (p q : PV) : Option (PV × Store × Nat) :=
  match ti C.P t, natOf p, natOf q with
  | some ⟨.slice elem, _, _⟩, some l, some c => match ti C.P elem with
    | some i => match zcells C elem i with
      | some z => if l ≤ c ∧ 0 < i.bytes ∧ i.bytes * c ≤ 140737488355328 then some (.own st.nx 0 0 l false, st.σ.put st.nx (.row 0 i.size (List.replicate l z) false), st.nx + 1) else none
      | none => none
    | none => none
  | _, _, _ => none
theorem replicate_get {α : Type} (l : List α) (s : Nat) (hs : l.length = s) (hp : 0 < s) : ∀ (n j : Nat), j < n * s → (List.replicate n l).flatten[j]? = l[j % s]?
  | 0, j, h => by simp at h
  | n + 1, j, h => by
    rw [List.replicate_succ, List.flatten_cons]
    by_cases hj : j < s
    · rw [List.getElem?_append_left (by omega), Nat.mod_eq_of_lt hj]
    · rw [List.getElem?_append_right (by omega), hs, replicate_get l s hs hp n (j - s) (by rw [Nat.add_mul] at h; omega), ← Nat.mod_eq_sub_mod (by omega)]
theorem replicate_flat_len {α : Type} (l : List α) (n : Nat) : (List.replicate n l).flatten.length = n * l.length := by
  induction n with
  | zero => simp
  | succ n ih => rw [List.replicate_succ, List.flatten_cons, List.length_append, ih, Nat.add_mul]; omega
theorem range_cells (zs : Array Value) (s n : Nat) (hs : zs.size = s) (hp : 0 < s) : (Array.range (n * s)).map (fun i => zs[i % zs.size]!) = (List.replicate n zs.toList).flatten.toArray := by
  apply Array.ext'
  apply List.ext_getElem?
  intro j
  simp only [Array.toList_map, List.getElem?_map, Array.toList_range]
  by_cases hj : j < n * s
  · rw [List.getElem?_range hj, replicate_get zs.toList s (by simpa using hs) hp n j hj, hs]
    have : j % s < zs.size := by rw [hs]; exact Nat.mod_lt _ hp
    simp [this]
  · rw [List.getElem?_eq_none (by simpa using hj), List.getElem?_eq_none (by rw [List.toList_toArray, replicate_flat_len]; simp [hs]; omega)]
    rfl
theorem relList_flat_rep {κ : Kn} {w : World} {ps : List PV} {vs : List Value} (h : RelList κ w ps vs) : ∀ n : Nat, RelList κ w (List.replicate n ps).flatten (List.replicate n vs).flatten
  | 0 => by simp [RelList]
  | n + 1 => by
    simp only [List.replicate_succ, List.flatten_cons]
    exact relList_append _ _ h (relList_flat_rep h n)
theorem putAll_append : ∀ (cs xs ys : List PV) (o : Nat), putAll (xs ++ ys) (xs.length + o) cs = xs ++ putAll ys o cs
  | [], _, _, _ => rfl
  | c :: cs, xs, ys, o => by
    rw [putAll, putAll, List.set_append_right _ _ (by omega), Nat.add_sub_cancel_left, Nat.add_assoc, putAll_append cs xs _ (o + 1)]
theorem putAll_full : ∀ (cs e rest : List PV), cs.length = e.length → putAll (e ++ rest) 0 cs = cs ++ rest
  | [], e, rest, h => by
    cases e with
    | nil => rfl
    | cons => simp at h
  | c :: cs, e, rest, h => by
    cases e with
    | nil => simp at h
    | cons x e =>
      simp only [List.length_cons, Nat.add_right_cancel_iff] at h
      rw [putAll, List.cons_append, List.set_cons_zero, Nat.zero_add]
      have := putAll_append cs [c] (e ++ rest) 0
      simp only [List.length_singleton, Nat.add_zero, List.singleton_append] at this
      rw [this, putAll_full cs e rest h]
      rfl
theorem putAll_row {size : Nat} {es : List (List PV)} {cs : List PV} {k : Nat} (hl : ∀ e ∈ es, e.length = size) (hc : cs.length = size) (hk : k < es.length) :
    putAll es.flatten (k * size) cs = (es.set k cs).flatten := by
  have hsplit : es = es.take k ++ es[k] :: es.drop (k + 1) := by simp
  have h1 : (es.take k).flatten.length = k * size := by
    rw [flatten_length _ (fun x hx => hl x (List.mem_of_mem_take hx))]; simp [Nat.min_eq_left (Nat.le_of_lt hk)]
  rw [List.set_eq_take_append_cons_drop, if_pos hk]
  conv => lhs; rw [hsplit]
  simp only [List.flatten_append, List.flatten_cons]
  have := putAll_append cs (es.take k).flatten (es[k] ++ (es.drop (k + 1)).flatten) 0
  simp only [h1, Nat.add_zero] at this
  rw [this, putAll_full cs _ _ (by rw [hc, hl _ (List.getElem_mem hk)])]
theorem fillRows_fillP {size : Nat} : ∀ (parts : List (Nat × PV)) (es r : List (List PV)), (∀ e ∈ es, e.length = size) → fillRows size es parts = some r →
    fillP (fun k => some (k * size, size)) es.flatten parts = some r.flatten ∧ (∀ e ∈ r, e.length = size) ∧ r.length = es.length
  | [], es, r, hl, h => by simp only [fillRows, Option.some.injEq] at h; subst h; exact ⟨rfl, hl, rfl⟩
  | (k, p) :: rest, es, r, hl, h => by
    simp only [fillRows] at h
    split at h
    · rename_i hg
      obtain ⟨g1, g2, g3⟩ := hg
      have hl' : ∀ e ∈ es.set k p.cellsP, e.length = size := fun e he => by
        rcases List.mem_or_eq_of_mem_set he with he | rfl
        · exact hl e he
        · exact g1
      obtain ⟨h1, h2, h3⟩ := fillRows_fillP rest _ r hl' h
      refine ⟨?_, h2, by simpa using h3⟩
      have hfit : k * size + size ≤ es.flatten.length := by
        rw [flatten_length _ hl]
        have : (k + 1) * size ≤ es.length * size := Nat.mul_le_mul_right _ g2
        rw [Nat.add_mul, Nat.one_mul] at this
        exact this
      simp only [fillP]
      rw [if_pos ⟨g1, hfit, g3⟩, putAll_row hl g1 g2, h1]
    · cases h
section
variable {C : Ctx} {N : Nat} {κ : Kn} {st : St} {a : Act} {w : World}
theorem zcells_sound {t : TypeId} {i : TI} {z : List PV} (h : zcells C t i = some z) (κ : Kn) (w : World) :
    ∃ zv : Value, (zeroValue t).run C.P w = .ok zv w ∧ RelList κ w z zv.cells.toList ∧ z.length = i.size ∧ z.all PV.one = true ∧ 0 < i.size ∧ zv.cells.size = i.size := by
  unfold zcells at h
  split at h
  · rename_i zp hz
    split at h
    · rename_i hg
      cases h
      obtain ⟨v, g1, g2⟩ := tz_sound hz κ w
      have hr := rel_cells g2 hg.2.1
      have := relList_length _ _ hr
      exact ⟨v, g1, hr, hg.1, hg.2.1, Nat.pos_of_ne_zero hg.2.2, by simpa [hg.1] using this⟩
    · cases h
  · cases h
theorem rel_own_new {κ' : Kn} {L : Loc} {id len cap : Nat} (h1 : κ'.loc id 0 = some L) (h2 : L.real = true) (h4 : L.base = 0) (hl : len ≤ cap) (h5 : cap * L.sz ≤ L.n) (h6 : L.len ≤ cap) :
    Rel κ' w (.own id 0 0 len false) (.slice (some ⟨L.blk, 0, none⟩) len cap) := by
  simp only [Rel]
  exact ⟨_, cap, rfl, hl, (fun h => by cases h), L, h1, .inl ⟨h2, by rw [h4]; simp, by rw [h4]; simpa using h5, fun _ => by omega⟩⟩
theorem rep_len (z : List PV) (n s : Nat) (h : z.length = s) : ∀ e ∈ List.replicate n z, e.length = s := fun e he => by
  rw [List.eq_of_mem_replicate he, h]
theorem rep_one (z : List PV) (n : Nat) (h : z.all PV.one = true) : (List.replicate n z).flatten.all PV.one = true := by
  rw [List.all_eq_true]
  intro x hx
  obtain ⟨l, h1, h2⟩ := List.mem_flatten.1 hx
  rw [List.eq_of_mem_replicate h1] at h2
  exact List.all_eq_true.1 h x h2
theorem evBuildSlice_sound (s : Sim C N κ st a w) {t : TypeId} {len : Nat} {ps : List (Nat × PV)} {vps : Array (Nat × Value)} {r : PV} {σ' : Store} {nx' : Nat} (h : evBuildSlice C st t len ps = some (r, σ', nx'))
    (hi : ps.map (·.1) = vps.toList.map (·.1)) (hp : RelList κ w (ps.map (·.2)) (vps.toList.map (·.2))) :
    ∃ z w' κ', (Instr.buildSlice t len vps).run C.P w = .ok z w' ∧ Rel κ' w' r z ∧ Sim C N κ' { st with σ := σ', nx := nx' } a w' ∧ Evo κ st.σ w κ' σ' w' := by
  unfold evBuildSlice at h
  split at h
  · rename_i elem sz by_ hti
    split at h
    · rename_i i hie
      split at h
      · rename_i z hz
        split at h
        · rename_i h24
          split at h
          · rename_i es hes
            cases h
            obtain ⟨zv, z1, z2, z3, z4, z5, z6⟩ := zcells_sound hz κ w
            obtain ⟨f1, f2, f3⟩ := fillRows_fillP ps _ _ (rep_len z len i.size z3) hes
            obtain ⟨vs', k1, k2, k3⟩ := fillP_sound (κ := κ) (w := w) ps vps.toList (List.replicate len z).flatten (List.replicate len zv.cells.toList).flatten.toArray f1 (by simpa using relList_flat_rep z2 len) (rep_one z len z4) hi hp
            obtain ⟨κ', L, e1, e2, e3, e4, e5, e6, e7, e8, e9, e10⟩ := s.newRow (sz := i.size) (es := es) (vs := vs'.toList) (more := #[]) (elem := elem) (w0 := w) k2 k3 f2 rfl rfl rfl (by first | exact .refl _ | exact ⟨rfl, Nat.le_succ _⟩)
            simp only [List.length_replicate] at f3
            have hvl : vs'.size = len * i.size := by
              have := relList_length _ _ k2
              rw [flatten_length _ f2, f3] at this
              simpa using this
            refine ⟨.slice (some ⟨w.heap.size, 0, none⟩) len len, _, κ', ?_, ?_, e9, e10⟩
            · simp only [Instr.buildSlice, Sem.run_bind, run_underlying hti, Result.andThen_ok, run_sizeOf hie]
              rw [if_neg (by omega)]
              by_cases h0 : len * i.size = 0
              · have hl0 : len = 0 := by rcases Nat.mul_eq_zero.1 h0 with h | h <;> omega
                subst hl0
                simp only [h0, if_true]
                have hm : ∀ (zero : Array Value), (Array.range 0).map (fun x => zero[x % zero.size]!) = #[] := by intro zero; simp
                simp only [List.replicate_zero, List.flatten_nil] at k1
                simp only [hm, k1]
                simp [newRow]
              · rw [if_neg h0]
                simp only [Sem.run_bind, z1, Result.andThen_ok, Sem.run_pure, range_cells zv.cells i.size len z6 z5, k1]
                simp [newRow]
            · rw [← e2]
              exact rel_own_new e7 e1 e3 (Nat.le_refl _) (by rw [e4, e6]; simp [hvl]) (by rw [e5, f3]; exact Nat.le_refl _)
          · cases h
        · cases h
      · cases h
    · cases h
  · cases h
theorem evMakeSlice_sound (s : Sim C N κ st a w) {t : TypeId} {p q r : PV} {u v : Value} {σ' : Store} {nx' : Nat} (h : evMakeSlice C st t p q = some (r, σ', nx')) (hp : Rel κ w p u) (hq : Rel κ w q v) :
    ∃ z w' κ', (Instr.makeSlice t u v).run C.P w = .ok z w' ∧ Rel κ' w' r z ∧ Sim C N κ' { st with σ := σ', nx := nx' } a w' ∧ Evo κ st.σ w κ' σ' w' := by
  unfold evMakeSlice at h
  split at h
  · rename_i elem sz by_ l c hti hl hc
    split at h
    · rename_i i hie
      split at h
      · rename_i z hz
        split at h
        · rename_i hg
          obtain ⟨g1, g2, g3⟩ := hg
          cases h
          obtain ⟨k1, rfl⟩ := natOf_sound hp hl
          obtain ⟨k2, rfl⟩ := natOf_sound hq hc
          obtain ⟨zv, z1, z2, z3, z4, z5, z6⟩ := zcells_sound hz κ w
          have hcb : c ≤ 140737488355328 := Nat.le_trans (Nat.le_mul_of_pos_left c g2) g3
          have hwr : ∀ n : Nat, n ≤ 140737488355328 → IntKind.i64.wrap (n : Int) = (n : Int) := fun n hn => IntWalk.i64_in _ ⟨by omega, by omega⟩
          obtain ⟨κ', L, e1, e2, e3, e4, e5, e6, e7, e8, e9, e10⟩ := s.newRow (sz := i.size) (es := List.replicate l z) (vs := (List.replicate l zv.cells.toList).flatten)
            (more := (List.replicate (c - l) zv.cells.toList).flatten.toArray) (elem := elem) (w0 := w) (relList_flat_rep z2 l) (rep_one z l z4) (rep_len z l i.size z3) rfl rfl rfl (by first | exact .refl _ | exact ⟨rfl, Nat.le_succ _⟩)
          refine ⟨.slice (some ⟨w.heap.size, 0, none⟩) l c, _, κ', ?_, ?_, e9, e10⟩
          · obtain ⟨_, j, j1, j2, j3⟩ := ti_spec hie
            have hbytes : (typeInfo elem).run C.P w = .ok j w := by simp [typeInfo, j1]
            have hal : (asInt (.int k1 (l : Int))).run C.P w = .ok (l : Int) w := by simp [asInt, asIntOf]
            have hac : (asInt (.int k2 (c : Int))).run C.P w = .ok (c : Int) w := by simp [asInt, asIntOf]
            simp only [Instr.makeSlice, Sem.run_bind, run_underlying hti, Result.andThen_ok, hal, hac, hbytes]
            simp only [j3, hwr l (by omega), hwr c hcb]
            have hbig : ¬ ((i.bytes : Int) * (c : Int) > 2 ^ 48) := by
              have h5 : (i.bytes : Int) * (c : Int) ≤ 140737488355328 := by rw [← Int.natCast_mul]; omega
              rw [show ((2 : Int) ^ 48) = 281474976710656 from by decide]
              omega
            have hf : (decide ((c : Int) < 0) || decide ((i.bytes : Int) * (c : Int) > 2 ^ 48) || decide ((l : Int) < 0) || decide ((l : Int) > (c : Int))) = false := by
              rw [decide_eq_false (show ¬ ((c : Int) < 0) by omega), decide_eq_false hbig, decide_eq_false (show ¬ ((l : Int) < 0) by omega), decide_eq_false (show ¬ ((l : Int) > (c : Int)) by omega)]; rfl
            rw [hf]
            simp only [Bool.false_eq_true, if_false]
            simp only [Sem.run_bind, run_askRoom, Result.andThen_ok, run_sizeOf hie, Int.toNat_natCast]
            have hsplit : (List.replicate c zv.cells.toList).flatten = (List.replicate l zv.cells.toList).flatten ++ (List.replicate (c - l) zv.cells.toList).flatten := by
              rw [← List.flatten_append, List.replicate_append_replicate]; congr; omega
            by_cases h0 : c * i.size = 0
            · have hc0 : c = 0 := by rcases Nat.mul_eq_zero.1 h0 with h | h <;> omega
              subst hc0
              have hl0 : l = 0 := by omega
              subst hl0
              have hr0 : Array.range 0 = #[] := rfl
              simp [newRow, hr0]
            · rw [if_neg h0]
              simp only [Sem.run_bind, z1, Result.andThen_ok, Sem.run_pure, range_cells zv.cells i.size c z6 z5, hsplit]
              simp [newRow]
          · rw [← e2]
            refine rel_own_new e7 e1 e3 g1 ?_ (by rw [e5]; simpa using g1)
            rw [e4, e6]
            simp only [List.size_toArray, replicate_flat_len, Array.length_toList, z6, ← Nat.add_mul]
            rw [show l + (c - l) = c from by omega]
            exact Nat.le_refl _
        · cases h
      · cases h
    · cases h
  · cases h
end
def elemsOf (σ : Store) (size : Nat) : PV → Option (List (List PV))
  | .imm es _ => if es.all (fun e => e.length == size) then some es else none
  | .own id ver off len _ => match σ id with
    | some (.row ver' sz es _) => if ver = ver' ∧ sz = size ∧ off + len ≤ es.length then some ((es.drop off).take len) else none
    | _ => none
  | .lit (.slice none 0 0) => some []
  | .lit (.string s) => if size = 1 then some (s.data.toList.map fun b => [.lit (.int .u8 b.toNat)]) else none
  | _ => none
def notIntT (P : Program) (t : TypeId) : Bool :=
  match ti P t with
  | some ⟨.slice _, _, _⟩ | some ⟨.string, _, _⟩ => true
  | _ => false
def evAppend (C : Ctx) (st : St) (t xt : TypeId) (p q : PV) : Option (PV × Store × Nat) :=
  match ti C.P t with
  | some ⟨.slice elem, _, _⟩ => match ti C.P elem with
    | some i => match zcells C elem i, elemsOf st.σ i.size q with
      | some _, some xs => if notIntT C.P xt = true ∧ 0 < i.bytes then
          match p with
          | .own id ver off len false => match st.σ id with
            | some (.row ver' sz es false) => if ver = ver' ∧ sz = i.size ∧ off + len = es.length ∧ (len + xs.length) * i.bytes ≤ 140737488355328 then
                some (.own id (ver + 1) 0 (len + xs.length) false, st.σ.put id (.row (ver + 1) sz (es.drop off ++ xs) false), st.nx) else none
            | _ => none
          | .own _ _ _ _ true | .imm _ true | .lit (.slice none 0 0) => match elemsOf st.σ i.size p with
            | some vs => if (vs = [] ∨ xs ≠ []) ∧ (vs.length + xs.length) * i.bytes ≤ 140737488355328 then
                some (.own st.nx 0 0 (vs.length + xs.length) false, st.σ.put st.nx (.row 0 i.size (vs ++ xs) false), st.nx + 1) else none
            | none => none
          | _ => none
        else none
      | _, _ => none
    | none => none
  | _ => none
section
variable {C : Ctx} {N : Nat} {κ : Kn} {st : St} {a : Act} {w : World}
theorem cell_heap {w w' : World} (h : w'.heap = w.heap) (x : Addr) : w'.cell? x = w.cell? x := by simp only [World.cell?, h]
theorem run_first {P : Program} {w w' : World} {b o n size len cap : Nat} {cs : List PV} (h : RelCells κ w b o cs) (hl : cs.length = n * size) (hh : w'.heap = w.heap) {vs : List Value}
    (hv : vs.length = cs.length) (hc : ∀ j v, vs[j]? = some v → w.cell? ⟨b, o + j, none⟩ = some v) : (Builtin.firstCells size n (.slice (some ⟨b, o, none⟩) len cap)).run P w' = .ok vs.toArray w' := by
  refine run_firstCells_some _ _ _ _ _ _ vs (by rw [hv, hl]) (fun j v hj => ?_)
  rw [addr_add, cell_heap hh]
  exact hc j v hj
theorem elemsOf_sound (s : Sim C N κ st a w) {size : Nat} {q : PV} {es : List (List PV)} {v : Value} (h : elemsOf st.σ size q = some es) (hq : Rel κ w q v) :
    ∃ us : List Value, (∀ w', (Builtin.lenOf v).run C.P w' = .ok es.length w') ∧ (∀ w', w'.heap = w.heap → (Builtin.firstCells size es.length v).run C.P w' = .ok us.toArray w') ∧
      RelList κ w es.flatten us ∧ es.flatten.all PV.one = true ∧ (∀ e ∈ es, e.length = size) ∧ us.length = es.length * size := by
  unfold elemsOf at h
  split at h
  · rename_i es' cl
    split at h
    · rename_i hs
      cases h
      simp only [Rel] at hq
      obtain ⟨A, len, cap, rfl, h1, h2, h3, h4⟩ := hq
      have hsz : ∀ e ∈ es, e.length = size := fun e he => by simpa using List.all_eq_true.1 hs e he
      rcases h4 with h4 | ⟨b, o, s', rfl, hb, hr⟩
      · subst h4
        refine ⟨[], fun w' => by simp [Builtin.lenOf, h1], fun w' _ => ?_, by simp [RelList], by simp, by simp, by simp⟩
        cases A with
        | none => simp [Builtin.firstCells]
        | some x => simp [Builtin.firstCells, loadCells, loadCellsFrom]
      · have hrc := ((relRows_iff _ _).1 hr).2
        obtain ⟨us, u1, u2, u3, u4⟩ := relCells_vals _ _ hrc
        have hfl := flatten_length _ hsz
        exact ⟨us, fun w' => by simp [Builtin.lenOf, h1], fun w' hh => run_first hrc hfl hh u1 u3, RelList.mono κ.bare_le (fun _ _ => rfl) _ _ u2, u4, hsz, by rw [u1, hfl]⟩
    · cases h
  · rename_i id ver off len cl
    split at h
    · rename_i ver' sz es' fz hσ
      split at h
      · rename_i hg
        obtain ⟨rfl, rfl, g3⟩ := hg
        cases h
        simp only [Rel] at hq
        obtain ⟨A, cap, rfl, h1, h2, L, h3, h4⟩ := hq
        obtain ⟨_, L', k1, k2, k3, k4⟩ := s.blk id _ hσ
        rw [h3] at k1; cases k1
        have hlen : ((es'.drop off).take len).length = len := by simp; omega
        rcases h4 with ⟨q1, rfl, q2, q3⟩ | ⟨q1, q2⟩
        · rcases k4 with ⟨_, _, _, k5⟩ | ⟨k5, _⟩
          case inr => rw [q1] at k5; cases k5
          have hr := relRows_take len _ _ (relRows_drop off _ _ k5)
          rw [← k2] at hr
          have hsz := ((relRows_iff _ _).1 hr).1
          have hrc := ((relRows_iff _ _).1 hr).2
          obtain ⟨us, u1, u2, u3, u4⟩ := relCells_vals _ _ hrc
          have hfl := flatten_length _ hsz
          refine ⟨us, fun w' => by simp [Builtin.lenOf, hlen], fun w' hh => ?_, u2, u4, by rw [← k2]; exact hsz, by rw [u1, hfl, k2]⟩
          rw [← k2]
          exact run_first hrc hfl hh u1 u3
        · have hl0 : len = 0 := by omega
          subst hl0
          refine ⟨[], fun w' => by simp [Builtin.lenOf], fun w' _ => ?_, by simp [RelList], by simp, by simp, by simp⟩
          cases A with
          | none => simp [Builtin.firstCells]
          | some x => simp [Builtin.firstCells, loadCells, loadCellsFrom]
      · cases h
    · cases h
  · cases h
    simp only [Rel] at hq
    obtain ⟨rfl, _⟩ := hq
    exact ⟨[], fun w' => by simp [Builtin.lenOf], fun w' _ => by simp [Builtin.firstCells], by simp [RelList], by simp, by simp, by simp⟩
  · rename_i str
    split at h
    · rename_i hs1
      subst hs1
      cases h
      simp only [Rel] at hq
      obtain ⟨rfl, _⟩ := hq
      have hf : (str.data.toList.map fun b => ([PV.lit (.int .u8 b.toNat)] : List PV)).flatten = (str.data.toList.map fun b => Value.int .u8 b.toNat).map .lit := by
        induction str.data.toList with
        | nil => rfl
        | cons x xs ih => simp only [List.map_cons, List.flatten_cons, ih]; rfl
      refine ⟨str.data.toList.map fun b => .int .u8 b.toNat, fun w' => ?_, fun w' _ => ?_, ?_, ?_, ?_, by simp⟩
      · rw [show (str.data.toList.map fun b => ([PV.lit (.int .u8 b.toNat)] : List PV)).length = str.size from by rw [List.length_map, Array.length_toList]; rfl]; rfl
      · have hx : (str.extract 0 str.data.size) = str := by
          rw [show str.data.size = str.size from rfl, ByteArray.extract_zero_size]
        simp only [Builtin.firstCells, Sem.run_pure, List.length_map, Array.length_toList, hx]
        congr 1
        apply Array.ext'
        simp
      · rw [hf]
        exact relList_lits κ w _ (List.all_eq_true.2 fun v hv => by obtain ⟨b, _, rfl⟩ := List.mem_map.1 hv; rfl)
      · rw [hf]; exact List.all_eq_true.2 fun v hv => by obtain ⟨b, _, rfl⟩ := List.mem_map.1 hv; rfl
      · simp
    · cases h
  · cases h
theorem run_append_new {P : Program} {w : World} {t xt ty elem : TypeId} {i : TI} {zv : Value} {A : Option Addr} {sLen sCap n : Nat} {x : Value} {olds news : List Value} {sz by_ : Nat}
    (ht : ti P t = some ⟨.slice elem, sz, by_⟩) (he : ti P elem = some i) (hx : notIntT P xt = true) (hz : ∀ w, (zeroValue elem).run P w = .ok zv w) (hzs : zv.cells.size = i.size) (hb : 0 < i.bytes)
    (hl : ∀ w', (Builtin.lenOf x).run P w' = .ok n w') (ho : ∀ w', w'.heap = w.heap → (Builtin.firstCells i.size sLen (.slice A sLen sCap)).run P w' = .ok olds.toArray w')
    (hn : ∀ w', w'.heap = w.heap → (Builtin.firstCells i.size n x).run P w' = .ok news.toArray w') (hgrow : sCap < sLen + n) (hbytes : (sLen + n) * i.bytes ≤ 140737488355328)
    (hol : olds.length = sLen * i.size) (hnl : news.length = n * i.size) :
    ∃ cap more, sLen + n ≤ cap ∧ more.size = (cap - (sLen + n)) * i.size ∧
      (Builtin.append_ #[t, xt] ty #[.slice A sLen sCap, x]).run P w = .ok (.slice (some ⟨w.heap.size, 0, none⟩) (sLen + n) cap) { w with drawn := w.drawn + 1, heap := w.heap.push (.cells ((olds ++ news).toArray ++ more) elem) } := by
  obtain ⟨_, j, j1, j2, j3⟩ := ti_spec he
  have hbyt : ∀ w', (typeInfo elem).run P w' = .ok j w' := fun w' => by simp [typeInfo, j1]
  let newCap := (Question.appendCap (sLen + n) sCap elem).cut (w.tape w.drawn (.appendCap (sLen + n) sCap elem))
  have hcap : sLen + n ≤ newCap := by simp only [newCap, Question.cut]; omega
  refine ⟨newCap, Builtin.zeroCells zv.cells (newCap - (sLen + n)), hcap, by simp [Builtin.zeroCells, hzs], ?_⟩
  have hsz : ∀ w', (sizeOf elem).run P w' = .ok i.size w' := fun w' => run_sizeOf he
  have hfits := growslice_fits hgrow hbytes
  have hneg1 : ¬ (((sLen + n : Nat) : Int) > IntKind.i64.max ∧ (False ∨ i.bytes = 0)) := by rintro ⟨_, h | h⟩ <;> omega
  have hneg2 : ¬ (sLen + n ≤ sCap) := by omega
  have hneg3 : ¬ (Builtin.nextslicecap (sLen + n) sCap * i.bytes > 2 ^ 48) := by
    rw [show (2 : Nat) ^ 48 = 281474976710656 from by decide]; omega
  unfold notIntT at hx
  split at hx
  case h_3 => cases hx
  all_goals
    rename_i hd
    unfold Builtin.append_
    simp only [List.getElem?_toArray, List.getElem?_cons_zero, List.getElem?_cons_succ, Sem.run_bind, run_underlying ht, Result.andThen_ok, hsz, run_underlying hd, Sem.run_pure, Bool.false_eq_true, if_false, hl, hneg2, hbyt, j3, hneg1, hneg3]
    simp only [Sem.run_bind, run_choose, Question.forced, Bool.false_eq_true, if_false, Result.andThen_ok, hbyt, run_askRoom, ho { w with drawn := w.drawn + 1 } rfl, Bool.not_false, if_true, hn { w with drawn := w.drawn + 1 } rfl, hz, Sem.run_pure]
    simp [newRow, newCap]
    exact ⟨rfl, rfl, rfl⟩
end
section
variable {C : Ctx} {N : Nat} {κ : Kn} {st : St} {a : Act} {w : World}
theorem run_append_fit {P : Program} {w : World} {t xt ty elem : TypeId} {i : TI} {A : Option Addr} {sLen sCap n : Nat} {x : Value} {news : List Value} {sz by_ : Nat}
    (ht : ti P t = some ⟨.slice elem, sz, by_⟩) (he : ti P elem = some i) (hx : notIntT P xt = true)
    (hl : ∀ w', (Builtin.lenOf x).run P w' = .ok n w') (hn : ∀ w', w'.heap = w.heap → (Builtin.firstCells i.size n x).run P w' = .ok news.toArray w') (hfit : sLen + n ≤ sCap) {w2 : World}
    (hst : (match A with
      | some a => storeCells (a.add (sLen * i.size)) news
      | none => pure () : Sem Unit).run P w = .ok () w2) :
    (Builtin.append_ #[t, xt] ty #[.slice A sLen sCap, x]).run P w = .ok (.slice A (sLen + n) sCap) w2 := by
  have hsz : ∀ w', (sizeOf elem).run P w' = .ok i.size w' := fun w' => run_sizeOf he
  unfold notIntT at hx
  split at hx
  case h_3 => cases hx
  all_goals
    rename_i hd
    unfold Builtin.append_
    simp only [List.getElem?_toArray, List.getElem?_cons_zero, List.getElem?_cons_succ, Sem.run_bind, run_underlying ht, Result.andThen_ok, hsz, run_underlying hd, Sem.run_pure, Bool.false_eq_true, if_false, hl, hfit, if_true, Bool.not_false, hn w rfl]
    cases A with
    | none =>
      simp only [Sem.run_pure, Result.ok.injEq, true_and] at hst
      subst hst
      simp
    | some x => simp only [Sem.run_bind, hst, Result.andThen_ok, Sem.run_pure]
theorem evAppend_sound (s : Sim C N κ st a w) {t xt ty : TypeId} {p q r : PV} {u v : Value} {σ' : Store} {nx' : Nat} (h : evAppend C st t xt p q = some (r, σ', nx')) (hp : Rel κ w p u) (hq : Rel κ w q v) :
    ∃ z w' κ', (Builtin.append_ #[t, xt] ty #[u, v]).run C.P w = .ok z w' ∧ Rel κ' w' r z ∧ Sim C N κ' { st with σ := σ', nx := nx' } a w' ∧ Evo κ st.σ w κ' σ' w' := by
  unfold evAppend at h
  split at h
  case h_2 => cases h
  rename_i elem sz0 by0 ht
  split at h
  case h_2 => cases h
  rename_i i he
  split at h
  case h_2 => cases h
  rename_i zc xs hzc hxs
  split at h
  case isFalse => cases h
  rename_i hg0
  obtain ⟨hx, hb⟩ := hg0
  obtain ⟨news, n1, n2, n3, n4, n5, n6⟩ := elemsOf_sound s hxs hq
  obtain ⟨zv, z1, z2, z3, z4, z5, z6⟩ := zcells_sound hzc κ w
  have hzv : ∀ w', (zeroValue elem).run C.P w' = .ok zv w' := fun w' => by
    obtain ⟨zv', y1, y2, y3, y4, y5, y6⟩ := zcells_sound hzc κ w'
    have hpi : ∀ w', (zeroValue elem).run C.P w' = match C.P.info? elem with
        | some j => (match j.zero with | some v => .ok v w' | none => .halt (.unsupported (.resourceLimit "a value of more than 2^22 cells")) w')
        | none => .halt (.stuck "no such type") w' := fun w' => by
      unfold zeroValue typeInfo
      simp only [Sem.run_bind, run_program, Result.andThen_ok]
      cases C.P.info? elem with
      | none => rfl
      | some j => simp only [Sem.run_pure, Result.andThen_ok]; cases j.zero <;> rfl
    rw [hpi w] at z1
    rw [hpi w']
    cases hj : C.P.info? elem with
    | none => rw [hj] at z1; cases z1
    | some j =>
      rw [hj] at z1
      simp only at z1 ⊢
      cases hk : j.zero with
      | none => rw [hk] at z1; cases z1
      | some v => rw [hk] at z1; simp only [Result.ok.injEq, and_true] at z1; simp [z1]
  have fresh : ∀ {vs : List (List PV)} {olds : List Value} {A : Option Addr} {sLen sCap : Nat}, u = .slice A sLen sCap → vs.length = sLen → (∀ w', w'.heap = w.heap → (Builtin.firstCells i.size sLen (.slice A sLen sCap)).run C.P w' = .ok olds.toArray w') →
      RelList κ w vs.flatten olds → vs.flatten.all PV.one = true → (∀ e ∈ vs, e.length = i.size) → olds.length = sLen * i.size → sCap = sLen → (vs = [] ∨ xs ≠ []) → (vs.length + xs.length) * i.bytes ≤ 140737488355328 →
      r = .own st.nx 0 0 (vs.length + xs.length) false → σ' = st.σ.put st.nx (.row 0 i.size (vs ++ xs) false) → nx' = st.nx + 1 →
      ∃ z w' κ', (Builtin.append_ #[t, xt] ty #[u, v]).run C.P w = .ok z w' ∧ Rel κ' w' r z ∧ Sim C N κ' { st with σ := σ', nx := nx' } a w' ∧ Evo κ st.σ w κ' σ' w' := by
    intro vs olds A sLen sCap hu hvl ho o1 o2 o3 o4 hcap hor hby hr hσ hnx
    subst hu hr hσ hnx
    by_cases hxe : xs = []
    · have hve : vs = [] := by rcases hor with h | h; exact h; exact absurd hxe h
      subst hxe hve
      simp only [List.length_nil] at hvl
      have hs0 : sLen = 0 := hvl.symm
      have hc0 : sCap = 0 := by omega
      subst hs0 hc0
      have hrun := run_append_fit (P := C.P) (w := w) (ty := ty) (A := A) (sLen := 0) (sCap := 0) (n := 0) (news := news) ht he hx (by simpa using n1) (by simpa using n2) (Nat.le_refl _) (w2 := w) (by
        have hn0 : news = [] := List.eq_nil_of_length_eq_zero (by simpa using n6)
        subst hn0
        cases A with
        | none => rfl
        | some x => rfl)
      refine ⟨_, w, withLoc κ st.nx 0 ⟨false, 0, 0, i.size, 0, 0⟩, hrun, ?_, ?_⟩
      · simp only [Rel, withLoc]
        exact ⟨A, 0, by simp, by simp, by simp, ⟨false, 0, 0, i.size, 0, 0⟩, by simp, .inr ⟨rfl, fun _ => Nat.le_refl _⟩⟩
      · have hle := withLoc_le (L := ⟨false, 0, 0, i.size, 0, 0⟩) (s.fresh st.nx 0 (Nat.le_refl _)).1
        have := s.made (sz := i.size) (es := []) (L := ⟨false, 0, 0, i.size, 0, 0⟩) (w' := w) (κ' := withLoc κ st.nx 0 ⟨false, 0, 0, i.size, 0, 0⟩) hle rfl rfl (fun _ _ => rfl) (Nat.le_refl _) (fun _ _ => rfl) (fun h => by cases h)
          ⟨⟨false, 0, 0, i.size, 0, 0⟩, by simp [withLoc], rfl, rfl, .inr ⟨rfl, rfl⟩⟩
        exact ⟨this.1, this.2 rfl rfl (by first | exact .refl _ | exact ⟨rfl, Nat.le_succ _⟩ | exact ⟨rfl, Nat.le_refl _⟩)⟩
    · have hxl : 0 < xs.length := List.length_pos_iff.2 hxe
      obtain ⟨cap, more, m1, m2, m3⟩ := run_append_new (ty := ty) (A := A) (sLen := sLen) (sCap := sCap) (n := xs.length) (x := v) (olds := olds) (news := news) ht he hx hzv z6 hb n1 ho n2 (by omega) (by rw [← hvl]; exact hby) o4 n6
      obtain ⟨κ', L, e1, e2, e3, e4, e5, e6, e7, e8, e9, e10⟩ := s.newRow (sz := i.size) (es := vs ++ xs) (vs := olds ++ news) (more := more) (elem := elem) (w0 := { w with drawn := w.drawn + 1 })
        (by rw [List.flatten_append]; exact relList_append _ _ o1 n3) (by rw [List.flatten_append, List.all_append, o2, n4]; rfl)
        (fun e hm => by rcases List.mem_append.1 hm with hm | hm; exact o3 e hm; exact n5 e hm) rfl rfl rfl (by first | exact .refl _ | exact ⟨rfl, Nat.le_succ _⟩)
      refine ⟨_, _, κ', m3, ?_, e9, e10⟩
      rw [← e2, hvl]
      refine rel_own_new e7 e1 e3 m1 ?_ (by rw [e5, List.length_append]; omega)
      rw [e4, e6, m2, List.length_append, o4, n6, ← Nat.add_mul, ← Nat.add_mul]
      rw [show sLen + xs.length + (cap - (sLen + xs.length)) = cap from by omega]
      exact Nat.le_refl _
  split at h
  · -- the row's own end
    rename_i id ver off len
    split at h
    case h_2 => cases h
    rename_i ver' sz es hσ
    split at h
    case isFalse => cases h
    rename_i hg
    obtain ⟨rfl, hsz, hend, hby⟩ := hg
    cases h
    simp only [Rel] at hp
    obtain ⟨A, cap, rfl, h1, _, L, h3, h4⟩ := hp
    obtain ⟨_, L', k1, k2, k3, k4⟩ := s.blk id _ hσ
    rw [h3] at k1; cases k1
    have hold := elemsOf_sound (C := C) (q := .own id ver off len false) (v := .slice A len cap) s (size := i.size) (es := (es.drop off).take len) (by simp only [elemsOf, hσ, hsz, true_and]; rw [if_pos (by omega)]) (by simp only [Rel]; exact ⟨A, cap, rfl, h1, (fun h => by cases h), L, h3, h4⟩)
    have htk : (es.drop off).take len = es.drop off := by rw [List.take_of_length_le]; simp; omega
    rw [htk] at hold
    obtain ⟨olds, o1, o2, o3, o4, o5, o6⟩ := hold
    have hdl : (es.drop off).length = len := by simp; omega
    rw [hdl] at o2 o6
    have hnone : κ.loc id (ver + 1) = none := s.later id ver sz es false (ver + 1) hσ (by omega)
    by_cases hfit : len + xs.length ≤ cap
    · rcases h4 with ⟨q1, rfl, q2, q3⟩ | ⟨q1, q2⟩
      · -- in place
        rcases k4 with ⟨_, ⟨c, el, fr, g1, g2, g3⟩, g4, g5⟩ | ⟨k4, _⟩
        case inr => rw [q1] at k4; cases k4
        have hblt : L.blk < w.heap.size := (Array.getElem?_eq_some_iff.1 g1).1
        have hszL : L.sz = i.size := by rw [k2, hsz]
        have hroom : L.base + (off + len) * i.size + news.length ≤ c.size := by
          have h5 : (off + (len + xs.length)) * L.sz ≤ (off + cap) * L.sz := Nat.mul_le_mul_right _ (by omega)
          have h6 : (off + (len + xs.length)) * L.sz = (off + len) * i.size + xs.length * i.size := by rw [hszL, ← Nat.add_mul]; congr 1; omega
          rw [g2, n6]; omega
        have hrun := run_storeCells (P := C.P) (o := L.base + (off + len) * i.size) news 0 c w g1 (by rw [g2]; exact g3) (by omega) (relList_ones _ _ n3 n4)
        simp only [Nat.add_zero] at hrun
        have hnf : ∀ b, κ.fz b → b ≠ L.blk := fun b hb e => s.nfz L.blk ⟨id, _, hσ, rfl, L, h3, q1, rfl⟩ (e ▸ hb)
        have hfzw : ∀ b, κ.fz b → (setRow w L.blk (putAllV c.toList (L.base + (off + len) * i.size) news) el fr).heap[b]? = w.heap[b]? := fun b hb => setRow_heap_ne (hnf b hb)
        have hle := withLoc_le (L := ⟨true, L.blk, L.base + off * L.sz, L.sz, len + xs.length, L.n⟩) hnone
        have hcellw : ∀ k, w.cell? ⟨L.blk, k, none⟩ = c.toList[k]? := fun k => by rw [cell_row g1]; simp
        have hcellw' : ∀ k, (setRow w L.blk (putAllV c.toList (L.base + (off + len) * i.size) news) el fr).cell? ⟨L.blk, k, none⟩ = (putAllV c.toList (L.base + (off + len) * i.size) news)[k]? := fun k => by
          rw [cell_row (setRow_heap_self hblt)]; simp
        have hB : SimBlk (withLoc κ id (ver + 1) ⟨true, L.blk, L.base + off * L.sz, L.sz, len + xs.length, L.n⟩) (setRow w L.blk (putAllV c.toList (L.base + (off + len) * i.size) news) el fr) id (.row (ver + 1) sz (es.drop off ++ xs) false) := by
          refine ⟨⟨true, L.blk, L.base + off * L.sz, L.sz, len + xs.length, L.n⟩, by simp [withLoc], k2, by simp only [List.length_append, hdl], .inl ⟨rfl, ⟨_, el, fr, setRow_heap_self hblt, by simp [putAllV_length, g2], g3⟩, ?_, ?_⟩⟩
          · simp only [List.length_append, hdl]
            rw [← k2]
            have h5 : (off + (len + xs.length)) * L.sz ≤ (off + cap) * L.sz := Nat.mul_le_mul_right _ (by omega)
            rw [Nat.add_mul] at h5
            omega
          · rw [relRows_iff]
            refine ⟨fun e hm => ?_, ?_⟩
            · rcases List.mem_append.1 hm with hm | hm
              · rw [o5 e hm, hsz]
              · rw [n5 e hm, hsz]
            · rw [List.flatten_append, relCells_append]
              have hofl : (es.drop off).flatten.length = len * i.size := by rw [flatten_length _ o5, hdl]
              have hrows := ((relRows_iff _ _).1 (relRows_drop off _ _ g5)).2
              rw [hofl]
              refine ⟨?_, ?_⟩
              · rw [← k2] at hrows
                refine relCells_frame hle hfzw _ _ _ (fun j hj => ?_) hrows
                rw [hcellw, hcellw', putAllV_out]
                left
                rw [hofl] at hj
                dsimp only
                rw [Nat.add_mul, hszL]; omega
              · refine relCells_of_list _ news _ (RelList.mono hle hfzw _ _ n3) n4 (fun j hj => ?_)
                have hj' : j < news.length := by rw [relList_length _ _ n3]; exact hj
                rw [hcellw', hszL, show L.base + off * i.size + len * i.size + j = L.base + (off + len) * i.size + j from by rw [Nat.add_mul]; omega]
                rw [putAllV_in _ _ _ _ (by simpa using hroom) hj']
        have := s.change (ver' := ver + 1) (L' := ⟨true, L.blk, L.base + off * L.sz, L.sz, len + xs.length, L.n⟩) (κ' := withLoc κ id (ver + 1) ⟨true, L.blk, L.base + off * L.sz, L.sz, len + xs.length, L.n⟩)
          (w' := setRow w L.blk (putAllV c.toList (L.base + (off + len) * i.size) news) el fr) hσ h3 hle rfl rfl (fun _ _ => rfl) (Nat.le_succ _) (by rw [setRow_size]; exact Nat.le_refl _) (fun b _ hb => setRow_heap_ne (hb q1)) (fun _ => .inl ⟨q1, rfl⟩) hB
        refine ⟨_, _, _, run_append_fit ht he hx n1 n2 hfit (by simp only []; rw [addr_add, hszL, show L.base + off * i.size + len * i.size = L.base + (off + len) * i.size from by rw [Nat.add_mul]; omega]; exact hrun), ?_, this.1, this.2 rfl rfl (by first | exact .refl _ | exact ⟨rfl, Nat.le_succ _⟩ | exact ⟨rfl, Nat.le_refl _⟩)⟩
        simp only [Rel]
        refine ⟨_, cap, rfl, hfit, (fun h => by cases h), ⟨true, L.blk, L.base + off * L.sz, L.sz, len + xs.length, L.n⟩, by simp [withLoc], .inl ⟨rfl, by simp, ?_, fun _ => by simpa using hfit⟩⟩
        have : (off + cap) * L.sz = off * L.sz + cap * L.sz := Nat.add_mul _ _ _
        simp only [Nat.zero_add]
        omega
      · -- an empty row without room
        have hl0 : len = 0 := by omega
        have hx0 : xs = [] := List.eq_nil_of_length_eq_zero (by omega)
        subst hl0 hx0 q1
        have hes : es.drop off = [] := List.eq_nil_of_length_eq_zero hdl
        have hn0 : news = [] := List.eq_nil_of_length_eq_zero (by simpa using n6)
        have hrun := run_append_fit (P := C.P) (w := w) (ty := ty) (A := A) (sLen := 0) (sCap := 0) (n := 0) (news := news) ht he hx (by simpa using n1) (by simpa using n2) (Nat.le_refl _) (w2 := w) (by
          subst hn0
          cases A with
          | none => rfl
          | some x => rfl)
        have hle := withLoc_le (L := ⟨false, 0, 0, sz, 0, 0⟩) hnone
        have := s.change (ver' := ver + 1) (es' := es.drop off ++ []) (L' := ⟨false, 0, 0, sz, 0, 0⟩) (κ' := withLoc κ id (ver + 1) ⟨false, 0, 0, sz, 0, 0⟩) (w' := w) hσ h3 hle rfl rfl (fun _ _ => rfl) (Nat.le_succ _) (Nat.le_refl _) (fun _ _ _ => rfl) (fun h => by cases h)
          ⟨⟨false, 0, 0, sz, 0, 0⟩, by simp [withLoc], rfl, by simp [hes], .inr ⟨rfl, by simp [hes]⟩⟩
        refine ⟨_, w, _, hrun, ?_, this.1, this.2 rfl rfl (by first | exact .refl _ | exact ⟨rfl, Nat.le_succ _⟩ | exact ⟨rfl, Nat.le_refl _⟩)⟩
        simp only [Rel]
        exact ⟨A, 0, rfl, by simp, (fun h => by cases h), ⟨false, 0, 0, sz, 0, 0⟩, by simp [withLoc], .inr ⟨rfl, fun _ => Nat.le_refl _⟩⟩
    · -- grown
      obtain ⟨cap', more, m1, m2, m3⟩ := run_append_new (ty := ty) (A := A) (sLen := len) (sCap := cap) (n := xs.length) (x := v) (olds := olds) (news := news) ht he hx hzv z6 hb n1 o2 n2 (by omega) hby o6 n6
      have hvl : (olds ++ news).length = (len + xs.length) * i.size := by rw [List.length_append, o6, n6, Nat.add_mul]
      have hle := withLoc_le (L := ⟨true, w.heap.size, 0, sz, len + xs.length, (olds ++ news).length + more.size⟩) hnone
      have hold : ∀ b, b < w.heap.size → ({ w with drawn := w.drawn + 1, heap := w.heap.push (.cells ((olds ++ news).toArray ++ more) elem) } : World).heap[b]? = w.heap[b]? := by
        intro b hb; rw [Array.getElem?_push, if_neg (by omega)]
      have hthe : ({ w with drawn := w.drawn + 1, heap := w.heap.push (.cells ((olds ++ news).toArray ++ more) elem) } : World).heap[w.heap.size]? = some (.cells ((olds ++ news).toArray ++ more) elem (0, 0)) := by
        rw [Array.getElem?_push, if_pos rfl]
      have hfzw : ∀ b, κ.fz b → ({ w with drawn := w.drawn + 1, heap := w.heap.push (.cells ((olds ++ news).toArray ++ more) elem) } : World).heap[b]? = w.heap[b]? := fun b hb => hold b (s.fzlt b hb)
      have := s.change (ver' := ver + 1) (es' := es.drop off ++ xs) (L' := ⟨true, w.heap.size, 0, sz, len + xs.length, (olds ++ news).length + more.size⟩) (κ' := withLoc κ id (ver + 1) ⟨true, w.heap.size, 0, sz, len + xs.length, (olds ++ news).length + more.size⟩)
        (w' := { w with drawn := w.drawn + 1, heap := w.heap.push (.cells ((olds ++ news).toArray ++ more) elem) }) hσ h3 hle rfl rfl (fun _ _ => rfl) (Nat.le_succ _) (by simp) (fun b hb _ => hold b hb) (fun _ => .inr (Nat.le_refl _)) (by
          refine ⟨⟨true, w.heap.size, 0, sz, len + xs.length, (olds ++ news).length + more.size⟩, by simp [withLoc], rfl, by simp only [List.length_append, hdl], .inl ⟨rfl, ⟨_, elem, (0, 0), hthe, by simp, fun o _ h => by simp at h⟩, ?_, ?_⟩⟩
          · simp only [List.length_append, hdl] at hvl ⊢
            rw [hsz, hvl]; omega
          · rw [relRows_iff]
            refine ⟨fun e hm => ?_, ?_⟩
            · rcases List.mem_append.1 hm with hm | hm
              · rw [o5 e hm, hsz]
              · rw [n5 e hm, hsz]
            · refine relCells_of_list _ (olds ++ news) 0 (RelList.mono hle hfzw _ _ (by rw [List.flatten_append]; exact relList_append _ _ o3 n3)) (by rw [List.flatten_append, List.all_append, o4, n4]; rfl) (fun j hj => ?_)
              have hj' : j < (olds ++ news).length := by rw [relList_length _ _ (relList_append _ _ o3 n3), ← List.flatten_append]; exact hj
              rw [cell_row hthe, Nat.zero_add, Array.getElem?_append_left (by simpa using hj')]
              simp)
      refine ⟨_, _, _, m3, ?_, this.1, this.2 rfl rfl (by first | exact .refl _ | exact ⟨rfl, Nat.le_succ _⟩ | exact ⟨rfl, Nat.le_refl _⟩)⟩
      simp only [Rel]
      refine ⟨_, cap', rfl, m1, (fun h => by cases h), ⟨true, w.heap.size, 0, sz, len + xs.length, (olds ++ news).length + more.size⟩, by simp [withLoc], .inl ⟨rfl, by simp, ?_, fun _ => by simpa using m1⟩⟩
      simp only [Nat.zero_add]
      rw [hvl, m2, hsz, ← Nat.add_mul, show len + xs.length + (cap' - (len + xs.length)) = cap' from by omega]
      exact Nat.le_refl _
  · rename_i id ver off len
    split at h
    case h_2 => cases h
    rename_i vs hvs
    split at h
    case isFalse => cases h
    rename_i hg
    cases h
    have hp0 := hp
    simp only [Rel] at hp
    obtain ⟨A, cap, rfl, h1, h2, _⟩ := hp
    obtain ⟨olds, o1, o2, o3, o4, o5, o6⟩ := elemsOf_sound s hvs hp0
    have hlen : vs.length = len := by
      have := o1 w
      simp only [Builtin.lenOf, Sem.run_pure, Result.ok.injEq, and_true] at this
      exact this.symm
    exact fresh rfl hlen (fun w' hw' => by have := o2 w' hw'; rw [hlen] at this; exact this) o3 o4 o5 (by rw [o6, hlen]) (by simpa using h2) hg.1 hg.2 rfl rfl rfl
  · rename_i es0
    split at h
    case h_2 => cases h
    rename_i vs hvs
    split at h
    case isFalse => cases h
    rename_i hg
    cases h
    have hp0 := hp
    simp only [Rel] at hp
    obtain ⟨A, len, cap, rfl, h0, h1, h2, _⟩ := hp
    obtain ⟨olds, o1, o2, o3, o4, o5, o6⟩ := elemsOf_sound s hvs hp0
    have hlen : vs.length = len := by
      have := o1 w
      simp only [Builtin.lenOf, Sem.run_pure, Result.ok.injEq, and_true] at this
      exact this.symm
    exact fresh rfl hlen (fun w' hw' => by have := o2 w' hw'; rw [hlen] at this; exact this) o3 o4 o5 (by rw [o6, hlen]) (by simpa using h2) hg.1 hg.2 rfl rfl rfl
  · split at h
    case h_2 => cases h
    rename_i vs hvs
    split at h
    case isFalse => cases h
    rename_i hg
    cases h
    have hp0 := hp
    simp only [Rel] at hp
    obtain ⟨rfl, _⟩ := hp
    obtain ⟨olds, o1, o2, o3, o4, o5, o6⟩ := elemsOf_sound s hvs hp0
    have hlen : vs.length = 0 := by
      have := o1 w
      simp only [Builtin.lenOf, Sem.run_pure, Result.ok.injEq, and_true] at this
      exact this.symm
    exact fresh rfl hlen (fun w' hw' => by have := o2 w' hw'; rw [hlen] at this; exact this) o3 o4 o5 (by rw [o6, hlen]) rfl hg.1 hg.2 rfl rfl rfl
  · cases h
end
end Go.Ab
