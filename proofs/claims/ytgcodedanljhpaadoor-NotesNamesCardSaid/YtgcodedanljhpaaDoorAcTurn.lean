/- Blocks that hold nothing of what is told may turn; a function's end. -/
import Derived.Test.YtgcodedanljhpaaDoorAcBase
import Derived.RangeFuncLeaves
import Derived.RangeFuncOwn
set_option linter.unusedSimpArgs false
set_option linter.unusedVariables false
namespace Go.Ab
open Go Go.RowKit
def Cells (w w' : World) : Prop := ∀ b o v, w.cell? ⟨b, o, none⟩ = some v → w'.cell? ⟨b, o, none⟩ = some v
section
variable {κ : Kn} {w w' : World}
mutual
theorem Rel.cells (hw : Cells w w') : ∀ {κ : Kn} (p : PV) (v : Value), Rel κ w p v → Rel κ w' p v
  | κ, .lit u, v, h => by simpa only [Rel] using h
  | κ, .imm es clip, v, h => by
    simp only [Rel] at h ⊢
    obtain ⟨A, len, cap, e, h1, h2, h3, h4⟩ := h
    refine ⟨A, len, cap, e, h1, h2, h3, h4.imp id ?_⟩
    rintro ⟨b, o, s, ha, hb, hr⟩
    exact ⟨b, o, s, ha, hb, RelRows.cells hw b o s es hr⟩
  | κ, .own id ver off len clip, v, h => by
    simp only [Rel] at h ⊢
    exact h
  | κ, .cptr cs, v, h => by
    simp only [Rel] at h ⊢
    obtain ⟨b, o, e, hb, hc⟩ := h
    exact ⟨b, o, e, hb, RelCells.cells hw b o cs hc⟩
  | κ, .ptr id ver i off, v, h => by
    simp only [Rel] at h ⊢
    exact h
  | κ, .clo fn first cap, v, h => by
    simp only [Rel] at h ⊢
    obtain ⟨fs, cs, e, h1, h2⟩ := h
    exact ⟨fs, cs, e, RelList.cells hw _ _ h1, RelList.cells hw _ _ h2⟩
  | κ, .ifc t p, v, h => by
    simp only [Rel] at h ⊢
    obtain ⟨u, e, h1⟩ := h
    exact ⟨u, e, Rel.cells hw p u h1⟩
  | κ, .agg cs, v, h => by
    simp only [Rel] at h ⊢
    obtain ⟨vs, e, h0, h1⟩ := h
    exact ⟨vs, e, h0, RelList.cells hw _ _ h1⟩
  | κ, .tup cs, v, h => by
    simp only [Rel] at h ⊢
    obtain ⟨vs, e, h1⟩ := h
    exact ⟨vs, e, RelList.cells hw _ _ h1⟩
  | κ, .mp id, v, h => by
    simp only [Rel] at h ⊢
    exact h
  | κ, .new _ es, v, h => by simp only [Rel] at h
theorem RelList.cells (hw : Cells w w') : ∀ {κ : Kn} (ps : List PV) (vs : List Value), RelList κ w ps vs → RelList κ w' ps vs
  | κ, [], vs, h => by simpa only [RelList] using h
  | κ, c :: cs, vs, h => by
    simp only [RelList] at h ⊢
    obtain ⟨v, vs', e, h1, h2⟩ := h
    exact ⟨v, vs', e, Rel.cells hw c v h1, RelList.cells hw cs vs' h2⟩
theorem RelCells.cells (hw : Cells w w') : ∀ {κ : Kn} (b o : Nat) (cs : List PV), RelCells κ w b o cs → RelCells κ w' b o cs
  | κ, _, _, [], _ => by simp only [RelCells]
  | κ, b, o, c :: cs, h => by
    simp only [RelCells] at h ⊢
    obtain ⟨⟨v, h1, h2, h3⟩, h4⟩ := h
    exact ⟨⟨v, hw _ _ _ h1, h2, Rel.cells hw c v h3⟩, RelCells.cells hw b (o + 1) cs h4⟩
theorem RelRows.cells (hw : Cells w w') : ∀ {κ : Kn} (b o s : Nat) (es : List (List PV)), RelRows κ w b o s es → RelRows κ w' b o s es
  | κ, _, _, _, [], _ => by simp only [RelRows]
  | κ, b, o, s, e :: es, h => by
    simp only [RelRows] at h ⊢
    obtain ⟨h1, h2, h3⟩ := h
    exact ⟨h1, RelCells.cells hw b o e h2, RelRows.cells hw b (o + s) s es h3⟩
end
theorem RelEnts.cells (hw : Cells w w') : ∀ (kvs : List (Value × PV × Nat)) (es : List MapEntry), RelEnts κ w kvs es → RelEnts κ w' kvs es
  | [], es, h => h
  | (k, p, n) :: r, es, h => by
    obtain ⟨e, es', h1, h2, h3, h4, h5⟩ := h
    exact ⟨e, es', h1, h2, h3, Rel.cells hw _ _ h4, RelEnts.cells hw r es' h5⟩
theorem SimBlk.cells {i : Nat} {B : Blk} (hw : Cells w w') (hb : ∀ b, BlkAt κ i B b → w'.heap[b]? = w.heap[b]?) (h : SimBlk κ w i B) : SimBlk κ w' i B := by
  cases B with
  | row ver sz es fz =>
    obtain ⟨L, h1, h2, h3, h4⟩ := h
    refine ⟨L, h1, h2, h3, h4.imp ?_ id⟩
    rintro ⟨hr, ⟨c, elem, fr, g1, g2, g3⟩, g4, g5⟩
    have he := hb L.blk ⟨L, h1, hr, rfl⟩
    exact ⟨hr, ⟨c, elem, fr, by rw [he]; exact g1, g2, g3⟩, g4, RelRows.cells hw _ _ _ _ g5⟩
  | map kvs clock fz =>
    obtain ⟨r, ents, h1, h2, h3⟩ := h
    exact ⟨r, ents, h1, by rw [hb r h1]; exact h2, RelEnts.cells hw _ _ h3⟩
  | it s pos =>
    obtain ⟨L, h1, h2, h3, h4⟩ := h
    exact ⟨L, h1, h2, h3, by rw [hb L.blk ⟨L, h1, h2, rfl⟩]; exact h4⟩
  | bld r T E s =>
    obtain ⟨L, p, v, h1, h2, h3, h4, h5, h6⟩ := h
    refine ⟨L, p, v, h1, h2, h3, by rw [hb L.blk ⟨i, L, .inl rfl, h1, h2, rfl⟩]; exact h4, h5, h6.imp id ?_⟩
    rintro ⟨M, cap, cur, g1, g2, g3, g4, g5, g6⟩
    exact ⟨M, cap, cur, g1, g2, g3, g4, by rw [hb M.blk ⟨r, M, .inr rfl, g1, g2, rfl⟩]; exact g5, g6⟩
theorem Sim.turn {C : Ctx} {N : Nat} {st : St} {a : Act} (s : Sim C N κ st a w) (hw : Cells w w') (hsz : w.heap.size ≤ w'.heap.size) (hb : ∀ i B b, st.σ i = some B → BlkAt κ i B b → w'.heap[b]? = w.heap[b]?) : Sim C N κ st a w' :=
  ⟨trivial, s.size, fun t v h => ⟨(s.env t v h).1, Rel.cells hw _ _ (s.env t v h).2⟩, fun i B h => ⟨(s.blk i B h).1, (s.blk i B h).2.cells hw (hb i B · h)⟩, s.dist, s.nfz, s.yfz, fun b h => Nat.lt_of_lt_of_le (s.fzlt b h) hsz, s.fresh, s.later,
    fun g cs h => ⟨(s.glob g cs h).1, RelCells.cells hw _ _ _ (s.glob g cs h).2⟩⟩
theorem cells_putObj {D : Nat} {o o' : Obj} (h : w.heap[D]? = some o) (ho : o.isCells = false) : Cells w (w.putObj D o') := fun b k v hv => by
  by_cases e : b = D
  · subst e
    simp only [World.cell?, h] at hv
    cases o <;> simp_all [Obj.isCells]
  · rw [← hv]
    exact cell_congr (World.putObj_heap_other e)
theorem BlkAt.obj {κ : Kn} {i : Nat} {B : Blk} {b : Nat} (h : BlkAt κ i B b) (s : SimBlk κ w i B) : ∃ o, w.heap[b]? = some o ∧ (∀ d, o ≠ .deferred d) ∧ ∀ l, o ≠ .loop l := by
  cases B with
  | row ver sz es fz =>
    obtain ⟨L, h1, h2, h3⟩ := h
    obtain ⟨L', g1, _, _, g4⟩ := s
    rw [h1] at g1; cases g1
    rcases g4 with ⟨_, ⟨c, elem, fr, g, _⟩, _⟩ | ⟨g, _⟩
    · rw [h3] at g; exact ⟨_, g, (fun _ e => by cases e), (fun _ e => by cases e)⟩
    · rw [g] at h2; cases h2
  | map =>
    obtain ⟨r, ents, g1, g2, _⟩ := s
    rw [show κ.mloc i = some b from h] at g1; cases g1
    exact ⟨_, g2, (fun _ e => by cases e), (fun _ e => by cases e)⟩
  | it =>
    obtain ⟨L, h1, h2, h3⟩ := h
    obtain ⟨L', g1, _, _, g4⟩ := s
    rw [h1] at g1; cases g1
    rw [h3] at g4
    exact ⟨_, g4, (fun _ e => by cases e), (fun _ e => by cases e)⟩
  | bld r T E s' =>
    obtain ⟨j, L, h0, h1, h2, h3⟩ := h
    obtain ⟨L', p, v, g1, _, _, g4, _, g6⟩ := s
    subst h3
    have hi : κ.loc i 0 = some L → ∃ o, w.heap[L.blk]? = some o ∧ (∀ d, o ≠ .deferred d) ∧ ∀ l, o ≠ .loop l := fun h => by
      rw [h] at g1; cases g1
      exact ⟨_, g4, (fun _ e => by cases e), (fun _ e => by cases e)⟩
    rcases h0 with rfl | rfl
    · exact hi h1
    · rcases g6 with ⟨rfl, _⟩ | ⟨M, cap, cur, k1, _, _, _, k5, _⟩
      · exact hi h1
      · rw [h1] at k1; cases k1
        exact ⟨_, k5, (fun _ e => by cases e), (fun _ e => by cases e)⟩
theorem Sim.shut {C : Ctx} {N : Nat} {st : St} {a : Act} (s : Sim C N κ st a w) {D : Nat} {d : Option (List Deferred)} {o' : Obj} (h : w.heap[D]? = some (.deferred d)) : Sim C N κ st a (w.putObj D o') :=
  s.turn (cells_putObj h rfl) (by simp) fun i B b hB hb => World.putObj_heap_other fun e => by
    obtain ⟨o, h1, h2, _⟩ := hb.obj (s.blk i B hB).2
    rw [e, h] at h1; cases h1
    exact h2 _ rfl
theorem Evo.shut {κ' : Kn} {σ σ' : Store} {w0 : World} (e : Evo κ σ w0 κ' σ' w) {D : Nat} {o' : Obj} (h : w0.heap.size ≤ D) : Evo κ σ w0 κ' σ' (w.putObj D o') :=
  ⟨e.le, e.os, e.tape, ⟨e.output.eq, e.output.drawn⟩, by simpa using e.size, fun b hb hn => ⟨(World.putObj_heap_other (by omega)).trans (e.keep b hb hn).1, (e.keep b hb hn).2⟩, e.fznew, e.blknew⟩
theorem calls_of_abs {C : Ctx} {st : St} {Q : Exit → St → Prop} {f : FuncId} {fn : Func} {c : Code} {args : Array Value} {R : Ending → World → Prop} (hf : C.P.funcs[f]? = some fn) (hb : fn.body = some c)
    (hc : AbsW C fn.ntmps c st Q) (hs : Sim C fn.ntmps κ st { tmps := args ++ Array.replicate (fn.ntmps - args.size) undef, defers := [] } w)
    (fin : ∀ e a' w' κ' st', Q e st' → Sim C fn.ntmps κ' st' a' w' → Evo κ st.σ w κ' st'.σ w' → (e = .normal ∨ e = .ret) ∧ ∃ v, (results fn a'.tmps).run C.P w' = .ok v w' ∧ R (.returned v) w') : Calls C.P f args w R := by
  refine (callsIn_wd (r := none) (n := 1)).1 (callsIn_of_wp_marks hf hb trivial (wpIn_mono (hc none 1 (.inl rfl) κ _ w hs) ?_) rfl)
  rintro e a' w' ⟨κ', st', q, s', ev, ds, hds, hnd, hm⟩
  have key : ∀ (ds : List Nat) (w' : World), ds.Nodup → (∀ D ∈ ds, w.heap.size ≤ D ∧ w'.heap[D]? = some (.deferred (some []))) → Sim C fn.ntmps κ' st' a' w' → Evo κ st.σ w κ' st'.σ w' →
      LeavesInM (wd none) 1 C.P fn a'.tmps R (ds.map mrk) .returning w' := by
    intro ds
    induction ds with
    | nil =>
      intro w' _ _ s' ev
      exact (fin e a' w' κ' st' q s' ev).2
    | cons D ds ih =>
      intro w' hnd hm s' ev
      rw [List.nodup_cons] at hnd
      obtain ⟨h1, h2⟩ := hm D (by simp)
      refine ⟨(fun h => by cases h), .inl ⟨D, _, rfl, run_takeDeferred h2, ih _ hnd.2 (fun D' hD' => ?_) (s'.shut h2) (ev.shut h1)⟩⟩
      refine ⟨(hm D' (by simp [hD'])).1, (World.putObj_heap_other fun e => by subst e; exact hnd.1 hD').trans (hm D' (by simp [hD'])).2⟩
  have := key ds w' hnd (fun D hD => ⟨(hm D hD).1, (hm D hD).2.1⟩) s' ev
  simp only [List.append_nil] at hds
  rcases (fin e a' w' κ' st' q s' ev).1 with rfl | rfl
  · show LeavesInM (wd none) 1 C.P fn a'.tmps R a'.defers .returning w'
    rw [hds]; exact this
  · show LeavesInM (wd none) 1 C.P fn a'.tmps R a'.defers .returning w'
    rw [hds]; exact this
end
end Go.Ab
