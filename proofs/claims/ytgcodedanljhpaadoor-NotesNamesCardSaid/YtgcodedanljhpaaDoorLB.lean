/- Loops over functions: the rule. -/
import Derived.Test.YtgcodedanljhpaaDoorAcDeep
import Derived.RangeFuncSeq
import Derived.Test.YtgcodedanljhpaaDoorLA
import Derived.RangeFuncBox
import Derived.Shelf.Abstract
import Derived.WalkKit
import Derived.OwnWalkIn
import Derived.TacticsInMore
import Derived.LoopNIn
import Derived.LoopIn
set_option linter.unusedSimpArgs false
set_option linter.unusedVariables false
section
namespace Go.Ab
open Go Go.RowKit
def SeqC (P : Program) (gf : FuncId) (lb : Array Value) (encs : Nat → Array Value) (M : Nat) (Kp : World → World → Prop) (w : World) : Prop :=
  ∀ (n l : Nat) (J : Nat → World → Prop) (Jx : World → Prop) (W : World), Kp w W →
    (∀ k W1, J k W1 → k < M → YieldAt (wd none) (n - 1) P l (encs k) W1 fun e W' => (e = .returned (.bool true) ∧ J (k + 1) W' ∧ Kp W1 W') ∨ (e = .returned (.bool false) ∧ Jx W')) →
    J 0 W → CallsIn (wd none) n P gf (#[.func (.yield l) #[] #[]] ++ lb) W fun e W' => (∃ v, e = .returned v) ∧ (J M W' ∨ Jx W')
def IterSpec (C : Ctx) (gf : FuncId) (caps : List PV) (encs : Nat → List PV) (M : Nat) : Prop :=
  (∀ args w, (callFunc gf args).run C.P w = .ok (.enter gf args) w) ∧ ∀ (κ : Kn) (w : World) (lb : Array Value), (∀ b, κ.fz b → b < w.heap.size) → RelList κ w caps lb.toList →
    ∃ evs : Nat → Array Value, (∀ k, k < M → RelList κ w (encs k) (evs k).toList) ∧ SeqC C.P gf lb evs M (fun A B => ∀ b, κ.fz b → B.heap[b]? = A.heap[b]?) w
def putsE (e : Env) : List Nat → List PV → Env
  | t :: ts, p :: ps => putsE (e.put t p) ts ps
  | _, _ => e
def rndQ (env : Env) (I : Store → Nat → Prop) (Q : Exit → St → Prop) : Exit → St → Prop
  | .normal, s => ∃ s', Weak s s' ∧ I s'.σ s'.nx
  | .ret, s => Q .ret ⟨env, s.σ, s.nx⟩
  | .exit i, s => Q (.exit i) ⟨env, s.σ, s.nx⟩
  | .goto l, s => Q (.goto l) ⟨env, s.σ, s.nx⟩
  | _, _ => False
section
variable {C : Ctx} {N : Nat}
theorem Sim.puts {κ : Kn} {w : World} : ∀ (ts : List Nat) (ps : List PV) (vs : List Value) (st : St) (a : Act), (∀ t ∈ ts, t < N) → ts.length = ps.length → RelList κ w ps vs → Sim C N κ st a w →
    Sim C N κ { st with env := putsE st.env ts ps } { a with tmps := (ts.zip vs).foldl (fun t (p, v) => t.setIfInBounds p v) a.tmps } w
  | [], [], vs, st, a, _, _, h, s => by
    simp only [putsE, List.zip_nil_left, List.foldl_nil]; exact s
  | t :: ts, p :: ps, vs, st, a, ht, hl, h, s => by
    simp only [RelList] at h
    obtain ⟨v, vs', rfl, h1, h2⟩ := h
    have s1 := s.put (d := some t) (fun t' e => by cases e; exact ht _ (by simp)) h1
    exact Sim.puts ts ps vs' (st.put (some t) p) (a.put (some t) v) (fun t' h' => ht t' (by simp [h'])) (by simpa using hl) h2 s1
  | [], _ :: _, _, _, _, _, hl, _, _ => by simp at hl
  | _ :: _, [], _, _, _, _, hl, _, _ => by simp at hl
theorem Sim.reEnv {κ : Kn} {w : World} {st : St} {a a' : Act} {env : Env} (s : Sim C N κ st a w) (hz : a'.tmps.size = N) (he : ∀ t v, env t = some v → t < N ∧ Rel κ w v (a'.tmps.getD t undef)) : Sim C N κ ⟨env, st.σ, st.nx⟩ a' w :=
  ⟨trivial, hz, he, s.blk, s.dist, s.nfz, s.yfz, s.fzlt, s.fresh, s.later, s.glob⟩
theorem not_own {κ : Kn} {w : World} {st : St} {a : Act} (s : Sim C N κ st a w) {b : Nat} {o : Obj} (h : w.heap[b]? = some o) (ho : (∃ d, o = .deferred d) ∨ ∃ l, o = .loop l) : ∀ i B, st.σ i = some B → ¬ BlkAt κ i B b := fun i B hB hb => by
  obtain ⟨o', h1, h2, h3⟩ := hb.obj (s.blk i B hB).2
  rw [h] at h1
  cases h1
  rcases ho with ⟨d, rfl⟩ | ⟨l, rfl⟩
  · exact h2 _ rfl
  · exact h3 _ rfl
theorem Sim.recT {κ : Kn} {w : World} {st : St} {a : Act} (s : Sim C N κ st a w) {b : Nat} {l : Loop} {o' : Obj} (h : w.heap[b]? = some (.loop l)) : Sim C N κ st a (w.putObj b o') :=
  s.turn (cells_putObj h rfl) (by simp) fun i B b' hB hb => World.putObj_heap_other fun e => not_own s h (.inr ⟨l, rfl⟩) i B hB (e ▸ hb)
theorem Evo.kept {κ κ' : Kn} {w w' : World} {st : St} {σ' : Store} {a : Act} (e : Evo κ st.σ w κ' σ' w') (s : Sim C N κ st a w) {b : Nat} {o : Obj} (h : w.heap[b]? = some o) (ho : (∃ d, o = .deferred d) ∨ ∃ l, o = .loop l) : w'.heap[b]? = some o :=
  (e.keep b (Array.getElem?_eq_some_iff.1 h).1 fun ⟨i, B, h1, _, h3⟩ => not_own s h ho i B h1 h3).1.trans h
set_option maxHeartbeats 400000 in
theorem RangeQ.rule {g : Operand} {ps : Array Tmp} {assign body : Code} {st : St} {Q : Exit → St → Prop} {gf : FuncId} {caps : List PV} {encs : Nat → List PV} {M : Nat} (Inv : Nat → Store → Nat → Prop)
    (hg : rd C st.env g = some (.clo (.func gf) [] caps)) (hit : IterSpec C gf caps encs M) (hlen : ∀ k, (encs k).length = ps.size) (hnr : (norng assign && norng body) = true)
    (st0 : St) (hw0 : Weak st st0) (h0 : Inv 0 st0.σ st0.nx)
    (hs : ∀ k σ nx, k < M → Inv k σ nx → vc C N assign ⟨putsE st.env ps.toList (encs k), σ, nx⟩ (thenQ (fun s => vc C N body s (rndQ st.env (Inv (k + 1)) Q)) (fun _ _ => False)))
    (hdone : ∀ σ nx, Inv M σ nx → Q .normal ⟨st.env, σ, nx⟩) : RangeQ C N g ps assign body st Q := by
  intro ho rdd m hrd κ a w s
  simp only [okCode, Bool.and_eq_true] at ho
  simp only [Bool.and_eq_true] at hnr
  obtain rfl : rdd = none := hrd.resolve_right (by simp [norng])
  have hgv := rd_sound s hg
  simp only [Rel] at hgv
  obtain ⟨fs, cs, hgv, hfs, hcs⟩ := hgv
  have hfs' : fs = #[] := by simp only [RelList] at hfs; exact Array.toList_eq_nil_iff.1 hfs
  subst hfs'
  obtain ⟨evs, hev, hseq⟩ := hit.2 κ w cs s.fzlt hcs
  have hps : ∀ t ∈ ps.toList, t < N := fun t ht => by
    have := Array.all_eq_true_iff_forall_mem.1 ho.1.1 t (Array.mem_toList_iff.1 ht)
    simpa using this
  refine wpIn_rangeFunc fun fn hfn => ?_
  obtain ⟨rec, hrec⟩ : ∃ rec : LoopState → Option Code → Loop, rec = fun st pe => { state := st, pending := pe, fn, tmps := a.tmps, params := ps, assign, body, defers := w.heap.size } := ⟨_, rfl⟩
  obtain ⟨W1, hW1⟩ : ∃ W1, (w.alloc (.deferred (some []))).alloc (.loop (rec .ready none)) = W1 := ⟨_, rfl⟩
  have hL1 : W1.heap[w.heap.size + 1]? = some (.loop (rec .ready none)) := by
    rw [← hW1]; have := World.alloc_heap_new (w.alloc (.deferred (some []))) (.loop (rec .ready none)); rwa [World.size_alloc] at this
  have hold : ∀ b, b < w.heap.size → W1.heap[b]? = w.heap[b]? := fun b hb => by
    rw [← hW1]; exact (Below.heap_alloc _ _ _ (by simp; omega)).trans (Below.heap_alloc _ _ _ hb)
  have hD1 : W1.heap[w.heap.size]? = some (.deferred (some [])) := by
    rw [← hW1]; exact (Below.heap_alloc _ _ _ (by simp)).trans (World.alloc_heap_new w _)
  have hsz1 : w.heap.size ≤ W1.heap.size := by rw [← hW1]; simp; omega
  have ev1 : Evo κ st.σ w κ st.σ W1 := Evo.grow (.refl κ) hold hsz1 (by rw [← hW1]; rfl) (by rw [← hW1]; rfl) (by rw [← hW1]; exact ⟨rfl, Nat.le_refl _⟩) (fun _ h => .inl h) (fun _ _ => rfl) (fun _ => rfl)
  have s1 : Sim C N κ st a W1 := s.grow (.refl κ) hold hsz1 (fun _ h => .inl h) (fun _ _ => rfl) (fun _ => rfl)
  have hcall : CallsIn (wd none) (m - 1) C.P gf (#[.func (.yield (w.heap.size + 1)) #[] #[]] ++ cs) W1 (rangePost (wd none) m C.P (w.heap.size + 1) (fun e a' w' => ∃ κ' st', Q e st' ∧ Sim C N κ' st' a' w' ∧ Evo κ st.σ w κ' st'.σ w' ∧ DfOk κ' st'.σ a w a' w') { a with defers := [mrk w.heap.size] ++ a.defers }) := by
    refine (hseq (m - 1) (w.heap.size + 1)
      (fun k W => ∃ κk σk nxk, Inv k σk nxk ∧ Sim C N κk ⟨st.env, σk, nxk⟩ a W ∧ Evo κ st.σ w κk σk W ∧ W.heap[w.heap.size + 1]? = some (.loop (rec .ready none)) ∧ W.heap[w.heap.size]? = some (.deferred (some [])))
      (fun W => ∃ c e κk σk nxk, (∀ (a' : Act) (w' : World) (Q' : Exit → Act → World → Prop), Q' e a' w' → c.wpIn (wd none) m C.P Q' a' w') ∧ Q e ⟨st.env, σk, nxk⟩ ∧ Sim C N κk ⟨st.env, σk, nxk⟩ a W ∧ Evo κ st.σ w κk σk W ∧
        W.heap[w.heap.size + 1]? = some (.loop (rec .done (some c))) ∧ W.heap[w.heap.size]? = some (.deferred (some [])))
      W1 (fun b hb => hold b (s.fzlt b hb)) ?_ ⟨κ, st0.σ, st0.nx, h0, (s1.weak hw0).reEnv s.size fun t v ht => s1.env t v ht, ev1.trans (Evo.weak κ W1 hw0), hL1, hD1⟩).mono ?_
    · rintro k W ⟨κk, σk, nxk, hI, hsk, hek, hl, hd⟩ hk
      have hrl := hek.relList s (hev k hk)
      have hsize : (evs k).size = ps.size := by
        have h1 := relList_length _ _ hrl
        rw [← hlen k, ← h1]; simp
      have hy := run_yield (P := C.P) (args := evs k) hl (by rw [hrec]; exact hsize)
      rw [hrec] at hy
      refine ⟨fn, _, assign, body, hy, roundIn_of_wpIn hfn ?_⟩
      have hsim := Sim.puts ps.toList (encs k) (evs k).toList ⟨st.env, σk, nxk⟩ { a with defers := [] } hps (by rw [hlen]; simp) hrl ⟨trivial, hsk.size, hsk.env, hsk.blk, hsk.dist, hsk.nfz, hsk.yfz, hsk.fzlt, hsk.fresh, hsk.later, hsk.glob⟩
      have hfold : (ps.zip (evs k)).foldl (fun tmps (t, a) => tmps.setIfInBounds t a) a.tmps = (ps.toList.zip (evs k).toList).foldl (fun t (p, v) => t.setIfInBounds p v) a.tmps := by
        rw [← Array.foldl_toList, Array.toList_zip]
      simp only at hfold ⊢
      rw [hfold]
      refine wpIn_mono (vc_sound assign _ _ ho.1.2 (hs k σk nxk hk hI) (some (w.heap.size + 1)) (m - 1 - 1) (.inr hnr.1) κk _ W hsim) ?_
      rintro e a2 W2 ⟨κ2, st2, q, s2, ev2, _⟩
      cases e with
      | normal =>
        have hl2 := ev2.kept hsim hl (.inr ⟨_, rfl⟩)
        have hd2 := ev2.kept hsim hd (.inl ⟨_, rfl⟩)
        have e2 : Evo κ st.σ w κ2 st2.σ W2 := hek.trans ev2
        obtain ⟨W3, hW3⟩ : ∃ W3, W2.putObj (w.heap.size + 1) (.loop { rec .ready none with state := .busy }) = W3 := ⟨_, rfl⟩
        have s3 : Sim C N κ2 st2 a2 W3 := by rw [← hW3]; exact s2.recT hl2
        have e3 : Evo κ st.σ w κ2 st2.σ W3 := by rw [← hW3]; exact e2.shut (by omega)
        have hl3 : W3.heap[w.heap.size + 1]? = some (.loop { rec .ready none with state := .busy }) := by rw [← hW3]; exact World.putObj_heap_same (Array.getElem?_eq_some_iff.1 hl2).1
        have hd3 : W3.heap[w.heap.size]? = some (.deferred (some [])) := by rw [← hW3]; exact (World.putObj_heap_other (by omega)).trans hd2
        refine ⟨W3, by rw [← hW3]; exact run_beginRound hl2 (by rw [hrec]), wpIn_mono (vc_sound body _ _ ho.2 q (some (w.heap.size + 1)) (m - 1 - 1) (.inr hnr.2) κ2 a2 W3 s3) ?_⟩
        rintro e a4 W4 ⟨κ4, st4, q4, s4, ev4, _⟩
        have hl4 := ev4.kept s3 hl3 (.inr ⟨_, rfl⟩)
        have hd4 := ev4.kept s3 hd3 (.inl ⟨_, rfl⟩)
        have e4 : Evo κ st.σ w κ4 st4.σ W4 := e3.trans ev4
        have hz : ∀ (W5 : World) (st5 : St), Sim C N κ4 st5 a4 W5 → Evo κ st.σ w κ4 st5.σ W5 → Sim C N κ4 ⟨st.env, st5.σ, st5.nx⟩ a W5 := fun W5 st5 s5 e5 => s5.reEnv s.size fun t v ht => ⟨(s.env t v ht).1, e5.rel s (s.env t v ht).2⟩
        have fin : ∀ jump : Option Code, (Instr.endRound (w.heap.size + 1) jump).run C.P W4 = .ok (.bool jump.isNone) (W4.putObj (w.heap.size + 1) (.loop (rec (if jump.isNone then .ready else .done) jump))) ∧
            (W4.putObj (w.heap.size + 1) (.loop (rec (if jump.isNone then .ready else .done) jump))).heap[w.heap.size + 1]? = some (.loop (rec (if jump.isNone then .ready else .done) jump)) ∧
            (W4.putObj (w.heap.size + 1) (.loop (rec (if jump.isNone then .ready else .done) jump))).heap[w.heap.size]? = some (.deferred (some [])) ∧
            Sim C N κ4 st4 a4 (W4.putObj (w.heap.size + 1) (.loop (rec (if jump.isNone then .ready else .done) jump))) ∧ Evo κ st.σ w κ4 st4.σ (W4.putObj (w.heap.size + 1) (.loop (rec (if jump.isNone then .ready else .done) jump))) := fun jump => by
          have := run_endRound (P := C.P) jump hl4
          simp only [hrec] at this
          refine ⟨by simp only [hrec]; exact this, World.putObj_heap_same (Array.getElem?_eq_some_iff.1 hl4).1, (World.putObj_heap_other (by omega)).trans hd4, s4.recT hl4, e4.shut (by omega)⟩
        cases e with
        | normal =>
          obtain ⟨s', hw', hI'⟩ := q4
          obtain ⟨f1, f2, f3, f4, f5⟩ := fin none
          have e5 := f5.trans (Evo.weak κ4 _ hw')
          exact ⟨_, _, f1, .inl ⟨rfl, ⟨κ4, s'.σ, s'.nx, hI', hz _ _ (f4.weak hw') e5, e5, f2, f3⟩, fun b hb => (e5.fzkeep s b hb).trans (hek.fzkeep s b hb).symm⟩⟩
        | ret =>
          obtain ⟨f1, f2, f3, f4, f5⟩ := fin (some .ret)
          exact ⟨_, _, f1, .inr ⟨rfl, .ret, .ret, κ4, st4.σ, st4.nx, fun _ _ _ h => wpIn_ret h, q4, hz _ _ f4 f5, f5, f2, f3⟩⟩
        | exit i =>
          obtain ⟨f1, f2, f3, f4, f5⟩ := fin (some (.exit i))
          exact ⟨_, _, f1, .inr ⟨rfl, .exit i, .exit i, κ4, st4.σ, st4.nx, fun _ _ _ h => wpIn_exit h, q4, hz _ _ f4 f5, f5, f2, f3⟩⟩
        | goto i =>
          obtain ⟨f1, f2, f3, f4, f5⟩ := fin (some (.goto i))
          exact ⟨_, _, f1, .inr ⟨rfl, .goto i, .goto i, κ4, st4.σ, st4.nx, fun _ _ _ h => wpIn_goto h, q4, hz _ _ f4 f5, f5, f2, f3⟩⟩
        | panic ch => exact q4.elim
        | outgrown => exact q4.elim
      | _ => exact q.elim
    · have hdf : ∀ (κk : Kn) (σk : Store) (nxk : Nat) (W : World), Sim C N κk ⟨st.env, σk, nxk⟩ a W → W.heap[w.heap.size]? = some (.deferred (some [])) → DfOk κk σk a w { a with defers := [mrk w.heap.size] ++ a.defers } W := fun κk σk nxk W hsk hd =>
        ⟨[w.heap.size], rfl, by simp, fun D hD => by
          obtain rfl : D = w.heap.size := by simpa using hD
          exact ⟨Nat.le_refl _, hd, fun ⟨i, B, h1, _, h3⟩ => not_own hsk hd (.inl ⟨_, rfl⟩) i B h1 h3⟩⟩
      rintro e W6 ⟨⟨v, rfl⟩, ⟨κk, σk, nxk, hI, hsk, hek, hl, hd⟩ | ⟨c, e, κk, σk, nxk, hc, hq, hsk, hek, hl, hd⟩⟩
      · have hs7 : Sim C N κk ⟨st.env, σk, nxk⟩ a (W6.putObj (w.heap.size + 1) (.loop { rec .ready none with state := .exhausted })) := hsk.recT hl
        have hd7 := (World.putObj_heap_other (w := W6) (o := .loop { rec .ready none with state := .exhausted }) (show w.heap.size ≠ w.heap.size + 1 by omega)).trans hd
        have hend : (Instr.endLoop (w.heap.size + 1)).run C.P W6 = .ok none (W6.putObj (w.heap.size + 1) (.loop { rec .ready none with state := .exhausted })) := by
          have := run_endLoop (P := C.P) hl (by rw [hrec]; simp)
          simp only [hrec] at this ⊢; exact this
        refine ⟨none, _, hend, ?_⟩
        exact ⟨κk, ⟨st.env, σk, nxk⟩, hdone σk nxk hI, ⟨trivial, hs7.size, hs7.env, hs7.blk, hs7.dist, hs7.nfz, hs7.yfz, hs7.fzlt, hs7.fresh, hs7.later, hs7.glob⟩, hek.shut (by omega), hdf _ _ _ _ hs7 hd7⟩
      · have hs7 : Sim C N κk ⟨st.env, σk, nxk⟩ a (W6.putObj (w.heap.size + 1) (.loop { rec .done (some c) with state := .exhausted })) := hsk.recT hl
        have hd7 := (World.putObj_heap_other (w := W6) (o := .loop { rec .done (some c) with state := .exhausted }) (show w.heap.size ≠ w.heap.size + 1 by omega)).trans hd
        have hend : (Instr.endLoop (w.heap.size + 1)).run C.P W6 = .ok (some c) (W6.putObj (w.heap.size + 1) (.loop { rec .done (some c) with state := .exhausted })) := by
          have := run_endLoop (P := C.P) hl (by rw [hrec]; simp)
          simp only [hrec] at this ⊢; exact this
        refine ⟨some c, _, hend, hc _ _ _ ?_⟩
        exact ⟨κk, ⟨st.env, σk, nxk⟩, hq, ⟨trivial, hs7.size, hs7.env, hs7.blk, hs7.dist, hs7.nfz, hs7.yfz, hs7.fzlt, hs7.fresh, hs7.later, hs7.glob⟩, hek.shut (by omega), hdf _ _ _ _ hs7 hd7⟩
  refine ⟨w.heap.size + 1, [mrk w.heap.size], W1, { target := .fn (.func gf) cs, args := #[.func (.yield (w.heap.size + 1)) #[] #[]] }, W1, gf, #[.func (.yield (w.heap.size + 1)) #[] #[]] ++ cs, W1, ?_, ?_, ?_, ?_, ?_, ?_⟩
  · rw [← hW1, hrec]; exact run_enterLoop_outer _ _ _ _ _
  · simp only [resolve, hgv]
    simp [go_sem]
  · intro f' _; trivial
  · have := hit.1 (#[.func (.yield (w.heap.size + 1)) #[] #[]] ++ cs) W1
    simp only [invoke]
    exact this
  · exact wd_depth
  · exact hcall
end
end Go.Ab
end

section
/- slices.Backward: its iterator. -/
set_option maxRecDepth 100000
set_option maxHeartbeats 4000000
namespace Go.Ab
open Go Go.Proofs Go.RowKit
attribute [local go_sem] Oper.semAt_some
def ElemsAt (W : World) (Bs o : Nat) (b off len cap : Nat) (z : Nat → Value × Value) : Prop :=
  W.cell? ⟨Bs, o, none⟩ = some (.slice (some ⟨b, off, none⟩) len cap) ∧ ∀ j, j < len → W.cell? ⟨b, off + j * 2, none⟩ = some (z j).1 ∧ W.cell? ⟨b, off + j * 2 + 1, none⟩ = some (z j).2
theorem roundIn_wd {r : Option Nat} {n m : Nat} {P : Program} {l : Nat} {f : FuncId} {tmps : Array Value} {assign body : Code} {w : World} {R : Ending → World → Prop} (h : RoundIn (wd r) n P l f tmps assign body w R) : RoundIn (wd r) m P l f tmps assign body w R :=
  ⟨h.1, fun c cs _ => h.2 c cs (wd_room _)⟩
theorem yieldAt_wd {r : Option Nat} {n m : Nat} {P : Program} {l : Nat} {args : Array Value} {W : World} {R : Ending → World → Prop} (h : YieldAt (wd r) n P l args W R) : YieldAt (wd r) m P l args W R := by
  obtain ⟨fn, tmps, assign, body, h1, h2⟩ := h
  exact ⟨fn, tmps, assign, body, h1, roundIn_wd h2⟩
theorem rowAt2 {κ : Kn} {w : World} : ∀ (es : List (List PV)) (b off j : Nat) {e : List PV}, RelRows κ w b off 2 es → es[j]? = some e → RelCells κ w b (off + j * 2) e
  | [], _, _, _, _, _, h => by simp at h
  | a :: r, b, off, 0, e, hr, h => by
    simp only [RelRows] at hr
    simp only [List.getElem?_cons_zero, Option.some.injEq] at h
    subst h
    simpa using hr.2.1
  | a :: r, b, off, j + 1, e, hr, h => by
    simp only [RelRows] at hr
    have := rowAt2 r b (off + 2) j hr.2.2 (by simpa using h)
    rwa [show off + 2 + j * 2 = off + (j + 1) * 2 from by omega] at this
theorem bk_Ev (F : Fence) (n : Nat) (hF : F.fn 91) (hro : F.round = none) (hn : 1 ≤ n) (l Bs o b off len cap : Nat) (z : Nat → Value × Value) (hlen : len ≤ 2^30) (J : Nat → World → Prop) (Jx : World → Prop) (W : World) (hE : ∀ k W1, J k W1 → ElemsAt W1 Bs o b off len cap z)
    (hY : ∀ k W1, J k W1 → k < len → YieldAt F (n - 1) Tryd.prog l #[.int .i64 (((len : Nat) : Int) - 1 - (k : Int)), .agg #[(z (len - 1 - k)).1, (z (len - 1 - k)).2]] W1 fun e W' => (e = .returned (.bool true) ∧ J (k + 1) W') ∨ (e = .returned (.bool false) ∧ Jx W'))
    (h0 : J 0 W) : CallsIn F n Tryd.prog 91 #[.func (.yield l) #[] #[], .pointer (some ⟨Bs, o, none⟩)] W fun e W' => (∃ v, e = .returned v) ∧ (J len W' ∨ Jx W') := by
  refine callsIn_of_wp Tryd.func91 rfl hF ?_ hro
  simp only [Tryd.ntmps91, List.size_toArray, List.length_cons, List.length_nil, Nat.reduceAdd, Nat.reduceSub, Array.replicate_succ, Array.replicate_zero, List.push_toArray, List.append_toArray, List.nil_append, List.cons_append]
  obtain ⟨hs, hc⟩ := hE 0 W h0
  gi_wp2
  gi_loopw [3] (fun i wr => ∃ k : Nat, k ≤ len ∧ i = .int .i64 (((len : Nat) : Int) - 1 - (k : Int)) ∧ J k wr)
    (fun i _ => (intOf i + 1).toNat)
  case atStart => exact ⟨0, Nat.zero_le _, by simp, h0⟩
  case round =>
    obtain ⟨k, hk, rfl, hJs⟩ := hrel
    obtain ⟨hs, hc⟩ := hE k wr hJs
    by_cases hlt : k < len
    · obtain ⟨fn, tmps, assign, body, hy, hR⟩ := hY k wr hJs hlt
      obtain ⟨c1, c2⟩ := hc (len - 1 - k) (by omega)
      gi_wp2
      refine hR.mono ?_
      rintro e W3 (⟨rfl, hJ3⟩ | ⟨rfl, hJx3⟩)
      · gi_wp2
        go_roundw
        case rel => exact ⟨k + 1, by omega, by first | rfl | (congr 1; omega), hJ3⟩
        case measure => simp [intOf]; omega
      · gi_wp2
        refine bodyPost_ret (results_none rfl _ _ _) rfl ?_
        exact ⟨⟨_, rfl⟩, .inr hJx3⟩
    · obtain rfl : k = len := by omega
      gi_wp2
      go_end0
      exact ⟨⟨_, rfl⟩, .inl hJs⟩
theorem bkn_Ev (F : Fence) (n : Nat) (hF : F.fn 91) (hro : F.round = none) (l Bs o : Nat) (A : Option Addr) (cap : Nat) (J : Nat → World → Prop) (Jx : World → Prop) (W : World) (hs : W.cell? ⟨Bs, o, none⟩ = some (.slice A 0 cap)) (h0 : J 0 W) :
    CallsIn F n Tryd.prog 91 #[.func (.yield l) #[] #[], .pointer (some ⟨Bs, o, none⟩)] W fun e W' => (∃ v, e = .returned v) ∧ (J 0 W' ∨ Jx W') := by
  refine callsIn_of_wp Tryd.func91 rfl hF ?_ hro
  simp only [Tryd.ntmps91, List.size_toArray, List.length_cons, List.length_nil, Nat.reduceAdd, Nat.reduceSub, Array.replicate_succ, Array.replicate_zero, List.push_toArray, List.append_toArray, List.nil_append, List.cons_append]
  gi_wp2
  gi_loopw [3] (fun i wr => i = .int .i64 (-1) ∧ J 0 wr) (fun _ _ => 0)
  case atStart => exact ⟨rfl, h0⟩
  case round =>
    obtain ⟨rfl, hJs⟩ := hrel
    gi_wp2
    go_end0
    exact ⟨⟨_, rfl⟩, .inl hJs⟩
theorem it_Ev (v : List Ev) (hv : v.length ≤ 2^30) : IterSpec cx 91 [.cptr [.imm (v.map cEv) false]] (fun k => [i64 (((v.length : Nat) : Int) - 1 - (k : Int)), .agg (cEv (v.getD (v.length - 1 - k) (⟨0, ⟨#[]⟩⟩ : Ev)))]) v.length := by
  refine ⟨enters_of Tryd.func91 (by kernel_rfl) rfl, fun κ w lb hfz hrel => ?_⟩
  simp only [RelList, Rel, RelCells] at hrel
  obtain ⟨v0, vs', hlb, ⟨Bs, o, rfl, hB, ⟨sv, hsv, _, A, len, cap, rfl, hlen, hcap, _, hrows⟩, _⟩, rfl⟩ := hrel
  obtain rfl : lb = #[.pointer (some ⟨Bs, o, none⟩)] := Array.toList_inj.1 hlb
  have hlen' : len = v.length := by rw [hlen, List.length_map]
  subst hlen'
  obtain ⟨z, hz⟩ : ∃ z : Nat → Value × Value, ∀ j, z j = ((fun e : Ev => Value.int .u8 e.kind) (v.getD j (⟨0, ⟨#[]⟩⟩ : Ev)), (fun e : Ev => Value.string e.chg) (v.getD j (⟨0, ⟨#[]⟩⟩ : Ev))) := ⟨_, fun _ => rfl⟩
  refine ⟨fun k => #[.int .i64 (((v.length : Nat) : Int) - 1 - (k : Int)), .agg #[(z (v.length - 1 - k)).1, (z (v.length - 1 - k)).2]], fun k hk => ?_, fun n l J Jx W hKp hY h0 => ?_⟩
  · simp only [RelList, Rel, hz, cEv, i64, u8, str]
    exact ⟨_, _, rfl, by simp [ground], _, _, rfl, ⟨_, rfl, rfl, _, _, rfl, by simp [ground], _, _, rfl, by simp [ground], rfl⟩, rfl⟩
  have hcell : ∀ {W1 : World}, (∀ b, κ.fz b → W1.heap[b]? = w.heap[b]?) → W1.cell? ⟨Bs, o, none⟩ = some (.slice A v.length cap) := fun h => (cell_congr (h Bs hB)).trans hsv
  rcases Nat.eq_zero_or_pos v.length with h00 | h00
  · rw [h00] at hcell hY ⊢
    have := bkn_Ev (wd none) (n + 1) trivial rfl l Bs o A cap J Jx W (hcell hKp) h0
    exact callsIn_wd.2 (callsIn_wd.1 this)
  have hne : (v.map cEv) ≠ [] := fun e => by
    rw [List.map_eq_nil_iff] at e
    rw [e] at h00
    simp at h00
  obtain ⟨b, off, s, rfl, hb, hr⟩ := hrows.resolve_left hne
  have hs2 : s = 2 := by
    cases hv0 : v with
    | nil => rw [hv0] at h00; simp at h00
    | cons a r => rw [hv0, List.map_cons] at hr; simp only [RelRows] at hr; exact hr.1.symm
  subst hs2
  have hEl : ∀ {W1 : World}, (∀ b, κ.fz b → W1.heap[b]? = w.heap[b]?) → ElemsAt W1 Bs o b off v.length cap z := fun {W1} h => by
    refine ⟨hcell h, fun j hj => ?_⟩
    have hx : (v.map cEv)[j]? = some (cEv v[j]) := by rw [List.getElem?_map, List.getElem?_eq_getElem hj]; rfl
    have := rowAt2 (v.map cEv) b off j hr hx
    have hg : v.getD j (⟨0, ⟨#[]⟩⟩ : Ev) = v[j] := by rw [List.getD_eq_getElem?_getD, List.getElem?_eq_getElem hj]; rfl
    simp only [RelCells, cEv, Rel, i64, u8, str] at this
    obtain ⟨⟨c1, g1, _, rfl, _⟩, ⟨c2, g2, _, rfl, _⟩, _⟩ := this
    rw [hz, hg]
    exact ⟨(cell_congr (h b hb)).trans g1, (cell_congr (h b hb)).trans g2⟩
  have := bk_Ev (wd none) (n + 1) trivial rfl (by omega) l Bs o b off v.length cap z hv (fun k W1 => J k W1 ∧ ∀ b, κ.fz b → W1.heap[b]? = w.heap[b]?) Jx W (fun k W1 h => hEl h.2) (fun k W1 h hk => ?_) ⟨h0, hKp⟩
  · exact callsIn_wd.2 ((callsIn_wd.1 this).mono fun e W' ⟨h1, h2⟩ => ⟨h1, h2.imp (fun h => h.1) id⟩)
  · obtain ⟨fn, tmps, assign, body, y1, y2⟩ := hY k W1 h.1 hk
    refine yieldAt_wd ⟨fn, tmps, assign, body, y1, y2.mono ?_⟩
    rintro e W' (⟨e1, e2, e3⟩ | ⟨e1, e2⟩)
    · exact .inl ⟨e1, e2, fun b hb => (e3 b hb).trans (h.2 b hb)⟩
    · exact .inr ⟨e1, e2⟩
end Go.Ab
end

section
/- Views in plain terms. -/
namespace Go.Ab
open Go
theorem anyI_iff {α : Type} {p : Nat → α → Bool} {l : List α} : anyI p l = true ↔ ∃ (i : Nat) (b : α), l[i]? = some b ∧ p i b = true := by
  unfold anyI
  rw [List.any_eq_true]
  constructor
  · rintro ⟨i, hi, h⟩
    cases hb : l[i]? with
    | none => rw [hb] at h; cases h
    | some b => rw [hb] at h; exact ⟨i, b, hb, h⟩
  · rintro ⟨i, b, hb, h⟩
    exact ⟨i, List.mem_range.2 (List.getElem?_eq_some_iff.1 hb).1, by rw [hb]; exact h⟩
theorem anyI_false {α : Type} {p : Nat → α → Bool} {l : List α} : anyI p l = false ↔ ∀ (i : Nat) (b : α), l[i]? = some b → p i b = false := by
  rw [← Bool.not_eq_true, anyI_iff]
  constructor
  · intro h i b hb
    rw [← Bool.not_eq_true]
    exact fun hp => h ⟨i, b, hb, hp⟩
  · rintro h ⟨i, b, hb, hp⟩
    rw [h i b hb] at hp; cases hp
theorem idx_some {l : List Br} {n : Str} {k : Nat} (h : idx l n = k) : ∃ b, l[k]? = some b ∧ b.name = n := by
  rcases fi_spec (fun b : Br => decide (b.name = n)) l with ⟨h1, _⟩ | ⟨j, x, h1, h2, h3, _⟩
  · unfold idx at h; omega
  · unfold idx at h
    have : j = k := by omega
    subst this
    exact ⟨x, h2, by simpa using h3⟩
theorem idx_nat {l : List Br} {n : Str} (h : 0 ≤ idx l n) : idx l n = ((idx l n).toNat : Int) ∧ (idx l n).toNat < l.length := by
  have e : idx l n = ((idx l n).toNat : Int) := by omega
  obtain ⟨b, hb, _⟩ := idx_some e
  exact ⟨e, (List.getElem?_eq_some_iff.1 hb).1⟩
theorem idx_lo {l : List Br} {n : Str} : -1 ≤ idx l n := fi_lo _ _
theorem idx_first {l : List Br} {n : Str} {i : Nat} {b : Br} (hb : l[i]? = some b) (hn : b.name = n) : 0 ≤ idx l n ∧ idx l n ≤ i := by
  rcases fi_spec (fun b : Br => decide (b.name = n)) l with ⟨_, h2⟩ | ⟨j, x, h1, h2, h3, h4⟩
  · have := h2 b (List.mem_of_getElem? hb)
    simp [hn] at this
  · unfold idx
    rw [h1]
    refine ⟨by omega, ?_⟩
    rcases Nat.lt_or_ge i j with h | h
    · have := h4 i h b hb
      simp [hn] at this
    · omega
theorem idx_take {l : List Br} {n : Str} {i : Nat} (h : 0 ≤ idx (l.take i) n) : idx l n = idx (l.take i) n ∧ (idx l n).toNat < i := by
  obtain ⟨e, hlt⟩ := idx_nat h
  obtain ⟨b, hb, hn⟩ := idx_some e
  have hl : (idx (l.take i) n).toNat < i := by rw [List.length_take] at hlt; omega
  rw [List.getElem?_take, if_pos hl] at hb
  obtain ⟨h1, h2⟩ := idx_first hb hn
  obtain ⟨e', hlt'⟩ := idx_nat h1
  obtain ⟨b', hb', hn'⟩ := idx_some e'
  have hl' : (idx l n).toNat < i := by omega
  have hb2 : (l.take i)[(idx l n).toNat]? = some b' := by rw [List.getElem?_take, if_pos hl']; exact hb'
  have := idx_first hb2 hn'
  exact ⟨by omega, hl'⟩
structure VOk (l : List Br) (cs : List Int) : Prop where
  len : cs.length = l.length
  le8 : l.length ≤ 8
  pos : 0 < l.length
  cnt : ∀ (i : Nat) c, cs[i]? = some c → 0 ≤ c ∧ c ≤ 40
  at0 : ∀ b, l[0]? = some b → b.pos = 0
  at_ : ∀ (i : Nat) b, l[i]? = some b → 0 ≤ b.pos ∧ b.pos ≤ 320
  frm : ∀ (i : Nat) b, l[i]? = some b → 0 < i → 0 ≤ idx l b.frm ∧ (idx l b.frm).toNat < i
  fit : ∀ (i : Nat) b, l[i]? = some b → 0 < i → b.pos ≤ endOf l cs (idx l b.frm).toNat
theorem bchk_ok {l : List Br} (h : bchk l = 0) : l.length ≤ 8 ∧ dupB l = false ∧ (∃ b, l[0]? = some b ∧ b.frm = ⟨#[]⟩ ∧ b.pos = 0) ∧ anyI (brB l) l = false := by
  unfold bchk at h
  split at h
  · omega
  split at h
  · omega
  rename_i h1 h2
  split at h
  · omega
  rename_i b hb0
  split at h
  · omega
  rename_i h3
  split at h
  · omega
  rename_i h4
  rw [not_or, Decidable.not_not, Decidable.not_not] at h3
  exact ⟨by omega, by simpa using h2, ⟨b, hb0, h3⟩, by simpa using h4⟩
theorem brB_false {l : List Br} {i : Nat} {b : Br} (h : brB l i b = false) : nameB b.name = true ∧ 0 ≤ b.pos ∧ b.pos ≤ 320 ∧ (0 < i → 0 ≤ idx (l.take i) b.frm) := by
  unfold brB at h
  simp only [Bool.or_eq_false_iff, Bool.not_eq_false', decide_eq_false_iff_not, Bool.and_eq_false_iff] at h
  obtain ⟨⟨⟨h1, h2⟩, h3⟩, h4⟩ := h
  exact ⟨h1, by omega, by omega, fun hi => by rcases h4 with h4 | h4 <;> omega⟩
theorem vok_of {l : List Br} {cs : List Int} (h : bfits l cs = 0) : VOk l cs := by
  unfold bfits at h
  split at h
  · rename_i h0; exact absurd h h0
  rename_i h0
  rw [Decidable.not_not] at h0
  split at h
  · omega
  rename_i h1
  split at h
  · omega
  rename_i h2
  obtain ⟨g1, g2, ⟨b0, g3, g4, g5⟩, g6⟩ := bchk_ok h0
  rw [not_or, Decidable.not_not, Bool.not_eq_true] at h1
  have hbr := anyI_false.1 g6
  have hft := anyI_false.1 (Bool.not_eq_true _ ▸ h2)
  refine ⟨h1.1, g1, (List.getElem?_eq_some_iff.1 g3).1, fun i c hc => ?_, fun b hb => ?_, fun i b hb => ?_, fun i b hb hi => ?_, fun i b hb hi => ?_⟩
  · have := List.any_eq_false.1 h1.2 c (List.mem_of_getElem? hc)
    simp only [Bool.or_eq_true, decide_eq_true_eq, not_or] at this
    omega
  · rw [g3] at hb; cases hb; exact g5
  · have := brB_false (hbr i b hb); exact ⟨this.2.1, this.2.2.1⟩
  · have := (brB_false (hbr i b hb)).2.2.2 hi
    have h3 := idx_take this
    exact ⟨by omega, h3.2⟩
  · have := hft i b hb
    simp only [fitI, Bool.not_eq_false', Bool.or_eq_true, decide_eq_true_eq] at this
    omega
theorem vws_len (l : List Br) (cs : List Int) : ∀ n, (vws l cs n).length = n
  | 0 => rfl
  | n + 1 => by simp [vws, vws_len l cs n]
theorem vws_get (l : List Br) (cs : List Int) : ∀ (n i : Nat), i < n → (vws l cs n)[i]? = some (vw1 l cs (vws l cs i) i)
  | 0, i, h => by omega
  | n + 1, i, h => by
    rw [vws]
    rcases Nat.lt_or_ge i n with h1 | h1
    · rw [List.getElem?_append_left (by rw [vws_len]; exact h1), vws_get l cs n i h1]
    · obtain rfl : i = n := by omega
      rw [List.getElem?_append_right (by rw [vws_len]; omega), vws_len, Nat.sub_self]; rfl
theorem vw_def {l : List Br} {cs : List Int} {i : Nat} (h : i < l.length) : vw l cs i = vw1 l cs (vws l cs i) i := by
  rw [vw, vws_get l cs _ i h]; rfl
theorem vws_vw {l : List Br} {cs : List Int} {n i : Nat} (h : i < n) (hn : n ≤ l.length) : (vws l cs n)[i]? = some (vw l cs i) := by
  rw [vws_get l cs n i h, vw_def (by omega)]
section
variable {l : List Br} {cs : List Int} (h : VOk l cs)
include h
theorem VOk.at {i : Nat} (hi : i < l.length) : ∃ b c, l[i]? = some b ∧ cs[i]? = some c ∧ 0 ≤ c ∧ c ≤ 40 := by
  have hc : i < cs.length := by rw [h.len]; exact hi
  have h1 : cs[i]? = some cs[i] := List.getElem?_eq_getElem hc
  exact ⟨l[i], cs[i], List.getElem?_eq_getElem hi, h1, h.cnt i _ h1⟩
theorem VOk.eq {i : Nat} {b : Br} {c : Int} (hb : l[i]? = some b) (hc : cs[i]? = some c) :
    vw l cs i = (if i = 0 then [] else (vw l cs (idx l b.frm).toNat).take b.pos.toNat) ++ own i c := by
  have hi := (List.getElem?_eq_some_iff.1 hb).1
  rw [vw_def hi, vw1, hb, hc]
  simp only
  split
  · rfl
  · rename_i h0
    have := h.frm i b hb (by omega)
    rw [vws_vw this.2 (by omega)]; rfl
theorem VOk.length : ∀ (i : Nat), i < l.length → ∀ {b : Br} {c : Int}, l[i]? = some b → cs[i]? = some c → (vw l cs i).length = (b.pos + c).toNat := by
  intro i
  induction i using Nat.strongRecOn with
  | _ i ih =>
    intro hi b c hb hc
    rw [h.eq hb hc, List.length_append]
    have h40 := h.cnt i c hc
    have hp := h.at_ i b hb
    have ho : (own i c).length = c.toNat := by simp [own]
    rw [ho]
    split
    · rename_i h0; subst h0
      have := h.at0 b hb
      simp; omega
    · rename_i h0
      obtain ⟨h1, h2⟩ := h.frm i b hb (by omega)
      obtain ⟨b', c', hb', hc', _⟩ := h.at (i := (idx l b.frm).toNat) (by omega)
      have hf := h.fit i b hb (by omega)
      simp only [endOf, hb', hc'] at hf
      rw [List.length_take, ih _ h2 (by omega) hb' hc']
      omega
theorem VOk.long {i : Nat} {b : Br} (hb : l[i]? = some b) (hi : 0 < i) : b.pos.toNat ≤ (vw l cs (idx l b.frm).toNat).length := by
  have hil := (List.getElem?_eq_some_iff.1 hb).1
  obtain ⟨h1, h2⟩ := h.frm i b hb hi
  obtain ⟨b', c', hb', hc', _⟩ := h.at (i := (idx l b.frm).toNat) (by omega)
  have hf := h.fit i b hb hi
  simp only [endOf, hb', hc'] at hf
  rw [h.length _ (by omega) hb' hc']
  omega
theorem VOk.mem : ∀ (i : Nat), i < l.length → ∀ m ∈ vw l cs i, m.1 ≤ i ∧ ∃ c, cs[m.1]? = some c ∧ (m.2 : Int) < c := by
  intro i
  induction i using Nat.strongRecOn with
  | _ i ih =>
    intro hi m hm
    obtain ⟨b, c, hb, hc, _⟩ := h.at hi
    rw [h.eq hb hc, List.mem_append] at hm
    rcases hm with hm | hm
    · split at hm
      · simp at hm
      · obtain ⟨h1, h2⟩ := h.frm i b hb (by omega)
        have := ih _ h2 (by omega) m (List.mem_of_mem_take hm)
        exact ⟨by omega, this.2⟩
    · simp only [own, List.mem_map, List.mem_range] at hm
      obtain ⟨k, hk, rfl⟩ := hm
      exact ⟨Nat.le_refl _, c, hc, by simp only; omega⟩
theorem VOk.pre {i : Nat} {b : Br} (hb : l[i]? = some b) : (vw l cs i).take b.pos.toNat = if i = 0 then [] else (vw l cs (idx l b.frm).toNat).take b.pos.toNat := by
  have hi := (List.getElem?_eq_some_iff.1 hb).1
  obtain ⟨b', c, hb', hc, _⟩ := h.at hi
  rw [hb] at hb'; cases hb'
  rw [h.eq hb hc]
  split
  · rename_i h0; subst h0
    rw [h.at0 b hb]; simp
  · rename_i h0
    rw [List.take_append_of_le_length (by rw [List.length_take]; have := h.long hb (by omega); omega), List.take_take, Nat.min_self]
theorem VOk.split {i : Nat} {b : Br} {c : Int} (hb : l[i]? = some b) (hc : cs[i]? = some c) : vw l cs i = (vw l cs i).take b.pos.toNat ++ own i c := by
  rw [h.pre hb, h.eq hb hc]
theorem VOk.take_mem {i : Nat} {b : Br} (hb : l[i]? = some b) : ∀ m ∈ (vw l cs i).take b.pos.toNat, m.1 < i ∧ ∃ c, cs[m.1]? = some c ∧ (m.2 : Int) < c := by
  intro m hm
  have hi := (List.getElem?_eq_some_iff.1 hb).1
  rw [h.pre hb] at hm
  split at hm
  · simp at hm
  · obtain ⟨h1, h2⟩ := h.frm i b hb (by omega)
    have := h.mem _ (by omega) m (List.mem_of_mem_take hm)
    exact ⟨by omega, this.2⟩
end
end Go.Ab
end
