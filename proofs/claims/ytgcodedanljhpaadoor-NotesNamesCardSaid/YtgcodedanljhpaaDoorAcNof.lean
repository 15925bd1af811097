/- Abstract values: calls as operations; calls that change the caller's own memory. -/
import Derived.Test.YtgcodedanljhpaaDoorAcCode
set_option linter.unusedSimpArgs false
set_option linter.unusedVariables false
section
namespace Go.Ab
open Go
structure Bel (w w' : World) : Prop where
  os : w'.os = w.os
  tape : w'.tape = w.tape
  output : Outs w w'
  size : w.heap.size ≤ w'.heap.size
  hold : ∀ b, b < w.heap.size → w'.heap[b]? = w.heap[b]?
def isGo (P : Program) (f : FuncId) : Bool :=
  match P.funcs[f]? with
  | some fn => fn.name != "runtime.NumGoroutine" && fn.body.isSome
  | none => false
def StSpec (C : Ctx) (f : FuncId) (ps : List PV) (σ : Store) (nx : Nat) (Q : PV → Store → Nat → Prop) : Prop :=
  isGo C.P f = true ∧ ∀ κ w (vs : List Value), Sim C 0 κ ⟨fun _ => none, σ, nx⟩ { tmps := #[], defers := [] } w → RelList κ w ps vs →
    Calls C.P f vs.toArray w fun e w' => ∃ v r κ' σ' nx', e = .returned v ∧ Q r σ' nx' ∧ Sim C 0 κ' ⟨fun _ => none, σ', nx'⟩ { tmps := #[], defers := [] } w' ∧ Evo κ σ w κ' σ' w' ∧ Rel κ' w' r v
section
variable {C : Ctx} {N : Nat} {κ : Kn} {st : St} {a : Act} {w : World}
theorem Sim.noEnv (s : Sim C N κ st a w) : Sim C 0 κ ⟨fun _ => none, st.σ, st.nx⟩ { tmps := #[], defers := [] } w :=
  ⟨trivial, rfl, fun t v h => (by cases h), s.blk, s.dist, s.nfz, s.yfz, s.fzlt, s.fresh, s.later, s.glob⟩
theorem StSpec.mono {f : FuncId} {ps : List PV} {σ : Store} {nx : Nat} {Q Q' : PV → Store → Nat → Prop} (h : StSpec C f ps σ nx Q) (hq : ∀ r σ' nx', Q r σ' nx' → Q' r σ' nx') : StSpec C f ps σ nx Q' :=
  ⟨h.1, fun κ w vs s hr => (h.2 κ w vs s hr).mono fun e w' ⟨v, r, κ', σ', nx', h1, h2, h3⟩ => ⟨v, r, κ', σ', nx', h1, hq _ _ _ h2, h3⟩⟩
def callArgs (C : Ctx) (st : St) (fo : Operand) (as : Array Operand) : Option (FuncId × List PV) :=
  match rd C st.env fo, rds C st.env as.toList with
  | some (.clo (.func f) first cap), some ps => some (f, first ++ ps ++ cap)
  | _, _ => none
theorem run_call (s : Sim C N κ st a w) {o : Oper} {fo : Operand} {as : Array Operand} {ts : Array TypeId} (ho : o.op = .call { callee := .value fo, args := as, argTypes := ts }) {f : FuncId} {ps : List PV}
    (hc : callArgs C st fo as = some (f, ps)) (hg : isGo C.P f = true) : ∃ vs : List Value, (execOp a.eval o).run C.P w = .ok (.enter f vs.toArray) w ∧ RelList κ w ps vs := by
  unfold callArgs at hc
  split at hc
  · rename_i f' first cap ps' h1 h2
    cases hc
    have hr := rd_sound s h1
    simp only [Rel] at hr
    obtain ⟨fs, cs, e, g1, g2⟩ := hr
    have hrs := rds_sound s _ _ h2
    refine ⟨fs.toList ++ as.toList.map a.eval ++ cs.toList, ?_, relList_append _ _ (relList_append _ _ g1 hrs) g2⟩
    obtain ⟨dst, op, ty, pos, after, guard⟩ := o
    simp only at ho
    subst ho
    unfold isGo at hg
    cases hf : C.P.funcs[f]? with
    | none => rw [hf] at hg; cases hg
    | some fn =>
      rw [hf] at hg
      simp only [Bool.and_eq_true, bne_iff_ne, ne_eq] at hg
      have hname : (fn.name == "runtime.NumGoroutine") = false := by simpa using hg.1
      have hbody : fn.body.isNone = false := by cases hb : fn.body <;> simp_all
      simp only [execOp, resolve, e, Deferred.ofValue, Sem.run_bind, Sem.run_pure, Result.andThen_ok, invoke, callFunc, run_program, hf, hname, Bool.false_eq_true, if_false, hbody]
      congr 2
      apply Array.ext'
      simp
  · cases hc
theorem callArgs_only {ops : Array Oper} {o : Oper} {fo : Operand} {as : Array Operand} {ts : Array TypeId} (ho : o.op = .call { callee := .value fo, args := as, argTypes := ts }) :
    callArgs C { st with env := st.env.only (o.looksAt ops) } fo as = callArgs C st fo as := by
  have hm : ∀ x ∈ o.op.operands, rd C (st.env.only (o.looksAt ops)) x = rd C st.env x := fun x hx => rd_only fun t ht => by
    subst ht
    exact List.mem_append_left _ (List.mem_filterMap.2 ⟨.tmp t, Array.mem_toList_iff.2 hx, rfl⟩)
  unfold callArgs
  simp only
  rw [hm fo (by rw [ho]; simp [Op.operands, Call.operands]), rds_congr as.toList fun x hx => hm x (by rw [ho]; simp [Op.operands, Call.operands, Array.mem_toList_iff.1 hx])]
theorem callArgs_congr {o : Oper} {fo : Operand} {as : Array Operand} {ts : Array TypeId} (ho : o.op = .call { callee := .value fo, args := as, argTypes := ts }) {e e' : Env} {σ σ' : Store} {nx nx' : Nat}
    (h : ∀ x ∈ o.op.operands, rd C e x = rd C e' x) : callArgs C ⟨e, σ, nx⟩ fo as = callArgs C ⟨e', σ', nx'⟩ fo as := by
  unfold callArgs
  simp only
  rw [h fo (by rw [ho]; simp [Op.operands, Call.operands]), rds_congr as.toList fun x hx => h x (by rw [ho]; simp [Op.operands, Call.operands, Array.mem_toList_iff.1 hx])]
theorem opT_of_st {dst : Option Tmp} {fo : Operand} {as : Array Operand} {ts : Array TypeId} {ty : TypeId} {pos : String} {after : Array Edge} {guard : Option (Nat × Bool)} {f : FuncId} {ps : List PV} {K : St → Prop}
    (hdst : ∀ t, dst = some t → t < N) (hc : callArgs C st fo as = some (f, ps)) (hs : StSpec C f ps st.σ st.nx fun r σ' nx' => K (St.put ⟨st.env, σ', nx'⟩ dst r)) :
    OpT C N ⟨dst, .call { callee := .value fo, args := as, argTypes := ts }, ty, pos, after, guard⟩ st K := by
  intro κ a w s next Q hn
  obtain ⟨hg, hspec⟩ := hs
  obtain ⟨vs, h1, h2⟩ := run_call (o := ⟨dst, .call { callee := .value fo, args := as, argTypes := ts }, ty, pos, after, guard⟩) s rfl hc hg
  unfold Oper.wp
  rw [h1]
  simp only [Oper.upon]
  refine (hspec κ w vs s.noEnv h2).mono ?_
  rintro e w' ⟨v, r, κ', σ', nx', rfl, hK, s', ev, hr⟩
  have s2 : Sim C N κ' ⟨st.env, σ', nx'⟩ a w' :=
    ⟨s.defers, s.size, fun t p hp => ⟨(s.env t p hp).1, ev.rel s (s.env t p hp).2⟩, s'.blk, s'.dist, s'.nfz, s'.yfz, s'.fzlt, s'.fresh, s'.later, s'.glob⟩
  refine hn κ' _ _ _ hK (s2.put hdst hr) ?_ put_dfs
  rw [put_rest.1]
  exact ev
def effQ (C : Ctx) (st : St) (o : Oper) (Q : PV → Store → Nat → Prop) : Prop :=
  match o.op with
  | .call { callee := .value fo, args := as, argTypes := _ } => ∃ f ps, callArgs C st fo as = some (f, ps) ∧ StSpec C f ps st.σ st.nx Q ∧ ∃ r σ' nx', Q r σ' nx'
  | op => ∃ p σ' nx', eve C st op = some (p, σ', nx') ∧ Q p σ' nx'
theorem effQ_iff (C : Ctx) (st : St) (o : Oper) (Q : PV → Store → Nat → Prop) : effQ C st o Q ↔
    (∃ fo as ts f ps, o.op = .call { callee := .value fo, args := as, argTypes := ts } ∧ callArgs C st fo as = some (f, ps) ∧ StSpec C f ps st.σ st.nx Q ∧ ∃ r σ' nx', Q r σ' nx') ∨
    ((∀ fo as ts, o.op ≠ .call { callee := .value fo, args := as, argTypes := ts }) ∧ ∃ p σ' nx', eve C st o.op = some (p, σ', nx') ∧ Q p σ' nx') := by
  unfold effQ
  split
  · rename_i fo as ts h
    rw [h]
    constructor
    · rintro ⟨f, ps, h1, h2, h3⟩; exact .inl ⟨fo, as, ts, f, ps, rfl, h1, h2, h3⟩
    · rintro (⟨fo', as', ts', f, ps, h0, h1, h2, h3⟩ | ⟨h0, _⟩)
      · cases h0; exact ⟨f, ps, h1, h2, h3⟩
      · exact absurd rfl (h0 fo as ts)
  · rename_i h
    constructor
    · intro h1; exact .inr ⟨fun fo as ts h2 => h fo as ts h2, h1⟩
    · rintro (⟨fo', as', ts', f, ps, h0, _⟩ | ⟨_, h1⟩)
      · exact absurd h0 (h _ _ _)
      · exact h1
theorem effQ_mono {o : Oper} {Q Q' : PV → Store → Nat → Prop} (h : effQ C st o Q) (hq : ∀ r σ' nx', Q r σ' nx' → Q' r σ' nx') : effQ C st o Q' := by
  rw [effQ_iff] at *
  rcases h with ⟨fo, as, ts, f, ps, h0, h1, h2, r, σ', nx', h3⟩ | ⟨h0, p, σ', nx', h1, h2⟩
  · exact .inl ⟨fo, as, ts, f, ps, h0, h1, h2.mono hq, r, σ', nx', hq _ _ _ h3⟩
  · exact .inr ⟨h0, p, σ', nx', h1, hq _ _ _ h2⟩
theorem effQ_sat {o : Oper} {Q : PV → Store → Nat → Prop} (h : effQ C st o Q) : ∃ r σ' nx', Q r σ' nx' := by
  rw [effQ_iff] at h
  rcases h with ⟨_, _, _, _, _, _, _, _, h⟩ | ⟨_, p, σ', nx', _, h⟩
  · exact h
  · exact ⟨p, σ', nx', h⟩
theorem opT_of_eff {o : Oper} {K : St → Prop} (hd : ∀ t, o.dst = some t → t < N) (h : effQ C st o fun p σ' nx' => K (St.put ⟨st.env, σ', nx'⟩ o.dst p)) : OpT C N o st K := by
  rw [effQ_iff] at h
  rcases h with ⟨fo, as, ts, f, ps, h0, h1, h2, _⟩ | ⟨_, p, σ', nx', h1, h2⟩
  · obtain ⟨dst, op, ty, pos, after, guard⟩ := o
    simp only at h0
    subst h0
    exact opT_of_st hd h1 h2
  · exact opT_of_e hd h1 h2
end
end Go.Ab
end

section
/- Abstract values: trees without own memory; a new slice held as data. -/
namespace Go.Ab
open Go
def flat : PV → Bool
  | .lit _ | .imm _ _ | .cptr _ => true
  | _ => false
mutual
def nofr : PV → Bool
  | .lit _ | .imm _ _ | .cptr _ => true
  | .clo _ f c => nofrs f && nofrs c
  | .ifc _ p => nofr p
  | .agg cs => nofrs cs
  | .tup cs => nofrs cs
  | _ => false
def nofrs : List PV → Bool
  | [] => true
  | p :: ps => nofr p && nofrs ps
end
section
variable {C : Ctx} {N : Nat} {κ : Kn} {st : St} {a : Act} {w : World}
theorem Rel.flat {κ' : Kn} (hle : κ.bare.le κ'.bare) {p : PV} {v : Value} (hf : flat p = true) (h : Rel κ w p v) : Rel κ' w p v := by
  cases p <;> simp only [Go.Ab.flat, Bool.false_eq_true] at hf
  · simpa only [Rel] using h
  · simp only [Rel] at h ⊢
    obtain ⟨A, len, cap, e, h1, h2, h3, h4⟩ := h
    refine ⟨A, len, cap, e, h1, h2, h3, h4.imp id ?_⟩
    rintro ⟨b, o, s, ha, hb, hr⟩
    exact ⟨b, o, s, ha, hle.fz b hb, RelRows.mono hle (fun _ _ => rfl) b o s _ rfl hr⟩
  · simp only [Rel] at h ⊢
    obtain ⟨b, o, e, hb, hc⟩ := h
    exact ⟨b, o, e, hle.fz b hb, RelCells.mono hle (fun _ _ => rfl) b o _ rfl hc⟩
theorem relCells_flat {κ' : Kn} (hle : κ.bare.le κ'.bare) {b : Nat} : ∀ (cs : List PV) (o : Nat), cs.all Go.Ab.flat = true → RelCells κ w b o cs → RelCells κ' w b o cs
  | [], _, _, _ => by simp [RelCells]
  | c :: cs, o, hf, h => by
    simp only [List.all_cons, Bool.and_eq_true] at hf
    simp only [RelCells] at h ⊢
    obtain ⟨⟨v, h1, h2, h3⟩, h4⟩ := h
    exact ⟨⟨v, h1, h2, Rel.flat hle hf.1 h3⟩, relCells_flat hle cs (o + 1) hf.2 h4⟩
theorem relRows_flat {κ' : Kn} (hle : κ.bare.le κ'.bare) {b s : Nat} : ∀ (es : List (List PV)) (o : Nat), es.all (fun e => e.all Go.Ab.flat) = true → RelRows κ w b o s es → RelRows κ' w b o s es
  | [], _, _, _ => by simp [RelRows]
  | e :: es, o, hf, h => by
    simp only [List.all_cons, Bool.and_eq_true] at hf
    simp only [RelRows] at h ⊢
    exact ⟨h.1, relCells_flat hle e o hf.1 h.2.1, relRows_flat hle es (o + s) hf.2 h.2.2⟩
mutual
theorem Rel.nofr {κ' : Kn} (hle : κ.bare.le κ'.bare) : ∀ (p : PV) (v : Value), nofr p = true → Rel κ w p v → Rel κ' w p v
  | .lit u, v, _, h => Rel.flat hle rfl h
  | .imm es c, v, _, h => Rel.flat hle rfl h
  | .cptr cs, v, _, h => Rel.flat hle rfl h
  | .own .., v, hn, _ => by simp [Go.Ab.nofr] at hn
  | .ptr .., v, hn, _ => by simp [Go.Ab.nofr] at hn
  | .mp _, v, hn, _ => by simp [Go.Ab.nofr] at hn
  | .new _ _, v, hn, _ => by simp [Go.Ab.nofr] at hn
  | .clo fn f c, v, hn, h => by
    simp only [Go.Ab.nofr, Bool.and_eq_true] at hn
    simp only [Rel] at h ⊢
    obtain ⟨fs, cs, e, h1, h2⟩ := h
    exact ⟨fs, cs, e, RelList.nofr hle f _ hn.1 h1, RelList.nofr hle c _ hn.2 h2⟩
  | .ifc t p, v, hn, h => by
    simp only [Go.Ab.nofr] at hn
    simp only [Rel] at h ⊢
    obtain ⟨u, e, h1⟩ := h
    exact ⟨u, e, Rel.nofr hle p u hn h1⟩
  | .agg cs, v, hn, h => by
    simp only [Go.Ab.nofr] at hn
    simp only [Rel] at h ⊢
    obtain ⟨vs, e, h0, h1⟩ := h
    exact ⟨vs, e, h0, RelList.nofr hle cs _ hn h1⟩
  | .tup cs, v, hn, h => by
    simp only [Go.Ab.nofr] at hn
    simp only [Rel] at h ⊢
    obtain ⟨vs, e, h1⟩ := h
    exact ⟨vs, e, RelList.nofr hle cs _ hn h1⟩
theorem RelList.nofr {κ' : Kn} (hle : κ.bare.le κ'.bare) : ∀ (ps : List PV) (vs : List Value), nofrs ps = true → RelList κ w ps vs → RelList κ' w ps vs
  | [], vs, _, h => by simpa only [RelList] using h
  | p :: ps, vs, hn, h => by
    simp only [Go.Ab.nofrs, Bool.and_eq_true] at hn
    simp only [RelList] at h ⊢
    obtain ⟨v, vs', e, h1, h2⟩ := h
    exact ⟨v, vs', e, Rel.nofr hle p v hn.1 h1, RelList.nofr hle ps vs' hn.2 h2⟩
end
end
def evBuildI (C : Ctx) (t : TypeId) (len : Nat) (parts : List (Nat × PV)) : Option PV :=
  match ti C.P t with
  | some ⟨.slice elem, _, _⟩ => match ti C.P elem with
    | some i => match zcells C elem i with
      | some z => if len * i.size ≤ 16777216 then (match fillRows i.size (List.replicate len z) parts with
        | some es => if nofrs es.flatten = true then some (.imm es true) else none
        | none => none) else none
      | none => none
    | none => none
  | _ => none
def clipD : PV → Bool
  | .imm _ c => c
  | .lit (.slice none 0 0) => true
  | _ => false
def evAppendI (C : Ctx) (t xt : TypeId) (p q : PV) : Option PV :=
  match ti C.P t with
  | some ⟨.slice elem, _, _⟩ => match ti C.P elem with
    | some i => match zcells C elem i, elemsOf (fun _ => none) i.size p, elemsOf (fun _ => none) i.size q with
      | some _, some vs, some xs => if notIntT C.P xt = true ∧ 0 < i.bytes ∧ clipD p = true ∧ (vs = [] ∨ xs ≠ []) ∧ (vs.length + xs.length) * i.bytes ≤ 140737488355328 ∧ (vs.all fun e => e.all flat) = true ∧ (xs.all fun e => e.all flat) = true then some (.imm (vs ++ xs) false) else none
      | _, _, _ => none
    | none => none
  | _ => none
def evqB (C : Ctx) (σ : Store) (e : Env) : Op → Option PV
  | .buildSlice t len parts => match rdParts C e parts.toList with
    | some ps => evBuildI C t len ps
    | none => none
  | .call { callee := .builtin .append, args, argTypes } => match args.toList, argTypes.toList with
    | [x, y], [t, xt] => match rd C e x, rd C e y with
      | some p, some q => evAppendI C t xt p q
      | _, _ => none
    | _, _ => none
  | op => evq C σ e op
theorem evqB_q {C : Ctx} {σ : Store} {e : Env} {op : Op} (h : opKind op = .q) : evqB C σ e op = evq C σ e op := by
  cases op
  case call c =>
    obtain ⟨callee, args, argTypes⟩ := c
    cases callee <;> first | rfl | skip
    rename_i b
    cases b <;> first | rfl | cases h
  all_goals first | rfl | cases h
theorem evqB_congr {C : Ctx} {e e' : Env} {σ : Store} {op : Op} (h : ∀ x ∈ op.operands, rd C e x = rd C e' x) : evqB C σ e op = evqB C σ e' op := by
  cases op
  case buildSlice t len parts =>
    have hx := rdParts_congr (C := C) (e := e) (e' := e') parts.toList fun x hx => h x (by simpa [Op.operands] using hx)
    simp only [evqB, hx]
  case call c =>
    obtain ⟨callee, args, argTypes⟩ := c
    cases callee
    case builtin b =>
      cases b
      case append =>
        have hx := fun x (hx : x ∈ args) => h x (by simp [Op.operands, Call.operands, hx])
        simp only [evqB]
        split
        · rename_i x y t xt ha ht
          obtain rfl : args = #[x, y] := Array.ext' ha
          simp only [hx x (by simp), hx y (by simp)]
        · rfl
      all_goals exact evq_congr (σ := σ) h
    all_goals exact evq_congr (σ := σ) h
  all_goals exact evq_congr (σ := σ) h
section
variable {C : Ctx} {N : Nat} {κ : Kn} {st : St} {a : Act} {w : World}
theorem evBuildI_sound (s : Sim C N κ st a w) {t : TypeId} {len : Nat} {ps : List (Nat × PV)} {vps : Array (Nat × Value)} {r : PV} (h : evBuildI C t len ps = some r)
    (hi : ps.map (·.1) = vps.toList.map (·.1)) (hp : RelList κ w (ps.map (·.2)) (vps.toList.map (·.2))) :
    ∃ z κ' w', (Instr.buildSlice t len vps).run C.P w = .ok z w' ∧ Gro κ w κ' w' ∧ Rel κ' w' r z := by
  unfold evBuildI at h
  split at h
  · rename_i elem sz by_ hti
    split at h
    · rename_i i hie
      split at h
      · rename_i z hz
        split at h
        · rename_i h24
          split at h
          · rename_i es hes
            split at h
            · rename_i hno
              cases h
              obtain ⟨zv, z1, z2, z3, z4, z5, z6⟩ := zcells_sound hz κ w
              obtain ⟨f1, f2, f3⟩ := fillRows_fillP ps _ _ (rep_len z len i.size z3) hes
              obtain ⟨vs', k1, k2, k3⟩ := fillP_sound (κ := κ) (w := w) ps vps.toList (List.replicate len z).flatten (List.replicate len zv.cells.toList).flatten.toArray f1 (by simpa using relList_flat_rep z2 len) (rep_one z len z4) hi hp
              simp only [List.length_replicate] at f3
              have hvl : vs'.size = len * i.size := by
                have := relList_length _ _ k2
                rw [flatten_length _ f2, f3] at this
                simpa using this
              have hold : ∀ b, b < w.heap.size → ({ w with heap := w.heap.push (.cells (vs'.toList.toArray ++ #[]) elem) } : World).heap[b]? = w.heap[b]? := by
                intro b hb; simp only; rw [Array.getElem?_push, if_neg (by omega)]
              have hthe : ({ w with heap := w.heap.push (.cells (vs'.toList.toArray ++ #[]) elem) } : World).heap[w.heap.size]? = some (.cells (vs'.toList.toArray ++ #[]) elem (0, 0)) := by
                simp only; rw [Array.getElem?_push, if_pos rfl]
              have hg : Gro κ w { κ with fz := fun x => κ.fz x ∨ (w.heap.size ≤ x ∧ x < ({ w with heap := w.heap.push (.cells (vs'.toList.toArray ++ #[]) elem) } : World).heap.size) } { w with heap := w.heap.push (.cells (vs'.toList.toArray ++ #[]) elem) } :=
                ⟨⟨fun _ _ _ h => h, fun _ _ h => h, fun _ h => .inl h⟩, hold, by simp only [Array.size_push]; omega, rfl, rfl, ⟨rfl, Nat.le_refl _⟩, fun _ h => h, fun _ _ => rfl, fun _ => rfl⟩
              have hbare : ∀ (K2 : Kn) (w2 : World), RelList K2 w2 es.flatten vs'.toList → RelList K2.bare w2 es.flatten vs'.toList := fun K2 w2 h => RelList.nofr (κ := K2) (κ' := K2.bare) (Kn.le.refl _) _ _ hno h
              refine ⟨.slice (some ⟨w.heap.size, 0, none⟩) len len, _, _, ?_, hg, ?_⟩
              · simp only [Instr.buildSlice, Sem.run_bind, run_underlying hti, Result.andThen_ok, run_sizeOf hie]
                rw [if_neg (by omega)]
                by_cases h0 : len * i.size = 0
                · have hl0 : len = 0 := by rcases Nat.mul_eq_zero.1 h0 with h | h <;> omega
                  subst hl0
                  simp only [h0, if_true]
                  have hm : ∀ (zero : Array Value), (Array.range 0).map (fun x => zero[x % zero.size]!) = #[] := by intro zero; simp
                  simp only [List.replicate_zero, List.flatten_nil] at k1
                  simp only [hm, k1]
                  simp [newRow]
                · rw [if_neg h0]
                  simp only [Sem.run_bind, z1, Result.andThen_ok, Sem.run_pure, range_cells zv.cells i.size len z6 z5, k1]
                  simp [newRow]
              · simp only [Rel]
                refine ⟨_, len, len, rfl, f3.symm, Nat.le_refl _, fun _ => rfl, .inr ⟨w.heap.size, 0, i.size, rfl, .inr ⟨Nat.le_refl _, by simp only [Array.size_push]; omega⟩, ?_⟩⟩
                rw [relRows_iff]
                refine ⟨f2, relCells_of_list _ vs'.toList 0 (hbare _ _ (RelList.mono hg.le (fun b hb => hold b (s.fzlt b hb)) _ _ k2)) k3 (fun j hj => ?_)⟩
                rw [cell_row hthe]
                simp
            · cases h
          · cases h
        · cases h
      · cases h
    · cases h
  · cases h
theorem elemsOf_none {σ : Store} {size : Nat} {p : PV} {vs : List (List PV)} (h : elemsOf (fun _ => none) size p = some vs) : elemsOf σ size p = some vs := by
  unfold elemsOf at *
  split at h <;> first | exact h | (simp at h)
theorem flat_nofrs : ∀ {e : List PV}, e.all flat = true → nofrs e = true
  | [], _ => rfl
  | p :: r, h => by
    simp only [List.all_cons, Bool.and_eq_true] at h
    simp only [nofrs, Bool.and_eq_true]
    refine ⟨?_, flat_nofrs h.2⟩
    have h1 := h.1
    cases p <;> first | rfl | cases h1
theorem flatRows_nofrs {es : List (List PV)} (h : (es.all fun e => e.all flat) = true) : nofrs es.flatten = true := by
  refine flat_nofrs ?_
  rw [List.all_flatten]; exact h
theorem evAppendI_sound (s : Sim C N κ st a w) {t xt ty : TypeId} {p q r : PV} {u v : Value} (h : evAppendI C t xt p q = some r) (hp : Rel κ w p u) (hq : Rel κ w q v) :
    ∃ z κ' w', (Builtin.append_ #[t, xt] ty #[u, v]).run C.P w = .ok z w' ∧ Gro κ w κ' w' ∧ Rel κ' w' r z := by
  unfold evAppendI at h
  split at h
  case h_2 => cases h
  rename_i elem sz0 by0 ht
  split at h
  case h_2 => cases h
  rename_i i he
  split at h
  case h_2 => cases h
  rename_i zc vs xs hzc hvs hxs
  split at h
  case isFalse => cases h
  rename_i hg0
  cases h
  obtain ⟨hx, hb, hcl, hor, hby, hf1, hf2⟩ := hg0
  obtain ⟨news, n1, n2, n3, n4, n5, n6⟩ := elemsOf_sound s (elemsOf_none hxs) hq
  obtain ⟨olds, o0, o, o1, o2, o3, o4⟩ := elemsOf_sound s (elemsOf_none hvs) hp
  obtain ⟨zv, z1, z2, z3, z4, z5, z6⟩ := zcells_sound hzc κ w
  have hzv : ∀ w', (zeroValue elem).run C.P w' = .ok zv w' := fun w' => by
    have hpi : ∀ w', (zeroValue elem).run C.P w' = match C.P.info? elem with
        | some j => (match j.zero with | some v => .ok v w' | none => .halt (.unsupported (.resourceLimit "a value of more than 2^22 cells")) w')
        | none => .halt (.stuck "no such type") w' := fun w' => by
      unfold zeroValue typeInfo
      simp only [Sem.run_bind, run_program, Result.andThen_ok]
      cases C.P.info? elem with
      | none => rfl
      | some j => simp only [Sem.run_pure, Result.andThen_ok]; cases j.zero <;> rfl
    rw [hpi w] at z1
    rw [hpi w']
    cases hj : C.P.info? elem with
    | none => rw [hj] at z1; cases z1
    | some j =>
      rw [hj] at z1
      simp only at z1 ⊢
      cases hk : j.zero with
      | none => rw [hk] at z1; cases z1
      | some v => rw [hk] at z1; simp only [Result.ok.injEq, and_true] at z1; simp [z1]
  obtain ⟨A, hu⟩ : ∃ A, u = .slice A vs.length vs.length := by
    unfold elemsOf at hvs
    split at hvs
    · rename_i es c
      split at hvs
      · cases hvs
        simp only [clipD] at hcl
        simp only [Rel] at hp
        obtain ⟨A, len, cap, e, h1, h2, h3, _⟩ := hp
        exact ⟨A, by rw [e, h3 hcl, h1]⟩
      · cases hvs
    · simp at hvs
    · cases hvs
      simp only [Rel] at hp
      exact ⟨none, hp.1⟩
    · simp [clipD] at hcl
    · cases hvs
  subst hu
  by_cases hxe : xs = []
  · have hve : vs = [] := by rcases hor with h | h; exact h; exact absurd hxe h
    subst hxe hve
    have hrun := run_append_fit (P := C.P) (w := w) (ty := ty) (A := A) (sLen := 0) (sCap := 0) (n := 0) (news := news) ht he hx (by simpa using n1) (by simpa using n2) (Nat.le_refl _) (w2 := w) (by
      have hn0 : news = [] := List.eq_nil_of_length_eq_zero (by simpa using n6)
      subst hn0
      cases A with
      | none => rfl
      | some x => rfl)
    refine ⟨_, κ, w, hrun, .refl κ w, ?_⟩
    simp only [Rel]
    exact ⟨A, 0, 0, rfl, rfl, Nat.le_refl _, fun h => (by cases h), .inl (by simp)⟩
  · have hxl : 0 < xs.length := List.length_pos_iff.2 hxe
    obtain ⟨cap, more, m1, m2, m3⟩ := run_append_new (ty := ty) (A := A) (sLen := vs.length) (sCap := vs.length) (n := xs.length) (x := v) (olds := olds) (news := news) ht he hx hzv z6 hb n1 o n2 (by omega) hby o4 n6
    have hold : ∀ b, b < w.heap.size → ({ w with drawn := w.drawn + 1, heap := w.heap.push (.cells ((olds ++ news).toArray ++ more) elem) } : World).heap[b]? = w.heap[b]? := by
      intro b hb; rw [Array.getElem?_push, if_neg (by omega)]
    have hthe : ({ w with drawn := w.drawn + 1, heap := w.heap.push (.cells ((olds ++ news).toArray ++ more) elem) } : World).heap[w.heap.size]? = some (.cells ((olds ++ news).toArray ++ more) elem (0, 0)) := by
      rw [Array.getElem?_push, if_pos rfl]
    have hg : Gro κ w { κ with fz := fun x => κ.fz x ∨ (w.heap.size ≤ x ∧ x < ({ w with drawn := w.drawn + 1, heap := w.heap.push (.cells ((olds ++ news).toArray ++ more) elem) } : World).heap.size) } { w with drawn := w.drawn + 1, heap := w.heap.push (.cells ((olds ++ news).toArray ++ more) elem) } :=
      ⟨⟨fun _ _ _ h => h, fun _ _ h => h, fun _ h => .inl h⟩, hold, by simp only [Array.size_push]; omega, rfl, rfl, ⟨rfl, Nat.le_succ _⟩, fun _ h => h, fun _ _ => rfl, fun _ => rfl⟩
    have hbare : ∀ (K2 : Kn) (w2 : World), RelList K2 w2 (vs ++ xs).flatten (olds ++ news) → RelList K2.bare w2 (vs ++ xs).flatten (olds ++ news) := fun K2 w2 h => RelList.nofr (κ := K2) (κ' := K2.bare) (Kn.le.refl _) _ _ (flatRows_nofrs (by rw [List.all_append, hf1, hf2]; rfl)) h
    refine ⟨_, _, _, m3, hg, ?_⟩
    simp only [Rel]
    refine ⟨_, vs.length + xs.length, cap, rfl, by rw [List.length_append], m1, fun h => (by cases h), .inr ⟨w.heap.size, 0, i.size, rfl, .inr ⟨Nat.le_refl _, by simp only [Array.size_push]; omega⟩, ?_⟩⟩
    rw [relRows_iff]
    refine ⟨fun e hm => (by rcases List.mem_append.1 hm with hm | hm; exact o3 e hm; exact n5 e hm), relCells_of_list _ (olds ++ news) 0 (hbare _ _ (RelList.mono hg.le (fun b hb => hold b (s.fzlt b hb)) _ _ (by rw [List.flatten_append]; exact relList_append _ _ o1 n3))) (by rw [List.flatten_append, List.all_append, o2, n4]; rfl) (fun j hj => ?_)⟩
    have hj' : j < (olds ++ news).length := by rw [relList_length _ _ (relList_append _ _ o1 n3), ← List.flatten_append]; exact hj
    rw [cell_row hthe, Nat.zero_add, Array.getElem?_append_left (by simpa using hj')]
    simp
theorem opY_of_qB {ops : Array Oper} {o : Oper} {p : PV} (h : evqB C st.σ st.env o.op = some p) : OpY C N ops o st p := by
  obtain ⟨dst, op, ty, pos, after, guard⟩ := o
  cases op
  case buildSlice t len parts =>
    intro κ a w s next Q hn
    have hc : rdParts C (st.env.only ((⟨dst, .buildSlice t len parts, ty, pos, after, guard⟩ : Oper).looksAt ops)) parts.toList = rdParts C st.env parts.toList := rdParts_congr parts.toList fun x hx => rd_only fun t' ht => by
      subst ht
      exact List.mem_append_left _ (List.mem_filterMap.2 ⟨.tmp t', by simpa [Op.operands] using hx, rfl⟩)
    simp only [evqB] at h
    split at h
    · rename_i ps hps
      rw [← hc] at hps
      obtain ⟨g1, g2⟩ := rdParts_sound s _ _ hps
      obtain ⟨z, κ', w', k1, k2, k3⟩ := evBuildI_sound (vps := parts.map fun (i, x) => (i, a.eval x)) s h (by simpa using g1) (by simpa using g2)
      unfold Oper.wp
      rw [show (execOp a.eval ⟨dst, .buildSlice t len parts, ty, pos, after, guard⟩).run C.P w = .ok (.value z) w' from run_value k1]
      exact hn κ' z w' k2 k3
    · cases h
  case call c =>
    obtain ⟨callee, args, argTypes⟩ := c
    cases callee
    case builtin b =>
      cases b
      case append =>
        intro κ a w s next Q hn
        simp only [evqB] at h
        split at h
        case h_2 => cases h
        rename_i x y t xt ha ht
        obtain rfl : args = #[x, y] := Array.ext' ha
        obtain rfl : argTypes = #[t, xt] := Array.ext' ht
        have hm : ∀ x' ∈ [x, y], rd C (st.env.only ((⟨dst, .call { callee := .builtin .append, args := #[x, y], argTypes := #[t, xt] }, ty, pos, after, guard⟩ : Oper).looksAt ops)) x' = rd C st.env x' := fun x' hx => rd_only fun t' ht => by
          subst ht
          exact List.mem_append_left _ (List.mem_filterMap.2 ⟨.tmp t', by simp [Op.operands, Call.operands] at hx ⊢; exact hx, rfl⟩)
        split at h
        case h_2 => cases h
        rename_i p0 q0 h1 h2
        rw [← hm x (by simp)] at h1
        rw [← hm y (by simp)] at h2
        obtain ⟨z, κ', w', k1, k2, k3⟩ := evAppendI_sound (ty := ty) s h (rd_sound s h1) (rd_sound s h2)
        unfold Oper.wp
        rw [show (execOp a.eval ⟨dst, .call { callee := .builtin .append, args := #[x, y], argTypes := #[t, xt] }, ty, pos, after, guard⟩).run C.P w = .ok (.value z) w' by
          simp only [execOp, resolve, Sem.run_bind, Sem.run_pure, Result.andThen_ok, invoke, builtin]
          simp [k1]]
        exact hn κ' z w' k2 k3
      all_goals exact opY_of_q h
    all_goals exact opY_of_q h
  all_goals exact opY_of_q h
end
end Go.Ab
end
