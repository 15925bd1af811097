/- Abstract values: calls as operations; calls that change the caller's own memory. -/
import Derived.Test.YtbhmgkbmlbbonaaDoorAbCode
set_option linter.unusedSimpArgs false
set_option linter.unusedVariables false
namespace Go.Ab
open Go

/-- Nothing older has turned. -/
structure Bel (w w' : World) : Prop where
  os : w'.os = w.os
  tape : w'.tape = w.tape
  output : w'.output = w.output
  size : w.heap.size ≤ w'.heap.size
  hold : ∀ b, b < w.heap.size → w'.heap[b]? = w.heap[b]?

def isGo (P : Program) (f : FuncId) : Bool :=
  match P.funcs[f]? with
  | some fn => fn.name != "runtime.NumGoroutine" && fn.body.isSome
  | none => false

/-- What a call does to own memory, and what it returns: for callees that get addresses of it. -/
def StSpec (C : Ctx) (f : FuncId) (ps : List PV) (σ : Store) (nx : Nat) (Q : PV → Store → Nat → Prop) : Prop :=
  isGo C.P f = true ∧ ∀ κ w (vs : List Value), Sim C 0 κ ⟨fun _ => none, σ, nx⟩ { tmps := #[], defers := [] } w → RelList κ w ps vs →
    Calls C.P f vs.toArray w fun e w' => ∃ v r κ' σ' nx', e = .returned v ∧ Q r σ' nx' ∧ Sim C 0 κ' ⟨fun _ => none, σ', nx'⟩ { tmps := #[], defers := [] } w' ∧ Evo κ σ w κ' σ' w' ∧ Rel κ' w' r v

section
variable {C : Ctx} {N : Nat} {κ : Kn} {st : St} {a : Act} {w : World}

theorem Sim.noEnv (s : Sim C N κ st a w) : Sim C 0 κ ⟨fun _ => none, st.σ, st.nx⟩ { tmps := #[], defers := [] } w :=
  ⟨rfl, rfl, fun t v h => (by cases h), s.blk, s.dist, s.nfz, s.yfz, s.fzlt, s.fresh, s.later, s.glob⟩

theorem StSpec.mono {f : FuncId} {ps : List PV} {σ : Store} {nx : Nat} {Q Q' : PV → Store → Nat → Prop} (h : StSpec C f ps σ nx Q) (hq : ∀ r σ' nx', Q r σ' nx' → Q' r σ' nx') : StSpec C f ps σ nx Q' :=
  ⟨h.1, fun κ w vs s hr => (h.2 κ w vs s hr).mono fun e w' ⟨v, r, κ', σ', nx', h1, h2, h3⟩ => ⟨v, r, κ', σ', nx', h1, hq _ _ _ h2, h3⟩⟩

def callArgs (C : Ctx) (st : St) (fo : Operand) (as : Array Operand) : Option (FuncId × List PV) :=
  match rd C st.env fo, rds C st.env as.toList with
  | some (.clo (.func f) first cap), some ps => some (f, first ++ ps ++ cap)
  | _, _ => none

/-- The run of a call's operation: it enters the function. -/
theorem run_call (s : Sim C N κ st a w) {o : Oper} {fo : Operand} {as : Array Operand} {ts : Array TypeId} (ho : o.op = .call { callee := .value fo, args := as, argTypes := ts }) {f : FuncId} {ps : List PV}
    (hc : callArgs C st fo as = some (f, ps)) (hg : isGo C.P f = true) : ∃ vs : List Value, (execOp a.eval o).run C.P w = .ok (.enter f vs.toArray) w ∧ RelList κ w ps vs := by
  unfold callArgs at hc
  split at hc
  · rename_i f' first cap ps' h1 h2
    cases hc
    have hr := rd_sound s h1
    simp only [Rel] at hr
    obtain ⟨fs, cs, e, g1, g2⟩ := hr
    have hrs := rds_sound s _ _ h2
    refine ⟨fs.toList ++ as.toList.map a.eval ++ cs.toList, ?_, relList_append _ _ (relList_append _ _ g1 hrs) g2⟩
    obtain ⟨dst, op, ty, pos, after, guard⟩ := o
    simp only at ho
    subst ho
    unfold isGo at hg
    cases hf : C.P.funcs[f]? with
    | none => rw [hf] at hg; cases hg
    | some fn =>
      rw [hf] at hg
      simp only [Bool.and_eq_true, bne_iff_ne, ne_eq] at hg
      have hname : (fn.name == "runtime.NumGoroutine") = false := by simpa using hg.1
      have hbody : fn.body.isNone = false := by cases hb : fn.body <;> simp_all
      simp only [execOp, resolve, e, Deferred.ofValue, Sem.run_bind, Sem.run_pure, Result.andThen_ok, invoke, callFunc, run_program, hf, hname, Bool.false_eq_true, if_false, hbody]
      congr 2
      apply Array.ext'
      simp
  · cases hc

theorem callArgs_only {ops : Array Oper} {o : Oper} {fo : Operand} {as : Array Operand} {ts : Array TypeId} (ho : o.op = .call { callee := .value fo, args := as, argTypes := ts }) :
    callArgs C { st with env := st.env.only (o.looksAt ops) } fo as = callArgs C st fo as := by
  have hm : ∀ x ∈ o.op.operands, rd C (st.env.only (o.looksAt ops)) x = rd C st.env x := fun x hx => rd_only fun t ht => by
    subst ht
    exact List.mem_append_left _ (List.mem_filterMap.2 ⟨.tmp t, Array.mem_toList_iff.2 hx, rfl⟩)
  unfold callArgs
  simp only
  rw [hm fo (by rw [ho]; simp [Op.operands, Call.operands]), rds_congr as.toList fun x hx => hm x (by rw [ho]; simp [Op.operands, Call.operands, Array.mem_toList_iff.1 hx])]

theorem callArgs_congr {o : Oper} {fo : Operand} {as : Array Operand} {ts : Array TypeId} (ho : o.op = .call { callee := .value fo, args := as, argTypes := ts }) {e e' : Env} {σ σ' : Store} {nx nx' : Nat}
    (h : ∀ x ∈ o.op.operands, rd C e x = rd C e' x) : callArgs C ⟨e, σ, nx⟩ fo as = callArgs C ⟨e', σ', nx'⟩ fo as := by
  unfold callArgs
  simp only
  rw [h fo (by rw [ho]; simp [Op.operands, Call.operands]), rds_congr as.toList fun x hx => h x (by rw [ho]; simp [Op.operands, Call.operands, Array.mem_toList_iff.1 hx])]

/-- A call, in place, as an operation. -/
theorem opT_of_st {dst : Option Tmp} {fo : Operand} {as : Array Operand} {ts : Array TypeId} {ty : TypeId} {pos : String} {after : Array Edge} {guard : Option (Nat × Bool)} {f : FuncId} {ps : List PV} {K : St → Prop}
    (hdst : ∀ t, dst = some t → t < N) (hc : callArgs C st fo as = some (f, ps)) (hs : StSpec C f ps st.σ st.nx fun r σ' nx' => K (St.put ⟨st.env, σ', nx'⟩ dst r)) :
    OpT C N ⟨dst, .call { callee := .value fo, args := as, argTypes := ts }, ty, pos, after, guard⟩ st K := by
  intro κ a w s next Q hn
  obtain ⟨hg, hspec⟩ := hs
  obtain ⟨vs, h1, h2⟩ := run_call (o := ⟨dst, .call { callee := .value fo, args := as, argTypes := ts }, ty, pos, after, guard⟩) s rfl hc hg
  unfold Oper.wp
  rw [h1]
  simp only [Oper.upon]
  refine (hspec κ w vs s.noEnv h2).mono ?_
  rintro e w' ⟨v, r, κ', σ', nx', rfl, hK, s', ev, hr⟩
  have s2 : Sim C N κ' ⟨st.env, σ', nx'⟩ a w' :=
    ⟨s.defers, s.size, fun t p hp => ⟨(s.env t p hp).1, ev.rel s (s.env t p hp).2⟩, s'.blk, s'.dist, s'.nfz, s'.yfz, s'.fzlt, s'.fresh, s'.later, s'.glob⟩
  refine hn κ' _ _ _ hK (s2.put hdst hr) ?_
  rw [put_rest.1]
  exact ev

/-- An effect: an operation that writes or makes memory, or a call in place. -/
def effQ (C : Ctx) (st : St) (o : Oper) (Q : PV → Store → Nat → Prop) : Prop :=
  match o.op with
  | .call { callee := .value fo, args := as, argTypes := _ } => ∃ f ps, callArgs C st fo as = some (f, ps) ∧ StSpec C f ps st.σ st.nx Q ∧ ∃ r σ' nx', Q r σ' nx'
  | op => ∃ p σ' nx', eve C st op = some (p, σ', nx') ∧ Q p σ' nx'

theorem effQ_iff (C : Ctx) (st : St) (o : Oper) (Q : PV → Store → Nat → Prop) : effQ C st o Q ↔
    (∃ fo as ts f ps, o.op = .call { callee := .value fo, args := as, argTypes := ts } ∧ callArgs C st fo as = some (f, ps) ∧ StSpec C f ps st.σ st.nx Q ∧ ∃ r σ' nx', Q r σ' nx') ∨
    ((∀ fo as ts, o.op ≠ .call { callee := .value fo, args := as, argTypes := ts }) ∧ ∃ p σ' nx', eve C st o.op = some (p, σ', nx') ∧ Q p σ' nx') := by
  unfold effQ
  split
  · rename_i fo as ts h
    rw [h]
    constructor
    · rintro ⟨f, ps, h1, h2, h3⟩; exact .inl ⟨fo, as, ts, f, ps, rfl, h1, h2, h3⟩
    · rintro (⟨fo', as', ts', f, ps, h0, h1, h2, h3⟩ | ⟨h0, _⟩)
      · cases h0; exact ⟨f, ps, h1, h2, h3⟩
      · exact absurd rfl (h0 fo as ts)
  · rename_i h
    constructor
    · intro h1; exact .inr ⟨fun fo as ts h2 => h fo as ts h2, h1⟩
    · rintro (⟨fo', as', ts', f, ps, h0, _⟩ | ⟨_, h1⟩)
      · exact absurd h0 (h _ _ _)
      · exact h1

theorem effQ_mono {o : Oper} {Q Q' : PV → Store → Nat → Prop} (h : effQ C st o Q) (hq : ∀ r σ' nx', Q r σ' nx' → Q' r σ' nx') : effQ C st o Q' := by
  rw [effQ_iff] at *
  rcases h with ⟨fo, as, ts, f, ps, h0, h1, h2, r, σ', nx', h3⟩ | ⟨h0, p, σ', nx', h1, h2⟩
  · exact .inl ⟨fo, as, ts, f, ps, h0, h1, h2.mono hq, r, σ', nx', hq _ _ _ h3⟩
  · exact .inr ⟨h0, p, σ', nx', h1, hq _ _ _ h2⟩
theorem effQ_sat {o : Oper} {Q : PV → Store → Nat → Prop} (h : effQ C st o Q) : ∃ r σ' nx', Q r σ' nx' := by
  rw [effQ_iff] at h
  rcases h with ⟨_, _, _, _, _, _, _, _, h⟩ | ⟨_, p, σ', nx', _, h⟩
  · exact h
  · exact ⟨p, σ', nx', h⟩
theorem opT_of_eff {o : Oper} {K : St → Prop} (hd : ∀ t, o.dst = some t → t < N) (h : effQ C st o fun p σ' nx' => K (St.put ⟨st.env, σ', nx'⟩ o.dst p)) : OpT C N o st K := by
  rw [effQ_iff] at h
  rcases h with ⟨fo, as, ts, f, ps, h0, h1, h2, _⟩ | ⟨_, p, σ', nx', h1, h2⟩
  · obtain ⟨dst, op, ty, pos, after, guard⟩ := o
    simp only at h0
    subst h0
    exact opT_of_st hd h1 h2
  · exact opT_of_e hd h1 h2
end
end Go.Ab
