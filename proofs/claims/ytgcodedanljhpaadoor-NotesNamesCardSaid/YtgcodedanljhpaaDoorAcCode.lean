/- Abstract values: regions, and what code does. -/
import Derived.Test.YtgcodedanljhpaaDoorAcWr
set_option linter.unusedSimpArgs false
set_option linter.unusedVariables false
namespace Go.Ab
open Go
universe u
inductive OpK where
  | q | e | c
def opKind : Op → OpK
  | .store .. | .box .. | .alloc _ | .buildSlice .. | .makeSlice .. | .makeMap .. | .insert .. | .mapUpdate .. | .range .. | .next .. => .e
  | .call { callee := .builtin .append, .. } => .e
  | .call { callee := .builtin .clear, .. } => .e
  | .call { callee := .builtin _, .. } => .q
  | .call _ => .c
  | _ => .q
def eve (C : Ctx) (st : St) : Op → Option (PV × Store × Nat)
  | .store t a x => match rd C st.env a, rd C st.env x with
    | some p, some q => evStore C st t p q
    | _, _ => none
  | .box _ x => match rd C st.env x with
    | some p => evBox st p
    | none => none
  | .alloc t => evAlloc C st t
  | .buildSlice t len parts => match rdParts C st.env parts.toList with
    | some ps => evBuildSlice C st t len ps
    | none => none
  | .makeSlice t l c => match rd C st.env l, rd C st.env c with
    | some p, some q => evMakeSlice C st t p q
    | _, _ => none
  | .makeMap _ none => evMakeMap st
  | .range t x => match rd C st.env x with
    | some p => evRange C st t p
    | none => none
  | .next x b => match rd C st.env x with
    | some p => evNext st p b
    | none => none
  | .insert t m k x => match rd C st.env m, rd C st.env k, rd C st.env x with
    | some p, some q, some r => evMapPut C st t p q r
    | _, _, _ => none
  | .mapUpdate t m k x => match rd C st.env m, rd C st.env k, rd C st.env x with
    | some p, some q, some r => evMapPut C st t p q r
    | _, _, _ => none
  | .call { callee := .builtin .append, args, argTypes } => match args.toList, argTypes.toList with
    | [x, y], [t, xt] => match rd C st.env x, rd C st.env y with
      | some p, some q => evAppend C st t xt p q
      | _, _ => none
    | _, _ => none
  | .call { callee := .builtin .clear, args, argTypes } => match args.toList, argTypes.toList with
    | [x], [t] => match rd C st.env x with
      | some p => evClear C st t p
      | none => none
    | _, _ => none
  | _ => none
theorem eve_sound {C : Ctx} {N : Nat} {κ : Kn} {st : St} {a : Act} {w : World} (s : Sim C N κ st a w) {o : Oper} {r : PV} {σ' : Store} {nx' : Nat} (h : eve C st o.op = some (r, σ', nx')) :
    ∃ n w' κ', (execOp a.eval o).run C.P w = .ok n w' ∧ ((∃ z, n = .value z ∧ Rel κ' w' r z) ∨ (n = .skip ∧ r = .tup [])) ∧ Sim C N κ' { st with σ := σ', nx := nx' } a w' ∧ Evo κ st.σ w κ' σ' w' := by
  obtain ⟨dst, op, ty, pos, after, guard⟩ := o
  simp only at h
  unfold eve at h
  split at h
  · rename_i t x y
    split at h
    · rename_i p q h1 h2
      obtain ⟨w', κ', g1, g2, g3, g4⟩ := evStore_sound s h (rd_sound s h1) (rd_sound s h2)
      exact ⟨.skip, w', κ', by simp [execOp, g1], .inr ⟨rfl, g2⟩, g3, g4⟩
    · cases h
  · rename_i t x
    split at h
    · rename_i p h1
      obtain ⟨z, w', κ', g1, g2, g3, g4⟩ := evBox_sound (elem := t) s h (rd_sound s h1)
      exact ⟨_, w', κ', run_value (z := .pointer (some z)) (by simp [Instr.box, g1]), .inl ⟨_, rfl, g2⟩, g3, g4⟩
    · cases h
  · rename_i t
    unfold evAlloc at h
    split at h
    · rename_i E hE
      cases h
      obtain ⟨z, w', κ', g1, g2, g3, g4⟩ := evAllocB_sound (E := E) s hE
      exact ⟨_, w', κ', run_value (z := .pointer (some z)) g1, .inl ⟨_, rfl, g2⟩, g3, g4⟩
    split at h
    · rename_i z hz
      obtain ⟨v, k1, k2⟩ := tz_sound hz κ w
      obtain ⟨z, w', κ', g1, g2, g3, g4⟩ := evBox_sound (elem := t) s h k2
      exact ⟨_, w', κ', run_value (z := .pointer (some z)) (by simp [Instr.alloc, k1, g1]), .inl ⟨_, rfl, g2⟩, g3, g4⟩
    · cases h
  · rename_i t len parts
    split at h
    · rename_i ps h1
      obtain ⟨g1, g2⟩ := rdParts_sound s _ _ h1
      obtain ⟨z, w', κ', k1, k2, k3, k4⟩ := evBuildSlice_sound (vps := parts.map fun (i, x) => (i, a.eval x)) s h (by simpa using g1) (by simpa using g2)
      exact ⟨_, w', κ', run_value k1, .inl ⟨_, rfl, k2⟩, k3, k4⟩
    · cases h
  · rename_i t l c
    split at h
    · rename_i p q h1 h2
      obtain ⟨z, w', κ', k1, k2, k3, k4⟩ := evMakeSlice_sound s h (rd_sound s h1) (rd_sound s h2)
      exact ⟨_, w', κ', run_value k1, .inl ⟨_, rfl, k2⟩, k3, k4⟩
    · cases h
  · rename_i t
    obtain ⟨z, w', κ', k1, k2, k3, k4⟩ := evMakeMap_sound (t := t) s h
    exact ⟨_, w', κ', run_value k1, .inl ⟨_, rfl, k2⟩, k3, k4⟩
  · rename_i t x
    split at h
    · rename_i p h1
      obtain ⟨z, w', κ', k1, k2, k3, k4⟩ := evRange_sound s h (rd_sound s h1)
      exact ⟨_, w', κ', run_value k1, .inl ⟨_, rfl, k2⟩, k3, k4⟩
    · cases h
  · rename_i x b
    split at h
    · rename_i p h1
      obtain ⟨z, w', k1, k2, k3, k4⟩ := evNext_sound (ty := ty) s h (rd_sound s h1)
      exact ⟨_, w', κ, run_value k1, .inl ⟨_, rfl, k2⟩, k3, k4⟩
    · cases h
  · rename_i t m k x
    split at h
    · rename_i p q r' h1 h2 h3
      obtain ⟨w', κ', g1, g2, g3, g4⟩ := evMapPut_sound s h (rd_sound s h1) (rd_sound s h2) (rd_sound s h3)
      exact ⟨.skip, w', κ', by simp [execOp, g1], .inr ⟨rfl, g2⟩, g3, g4⟩
    · cases h
  · rename_i t m k x
    split at h
    · rename_i p q r' h1 h2 h3
      obtain ⟨w', κ', g1, g2, g3, g4⟩ := evMapPut_sound s h (rd_sound s h1) (rd_sound s h2) (rd_sound s h3)
      exact ⟨.skip, w', κ', by simp [execOp, g1], .inr ⟨rfl, g2⟩, g3, g4⟩
    · cases h
  · rename_i args argTypes
    split at h
    · rename_i x y t xt ha ht
      split at h
      · rename_i p q h1 h2
        obtain ⟨z, w', κ', k1, k2, k3, k4⟩ := evAppend_sound (ty := ty) s h (rd_sound s h1) (rd_sound s h2)
        obtain rfl : args = #[x, y] := Array.ext' ha
        obtain rfl : argTypes = #[t, xt] := Array.ext' ht
        refine ⟨_, w', κ', ?_, .inl ⟨z, rfl, k2⟩, k3, k4⟩
        simp only [execOp, resolve, Sem.run_bind, Sem.run_pure, Result.andThen_ok, invoke, builtin]
        simp [k1]
      · cases h
    · cases h
  · rename_i args argTypes
    split at h
    · rename_i x t ha ht
      split at h
      · rename_i p h1
        obtain ⟨z, w', k1, k2, k3, k4⟩ := evClear_sound (ty := ty) s h (rd_sound s h1)
        obtain rfl : args = #[x] := Array.ext' ha
        obtain rfl : argTypes = #[t] := Array.ext' ht
        refine ⟨_, w', κ, ?_, .inl ⟨z, rfl, k2⟩, k3, k4⟩
        simp only [execOp, resolve, Sem.run_bind, Sem.run_pure, Result.andThen_ok, invoke, builtin]
        simp [k1]
      · cases h
    · cases h
  · cases h
class Hid {α : Sort u} (a : α) : Type where
instance (priority := low) hidAny {α : Sort u} (a : α) : Hid a where
def onQ (x : Option PV) (k : PV → Prop) [Hid k] : Prop :=
  match x with
  | some p => k p
  | none => False
def onE (x : Option (PV × Store × Nat)) (k : PV → Store → Nat → Prop) [Hid k] : Prop :=
  match x with
  | some (p, σ, nx) => k p σ nx
  | none => False
def onB (x : Option Bool) (t e : Prop) [Hid t] [Hid e] : Prop :=
  match x with
  | some true => t
  | some false => e
  | none => False
def OpT (C : Ctx) (N : Nat) (o : Oper) (st : St) (K : St → Prop) : Prop :=
  ∀ κ a w, Sim C N κ st a w → ∀ (next : Act → World → Prop) (Q : Exit → Act → World → Prop),
    (∀ κ' st' a' w', K st' → Sim C N κ' st' a' w' → Evo κ st.σ w κ' st'.σ w' → a'.defers = a.defers → next a' w') → o.wp C.P a w next Q
theorem put_dfs {a : Act} {d : Option Nat} {v : Value} : (a.put d v).defers = a.defers := by cases d <;> rfl
structure Gro (κ : Kn) (w : World) (κ' : Kn) (w' : World) : Prop where
  le : κ.le κ'
  hold : ∀ b, b < w.heap.size → w'.heap[b]? = w.heap[b]?
  size : w.heap.size ≤ w'.heap.size
  os : w'.os = w.os
  tape : w'.tape = w.tape
  output : Outs w w'
  fz : ∀ b, κ'.fz b → κ.fz b ∨ (w.heap.size ≤ b ∧ b < w'.heap.size)
  loc : ∀ i v, κ'.loc i v = κ.loc i v
  mloc : ∀ i, κ'.mloc i = κ.mloc i
theorem Gro.refl (κ : Kn) (w : World) : Gro κ w κ w := ⟨.refl κ, fun _ _ => rfl, Nat.le_refl _, rfl, rfl, .refl _, fun _ h => .inl h, fun _ _ => rfl, fun _ => rfl⟩
theorem Gro.sim {C : Ctx} {N : Nat} {κ κ' : Kn} {st : St} {a : Act} {w w' : World} (g : Gro κ w κ' w') (s : Sim C N κ st a w) : Sim C N κ' st a w' := s.grow g.le g.hold g.size g.fz g.loc g.mloc
theorem Gro.evo {κ κ' : Kn} {σ : Store} {w w' : World} (g : Gro κ w κ' w') : Evo κ σ w κ' σ w' := Evo.grow g.le g.hold g.size g.os g.tape g.output g.fz g.loc g.mloc
def Env.only (e : Env) (l : List Nat) : Env := fun t => if t ∈ l then e t else none
def OpY (C : Ctx) (N : Nat) (ops : Array Oper) (o : Oper) (st : St) (p : PV) : Prop :=
  ∀ κ a w, Sim C N κ { st with env := st.env.only (o.looksAt ops) } a w → ∀ (next : Act → World → Prop) (Q : Exit → Act → World → Prop),
    (∀ κ' v w', Gro κ w κ' w' → Rel κ' w' p v → next (a.put o.dst v) w') → o.wp C.P a w next Q
def CallQ (C : Ctx) (N : Nat) (o : Oper) (st : St) (K : St → Prop) [Hid o] [Hid st] [Hid K] : Prop := (∀ t, o.dst = some t → t < N) → OpT C N o st K
def reachF (ops : Array Oper) : Nat → Nat → Nat → Bool
  | 0, _, _ => false
  | f + 1, j, i => match ops[j]? with
    | none => false
    | some o => o.after.any fun e => Region.binds .any e && (e.on == i || reachF ops f e.on i)
def backB (ops : Array Oper) : Bool := (List.range ops.size).all fun k => match ops[k]? with
  | some o => o.after.all fun e => !Region.binds .any e || decide (e.on < k)
  | none => true
def soleB (ops : Array Oper) (j : Nat) : Bool := backB ops && (List.range ops.size).all fun k => k == j || reachF ops ops.size j k || reachF ops ops.size k j
def CallY (C : Ctx) (N : Nat) (ops : Array Oper) (o : Oper) (st : St) (K : St → Prop) [Hid ops] [Hid o] [Hid st] [Hid K] : Prop :=
  (∃ p, OpY C N ops o st p ∧ K (st.put o.dst p)) ∨ ∃ j, ops[j]? = some o ∧ soleB ops j = true ∧ CallQ C N o st K
def CallY0 (C : Ctx) (N : Nat) (ops : Array Oper) (o : Oper) (st : St) (K : St → Prop) [Hid ops] [Hid o] [Hid st] [Hid K] : Prop := ∃ p, OpY C N ops o st p ∧ K (st.put o.dst p)
theorem CallY.q {C : Ctx} {N : Nat} {ops : Array Oper} {o : Oper} {st : St} {K : St → Prop} (j : Nat) (h : ops[j]? = some o) (hs : soleB ops j = true) (hq : CallQ C N o st K) : CallY C N ops o st K := .inr ⟨j, h, hs, hq⟩
theorem reachF_back {ops : Array Oper} (hb : backB ops = true) : ∀ (f j i : Nat), reachF ops f j i = true → i < j
  | 0, j, i, h => by simp [reachF] at h
  | f + 1, j, i, h => by
    simp only [reachF] at h
    cases ho : ops[j]? with
    | none => simp [ho] at h
    | some o =>
      simp only [ho] at h
      have hj : j < ops.size := (Array.getElem?_eq_some_iff.1 ho).1
      have h1 := List.all_eq_true.1 hb j (List.mem_range.2 hj)
      simp only [ho] at h1
      obtain ⟨e, he, h2⟩ := Array.any_eq_true'.1 h
      simp only [Bool.and_eq_true, Bool.or_eq_true, beq_iff_eq] at h2
      have h3 := Array.all_eq_true_iff_forall_mem.1 h1 e he
      simp only [h2.1, Bool.not_true, Bool.false_or, decide_eq_true_eq] at h3
      rcases h2.2 with h4 | h4
      · omega
      · have := reachF_back hb f e.on i h4; omega
theorem soleB_at {ops : Array Oper} {j k : Nat} (h : soleB ops j = true) (hk : k < ops.size) (hne : k ≠ j) : reachF ops ops.size j k = true ∨ reachF ops ops.size k j = true := by
  unfold soleB at h
  rw [Bool.and_eq_true] at h
  have := List.all_eq_true.1 h.2 k (List.mem_range.2 hk)
  simp only [Bool.or_eq_true, beq_iff_eq] at this
  rcases this with (h | h) | h
  · exact absurd h hne
  · exact .inl h
  · exact .inr h
theorem soleB_back {ops : Array Oper} {j : Nat} (h : soleB ops j = true) : backB ops = true := by
  unfold soleB at h; rw [Bool.and_eq_true] at h; exact h.1
theorem reachF_same {ops : Array Oper} {f j k i : Nat} (h : ops[j]? = ops[k]?) : reachF ops f j i = reachF ops f k i := by
  cases f with
  | zero => rfl
  | succ f => simp only [reachF, h]
theorem sole_eq {ops : Array Oper} {j k : Nat} {o : Oper} (hj : ops[j]? = some o) (hk : ops[k]? = some o) (h : soleB ops j = true) : j = k := by
  apply Classical.byContradiction
  intro hne
  have hb := soleB_back h
  rcases soleB_at h (Array.getElem?_eq_some_iff.1 hk).1 (Ne.symm hne) with h1 | h1
  · rw [reachF_same (k := k) (hj.trans hk.symm)] at h1
    exact absurd (reachF_back hb _ _ _ h1) (by omega)
  · rw [reachF_same (k := j) (hk.trans hj.symm)] at h1
    exact absurd (reachF_back hb _ _ _ h1) (by omega)
def wantd (ops : Array Oper) (e : Env) (o : Oper) : Option Bool :=
  match o.guard with
  | none => some true
  | some (g, want) => match (ops[g]?).bind (·.dst) with
    | some t => match e t with
      | some (.lit (.bool b)) => some (b == want)
      | some (.tup []) => some false
      | _ => none
    | none => none
def vcOp (C : Ctx) (N : Nat) (d : Bool) (ops : Array Oper) (o : Oper) (st : St) (K : St → Prop) : Prop :=
  match opKind o.op with
  | .q => onQ (evq C st.σ st.env o.op) fun p => K (st.put o.dst p)
  | .e => onE (eve C st o.op) fun p σ nx => K (St.put ⟨st.env, σ, nx⟩ o.dst p)
  | .c => if d then CallY C N ops o st K else CallQ C N o st K
def vcOps (C : Ctx) (N : Nat) (d : Bool) (ops : Array Oper) : List Oper → St → (St → Prop) → Prop
  | [], st, K => K st
  | o :: r, st, K => onB (wantd ops st.env o) (vcOp C N d ops o st fun s => vcOps C N d ops r s K) (vcOps C N d ops r (st.put o.dst (.tup [])) K)
section
variable {C : Ctx} {N : Nat} {κ : Kn} {st : St} {a : Act} {w : World} {ops : Array Oper}
theorem wantd_sound (s : Sim C N κ st a w) {o : Oper} {b : Bool} (h : wantd ops st.env o = some b) : Region.wanted o (yielded ops a.tmps) = b := by
  unfold wantd at h
  unfold Region.wanted
  split at h
  · rename_i hg; simp only [hg]; simpa using h
  · rename_i g want hg
    simp only [hg]
    split at h
    · rename_i t ht
      have hyd : ∀ p, st.env t = some p → ∃ v, a.tmps[t]? = some v ∧ Rel κ w p v := fun p hp => by
        obtain ⟨h1, h2⟩ := s.env t p hp
        have hlt : t < a.tmps.size := by rw [s.size]; exact h1
        refine ⟨a.tmps[t], by simp [hlt], ?_⟩
        simpa [Array.getD_eq_getD_getElem?, hlt] using h2
      split at h
      · rename_i b' he
        obtain ⟨v, h1, h2⟩ := hyd _ he
        simp only [Rel] at h2
        simp only [yielded, ht, Option.bind_some, h1, h2.1]
        cases h; cases b' <;> cases want <;> rfl
      · rename_i he
        obtain ⟨v, h1, h2⟩ := hyd _ he
        simp only [Rel] at h2
        obtain ⟨vs, rfl, h3⟩ := h2
        simp only [yielded, ht, Option.bind_some, h1]
        cases h; rfl
      · cases h
    · cases h
theorem rel_undef : Rel κ w (.tup []) undef := by simp [Rel, undef, RelList]
theorem opT_of_q {o : Oper} {p : PV} {K : St → Prop} (hd : ∀ t, o.dst = some t → t < N) (h : evq C st.σ st.env o.op = some p) (hK : K (st.put o.dst p)) : OpT C N o st K := by
  intro κ a w s next Q hn
  obtain ⟨z, h1, h2⟩ := evq_sound s h
  unfold Oper.wp
  rw [h1]
  have s2 := s.put hd h2
  exact hn κ _ _ _ hK s2 (by
    have : (st.put o.dst p).σ = st.σ := by cases hdst : o.dst <;> rfl
    rw [this]; exact Evo.refl _ _ _) put_dfs
theorem opT_of_e {o : Oper} {p : PV} {σ' : Store} {nx' : Nat} {K : St → Prop} (hd : ∀ t, o.dst = some t → t < N) (h : eve C st o.op = some (p, σ', nx')) (hK : K (St.put ⟨st.env, σ', nx'⟩ o.dst p)) : OpT C N o st K := by
  intro κ a w s next Q hn
  obtain ⟨n, w', κ', h1, h2, h3, h4⟩ := eve_sound s h
  unfold Oper.wp
  rw [h1]
  have hs : (St.put ⟨st.env, σ', nx'⟩ o.dst p).σ = σ' := by cases hdst : o.dst <;> rfl
  rcases h2 with ⟨z, rfl, hr⟩ | ⟨rfl, rfl⟩
  · exact hn κ' _ _ _ hK (h3.put hd hr) (by rw [hs]; exact h4) put_dfs
  · exact hn κ' _ _ _ hK (h3.put hd rel_undef) (by rw [hs]; exact h4) put_dfs
theorem opT_of_vc {o : Oper} {K : St → Prop} (hd : ∀ t, o.dst = some t → t < N) (h : vcOp C N false ops o st K) : OpT C N o st K := by
  unfold vcOp at h
  split at h
  · cases he : evq C st.σ st.env o.op with
    | none => rw [he] at h; exact h.elim
    | some p => rw [he] at h; exact opT_of_q hd he h
  · cases he : eve C st o.op with
    | none => rw [he] at h; exact h.elim
    | some x => obtain ⟨p, σ', nx'⟩ := x; rw [he] at h; exact opT_of_e hd he h
  · exact h hd
theorem wpOps_of_vc {rd : Option Nat} {mm : Nat} {Q' : Exit → Act → World → Prop} : ∀ (l : List Oper) (k : Nat) (st : St) (κ : Kn) (a : Act) (w : World) (K : St → Prop), (∀ j, l[j]? = ops[k + j]?) → (∀ o ∈ l, ∀ t, o.dst = some t → t < N) → (∀ o ∈ l, noDef o = true) →
    vcOps C N false ops l st K → Sim C N κ st a w → (∀ κ' st' a' w', K st' → Sim C N κ' st' a' w' → Evo κ st.σ w κ' st'.σ w' → a'.defers = a.defers → Q' .normal a' w') → wpOpsIn (wd rd) mm C.P ops Q' (List.range' k l.length) a w
  | [], k, st, κ, a, w, K, _, _, _, h, s, hK => by simp only [List.length_nil, List.range'_zero, wpOpsIn]; exact hK κ st a w h s (.refl _ _ _) rfl
  | o :: r, k, st, κ, a, w, K, hl, hd, hnd, h, s, hK => by
    have ho : ops[k]? = some o := by simpa using (hl 0).symm
    have hl' : ∀ j, r[j]? = ops[k + 1 + j]? := fun j => by have := hl (j + 1); simpa [Nat.add_assoc, Nat.add_comm 1 j] using this
    have hd' : ∀ o ∈ r, ∀ t, o.dst = some t → t < N := fun x hx => hd x (by simp [hx])
    have hnd' : ∀ o ∈ r, noDef o = true := fun x hx => hnd x (by simp [hx])
    simp only [List.length_cons, List.range'_succ, wpOpsIn, ho]
    unfold vcOps at h
    cases hw : wantd ops st.env o with
    | none => rw [hw] at h; exact h.elim
    | some b =>
      rw [hw] at h
      rw [wantd_sound s hw]
      cases b with
      | true =>
        simp only [onB] at h
        simp only [if_true]
        refine wpIn_of_wp _ _ (hnd o (by simp)) (opT_of_vc (hd o (by simp)) h κ a w s _ _ fun κ1 st1 a1 w1 h1 s1 e1 d1 => ?_)
        exact wpOps_of_vc r (k + 1) st1 κ1 a1 w1 K hl' hd' hnd' h1 s1 fun κ2 st2 a2 w2 h2 s2 e2 d2 => hK κ2 st2 a2 w2 h2 s2 (e1.trans e2) (d2.trans d1)
      | false =>
        simp only [onB] at h
        simp only [Bool.false_eq_true, if_false]
        have hs : (st.put o.dst (.tup [])).σ = st.σ := by cases hdst : o.dst <;> rfl
        exact ⟨fun _ _ => trivial, wpOps_of_vc r (k + 1) _ κ _ w K hl' hd' hnd' h (s.put (hd o (by simp)) rel_undef) fun κ2 st2 a2 w2 h2 s2 e2 d2 => hK κ2 st2 a2 w2 h2 s2 (by rw [hs] at e2; exact e2) (d2.trans put_dfs)⟩
end
/-! ### what an operation looks at -/
section
variable {C : Ctx} {e e' : Env}
theorem rds_congr : ∀ (l : List Operand), (∀ x ∈ l, rd C e x = rd C e' x) → rds C e l = rds C e' l
  | [], _ => rfl
  | x :: r, h => by simp only [rds, h x (by simp), rds_congr r fun y hy => h y (by simp [hy])]
theorem rdParts_congr : ∀ (l : List (Nat × Operand)), (∀ x ∈ l.map (·.2), rd C e x = rd C e' x) → rdParts C e l = rdParts C e' l
  | [], _ => rfl
  | (i, x) :: r, h => by simp only [rdParts, h x (by simp), rdParts_congr r fun y hy => h y (by simp at hy ⊢; exact .inr hy)]
theorem bnd_congr {d : Nat} {x : Option Operand} (h : ∀ y, x = some y → rd C e y = rd C e' y) : bnd? C e d x = bnd? C e' d x := by
  cases x with
  | none => rfl
  | some y => simp only [bnd?, h y rfl]
theorem evq_congr {σ : Store} {op : Op} (h : ∀ x ∈ op.operands, rd C e x = rd C e' x) : evq C σ e op = evq C σ e' op := by
  cases op <;> simp only [Op.operands] at h <;> unfold evq
  case move x => exact h x (by simp)
  case assign x => exact h x (by simp)
  case pick c a b => simp only [h c (by simp), h a (by simp), h b (by simp)]
  case binOp op t x y ty => simp only [h x (by simp), h y (by simp)]
  case unOp op t x => simp only [h x (by simp)]
  case convert s d x => simp only [h x (by simp)]
  case makeInterface t x => simp only [h x (by simp)]
  case makeFunc fn f c => simp only [rds_congr f.toList fun x hx => h x (by simp [Array.mem_toList_iff.1 hx]), rds_congr c.toList fun x hx => h x (by simp [Array.mem_toList_iff.1 hx])]
  case field t x f => simp only [h x (by simp)]
  case fieldAddr t x f => simp only [h x (by simp)]
  case indexAddr t x i => simp only [h x (by simp), h i (by simp)]
  case index t x i => simp only [h x (by simp), h i (by simp)]
  case load t x => simp only [h x (by simp)]
  case extract x i => simp only [h x (by simp)]
  case slice t x lo hi mx =>
    have hx := h x (by simp)
    have hlo := fun d => bnd_congr (d := d) (x := lo) fun y hy => h y (by simp [hy])
    have hhi := fun d => bnd_congr (d := d) (x := hi) fun y hy => h y (by simp [hy])
    have hmx : ∀ m, mx = some m → rd C e m = rd C e' m := fun m hm => h m (by simp [hm])
    simp only [hx]
    split
    · rename_i p _
      unfold evSlice
      simp only [hlo, hhi]
      split
      · split <;> first | rfl | (rw [h] <;> first | rfl | simp)
      · split <;> first | rfl | (rw [h] <;> first | rfl | simp)
      · rfl
      · rfl
      · rfl
    · rfl
  case nilCheck x => simp only [h x (by simp)]
  case lookup t x i ok => simp only [h x (by simp), h i (by simp)]
  case build t ps =>
    have hx := rdParts_congr (C := C) (e := e) (e' := e') ps.toList fun x hx => h x (by simpa using hx)
    simp only [hx]
  case call c =>
    obtain ⟨callee, args, argTypes⟩ := c
    cases callee <;> try rfl
    have hx := rds_congr (C := C) (e := e) (e' := e') args.toList fun x hx => h x (by simp [Call.operands, Array.mem_toList_iff.1 hx])
    simp only [hx]
  all_goals rfl
theorem rd_only {l : List Nat} {x : Operand} (h : ∀ t, x = .tmp t → t ∈ l) : rd C (e.only l) x = rd C e x := by
  cases x with
  | tmp t => simp only [rd, Env.only]; rw [if_pos (h t rfl)]
  | _ => rfl
theorem evq_only {σ : Store} {ops : Array Oper} {o : Oper} : evq C σ (e.only (o.looksAt ops)) o.op = evq C σ e o.op :=
  evq_congr fun x hx => rd_only fun t ht => by
    subst ht
    exact List.mem_append_left _ (List.mem_filterMap.2 ⟨.tmp t, Array.mem_toList_iff.2 hx, rfl⟩)
end
section
variable {C : Ctx} {N : Nat} {st : St} {ops : Array Oper}
theorem opY_of_q {o : Oper} {p : PV} (h : evq C st.σ st.env o.op = some p) : OpY C N ops o st p := by
  intro κ a w s next Q hn
  obtain ⟨z, h1, h2⟩ := evq_sound s (o := o) (r := p) (by rw [evq_only]; exact h)
  unfold Oper.wp
  rw [h1]
  exact hn κ z w (.refl κ w) h2
theorem Sim.only {κ : Kn} {a : Act} {w : World} (s : Sim C N κ st a w) (l : List Nat) : Sim C N κ { st with env := st.env.only l } a w :=
  s.weak ⟨fun t v h => (by simp only [Env.only] at h; split at h; exact h; cases h), fun _ _ h => h, Nat.le_refl _⟩
theorem opT_of_y {o : Oper} {p : PV} {K : St → Prop} (hd : ∀ t, o.dst = some t → t < N) (h : OpY C N ops o st p) (hK : K (st.put o.dst p)) : OpT C N o st K := by
  intro κ a w s next Q hn
  refine h κ a w (s.only _) next Q fun κ' v w' g r => ?_
  have hs : (st.put o.dst p).σ = st.σ := by cases hdst : o.dst <;> rfl
  exact hn κ' _ _ _ hK ((g.sim s).put hd r) (by rw [hs]; exact g.evo) put_dfs
def isEff (o : Oper) : Bool := match opKind o.op with | .e => true | _ => false
def pB (x : Option Bool) (t e : Prop) : Prop :=
  match x with
  | some true => t
  | some false => e
  | none => False
def aOp (C : Ctx) (N : Nat) (ops : Array Oper) (i : Nat) (K : St → Prop) (st : St) : Prop :=
  match ops[i]? with
  | none => K st
  | some o => pB (wantd ops st.env o) (if isEff o then OpT C N o st K else (∃ p, OpY C N ops o st p ∧ K (st.put o.dst p)) ∨ ∃ j, ops[j]? = some o ∧ soleB ops j = true ∧ ((∀ t, o.dst = some t → t < N) → OpT C N o st K)) (K (st.put o.dst (.tup [])))
theorem OpT.mono {o : Oper} {K K' : St → Prop} (hk : ∀ s, K s → K' s) (h : OpT C N o st K) : OpT C N o st K' :=
  fun κ a w s next Q hn => h κ a w s next Q fun κ' st' a' w' h1 => hn κ' st' a' w' (hk st' h1)
theorem pB_mono {x : Option Bool} {t t' e e' : Prop} (h1 : t → t') (h2 : e → e') (h : pB x t e) : pB x t' e' := by
  cases x with
  | none => exact h.elim
  | some b => cases b <;> first | exact h1 h | exact h2 h
theorem aOp_mono {i : Nat} {K K' : St → Prop} (hk : ∀ s, K s → K' s) (h : aOp C N ops i K st) : aOp C N ops i K' st := by
  unfold aOp at *
  split
  · rename_i ho; simp only [ho] at h; exact hk _ h
  · rename_i o ho
    simp only [ho] at h
    refine pB_mono (fun h => ?_) (fun h => hk _ h) h
    split
    · rename_i he; rw [if_pos he] at h; exact OpT.mono hk h
    · rename_i he; rw [if_neg he] at h; exact h.imp (fun ⟨p, hp⟩ => ⟨p, hp.1, hk _ hp.2⟩) fun ⟨j, h1, h2, h3⟩ => ⟨j, h1, h2, fun hd => OpT.mono hk (h3 hd)⟩
def anyA (C : Ctx) (N : Nat) (ops : Array Oper) (Q : St → Prop) : Nat → Array Bool → St → Prop
  | 0, listed, st => Region.ready .any ops listed = [] ∧ Q st
  | f + 1, listed, st => (Region.ready .any ops listed = [] → Q st) ∧ ∀ i ∈ Region.ready .any ops listed, aOp C N ops i (anyA C N ops Q f (listed.setIfInBounds i true)) st
theorem anyA_sound {rd : Option Nat} {mm : Nat} {Q : St → Prop} {Q' : Exit → Act → World → Prop} (hd : ∀ (i : Nat) o, ops[i]? = some o → ∀ t, o.dst = some t → t < N) (hnd : ∀ (i : Nat) o, ops[i]? = some o → noDef o = true) : ∀ (f : Nat) (listed : Array Bool) (st : St) (κ : Kn) (a : Act) (w : World),
    anyA C N ops Q f listed st → Sim C N κ st a w → (∀ κ' st' a' w', Q st' → Sim C N κ' st' a' w' → Evo κ st.σ w κ' st'.σ w' → a'.defers = a.defers → Q' .normal a' w') → wpAnyIn (wd rd) mm C.P .any ops Q' f listed a w
  | 0, listed, st, κ, a, w, h, s, hQ => ⟨h.1, hQ κ st a w h.2 s (.refl _ _ _) rfl⟩
  | f + 1, listed, st, κ, a, w, h, s, hQ => by
    refine ⟨fun h0 => hQ κ st a w (h.1 h0) s (.refl _ _ _) rfl, fun i hi => ?_⟩
    have h1 := h.2 i hi
    unfold aOp at h1
    unfold wpOpIn
    cases ho : ops[i]? with
    | none => simp only [ho] at h1; exact anyA_sound hd hnd f _ st κ a w h1 s hQ
    | some o =>
      simp only [ho] at h1 ⊢
      cases hw : wantd ops st.env o with
      | none => rw [hw] at h1; exact h1.elim
      | some b =>
        rw [hw] at h1
        rw [wantd_sound s hw]
        cases b with
        | false =>
          simp only [pB] at h1
          simp only [Bool.false_eq_true, if_false]
          have hs : (st.put o.dst (.tup [])).σ = st.σ := by cases hdst : o.dst <;> rfl
          exact ⟨fun _ _ => trivial, anyA_sound hd hnd f _ _ κ _ w h1 (s.put (hd i o ho) rel_undef) fun κ2 st2 a2 w2 h2 s2 e2 d2 => hQ κ2 st2 a2 w2 h2 s2 (by rw [hs] at e2; exact e2) (d2.trans put_dfs)⟩
        | true =>
          simp only [pB] at h1
          simp only [if_true]
          have hT : OpT C N o st (anyA C N ops Q f (listed.setIfInBounds i true)) := by
            split at h1
            · exact h1
            · rcases h1 with ⟨p, hp, hk⟩ | ⟨_, _, _, h1⟩
              · exact opT_of_y (hd i o ho) hp hk
              · exact h1 (hd i o ho)
          exact wpIn_of_wp _ _ (hnd i o ho) (hT κ a w s _ _ fun κ1 st1 a1 w1 h2 s1 e1 d1 => anyA_sound hd hnd f _ st1 κ1 a1 w1 h2 s1 fun κ2 st2 a2 w2 h3 s2 e2 d2 => hQ κ2 st2 a2 w2 h3 s2 (e1.trans e2) (d2.trans d1))
def AY (C : Ctx) (N : Nat) (ops : Array Oper) (o : Oper) (p : PV) (st : St) : Prop :=
  (wantd ops st.env o = some true ∧ OpY C N ops o st p) ∨ (wantd ops st.env o = some false ∧ p = .tup [])
theorem AY.aOp {i : Nat} {o : Oper} {p : PV} {K : St → Prop} (hi : ops[i]? = some o) (he : isEff o = false) (h : AY C N ops o p st) (hK : K (st.put o.dst p)) : aOp C N ops i K st := by
  unfold Go.Ab.aOp
  simp only [hi, he, Bool.false_eq_true, if_false]
  rcases h with ⟨h1, h2⟩ | ⟨h1, rfl⟩
  · rw [h1]; exact .inl ⟨p, h2, hK⟩
  · rw [h1]; exact hK
theorem put_env_ne {d : Option Nat} {p : PV} {t : Nat} (h : d ≠ some t) : (st.put d p).env t = st.env t := by
  cases d with
  | none => rfl
  | some d => simp only [St.put, Env.put]; rw [if_neg]; intro e; exact h (by rw [e])
theorem wantd_put {o : Oper} {d : Option Nat} {p : PV} (h : ∀ t, d = some t → t ∉ o.looksAt ops) : wantd ops (st.put d p).env o = wantd ops st.env o := by
  unfold wantd
  cases hg : o.guard with
  | none => rfl
  | some gw =>
    obtain ⟨g, want⟩ := gw
    simp only
    cases ht : (ops[g]?).bind (·.dst) with
    | none => rfl
    | some t => simp only; rw [put_env_ne fun e => h t e (by simp [Oper.looksAt, hg, ht])]
theorem only_put {l : List Nat} {d : Option Nat} {p : PV} (h : ∀ t, d = some t → t ∉ l) : (st.put d p).env.only l = st.env.only l := by
  funext t
  simp only [Env.only]
  split
  · rename_i ht; rw [put_env_ne]; intro e; exact h t e ht
  · rfl
theorem put_rest {d : Option Nat} {p : PV} : (st.put d p).σ = st.σ ∧ (st.put d p).nx = st.nx := by cases d <;> exact ⟨rfl, rfl⟩
theorem opY_put {o : Oper} {d : Option Nat} {p q : PV} (h : ∀ t, d = some t → t ∉ o.looksAt ops) : OpY C N ops o (st.put d p) q ↔ OpY C N ops o st q := by
  unfold OpY
  rw [only_put h, put_rest.1, put_rest.2]
theorem AY.put {o : Oper} {d : Option Nat} {p q : PV} (h : ∀ t, d = some t → t ∉ o.looksAt ops) (ha : AY C N ops o p st) : AY C N ops o p (st.put d q) := by
  unfold AY at *
  rw [wantd_put h, opY_put h]
  exact ha
theorem put_comm {d d' : Option Nat} {p p' : PV} (h : ∀ t, d = some t → d' ≠ some t) : (st.put d p).put d' p' = (st.put d' p').put d p := by
  cases d with
  | none => rfl
  | some d =>
    cases d' with
    | none => rfl
    | some d' =>
      have hne : d ≠ d' := fun e => h d rfl (by rw [e])
      simp only [St.put, St.mk.injEq, and_self, and_true]
      funext t
      simp only [Env.put]
      by_cases h1 : t = d
      · subst h1; simp [hne]
      · simp [h1]
theorem aOp_put {j : Nat} {oi oj : Oper} {p : PV} (hj : ops[j]? = some oj) (hej : isEff oj = false) (hns : ∀ k, ops[k]? = some oj → soleB ops k = true → False) (hap : oi.apart ops oj = true) {K : St → Prop}
    (hy : AY C N ops oi p st) (h : aOp C N ops j K (st.put oi.dst p)) : aOp C N ops j (fun s => AY C N ops oi p s ∧ K (s.put oi.dst p)) st := by
  obtain ⟨h1, h2, h3⟩ := Oper.apart_spec hap
  unfold aOp at *
  simp only [hj, hej, Bool.false_eq_true, if_false] at *
  rw [wantd_put h1] at h
  refine pB_mono ?_ ?_ h
  · rintro (⟨q, g1, g2⟩ | ⟨k, g1, g2, _⟩)
    · refine .inl ⟨q, (opY_put h1).1 g1, hy.put h3, ?_⟩
      rw [← put_comm (fun t ht => h2 t ht)]; exact g2
    · exact (hns k g1 g2).elim
  · intro g
    refine ⟨hy.put h3, ?_⟩
    rw [← put_comm (fun t ht => h2 t ht)]; exact g
def Cl (ops : Array Oper) (listed : Array Bool) : Prop :=
  ∀ j, listed.getD j false = true → ∀ o, ops[j]? = some o → ∀ e ∈ o.after, Region.binds .any e = true → listed.getD e.on false = true
theorem reachF_listed {listed : Array Bool} (hc : Cl ops listed) : ∀ (f j i : Nat), reachF ops f j i = true → (∀ o, ops[j]? = some o → ∀ e ∈ o.after, Region.binds .any e = true → listed.getD e.on false = true) → listed.getD i false = true
  | 0, j, i, h, _ => by simp [reachF] at h
  | f + 1, j, i, h, hl => by
    simp only [reachF] at h
    cases ho : ops[j]? with
    | none => simp [ho] at h
    | some o =>
      simp only [ho] at h
      obtain ⟨e, he, hb⟩ := Array.any_eq_true'.1 h
      simp only [Bool.and_eq_true, Bool.or_eq_true, beq_iff_eq] at hb
      have h1 := hl o ho e he hb.1
      rcases hb.2 with h2 | h2
      · rw [← h2]; exact h1
      · exact reachF_listed hc f e.on i h2 fun o' ho' e' he' hb' => hc e.on h1 o' ho' e' he' hb'
theorem Cl.add {listed : Array Bool} {j : Nat} (hc : Cl ops listed) (hj : j ∈ Region.ready .any ops listed) : Cl ops (listed.setIfInBounds j true) := by
  intro k hk o ho e he hb
  by_cases hkj : k = j
  · subst hkj
    obtain ⟨_, o', ho', hall⟩ := mem_ready.1 hj
    rw [ho] at ho'; cases ho'
    exact getD_set_true (hall e he hb)
  · rw [getD_set_ne false (Ne.symm hkj)] at hk
    exact getD_set_true (hc k hk o ho e he hb)
theorem anyA_first {Q : St → Prop} {i : Nat} {oi : Oper} {p : PV} (hi : ops[i]? = some oi) (hei : isEff oi = false) : ∀ (f : Nat) (listed : Array Bool) (st : St),
    Cl ops listed → (∀ j oj, ops[j]? = some oj → j ≠ i → listed.getD j true = false → isEff oj = true → reachF ops ops.size j i = true) →
    (∀ j oj, ops[j]? = some oj → j ≠ i → listed.getD j true = false → (∀ e ∈ oj.after, Region.binds .any e = true → e.on ≠ i) → oi.apart ops oj = true) →
    i ∈ Region.ready .any ops listed → AY C N ops oi p st → anyA C N ops Q f (listed.setIfInBounds i true) (st.put oi.dst p) → anyA C N ops Q (f + 1) listed st := by
  intro f
  induction f with
  | zero =>
    intro listed st _ _ _ hr hy H
    refine ⟨fun h => (by rw [h] at hr; cases hr), fun j hj => ?_⟩
    by_cases hji : j = i
    · subst hji; exact hy.aOp hi hei H
    · have := ready_mono hj hji
      rw [H.1] at this
      cases this
  | succ f ih =>
    intro listed st hc hreach hfree hr hy H
    refine ⟨fun h => (by rw [h] at hr; cases hr), fun j hj => ?_⟩
    by_cases hji : j = i
    · subst hji; exact hy.aOp hi hei H
    · have h1 := H.2 j (ready_mono hj hji)
      obtain ⟨hjun, oj, hoj, hall⟩ := mem_ready.1 hj
      have h0 := (mem_ready.1 hr).1
      have hif : listed.getD i false = false := by
        rcases Nat.lt_or_ge i listed.size with h' | h'
        · simp [h'] at h0 ⊢; exact h0
        · simp [Array.getElem?_eq_none h'] at h0
      have hnot : ∀ e ∈ oj.after, Region.binds .any e = true → e.on ≠ i := fun e he hb heq => by
        have h1 := hall e he hb
        rw [heq, hif] at h1; cases h1
      have hej : isEff oj = false := by
        cases he : isEff oj with
        | false => rfl
        | true =>
          have := reachF_listed hc _ _ _ (hreach j oj hoj hji hjun he) fun o ho e he' hb => by rw [hoj] at ho; cases ho; exact hall e he' hb
          rw [hif] at this; cases this
      have hns : ∀ k, ops[k]? = some oj → soleB ops k = true → False := fun k hk hs => by
        obtain rfl := sole_eq hk hoj hs
        have hjf : listed.getD k false = false := by
          rcases Nat.lt_or_ge k listed.size with h' | h'
          · simp [h'] at hjun ⊢; exact hjun
          · simp [Array.getElem?_eq_none h'] at hjun
        rcases soleB_at hs (Array.getElem?_eq_some_iff.1 hi).1 (Ne.symm hji) with h3 | h3
        · have := reachF_listed hc _ _ _ h3 fun o ho e he' hb => by rw [hoj] at ho; cases ho; exact hall e he' hb
          rw [hif] at this; cases this
        · obtain ⟨_, oi', hoi', hall'⟩ := mem_ready.1 hr
          have := reachF_listed hc _ _ _ h3 fun o ho e he' hb => by rw [hoi'] at ho; cases ho; exact hall' e he' hb
          rw [hjf] at this; cases this
      have h2 := aOp_put hoj hej hns (hfree j oj hoj hji hjun hnot) hy h1
      have sub : ∀ k, k ≠ i → (listed.setIfInBounds j true).getD k true = false → listed.getD k true = false := fun k hki hun => by
        by_cases hjk : j = k
        · subst hjk; exact hjun
        · rw [getD_set_ne true hjk] at hun; exact hun
      refine aOp_mono (fun s h3 => ih (listed.setIfInBounds j true) s (hc.add hj) (fun k ok hk hki hun => hreach k ok hk hki (sub k hki hun)) (fun k ok hk hki hun => hfree k ok hk hki (sub k hki hun)) (ready_mono hr (Ne.symm hji)) h3.1 ?_) h2
      rw [Array.setIfInBounds_comm _ _ hji]
      exact h3.2
def maskL : List Nat → Nat
  | [] => 0
  | t :: r => (1 <<< t) ||| maskL r
def lookM (ops : Array Oper) (o : Oper) : Nat := maskL (o.looksAt ops)
theorem maskL_mem : ∀ (l : List Nat) (t : Nat), t ∈ l → (maskL l).testBit t = true
  | [], t, h => by simp at h
  | u :: r, t, h => by
    simp only [maskL, Nat.testBit_or, Bool.or_eq_true]
    rcases List.mem_cons.1 h with rfl | h
    · left; simp [Nat.testBit_shiftLeft]
    · exact .inr (maskL_mem r t h)
def apartM (x y : Oper) (lx ly : Nat) : Bool :=
  (match x.dst with
   | some d => !ly.testBit d && (match y.dst with
     | some d' => d' != d
     | none => true)
   | none => true) &&
  (match y.dst with
   | some d => !lx.testBit d
   | none => true)
theorem apartM_spec {ops : Array Oper} {x y : Oper} (h : apartM x y (lookM ops x) (lookM ops y) = true) : x.apart ops y = true := by
  have key : ∀ (o : Oper) (d : Nat), (lookM ops o).testBit d = false → (o.looksAt ops).contains d = false := fun o d hd => by
    cases hc : (o.looksAt ops).contains d with
    | false => rfl
    | true => rw [lookM, maskL_mem _ d (by simpa using hc)] at hd; cases hd
  simp only [apartM, Bool.and_eq_true] at h
  obtain ⟨h1, h2⟩ := h
  simp only [Oper.apart, Bool.and_eq_true]
  refine ⟨?_, ?_⟩
  · cases hx : x.dst with
    | none => rfl
    | some d =>
      simp only [hx, Bool.and_eq_true, Bool.not_eq_true'] at h1
      simp only [Bool.and_eq_true, Bool.not_eq_true', key y d h1.1, true_and]
      cases hy : y.dst with
      | none => rfl
      | some d' => simp only [hy, bne_iff_ne, ne_eq] at h1; simp [h1.2]
  · cases hy : y.dst with
    | none => rfl
    | some d => simp only [hy, Bool.not_eq_true'] at h2; simp only [key x d h2, Bool.not_false]
def laterOk (ops : Array Oper) (k : Nat) (o : Oper) : Nat → List Oper → Bool
  | _, [] => true
  | j, oj :: r => ((oj.after.any fun e => Region.binds .any e && e.on == k) || apartM o oj (lookM ops o) (lookM ops oj)) && (!isEff oj || reachF ops ops.size j k) && laterOk ops k o (j + 1) r
def lexOk (ops : Array Oper) : Nat → List Oper → Bool
  | _, [] => true
  | k, o :: r => (o.after.all fun e => !Region.binds .any e || e.on < k) &&
      (if isEff o then r.all fun oj => oj.after.any fun e => Region.binds .any e && k ≤ e.on else laterOk ops k o (k + 1) r) && lexOk ops (k + 1) r
def okDraw (ops : Array Oper) : Bool := lexOk ops 0 ops.toList
theorem laterOk_spec {k : Nat} {o : Oper} : ∀ (l : List Oper) (j : Nat), laterOk ops k o j l = true → ∀ (i : Nat) (oj : Oper), l[i]? = some oj →
    ((∃ e ∈ oj.after, Region.binds .any e = true ∧ e.on = k) ∨ o.apart ops oj = true) ∧ (isEff oj = true → reachF ops ops.size (j + i) k = true)
  | [], j, _, i, oj, h => by simp at h
  | x :: r, j, h, i, oj, hi => by
    simp only [laterOk, Bool.and_eq_true, Bool.or_eq_true, Bool.not_eq_true'] at h
    obtain ⟨⟨h1, h2⟩, h3⟩ := h
    cases i with
    | zero =>
      simp only [List.getElem?_cons_zero, Option.some.injEq] at hi
      subst hi
      refine ⟨h1.imp (fun h => ?_) apartM_spec, fun he => ?_⟩
      · obtain ⟨e, he, hb⟩ := Array.any_eq_true'.1 h
        simp only [Bool.and_eq_true, beq_iff_eq] at hb
        exact ⟨e, he, hb⟩
      · rcases h2 with h2 | h2
        · rw [he] at h2; cases h2
        · exact h2
    | succ i =>
      have := laterOk_spec r (j + 1) h3 i oj (by simpa using hi)
      rw [show j + (i + 1) = j + 1 + i from by omega]
      exact this
def Upto (ops : Array Oper) (k : Nat) (listed : Array Bool) : Prop := listed.size = ops.size ∧ ∀ j, j < ops.size → listed[j]? = some (decide (j < k))
theorem Upto.next {k : Nat} {listed : Array Bool} (h : Upto ops k listed) (hk : k < ops.size) : Upto ops (k + 1) (listed.setIfInBounds k true) := by
  refine ⟨by simp [h.1], fun j hj => ?_⟩
  by_cases hjk : k = j
  · subst hjk
    rw [Array.getElem?_setIfInBounds_self_of_lt (by rw [h.1]; exact hk)]
    simp
  · rw [Array.getElem?_setIfInBounds_ne hjk, h.2 j hj]
    congr 1
    exact decide_eq_decide.2 (by omega)
theorem Upto.before {k j : Nat} {listed : Array Bool} (h : Upto ops k listed) (hj : j < k) (hk : k ≤ ops.size) : listed.getD j false = true := by
  rw [Array.getD_eq_getD_getElem?, h.2 j (by omega)]; simp [hj]
theorem Upto.behind {k j : Nat} {listed : Array Bool} (h : Upto ops k listed) (hu : listed.getD j true = false) : k ≤ j ∧ j < ops.size := by
  rcases Nat.lt_or_ge j ops.size with hj | hj
  · rw [Array.getD_eq_getD_getElem?, h.2 j hj] at hu
    simp only [Option.getD_some, decide_eq_false_iff_not] at hu
    exact ⟨by omega, hj⟩
  · rw [Array.getD_eq_getD_getElem?, Array.getElem?_eq_none (by rw [h.1]; exact hj)] at hu
    cases hu
theorem anyA_lex {Q : St → Prop} (hd : ∀ (i : Nat) o, ops[i]? = some o → ∀ t, o.dst = some t → t < N) : ∀ (l : List Oper) (k : Nat) (listed : Array Bool) (st : St), (∀ j, l[j]? = ops[k + j]?) → Upto ops k listed → Cl ops listed →
    lexOk ops k l = true → vcOps C N true ops l st Q → anyA C N ops Q l.length listed st
  | [], k, listed, st, hl, hu, _, hB, h => by
    refine ⟨?_, h⟩
    cases hr : Region.ready .any ops listed with
    | nil => rfl
    | cons j r =>
      have hj : j ∈ Region.ready .any ops listed := by rw [hr]; simp
      obtain ⟨h1, h2⟩ := hu.behind (mem_ready.1 hj).1
      have := hl (j - k)
      rw [show k + (j - k) = j from by omega, Array.getElem?_eq_getElem h2] at this
      simp at this
  | o :: l, k, listed, st, hl, hu, hc, hB, h => by
    have h0 : ops[k]? = some o := by simpa using (hl 0).symm
    have hk0 : k < ops.size := (Array.getElem?_eq_some_iff.1 h0).1
    have hl' : ∀ j, l[j]? = ops[k + 1 + j]? := fun j => by have := hl (j + 1); simpa [Nat.add_assoc, Nat.add_comm 1 j] using this
    simp only [lexOk, Bool.and_eq_true] at hB
    obtain ⟨⟨hB0, hB1⟩, hB'⟩ := hB
    have hk : k ∈ Region.ready .any ops listed := by
      refine mem_ready.2 ⟨?_, o, h0, fun e he hb => ?_⟩
      · rw [Array.getD_eq_getD_getElem?, hu.2 k hk0]; simp
      · have := Array.all_eq_true_iff_forall_mem.1 hB0 e he
        simp only [hb, Bool.not_true, Bool.false_or, decide_eq_true_eq] at this
        exact hu.before this (Nat.le_of_lt hk0)
    unfold vcOps at h
    cases he : isEff o with
    | true =>
      simp only [he, if_true] at hB1
      have hr : ∀ i ∈ Region.ready .any ops listed, i = k := fun i hi => by
        obtain ⟨h1, h2⟩ := hu.behind (mem_ready.1 hi).1
        by_cases hik : i = k
        · exact hik
        · exfalso
          obtain ⟨_, oi, hoi, hall⟩ := mem_ready.1 hi
          have hli : l[i - (k + 1)]? = some oi := by rw [hl', show k + 1 + (i - (k + 1)) = i from by omega]; exact hoi
          have := List.all_eq_true.1 hB1 oi (List.mem_of_getElem? hli)
          obtain ⟨e, he', hb⟩ := Array.any_eq_true'.1 this
          simp only [Bool.and_eq_true, decide_eq_true_eq] at hb
          have h3 := hall e he' hb.1
          rw [Array.getD_eq_getD_getElem?] at h3
          rcases Nat.lt_or_ge e.on ops.size with h4 | h4
          · rw [hu.2 _ h4] at h3; simp at h3; omega
          · rw [Array.getElem?_eq_none (by rw [hu.1]; exact h4)] at h3; cases h3
      refine ⟨fun h => (by rw [h] at hk; cases hk), fun i hi => ?_⟩
      have hik := hr i hi
      subst hik
      unfold aOp
      simp only [h0, he, if_true]
      have h' : pB (wantd ops st.env o) (vcOp C N true ops o st fun s => vcOps C N true ops l s Q) (vcOps C N true ops l (st.put o.dst (.tup [])) Q) := h
      refine pB_mono (fun h => ?_) (fun h => anyA_lex hd l (i + 1) _ _ hl' (hu.next hk0) (hc.add hk) hB' h) h'
      have : opKind o.op = .e := by
        unfold isEff at he
        cases hkd : opKind o.op <;> rw [hkd] at he <;> simp at he ⊢
      have hT : OpT C N o st (fun s => vcOps C N true ops l s Q) := by
        unfold vcOp at h
        rw [this] at h
        simp only at h
        cases hev : eve C st o.op with
        | none => rw [hev] at h; exact h.elim
        | some x => obtain ⟨p, σ', nx'⟩ := x; rw [hev] at h; exact opT_of_e (hd i o h0) hev h
      exact OpT.mono (fun s hs => anyA_lex hd l (i + 1) _ s hl' (hu.next hk0) (hc.add hk) hB' hs) hT
    | false =>
      simp only [he, Bool.false_eq_true, if_false] at hB1
      have hex : (∃ p, AY C N ops o p st ∧ vcOps C N true ops l (st.put o.dst p) Q) ∨ (wantd ops st.env o = some true ∧ soleB ops k = true ∧ OpT C N o st (fun s => vcOps C N true ops l s Q)) := by
        cases hw : wantd ops st.env o with
        | none => rw [hw] at h; exact h.elim
        | some b =>
          rw [hw] at h
          cases b with
          | false => exact .inl ⟨.tup [], .inr ⟨hw, rfl⟩, h⟩
          | true =>
            simp only [onB] at h
            unfold vcOp at h
            split at h
            · cases hev : evq C st.σ st.env o.op with
              | none => rw [hev] at h; exact h.elim
              | some p => rw [hev] at h; exact .inl ⟨p, .inl ⟨hw, opY_of_q hev⟩, h⟩
            · rename_i hkd; unfold isEff at he; rw [hkd] at he; cases he
            · simp only [if_true] at h
              rcases h with ⟨p, h1, h2⟩ | ⟨j, h1, h2, h3⟩
              · exact .inl ⟨p, .inl ⟨hw, h1⟩, h2⟩
              · obtain rfl := sole_eq h1 h0 h2
                exact .inr ⟨rfl, h2, h3 (hd j o h0)⟩
      rcases hex with hex | ⟨hw, hs, hT⟩
      rotate_left
      · have hb := soleB_back hs
        have hr : ∀ i ∈ Region.ready .any ops listed, i = k := fun i hi => by
          obtain ⟨h1, h2⟩ := hu.behind (mem_ready.1 hi).1
          by_cases hik : i = k
          · exact hik
          · exfalso
            rcases soleB_at hs h2 hik with h3 | h3
            · have := reachF_back hb _ _ _ h3; omega
            · obtain ⟨_, oi, hoi, hall⟩ := mem_ready.1 hi
              have := reachF_listed hc _ _ _ h3 fun o ho e he' hb => by rw [hoi] at ho; cases ho; exact hall e he' hb
              rw [Array.getD_eq_getD_getElem?, hu.2 k hk0] at this
              simp at this
        refine ⟨fun h => (by rw [h] at hk; cases hk), fun i hi => ?_⟩
        have hik := hr i hi
        subst hik
        unfold aOp
        simp only [h0, he, hw, pB, Bool.false_eq_true, if_false]
        exact .inr ⟨i, h0, hs, fun _ => OpT.mono (fun s hs' => anyA_lex hd l (i + 1) _ s hl' (hu.next hk0) (hc.add hk) hB' hs') hT⟩
      obtain ⟨p, hy, hK⟩ := hex
      have hlater : ∀ j oj, ops[j]? = some oj → j ≠ k → listed.getD j true = false → ((∃ e ∈ oj.after, Region.binds .any e = true ∧ e.on = k) ∨ o.apart ops oj = true) ∧ (isEff oj = true → reachF ops ops.size j k = true) := fun j oj hj hjk hun => by
        obtain ⟨h1, h2⟩ := hu.behind hun
        have := laterOk_spec l (k + 1) hB1 (j - (k + 1)) oj (by rw [hl', show k + 1 + (j - (k + 1)) = j from by omega]; exact hj)
        rw [show k + 1 + (j - (k + 1)) = j from by omega] at this
        exact this
      refine anyA_first h0 he l.length listed st hc (fun j oj hj hjk hun hej => (hlater j oj hj hjk hun).2 hej) (fun j oj hj hjk hun hno => ?_) hk hy (anyA_lex hd l (k + 1) _ _ hl' (hu.next hk0) (hc.add hk) hB' hK)
      rcases (hlater j oj hj hjk hun).1 with ⟨e, he', hb, hon⟩ | h
      · exact absurd hon (hno e he' hb)
      · exact h
theorem anyA_of_vc {Q : St → Prop} (hd : ∀ (i : Nat) o, ops[i]? = some o → ∀ t, o.dst = some t → t < N) (hok : okDraw ops = true) (h : vcOps C N true ops ops.toList st Q) :
    anyA C N ops Q ops.size (Array.replicate ops.size false) st := by
  have := anyA_lex (C := C) (Q := Q) hd ops.toList 0 (Array.replicate ops.size false) st (by simp) ⟨by simp, fun j hj => by simp [hj]⟩ (fun j hj => by
    simp only [Array.getD_eq_getD_getElem?, Array.getElem?_replicate] at hj
    split at hj <;> simp at hj) hok h
  simpa using this
end
end Go.Ab
