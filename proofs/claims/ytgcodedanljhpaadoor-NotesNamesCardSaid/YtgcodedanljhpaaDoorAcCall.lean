/- Abstract values: what code does, function by function; contracts; calls. -/
import Derived.Test.YtgcodedanljhpaaDoorAcTurn
import Derived.Test.YtgcodedanljhpaaDoorAcDraw
set_option linter.unusedSimpArgs false
set_option linter.unusedVariables false
namespace Go.Ab
open Go
def onC (x : Option PV) (t e : Prop) [Hid t] [Hid e] : Prop :=
  match x with
  | some (.lit (.bool true)) => t
  | some (.lit (.bool false)) => e
  | _ => False
def dstsOk (N : Nat) (ops : Array Oper) : Bool := ops.all fun o => match o.dst with
  | some d => d < N
  | none => true
def okCode (N : Nat) : Code → Bool
  | .region _ ops _ => dstsOk N ops && ops.all noDef
  | .seq a b => okCode N a && okCode N b
  | .cond _ a b => okCode N a && okCode N b
  | .block _ c => okCode N c
  | .loop c => okCode N c
  | .scope c => okCode N c
  | .rangeFunc _ ps a c => ps.all (fun t => t < N) && okCode N a && okCode N c
  | _ => true
def LoopQ (C : Ctx) (N : Nat) (c : Code) (st : St) (Q : Exit → St → Prop) [Hid c] [Hid st] [Hid Q] : Prop := okCode N c = true → AbsW C N (.loop c) st Q
def RangeQ (C : Ctx) (N : Nat) (g : Operand) (ps : Array Tmp) (a c : Code) (st : St) (Q : Exit → St → Prop) [Hid a] [Hid c] [Hid st] [Hid Q] : Prop := okCode N (.rangeFunc g ps a c) = true → AbsW C N (.rangeFunc g ps a c) st Q
def RegJ (C : Ctx) (N : Nat) (ops : Array Oper) (st : St) (K : St → Prop) : Prop := ∃ (J : Store → Prop) (D E : List Nat), okJ ops D E = true ∧ J st.σ ∧ vcJ C N J D E ops 0 ops.toList st K
def callsB (ops : Array Oper) : Bool := (List.range ops.size).all fun k => match ops[k]? with
  | some o => !isCallV o || soleB ops k
  | none => true
def vc (C : Ctx) (N : Nat) : Code → St → (Exit → St → Prop) → Prop
  | .skip, st, Q => Q .normal st
  | .label _, st, Q => Q .normal st
  | .region _ ops d, st, Q => if d = true then (if okDraw ops && callsB ops then vcOps C N true ops ops.toList st (Q .normal) else (okDraw ops = true ∧ vcOps C N true ops ops.toList st (Q .normal)) ∨ RegJ C N ops st (Q .normal)) else vcOps C N false ops ops.toList st (Q .normal)
  | .seq a b, st, Q => vc C N a st (thenQ (fun s => vc C N b s Q) Q)
  | .cond c a b, st, Q => onC (rd C st.env c) (vc C N a st Q) (vc C N b st Q)
  | .block i c, st, Q => vc C N c st (blockQ i Q)
  | .exit i, st, Q => Q (.exit i) st
  | .ret, st, Q => Q .ret st
  | .loop c, st, Q => LoopQ C N c st Q
  | .goto l, st, Q => Q (.goto l) st
  | .rangeFunc g ps a c, st, Q => RangeQ C N g ps a c st Q
  | _, _, _ => False
section
variable {C : Ctx} {N : Nat}
theorem dsts_mem {ops : Array Oper} (h : dstsOk N ops = true) : ∀ o ∈ ops.toList, ∀ t, o.dst = some t → t < N := by
  intro o ho t ht
  have := Array.all_eq_true_iff_forall_mem.1 h o (Array.mem_toList_iff.1 ho)
  rw [ht] at this
  simpa using this
theorem vc_sound : ∀ (c : Code) (st : St) (Q : Exit → St → Prop), okCode N c = true → vc C N c st Q → AbsW C N c st Q
  | .skip, st, Q, _, h => .skip h
  | .label _, st, Q, _, h => .label h
  | .exit _, st, Q, _, h => .exit h
  | .ret, st, Q, _, h => .ret h
  | .goto l, st, Q, _, h => fun _ _ _ κ _ w s => wpIn_goto ⟨κ, st, h, s, .refl κ st.σ w, .same rfl⟩
  | .loop c, st, Q, ho, h => h (by simpa [okCode] using ho)
  | .rangeFunc g ps a c, st, Q, ho, h => h ho
  | .block i c, st, Q, ho, h => .block (vc_sound c st _ (by simpa [okCode] using ho) h)
  | .seq a b, st, Q, ho, h => by
    simp only [okCode, Bool.and_eq_true] at ho
    refine .seq ((vc_sound a st _ ho.1 h).mono fun e s hq => ?_)
    cases e <;> first | exact vc_sound b s Q ho.2 hq | exact hq
  | .cond c a b, st, Q, ho, h => by
    simp only [okCode, Bool.and_eq_true] at ho
    simp only [vc] at h
    unfold onC at h
    split at h
    · rename_i hc
      exact .cond (t := true) (fun κ a w s => by have := rd_sound s hc; simp only [Rel] at this; exact this.1) (vc_sound a st Q ho.1 h)
    · rename_i hc
      exact .cond (t := false) (fun κ a w s => by have := rd_sound s hc; simp only [Rel] at this; exact this.1) (vc_sound b st Q ho.2 h)
    · exact h.elim
  | .region id ops d, st, Q, ho, h => fun rd mm _ κ a w s => by
    simp only [okCode, Bool.and_eq_true] at ho
    have hd := dsts_mem ho.1
    have hnd : ∀ o ∈ ops.toList, noDef o = true := fun o hm => Array.all_eq_true_iff_forall_mem.1 ho.2 o (Array.mem_toList_iff.1 hm)
    have hnd' : ∀ (i : Nat) o, ops[i]? = some o → noDef o = true := fun i o hi => hnd o (Array.mem_toList_iff.2 (Array.mem_of_getElem? hi))
    have hd' : ∀ (i : Nat) o, ops[i]? = some o → ∀ t, o.dst = some t → t < N := fun i o hi => hd o (Array.mem_toList_iff.2 (Array.mem_of_getElem? hi))
    simp only [vc] at h
    cases d with
    | false =>
      simp only [Bool.false_eq_true, if_false] at h
      refine wpIn_region ?_
      have := wpOps_of_vc (rd := rd) (mm := mm) (C := C) (N := N) (ops := ops) (Q' := fun e a' w' => ∃ κ' st', Q e st' ∧ Sim C N κ' st' a' w' ∧ Evo κ st.σ w κ' st'.σ w' ∧ DfOk κ' st'.σ a w a' w') ops.toList 0 st κ a w (Q .normal) (by simp) hd hnd h s (fun κ' st' a' w' q s' ev df => ⟨κ', st', q, s', ev, .same df⟩)
      rw [List.range_eq_range']
      simpa using this
    | true =>
      simp only [if_true] at h
      refine wpIn_region_any C.mixed ?_
      have hg : Gro κ w κ { w with drawn := w.drawn + 1 } := ⟨.refl κ, fun _ _ => rfl, Nat.le_refl _, rfl, rfl, ⟨rfl, Nat.le_succ _⟩, fun _ h => .inl h, fun _ _ => rfl, fun _ => rfl⟩
      have h' : (okDraw ops = true ∧ vcOps C N true ops ops.toList st (Q .normal)) ∨ RegJ C N ops st (Q .normal) := by
        by_cases hok : (okDraw ops && callsB ops) = true
        · rw [if_pos hok] at h
          rw [Bool.and_eq_true] at hok
          exact .inl ⟨hok.1, h⟩
        · rw [if_neg hok] at h; exact h
      rcases h' with ⟨hok, h⟩ | h
      · exact anyA_sound hd' hnd' _ _ st κ a _ (anyA_of_vc hd' hok h) (hg.sim s) fun κ' st' a' w' q s' ev df => ⟨κ', st', q, s', hg.evo.trans ev, .same df⟩
      · obtain ⟨J, D, E, h1, h2, h3⟩ := h
        exact anyJ_sound hd' hnd' _ _ st κ a _ (fun j hj => by
          simp only [Array.getD_eq_getD_getElem?, Array.getElem?_replicate] at hj
          split at hj <;> simp at hj) (.inl h2) (anyJ_of_vc hd' h2 h1 h3) (hg.sim s) fun κ' st' a' w' q s' ev df => ⟨κ', st', q, s', hg.evo.trans ev, .same df⟩
theorem vc_regJ {i : Nat} {l : List Oper} {st : St} {Q : Exit → St → Prop} (J : Store → Prop) (D E : List Nat) (h0 : (okDraw (List.toArray l) && callsB (List.toArray l)) = false) (h1 : okJ (List.toArray l) D E = true) (h2 : J st.σ)
    (h : vcJ C N J D E (List.toArray l) 0 l st (Q .normal)) : vc C N (.region i (List.toArray l) true) st Q := by
  simp only [vc, h0, if_true, Bool.false_eq_true, if_false]
  exact .inr ⟨J, D, E, h1, h2, h⟩
theorem vc_text {i : Nat} {l : List Oper} {st : St} {Q : Exit → St → Prop} (h1 : okDraw (List.toArray l) = true)
    (h : vcOps C N true (List.toArray l) l st (Q .normal)) : vc C N (.region i (List.toArray l) true) st Q := by
  simp only [vc, h1, if_true, Bool.true_and]
  split
  · exact h
  · exact .inl ⟨trivial, h⟩
theorem LoopQ.rule {c : Code} {st : St} {Q : Exit → St → Prop} (I : Nat → St → Prop) (m : Nat) (st0 : St) (hw : Weak st st0) (h0 : I m st0)
    (hs : ∀ m s, I m s → vc C N c s (thenQ (fun s' => ∃ m' s'', m' < m ∧ Weak s' s'' ∧ I m' s'') Q)) : LoopQ C N c st Q := fun ho =>
  .weaken hw (.loop I m h0 fun m s hI => vc_sound c s _ ho (hs m s hI))
end
/-! ### contracts -/
def dr1 (σ : Store) : PV → Option PV
  | .lit v => some (.lit v)
  | .imm es c => some (.imm es c)
  | .cptr cs => some (.cptr cs)
  | .own id ver off len clip => match σ id with
    | some (.row ver' _ es _) => if ver = ver' ∧ off + len ≤ es.length ∧ es.all (fun e => e.all flat) = true then some (.imm ((es.drop off).take len) clip) else none
    | _ => none
  | _ => none
def dr1s (σ : Store) : List PV → Option (List PV)
  | [] => some []
  | p :: ps => match dr1 σ p, dr1s σ ps with
    | some q, some qs => some (q :: qs)
    | _, _ => none
def drRows (σ : Store) : List (List PV) → Option (List (List PV))
  | [] => some []
  | e :: es => match dr1s σ e, drRows σ es with
    | some d, some ds => some (d :: ds)
    | _, _ => none
mutual
def drc (σ : Store) : PV → Option PV
  | .lit v => some (.lit v)
  | .imm es c => some (.imm es c)
  | .cptr cs => some (.cptr cs)
  | .own id ver off len clip => match σ id with
    | some (.row ver' sz es _) => if ver = ver' ∧ off + len ≤ es.length ∧ es.all (fun e => e.all flat) = true then some (.imm ((es.drop off).take len) clip)
      else if ver = ver' ∧ off + len ≤ es.length then (match drRows σ ((es.drop off).take len) with
        | some ds => some (.imm ds clip)
        | none => none) else none
    | _ => none
  | .ptr id ver i off => match σ id with
    | some (.row ver' sz es _) => if ver = ver' then (match es[i]? with
      | some e => if e.all flat = true then some (.cptr (e.drop off)) else (match dr1s σ (e.drop off) with
        | some ds => some (.cptr ds)
        | none => none)
      | none => none) else none
    | _ => none
  | .clo fn first cap => match drcs σ first, drcs σ cap with
    | some f, some c => some (.clo fn f c)
    | _, _ => none
  | .ifc t p => match drc σ p with
    | some q => some (.ifc t q)
    | none => none
  | .agg cs => match drcs σ cs with
    | some ds => some (.agg ds)
    | none => none
  | .tup cs => match drcs σ cs with
    | some ds => some (.tup ds)
    | none => none
  | _ => none
def drcs (σ : Store) : List PV → Option (List PV)
  | [] => some []
  | p :: ps => match drc σ p, drcs σ ps with
    | some q, some qs => some (q :: qs)
    | _, _ => none
end
def Kn.lent (κ : Kn) (σ : Store) : Kn := ⟨fun _ _ => none, fun _ => none, fun b => κ.fz b ∨ ∃ i B, σ i = some B ∧ BlkAt κ i B b⟩
section
variable {C : Ctx} {N : Nat} {κ : Kn} {st : St} {a : Act} {w : World}
theorem Kn.lent_bare (κ : Kn) (σ : Store) : (κ.lent σ).bare = κ.lent σ := rfl
theorem lent_le (σ : Store) : κ.bare.le (κ.lent σ).bare := ⟨fun _ _ _ h => (by cases h), fun _ _ h => (by cases h), fun _ h => .inl h⟩
theorem all_take2 {α : Type} {p : α → Bool} {l : List α} {a b : Nat} (h : l.all p = true) : ((l.drop a).take b).all p = true := all_take (all_drop h)
theorem own_read (s : Sim C N κ st a w) {id ver off len sz : Nat} {clip fz : Bool} {es ds : List (List PV)} {v : Value} (hσ : st.σ id = some (.row ver sz es fz)) (hl : off + len ≤ es.length)
    (hd : ∀ b o, RelRows κ w b o sz ((es.drop off).take len) → RelRows (κ.lent st.σ) w b o sz ds) (hdl : ds.length = len) (hr : Rel κ w (.own id ver off len clip) v) : Rel (κ.lent st.σ) w (.imm ds clip) v := by
  simp only [Rel] at hr ⊢
  obtain ⟨A, cap, rfl, h1, h2, L, h3, h4⟩ := hr
  obtain ⟨_, L', k1, k2, k3, k4⟩ := s.blk id _ hσ
  rw [h3] at k1; cases k1
  refine ⟨A, len, cap, rfl, hdl.symm, h1, h2, ?_⟩
  rcases h4 with ⟨q1, rfl, q2, q3⟩ | ⟨q1, q2⟩
  · rcases k4 with ⟨_, _, _, k5⟩ | ⟨k5, _⟩
    case inr => rw [q1] at k5; cases k5
    refine .inr ⟨L.blk, L.base + off * L.sz, sz, rfl, .inr ⟨id, _, hσ, L, h3, q1, rfl⟩, ?_⟩
    rw [k2]
    rw [Kn.lent_bare]
    exact hd _ _ (relRows_take len _ _ (relRows_drop off _ _ k5))
  · exact .inl (List.eq_nil_of_length_eq_zero (by omega))
theorem dr1_sound (s : Sim C N κ st a w) : ∀ (p : PV) (v : Value) (q : PV), dr1 st.σ p = some q → Rel κ w p v → Rel (κ.lent st.σ) w q v ∧ q.one = true
  | .lit u, v, q, h, hr => by simp only [dr1, Option.some.injEq] at h; subst h; exact ⟨Rel.flat (lent_le _) rfl hr, rfl⟩
  | .imm es c, v, q, h, hr => by simp only [dr1, Option.some.injEq] at h; subst h; exact ⟨Rel.flat (lent_le _) rfl hr, rfl⟩
  | .cptr cs, v, q, h, hr => by simp only [dr1, Option.some.injEq] at h; subst h; exact ⟨Rel.flat (lent_le _) rfl hr, rfl⟩
  | .own id ver off len clip, v, q, h, hr => by
    simp only [dr1] at h
    split at h
    · rename_i ver' sz es fz hσ
      split at h
      · rename_i hg
        obtain ⟨rfl, hl, hf⟩ := hg
        cases h
        exact ⟨own_read s hσ hl (fun b o hrr => relRows_flat (lent_le _) _ _ (all_take2 hf) hrr) (by simp; omega) hr, rfl⟩
      · cases h
    · cases h
  | .ptr .., v, q, h, hr => by simp [dr1] at h
  | .clo .., v, q, h, hr => by simp [dr1] at h
  | .ifc .., v, q, h, hr => by simp [dr1] at h
  | .agg _, v, q, h, hr => by simp [dr1] at h
  | .tup _, v, q, h, hr => by simp [dr1] at h
  | .mp _, v, q, h, hr => by simp [dr1] at h
  | .new _ _, v, q, h, hr => by simp [dr1] at h
theorem dr1s_sound (s : Sim C N κ st a w) {b : Nat} : ∀ (cs ds : List PV) (o : Nat), dr1s st.σ cs = some ds → RelCells κ w b o cs → RelCells (κ.lent st.σ) w b o ds
  | [], ds, o, h, _ => by simp only [dr1s, Option.some.injEq] at h; subst h; simp [RelCells]
  | c :: cs, ds, o, h, hr => by
    simp only [dr1s] at h
    split at h
    · rename_i q qs h1 h2
      cases h
      simp only [RelCells] at hr ⊢
      obtain ⟨⟨v, g1, g2, g3⟩, g4⟩ := hr
      have := dr1_sound s c v q h1 g3
      exact ⟨⟨v, g1, this.2, this.1⟩, dr1s_sound s cs qs (o + 1) h2 g4⟩
    · cases h
theorem dr1s_len {σ : Store} : ∀ (cs ds : List PV), dr1s σ cs = some ds → ds.length = cs.length
  | [], ds, h => by simp only [dr1s, Option.some.injEq] at h; subst h; rfl
  | c :: cs, ds, h => by
    simp only [dr1s] at h
    split at h
    · rename_i q qs h1 h2
      cases h; simp [dr1s_len cs qs h2]
    · cases h
theorem drRows_len {σ : Store} : ∀ (es ds : List (List PV)), drRows σ es = some ds → ds.length = es.length
  | [], ds, h => by simp only [drRows, Option.some.injEq] at h; subst h; rfl
  | c :: cs, ds, h => by
    simp only [drRows] at h
    split at h
    · rename_i q qs h1 h2
      cases h; simp [drRows_len cs qs h2]
    · cases h
theorem drRows_sound (s : Sim C N κ st a w) {b sz : Nat} : ∀ (es ds : List (List PV)) (o : Nat), drRows st.σ es = some ds → RelRows κ w b o sz es → RelRows (κ.lent st.σ) w b o sz ds
  | [], ds, o, h, _ => by simp only [drRows, Option.some.injEq] at h; subst h; simp [RelRows]
  | e :: es, ds, o, h, hr => by
    simp only [drRows] at h
    split at h
    · rename_i q qs h1 h2
      cases h
      simp only [RelRows] at hr ⊢
      exact ⟨by rw [dr1s_len _ _ h1]; exact hr.1, dr1s_sound s e q o h1 hr.2.1, drRows_sound s es qs (o + sz) h2 hr.2.2⟩
    · cases h
mutual
theorem drc_sound (s : Sim C N κ st a w) : ∀ (p : PV) (v : Value) (q : PV), drc st.σ p = some q → Rel κ w p v → Rel (κ.lent st.σ) w q v
  | .lit u, v, q, h, hr => by simp only [drc, Option.some.injEq] at h; subst h; exact Rel.flat (lent_le _) rfl hr
  | .imm es c, v, q, h, hr => by simp only [drc, Option.some.injEq] at h; subst h; exact Rel.flat (lent_le _) rfl hr
  | .cptr cs, v, q, h, hr => by simp only [drc, Option.some.injEq] at h; subst h; exact Rel.flat (lent_le _) rfl hr
  | .own id ver off len clip, v, q, h, hr => by
    simp only [drc] at h
    split at h
    · rename_i ver' sz es fz hσ
      split at h
      · rename_i hg
        obtain ⟨rfl, hl, hf⟩ := hg
        cases h
        exact own_read s hσ hl (fun b o hrr => relRows_flat (lent_le _) _ _ (all_take2 hf) hrr) (by simp; omega) hr
      · split at h
        · rename_i hg
          obtain ⟨rfl, hl⟩ := hg
          split at h
          · rename_i ds hds
            cases h
            exact own_read s hσ hl (fun b o hrr => drRows_sound s _ ds o hds hrr) (by rw [drRows_len _ _ hds]; simp; omega) hr
          · cases h
        · cases h
    · cases h
  | .ptr id ver i off, v, q, h, hr => by
    simp only [drc] at h
    split at h
    · rename_i ver' sz es fz hσ
      split at h
      · rename_i hv
        subst hv
        split at h
        · rename_i e he
          split at h
          · rename_i hf
            cases h
            simp only [Rel] at hr ⊢
            obtain ⟨L, h1, h2, rfl⟩ := hr
            refine ⟨L.blk, L.base + i * L.sz + off, rfl, .inr ⟨id, _, hσ, L, h1, h2, rfl⟩, ?_⟩
            rw [Kn.lent_bare]
            exact relCells_flat (lent_le _) _ _ (all_drop hf) (row_cells (off := off) s hσ h1 he).2
          · split at h
            · rename_i ds hds
              cases h
              simp only [Rel] at hr ⊢
              obtain ⟨L, h1, h2, rfl⟩ := hr
              refine ⟨L.blk, L.base + i * L.sz + off, rfl, .inr ⟨id, _, hσ, L, h1, h2, rfl⟩, ?_⟩
              rw [Kn.lent_bare]
              exact dr1s_sound s _ ds _ hds (row_cells (off := off) s hσ h1 he).2
            · cases h
        · cases h
      · cases h
    · cases h
  | .clo fn first cap, v, q, h, hr => by
    simp only [drc] at h
    split at h
    · rename_i f c hf hc
      cases h
      simp only [Rel] at hr ⊢
      obtain ⟨fs, cs, rfl, h1, h2⟩ := hr
      exact ⟨fs, cs, rfl, drcs_sound s first _ f hf h1, drcs_sound s cap _ c hc h2⟩
    · cases h
  | .ifc t p, v, q, h, hr => by
    simp only [drc] at h
    split at h
    · rename_i q' hq
      cases h
      simp only [Rel] at hr ⊢
      obtain ⟨u, rfl, h1⟩ := hr
      exact ⟨u, rfl, drc_sound s p u q' hq h1⟩
    · cases h
  | .agg cs, v, q, h, hr => by
    simp only [drc] at h
    split at h
    · rename_i ds hd
      cases h
      simp only [Rel] at hr ⊢
      obtain ⟨vs, rfl, h1, h2⟩ := hr
      exact ⟨vs, rfl, drcs_one cs ds hd h1, drcs_sound s cs _ ds hd h2⟩
    · cases h
  | .tup cs, v, q, h, hr => by
    simp only [drc] at h
    split at h
    · rename_i ds hd
      cases h
      simp only [Rel] at hr ⊢
      obtain ⟨vs, rfl, h2⟩ := hr
      exact ⟨vs, rfl, drcs_sound s cs _ ds hd h2⟩
    · cases h
  | .mp id, v, q, h, hr => by simp [drc] at h
  | .new _ es, v, q, h, hr => by simp [drc] at h
theorem drcs_sound (s : Sim C N κ st a w) : ∀ (ps : List PV) (vs : List Value) (qs : List PV), drcs st.σ ps = some qs → RelList κ w ps vs → RelList (κ.lent st.σ) w qs vs
  | [], vs, qs, h, hr => by simp only [drcs, Option.some.injEq] at h; subst h; simpa only [RelList] using hr
  | p :: ps, vs, qs, h, hr => by
    simp only [drcs] at h
    split at h
    · rename_i q qs' h1 h2
      cases h
      simp only [RelList] at hr ⊢
      obtain ⟨v, vs', rfl, g1, g2⟩ := hr
      exact ⟨v, vs', rfl, drc_sound s p v q h1 g1, drcs_sound s ps vs' qs' h2 g2⟩
    · cases h
theorem drcs_one : ∀ (cs ds : List PV), drcs st.σ cs = some ds → cs.all PV.one = true → ds.all PV.one = true
  | [], ds, h, _ => by simp only [drcs, Option.some.injEq] at h; subst h; rfl
  | c :: cs, ds, h, ho => by
    simp only [drcs] at h
    split at h
    · rename_i q qs' h1 h2
      cases h
      simp only [List.all_cons, Bool.and_eq_true] at ho ⊢
      exact ⟨drc_one c q h1 ho.1, drcs_one cs qs' h2 ho.2⟩
    · cases h
theorem drc_one : ∀ (c d : PV), drc st.σ c = some d → c.one = true → d.one = true
  | .lit _, d, h, _ => by simp only [drc, Option.some.injEq] at h; subst h; rfl
  | .imm _ _, d, h, _ => by simp only [drc, Option.some.injEq] at h; subst h; rfl
  | .cptr _, d, h, _ => by simp only [drc, Option.some.injEq] at h; subst h; rfl
  | .own .., d, h, _ => by
    simp only [drc] at h
    split at h
    · split at h
      · cases h; rfl
      · split at h
        · split at h
          · cases h; rfl
          · cases h
        · cases h
    · cases h
  | .ptr .., d, h, _ => by
    simp only [drc] at h
    split at h
    · split at h
      · split at h
        · split at h
          · cases h; rfl
          · split at h
            · cases h; rfl
            · cases h
        · cases h
      · cases h
    · cases h
  | .clo .., d, h, _ => by simp only [drc] at h; split at h <;> cases h; rfl
  | .ifc .., d, h, _ => by simp only [drc] at h; split at h <;> cases h; rfl
  | .agg _, d, h, ho => by simp [PV.one] at ho
  | .tup _, d, h, ho => by simp [PV.one] at ho
  | .mp _, d, h, _ => by simp [drc] at h
  | .new _ _, d, h, _ => by simp [drc] at h
end
end
/-! ### results -/
def RetN1 (κ : Kn) (w' : World) (p : PV) (v : Value) (us : List Nat) : Prop :=
  match p with
  | .new sz es => ∃ A cap, v = .slice A es.length cap ∧ es.length ≤ cap ∧ (∀ e ∈ es, e.length = sz) ∧
      ((∃ b o c elem fr, us = [b] ∧ A = some ⟨b, o, none⟩ ∧ w'.heap[b]? = some (.cells c elem fr) ∧ okFr fr c.size ∧ o + cap * sz ≤ c.size ∧ RelRows κ w' b o sz es) ∨ (cap = 0 ∧ us = []))
  | p => us = [] ∧ Rel κ w' p v
def RetNs (κ : Kn) (w' : World) : List PV → List Value → List Nat → Prop
  | [], vs, us => vs = [] ∧ us = []
  | p :: ps, vs, us => ∃ v vs' u us', vs = v :: vs' ∧ us = u ++ us' ∧ RetN1 κ w' p v u ∧ RetNs κ w' ps vs' us'
def RetTop (κ : Kn) (w' : World) (r : PV) (v : Value) (us : List Nat) : Prop :=
  match r with
  | .tup ps => ∃ vs, v = .tuple vs ∧ RetNs κ w' ps vs.toList us
  | p => RetN1 κ w' p v us
def retKn (fz : Nat → Prop) (w w' : World) (us : List Nat) : Kn := ⟨fun _ _ => none, fun _ => none, fun b => (fz b ∨ (w.heap.size ≤ b ∧ b < w'.heap.size)) ∧ b ∉ us⟩
def CallSpec (C : Ctx) (f : FuncId) (args : List PV) (r : PV) : Prop :=
  isGo C.P f = true ∧ ∀ (w : World) (fz : Nat → Prop) (vs : List Value), (∀ b, fz b → b < w.heap.size) →
    (∀ g cs, C.G g = some cs → fz g ∧ RelCells ⟨fun _ _ => none, fun _ => none, fz⟩ w g 0 cs) → RelList ⟨fun _ _ => none, fun _ => none, fz⟩ w args vs →
    Calls C.P f vs.toArray w fun e w' => ∃ v us, e = .returned v ∧ Bel w w' ∧ us.Nodup ∧ (∀ b ∈ us, w.heap.size ≤ b ∧ b < w'.heap.size) ∧ RetTop (retKn fz w w' us) w' r v us
def resL (C : Ctx) (st : St) : List ResultVar → Option (List PV)
  | [] => some []
  | .tmp t :: r => match st.env t, resL C st r with
    | some p, some ps => some (p :: ps)
    | _, _ => none
  | .cell a t :: r => match st.env a with
    | some q => match evLoad C st.σ t q, resL C st r with
      | some p, some ps => some (p :: ps)
      | _, _ => none
    | none => none
def Store.del (σ : Store) (i : Nat) : Store := fun k => if k = i then none else σ k
def newL (σ : Store) : List PV → Option (List PV)
  | [] => some []
  | .own id ver off len _ :: r => match σ id with
    | some (.row ver' sz es false) => if ver = ver' ∧ off + len ≤ es.length ∧ es.all (fun e => e.all flat) = true then (match newL (σ.del id) r with
        | some qs => some (.new sz ((es.drop off).take len) :: qs)
        | none => none) else none
    | _ => none
  | p :: r => if flat p then (match newL σ r with
      | some qs => some (p :: qs)
      | none => none) else none
def finL (σ : Store) (ps : List PV) : Option (List PV) :=
  match newL σ ps with
  | some qs => some qs
  | none => drcs σ ps
def tupOf : List PV → PV
  | [p] => p
  | ps => .tup ps
def onL {α : Type} (x : Option α) (k : α → Prop) [Hid k] : Prop :=
  match x with
  | some x => k x
  | none => False
def leA (p q : PV) : Prop := p = q ∨ (∃ es c, p = .imm es c ∧ q = .imm es false) ∨ (p = .lit (.slice none 0 0) ∧ q = .imm [] false)
def le1 (p q : PV) : Prop := leA p q ∨ (p = .lit (.slice none 0 0) ∧ ∃ sz, q = .new sz [])
def leAs : List PV → List PV → Prop
  | [], [] => True
  | p :: ps, q :: qs => leA p q ∧ leAs ps qs
  | _, _ => False
def le1s : List PV → List PV → Prop
  | [], [] => True
  | p :: ps, q :: qs => le1 p q ∧ le1s ps qs
  | _, _ => False
def leT : PV → PV → Prop
  | .tup ps, .tup qs => le1s ps qs
  | p, q => le1 p q
theorem leA.rfl' {p : PV} : leA p p := .inl rfl
theorem le1.rfl' {p : PV} : le1 p p := .inl (.inl rfl)
theorem leAs.rfl' : ∀ {ps : List PV}, leAs ps ps
  | [] => trivial
  | _ :: _ => ⟨.rfl', leAs.rfl'⟩
theorem leT_one {p q : PV} (h : le1 p q) (hp : ∀ ps, p ≠ .tup ps) : leT p q := by
  unfold leT
  split
  · rename_i ps qs; exact absurd rfl (hp ps)
  · exact h
theorem leT_of {p q : PV} (h : leT p q) : le1 p q ∨ ∃ ps qs, p = .tup ps ∧ q = .tup qs ∧ le1s ps qs := by
  unfold leT at h
  split at h
  · exact .inr ⟨_, _, rfl, rfl, h⟩
  · exact .inl h
theorem Rel.leA {κ : Kn} {w : World} {p q : PV} {v : Value} (h : Rel κ w p v) (hl : Go.Ab.leA p q) : Rel κ w q v := by
  rcases hl with rfl | ⟨es, c, rfl, rfl⟩ | ⟨rfl, rfl⟩
  · exact h
  · simp only [Rel] at h ⊢
    obtain ⟨A, len, cap, h1, h2, h3, _, h5⟩ := h
    exact ⟨A, len, cap, h1, h2, h3, by simp, h5⟩
  · simp only [Rel] at h ⊢
    obtain ⟨rfl, _⟩ := h
    exact ⟨none, 0, 0, rfl, rfl, Nat.le_refl _, by simp, .inl trivial⟩
theorem RelList.leAs {κ : Kn} {w : World} : ∀ {ps qs : List PV} {vs : List Value}, RelList κ w ps vs → Go.Ab.leAs ps qs → RelList κ w qs vs
  | [], [], _, h, _ => h
  | _ :: _, [], _, _, hl => hl.elim
  | [], _ :: _, _, _, hl => hl.elim
  | p :: ps, q :: qs, vs, h, hl => by
    simp only [RelList] at h ⊢
    obtain ⟨v, vs', h1, h2, h3⟩ := h
    exact ⟨v, vs', h1, h2.leA hl.1, h3.leAs hl.2⟩
theorem retN1_le {κ : Kn} {w' : World} {p q : PV} {v : Value} {us : List Nat} (h : RetN1 κ w' p v us) (hl : le1 p q) : RetN1 κ w' q v us := by
  rcases hl with (rfl | ⟨es, c, rfl, rfl⟩ | ⟨rfl, rfl⟩) | ⟨rfl, sz, rfl⟩
  · exact h
  · exact ⟨h.1, h.2.leA (.inr (.inl ⟨_, _, rfl, rfl⟩))⟩
  · exact ⟨h.1, h.2.leA (.inr (.inr ⟨rfl, rfl⟩))⟩
  · have h2 := h.2
    simp only [Rel] at h2
    obtain ⟨rfl, _⟩ := h2
    exact ⟨none, 0, rfl, Nat.le_refl _, by simp, .inr ⟨rfl, h.1⟩⟩
theorem retNs_le {κ : Kn} {w' : World} : ∀ {ps qs : List PV} {vs : List Value} {us : List Nat}, RetNs κ w' ps vs us → le1s ps qs → RetNs κ w' qs vs us
  | [], [], _, _, h, _ => h
  | _ :: _, [], _, _, _, hl => hl.elim
  | [], _ :: _, _, _, _, hl => hl.elim
  | p :: ps, q :: qs, vs, us, h, hl => by
    simp only [RetNs] at h ⊢
    obtain ⟨v, vs', u, u', h1, h2, h3, h4⟩ := h
    exact ⟨v, vs', u, u', h1, h2, retN1_le h3 hl.1, retNs_le h4 hl.2⟩
theorem retTop_le {κ : Kn} {w' : World} {p q : PV} {v : Value} {us : List Nat} (h : RetTop κ w' p v us) (hl : leT p q) : RetTop κ w' q v us := by
  rcases leT_of hl with h1 | ⟨ps, qs, rfl, rfl, h1⟩
  · have key : ∀ {p : PV}, (∀ ps, p ≠ .tup ps) → RetTop κ w' p v us = RetN1 κ w' p v us := fun {p} hp => by
      unfold RetTop
      split
      · rename_i ps; exact absurd rfl (hp ps)
      · rfl
    rcases h1 with (rfl | ⟨es, c, rfl, rfl⟩ | ⟨rfl, rfl⟩) | ⟨rfl, sz, rfl⟩
    · exact h
    · rw [key (by simp)] at h ⊢; exact retN1_le h (.inl (.inr (.inl ⟨_, _, rfl, rfl⟩)))
    · rw [key (by simp)] at h ⊢; exact retN1_le h (.inl (.inr (.inr ⟨rfl, rfl⟩)))
    · rw [key (by simp)] at h ⊢; exact retN1_le h (.inr ⟨rfl, _, rfl⟩)
  · simp only [RetTop] at h ⊢
    obtain ⟨vs, h2, h3⟩ := h
    exact ⟨vs, h2, retNs_le h3 h1⟩
theorem CallSpec.le {C : Ctx} {f : FuncId} {args args' : List PV} {r r' : PV} (h : CallSpec C f args r) (ha : leAs args' args) (hr : leT r r') : CallSpec C f args' r' :=
  ⟨h.1, fun w fz vs h1 h2 h3 => (h.2 w fz vs h1 h2 (h3.leAs ha)).mono fun e w' ⟨v, us, g1, g2, g3, g4, g5⟩ => ⟨v, us, g1, g2, g3, g4, retTop_le g5 hr⟩⟩
def retQ (C : Ctx) (res : List ResultVar) (r : PV) : Exit → St → Prop
  | .normal, st | .ret, st => onL (resL C st res) fun ps => onL (finL st.σ ps) fun qs => leT (tupOf qs) r
  | _, _ => False
def argEnv (args : List PV) : Env := fun t => args[t]?
section
variable {C : Ctx} {N : Nat} {κ : Kn} {st : St} {a : Act} {w : World}
def resF (tmps : Array Value) : ResultVar → Sem Value
  | .tmp t => pure (tmps.getD t undef)
  | .cell x t => do loadVar t (← asAddr (tmps.getD x undef))
theorem results_eq (fn : Func) (tmps : Array Value) : results fn tmps = (do
    let vs ← fn.results.mapM (resF tmps)
    pure (if h : vs.size = 1 then vs[0] else .tuple vs)) := by
  unfold results
  have : (fun x => match x with
    | .tmp t => pure (tmps.getD t undef)
    | .cell a t => do loadVar t (← asAddr (tmps.getD a undef)) : ResultVar → Sem Value) = resF tmps := by
    funext x; cases x <;> rfl
  rw [← this]
  rfl
theorem resL_sound (s : Sim C N κ st a w) : ∀ (res : List ResultVar) (ps : List PV), resL C st res = some ps →
    ∃ vs : List Value, (res.mapM (resF a.tmps)).run C.P w = .ok vs w ∧ RelList κ w ps vs
  | [], ps, h => by simp only [resL, Option.some.injEq] at h; subst h; exact ⟨[], by simp, by simp [RelList]⟩
  | .tmp t :: r, ps, h => by
    simp only [resL] at h
    split at h
    · rename_i p ps' h1 h2
      cases h
      obtain ⟨vs, g1, g2⟩ := resL_sound s r ps' h2
      refine ⟨a.tmps.getD t undef :: vs, ?_, ?_⟩
      · simp only [List.mapM_cons, resF, Sem.run_bind, Sem.run_pure, Result.andThen_ok, g1]
      · simp only [RelList]; exact ⟨_, _, rfl, (s.env t p h1).2, g2⟩
    · cases h
  | .cell x t :: r, ps, h => by
    simp only [resL] at h
    split at h
    · rename_i q hq
      split at h
      · rename_i p ps' h1 h2
        cases h
        obtain ⟨vs, g1, g2⟩ := resL_sound s r ps' h2
        have hr := (s.env x q hq).2
        obtain ⟨z, k1, k2⟩ := evLoad_sound s h1 hr
        have hz : ∃ ad, a.tmps.getD x undef = .pointer (some ad) ∧ (loadVar t ad).run C.P w = .ok z w := by
          unfold evLoad at h1
          split at h1
          · simp only [Rel] at hr
            obtain ⟨b, o, e, _⟩ := hr
            exact ⟨_, e, by rw [e] at k1; simpa [Instr.loadAt, Instr.sureAddr] using k1⟩
          · simp only [Rel] at hr
            obtain ⟨L, _, _, e⟩ := hr
            exact ⟨_, e, by rw [e] at k1; simpa [Instr.loadAt, Instr.sureAddr] using k1⟩
          · cases h1
        obtain ⟨ad, e1, e2⟩ := hz
        refine ⟨z :: vs, ?_, ?_⟩
        · simp only [List.mapM_cons, resF, Sem.run_bind, e1, asAddr, Sem.run_pure, Result.andThen_ok, e2, g1]
        · simp only [RelList]; exact ⟨_, _, rfl, k2, g2⟩
      · cases h
    · cases h
def valOf : List Value → Value
  | [v] => v
  | vs => .tuple vs.toArray
theorem run_results (s : Sim C N κ st a w) {fn : Func} {ps : List PV} (h : resL C st fn.results.toList = some ps) :
    ∃ vs : List Value, RelList κ w ps vs ∧ (results fn a.tmps).run C.P w = .ok (valOf vs) w := by
  obtain ⟨vs, h1, h2⟩ := resL_sound s _ _ h
  refine ⟨vs, h2, ?_⟩
  rw [results_eq, Array.mapM_eq_mapM_toList]
  simp only [Sem.run_bind, Sem.run_map, h1, Result.andThen_ok, Sem.run_pure]
  rcases vs with _ | ⟨v, _ | ⟨u, vs⟩⟩ <;> simp [valOf]
theorem retN1_flat {F : Nat → Prop} {p : PV} {v : Value} (hf : flat p = true) (hF : ∀ b, κ.fz b → F b) (h : Rel κ w p v) : RetN1 ⟨fun _ _ => none, fun _ => none, F⟩ w p v [] := by
  have hle : κ.bare.le (⟨fun _ _ => none, fun _ => none, F⟩ : Kn).bare := ⟨fun _ _ _ h => (by cases h), fun _ _ h => (by cases h), hF⟩
  have := Rel.flat hle hf h
  cases p <;> simp only [flat, Bool.false_eq_true] at hf <;> exact ⟨rfl, this⟩
theorem newL_sound (s : Sim C N κ st a w) : ∀ (ps : List PV) (vs : List Value) (σ : Store) (qs : List PV), (∀ i B, σ i = some B → st.σ i = some B) → newL σ ps = some qs → RelList κ w ps vs →
    ∃ us, us.Nodup ∧ (∀ b ∈ us, ∃ i B, σ i = some B ∧ B.fz = false ∧ BlkAt κ i B b) ∧ ∀ F : Nat → Prop, (∀ b, κ.fz b → F b) → RetNs ⟨fun _ _ => none, fun _ => none, F⟩ w qs vs us
  | [], vs, σ, qs, _, h, hr => by
    simp only [newL, Option.some.injEq] at h; subst h
    simp only [RelList] at hr
    exact ⟨[], List.nodup_nil, by simp, fun _ _ => ⟨hr, rfl⟩⟩
  | p :: r, vs, σ, qs, hsub, h, hr => by
    simp only [RelList] at hr
    obtain ⟨v, vs', rfl, hr1, hr2⟩ := hr
    by_cases hp : ∃ id ver off len clip, p = .own id ver off len clip
    · obtain ⟨id, ver, off, len, clip, rfl⟩ := hp
      simp only [newL] at h
      split at h
      · rename_i ver' sz es hσ
        split at h
        · rename_i hg
          obtain ⟨rfl, hl, hf⟩ := hg
          split at h
          · rename_i qs' hqs
            cases h
            have hdel : ∀ i B, (σ.del id) i = some B → σ i = some B := fun i B hi => by
              simp only [Store.del] at hi; split at hi; cases hi; exact hi
            obtain ⟨us, u1, u2, u3⟩ := newL_sound s r vs' (σ.del id) qs' (fun i B hi => hsub i B (hdel i B hi)) hqs hr2
            have hσ' := hsub _ _ hσ
            simp only [Rel] at hr1
            obtain ⟨A, cap, rfl, h1, h2, L, h3, h4⟩ := hr1
            obtain ⟨_, L', k1, k2, k3, k4⟩ := s.blk id _ hσ'
            rw [h3] at k1; cases k1
            have hle : ∀ F : Nat → Prop, (∀ b, κ.fz b → F b) → κ.bare.le (⟨fun _ _ => none, fun _ => none, F⟩ : Kn).bare := fun F hF => ⟨fun _ _ _ h => (by cases h), fun _ _ h => (by cases h), hF⟩
            have hlen : ((es.drop off).take len).length = len := by simp; omega
            rcases h4 with ⟨q1, rfl, q2, q3⟩ | ⟨q1, q2⟩
            · rcases k4 with ⟨_, ⟨c, elem, fr, g1, g2, g3⟩, g4, g5⟩ | ⟨k5, _⟩
              case inr => rw [q1] at k5; cases k5
              have hrows := fun F hF => relRows_flat (hle F hF) _ _ (all_take2 hf) (relRows_take len _ _ (relRows_drop off _ _ g5))
              refine ⟨L.blk :: us, ?_, ?_, fun F hF => ⟨_, _, [L.blk], us, rfl, rfl, ?_, u3 F hF⟩⟩
              · rw [List.nodup_cons]
                refine ⟨fun hb => ?_, u1⟩
                obtain ⟨i, B, b1, b2, b3⟩ := u2 _ hb
                have : i = id := s.dist i id B _ _ (hsub i B (hdel i B b1)) hσ' b3 ⟨L, h3, q1, rfl⟩
                subst this
                simp [Store.del] at b1
              · intro b hb
                rcases List.mem_cons.1 hb with rfl | hb
                · exact ⟨id, _, hσ, rfl, L, h3, q1, rfl⟩
                · obtain ⟨i, B, b1, b2, b3⟩ := u2 b hb
                  exact ⟨i, B, hdel i B b1, b2, b3⟩
              · refine ⟨_, cap, by rw [hlen], by rw [hlen]; exact h1, fun e he => ((relRows_iff _ _).1 (hrows F hF)).1 e he, .inl ⟨L.blk, L.base + off * L.sz, c, elem, fr, rfl, rfl, g1, by rw [g2]; exact g3, ?_, by rw [k2]; exact hrows F hF⟩⟩
                rw [g2, ← k2]
                have : (off + cap) * L.sz = off * L.sz + cap * L.sz := Nat.add_mul _ _ _
                omega
            · have hl0 : len = 0 := by omega
              subst hl0
              refine ⟨us, u1, fun b hb => ?_, fun F hF => ⟨_, _, [], us, rfl, rfl, ⟨A, cap, by simp, by simp, by simp, .inr ⟨q1, rfl⟩⟩, u3 F hF⟩⟩
              obtain ⟨i, B, b1, b2, b3⟩ := u2 b hb
              exact ⟨i, B, hdel i B b1, b2, b3⟩
          · cases h
        · cases h
      · cases h
    · have h' : (if flat p then (match newL σ r with | some qs => some (p :: qs) | none => none) else none) = some qs := by
        cases p <;> first | exact h | (exfalso; exact hp ⟨_, _, _, _, _, rfl⟩)
      split at h'
      · rename_i hf
        split at h'
        · rename_i qs' hqs
          cases h'
          obtain ⟨us, u1, u2, u3⟩ := newL_sound s r vs' σ qs' hsub hqs hr2
          exact ⟨us, u1, u2, fun F hF => ⟨_, _, [], us, rfl, rfl, retN1_flat hf hF hr1, u3 F hF⟩⟩
        · cases h'
      · cases h'
theorem retNs_of_list {κ' : Kn} : ∀ (ps : List PV) (vs : List Value), RelList κ' w ps vs → RetNs κ' w ps vs []
  | [], vs, h => by simp only [RelList] at h; exact ⟨h, rfl⟩
  | p :: ps, vs, h => by
    simp only [RelList] at h
    obtain ⟨v, vs', rfl, h1, h2⟩ := h
    refine ⟨v, vs', [], [], rfl, rfl, ?_, retNs_of_list ps vs' h2⟩
    cases p <;> first | exact ⟨rfl, h1⟩ | (simp only [Rel] at h1)
theorem finL_sound (s : Sim C N κ st a w) {F : Nat → Prop} (hF : ∀ b, κ.fz b → F b) (hF' : ∀ i B b, st.σ i = some B → BlkAt κ i B b → F b) {ps qs : List PV} {vs : List Value} (h : finL st.σ ps = some qs) (hr : RelList κ w ps vs) :
    ∃ us, us.Nodup ∧ (∀ b ∈ us, ∃ i B, st.σ i = some B ∧ BlkAt κ i B b) ∧ RetNs ⟨fun _ _ => none, fun _ => none, fun b => F b ∧ b ∉ us⟩ w qs vs us := by
  unfold finL at h
  split at h
  · rename_i qs' hq
    cases h
    obtain ⟨us, u1, u2, u3⟩ := newL_sound s ps vs st.σ qs (fun _ _ h => h) hq hr
    refine ⟨us, u1, fun b hb => ?_, u3 _ fun b hb => ⟨hF b hb, fun hm => ?_⟩⟩
    · obtain ⟨i, B, b1, b2, b3⟩ := u2 b hb
      exact ⟨i, B, b1, b3⟩
    · obtain ⟨i, B, b1, b2, b3⟩ := u2 b hm
      exact s.nfz b ⟨i, B, b1, b2, b3⟩ hb
  · have h1 := drcs_sound s ps vs qs h hr
    have hle : (κ.lent st.σ).le ⟨fun _ _ => none, fun _ => none, fun b => F b ∧ b ∉ ([] : List Nat)⟩ := ⟨fun _ _ _ h => (by cases h), fun _ _ h => (by cases h), fun b hb => ⟨by
      rcases hb with hb | ⟨i, B, h2, h3⟩
      · exact hF b hb
      · exact hF' i B b h2 h3, by simp⟩⟩
    exact ⟨[], List.nodup_nil, by simp, retNs_of_list _ _ (RelList.mono hle (fun _ _ => rfl) _ _ h1)⟩
theorem retTop_of_list {κ' : Kn} {w' : World} {qs : List PV} {vs : List Value} {us : List Nat} (h : RetNs κ' w' qs vs us) : RetTop κ' w' (tupOf qs) (valOf vs) us := by
  rcases qs with _ | ⟨q, _ | ⟨q2, qs⟩⟩
  · obtain ⟨rfl, rfl⟩ := h
    exact ⟨#[], rfl, rfl, rfl⟩
  · obtain ⟨v, vs', u, u', rfl, rfl, h1, rfl, rfl⟩ := h
    have : tupOf [q] = q := rfl
    rw [this]
    simp only [List.append_nil, valOf]
    cases q <;> first | exact h1 | skip
    rename_i ps
    obtain ⟨rfl, h2⟩ := h1
    simp only [Rel] at h2
    obtain ⟨vs, rfl, h3⟩ := h2
    exact ⟨vs, rfl, retNs_of_list _ _ h3⟩
  · have h0 := h
    obtain ⟨v, vs', u, u', rfl, rfl, h1, v2, vs2, u2, u2', rfl, rfl, h2⟩ := h
    exact ⟨_, rfl, h0⟩
theorem callSpec_of_vc {f : FuncId} {fn : Func} {c : Code} {args : List PV} {r : PV} (hf : C.P.funcs[f]? = some fn) (hb : fn.body = some c) (hn : (fn.name != "runtime.NumGoroutine") = true)
    (hok : okCode fn.ntmps c = true) (hl : args.length ≤ fn.ntmps)
    (h : vc C fn.ntmps c ⟨argEnv args, fun _ => none, 0⟩ (retQ C fn.results.toList r)) : CallSpec C f args r := by
  refine ⟨by simp only [isGo, hf, hb, hn, Option.isSome_some, Bool.and_self], fun w fz vs hfz hg hrel => ?_⟩
  have hlen := relList_length _ _ hrel
  have hsim : Sim C fn.ntmps ⟨fun _ _ => none, fun _ => none, fz⟩ ⟨argEnv args, fun _ => none, 0⟩ { tmps := vs.toArray ++ Array.replicate (fn.ntmps - vs.toArray.size) undef, defers := [] } w := by
    refine ⟨trivial, by simp; omega, fun t p hp => ?_, fun i B h => (by cases h), fun i j B B' b h => (by cases h), fun b ⟨i, B, h, _⟩ => (by cases h), fun i B b h => (by cases h), hfz, fun _ _ _ => ⟨rfl, rfl⟩, fun i ver sz es fz v h => (by cases h), hg⟩
    simp only [argEnv] at hp
    obtain ⟨v, h1, h2⟩ := relList_get _ _ _ _ hrel hp
    have hlt : t < args.length := (List.getElem?_eq_some_iff.1 hp).1
    refine ⟨by omega, ?_⟩
    have : (vs.toArray ++ Array.replicate (fn.ntmps - vs.toArray.size) undef)[t]? = some v := by
      rw [Array.getElem?_append_left (by simp; omega)]; simpa using h1
    rw [Array.getD_eq_getD_getElem?, this]
    exact h2
  refine calls_of_abs hf hb (vc_sound c _ _ hok h) hsim ?_
  intro e a' w' κ' st' hq s' ev
  have fin : ∀ {X : Exit}, retQ C fn.results.toList r X st' → (X = .normal ∨ X = .ret) → ∃ v, (results fn a'.tmps).run C.P w' = .ok v w' ∧ ∃ v' us, (Ending.returned v = .returned v') ∧ Bel w w' ∧ us.Nodup ∧ (∀ b ∈ us, w.heap.size ≤ b ∧ b < w'.heap.size) ∧ RetTop (retKn fz w w' us) w' r v' us := by
    intro X hX hXX
    have hX' : onL (resL C st' fn.results.toList) fun ps => onL (finL st'.σ ps) fun qs => leT (tupOf qs) r := by
      rcases hXX with rfl | rfl <;> exact hX
    cases h1 : resL C st' fn.results.toList with
    | none => rw [h1] at hX'; exact hX'.elim
    | some ps =>
      rw [h1] at hX'
      simp only [onL] at hX'
      cases h2 : finL st'.σ ps with
      | none => rw [h2] at hX'; exact hX'.elim
      | some qs =>
        rw [h2] at hX'
        obtain ⟨vs', g1, g2⟩ := run_results s' h1
        have hF : ∀ b, κ'.fz b → fz b ∨ (w.heap.size ≤ b ∧ b < w'.heap.size) := fun b hb => by
          rcases ev.fznew b hb with h | h | ⟨i, B, h, _⟩
          · exact .inl h
          · exact .inr ⟨h, s'.fzlt b hb⟩
          · cases h
        have hF' : ∀ i B b, st'.σ i = some B → BlkAt κ' i B b → w.heap.size ≤ b ∧ b < w'.heap.size := fun i B b h3 h4 => by
          rcases ev.blknew i B b h3 h4 with h | ⟨i, B, h, _⟩
          · exact ⟨h, h4.lt (s'.blk i B h3).2⟩
          · cases h
        obtain ⟨us, u1, u2, u3⟩ := finL_sound s' (F := fun b => fz b ∨ (w.heap.size ≤ b ∧ b < w'.heap.size)) hF (fun i B b h3 h4 => .inr (hF' i B b h3 h4)) h2 g1
        have hus : ∀ b ∈ us, w.heap.size ≤ b ∧ b < w'.heap.size := by
          intro b hb
          obtain ⟨i, B, b1, b2⟩ := u2 b hb
          exact hF' i B b b1 b2
        refine ⟨_, g2, _, us, rfl, ⟨ev.os, ev.tape, ev.output, ev.size, fun b hb => (ev.keep b hb (fun ⟨i, B, h, _⟩ => (by cases h))).1⟩, u1, hus, ?_⟩
        exact retTop_le (retTop_of_list u3) hX'
  cases e with
  | normal => exact ⟨.inl rfl, fin hq (.inl rfl)⟩
  | ret => exact ⟨.inr rfl, fin hq (.inr rfl)⟩
  | _ => exact hq.elim
end
/-! ### calls -/
def isLit : PV → Bool
  | .lit _ => true
  | _ => false
def scal1 : PV → Bool
  | .lit _ => true
  | .new _ es => es.all fun e => e.all isLit
  | .agg cs => cs.all isLit
  | _ => false
def scal : PV → Bool
  | .tup ps => ps.all scal1
  | p => scal1 p
def forget1 : PV → PV
  | .new _ es => .imm es false
  | p => p
def forget : PV → PV
  | .tup ps => .tup (ps.map forget1)
  | p => forget1 p
section
variable {C : Ctx} {N : Nat} {κ : Kn} {st : St} {a : Act} {w : World}
mutual
theorem drc_nofr (σ : Store) : ∀ p : PV, nofr p = true → drc σ p = some p
  | .lit _, _ => rfl
  | .imm _ _, _ => rfl
  | .cptr _, _ => rfl
  | .own .., h => by simp [nofr] at h
  | .ptr .., h => by simp [nofr] at h
  | .mp _, h => by simp [nofr] at h
  | .new _ _, h => by simp [nofr] at h
  | .clo fn f c, h => by
    simp only [nofr, Bool.and_eq_true] at h
    simp only [drc, drcs_nofr σ f h.1, drcs_nofr σ c h.2]
  | .ifc t p, h => by
    simp only [nofr] at h
    simp only [drc, drc_nofr σ p h]
  | .agg cs, h => by
    simp only [nofr] at h
    simp only [drc, drcs_nofr σ cs h]
  | .tup cs, h => by
    simp only [nofr] at h
    simp only [drc, drcs_nofr σ cs h]
theorem drcs_nofr (σ : Store) : ∀ ps : List PV, nofrs ps = true → drcs σ ps = some ps
  | [], _ => rfl
  | p :: ps, h => by
    simp only [nofrs, Bool.and_eq_true] at h
    simp only [drcs, drc_nofr σ p h.1, drcs_nofr σ ps h.2]
end
theorem lits_rel {κ κ' : Kn} : ∀ (cs : List PV) (b o : Nat), cs.all isLit = true → RelCells κ w b o cs → RelCells κ' w b o cs
  | [], _, _, _, _ => by simp [RelCells]
  | c :: cs, b, o, hl, h => by
    simp only [List.all_cons, Bool.and_eq_true] at hl
    simp only [RelCells] at h ⊢
    obtain ⟨⟨v, h1, h2, h3⟩, h4⟩ := h
    cases c <;> simp only [isLit, Bool.false_eq_true] at hl
    · exact ⟨⟨v, h1, h2, by simpa only [Rel] using h3⟩, lits_rel cs b (o + 1) hl.2 h4⟩
    all_goals exact absurd hl.1 (by simp)
theorem litRows_rel {κ κ' : Kn} {s : Nat} : ∀ (es : List (List PV)) (b o : Nat), es.all (fun e => e.all isLit) = true → RelRows κ w b o s es → RelRows κ' w b o s es
  | [], _, _, _, _ => by simp [RelRows]
  | e :: es, b, o, hl, h => by
    simp only [List.all_cons, Bool.and_eq_true] at hl
    simp only [RelRows] at h ⊢
    exact ⟨h.1, lits_rel e b o hl.1 h.2.1, litRows_rel es b (o + s) hl.2 h.2.2⟩
theorem litList_rel {κ κ' : Kn} : ∀ (cs : List PV) (vs : List Value), cs.all isLit = true → RelList κ w cs vs → RelList κ' w cs vs
  | [], _, _, h => by simpa only [RelList] using h
  | c :: cs, vs, hl, h => by
    simp only [List.all_cons, Bool.and_eq_true] at hl
    simp only [RelList] at h ⊢
    obtain ⟨v, vs', e, h1, h2⟩ := h
    cases c <;> simp only [isLit, Bool.false_eq_true] at hl
    · exact ⟨v, vs', e, by simpa only [Rel] using h1, litList_rel cs vs' hl.2 h2⟩
    all_goals exact absurd hl.1 (by simp)
theorem retN1_forget {κr κ' : Kn} {w' : World} {p : PV} {v : Value} {us : List Nat} (h : RetN1 κr w' p v us) (hus : ∀ b ∈ us, κ'.fz b) (hk : κr.le κ'.bare ∨ scal1 p = true) : Rel κ' w' (forget1 p) v := by
  by_cases hp : ∃ sz es, p = .new sz es
  · obtain ⟨sz, es, rfl⟩ := hp
    obtain ⟨A, cap, rfl, h1, h2, h3⟩ := h
    simp only [forget1, Rel]
    refine ⟨A, es.length, cap, rfl, rfl, h1, by simp, ?_⟩
    rcases h3 with ⟨b, o, c, elem, fr, rfl, rfl, g1, g2, g3, g4⟩ | ⟨h3, _⟩
    · refine .inr ⟨b, o, sz, rfl, hus b (by simp), ?_⟩
      rcases hk with hk | hk
      · exact RelRows.mono hk (fun _ _ => rfl) _ _ _ _ rfl g4
      · exact litRows_rel es b o hk g4
    · exact .inl (List.eq_nil_of_length_eq_zero (by omega))
  · have hf : forget1 p = p := by cases p <;> first | rfl | (exfalso; exact hp ⟨_, _, rfl⟩)
    have h' : us = [] ∧ Rel κr w' p v := by cases p <;> first | exact h | (exfalso; exact hp ⟨_, _, rfl⟩)
    rw [hf]
    rcases hk with hk | hk
    · exact Rel.mono (hk.trans κ'.bare_le) (fun _ _ => rfl) _ _ h'.2
    · cases p <;> simp only [scal1, Bool.false_eq_true] at hk
      · simpa only [Rel] using h'.2
      · have := h'.2
        simp only [Rel] at this ⊢
        obtain ⟨vs, e, h0, h1⟩ := this
        exact ⟨vs, e, h0, litList_rel _ _ hk h1⟩
      · exact absurd ⟨_, _, rfl⟩ hp
theorem retNs_forget {κr κ' : Kn} {w' : World} : ∀ (ps : List PV) (vs : List Value) (us : List Nat), RetNs κr w' ps vs us → (∀ b ∈ us, κ'.fz b) → (κr.le κ'.bare ∨ ps.all scal1 = true) → RelList κ' w' (ps.map forget1) vs
  | [], vs, us, h, _, _ => by simp only [List.map_nil, RelList]; exact h.1
  | p :: ps, vs, us, h, hus, hk => by
    obtain ⟨v, vs', u, u', rfl, rfl, h1, h2⟩ := h
    simp only [List.map_cons, RelList]
    refine ⟨v, vs', rfl, retN1_forget h1 (fun b hb => hus b (by simp [hb])) (hk.imp id fun h => ?_), retNs_forget ps vs' u' h2 (fun b hb => hus b (by simp [hb])) (hk.imp id fun h => ?_)⟩
    · simp only [List.all_cons, Bool.and_eq_true] at h; exact h.1
    · simp only [List.all_cons, Bool.and_eq_true] at h; exact h.2
theorem retTop_forget {κr κ' : Kn} {w' : World} {r : PV} {v : Value} {us : List Nat} (h : RetTop κr w' r v us) (hus : ∀ b ∈ us, κ'.fz b) (hk : κr.le κ'.bare ∨ scal r = true) : Rel κ' w' (forget r) v := by
  by_cases hp : ∃ ps, r = .tup ps
  · obtain ⟨ps, rfl⟩ := hp
    obtain ⟨vs, rfl, h1⟩ := h
    simp only [forget, Rel]
    exact ⟨vs, rfl, retNs_forget ps _ us h1 hus hk⟩
  · have e1 : forget r = forget1 r := by cases r <;> first | rfl | (exfalso; exact hp ⟨_, rfl⟩)
    have e2 : scal r = scal1 r := by cases r <;> first | rfl | (exfalso; exact hp ⟨_, rfl⟩)
    have e3 : RetN1 κr w' r v us := by cases r <;> first | exact h | (exfalso; exact hp ⟨_, rfl⟩)
    rw [e1]; rw [e2] at hk
    exact retN1_forget e3 hus hk
theorem lentGo {w' : World} (b : Bel w w') (us : List Nat) : Gro κ w { κ with fz := fun x => κ.fz x ∨ (w.heap.size ≤ x ∧ x < w'.heap.size) } w' :=
  ⟨⟨fun _ _ _ h => h, fun _ _ h => h, fun _ h => .inl h⟩, b.hold, b.size, b.os, b.tape, b.output, fun _ h => h, fun _ _ => rfl, fun _ => rfl⟩
theorem callee_pre (s : Sim C N κ st a w) {ps args : List PV} {vs : List Value} (h : RelList κ w ps vs) (hd : drcs st.σ ps = some args) :
    ∃ fz : Nat → Prop, (∀ b, fz b → b < w.heap.size) ∧ (∀ g cs, C.G g = some cs → fz g ∧ RelCells ⟨fun _ _ => none, fun _ => none, fz⟩ w g 0 cs) ∧ RelList ⟨fun _ _ => none, fun _ => none, fz⟩ w args vs ∧
      (nofrs ps = true → ∀ b, fz b → κ.fz b) := by
  by_cases hn : nofrs ps = true
  · have e : args = ps := by rw [drcs_nofr st.σ ps hn] at hd; exact (Option.some.inj hd).symm
    subst e
    exact ⟨κ.fz, s.fzlt, fun g cs hg => s.glob g cs hg, RelList.nofr (κ := κ) (κ' := ⟨fun _ _ => none, fun _ => none, κ.fz⟩) (.refl _) _ _ hn h, fun _ _ h => h⟩
  · refine ⟨(κ.lent st.σ).fz, fun b hb => ?_, fun g cs hg => ⟨.inl (s.glob g cs hg).1, RelCells.mono (lent_le st.σ) (fun _ _ => rfl) _ _ _ rfl (s.glob g cs hg).2⟩, drcs_sound s ps vs args hd h, fun h => absurd h hn⟩
    rcases hb with hb | ⟨i, B, h1, h2⟩
    · exact s.fzlt b hb
    · exact h2.lt (s.blk i B h1).2
theorem st_put_σ' {st : St} {d : Option Nat} {p : PV} : (st.put d p).σ = st.σ := by cases d <;> rfl
theorem call_y {ops : Array Oper} {o : Oper} {fo : Operand} {as : Array Operand} {ts : Array TypeId} {f : FuncId} {ps args : List PV} {r : PV}
    (ho : o.op = .call { callee := .value fo, args := as, argTypes := ts })
    (hc : callArgs C { st with env := st.env.only (o.looksAt ops) } fo as = some (f, ps)) (hd : drcs st.σ ps = some args) (hs : CallSpec C f args r) (hk : nofrs ps = true ∨ scal r = true) : OpY C N ops o st (forget r) := by
  intro κ a w s next Q hn
  obtain ⟨hg, hspec⟩ := hs
  obtain ⟨vs, h1, h2⟩ := run_call s ho hc hg
  obtain ⟨fz, f1, f2, f3, f4⟩ := callee_pre s h2 hd
  unfold Oper.wp
  rw [h1]
  simp only [Oper.upon]
  refine (hspec w fz vs f1 f2 f3).mono ?_
  rintro e w' ⟨v, us, rfl, hb, hnd, hus, hret⟩
  refine hn _ v w' (lentGo hb us) (retTop_forget hret (fun b hb' => .inr (hus b hb')) ?_)
  rcases hk with hk | hk
  · refine .inl ⟨fun _ _ _ h => (by cases h), fun _ _ h => (by cases h), fun b hb' => ?_⟩
    rcases hb'.1 with h | h
    · exact .inl (f4 hk b h)
    · exact .inr h
  · exact .inr hk
theorem CallY.imm {ops : Array Oper} {dst : Option Tmp} {fo : Operand} {as : Array Operand} {ts : Array TypeId} {ty : TypeId} {pos : String} {after : Array Edge} {guard : Option (Nat × Bool)} {f : FuncId} {ps args : List PV} {r : PV} {K : St → Prop}
    (hs : CallSpec C f args r) (hc : callArgs C st fo as = some (f, ps)) (hd : drcs st.σ ps = some args) (hk : nofrs ps = true ∨ scal r = true) (hK : K (st.put dst (forget r))) :
    CallY C N ops ⟨dst, .call { callee := .value fo, args := as, argTypes := ts }, ty, pos, after, guard⟩ st K :=
  .inl ⟨forget r, call_y rfl (by rw [callArgs_only rfl]; exact hc) hd hs hk, hK⟩
theorem CallY0.imm {ops : Array Oper} {dst : Option Tmp} {fo : Operand} {as : Array Operand} {ts : Array TypeId} {ty : TypeId} {pos : String} {after : Array Edge} {guard : Option (Nat × Bool)} {f : FuncId} {ps args : List PV} {r : PV} {K : St → Prop}
    (hs : CallSpec C f args r) (hc : callArgs C st fo as = some (f, ps)) (hd : drcs st.σ ps = some args) (hk : nofrs ps = true ∨ scal r = true) (hK : K (st.put dst (forget r))) :
    CallY0 C N ops ⟨dst, .call { callee := .value fo, args := as, argTypes := ts }, ty, pos, after, guard⟩ st K :=
  ⟨forget r, call_y rfl (by rw [callArgs_only rfl]; exact hc) hd hs hk, hK⟩
theorem CallJ.imm {J : Store → Prop} {ops : Array Oper} {dst : Option Tmp} {fo : Operand} {as : Array Operand} {ts : Array TypeId} {ty : TypeId} {pos : String} {after : Array Edge} {guard : Option (Nat × Bool)} {f : FuncId} {ps args : List PV} {r : PV} {K : St → Prop}
    (hs : CallSpec C f args r) (hc : ∀ σ nx, callArgs C ⟨st.env, σ, nx⟩ fo as = some (f, ps)) (hd : ∀ σ, J σ → drcs σ ps = some args) (hk : nofrs ps = true ∨ scal r = true) (hK : K (st.put dst (forget r))) :
    CallJ C N J ops ⟨dst, .call { callee := .value fo, args := as, argTypes := ts }, ty, pos, after, guard⟩ st K :=
  ⟨forget r, fun σ nx hJ => call_y rfl (by rw [callArgs_only rfl]; exact hc σ nx) (hd σ hJ) hs hk, hK⟩
theorem CallQ.imm {dst : Option Tmp} {fo : Operand} {as : Array Operand} {ts : Array TypeId} {ty : TypeId} {pos : String} {after : Array Edge} {guard : Option (Nat × Bool)} {f : FuncId} {ps args : List PV} {r : PV} {K : St → Prop}
    (hs : CallSpec C f args r) (hc : callArgs C st fo as = some (f, ps)) (hd : drcs st.σ ps = some args) (hk : nofrs ps = true ∨ scal r = true) (hK : K (st.put dst (forget r))) :
    CallQ C N ⟨dst, .call { callee := .value fo, args := as, argTypes := ts }, ty, pos, after, guard⟩ st K := fun hdst =>
  opT_of_y (ops := #[]) hdst (call_y rfl (by rw [callArgs_only rfl]; exact hc) hd hs hk) hK
theorem CallQ.thaw {dst : Option Tmp} {fo : Operand} {as : Array Operand} {ts : Array TypeId} {ty : TypeId} {pos : String} {after : Array Edge} {guard : Option (Nat × Bool)} {f : FuncId} {ps args : List PV} {sz : Nat} {es : List (List PV)} {K : St → Prop}
    (hs : CallSpec C f args (.new sz es)) (hc : callArgs C st fo as = some (f, ps)) (hd : drcs st.σ ps = some args) (hl : es.all (fun e => e.all isLit) = true)
    (hK : K (St.put ⟨st.env, st.σ.put st.nx (.row 0 sz es false), st.nx + 1⟩ dst (.own st.nx 0 0 es.length false))) :
    CallQ C N ⟨dst, .call { callee := .value fo, args := as, argTypes := ts }, ty, pos, after, guard⟩ st K := fun hdst => by
  intro κ a w s next Q hn
  obtain ⟨hg, hspec⟩ := hs
  obtain ⟨vs, h1, h2⟩ := run_call (o := ⟨dst, .call { callee := .value fo, args := as, argTypes := ts }, ty, pos, after, guard⟩) s rfl hc hg
  obtain ⟨fz, f1, f2, f3, f4⟩ := callee_pre s h2 hd
  unfold Oper.wp
  rw [h1]
  simp only [Oper.upon]
  refine (hspec w fz vs f1 f2 f3).mono ?_
  rintro e w' ⟨v, us, rfl, hb, hnd, hus, A, cap, rfl, hcap, hsz, hrow⟩
  rcases hrow with ⟨b, o, c, elem, fr, rfl, rfl, g1, g2, g3, g4⟩ | ⟨rfl, rfl⟩
  · have hbs := hus b (by simp)
    have hm := s.made (sz := sz) (es := es) (L := ⟨true, b, o, sz, es.length, c.size⟩) (w' := w') (κ' := withLoc κ st.nx 0 ⟨true, b, o, sz, es.length, c.size⟩)
      (withLoc_le (s.fresh _ _ (Nat.le_refl _)).1) rfl rfl (fun _ _ => rfl) hb.size hb.hold (fun _ => hbs.1)
      ⟨⟨true, b, o, sz, es.length, c.size⟩, by simp [withLoc], rfl, rfl, .inl ⟨rfl, ⟨c, elem, fr, g1, rfl, g2⟩, Nat.le_trans (Nat.add_le_add_left (Nat.mul_le_mul_right _ hcap) _) g3, litRows_rel es b o hl g4⟩⟩
    refine hn _ _ _ _ hK (hm.1.put hdst ?_) (by rw [st_put_σ']; exact hm.2 hb.os hb.tape hb.output) put_dfs
    simp only [Rel]
    exact ⟨_, cap, rfl, hcap, by simp, ⟨true, b, o, sz, es.length, c.size⟩, by simp [withLoc], .inl ⟨rfl, by simp, by simpa using g3, fun _ => by simpa using hcap⟩⟩
  · have he : es = [] := List.eq_nil_of_length_eq_zero (by omega)
    subst he
    have hm := s.made (sz := sz) (es := []) (L := ⟨false, 0, 0, sz, 0, 0⟩) (w' := w') (κ' := withLoc κ st.nx 0 ⟨false, 0, 0, sz, 0, 0⟩)
      (withLoc_le (s.fresh _ _ (Nat.le_refl _)).1) rfl rfl (fun _ _ => rfl) hb.size hb.hold (fun h => by cases h)
      ⟨⟨false, 0, 0, sz, 0, 0⟩, by simp [withLoc], rfl, rfl, .inr ⟨rfl, rfl⟩⟩
    refine hn _ _ _ _ hK (hm.1.put hdst ?_) (by rw [st_put_σ']; exact hm.2 hb.os hb.tape hb.output) put_dfs
    simp only [Rel]
    exact ⟨A, 0, rfl, by simp, by simp, ⟨false, 0, 0, sz, 0, 0⟩, by simp [withLoc], .inr ⟨rfl, fun _ => by simp⟩⟩
end
end Go.Ab
