/- Abstract values: calls that change the caller's own memory: the body, in place. -/
import Derived.Test.YtgcodedanljhpaaDoorAcFrz
import Derived.Test.YtgcodedanljhpaaDoorAcDeep
set_option linter.unusedSimpArgs false
set_option linter.unusedVariables false
section
namespace Go.Ab
open Go
section
variable {C : Ctx} {N : Nat} {κ : Kn} {st : St} {a : Act} {w : World}
def stQ (C : Ctx) (res : List ResultVar) (Q : PV → Store → Nat → Prop) : Exit → St → Prop
  | .normal, st | .ret, st => onL (resL C st res) fun ps => ∃ σ' nx', Weak ⟨st.env, st.σ, st.nx⟩ ⟨st.env, σ', nx'⟩ ∧ Q (tupOf ps) σ' nx'
  | _, _ => False
theorem rel_tupOf {ps : List PV} {vs : List Value} (h : RelList κ w ps vs) : Rel κ w (tupOf ps) (valOf vs) := by
  rcases ps with _ | ⟨p, _ | ⟨q, ps⟩⟩
  · simp only [RelList] at h; subst h; simp [tupOf, valOf, Rel, RelList]
  · simp only [RelList] at h
    obtain ⟨v, vs', rfl, h1, rfl⟩ := h
    exact h1
  · have h0 := h
    simp only [RelList] at h
    obtain ⟨v, vs', rfl, h1, v2, vs2, rfl, h2⟩ := h
    simp only [tupOf, valOf, Rel]
    exact ⟨_, rfl, by simpa using h0⟩
theorem stSpec_of_vc {f : FuncId} {fn : Func} {c : Code} {ps : List PV} {σ : Store} {nx : Nat} {Q : PV → Store → Nat → Prop} (hf : C.P.funcs[f]? = some fn) (hb : fn.body = some c) (hn : (fn.name != "runtime.NumGoroutine") = true)
    (hok : okCode fn.ntmps c = true) (hl : ps.length ≤ fn.ntmps)
    (h : vc C fn.ntmps c ⟨argEnv ps, σ, nx⟩ (stQ C fn.results.toList Q)) : StSpec C f ps σ nx Q := by
  refine ⟨by simp only [isGo, hf, hb, hn, Option.isSome_some, Bool.and_self], fun κ w vs s hrel => ?_⟩
  have hlen := relList_length _ _ hrel
  have hsim : Sim C fn.ntmps κ ⟨argEnv ps, σ, nx⟩ { tmps := vs.toArray ++ Array.replicate (fn.ntmps - vs.toArray.size) undef, defers := [] } w := by
    refine ⟨trivial, by simp; omega, fun t p hp => ?_, s.blk, s.dist, s.nfz, s.yfz, s.fzlt, s.fresh, s.later, s.glob⟩
    simp only [argEnv] at hp
    obtain ⟨v, h1, h2⟩ := relList_get _ _ _ _ hrel hp
    have hlt : t < ps.length := (List.getElem?_eq_some_iff.1 hp).1
    refine ⟨by omega, ?_⟩
    have : (vs.toArray ++ Array.replicate (fn.ntmps - vs.toArray.size) undef)[t]? = some v := by
      rw [Array.getElem?_append_left (by simp; omega)]; simpa using h1
    rw [Array.getD_eq_getD_getElem?, this]
    exact h2
  refine calls_of_abs hf hb (vc_sound c _ _ hok h) hsim ?_
  intro e a' w' κ' st' hq s' ev
  have fin : ∀ {X : Exit}, stQ C fn.results.toList Q X st' → (X = .normal ∨ X = .ret) → ∃ v, (results fn a'.tmps).run C.P w' = .ok v w' ∧ ∃ v' r κ' σ' nx', (Ending.returned v = .returned v') ∧ Q r σ' nx' ∧ Sim C 0 κ' ⟨fun _ => none, σ', nx'⟩ { tmps := #[], defers := [] } w' ∧ Evo κ σ w κ' σ' w' ∧ Rel κ' w' r v' := by
    intro X hX hXX
    have hX' : onL (resL C st' fn.results.toList) fun ps => ∃ σ' nx', Weak ⟨st'.env, st'.σ, st'.nx⟩ ⟨st'.env, σ', nx'⟩ ∧ Q (tupOf ps) σ' nx' := by
      rcases hXX with rfl | rfl <;> exact hX
    cases h1 : resL C st' fn.results.toList with
    | none => rw [h1] at hX'; exact hX'.elim
    | some ps' =>
      rw [h1] at hX'
      obtain ⟨σ2, nx2, hw, hQ⟩ := hX'
      obtain ⟨vs', g1, g2⟩ := run_results s' h1
      have hw' : Weak st' ⟨st'.env, σ2, nx2⟩ := hw
      exact ⟨_, g2, _, _, κ', σ2, nx2, rfl, hQ, (s'.weak hw').noEnv, ev.trans (Evo.weak κ' w' hw'), rel_tupOf g1⟩
  cases e with
  | normal => exact ⟨.inl rfl, fin hq (.inl rfl)⟩
  | ret => exact ⟨.inr rfl, fin hq (.inr rfl)⟩
  | _ => exact hq.elim
theorem CallQ.inl {dst : Option Tmp} {fo : Operand} {as : Array Operand} {ts : Array TypeId} {ty : TypeId} {pos : String} {after : Array Edge} {guard : Option (Nat × Bool)} {f : FuncId} {ps : List PV} {K : St → Prop}
    (hc : callArgs C st fo as = some (f, ps)) (hs : StSpec C f ps st.σ st.nx fun r σ' nx' => K (St.put ⟨st.env, σ', nx'⟩ dst r)) :
    CallQ C N ⟨dst, .call { callee := .value fo, args := as, argTypes := ts }, ty, pos, after, guard⟩ st K := fun hdst => opT_of_st hdst hc hs
theorem CallQ.inm {dst : Option Tmp} {fo : Operand} {as : Array Operand} {ts : Array TypeId} {ty : TypeId} {pos : String} {after : Array Edge} {guard : Option (Nat × Bool)} {f : FuncId} {ps : List PV} {K : St → Prop} {Q : PV → Store → Nat → Prop}
    (hs : StSpec C f ps st.σ st.nx Q) (hc : callArgs C st fo as = some (f, ps)) (hK : ∀ r σ' nx', Q r σ' nx' → K (St.put ⟨st.env, σ', nx'⟩ dst r)) :
    CallQ C N ⟨dst, .call { callee := .value fo, args := as, argTypes := ts }, ty, pos, after, guard⟩ st K := CallQ.inl hc (hs.mono hK)
theorem StSpec.ghost {f : FuncId} {ps : List PV} {σ : Store} {nx : Nat} {Q Q' : PV → Store → Nat → Prop} (sz : Nat) (h : StSpec C f ps σ nx Q)
    (hQ : ∀ r σ' nx', Q r σ' nx' → Q' r σ' nx' ∨ (r = .lit (.slice none 0 0) ∧ Q' (.own nx' 0 0 0 false) (σ'.put nx' (.row 0 sz [] false)) (nx' + 1))) : StSpec C f ps σ nx Q' := by
  refine ⟨h.1, fun κ w vs s hr => (h.2 κ w vs s hr).mono fun e w' ⟨v, r, κ', σ', nx', h1, h2, h3, h4, h5⟩ => ?_⟩
  rcases hQ r σ' nx' h2 with h6 | ⟨rfl, h6⟩
  · exact ⟨v, r, κ', σ', nx', h1, h6, h3, h4, h5⟩
  have hm := h3.made (sz := sz) (es := []) (L := ⟨false, 0, 0, sz, 0, 0⟩) (w' := w') (κ' := withLoc κ' nx' 0 ⟨false, 0, 0, sz, 0, 0⟩)
    (withLoc_le (h3.fresh _ _ (Nat.le_refl _)).1) rfl rfl (fun _ _ => rfl) (Nat.le_refl _) (fun _ _ => rfl) (fun h => by cases h)
    ⟨⟨false, 0, 0, sz, 0, 0⟩, by simp [withLoc], rfl, rfl, .inr ⟨rfl, rfl⟩⟩
  refine ⟨v, _, _, _, _, h1, h6, hm.1, h4.trans (hm.2 rfl rfl (.refl _)), ?_⟩
  simp only [Rel] at h5 ⊢
  exact ⟨none, 0, h5.1, Nat.le_refl _, by simp, ⟨false, 0, 0, sz, 0, 0⟩, by simp [withLoc], .inr ⟨rfl, fun _ => Nat.le_refl _⟩⟩
theorem StSpec.fresh {f : FuncId} {ps : List PV} {σ : Store} {nx : Nat} {Q : PV → Store → Nat → Prop} (hg : isGo C.P f = true) (h : (∀ j, nx ≤ j → σ j = none) → StSpec C f ps σ nx Q) : StSpec C f ps σ nx Q := by
  refine ⟨hg, fun κ w vs s hr => (h fun j hj => ?_).2 κ w vs s hr⟩
  cases hB : σ j with
  | none => rfl
  | some B => have := (s.blk j B hB).1; simp only at this; omega
def Agr (n0 : Nat) (σ τ : Store) : Prop := ∀ j, j < n0 → τ j = σ j
theorem Agr.rfl' {n0 : Nat} {σ : Store} : Agr n0 σ σ := fun _ _ => rfl
theorem Agr.put {n0 k : Nat} {σ τ : Store} {B : Blk} (h : Agr n0 σ τ) (hk : n0 ≤ k) : Agr n0 σ (τ.put k B) := fun j hj => by
  simp only [Store.put]; rw [if_neg (by omega)]; exact h j hj
theorem weak_ofP {st : St} {le : List (Nat × PV)} {σ : Store} {n0 id nx : Nat} {B : Blk} (hf : ∀ j, n0 ≤ j → σ j = none) (h1 : allE st.env le) (h2 : st.σ id = some B) (h3 : Agr n0 σ st.σ) (h4 : st.nx ≤ nx) : Weak st ⟨mkE le, σ.put id B, nx⟩ := by
  refine ⟨allE_spec le h1, fun j B' h => ?_, h4⟩
  simp only [Store.put] at h
  split at h
  · rename_i e; subst e; cases h; exact h2
  · rcases Nat.lt_or_ge j n0 with hj | hj
    · rw [h3 j hj]; exact h
    · rw [hf j hj] at h; cases h
theorem weakσ_of {e : Env} {τ σ : Store} {n0 id nx nx' : Nat} {B : Blk} (hf : ∀ j, n0 ≤ j → σ j = none) (h2 : τ id = some B) (h3 : Agr n0 σ τ) (h4 : nx ≤ nx') : Weak ⟨e, τ, nx⟩ ⟨e, σ.put id B, nx'⟩ := by
  refine ⟨fun _ _ h => h, fun j B' h => ?_, h4⟩
  simp only at h ⊢
  simp only [Store.put] at h
  split at h
  · rename_i e; subst e; cases h; exact h2
  · rcases Nat.lt_or_ge j n0 with hj | hj
    · rw [h3 j hj]; exact h
    · rw [hf j hj] at h; cases h
theorem EffQ.inm {dst : Option Tmp} {fo : Operand} {as : Array Operand} {ts : Array TypeId} {ty : TypeId} {pos : String} {after : Array Edge} {guard : Option (Nat × Bool)} {f : FuncId} {ps : List PV} {Q Q' : PV → Store → Nat → Prop}
    (hs : StSpec C f ps st.σ st.nx Q) (hsat : ∃ r σ' nx', Q r σ' nx') (hc : callArgs C st fo as = some (f, ps)) (hK : ∀ r σ' nx', Q r σ' nx' → Q' r σ' nx') :
    EffQ C ⟨dst, .call { callee := .value fo, args := as, argTypes := ts }, ty, pos, after, guard⟩ st Q' := by
  refine (effQ_iff _ _ _ _).2 (.inl ⟨fo, as, ts, f, ps, rfl, hc, hs.mono hK, ?_⟩)
  obtain ⟨r, σ', nx', h⟩ := hsat
  exact ⟨r, σ', nx', hK _ _ _ h⟩
def thw (σ : Store) (nx : Nat) : List PV → List PV × Store × Nat
  | [] => ([], σ, nx)
  | .new sz es :: r => match thw (σ.put nx (.row 0 sz es false)) (nx + 1) r with
    | (qs, σ', n) => (.own nx 0 0 es.length false :: qs, σ', n)
  | p :: r => match thw σ nx r with
    | (qs, σ', n) => (forget1 p :: qs, σ', n)
theorem adoptAll {κr : Kn} (hkr : (∀ i v, κr.loc i v = none) ∧ ∀ i, κr.mloc i = none) : ∀ (rs : List PV) (vs : List Value) (us : List Nat) (st : St) (κ1 : Kn), Sim C N κ1 st a w → RetNs κr w rs vs us → us.Nodup →
    (∀ b ∈ us, ¬ κ1.fz b ∧ ∀ i B, st.σ i = some B → ¬ BlkAt κ1 i B b) → ((∀ b, κr.fz b → κ1.fz b) ∨ rs.all scal1 = true) →
    ∃ κ2, κ1.le κ2 ∧ κ2.fz = κ1.fz ∧ Sim C N κ2 ⟨st.env, (thw st.σ st.nx rs).2.1, (thw st.σ st.nx rs).2.2⟩ a w ∧ RelList κ2 w (thw st.σ st.nx rs).1 vs ∧
      ∀ i B b, (thw st.σ st.nx rs).2.1 i = some B → BlkAt κ2 i B b → (st.σ i = some B ∧ BlkAt κ1 i B b) ∨ b ∈ us
  | [], vs, us, st, κ1, s, hr, hnd, hus, hk => by
    simp only [RetNs] at hr
    obtain ⟨rfl, rfl⟩ := hr
    exact ⟨κ1, .refl _, rfl, s, by simp [thw, RelList], fun i B b h1 h2 => .inl ⟨h1, h2⟩⟩
  | p :: r, vs, us, st, κ1, s, hr, hnd, hus, hk => by
    simp only [RetNs] at hr
    obtain ⟨v, vs', u, us', rfl, rfl, h1, h2⟩ := hr
    have hk' : (∀ b, κr.fz b → κ1.fz b) ∨ r.all scal1 = true := hk.imp id fun h => by
      simp only [List.all_cons, Bool.and_eq_true] at h; exact h.2
    have hk1 : (∀ b, κr.fz b → κ1.fz b) ∨ scal1 p = true := hk.imp id fun h => by
      simp only [List.all_cons, Bool.and_eq_true] at h; exact h.1
    by_cases hp : ∃ sz es, p = .new sz es
    · obtain ⟨sz, es, rfl⟩ := hp
      simp only [RetN1] at h1
      obtain ⟨A, cap, rfl, hcap, hsz, hrow⟩ := h1
      simp only [thw]
      have fin : ∀ (L : Loc) (κ2 : Kn), κ2 = withLoc κ1 st.nx 0 L → Sim C N κ2 { st with σ := st.σ.put st.nx (.row 0 sz es false), nx := st.nx + 1 } a w → Rel κ2 w (.own st.nx 0 0 es.length false) (.slice A es.length cap) → (∀ b, L.real = true → L.blk = b → b ∈ u) →
          ∃ κ2, κ1.le κ2 ∧ κ2.fz = κ1.fz ∧ Sim C N κ2 ⟨st.env, (thw (st.σ.put st.nx (.row 0 sz es false)) (st.nx + 1) r).2.1, (thw (st.σ.put st.nx (.row 0 sz es false)) (st.nx + 1) r).2.2⟩ a w ∧
            RelList κ2 w (.own st.nx 0 0 es.length false :: (thw (st.σ.put st.nx (.row 0 sz es false)) (st.nx + 1) r).1) (.slice A es.length cap :: vs') ∧
            ∀ i B b, (thw (st.σ.put st.nx (.row 0 sz es false)) (st.nx + 1) r).2.1 i = some B → BlkAt κ2 i B b → (st.σ i = some B ∧ BlkAt κ1 i B b) ∨ b ∈ u ++ us' := by
        intro L κ2 hκ2 s2 hrel hLu
        subst hκ2
        have hle : κ1.le (withLoc κ1 st.nx 0 L) := withLoc_le (s.fresh _ _ (Nat.le_refl _)).1
        have hput : ∀ i B, (st.σ.put st.nx (.row 0 sz es false)) i = some B → (i = st.nx ∧ B = .row 0 sz es false) ∨ (i ≠ st.nx ∧ st.σ i = some B) := by
          intro i B h
          simp only [Store.put] at h
          split at h
          · rename_i hi; cases h; exact .inl ⟨hi, rfl⟩
          · rename_i hi; exact .inr ⟨hi, h⟩
        have hself : ∀ x, BlkAt (withLoc κ1 st.nx 0 L) st.nx (.row 0 sz es false) x → x ∈ u := by
          rintro x ⟨M, h1, h2, rfl⟩
          simp only [withLoc, and_self, if_true, Option.some.injEq] at h1
          subst h1; exact hLu _ h2 rfl
        have hback : ∀ i B x, st.σ i = some B → BlkAt (withLoc κ1 st.nx 0 L) i B x → BlkAt κ1 i B x := fun i B x hi h => h.back s hle hi
        have hnd' := List.nodup_append.1 hnd
        obtain ⟨κ3, k1, k2, k3, k4, k5⟩ := adoptAll hkr r vs' us' { st with σ := st.σ.put st.nx (.row 0 sz es false), nx := st.nx + 1 } (withLoc κ1 st.nx 0 L) s2 h2 hnd'.2.1
          (fun b hb => ⟨(hus b (by simp [hb])).1, fun i B hi hB => by
            rcases hput i B hi with ⟨rfl, rfl⟩ | ⟨hi', hi⟩
            · exact hnd'.2.2 b (hself b hB) b hb rfl
            · exact (hus b (by simp [hb])).2 i B hi (hback i B b hi hB)⟩) hk'
        refine ⟨κ3, hle.trans k1, k2, k3, ?_, fun i B b h1 h2 => ?_⟩
        · simp only [RelList]
          exact ⟨_, _, rfl, Rel.mono k1 (fun _ _ => rfl) _ _ hrel, k4⟩
        · rcases k5 i B b h1 h2 with ⟨h3, h4⟩ | h3
          · rcases hput i B h3 with ⟨rfl, rfl⟩ | ⟨hi, h5⟩
            · exact .inr (by simp [hself b h4])
            · exact .inl ⟨h5, hback i B b h5 h4⟩
          · exact .inr (by simp [h3])
      rcases hrow with ⟨b, o, c, elem, fr, rfl, rfl, g1, g2, g3, g4⟩ | ⟨rfl, rfl⟩
      · have hle : κ1.le (withLoc κ1 st.nx 0 ⟨true, b, o, sz, es.length, c.size⟩) := withLoc_le (s.fresh _ _ (Nat.le_refl _)).1
        have hrel : RelRows (withLoc κ1 st.nx 0 ⟨true, b, o, sz, es.length, c.size⟩) w b o sz es := by
          rcases hk1 with hk1 | hk1
          · have k1 := RelRows.mono (κ' := κ1.bare) (w' := w) ⟨fun i v _ h => (by rw [hkr.1 i v] at h; cases h), fun i _ h => (by rw [hkr.2 i] at h; cases h), hk1⟩ (fun _ _ => rfl) _ _ _ _ rfl g4
            exact RelRows.mono (κ1.bare_le.trans hle) (fun _ _ => rfl) _ _ _ _ rfl k1
          · exact litRows_rel es b o (by simpa [scal1] using hk1) g4
        have hb := hus b (by simp)
        refine fin ⟨true, b, o, sz, es.length, c.size⟩ _ rfl (s.adopt hle rfl rfl (fun _ _ => rfl) (fun _ => hb.1) (fun _ => hb.2) ?_) ?_ (fun b' _ h => by subst h; simp)
        · exact ⟨⟨true, b, o, sz, es.length, c.size⟩, by simp [withLoc], rfl, rfl, .inl ⟨rfl, ⟨c, elem, fr, g1, rfl, g2⟩, Nat.le_trans (Nat.add_le_add_left (Nat.mul_le_mul_right _ hcap) _) g3, hrel⟩⟩
        · simp only [Rel]
          exact ⟨_, cap, rfl, hcap, by simp, ⟨true, b, o, sz, es.length, c.size⟩, by simp [withLoc], .inl ⟨rfl, by simp, by simpa using g3, fun _ => by simpa using hcap⟩⟩
      · have he : es = [] := List.eq_nil_of_length_eq_zero (by omega)
        subst he
        have hle : κ1.le (withLoc κ1 st.nx 0 ⟨false, 0, 0, sz, 0, 0⟩) := withLoc_le (s.fresh _ _ (Nat.le_refl _)).1
        refine fin ⟨false, 0, 0, sz, 0, 0⟩ _ rfl (s.adopt hle rfl rfl (fun _ _ => rfl) (fun h => by cases h) (fun h => by cases h) ?_) ?_ (fun b' h => by cases h)
        · exact ⟨⟨false, 0, 0, sz, 0, 0⟩, by simp [withLoc], rfl, rfl, .inr ⟨rfl, rfl⟩⟩
        · simp only [Rel]
          exact ⟨A, 0, by simp, by simp, by simp, ⟨false, 0, 0, sz, 0, 0⟩, by simp [withLoc], .inr ⟨rfl, fun _ => by simp⟩⟩
    · have e1 : (thw st.σ st.nx (p :: r)) = (forget1 p :: (thw st.σ st.nx r).1, (thw st.σ st.nx r).2.1, (thw st.σ st.nx r).2.2) := by
        cases p <;> first | rfl | exact absurd ⟨_, _, rfl⟩ hp
      have hu : u = [] := by
        cases p <;> first | exact h1.1 | exact absurd ⟨_, _, rfl⟩ hp
      subst hu
      obtain ⟨κ3, k1, k2, k3, k4, k5⟩ := adoptAll hkr r vs' us' st κ1 s h2 (by simpa using hnd) (fun b hb => hus b (by simp [hb])) hk'
      rw [e1]
      refine ⟨κ3, k1, k2, k3, ?_, fun i B b h1 h2 => by simpa using k5 i B b h1 h2⟩
      simp only [RelList]
      refine ⟨_, _, rfl, retN1_forget h1 (fun b hb => by cases hb) ?_, k4⟩
      rcases hk1 with hk1 | hk1
      · exact .inl ⟨fun i v _ h => (by rw [hkr.1 i v] at h; cases h), fun i _ h => (by rw [hkr.2 i] at h; cases h), fun b hb => by show κ3.fz b; rw [k2]; exact hk1 b hb⟩
      · exact .inr hk1
theorem CallQ.thawT {dst : Option Tmp} {fo : Operand} {as : Array Operand} {ts : Array TypeId} {ty : TypeId} {pos : String} {after : Array Edge} {guard : Option (Nat × Bool)} {f : FuncId} {ps args : List PV} {rs : List PV} {K : St → Prop}
    (hs : CallSpec C f args (.tup rs)) (hc : callArgs C st fo as = some (f, ps)) (hd : drcs st.σ ps = some args) (hk : nofrs ps = true ∨ rs.all scal1 = true)
    (hK : K (St.put ⟨st.env, (thw st.σ st.nx rs).2.1, (thw st.σ st.nx rs).2.2⟩ dst (.tup (thw st.σ st.nx rs).1))) :
    CallQ C N ⟨dst, .call { callee := .value fo, args := as, argTypes := ts }, ty, pos, after, guard⟩ st K := fun hdst => by
  intro κ a w s next Q hn
  obtain ⟨hg, hspec⟩ := hs
  obtain ⟨vs, h1, h2⟩ := run_call (o := ⟨dst, .call { callee := .value fo, args := as, argTypes := ts }, ty, pos, after, guard⟩) s rfl hc hg
  obtain ⟨fz, f1, f2, f3, f4⟩ := callee_pre s h2 hd
  unfold Oper.wp
  rw [h1]
  simp only [Oper.upon]
  refine (hspec w fz vs f1 f2 f3).mono ?_
  rintro e w' ⟨v, us, rfl, hb, hnd, hus, hret⟩
  simp only [RetTop] at hret
  obtain ⟨rvs, rfl, hret⟩ := hret
  let κ1 : Kn := { κ with fz := fun x => κ.fz x ∨ ((w.heap.size ≤ x ∧ x < w'.heap.size) ∧ x ∉ us) }
  have gro : Gro κ w κ1 w' := ⟨⟨fun _ _ _ h => h, fun _ _ h => h, fun _ h => .inl h⟩, hb.hold, hb.size, hb.os, hb.tape, hb.output, fun x h => h.imp id fun h => h.1, fun _ _ => rfl, fun _ => rfl⟩
  have s1 : Sim C N κ1 st a w' := gro.sim s
  have hnot : ∀ b ∈ us, ¬ κ1.fz b ∧ ∀ i B, st.σ i = some B → ¬ BlkAt κ1 i B b := fun b hbu => ⟨fun h => by
      rcases h with h | h
      · have := s.fzlt b h; have := (hus b hbu).1; omega
      · exact h.2 hbu, fun i B hi h => by
      have h2 : BlkAt κ i B b := by cases B <;> exact h
      have := h2.lt (s.blk i B hi).2
      have := (hus b hbu).1; omega⟩
  obtain ⟨κ2, k1, k2, k3, k4, k5⟩ := adoptAll (κr := retKn fz w w' us) ⟨fun _ _ => rfl, fun _ => rfl⟩ rs rvs.toList us st κ1 s1 hret hnd hnot (hk.imp (fun hk b hbx => by
    rcases hbx.1 with h | h
    · exact .inl (f4 hk b h)
    · exact .inr ⟨h, hbx.2⟩) id)
  have hback : ∀ i B x, st.σ i = some B → BlkAt κ1 i B x → BlkAt κ i B x := fun i B x hi h => by cases B <;> exact h
  have ev : Evo κ st.σ w κ2 (thw st.σ st.nx rs).2.1 w' := by
    refine ⟨gro.le.trans k1, hb.os, hb.tape, hb.output, hb.size, fun x hx hno => ⟨hb.hold x hx, ?_⟩, fun x hx => ?_, fun i B x h1 h2 => ?_⟩
    · rintro ⟨i, B, h1, h2, h3⟩
      rcases k5 i B x h1 h3 with ⟨h4, h5⟩ | h4
      · exact hno ⟨i, B, h4, h2, hback i B x h4 h5⟩
      · have := (hus x h4).1; omega
    · rw [k2] at hx
      rcases hx with h | h
      · exact .inl h
      · exact .inr (.inl h.1.1)
    · rcases k5 i B x h1 h2 with ⟨h4, h5⟩ | h4
      · exact .inr ⟨i, B, h4, hback i B x h4 h5⟩
      · exact .inl (hus x h4).1
  refine hn _ _ _ _ hK (k3.put hdst ?_) (by rw [st_put_σ']; exact ev) put_dfs
  simp only [Rel]
  exact ⟨_, rfl, k4⟩
theorem Sim.redesc (s : Sim C N κ st a w) {id ver sz : Nat} {es es' : List (List PV)} {fz : Bool} (hσ : st.σ id = some (.row ver sz es fz)) (hl : es'.length = es.length) (hne : es = [] → es' = [])
    (hr : ∀ b o, RelRows κ w b o sz es → RelRows κ w b o sz es') :
    Sim C N κ { st with σ := st.σ.put id (.row ver sz es' fz) } a w ∧ Evo κ st.σ w κ (st.σ.put id (.row ver sz es' fz)) w := by
  have hput : ∀ i B, (st.σ.put id (.row ver sz es' fz)) i = some B → ∃ B', st.σ i = some B' ∧ B'.fz = B.fz ∧ (∀ b, BlkAt κ i B b ↔ BlkAt κ i B' b) ∧ (SimBlk κ w i B' → SimBlk κ w i B) ∧ (∀ v sz es fz, B = .row v sz es fz → ∃ es2, B' = .row v sz es2 fz) := by
    intro i B h
    simp only [Store.put] at h
    split at h
    · rename_i hi; subst hi; cases h
      refine ⟨_, hσ, rfl, fun b => Iff.rfl, ?_, fun v sz es fz h => by cases h; exact ⟨_, rfl⟩⟩
      rintro ⟨L, h1, h2, h3, h4⟩
      refine ⟨L, h1, h2, h3.trans hl.symm, h4.imp (fun ⟨g1, g2, g3, g4⟩ => ⟨g1, g2, by rw [hl]; exact g3, hr _ _ g4⟩) fun ⟨g1, g2⟩ => ⟨g1, hne g2⟩⟩
    · exact ⟨B, h, rfl, fun b => Iff.rfl, fun h => h, fun v sz es fz h => ⟨es, h⟩⟩
  refine ⟨⟨s.defers, s.size, s.env, fun i B h => ?_, fun i j B B' b hi hj h1 h2 => ?_, ?_, fun i B b h1 h2 h3 => ?_, s.fzlt, s.fresh, fun i v1 sz1 es1 fz1 v h1 hlt => ?_, s.glob⟩,
    ⟨.refl κ, rfl, rfl, .refl _, Nat.le_refl _, fun b hb hn => ⟨rfl, ?_⟩, fun b hb => .inl hb, fun i B b h1 h2 => ?_⟩⟩
  · obtain ⟨B', k1, k2, k3, k4, k5⟩ := hput i B h
    exact ⟨(s.blk i B' k1).1, k4 (s.blk i B' k1).2⟩
  · obtain ⟨Bi, k1, k2, k3, k4, k5⟩ := hput i B hi
    obtain ⟨Bj, m1, m2, m3, m4, m5⟩ := hput j B' hj
    exact s.dist i j Bi Bj b k1 m1 ((k3 b).1 h1) ((m3 b).1 h2)
  · rintro b ⟨i, B, h1, h2, h3⟩
    obtain ⟨B', k1, k2, k3, k4, k5⟩ := hput i B h1
    exact s.nfz b ⟨i, B', k1, k2.trans h2, (k3 b).1 h3⟩
  · obtain ⟨B', k1, k2, k3, k4, k5⟩ := hput i B h1
    exact s.yfz i B' b k1 (k2.trans h2) ((k3 b).1 h3)
  · obtain ⟨B', k1, k2, k3, k4, k5⟩ := hput i _ h1
    obtain ⟨es2, rfl⟩ := k5 _ _ _ _ rfl
    exact s.later i v1 sz1 es2 fz1 v k1 hlt
  · rintro ⟨i, B, h1, h2, h3⟩
    obtain ⟨B', k1, k2, k3, k4, k5⟩ := hput i B h1
    exact hn ⟨i, B', k1, k2.trans h2, (k3 b).1 h3⟩
  · obtain ⟨B', k1, k2, k3, k4, k5⟩ := hput i B h1
    exact .inr ⟨i, B', k1, (k3 b).1 h2⟩
theorem relCells_set {κ : Kn} {w : World} {b : Nat} {p : PV} : ∀ (cs : List PV) (o j : Nat), RelCells κ w b o cs → (∀ v, w.cell? ⟨b, o + j, none⟩ = some v → j < cs.length → p.one = true ∧ Rel κ w p v) → RelCells κ w b o (cs.set j p)
  | [], _, _, h, _ => by simpa using h
  | c :: cs, o, 0, h, hp => by
    simp only [List.set_cons_zero, RelCells] at h ⊢
    obtain ⟨⟨v, h1, h2, h3⟩, h4⟩ := h
    have := hp v (by simpa using h1) (by simp)
    exact ⟨⟨v, h1, this.1, this.2⟩, h4⟩
  | c :: cs, o, j + 1, h, hp => by
    simp only [List.set_cons_succ, RelCells] at h ⊢
    exact ⟨h.1, relCells_set cs (o + 1) j h.2 fun v hv hj => hp v (by rw [show o + (j + 1) = o + 1 + j from by omega]; exact hv) (by simpa using hj)⟩
theorem AbsW.ghostC {c : Code} {Q : Exit → St → Prop} (id j sz : Nat) {ver n : Nat} {e : List PV} {fz : Bool} (hσ : st.σ id = some (.row ver n [e] fz)) (hj : e[j]? = some (.lit (.slice none 0 0)))
    (h : AbsW C N c ⟨st.env, (st.σ.put st.nx (.row 0 sz [] false)).put id (.row ver n [e.set j (.own st.nx 0 0 0 false)] fz), st.nx + 1⟩ Q) : AbsW C N c st Q := by
  intro rd mm hr κ a w s
  have hm := s.made (sz := sz) (es := []) (L := ⟨false, 0, 0, sz, 0, 0⟩) (w' := w) (κ' := withLoc κ st.nx 0 ⟨false, 0, 0, sz, 0, 0⟩)
    (withLoc_le (s.fresh _ _ (Nat.le_refl _)).1) rfl rfl (fun _ _ => rfl) (Nat.le_refl _) (fun _ _ => rfl) (fun h => by cases h)
    ⟨⟨false, 0, 0, sz, 0, 0⟩, by simp [withLoc], rfl, rfl, .inr ⟨rfl, rfl⟩⟩
  have s1 := hm.1
  have hid : id < st.nx := (s.blk id _ hσ).1
  have hσ1 : (st.σ.put st.nx (.row 0 sz [] false)) id = some (.row ver n [e] fz) := by
    simp only [Store.put]; rw [if_neg (by omega)]; exact hσ
  have h2 := Sim.redesc (st := { st with σ := st.σ.put st.nx (.row 0 sz [] false), nx := st.nx + 1 }) s1 (es' := [e.set j (.own st.nx 0 0 0 false)]) hσ1 rfl (fun h => by cases h) (fun b o hr => by
    simp only [RelRows] at hr ⊢
    obtain ⟨g1, g2, _⟩ := hr
    refine ⟨by simpa using g1, relCells_set _ _ _ g2 fun v hv hjl => ⟨rfl, ?_⟩, trivial⟩
    obtain ⟨us, u1, u2, u3, _⟩ := relCells_vals _ _ g2
    obtain ⟨v', k1, k2⟩ := relList_get _ _ _ _ u2 hj
    have := u3 j v' k1
    rw [hv] at this; cases this
    simp only [Rel] at k2 ⊢
    rw [k2.1]
    exact ⟨none, 0, rfl, Nat.le_refl _, by simp, ⟨false, 0, 0, sz, 0, 0⟩, by simp [withLoc], .inr ⟨rfl, fun _ => Nat.le_refl _⟩⟩)
  refine wpIn_mono (h rd mm hr _ a w h2.1) ?_
  rintro x a' w' ⟨κ', st', hq, s', ev, df⟩
  exact ⟨κ', st', hq, s', (hm.2 rfl rfl (.refl _)).trans (h2.2.trans ev), df⟩
theorem LoopQ.ghostC {c : Code} {Q : Exit → St → Prop} (id j sz : Nat) {ver n : Nat} {e : List PV} {fz : Bool} (hσ : st.σ id = some (.row ver n [e] fz)) (hj : e[j]? = some (.lit (.slice none 0 0)))
    (h : LoopQ C N c ⟨st.env, (st.σ.put st.nx (.row 0 sz [] false)).put id (.row ver n [e.set j (.own st.nx 0 0 0 false)] fz), st.nx + 1⟩ Q) : LoopQ C N c st Q :=
  fun ho => .ghostC id j sz hσ hj (h ho)
theorem weak_ofS {st : St} {le : List (Nat × PV)} {S : Store} {nx : Nat} (h : allE st.env le ∧ st.σ = S ∧ st.nx ≤ nx) : Weak st ⟨mkE le, S, nx⟩ :=
  ⟨allE_spec le h.1, fun i b hb => by rw [h.2.1]; exact hb, h.2.2⟩
theorem put_put {σ : Store} {i : Nat} {B B' : Blk} : (σ.put i B).put i B' = σ.put i B' := by
  funext k; simp only [Store.put]; split <;> rfl
theorem StSpec.weak {f : FuncId} {ps : List PV} {σ σ' : Store} {nx nx' : Nat} {Q : PV → Store → Nat → Prop} (hw : Weak ⟨fun _ => none, σ, nx⟩ ⟨fun _ => none, σ', nx'⟩) (h : StSpec C f ps σ' nx' Q) : StSpec C f ps σ nx Q :=
  ⟨h.1, fun κ w vs s hr => (h.2 κ w vs (s.weak hw) hr).mono fun e w' ⟨v, r, κ', σ2, nx2, h1, h2, h3, h4, h5⟩ => ⟨v, r, κ', σ2, nx2, h1, h2, h3, (Evo.weak κ w hw).trans h4, h5⟩⟩
end
end Go.Ab
end

section
/- Abstract values: a state told in other words; rows of own memory that nobody writes from now on. -/
namespace Go.Ab
open Go
def Cvt (C : Ctx) (N : Nat) (st st' : St) : Prop := ∀ κ a w, Sim C N κ st a w → ∃ κ', Sim C N κ' st' a w ∧ Evo κ st.σ w κ' st'.σ w
theorem Cvt.weak {C : Ctx} {N : Nat} {st st' : St} (h : Weak st st') : Cvt C N st st' := fun κ _ w s => ⟨κ, s.weak h, Evo.weak κ w h⟩
theorem Cvt.refl {C : Ctx} {N : Nat} (st : St) : Cvt C N st st := .weak (.refl st)
theorem Cvt.trans {C : Ctx} {N : Nat} {st st1 st2 : St} (h : Cvt C N st st1) (k : Cvt C N st1 st2) : Cvt C N st st2 := fun κ a w s => by
  obtain ⟨κ1, s1, e1⟩ := h κ a w s
  obtain ⟨κ2, s2, e2⟩ := k κ1 a w s1
  exact ⟨κ2, s2, e1.trans e2⟩
def fzV (i ver : Nat) (es : List (List PV)) : PV → PV
  | .own i' ver' off len clip => if i' = i ∧ ver' = ver ∧ off + len ≤ es.length then .imm ((es.drop off).take len) clip else .own i' ver' off len clip
  | p => p
def fzB (i ver : Nat) (es : List (List PV)) : Blk → Blk
  | .row v sz rows f => .row v sz (rows.map fun r => r.map (fzV i ver es)) f
  | .map kvs c f => .map kvs c f
  | .it x p => .it x p
  | .bld r T E x => .bld r T E x
def St.freeze (st : St) (i ver : Nat) (es : List (List PV)) : St := ⟨fun t => (st.env t).map (fzV i ver es), fun j => if j = i then none else (st.σ j).map (fzB i ver es), st.nx⟩
section
variable {C : Ctx} {N : Nat} {κ : Kn} {st : St} {a : Act} {w : World}
end
def ovS : List (Nat × Blk) → Store → Store
  | [], σ => σ
  | (i, B) :: r, σ => fun j => if j = i then some B else ovS r σ j
theorem ovR : (∀ {σ : Store}, ovS [] σ = σ) ∧ (∀ {i B r} {σ : Store} {j}, ovS ((i, B) :: r) σ j = if j = i then some B else ovS r σ j) := ⟨rfl, rfl⟩
def geL (n0 : Nat) : List (Nat × Blk) → Prop
  | [] => True
  | (i, _) :: r => n0 ≤ i ∧ geL n0 r
theorem Agr.ov {n0 : Nat} {σ : Store} : ∀ {ls : List (Nat × Blk)}, geL n0 ls → Agr n0 σ (ovS ls σ)
  | [], _ => fun _ _ => rfl
  | (i, B) :: r, h => fun j hj => by
    simp only [ovS]
    rw [if_neg (by have := h.1; omega)]
    exact Agr.ov h.2 j hj
theorem ovS_at {σ : Store} {j : Nat} {B : Blk} : ∀ {ls : List (Nat × Blk)}, ovS ls σ j = some B → mkS ls j = some B ∨ σ j = some B
  | [], h => .inr h
  | (i, B') :: r, h => by
    simp only [ovS] at h
    simp only [mkS]
    split at h
    · rename_i e; rw [if_pos e]; exact .inl h
    · rename_i e; rw [if_neg e]; exact ovS_at h
theorem weak_ofV {st : St} {le : List (Nat × PV)} {ls : List (Nat × Blk)} {σ : Store} {n0 nx : Nat} (hf : ∀ j, n0 ≤ j → σ j = none) (h1 : allE st.env le) (h2 : allS st.σ ls) (h3 : Agr n0 σ st.σ) (h4 : st.nx ≤ nx) : Weak st ⟨mkE le, ovS ls σ, nx⟩ := by
  refine ⟨allE_spec le h1, fun j B' h => ?_, h4⟩
  rcases ovS_at h with h | h
  · exact allS_spec ls h2 j B' h
  · rcases Nat.lt_or_ge j n0 with hj | hj
    · rw [h3 j hj]; exact h
    · rw [hf j hj] at h; cases h
theorem weakσ_ofV {e : Env} {τ σ : Store} {ls : List (Nat × Blk)} {n0 nx nx' : Nat} (hf : ∀ j, n0 ≤ j → σ j = none) (h2 : allS τ ls) (h3 : Agr n0 σ τ) (h4 : nx ≤ nx') : Weak ⟨e, τ, nx⟩ ⟨e, ovS ls σ, nx'⟩ := by
  refine ⟨fun _ _ h => h, fun j B' h => ?_, h4⟩
  simp only at h ⊢
  rcases ovS_at h with h | h
  · exact allS_spec ls h2 j B' h
  · rcases Nat.lt_or_ge j n0 with hj | hj
    · rw [h3 j hj]; exact h
    · rw [hf j hj] at h; cases h
end Go.Ab
end
