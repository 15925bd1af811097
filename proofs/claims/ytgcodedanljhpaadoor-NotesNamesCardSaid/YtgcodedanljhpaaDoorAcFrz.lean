/- Abstract values: reading own memory in its depth; own memory frozen at a call; rows of rows handed over. -/
import Derived.Test.YtgcodedanljhpaaDoorAcLib
set_option linter.unusedSimpArgs false
set_option linter.unusedVariables false
namespace Go.Ab
open Go
def ml {α β : Type} (f : α → Option β) : List α → Option (List β)
  | [] => some []
  | a :: as => match f a, ml f as with
    | some b, some bs => some (b :: bs)
    | _, _ => none
inductive Fu
  | z
  | s (n : Fu)
def rdp (σ : Store) : Fu → PV → Option PV
  | _, .lit v => some (.lit v)
  | _, .imm es c => some (.imm es c)
  | _, .cptr cs => some (.cptr cs)
  | .s n, .own id ver off len clip => match σ id with
    | some (.row ver' _ es _) => if ver = ver' ∧ off + len ≤ es.length then (match ml (ml (rdp σ n)) ((es.drop off).take len) with
      | some ds => some (.imm ds clip)
      | none => none) else none
    | _ => none
  | _, _ => none
def fu4 : Fu := .s (.s (.s (.s .z)))
def rdA (σ : Store) (p : PV) : Option PV := match rdp σ fu4 p with
  | some q => some q
  | none => drc σ p
def rdAs (σ : Store) : List PV → Option (List PV)
  | [] => some []
  | p :: ps => match rdA σ p, rdAs σ ps with
    | some q, some qs => some (q :: qs)
    | _, _ => none
section
variable {C : Ctx} {N : Nat} {κ κ' : Kn} {st : St} {a : Act} {w : World}
theorem ml_len {α β : Type} {f : α → Option β} : ∀ (l : List α) (m : List β), ml f l = some m → m.length = l.length
  | [], m, h => by simp only [ml, Option.some.injEq] at h; subst h; rfl
  | a :: l, m, h => by
    simp only [ml] at h
    split at h
    · rename_i b bs h1 h2; cases h; simp [ml_len l bs h2]
    · cases h
theorem ml_cells {f : PV → Option PV} (hf : ∀ p v q, f p = some q → Rel κ w p v → Rel κ' w q v ∧ q.one = true) {b : Nat} : ∀ (cs ds : List PV) (o : Nat), ml f cs = some ds → RelCells κ w b o cs → RelCells κ' w b o ds
  | [], ds, o, h, _ => by simp only [ml, Option.some.injEq] at h; subst h; simp [RelCells]
  | c :: cs, ds, o, h, hr => by
    simp only [ml] at h
    split at h
    · rename_i q qs h1 h2
      cases h
      simp only [RelCells] at hr ⊢
      obtain ⟨⟨v, g1, g2, g3⟩, g4⟩ := hr
      have := hf c v q h1 g3
      exact ⟨⟨v, g1, this.2, this.1⟩, ml_cells hf cs qs (o + 1) h2 g4⟩
    · cases h
theorem ml_rows {f : PV → Option PV} (hf : ∀ p v q, f p = some q → Rel κ w p v → Rel κ' w q v ∧ q.one = true) {b sz : Nat} : ∀ (es ds : List (List PV)) (o : Nat), ml (ml f) es = some ds → RelRows κ w b o sz es → RelRows κ' w b o sz ds
  | [], ds, o, h, _ => by simp only [ml, Option.some.injEq] at h; subst h; simp [RelRows]
  | e :: es, ds, o, h, hr => by
    simp only [ml] at h
    split at h
    · rename_i q qs h1 h2
      cases h
      simp only [RelRows] at hr ⊢
      exact ⟨by rw [ml_len _ _ h1]; exact hr.1, ml_cells hf e q o h1 hr.2.1, ml_rows hf es qs (o + sz) h2 hr.2.2⟩
    · cases h
theorem rdp_sound (s : Sim C N κ st a w) : ∀ (n : Fu) (p : PV) (v : Value) (q : PV), rdp st.σ n p = some q → Rel κ w p v → Rel (κ.lent st.σ) w q v ∧ q.one = true := by
  intro n
  induction n with
  | z =>
    intro p v q h hr
    cases p <;> simp only [rdp, Option.some.injEq] at h <;> first | (subst h; exact ⟨Rel.flat (lent_le _) rfl hr, rfl⟩) | cases h
  | s n ih =>
    intro p v q h hr
    cases p <;> simp only [rdp, Option.some.injEq] at h <;> first | (subst h; exact ⟨Rel.flat (lent_le _) rfl hr, rfl⟩) | skip
    all_goals first | (cases h; done) | skip
    rename_i id ver off len clip
    split at h
    · rename_i ver' sz es fz hσ
      split at h
      · rename_i hg
        obtain ⟨rfl, hl⟩ := hg
        split at h
        · rename_i ds hds
          cases h
          have hlen := ml_len _ _ hds
          exact ⟨own_read s hσ hl (fun b o hrr => ml_rows ih _ _ _ hds hrr) (by rw [hlen]; simp; omega) hr, rfl⟩
        · cases h
      · cases h
    · cases h
theorem rdAs_sound (s : Sim C N κ st a w) : ∀ (ps : List PV) (vs : List Value) (qs : List PV), rdAs st.σ ps = some qs → RelList κ w ps vs → RelList (κ.lent st.σ) w qs vs
  | [], vs, qs, h, hr => by simp only [rdAs, Option.some.injEq] at h; subst h; simpa only [RelList] using hr
  | p :: ps, vs, qs, h, hr => by
    simp only [rdAs] at h
    split at h
    · rename_i q qs' h1 h2
      cases h
      simp only [RelList] at hr ⊢
      obtain ⟨v, vs', rfl, g1, g2⟩ := hr
      refine ⟨v, vs', rfl, ?_, rdAs_sound s ps vs' qs' h2 g2⟩
      unfold rdA at h1
      split at h1
      · rename_i q' hq; cases h1; exact (rdp_sound s _ _ _ _ hq g1).1
      · have h3 : drcs st.σ [p] = some [q] := by simp only [drcs, h1]
        have := drcs_sound s [p] [v] [q] h3 (by simp only [RelList]; exact ⟨v, [], rfl, g1, rfl⟩)
        simp only [RelList] at this
        obtain ⟨_, _, e, g, _⟩ := this
        cases e; exact g
    · cases h
theorem rdp_flat {σ : Store} {n : Fu} {p : PV} (h : flat p = true) : rdp σ n p = some p := by
  cases p <;> simp only [flat, Bool.false_eq_true] at h <;> cases n <;> simp [rdp]
theorem mlI {σ : Store} {n : Fu} {k : IntKind} : ∀ {l : List Int}, ml (ml (rdp σ n)) (l.map fun i => [PV.lit (Value.int k i)]) = some (l.map fun i => [PV.lit (Value.int k i)])
  | [] => rfl
  | x :: l => by simp only [List.map_cons, ml, mlI (l := l), rdp_flat (p := PV.lit (Value.int k x)) rfl]
def frz (σ : Store) : Store := fun i => match σ i with
  | some (.row v sz es _) => some (.row v sz es true)
  | some (.map k c _) => some (.map k c true)
  | some (.it _ _) => none
  | some (.bld _ _ _ _) => none
  | none => none
theorem frz_some {σ : Store} {i : Nat} {B : Blk} (h : frz σ i = some B) : ∃ B', σ i = some B' ∧ B.fz = true ∧ (∀ κ b, BlkAt κ i B b ↔ BlkAt κ i B' b) ∧ (∀ κ w, SimBlk κ w i B ↔ SimBlk κ w i B') ∧ (∀ ver sz es fz, B = .row ver sz es fz → ∃ fz', B' = .row ver sz es fz') := by
  unfold frz at h
  split at h
  · rename_i v sz es f hσ
    cases h
    exact ⟨_, hσ, rfl, fun _ _ => Iff.rfl, fun _ _ => Iff.rfl, fun _ _ _ _ e => by cases e; exact ⟨f, rfl⟩⟩
  · rename_i k c f hσ
    cases h
    exact ⟨_, hσ, rfl, fun _ _ => Iff.rfl, fun _ _ => Iff.rfl, fun _ _ _ _ e => by cases e⟩
  · cases h
  · cases h
  · cases h
theorem Sim.frz {w' : World} (s : Sim C N κ st a w) (hb : Bel w w') {κ' : Kn} (hκ : κ' = ⟨κ.loc, κ.mloc, fun b => (κ.lent st.σ).fz b ∨ (w.heap.size ≤ b ∧ b < w'.heap.size)⟩) :
    Sim C N κ' { st with σ := Go.Ab.frz st.σ } a w' ∧ Evo κ st.σ w κ' (Go.Ab.frz st.σ) w' := by
  subst hκ
  have hle : κ.le ⟨κ.loc, κ.mloc, fun b => (κ.lent st.σ).fz b ∨ (w.heap.size ≤ b ∧ b < w'.heap.size)⟩ := ⟨fun _ _ _ h => h, fun _ _ h => h, fun b h => .inl (.inl h)⟩
  have hfzw : ∀ b, κ.fz b → w'.heap[b]? = w.heap[b]? := fun b hb' => hb.hold b (s.fzlt b hb')
  have hno : ∀ b, ¬ Owned (⟨κ.loc, κ.mloc, fun b => (κ.lent st.σ).fz b ∨ (w.heap.size ≤ b ∧ b < w'.heap.size)⟩ : Kn) (Go.Ab.frz st.σ) b := by
    rintro b ⟨i, B, h1, h2, h3⟩
    obtain ⟨B', _, g2, _⟩ := frz_some h1
    rw [g2] at h2; cases h2
  have hbl : ∀ i B b, BlkAt (⟨κ.loc, κ.mloc, fun b => (κ.lent st.σ).fz b ∨ (w.heap.size ≤ b ∧ b < w'.heap.size)⟩ : Kn) i B b ↔ BlkAt κ i B b := fun i B b => by cases B <;> exact Iff.rfl
  refine ⟨⟨s.defers, s.size, fun t v h => ⟨(s.env t v h).1, Rel.mono hle hfzw _ _ (s.env t v h).2⟩, ?_, ?_, fun b h => absurd h (hno b), ?_, ?_, s.fresh, ?_, fun g cs h => ⟨hle.fz _ (s.glob g cs h).1, RelCells.mono hle.bare hfzw _ _ _ (hfzw g (s.glob g cs h).1) (s.glob g cs h).2⟩⟩, ⟨hle, hb.os, hb.tape, hb.output, hb.size, fun b h1 h2 => ⟨hb.hold b h1, hno b⟩, ?_, ?_⟩⟩
  · intro i B h
    obtain ⟨B', g1, _, g3, g4, _⟩ := frz_some h
    have := s.blk i B' g1
    exact ⟨this.1, (g4 _ _).2 (SimBlk.mono hle hfzw (fun b hb' => hb.hold b (hb'.lt this.2)) this.2)⟩
  · intro i j B B' b hi hj h1 h2
    obtain ⟨A1, g1, _, g3, _⟩ := frz_some hi
    obtain ⟨A2, k1, _, k3, _⟩ := frz_some hj
    exact s.dist i j A1 A2 b g1 k1 ((hbl _ _ _).1 ((g3 _ _).1 h1)) ((hbl _ _ _).1 ((k3 _ _).1 h2))
  · intro i B b h1 h2 h3
    obtain ⟨B', g1, _, g3, _⟩ := frz_some h1
    exact .inl (.inr ⟨i, B', g1, (hbl _ _ _).1 ((g3 _ _).1 h3)⟩)
  · intro b h
    rcases h with (h | ⟨i, B, h1, h2⟩) | h
    · exact Nat.lt_of_lt_of_le (s.fzlt b h) hb.size
    · exact Nat.lt_of_lt_of_le (h2.lt (s.blk i B h1).2) hb.size
    · exact h.2
  · intro i ver sz es fz v h1 hlt
    obtain ⟨B', g1, _, _, _, g5⟩ := frz_some h1
    obtain ⟨fz', rfl⟩ := g5 ver sz es fz rfl
    exact s.later i ver sz es fz' v g1 hlt
  · intro b h
    rcases h with (h | ⟨i, B, h1, h2⟩) | h
    · exact .inl h
    · exact .inr (.inr ⟨i, B, h1, h2⟩)
    · exact .inr (.inl h.1)
  · intro i B b h1 h2
    obtain ⟨B', g1, _, g3, _⟩ := frz_some h1
    exact .inr ⟨i, B', g1, (hbl _ _ _).1 ((g3 _ _).1 h2)⟩
theorem callee_preD (s : Sim C N κ st a w) {ps args : List PV} {vs : List Value} (h : RelList κ w ps vs) (hd : rdAs st.σ ps = some args) :
    (∀ b, (κ.lent st.σ).fz b → b < w.heap.size) ∧ (∀ g cs, C.G g = some cs → (κ.lent st.σ).fz g ∧ RelCells ⟨fun _ _ => none, fun _ => none, (κ.lent st.σ).fz⟩ w g 0 cs) ∧ RelList ⟨fun _ _ => none, fun _ => none, (κ.lent st.σ).fz⟩ w args vs := by
  refine ⟨fun b hb => ?_, fun g cs hg => ⟨.inl (s.glob g cs hg).1, RelCells.mono (lent_le st.σ) (fun _ _ => rfl) _ _ _ rfl (s.glob g cs hg).2⟩, rdAs_sound s ps vs args hd h⟩
  rcases hb with hb | ⟨i, B, h1, h2⟩
  · exact s.fzlt b hb
  · exact h2.lt (s.blk i B h1).2
theorem CallQ.immF {dst : Option Tmp} {fo : Operand} {as : Array Operand} {ts : Array TypeId} {ty : TypeId} {pos : String} {after : Array Edge} {guard : Option (Nat × Bool)} {f : FuncId} {ps args : List PV} {r : PV} {K : St → Prop}
    (hs : CallSpec C f args r) (hc : callArgs C st fo as = some (f, ps)) (hd : rdAs st.σ ps = some args) (hK : K (St.put ⟨st.env, Go.Ab.frz st.σ, st.nx⟩ dst (forget r))) :
    CallQ C N ⟨dst, .call { callee := .value fo, args := as, argTypes := ts }, ty, pos, after, guard⟩ st K := fun hdst => by
  intro κ a w s next Q hn
  obtain ⟨hg, hspec⟩ := hs
  obtain ⟨vs, h1, h2⟩ := run_call (o := ⟨dst, .call { callee := .value fo, args := as, argTypes := ts }, ty, pos, after, guard⟩) s rfl hc hg
  obtain ⟨f1, f2, f3⟩ := callee_preD s h2 hd
  unfold Oper.wp
  rw [h1]
  simp only [Oper.upon]
  refine (hspec w _ vs f1 f2 f3).mono ?_
  rintro e w' ⟨v, us, rfl, hb, hnd, hus, hret⟩
  have hm := s.frz hb rfl
  refine hn _ _ _ _ hK (hm.1.put hdst (retTop_forget hret (fun b hb' => .inr (hus b hb')) (.inl ⟨fun _ _ _ h => (by cases h), fun _ _ h => (by cases h), fun b hb' => ?_⟩))) (by rw [st_put_σ']; exact hm.2) put_dfs
  rcases hb'.1 with h | h
  · exact .inl h
  · exact .inr h
/-! ### rows of rows -/
theorem Sim.del (s : Sim C N κ st a w) (i : Nat) : Sim C N κ { st with σ := st.σ.del i } a w := by
  have hd : ∀ j B, (st.σ.del i) j = some B → st.σ j = some B ∧ j ≠ i := fun j B h => by
    simp only [Store.del] at h; split at h
    · cases h
    · rename_i e; exact ⟨h, e⟩
  exact ⟨s.defers, s.size, s.env, fun j B h => s.blk j B (hd j B h).1, fun j k B B' b h1 h2 => s.dist j k B B' b (hd j B h1).1 (hd k B' h2).1, fun b ⟨j, B, h1, h2, h3⟩ => s.nfz b ⟨j, B, (hd j B h1).1, h2, h3⟩,
    fun j B b h1 => s.yfz j B b (hd j B h1).1, s.fzlt, s.fresh, fun j ver sz es fz v h => s.later j ver sz es fz v (hd j _ h).1, s.glob⟩
def newD (σ : Store) (n : Fu) : List PV → Option PV
  | [.own id ver off len _] => match σ id with
    | some (.row ver' sz es false) => if ver = ver' ∧ off + len ≤ es.length then (match ml (ml (rdp (σ.del id) n)) ((es.drop off).take len) with
      | some ds => some (.new sz ds)
      | none => none) else none
    | _ => none
  | _ => none
def retD (C : Ctx) (res : List ResultVar) (r : PV) : Exit → St → Prop
  | .normal, st | .ret, st => onL (resL C st res) fun ps => onL (newD st.σ fu4 ps) fun q => q = r
  | _, _ => False
theorem Sim.adopt (s : Sim C N κ st a w) {sz : Nat} {es : List (List PV)} {L : Loc} {κ' : Kn}
    (hle : κ.le κ') (hfz : κ'.fz = κ.fz) (hm : κ'.mloc = κ.mloc)
    (hloc : ∀ i v, κ'.loc i v = if i = st.nx ∧ v = 0 then some L else κ.loc i v)
    (hn : L.real = true → ¬ κ.fz L.blk) (hdj : L.real = true → ∀ i B, st.σ i = some B → ¬ BlkAt κ i B L.blk) (hB : SimBlk κ' w st.nx (.row 0 sz es false)) :
    Sim C N κ' { st with σ := st.σ.put st.nx (.row 0 sz es false), nx := st.nx + 1 } a w := by
  have hself : ∀ b, BlkAt κ' st.nx (.row 0 sz es false) b → b = L.blk ∧ L.real = true := by
    rintro b ⟨M, h1, h2, rfl⟩
    rw [hloc, if_pos ⟨rfl, rfl⟩] at h1
    cases h1
    exact ⟨rfl, h2⟩
  have hput : ∀ i B, (st.σ.put st.nx (.row 0 sz es false)) i = some B → (i = st.nx ∧ B = .row 0 sz es false) ∨ (i ≠ st.nx ∧ st.σ i = some B) := by
    intro i B h
    simp only [Store.put] at h
    split at h
    · rename_i hi; cases h; exact .inl ⟨hi, rfl⟩
    · rename_i hi; exact .inr ⟨hi, h⟩
  have hback : ∀ i B b, st.σ i = some B → BlkAt κ' i B b → BlkAt κ i B b := fun i B b hB h => h.back s hle hB
  refine ⟨s.defers, s.size, fun t v h => ⟨(s.env t v h).1, Rel.mono hle (fun _ _ => rfl) _ _ (s.env t v h).2⟩, ?_, ?_, ?_, ?_, ?_, ?_, ?_, fun g cs h => ⟨hle.fz _ (s.glob g cs h).1, RelCells.mono hle.bare (fun _ _ => rfl) _ _ _ rfl (s.glob g cs h).2⟩⟩
  · intro i B h
    rcases hput i B h with ⟨rfl, rfl⟩ | ⟨hi, h⟩
    · exact ⟨by simp, hB⟩
    · exact ⟨by have := (s.blk i B h).1; simp; omega, SimBlk.mono hle (fun _ _ => rfl) (fun _ _ => rfl) (s.blk i B h).2⟩
  · intro i j B B' b hi hj h1 h2
    rcases hput i B hi with ⟨rfl, rfl⟩ | ⟨hi', hi⟩ <;> rcases hput j B' hj with ⟨rfl, rfl⟩ | ⟨hj', hj⟩
    · rfl
    · obtain ⟨rfl, hr⟩ := hself b h1
      exact absurd (hback j B' _ hj h2) (hdj hr j B' hj)
    · obtain ⟨rfl, hr⟩ := hself b h2
      exact absurd (hback i B _ hi h1) (hdj hr i B hi)
    · exact s.dist i j B B' b hi hj (hback i B b hi h1) (hback j B' b hj h2)
  · rintro b ⟨i, B, h1, h2, h3⟩
    rw [hfz]
    rcases hput i B h1 with ⟨rfl, rfl⟩ | ⟨hi, h1⟩
    · obtain ⟨rfl, hr⟩ := hself b h3; exact hn hr
    · exact s.nfz b ⟨i, B, h1, h2, hback i B b h1 h3⟩
  · intro i B b h1 h2 h3
    rw [hfz]
    rcases hput i B h1 with ⟨rfl, rfl⟩ | ⟨hi, h1⟩
    · cases h2
    · exact s.yfz i B b h1 h2 (hback i B b h1 h3)
  · intro b hb; rw [hfz] at hb; exact s.fzlt b hb
  · intro i v hi
    rw [hloc, hm]
    simp only at hi
    rw [if_neg (fun h => by omega)]
    exact s.fresh i v (by omega)
  · intro i v1 sz1 es1 fz1 v h1 hlt
    rw [hloc]
    rcases hput i _ h1 with ⟨rfl, h⟩ | ⟨hi, h⟩
    · cases h
      rw [if_neg (fun h => by omega)]
      exact (s.fresh st.nx v (Nat.le_refl _)).1
    · rw [if_neg (fun h => hi h.1)]
      exact s.later i v1 sz1 es1 fz1 v h hlt
end
end Go.Ab
