/- Abstract values: maps of own memory, with keys that are numbers, strings or booleans. -/
import Derived.Test.YtgcodedanljhpaaDoorAcEff
import Derived.MapKept
set_option linter.unusedSimpArgs false
set_option linter.unusedVariables false
section
namespace Go.Ab
open Go
section
variable {C : Ctx} {N : Nat} {κ : Kn} {st : St} {a : Act} {w : World}
def evMakeMap (st : St) : Option (PV × Store × Nat) := some (.mp st.nx, st.σ.put st.nx (.map [] 0 false), st.nx + 1)
def updP (d : TypeDesc) (k : Value) (x : PV) : List (Value × PV × Nat) → List (Value × PV × Nat)
  | [] => []
  | (key, p, n) :: r => match Instr.sameNow d k key with
    | some true => (key, x, n) :: r
    | _ => (key, p, n) :: updP d k x r
def evMapPut (C : Ctx) (st : St) (t : TypeId) (p q x : PV) : Option (PV × Store × Nat) :=
  match p, q, ti C.P t with
  | .mp id, .lit k, some ⟨.map kt et, _, _⟩ => match st.σ id, ti C.P kt with
    | some (.map kvs clock false), some ki => if keyB ki.desc k = true ∧ x.one = true then (match findP ki.desc k kvs with
        | some none => some (.tup [], st.σ.put id (.map (kvs ++ [(k, x, clock)]) (clock + 1) false), st.nx)
        | some (some _) => some (.tup [], st.σ.put id (.map (updP ki.desc k x kvs) clock false), st.nx)
        | none => none) else none
    | _, _ => none
  | _, _, _ => none
theorem Sim.mapSet (s : Sim C N κ st a w) {id clock clock' r : Nat} {kvs kvs' : List (Value × PV × Nat)} {w' : World} (hσ : st.σ id = some (.map kvs clock false)) (hm : κ.mloc id = some r)
    (hsz : w'.heap.size = w.heap.size) (hother : ∀ b, b ≠ r → w'.heap[b]? = w.heap[b]?) (hB : SimBlk κ w' id (.map kvs' clock' false)) :
    Sim C N κ { st with σ := st.σ.put id (.map kvs' clock' false) } a w' ∧ (w'.os = w.os → w'.tape = w.tape → Outs w w' → Evo κ st.σ w κ (st.σ.put id (.map kvs' clock' false)) w') := by
  have hrfz : ¬ κ.fz r := s.nfz _ ⟨id, _, hσ, rfl, hm⟩
  have hfzw : ∀ b, κ.fz b → w'.heap[b]? = w.heap[b]? := fun b hb => hother b (fun e => hrfz (e ▸ hb))
  have hle := Kn.le.refl κ
  have hne : ∀ i B b, i ≠ id → st.σ i = some B → BlkAt κ i B b → b ≠ r := by
    intro i B b hi hB h e
    subst e
    exact hi (s.dist i id B _ _ hB hσ h hm)
  have hput : ∀ i B, (st.σ.put id (.map kvs' clock' false)) i = some B → (i = id ∧ B = .map kvs' clock' false) ∨ (i ≠ id ∧ st.σ i = some B) := by
    intro i B h
    simp only [Store.put] at h
    split at h
    · rename_i hi; cases h; exact .inl ⟨hi, rfl⟩
    · rename_i hi; exact .inr ⟨hi, h⟩
  have hself : ∀ b, BlkAt κ id (.map kvs' clock' false) b → b = r := fun b hb => by
    rw [show κ.mloc id = some b from hb] at hm; exact Option.some.inj hm
  have hown : ∀ b, Owned κ (st.σ.put id (.map kvs' clock' false)) b → Owned κ st.σ b := by
    rintro b ⟨i, B, h1, h2, h3⟩
    rcases hput i B h1 with ⟨rfl, rfl⟩ | ⟨hi, h1⟩
    · rw [hself b h3]; exact ⟨i, _, hσ, rfl, hm⟩
    · exact ⟨i, B, h1, h2, h3⟩
  refine ⟨⟨s.defers, s.size, fun t v h => ⟨(s.env t v h).1, Rel.mono hle hfzw _ _ (s.env t v h).2⟩, ?_, ?_, ?_, ?_, ?_, s.fresh, ?_, fun g cs h => ⟨(s.glob g cs h).1, RelCells.mono hle.bare hfzw _ _ _ (hfzw g (s.glob g cs h).1) (s.glob g cs h).2⟩⟩, fun ho ht hout => ⟨hle, ho, ht, hout, by rw [hsz]; exact Nat.le_refl _, ?_, fun b hb => .inl hb, ?_⟩⟩
  · intro i B h
    rcases hput i B h with ⟨rfl, rfl⟩ | ⟨hi, h⟩
    · exact ⟨(s.blk i _ hσ).1, hB⟩
    · exact ⟨(s.blk i B h).1, SimBlk.mono hle hfzw (fun b hb => hother b (hne i B b hi h hb)) (s.blk i B h).2⟩
  · intro i j B B' b hi hj h1 h2
    rcases hput i B hi with ⟨rfl, rfl⟩ | ⟨hi', hi2⟩ <;> rcases hput j B' hj with ⟨rfl, rfl⟩ | ⟨hj', hj2⟩
    · rfl
    · exact absurd (hself b h1) (hne j B' b hj' hj2 h2)
    · exact absurd (hself b h2) (hne i B b hi' hi2 h1)
    · exact s.dist i j B B' b hi2 hj2 h1 h2
  · intro b hb hfb
    exact s.nfz b (hown b hb) hfb
  · intro i B b h1 h2 h3
    rcases hput i B h1 with ⟨rfl, rfl⟩ | ⟨hi, h1⟩
    · cases h2
    · exact s.yfz i B b h1 h2 h3
  · intro b hb; rw [hsz]; exact s.fzlt b hb
  · intro i v1 sz1 es1 fz1 v h1 hlt
    rcases hput i _ h1 with ⟨rfl, h⟩ | ⟨hi, h⟩
    · cases h
    · exact s.later i v1 sz1 es1 fz1 v h hlt
  · intro b hb hn
    refine ⟨hother b (fun e => hn ⟨id, _, hσ, rfl, by rw [e]; exact hm⟩), fun ho => hn (hown b ho)⟩
  · intro i B b h1 h2
    rcases hput i B h1 with ⟨rfl, rfl⟩ | ⟨hi, h1⟩
    · rw [hself b h2]; exact .inr ⟨i, _, hσ, hm⟩
    · exact .inr ⟨i, B, h1, h2⟩
theorem Sim.mapNew (s : Sim C N κ st a w) {r : Nat} {w' : World} {κ' : Kn} (hr : w.heap.size ≤ r)
    (hfz : κ'.fz = κ.fz) (hloc : κ'.loc = κ.loc) (hm : ∀ i, κ'.mloc i = if i = st.nx then some r else κ.mloc i)
    (hsz : w.heap.size ≤ w'.heap.size) (hother : ∀ b, b < w.heap.size → w'.heap[b]? = w.heap[b]?) (hB : SimBlk κ' w' st.nx (.map [] 0 false)) :
    κ.le κ' ∧ Sim C N κ' { st with σ := st.σ.put st.nx (.map [] 0 false), nx := st.nx + 1 } a w' ∧ (w'.os = w.os → w'.tape = w.tape → Outs w w' → Evo κ st.σ w κ' (st.σ.put st.nx (.map [] 0 false)) w') := by
  have hle : κ.le κ' := ⟨fun i v L h => by rw [hloc]; exact h, fun i b h => by
    rw [hm]
    split
    · rename_i e; rw [e, (s.fresh st.nx 0 (Nat.le_refl _)).2] at h; cases h
    · exact h, fun b h => by rw [hfz]; exact h⟩
  have hfzw : ∀ b, κ.fz b → w'.heap[b]? = w.heap[b]? := fun b hb => hother b (s.fzlt b hb)
  have hself : ∀ b, BlkAt κ' st.nx (.map [] 0 false) b → w.heap.size ≤ b := fun b hb => by
    have h1 : κ'.mloc st.nx = some b := hb
    rw [hm, if_pos rfl] at h1; cases h1; exact hr
  have hput : ∀ i B, (st.σ.put st.nx (.map [] 0 false)) i = some B → (i = st.nx ∧ B = .map [] 0 false) ∨ (i ≠ st.nx ∧ st.σ i = some B) := by
    intro i B h
    simp only [Store.put] at h
    split at h
    · rename_i hi; cases h; exact .inl ⟨hi, rfl⟩
    · rename_i hi; exact .inr ⟨hi, h⟩
  have hback : ∀ i B b, st.σ i = some B → BlkAt κ' i B b → BlkAt κ i B b := fun i B b hB h => h.back s hle hB
  have hown : ∀ b, b < w.heap.size → Owned κ' (st.σ.put st.nx (.map [] 0 false)) b → Owned κ st.σ b := by
    rintro b hb ⟨i, B, h1, h2, h3⟩
    rcases hput i B h1 with ⟨rfl, rfl⟩ | ⟨hi, h1⟩
    · have := hself b h3; omega
    · exact ⟨i, B, h1, h2, hback i B b h1 h3⟩
  refine ⟨hle, ⟨s.defers, s.size, fun t v h => ⟨(s.env t v h).1, Rel.mono hle hfzw _ _ (s.env t v h).2⟩, ?_, ?_, ?_, ?_, ?_, ?_, ?_, fun g cs h => ⟨hle.fz _ (s.glob g cs h).1, RelCells.mono hle.bare hfzw _ _ _ (hfzw g (s.glob g cs h).1) (s.glob g cs h).2⟩⟩, fun ho ht hout => ⟨hle, ho, ht, hout, hsz, ?_, fun b hb => .inl (by rw [hfz] at hb; exact hb), ?_⟩⟩
  · intro i B h
    rcases hput i B h with ⟨rfl, rfl⟩ | ⟨hi, h⟩
    · exact ⟨by simp, hB⟩
    · exact ⟨by have := (s.blk i B h).1; simp; omega, SimBlk.mono hle hfzw (fun b hb => hother b (hb.lt (s.blk i B h).2)) (s.blk i B h).2⟩
  · intro i j B B' b hi hj h1 h2
    rcases hput i B hi with ⟨rfl, rfl⟩ | ⟨hi', hi⟩ <;> rcases hput j B' hj with ⟨rfl, rfl⟩ | ⟨hj', hj⟩
    · rfl
    · exfalso
      have h3 := (hback j B' b hj h2).lt (s.blk j B' hj).2
      have := hself b h1; omega
    · exfalso
      have h3 := (hback i B b hi h1).lt (s.blk i B hi).2
      have := hself b h2; omega
    · exact s.dist i j B B' b hi hj (hback i B b hi h1) (hback j B' b hj h2)
  · intro b hb
    rw [hfz]
    rintro hfb
    exact s.nfz b (hown b (s.fzlt b hfb) hb) hfb
  · intro i B b h1 h2 h3
    rw [hfz]
    rcases hput i B h1 with ⟨rfl, rfl⟩ | ⟨hi, h1⟩
    · cases h2
    · exact s.yfz i B b h1 h2 (hback i B b h1 h3)
  · intro b hb; rw [hfz] at hb; exact Nat.lt_of_lt_of_le (s.fzlt b hb) hsz
  · intro i v hi
    simp only at hi
    rw [hloc, hm, if_neg (by omega)]
    exact s.fresh i v (by omega)
  · intro i v1 sz1 es1 fz1 v h1 hlt
    rw [hloc]
    rcases hput i _ h1 with ⟨rfl, h⟩ | ⟨hi, h⟩
    · cases h
    · exact s.later i v1 sz1 es1 fz1 v h hlt
  · intro b hb hn
    exact ⟨hother b hb, fun ho => hn (hown b hb ho)⟩
  · intro i B b h1 h2
    rcases hput i B h1 with ⟨rfl, rfl⟩ | ⟨hi, h1⟩
    · exact .inl (hself b h2)
    · exact .inr ⟨i, B, h1, hback i B b h1 h2⟩
theorem evMakeMap_sound (s : Sim C N κ st a w) {t : TypeId} {r : PV} {σ' : Store} {nx' : Nat} (h : evMakeMap st = some (r, σ', nx')) :
    ∃ z w' κ', (Instr.makeMap t none).run C.P w = .ok z w' ∧ Rel κ' w' r z ∧ Sim C N κ' { st with σ := σ', nx := nx' } a w' ∧ Evo κ st.σ w κ' σ' w' := by
  cases h
  have ha := MapKept.heap_alloc w (.map #[] 0)
  obtain ⟨h1, h2, h3⟩ := s.mapNew (r := w.heap.size) (w' := w.alloc (.map #[] 0)) (κ' := ⟨κ.loc, fun i => if i = st.nx then some w.heap.size else κ.mloc i, κ.fz⟩) (Nat.le_refl _) rfl rfl (fun _ => rfl)
    (by show w.heap.size ≤ (w.heap.push (.map #[] 0)).size; rw [Array.size_push]; omega) ha.2 ⟨w.heap.size, #[], by simp, ha.1, by simp [RelEnts]⟩
  exact ⟨.map (some w.heap.size), _, _, rfl, by simp only [Rel]; exact ⟨_, by simp, rfl⟩, h2, h3 rfl rfl ⟨rfl, Nat.le_refl _⟩⟩
theorem relEnts_snoc {k : Value} {x : PV} {n : Nat} {v : Value} : ∀ (kvs : List (Value × PV × Nat)) (es : List MapEntry), RelEnts κ w kvs es → Rel κ w x v → RelEnts κ w (kvs ++ [(k, x, n)]) (es ++ [{ key := k, val := v, born := n }])
  | [], es, h, hx => by
    simp only [RelEnts] at h; subst h
    simp only [List.nil_append, RelEnts]
    exact ⟨_, [], rfl, rfl, rfl, hx, rfl⟩
  | (k', p, m) :: kvs, es, h, hx => by
    simp only [RelEnts] at h
    obtain ⟨e, es', rfl, h1, h2, h3, h4⟩ := h
    simp only [List.cons_append, RelEnts]
    exact ⟨e, _, rfl, h1, h2, h3, relEnts_snoc kvs es' h4 hx⟩
theorem sameNow_key {d : TypeDesc} {k key : Value} (h : Instr.sameNow d k key = some true) : k = key := by
  unfold Instr.sameNow at h
  split at h
  · split at h
    · rename_i e; subst e; simp only [Option.some.injEq, beq_iff_eq] at h; rw [h]
    · cases h
  · simp only [Option.some.injEq] at h; rw [(MapKept.bytes_beq _ _).1 h]
  · simp only [Option.some.injEq, beq_iff_eq] at h; rw [h]
  · cases h
theorem findP_upd {d : TypeDesc} {k : Value} {x p0 : PV} {y : Value} (hx : Rel κ w x y) : ∀ (kvs : List (Value × PV × Nat)) (es : List MapEntry) (i : Nat), RelEnts κ w kvs es → findP d k kvs = some (some p0) →
    ∃ j v e, Instr.findNow d k es i = some (some (i + j, v)) ∧ es[j]? = some e ∧ e.key = k ∧ RelEnts κ w (updP d k x kvs) (es.modify j fun e => { e with key := k, val := y })
  | [], es, i, h, hf => by simp [findP] at hf
  | (key, p, n) :: kvs, es, i, h, hf => by
    simp only [RelEnts] at h
    obtain ⟨e, es', rfl, h1, h2, h3, h4⟩ := h
    simp only [findP] at hf
    split at hf
    · rename_i hs
      refine ⟨0, e.val, e, by simp only [Instr.findNow, h1, hs, Nat.add_zero], rfl, by rw [h1]; exact (sameNow_key hs).symm, ?_⟩
      simp only [updP, hs, List.modify_zero_cons, RelEnts]
      exact ⟨_, es', rfl, (sameNow_key hs), h2, hx, h4⟩
    · rename_i hs
      obtain ⟨j, v, e', g1, g2, g3, g4⟩ := findP_upd hx kvs es' (i + 1) h4 hf
      refine ⟨j + 1, v, e', by simp only [Instr.findNow, h1, hs, g1]; congr 3; omega, by simpa using g2, g3, ?_⟩
      simp only [updP, hs, List.modify_succ_cons, RelEnts]
      exact ⟨e, _, rfl, h1, h2, h3, g4⟩
    · cases hf
theorem evMapPut_sound (s : Sim C N κ st a w) {t : TypeId} {p q x r : PV} {σ' : Store} {nx' : Nat} {u v y : Value} (h : evMapPut C st t p q x = some (r, σ', nx')) (hp : Rel κ w p u) (hq : Rel κ w q v) (hx : Rel κ w x y) :
    ∃ w' κ', (Instr.mapUpdate t u v y).run C.P w = .ok () w' ∧ r = .tup [] ∧ Sim C N κ' { st with σ := σ', nx := nx' } a w' ∧ Evo κ st.σ w κ' σ' w' := by
  unfold evMapPut at h
  split at h
  · rename_i id k kt et sz by_ ht
    split at h
    · rename_i kvs clock ki hσ hk
      split at h
      · rename_i hkb
        simp only [Rel] at hp hq
        obtain ⟨rr, hm, rfl⟩ := hp
        obtain ⟨rfl, _⟩ := hq
        obtain ⟨_, r', ents, h1, h2, h3⟩ := s.blk id _ hσ
        rw [hm] at h1; cases h1
        have hck := MapKept.run_checkKey (P := C.P) (w := w) (kt := kt) (d := ki.desc) (k := v) (ti_spec hk).1 (keyB_spec hkb.1) false 9999
        split at h
        · rename_i hf
          cases h
          have g1 := findP_sound (κ := κ) (w := w) kvs ents.toList 0 none h3 hf
          have hfk := MapKept.run_findKey (P := C.P) (w := w) (kt := kt) (ti_spec hk).1 g1
          have hs := MapKept.heap_set (o' := .map (ents.push { key := v, val := y, born := clock }) (clock + 1)) h2
          have hrfz : ¬ κ.fz rr := s.nfz _ ⟨id, _, hσ, rfl, hm⟩
          have := s.mapSet (kvs' := kvs ++ [(v, x, clock)]) (clock' := clock + 1) (w' := { w with heap := w.heap.setIfInBounds rr (.map (ents.push { key := v, val := y, born := clock }) (clock + 1)) }) hσ hm (by simp) hs.2
            ⟨rr, _, hm, hs.1, by
              rw [Array.toList_push]
              exact relEnts_snoc kvs ents.toList (RelEnts.mono (.refl κ) (fun b hb => hs.2 b (fun e => hrfz (e ▸ hb))) _ _ h3) (Rel.mono (.refl κ) (fun b hb => hs.2 b (fun e => hrfz (e ▸ hb))) _ _ hx)⟩
          refine ⟨_, κ, ?_, rfl, this.1, this.2 rfl rfl (by first | exact .refl _ | exact ⟨rfl, Nat.le_succ _⟩ | exact ⟨rfl, Nat.le_refl _⟩)⟩
          simp only [Instr.mapUpdate, Sem.run_bind, run_underlying ht, Result.andThen_ok, MapKept.run_getObj_map h2, hck, hfk]
          exact MapKept.run_setObj_map _ h2
        · rename_i p0 hf
          cases h
          have hs0 := fun o' => MapKept.heap_set (o' := o') h2
          have hrfz : ¬ κ.fz rr := s.nfz _ ⟨id, _, hσ, rfl, hm⟩
          obtain ⟨j, z, e, g1, g2, g3, g4⟩ := findP_upd hx kvs ents.toList 0 h3 hf
          rw [Nat.zero_add] at g1
          have hfk := MapKept.run_findKey (P := C.P) (w := w) (kt := kt) (ti_spec hk).1 g1
          have hej : ents[j]? = some e := by simpa using g2
          have hstay := MapKept.run_keyThatStays (P := C.P) (w := w) (keyB_spec hkb.1)
          have hs := hs0 (.map (ents.modify j fun e => { e with key := v, val := y }) clock)
          have := s.mapSet (kvs' := updP ki.desc v x kvs) (clock' := clock) (w' := { w with heap := w.heap.setIfInBounds rr (.map (ents.modify j fun e => { e with key := v, val := y }) clock) }) hσ hm (by simp) hs.2
            ⟨rr, _, hm, hs.1, by
              rw [Array.toList_modify]
              exact RelEnts.mono (.refl κ) (fun b hb => hs.2 b (fun e => hrfz (e ▸ hb))) _ _ g4⟩
          refine ⟨_, κ, ?_, rfl, this.1, this.2 rfl rfl ⟨rfl, Nat.le_refl _⟩⟩
          simp only [Instr.mapUpdate, Sem.run_bind, run_underlying ht, Result.andThen_ok, MapKept.run_getObj_map h2, hck, hfk, hej, Option.map_some, Option.getD_some, g3, hstay]
          exact MapKept.run_setObj_map _ h2
        · cases h
      · cases h
    · cases h
  · cases h
end
end Go.Ab
end

section
/- Abstract values: a range over a string. -/
namespace Go.Ab
open Go
section
variable {C : Ctx} {N : Nat} {κ : Kn} {st : St} {a : Act} {w : World}
def evRange (C : Ctx) (st : St) (t : TypeId) (p : PV) : Option (PV × Store × Nat) :=
  match ti C.P t, p with
  | some ⟨.string, _, _⟩, .lit (.string s) => some (.ptr st.nx 0 0 0, st.σ.put st.nx (.it s 0), st.nx + 1)
  | _, _ => none
def evNext (st : St) (p : PV) (isS : Bool) : Option (PV × Store × Nat) :=
  match p, isS with
  | .ptr id 0 0 0, true => match st.σ id with
    | some (.it s pos) => if pos < s.size then some (.tup [.lit (.bool true), .lit (.int .i64 pos), .lit (.int .i32 (Utf8.decode s pos).1)], st.σ.put id (.it s (pos + (Utf8.decode s pos).2)), st.nx)
        else some (.tup [.lit (.bool false)], st.σ, st.nx)
    | _ => none
  | _, _ => none
theorem Sim.itSet (s : Sim C N κ st a w) {id : Nat} {x : ByteArray} {pos pos' : Nat} {L : Loc} {w' : World} (hσ : st.σ id = some (.it x pos)) (hm : κ.loc id 0 = some L) (hr : L.real = true)
    (hsz : w'.heap.size = w.heap.size) (hother : ∀ b, b ≠ L.blk → w'.heap[b]? = w.heap[b]?) (hB : SimBlk κ w' id (.it x pos')) :
    Sim C N κ { st with σ := st.σ.put id (.it x pos') } a w' ∧ (w'.os = w.os → w'.tape = w.tape → Outs w w' → Evo κ st.σ w κ (st.σ.put id (.it x pos')) w') := by
  have hat : BlkAt κ id (.it x pos) L.blk := ⟨L, hm, hr, rfl⟩
  have hrfz : ¬ κ.fz L.blk := s.nfz _ ⟨id, _, hσ, rfl, hat⟩
  have hfzw : ∀ b, κ.fz b → w'.heap[b]? = w.heap[b]? := fun b hb => hother b (fun e => hrfz (e ▸ hb))
  have hle := Kn.le.refl κ
  have hne : ∀ i B b, i ≠ id → st.σ i = some B → BlkAt κ i B b → b ≠ L.blk := by
    intro i B b hi hB h e
    subst e
    exact hi (s.dist i id B _ _ hB hσ h hat)
  have hput : ∀ i B, (st.σ.put id (.it x pos')) i = some B → (i = id ∧ B = .it x pos') ∨ (i ≠ id ∧ st.σ i = some B) := by
    intro i B h
    simp only [Store.put] at h
    split at h
    · rename_i hi; cases h; exact .inl ⟨hi, rfl⟩
    · rename_i hi; exact .inr ⟨hi, h⟩
  have hself : ∀ b, BlkAt κ id (.it x pos') b → b = L.blk := fun b hb => by
    obtain ⟨L', h1, _, h3⟩ := hb
    rw [hm] at h1; cases h1; exact h3.symm
  have hown : ∀ b, Owned κ (st.σ.put id (.it x pos')) b → Owned κ st.σ b := by
    rintro b ⟨i, B, h1, h2, h3⟩
    rcases hput i B h1 with ⟨rfl, rfl⟩ | ⟨hi, h1⟩
    · rw [hself b h3]; exact ⟨i, _, hσ, rfl, hat⟩
    · exact ⟨i, B, h1, h2, h3⟩
  refine ⟨⟨s.defers, s.size, fun t v h => ⟨(s.env t v h).1, Rel.mono hle hfzw _ _ (s.env t v h).2⟩, ?_, ?_, ?_, ?_, ?_, s.fresh, ?_, fun g cs h => ⟨(s.glob g cs h).1, RelCells.mono hle.bare hfzw _ _ _ (hfzw g (s.glob g cs h).1) (s.glob g cs h).2⟩⟩, fun ho ht hout => ⟨hle, ho, ht, hout, by rw [hsz]; exact Nat.le_refl _, ?_, fun b hb => .inl hb, ?_⟩⟩
  · intro i B h
    rcases hput i B h with ⟨rfl, rfl⟩ | ⟨hi, h⟩
    · exact ⟨(s.blk i _ hσ).1, hB⟩
    · exact ⟨(s.blk i B h).1, SimBlk.mono hle hfzw (fun b hb => hother b (hne i B b hi h hb)) (s.blk i B h).2⟩
  · intro i j B B' b hi hj h1 h2
    rcases hput i B hi with ⟨rfl, rfl⟩ | ⟨hi', hi2⟩ <;> rcases hput j B' hj with ⟨rfl, rfl⟩ | ⟨hj', hj2⟩
    · rfl
    · exact absurd (hself b h1) (hne j B' b hj' hj2 h2)
    · exact absurd (hself b h2) (hne i B b hi' hi2 h1)
    · exact s.dist i j B B' b hi2 hj2 h1 h2
  · intro b hb hfb
    exact s.nfz b (hown b hb) hfb
  · intro i B b h1 h2 h3
    rcases hput i B h1 with ⟨rfl, rfl⟩ | ⟨hi, h1⟩
    · cases h2
    · exact s.yfz i B b h1 h2 h3
  · intro b hb; rw [hsz]; exact s.fzlt b hb
  · intro i v1 sz1 es1 fz1 v h1 hlt
    rcases hput i _ h1 with ⟨rfl, h⟩ | ⟨hi, h⟩
    · cases h
    · exact s.later i v1 sz1 es1 fz1 v h hlt
  · intro b hb hn
    refine ⟨hother b (fun e => hn ⟨id, _, hσ, rfl, by rw [e]; exact hat⟩), fun ho => hn (hown b ho)⟩
  · intro i B b h1 h2
    rcases hput i B h1 with ⟨rfl, rfl⟩ | ⟨hi, h1⟩
    · rw [hself b h2]; exact .inr ⟨i, _, hσ, hat⟩
    · exact .inr ⟨i, B, h1, h2⟩
theorem Sim.itNew (s : Sim C N κ st a w) {x : ByteArray} {L : Loc} {w' : World} {κ' : Kn} (hr : w.heap.size ≤ L.blk) (hk : κ' = withLoc κ st.nx 0 L)
    (hsz : w.heap.size ≤ w'.heap.size) (hother : ∀ b, b < w.heap.size → w'.heap[b]? = w.heap[b]?) (hB : SimBlk κ' w' st.nx (.it x 0)) :
    κ.le κ' ∧ Sim C N κ' { st with σ := st.σ.put st.nx (.it x 0), nx := st.nx + 1 } a w' ∧ (w'.os = w.os → w'.tape = w.tape → Outs w w' → Evo κ st.σ w κ' (st.σ.put st.nx (.it x 0)) w') := by
  subst hk
  have hle : κ.le (withLoc κ st.nx 0 L) := withLoc_le (s.fresh _ _ (Nat.le_refl _)).1
  have hfzw : ∀ b, κ.fz b → w'.heap[b]? = w.heap[b]? := fun b hb => hother b (s.fzlt b hb)
  have hself : ∀ b, BlkAt (withLoc κ st.nx 0 L) st.nx (.it x 0) b → w.heap.size ≤ b := fun b hb => by
    obtain ⟨L', h1, _, h3⟩ := hb
    simp only [withLoc, and_self, if_true, Option.some.injEq] at h1
    subst h1; omega
  have hput : ∀ i B, (st.σ.put st.nx (.it x 0)) i = some B → (i = st.nx ∧ B = .it x 0) ∨ (i ≠ st.nx ∧ st.σ i = some B) := by
    intro i B h
    simp only [Store.put] at h
    split at h
    · rename_i hi; cases h; exact .inl ⟨hi, rfl⟩
    · rename_i hi; exact .inr ⟨hi, h⟩
  have hback : ∀ i B b, st.σ i = some B → BlkAt (withLoc κ st.nx 0 L) i B b → BlkAt κ i B b := fun i B b hB h => h.back s hle hB
  have hown : ∀ b, b < w.heap.size → Owned (withLoc κ st.nx 0 L) (st.σ.put st.nx (.it x 0)) b → Owned κ st.σ b := by
    rintro b hb ⟨i, B, h1, h2, h3⟩
    rcases hput i B h1 with ⟨rfl, rfl⟩ | ⟨hi, h1⟩
    · have := hself b h3; omega
    · exact ⟨i, B, h1, h2, hback i B b h1 h3⟩
  refine ⟨hle, ⟨s.defers, s.size, fun t v h => ⟨(s.env t v h).1, Rel.mono hle hfzw _ _ (s.env t v h).2⟩, ?_, ?_, ?_, ?_, ?_, ?_, ?_, fun g cs h => ⟨hle.fz _ (s.glob g cs h).1, RelCells.mono hle.bare hfzw _ _ _ (hfzw g (s.glob g cs h).1) (s.glob g cs h).2⟩⟩, fun ho ht hout => ⟨hle, ho, ht, hout, hsz, ?_, fun b hb => .inl hb, ?_⟩⟩
  · intro i B h
    rcases hput i B h with ⟨rfl, rfl⟩ | ⟨hi, h⟩
    · exact ⟨by simp, hB⟩
    · exact ⟨by have := (s.blk i B h).1; simp; omega, SimBlk.mono hle hfzw (fun b hb => hother b (hb.lt (s.blk i B h).2)) (s.blk i B h).2⟩
  · intro i j B B' b hi hj h1 h2
    rcases hput i B hi with ⟨rfl, rfl⟩ | ⟨hi', hi⟩ <;> rcases hput j B' hj with ⟨rfl, rfl⟩ | ⟨hj', hj⟩
    · rfl
    · exfalso
      have h3 := (hback j B' b hj h2).lt (s.blk j B' hj).2
      have := hself b h1; omega
    · exfalso
      have h3 := (hback i B b hi h1).lt (s.blk i B hi).2
      have := hself b h2; omega
    · exact s.dist i j B B' b hi hj (hback i B b hi h1) (hback j B' b hj h2)
  · intro b hb hfb
    exact s.nfz b (hown b (s.fzlt b hfb) hb) hfb
  · intro i B b h1 h2 h3
    rcases hput i B h1 with ⟨rfl, rfl⟩ | ⟨hi, h1⟩
    · cases h2
    · exact s.yfz i B b h1 h2 (hback i B b h1 h3)
  · intro b hb; exact Nat.lt_of_lt_of_le (s.fzlt b hb) hsz
  · intro i v hi
    simp only at hi
    refine ⟨?_, (s.fresh i v (by omega)).2⟩
    simp only [withLoc]
    rw [if_neg (by omega)]
    exact (s.fresh i v (by omega)).1
  · intro i v1 sz1 es1 fz1 v h1 hlt
    rcases hput i _ h1 with ⟨rfl, h⟩ | ⟨hi, h⟩
    · cases h
    · simp only [withLoc]
      rw [if_neg (by omega)]
      exact s.later i v1 sz1 es1 fz1 v h hlt
  · intro b hb hn
    exact ⟨hother b hb, fun ho => hn (hown b hb ho)⟩
  · intro i B b h1 h2
    rcases hput i B h1 with ⟨rfl, rfl⟩ | ⟨hi, h1⟩
    · exact .inl (hself b h2)
    · exact .inr ⟨i, B, h1, hback i B b h1 h2⟩
theorem Sim.swap (s : Sim C N κ st a w) {id nx' : Nat} {B B' : Blk} {w' : World} {κ' : Kn} (hσ : st.σ id = some B) (hf : B.fz = false) (hf' : B'.fz = false) (hnr : ∀ ver sz es f, B' ≠ .row ver sz es f)
    (hle : κ.le κ') (hfz : κ'.fz = κ.fz) (hm : κ'.mloc = κ.mloc) (hnx : st.nx ≤ nx') (hold : ∀ i v, i < st.nx → κ'.loc i v = κ.loc i v) (hnew : ∀ i v, nx' ≤ i → κ'.loc i v = none)
    (hsz : w.heap.size ≤ w'.heap.size) (hother : ∀ b, b < w.heap.size → ¬ BlkAt κ id B b → w'.heap[b]? = w.heap[b]?) (hself : ∀ b, BlkAt κ' id B' b → BlkAt κ id B b ∨ w.heap.size ≤ b) (hB : SimBlk κ' w' id B') :
    Sim C N κ' { st with σ := st.σ.put id B', nx := nx' } a w' ∧ (w'.os = w.os → w'.tape = w.tape → Outs w w' → Evo κ st.σ w κ' (st.σ.put id B') w') := by
  have hlt : ∀ b, BlkAt κ id B b → b < w.heap.size := fun b hb => hb.lt (s.blk id _ hσ).2
  have hnfz : ∀ b, BlkAt κ id B b → ¬ κ.fz b := fun b hb => s.nfz _ ⟨id, _, hσ, hf, hb⟩
  have hfzw : ∀ b, κ.fz b → w'.heap[b]? = w.heap[b]? := fun b hb => hother b (s.fzlt b hb) (fun e => hnfz b e hb)
  have hne : ∀ i B1 b, i ≠ id → st.σ i = some B1 → BlkAt κ i B1 b → ¬ BlkAt κ id B b := fun i B1 b hi hB1 h h2 => hi (s.dist i id B1 _ _ hB1 hσ h h2)
  have hput : ∀ i B1, (st.σ.put id B') i = some B1 → (i = id ∧ B1 = B') ∨ (i ≠ id ∧ st.σ i = some B1) := by
    intro i B1 h
    simp only [Store.put] at h
    split at h
    · rename_i hi; cases h; exact .inl ⟨hi, rfl⟩
    · rename_i hi; exact .inr ⟨hi, h⟩
  have hback : ∀ i B1 b, st.σ i = some B1 → BlkAt κ' i B1 b → BlkAt κ i B1 b := fun i B1 b hB1 h => h.back s hle hB1
  have hown : ∀ b, b < w.heap.size → Owned κ' (st.σ.put id B') b → Owned κ st.σ b := by
    rintro b hb ⟨i, B1, h1, h2, h3⟩
    rcases hput i B1 h1 with ⟨rfl, rfl⟩ | ⟨hi, h1⟩
    · rcases hself b h3 with h4 | h4
      · exact ⟨i, _, hσ, hf, h4⟩
      · omega
    · exact ⟨i, B1, h1, h2, hback i B1 b h1 h3⟩
  refine ⟨⟨s.defers, s.size, fun t v h => ⟨(s.env t v h).1, Rel.mono hle hfzw _ _ (s.env t v h).2⟩, ?_, ?_, ?_, ?_, ?_, ?_, ?_, fun g cs h => ⟨hle.fz _ (s.glob g cs h).1, RelCells.mono hle.bare hfzw _ _ _ (hfzw g (s.glob g cs h).1) (s.glob g cs h).2⟩⟩, fun ho ht hout => ⟨hle, ho, ht, hout, hsz, ?_, fun b hb => .inl (by rw [hfz] at hb; exact hb), ?_⟩⟩
  · intro i B1 h
    rcases hput i B1 h with ⟨rfl, rfl⟩ | ⟨hi, h⟩
    · exact ⟨Nat.lt_of_lt_of_le (s.blk i _ hσ).1 hnx, hB⟩
    · exact ⟨Nat.lt_of_lt_of_le (s.blk i B1 h).1 hnx, SimBlk.mono hle hfzw (fun b hb => hother b (hb.lt (s.blk i B1 h).2) (hne i B1 b hi h hb)) (s.blk i B1 h).2⟩
  · intro i j B1 B2 b hi hj h1 h2
    rcases hput i B1 hi with ⟨rfl, rfl⟩ | ⟨hi', hi2⟩ <;> rcases hput j B2 hj with ⟨rfl, rfl⟩ | ⟨hj', hj2⟩
    · rfl
    · exfalso
      have h3 := hback j B2 b hj2 h2
      rcases hself b h1 with h4 | h4
      · exact hne j B2 b hj' hj2 h3 h4
      · have := h3.lt (s.blk j B2 hj2).2; omega
    · exfalso
      have h3 := hback i B1 b hi2 h1
      rcases hself b h2 with h4 | h4
      · exact hne i B1 b hi' hi2 h3 h4
      · have := h3.lt (s.blk i B1 hi2).2; omega
    · exact s.dist i j B1 B2 b hi2 hj2 (hback i B1 b hi2 h1) (hback j B2 b hj2 h2)
  · intro b hb hfb
    rw [hfz] at hfb
    exact s.nfz b (hown b (s.fzlt b hfb) hb) hfb
  · intro i B1 b h1 h2 h3
    rcases hput i B1 h1 with ⟨rfl, rfl⟩ | ⟨hi, h1⟩
    · rw [hf'] at h2; cases h2
    · rw [hfz]; exact s.yfz i B1 b h1 h2 (hback i B1 b h1 h3)
  · intro b hb
    rw [hfz] at hb
    exact Nat.lt_of_lt_of_le (s.fzlt b hb) hsz
  · intro i v hi
    refine ⟨hnew i v hi, ?_⟩
    rw [hm]; exact (s.fresh i v (Nat.le_trans hnx hi)).2
  · intro i v1 sz1 es1 fz1 v h1 hlt
    rcases hput i _ h1 with ⟨rfl, h⟩ | ⟨hi, h⟩
    · exact absurd h.symm (hnr _ _ _ _)
    · rw [hold i v (s.blk i _ h).1]; exact s.later i v1 sz1 es1 fz1 v h hlt
  · intro b hb hn
    refine ⟨hother b hb (fun e => hn ⟨id, _, hσ, hf, e⟩), fun ho => hn (hown b hb ho)⟩
  · intro i B1 b h1 h2
    rcases hput i B1 h1 with ⟨rfl, rfl⟩ | ⟨hi, h1⟩
    · rcases hself b h2 with h4 | h4
      · exact .inr ⟨i, _, hσ, h4⟩
      · exact .inl h4
    · exact .inr ⟨i, B1, h1, hback i B1 b h1 h2⟩
theorem Sim.gone (s : Sim C N κ st a w) {id : Nat} {B : Blk} {w' : World} (hσ : st.σ id = some B) (hf : B.fz = false)
    (hsz : w.heap.size ≤ w'.heap.size) (hother : ∀ b, b < w.heap.size → ¬ BlkAt κ id B b → w'.heap[b]? = w.heap[b]?) :
    Sim C N κ { st with σ := fun j => if j = id then none else st.σ j } a w' ∧ (w'.os = w.os → w'.tape = w.tape → Outs w w' → Evo κ st.σ w κ (fun j => if j = id then none else st.σ j) w') := by
  have hle := Kn.le.refl κ
  have hnfz : ∀ b, BlkAt κ id B b → ¬ κ.fz b := fun b hb => s.nfz _ ⟨id, _, hσ, hf, hb⟩
  have hfzw : ∀ b, κ.fz b → w'.heap[b]? = w.heap[b]? := fun b hb => hother b (s.fzlt b hb) (fun e => hnfz b e hb)
  have hne : ∀ i B1 b, i ≠ id → st.σ i = some B1 → BlkAt κ i B1 b → ¬ BlkAt κ id B b := fun i B1 b hi hB1 h h2 => hi (s.dist i id B1 _ _ hB1 hσ h h2)
  have hput : ∀ i B1, (if i = id then none else st.σ i) = some B1 → i ≠ id ∧ st.σ i = some B1 := by
    intro i B1 h
    split at h
    · cases h
    · rename_i hi; exact ⟨hi, h⟩
  have hown : ∀ b, Owned κ (fun j => if j = id then none else st.σ j) b → Owned κ st.σ b := by
    rintro b ⟨i, B1, h1, h2, h3⟩
    exact ⟨i, B1, (hput i B1 h1).2, h2, h3⟩
  refine ⟨⟨s.defers, s.size, fun t v h => ⟨(s.env t v h).1, Rel.mono hle hfzw _ _ (s.env t v h).2⟩, ?_, ?_, ?_, ?_, ?_, s.fresh, ?_, fun g cs h => ⟨(s.glob g cs h).1, RelCells.mono hle.bare hfzw _ _ _ (hfzw g (s.glob g cs h).1) (s.glob g cs h).2⟩⟩, fun ho ht hout => ⟨hle, ho, ht, hout, hsz, ?_, fun b hb => .inl hb, ?_⟩⟩
  · intro i B1 h
    obtain ⟨hi, h⟩ := hput i B1 h
    exact ⟨(s.blk i B1 h).1, SimBlk.mono hle hfzw (fun b hb => hother b (hb.lt (s.blk i B1 h).2) (hne i B1 b hi h hb)) (s.blk i B1 h).2⟩
  · intro i j B1 B2 b hi hj h1 h2
    exact s.dist i j B1 B2 b (hput i B1 hi).2 (hput j B2 hj).2 h1 h2
  · intro b hb hfb
    exact s.nfz b (hown b hb) hfb
  · intro i B1 b h1 h2 h3
    exact s.yfz i B1 b (hput i B1 h1).2 h2 h3
  · intro b hb
    exact Nat.lt_of_lt_of_le (s.fzlt b hb) hsz
  · intro i v1 sz1 es1 fz1 v h1 hlt
    exact s.later i v1 sz1 es1 fz1 v (hput i _ h1).2 hlt
  · intro b hb hn
    refine ⟨hother b hb (fun e => hn ⟨id, _, hσ, hf, e⟩), fun ho => hn (hown b ho)⟩
  · intro i B1 b h1 h2
    exact .inr ⟨i, B1, (hput i B1 h1).2, h2⟩
theorem Sim.bldNew (s : Sim C N κ st a w) {T E : TypeId} {L : Loc} {w' : World} {κ' : Kn} (hr : w.heap.size ≤ L.blk) (hk : κ' = withLoc κ st.nx 0 L)
    (hsz : w.heap.size ≤ w'.heap.size) (hother : ∀ b, b < w.heap.size → w'.heap[b]? = w.heap[b]?) (hB : SimBlk κ' w' st.nx (.bld st.nx T E ⟨#[]⟩)) :
    κ.le κ' ∧ Sim C N κ' { st with σ := st.σ.put st.nx (.bld st.nx T E ⟨#[]⟩), nx := st.nx + 1 } a w' ∧ (w'.os = w.os → w'.tape = w.tape → Outs w w' → Evo κ st.σ w κ' (st.σ.put st.nx (.bld st.nx T E ⟨#[]⟩)) w') := by
  subst hk
  have hle : κ.le (withLoc κ st.nx 0 L) := withLoc_le (s.fresh _ _ (Nat.le_refl _)).1
  have hfzw : ∀ b, κ.fz b → w'.heap[b]? = w.heap[b]? := fun b hb => hother b (s.fzlt b hb)
  have hself : ∀ b, BlkAt (withLoc κ st.nx 0 L) st.nx (.bld st.nx T E ⟨#[]⟩) b → w.heap.size ≤ b := fun b hb => by
    obtain ⟨j, L', h0, h1, _, h3⟩ := hb
    have hj : j = st.nx := h0.elim id id
    subst hj
    simp only [withLoc, and_self, if_true, Option.some.injEq] at h1
    subst h1; omega
  have hput : ∀ i B, (st.σ.put st.nx (.bld st.nx T E ⟨#[]⟩)) i = some B → (i = st.nx ∧ B = .bld st.nx T E ⟨#[]⟩) ∨ (i ≠ st.nx ∧ st.σ i = some B) := by
    intro i B h
    simp only [Store.put] at h
    split at h
    · rename_i hi; cases h; exact .inl ⟨hi, rfl⟩
    · rename_i hi; exact .inr ⟨hi, h⟩
  have hback : ∀ i B b, st.σ i = some B → BlkAt (withLoc κ st.nx 0 L) i B b → BlkAt κ i B b := fun i B b hB h => h.back s hle hB
  have hown : ∀ b, b < w.heap.size → Owned (withLoc κ st.nx 0 L) (st.σ.put st.nx (.bld st.nx T E ⟨#[]⟩)) b → Owned κ st.σ b := by
    rintro b hb ⟨i, B, h1, h2, h3⟩
    rcases hput i B h1 with ⟨rfl, rfl⟩ | ⟨hi, h1⟩
    · have := hself b h3; omega
    · exact ⟨i, B, h1, h2, hback i B b h1 h3⟩
  refine ⟨hle, ⟨s.defers, s.size, fun t v h => ⟨(s.env t v h).1, Rel.mono hle hfzw _ _ (s.env t v h).2⟩, ?_, ?_, ?_, ?_, ?_, ?_, ?_, fun g cs h => ⟨hle.fz _ (s.glob g cs h).1, RelCells.mono hle.bare hfzw _ _ _ (hfzw g (s.glob g cs h).1) (s.glob g cs h).2⟩⟩, fun ho ht hout => ⟨hle, ho, ht, hout, hsz, ?_, fun b hb => .inl hb, ?_⟩⟩
  · intro i B h
    rcases hput i B h with ⟨rfl, rfl⟩ | ⟨hi, h⟩
    · exact ⟨by simp, hB⟩
    · exact ⟨by have := (s.blk i B h).1; simp; omega, SimBlk.mono hle hfzw (fun b hb => hother b (hb.lt (s.blk i B h).2)) (s.blk i B h).2⟩
  · intro i j B B' b hi hj h1 h2
    rcases hput i B hi with ⟨rfl, rfl⟩ | ⟨hi', hi⟩ <;> rcases hput j B' hj with ⟨rfl, rfl⟩ | ⟨hj', hj⟩
    · rfl
    · exfalso
      have h3 := (hback j B' b hj h2).lt (s.blk j B' hj).2
      have := hself b h1; omega
    · exfalso
      have h3 := (hback i B b hi h1).lt (s.blk i B hi).2
      have := hself b h2; omega
    · exact s.dist i j B B' b hi hj (hback i B b hi h1) (hback j B' b hj h2)
  · intro b hb hfb
    exact s.nfz b (hown b (s.fzlt b hfb) hb) hfb
  · intro i B b h1 h2 h3
    rcases hput i B h1 with ⟨rfl, rfl⟩ | ⟨hi, h1⟩
    · cases h2
    · exact s.yfz i B b h1 h2 (hback i B b h1 h3)
  · intro b hb; exact Nat.lt_of_lt_of_le (s.fzlt b hb) hsz
  · intro i v hi
    simp only at hi
    refine ⟨?_, (s.fresh i v (by omega)).2⟩
    simp only [withLoc]
    rw [if_neg (by omega)]
    exact (s.fresh i v (by omega)).1
  · intro i v1 sz1 es1 fz1 v h1 hlt
    rcases hput i _ h1 with ⟨rfl, h⟩ | ⟨hi, h⟩
    · cases h
    · simp only [withLoc]
      rw [if_neg (by omega)]
      exact s.later i v1 sz1 es1 fz1 v h hlt
  · intro b hb hn
    exact ⟨hother b hb, fun ho => hn (hown b hb ho)⟩
  · intro i B b h1 h2
    rcases hput i B h1 with ⟨rfl, rfl⟩ | ⟨hi, h1⟩
    · exact .inl (hself b h2)
    · exact .inr ⟨i, B, h1, hback i B b h1 h2⟩
theorem evAllocB_sound (s : Sim C N κ st a w) {T E : TypeId} (h : C.B T = some E) :
    ∃ z w' κ', (Instr.alloc T true (.tuple #[])).run C.P w = .ok (.pointer (some z)) w' ∧ Rel κ' w' (.ptr st.nx 0 0 0) (.pointer (some z)) ∧ Sim C N κ' { st with σ := st.σ.put st.nx (.bld st.nx T E ⟨#[]⟩), nx := st.nx + 1 } a w' ∧ Evo κ st.σ w κ' (st.σ.put st.nx (.bld st.nx T E ⟨#[]⟩)) w' := by
  have ha := MapKept.heap_alloc w (.cells #[.pointer none, .slice none 0 0] T)
  obtain ⟨h1, h2, h3⟩ := s.bldNew (T := T) (E := E) (L := ⟨true, w.heap.size, 0, 2, 0, 0⟩) (w' := w.alloc (.cells #[.pointer none, .slice none 0 0] T)) (κ' := withLoc κ st.nx 0 ⟨true, w.heap.size, 0, 2, 0, 0⟩) (Nat.le_refl _) rfl
    (by show w.heap.size ≤ (w.heap.push _).size; rw [Array.size_push]; omega) ha.2 ⟨⟨true, w.heap.size, 0, 2, 0, 0⟩, _, _, by simp [withLoc], rfl, rfl, ha.1, .inl rfl, .inl ⟨rfl, rfl, rfl⟩⟩
  refine ⟨⟨w.heap.size, 0, none⟩, _, _, ?_, ?_, h2, h3 rfl rfl ⟨rfl, Nat.le_refl _⟩⟩
  · simp [Instr.alloc, C.hB T E h, newVar, newRow, Value.cells]
  · simp only [Rel]
    exact ⟨⟨true, w.heap.size, 0, 2, 0, 0⟩, by simp [withLoc], rfl, rfl⟩
theorem evRange_sound (s : Sim C N κ st a w) {t : TypeId} {p r : PV} {σ' : Store} {nx' : Nat} {u : Value} (h : evRange C st t p = some (r, σ', nx')) (hp : Rel κ w p u) :
    ∃ z w' κ', (Instr.range t u).run C.P w = .ok z w' ∧ Rel κ' w' r z ∧ Sim C N κ' { st with σ := σ', nx := nx' } a w' ∧ Evo κ st.σ w κ' σ' w' := by
  unfold evRange at h
  split at h
  · rename_i sz by_ x ht
    cases h
    simp only [Rel] at hp
    obtain ⟨rfl, _⟩ := hp
    have ha := MapKept.heap_alloc w (.stringIter x 0)
    obtain ⟨h1, h2, h3⟩ := s.itNew (x := x) (L := ⟨true, w.heap.size, 0, 1, 0, 0⟩) (w' := w.alloc (.stringIter x 0)) (κ' := withLoc κ st.nx 0 ⟨true, w.heap.size, 0, 1, 0, 0⟩) (Nat.le_refl _) rfl
      (by show w.heap.size ≤ (w.heap.push (.stringIter x 0)).size; rw [Array.size_push]; omega) ha.2 ⟨⟨true, w.heap.size, 0, 1, 0, 0⟩, by simp [withLoc], rfl, rfl, ha.1⟩
    refine ⟨.pointer (some ⟨w.heap.size, 0, none⟩), _, _, ?_, ?_, h2, h3 rfl rfl ⟨rfl, Nat.le_refl _⟩⟩
    · simp only [Instr.range, Sem.run_bind, run_underlying ht, Result.andThen_ok, Sem.run_pure]
      rfl
    · simp only [Rel]
      exact ⟨⟨true, w.heap.size, 0, 1, 0, 0⟩, by simp [withLoc], rfl, rfl⟩
  · cases h
theorem evNext_sound (s : Sim C N κ st a w) {ty : TypeId} {p r : PV} {b : Bool} {σ' : Store} {nx' : Nat} {u : Value} (h : evNext st p b = some (r, σ', nx')) (hp : Rel κ w p u) :
    ∃ z w', (Instr.next u b ty).run C.P w = .ok z w' ∧ Rel κ w' r z ∧ Sim C N κ { st with σ := σ', nx := nx' } a w' ∧ Evo κ st.σ w κ σ' w' := by
  unfold evNext at h
  split at h
  · rename_i id
    split at h
    · rename_i x pos hσ
      simp only [Rel] at hp
      obtain ⟨L, hL, hr, rfl⟩ := hp
      obtain ⟨_, L', g1, _, g2, g3⟩ := s.blk id _ hσ
      rw [hL] at g1; cases g1
      have hpt : (⟨L.blk, L.base + 0 * L.sz + 0, none⟩ : Addr) = ⟨L.blk, 0, none⟩ := by simp [g2]
      rw [hpt]
      have hget : ∀ P : Program, (getObj L.blk).run P w = .ok (.stringIter x pos) w := fun P => by simp [getObj, Sem.run, g3]
      have hset : ∀ (P : Program) (o : Obj), (setObj L.blk o).run P w = .ok () { w with heap := w.heap.setIfInBounds L.blk o } := fun P o => by simp [setObj, Sem.run, g3]
      split at h
      · rename_i hlt
        cases h
        have hs := MapKept.heap_set (o' := .stringIter x (pos + (Utf8.decode x pos).2)) g3
        have := s.itSet (pos' := pos + (Utf8.decode x pos).2) (w' := { w with heap := w.heap.setIfInBounds L.blk (.stringIter x (pos + (Utf8.decode x pos).2)) }) hσ hL hr (by simp) hs.2 ⟨L, hL, hr, g2, hs.1⟩
        refine ⟨.tuple #[.bool true, goInt pos, .int .i32 (Utf8.decode x pos).1], _, ?_, ?_, this.1, this.2 rfl rfl ⟨rfl, Nat.le_refl _⟩⟩
        · simp only [Instr.next, Sem.run_bind, hget, Result.andThen_ok, hlt, if_true, hset, Sem.run_pure]
        · simp [Rel, RelList, ground, goInt]
      · rename_i hlt
        cases h
        refine ⟨.tuple #[.bool false], w, ?_, ?_, s, .refl _ _ _⟩
        · simp only [Instr.next, Sem.run_bind, hget, Result.andThen_ok, hlt, if_false, Sem.run_pure]
        · simp [Rel, RelList, ground]
    · cases h
  · cases h
end
end Go.Ab
end
