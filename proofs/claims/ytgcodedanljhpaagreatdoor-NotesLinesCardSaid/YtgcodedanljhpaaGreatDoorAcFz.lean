/- Abstract values: a state told in other words; rows of own memory that nobody writes from now on. -/
import Derived.Test.YtgcodedanljhpaaGreatDoorAcNil
set_option linter.unusedSimpArgs false
set_option linter.unusedVariables false
namespace Go.Ab
open Go
def Cvt (C : Ctx) (N : Nat) (st st' : St) : Prop := ∀ κ a w, Sim C N κ st a w → ∃ κ', Sim C N κ' st' a w ∧ Evo κ st.σ w κ' st'.σ w
theorem Cvt.weak {C : Ctx} {N : Nat} {st st' : St} (h : Weak st st') : Cvt C N st st' := fun κ _ w s => ⟨κ, s.weak h, Evo.weak κ w h⟩
theorem Cvt.refl {C : Ctx} {N : Nat} (st : St) : Cvt C N st st := .weak (.refl st)
theorem Cvt.trans {C : Ctx} {N : Nat} {st st1 st2 : St} (h : Cvt C N st st1) (k : Cvt C N st1 st2) : Cvt C N st st2 := fun κ a w s => by
  obtain ⟨κ1, s1, e1⟩ := h κ a w s
  obtain ⟨κ2, s2, e2⟩ := k κ1 a w s1
  exact ⟨κ2, s2, e1.trans e2⟩
theorem AbsW.cvt {C : Ctx} {N : Nat} {c : Code} {st st' : St} {Q : Exit → St → Prop} (hc : Cvt C N st st') (h : AbsW C N c st' Q) : AbsW C N c st Q := fun rd mm hr κ a w s => by
  obtain ⟨κ1, s1, e1⟩ := hc κ a w s
  exact wpIn_mono (h rd mm hr κ1 a w s1) fun _ _ _ ⟨κ', st'', q, r, ev, df⟩ => ⟨κ', st'', q, r, e1.trans ev, df⟩
theorem AbsW.loopC {C : Ctx} {N : Nat} {st : St} {Q : Exit → St → Prop} {c : Code} (I : Nat → St → Prop) (m : Nat) (h0 : I m st)
    (hs : ∀ m s, I m s → AbsW C N c s (thenQ (fun s' => ∃ m' s'', m' < m ∧ Cvt C N s' s'' ∧ I m' s'') Q)) : AbsW C N (.loop c) st Q :=
  .loop (fun m s => ∃ s0, Cvt C N s s0 ∧ I m s0) m ⟨st, .refl st, h0⟩ fun m s ⟨s0, hc, hI⟩ => .cvt hc ((hs m s0 hI).mono fun e s' hq => by
    cases e <;> first | exact hq | (obtain ⟨m', s'', hm, hc', hI'⟩ := hq; exact ⟨m', s', hm, .refl _, s'', hc', hI'⟩))
theorem LoopQ.ruleC {C : Ctx} {N : Nat} {Q : Exit → St → Prop} {c : Code} {st : St} (I : Nat → St → Prop) (m : Nat) (st0 : St) (hw : Cvt C N st st0) (h0 : I m st0)
    (hs : ∀ m s, I m s → vc C N c s (thenQ (fun s' => ∃ m' s'', m' < m ∧ Cvt C N s' s'' ∧ I m' s'') Q)) : LoopQ C N c st Q := fun ho =>
  .cvt hw (.loopC I m h0 fun m s hI => vc_sound c s _ ho (hs m s hI))
def fzV (i ver : Nat) (es : List (List PV)) : PV → PV
  | .own i' ver' off len clip => if i' = i ∧ ver' = ver ∧ off + len ≤ es.length then .imm ((es.drop off).take len) clip else .own i' ver' off len clip
  | p => p
def fzB (i ver : Nat) (es : List (List PV)) : Blk → Blk
  | .row v sz rows f => .row v sz (rows.map fun r => r.map (fzV i ver es)) f
  | .map kvs c f => .map kvs c f
  | .it x p => .it x p
  | .bld r T E x => .bld r T E x
def St.freeze (st : St) (i ver : Nat) (es : List (List PV)) : St := ⟨fun t => (st.env t).map (fzV i ver es), fun j => if j = i then none else (st.σ j).map (fzB i ver es), st.nx⟩
theorem fzV_one {i ver : Nat} {es : List (List PV)} {p : PV} (h : p.one = true) : (fzV i ver es p).one = true := by
  cases p <;> try exact h
  simp only [fzV]; split <;> rfl
section
variable {C : Ctx} {N : Nat} {κ : Kn} {st : St} {a : Act} {w : World}
theorem fzV_rel (s : Sim C N κ st a w) {i ver sz : Nat} {es : List (List PV)} {f : Bool} (hσ : st.σ i = some (.row ver sz es f)) (hf : es.all (fun e => e.all flat) = true) {κ' : Kn} (hle : κ.le κ')
    (hfz : ∀ b, BlkAt κ i (.row ver sz es f) b → κ'.fz b) {p : PV} {v : Value} (h : Rel κ w p v) : Rel κ' w (fzV i ver es p) v := by
  by_cases hp : ∃ off len clip, p = .own i ver off len clip ∧ off + len ≤ es.length
  · obtain ⟨off, len, clip, rfl, hl⟩ := hp
    simp only [fzV, and_self, true_and]
    rw [if_pos hl]
    simp only [Rel] at h ⊢
    obtain ⟨A, cap, rfl, h1, h2, L, h3, h4⟩ := h
    obtain ⟨_, L', k1, k2, k3, k4⟩ := s.blk i _ hσ
    rw [h3] at k1; cases k1
    have hdl : ((es.drop off).take len).length = len := by simp; omega
    refine ⟨A, len, cap, rfl, hdl.symm, h1, h2, ?_⟩
    rcases h4 with ⟨q1, rfl, q2, q3⟩ | ⟨q1, q2⟩
    · rcases k4 with ⟨_, _, _, k5⟩ | ⟨k5, _⟩
      case inr => rw [q1] at k5; cases k5
      refine .inr ⟨L.blk, L.base + off * L.sz, sz, rfl, hfz _ ⟨L, h3, q1, rfl⟩, ?_⟩
      rw [k2]
      have := relRows_take len _ _ (relRows_drop off _ _ k5)
      exact relRows_flat (κ := κ) (κ' := κ'.bare) hle.bare _ _ (all_take2 hf) this
    · exact .inl (List.eq_nil_of_length_eq_zero (by omega))
  · have e : fzV i ver es p = p := by
      cases p <;> try rfl
      simp only [fzV]
      rw [if_neg]
      rintro ⟨rfl, rfl, hl⟩
      exact hp ⟨_, _, _, rfl, hl⟩
    rw [e]
    exact Rel.mono hle (fun _ _ => rfl) p v h
theorem fzV_cells (s : Sim C N κ st a w) {i ver sz : Nat} {es : List (List PV)} {f : Bool} (hσ : st.σ i = some (.row ver sz es f)) (hf : es.all (fun e => e.all flat) = true) {κ' : Kn} (hle : κ.le κ')
    (hfz : ∀ b, BlkAt κ i (.row ver sz es f) b → κ'.fz b) {b : Nat} : ∀ (cs : List PV) (o : Nat), RelCells κ w b o cs → RelCells κ' w b o (cs.map (fzV i ver es))
  | [], o, _ => by simp [RelCells]
  | c :: cs, o, h => by
    simp only [List.map_cons, RelCells] at h ⊢
    obtain ⟨⟨v, h1, h2, h3⟩, h4⟩ := h
    exact ⟨⟨v, h1, fzV_one h2, fzV_rel s hσ hf hle hfz h3⟩, fzV_cells s hσ hf hle hfz cs (o + 1) h4⟩
theorem fzV_rows (s : Sim C N κ st a w) {i ver sz : Nat} {es : List (List PV)} {f : Bool} (hσ : st.σ i = some (.row ver sz es f)) (hf : es.all (fun e => e.all flat) = true) {κ' : Kn} (hle : κ.le κ')
    (hfz : ∀ b, BlkAt κ i (.row ver sz es f) b → κ'.fz b) {b z : Nat} : ∀ (rs : List (List PV)) (o : Nat), RelRows κ w b o z rs → RelRows κ' w b o z (rs.map fun r => r.map (fzV i ver es))
  | [], o, _ => by simp [RelRows]
  | r :: rs, o, h => by
    simp only [List.map_cons, RelRows] at h ⊢
    exact ⟨by simpa using h.1, fzV_cells s hσ hf hle hfz r o h.2.1, fzV_rows s hσ hf hle hfz rs (o + z) h.2.2⟩
end
theorem freeze_cvt {C : Ctx} {N : Nat} {st : St} {i ver sz : Nat} {es : List (List PV)} {f : Bool} (hσ : st.σ i = some (.row ver sz es f)) (hf : es.all (fun e => e.all flat) = true) : Cvt C N st (st.freeze i ver es) := by
  intro κ a w s
  let κ' : Kn := { κ with fz := fun b => κ.fz b ∨ BlkAt κ i (.row ver sz es f) b }
  have hle : κ.le κ' := ⟨fun _ _ _ h => h, fun _ _ h => h, fun _ h => .inl h⟩
  have hfz : ∀ b, BlkAt κ i (.row ver sz es f) b → κ'.fz b := fun _ h => .inr h
  have hat : ∀ j B b, BlkAt κ' j B b ↔ BlkAt κ j B b := fun j B b => by cases B <;> exact Iff.rfl
  have hatB : ∀ j B b, BlkAt κ j (fzB i ver es B) b ↔ BlkAt κ j B b := fun j B b => by cases B <;> exact Iff.rfl
  have hput : ∀ j B, (st.freeze i ver es).σ j = some B → j ≠ i ∧ ∃ B', st.σ j = some B' ∧ B = fzB i ver es B' := by
    intro j B h
    simp only [St.freeze] at h
    split at h
    · cases h
    · rename_i hj
      obtain ⟨B', h1, h2⟩ := Option.map_eq_some_iff.1 h
      exact ⟨hj, B', h1, h2.symm⟩
  have hfB : ∀ B, (fzB i ver es B).fz = B.fz := fun B => by cases B <;> rfl
  refine ⟨κ', ⟨s.defers, s.size, fun t v h => ?_, fun j B h => ?_, fun j k B B' b hj hk h1 h2 => ?_, ?_, fun j B b h1 h2 h3 => ?_, fun b hb => ?_, s.fresh, fun j v1 sz1 es1 fz1 v h1 hlt => ?_, fun g cs h => ?_⟩,
    ⟨hle, rfl, rfl, .refl _, Nat.le_refl _, fun b hb hn => ⟨rfl, ?_⟩, fun b hb => ?_, fun j B b h1 h2 => ?_⟩⟩
  · obtain ⟨p, h1, rfl⟩ := Option.map_eq_some_iff.1 h
    exact ⟨(s.env t p h1).1, fzV_rel s hσ hf hle hfz (s.env t p h1).2⟩
  · obtain ⟨hj, B', h1, rfl⟩ := hput j B h
    refine ⟨(s.blk j B' h1).1, ?_⟩
    have hb := (s.blk j B' h1).2
    cases B' with
    | row v1 z1 rs f1 =>
      obtain ⟨L, k1, k2, k3, k4⟩ := hb
      refine ⟨L, k1, k2, by simp [k3], k4.imp (fun ⟨g1, g2, g3, g4⟩ => ⟨g1, g2, by simpa using g3, fzV_rows s hσ hf hle hfz _ _ g4⟩) fun ⟨g1, g2⟩ => ⟨g1, by simp [g2]⟩⟩
    | map kvs c f1 =>
      obtain ⟨r, ents, k1, k2, k3⟩ := hb
      exact ⟨r, ents, k1, k2, RelEnts.mono hle (fun _ _ => rfl) _ _ k3⟩
    | it x p => exact hb
    | bld r T E x => exact hb
  · obtain ⟨hj', Bj, m1, rfl⟩ := hput j B hj
    obtain ⟨hk', Bk, n1, rfl⟩ := hput k B' hk
    exact s.dist j k Bj Bk b m1 n1 ((hatB _ _ _).1 ((hat _ _ _).1 h1)) ((hatB _ _ _).1 ((hat _ _ _).1 h2))
  · rintro b ⟨j, B, h1, h2, h3⟩ hb
    obtain ⟨hj, B', m1, rfl⟩ := hput j B h1
    rw [hfB] at h2
    have h4 := (hatB _ _ _).1 ((hat _ _ _).1 h3)
    rcases hb with hb | hb
    · exact s.nfz b ⟨j, B', m1, h2, h4⟩ hb
    · exact hj (s.dist j i B' _ b m1 hσ h4 hb)
  · obtain ⟨hj, B', m1, rfl⟩ := hput j B h1
    rw [hfB] at h2
    exact .inl (s.yfz j B' b m1 h2 ((hatB _ _ _).1 ((hat _ _ _).1 h3)))
  · rcases hb with hb | hb
    · exact s.fzlt b hb
    · exact hb.lt (s.blk i _ hσ).2
  · obtain ⟨hj, B', m1, hB⟩ := hput j _ h1
    cases B' with
    | row v2 z2 rs f2 => simp only [fzB, Blk.row.injEq] at hB; obtain ⟨rfl, rfl, _, rfl⟩ := hB; exact s.later j _ _ rs _ v m1 hlt
    | map kvs c f1 => simp [fzB] at hB
    | it x p => simp [fzB] at hB
    | bld r T E x => simp [fzB] at hB
  · exact ⟨hle.fz _ (s.glob g cs h).1, RelCells.mono hle.bare (fun _ _ => rfl) _ _ _ rfl (s.glob g cs h).2⟩
  · rintro ⟨j, B, h1, h2, h3⟩
    obtain ⟨hj, B', m1, rfl⟩ := hput j B h1
    rw [hfB] at h2
    exact hn ⟨j, B', m1, h2, (hatB _ _ _).1 ((hat _ _ _).1 h3)⟩
  · rcases hb with hb | hb
    · exact .inl hb
    · exact .inr (.inr ⟨i, _, hσ, hb⟩)
  · obtain ⟨hj, B', m1, rfl⟩ := hput j B h1
    exact .inr ⟨j, B', m1, (hatB _ _ _).1 ((hat _ _ _).1 h2)⟩
def ovS : List (Nat × Blk) → Store → Store
  | [], σ => σ
  | (i, B) :: r, σ => fun j => if j = i then some B else ovS r σ j
theorem ovR : (∀ {σ : Store}, ovS [] σ = σ) ∧ (∀ {i B r} {σ : Store} {j}, ovS ((i, B) :: r) σ j = if j = i then some B else ovS r σ j) := ⟨rfl, rfl⟩
def geL (n0 : Nat) : List (Nat × Blk) → Prop
  | [] => True
  | (i, _) :: r => n0 ≤ i ∧ geL n0 r
theorem Agr.ov {n0 : Nat} {σ : Store} : ∀ {ls : List (Nat × Blk)}, geL n0 ls → Agr n0 σ (ovS ls σ)
  | [], _ => fun _ _ => rfl
  | (i, B) :: r, h => fun j hj => by
    simp only [ovS]
    rw [if_neg (by have := h.1; omega)]
    exact Agr.ov h.2 j hj
theorem ovS_at {σ : Store} {j : Nat} {B : Blk} : ∀ {ls : List (Nat × Blk)}, ovS ls σ j = some B → mkS ls j = some B ∨ σ j = some B
  | [], h => .inr h
  | (i, B') :: r, h => by
    simp only [ovS] at h
    simp only [mkS]
    split at h
    · rename_i e; rw [if_pos e]; exact .inl h
    · rename_i e; rw [if_neg e]; exact ovS_at h
theorem weak_ofV {st : St} {le : List (Nat × PV)} {ls : List (Nat × Blk)} {σ : Store} {n0 nx : Nat} (hf : ∀ j, n0 ≤ j → σ j = none) (h1 : allE st.env le) (h2 : allS st.σ ls) (h3 : Agr n0 σ st.σ) (h4 : st.nx ≤ nx) : Weak st ⟨mkE le, ovS ls σ, nx⟩ := by
  refine ⟨allE_spec le h1, fun j B' h => ?_, h4⟩
  rcases ovS_at h with h | h
  · exact allS_spec ls h2 j B' h
  · rcases Nat.lt_or_ge j n0 with hj | hj
    · rw [h3 j hj]; exact h
    · rw [hf j hj] at h; cases h
end Go.Ab
