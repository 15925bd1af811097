/- Abstract values: rows of own memory that are written over: 'clear'. -/
import Derived.Test.YtgcodedanljhpaaDoorAcIt
set_option linter.unusedSimpArgs false
set_option linter.unusedVariables false
namespace Go.Ab
open Go
def over {α : Type} (es : List α) (off : Nat) (xs : List α) : List α := es.take off ++ xs ++ es.drop (off + xs.length)
def evOver (st : St) (id ver off : Nat) (sz : Nat) (xs : List (List PV)) : Option Store :=
  match st.σ id with
  | some (.row ver' sz' es false) => if ver = ver' ∧ sz = sz' ∧ off + xs.length ≤ es.length then some (st.σ.put id (.row ver' sz' (over es off xs) false)) else none
  | _ => none
def evClear (C : Ctx) (st : St) (t : TypeId) (p : PV) : Option (PV × Store × Nat) :=
  match ti C.P t with
  | some ⟨.slice elem, _, _⟩ => match ti C.P elem with
    | some i => match zcells C elem i, p with
      | some z, .own id ver off len _ => match evOver st id ver off i.size (List.replicate len z) with
        | some σ' => some (.tup [], σ', st.nx)
        | none => none
      | some _, .lit (.slice none 0 0) => some (.tup [], st.σ, st.nx)
      | _, _ => none
    | none => none
  | _ => none
section
variable {C : Ctx} {N : Nat} {κ : Kn} {st : St} {a : Act} {w : World}
theorem evOver_sound (s : Sim C N κ st a w) {id ver off sz : Nat} {xs : List (List PV)} {σ' : Store} (h : evOver st id ver off sz xs = some σ') {news : List Value}
    (hr : RelList κ w xs.flatten news) (ho : xs.flatten.all PV.one = true) (hl : ∀ e ∈ xs, e.length = sz) {L : Loc} (hL : κ.loc id ver = some L) (hreal : L.real = true) :
    ∃ w', (storeCells ⟨L.blk, L.base + off * L.sz, none⟩ news).run C.P w = .ok () w' ∧ Sim C N κ { st with σ := σ' } a w' ∧ Evo κ st.σ w κ σ' w' := by
  unfold evOver at h
  split at h
  · rename_i ver' sz' es hσ
    split at h
    · rename_i hg
      obtain ⟨rfl, rfl, g3⟩ := hg
      cases h
      obtain ⟨_, L', k1, k2, k3, k4⟩ := s.blk id _ hσ
      rw [hL] at k1; cases k1
      rcases k4 with ⟨_, ⟨c, elem, fr, k4, k5, k6⟩, k7, k8⟩ | ⟨k4, _⟩
      case inr => rw [hreal] at k4; cases k4
      have hmem : ∀ x ∈ es, x.length = sz := ((relRows_iff _ _).1 k8).1
      have hfull := ((relRows_iff _ _).1 k8).2
      have hnl : news.length = xs.length * sz := by rw [relList_length _ _ hr, flatten_length _ hl]
      have hplace : L.base + off * L.sz + news.length ≤ L.base + es.length * sz := by
        rw [k2, hnl]
        have : (off + xs.length) * sz ≤ es.length * sz := Nat.mul_le_mul_right _ g3
        rw [Nat.add_mul] at this
        omega
      have hrun := run_storeCells (P := C.P) (o := L.base + off * L.sz) news 0 c w k4 (by rw [k5]; exact k6) (by rw [k5]; omega) (relList_ones _ _ hr ho)
      simp only [Nat.add_zero] at hrun
      have hblt : L.blk < w.heap.size := (Array.getElem?_eq_some_iff.1 k4).1
      have hnf : ∀ b, κ.fz b → b ≠ L.blk := fun b hb e => s.nfz L.blk ⟨id, _, hσ, rfl, L, hL, hreal, rfl⟩ (e ▸ hb)
      have hfzw : ∀ b, κ.fz b → (setRow w L.blk (putAllV c.toList (L.base + off * L.sz) news) elem fr).heap[b]? = w.heap[b]? := fun b hb => setRow_heap_ne (hnf b hb)
      have hcellw : ∀ k, w.cell? ⟨L.blk, k, none⟩ = c.toList[k]? := fun k => by rw [cell_row k4]; simp
      have hcellw' : ∀ k, (setRow w L.blk (putAllV c.toList (L.base + off * L.sz) news) elem fr).cell? ⟨L.blk, k, none⟩ = (putAllV c.toList (L.base + off * L.sz) news)[k]? := fun k => by
        rw [cell_row (setRow_heap_self hblt)]; simp
      have htk : (es.take off).flatten.length = off * sz := by
        rw [flatten_length _ (fun x hx => hmem x (List.mem_of_mem_take hx))]; simp [Nat.min_eq_left (show off ≤ es.length by omega)]
      have hmd : ((es.drop off).take xs.length).flatten.length = xs.length * sz := by
        rw [flatten_length _ (fun x hx => hmem x (List.mem_of_mem_drop (List.mem_of_mem_take hx)))]; simp [Nat.min_eq_left (show xs.length ≤ es.length - off by omega)]
      have hsplit : es = es.take off ++ ((es.drop off).take xs.length ++ es.drop (off + xs.length)) := by
        rw [show es.drop (off + xs.length) = (es.drop off).drop xs.length from by rw [List.drop_drop], List.take_append_drop, List.take_append_drop]
      have hB : SimBlk κ (setRow w L.blk (putAllV c.toList (L.base + off * L.sz) news) elem fr) id (.row ver sz (over es off xs) false) := by
        refine ⟨L, hL, k2, by simp [over, k3]; omega, .inl ⟨hreal, ⟨_, elem, fr, setRow_heap_self hblt, by simp [putAllV_length, k5], k6⟩, by rw [show (over es off xs).length = es.length from by simp [over]; omega]; exact k7, ?_⟩⟩
        rw [relRows_iff]
        refine ⟨fun x hx => ?_, ?_⟩
        · unfold over at hx
          rcases List.mem_append.1 hx with hx | hx
          · rcases List.mem_append.1 hx with hx | hx
            · exact hmem x (List.mem_of_mem_take hx)
            · exact hl x hx
          · exact hmem x (List.mem_of_mem_drop hx)
        · unfold over
          rw [hsplit] at hfull
          simp only [List.flatten_append, relCells_append, htk, hmd, List.append_assoc] at hfull ⊢
          obtain ⟨f1, f2, f3⟩ := hfull
          have hxl : xs.flatten.length = xs.length * sz := flatten_length _ hl
          refine ⟨relCells_frame (.refl κ) hfzw _ _ _ (fun j hj => ?_) f1, relCells_of_list _ news _ (RelList.mono (.refl κ) hfzw _ _ hr) ho (fun j hj => ?_), ?_⟩
          · rw [hcellw, hcellw', putAllV_out]
            left; rw [htk] at hj; rw [k2]; omega
          · rw [hcellw', k2, putAllV_in news c.toList _ _ (by simp only [Array.length_toList, k5]; rw [k2] at hplace; omega) (by omega)]
          · rw [hxl]
            refine relCells_frame (.refl κ) hfzw _ _ _ (fun j hj => ?_) f3
            rw [hcellw, hcellw', putAllV_out]
            right; rw [k2, hnl]; omega
      have := s.change (ver' := ver) (L' := L) (κ' := κ) (w' := setRow w L.blk (putAllV c.toList (L.base + off * L.sz) news) elem fr) hσ hL (.refl κ) rfl rfl
        (fun i v => by split <;> rename_i e <;> first | (rw [e.1, e.2, hL]) | rfl) (Nat.le_refl _) (by rw [setRow_size]; exact Nat.le_refl _) (fun b _ hb => setRow_heap_ne (hb hreal)) (fun _ => .inl ⟨hreal, rfl⟩) hB
      exact ⟨_, hrun, this.1, this.2 rfl rfl (by first | exact .refl _ | exact ⟨rfl, Nat.le_succ _⟩ | exact ⟨rfl, Nat.le_refl _⟩)⟩
    · cases h
  · cases h
theorem evOver_nil {id ver off sz : Nat} {xs : List (List PV)} {σ' : Store} (h : evOver st id ver off sz xs = some σ') (hx : xs = []) : ∃ B, st.σ id = some B ∧ σ' = st.σ.put id B := by
  unfold evOver at h
  split at h
  · rename_i ver' sz' es hσ
    split at h
    · cases h; subst hx
      exact ⟨_, hσ, by simp [over]⟩
    · cases h
  · cases h
theorem put_same {σ : Store} {id : Nat} {B : Blk} (h : σ id = some B) : σ.put id B = σ := by
  funext k
  simp only [Store.put]
  split
  · rename_i e; rw [e, h]
  · rfl
theorem evClear_sound (s : Sim C N κ st a w) {t ty : TypeId} {p r : PV} {u : Value} {σ' : Store} {nx' : Nat} (h : evClear C st t p = some (r, σ', nx')) (hp : Rel κ w p u) :
    ∃ z w', (Builtin.clear_ #[t] ty #[u]).run C.P w = .ok z w' ∧ Rel κ w' r z ∧ Sim C N κ { st with σ := σ', nx := nx' } a w' ∧ Evo κ st.σ w κ σ' w' := by
  unfold evClear at h
  split at h
  case h_2 => cases h
  rename_i elem sz0 by0 ht
  split at h
  case h_2 => cases h
  rename_i i he
  split at h
  · rename_i z id ver off len clip hz
    split at h
    · rename_i σ2 hov
      cases h
      simp only [Rel] at hp
      obtain ⟨A, cap, rfl, h1, h2, L, h3, h4⟩ := hp
      rcases Nat.eq_zero_or_pos len with rfl | hlen
      · obtain ⟨B, b1, b2⟩ := evOver_nil hov rfl
        rw [put_same b1] at b2; subst b2
        refine ⟨.tuple #[], w, ?_, by simp [Rel, RelList], s, .refl _ _ _⟩
        cases A <;> (unfold Builtin.clear_; simp [run_underlying ht])
      · rcases h4 with ⟨hreal, rfl, _, _⟩ | ⟨h4, _⟩
        case inr => omega
        obtain ⟨zv, z1, z2, z3, z4, z5, z6⟩ := zcells_sound hz κ w
        have hz1 : z.length = i.size := z3
        have hrl : ∀ n, RelList κ w (List.replicate n z).flatten (List.replicate n zv.cells.toList).flatten := fun n => by
          induction n with
          | zero => simp [RelList]
          | succ n ih => rw [List.replicate_succ, List.replicate_succ, List.flatten_cons, List.flatten_cons]; exact relList_append _ _ z2 ih
        obtain ⟨w', g1, g2, g3⟩ := evOver_sound s hov (hrl len) (by
          rw [List.all_eq_true]; intro x hx
          obtain ⟨l, hl, hx⟩ := List.mem_flatten.1 hx
          rw [(List.mem_replicate.1 hl).2] at hx
          exact List.all_eq_true.1 z4 x hx) (fun e he => by rw [(List.mem_replicate.1 he).2]; exact z3) h3 hreal
        refine ⟨.tuple #[], w', ?_, by simp [Rel, RelList], g2, g3⟩
        have hzc : (Builtin.zeroCells zv.cells len).toList = (List.replicate len zv.cells.toList).flatten := by
          have := range_cells zv.cells zv.cells.size len rfl (by omega)
          unfold Builtin.zeroCells
          rw [this]
        obtain ⟨n, rfl⟩ : ∃ n, len = n + 1 := ⟨len - 1, by omega⟩
        unfold Builtin.clear_; simp [run_underlying ht, z1, hzc, g1]
    · cases h
  · rename_i z hz
    cases h
    simp only [Rel] at hp
    obtain ⟨rfl, _⟩ := hp
    exact ⟨.tuple #[], w, by unfold Builtin.clear_; simp [run_underlying ht], by simp [Rel, RelList], s, .refl _ _ _⟩
  · cases h
end
end Go.Ab
