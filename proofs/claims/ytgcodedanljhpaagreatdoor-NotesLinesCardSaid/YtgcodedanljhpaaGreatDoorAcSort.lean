/- Abstract values: sorting a row of own memory by slices.SortFunc, by the kit's contract. -/
import Derived.Test.YtgcodedanljhpaaGreatDoorAcFz
import Derived.Shelf.SlSortCmp.NoneTotal
set_option linter.unusedSimpArgs false
set_option linter.unusedVariables false
namespace Go.Ab
open Go Go.Proofs Go.Sort Go.Lib
theorem relRows_of {κ : Kn} {w : World} {b s : Nat} : ∀ (es : List (List PV)) (o : Nat), (∀ (i : Nat) e, es[i]? = some e → e.length = s ∧ RelCells κ w b (o + i * s) e) → RelRows κ w b o s es
  | [], _, _ => by simp only [RelRows]
  | e :: es, o, h => by
    simp only [RelRows]
    have h0 := h 0 e rfl
    refine ⟨h0.1, by simpa using h0.2, relRows_of es (o + s) fun i e' hi => ?_⟩
    have := h (i + 1) e' (by simpa using hi)
    rw [Nat.add_mul, Nat.one_mul] at this
    exact ⟨this.1, by rw [show o + s + i * s = o + (i * s + s) from by omega]; exact this.2⟩
theorem relCells_get {κ : Kn} {w : World} {b : Nat} : ∀ (cs : List PV) (o j : Nat) (p : PV), RelCells κ w b o cs → cs[j]? = some p → ∃ v, w.cell? ⟨b, o + j, none⟩ = some v ∧ Rel κ w p v
  | [], _, _, _, _, h => by simp at h
  | c :: cs, o, 0, p, h, hp => by
    simp only [RelCells] at h
    obtain ⟨⟨v, h1, _, h3⟩, _⟩ := h
    simp only [List.getElem?_cons_zero, Option.some.injEq] at hp
    subst hp
    exact ⟨v, h1, h3⟩
  | c :: cs, o, j + 1, p, h, hp => by
    simp only [RelCells] at h
    have := relCells_get cs (o + 1) j p h.2 (by simpa using hp)
    rw [show o + 1 + j = o + (j + 1) from by omega] at this
    exact this
def rowsOf {α : Type} (enc : α → List Value) (d : List α) : List (List PV) := d.map fun x => (enc x).map .lit
section
variable {α : Type} [Inhabited α] {C : Ctx} {κ : Kn} {w : World} {a : Act}
theorem holds_of_rows {enc : α → List Value} {k b o : Nat} {d : List α} {c : Array Value} {el : TypeId} {fr : Nat × Nat} (hk : ∀ x, (enc x).length = k) (hg : ∀ x, (enc x).all ground = true)
    (hb : w.heap[b]? = some (.cells c el fr)) (hfr : okFr fr c.size) (hn : o + d.length * k ≤ c.size) (h : RelRows κ w b o k (rowsOf enc d)) : HoldsK enc k w b o d.toArray := by
  intro t ht
  have hsz : (flatK enc k d.toArray).size = d.length * k := by simp [flatK]
  rw [hsz] at ht
  have hk0 : 0 < k := by
    rcases Nat.eq_zero_or_pos k with h0 | h0
    · subst h0; simp at ht
    · exact h0
  have hi : t / k < d.length := Nat.div_lt_of_lt_mul (by rw [Nat.mul_comm]; exact ht)
  have hm : t % k < k := Nat.mod_lt _ hk0
  have hdk := Nat.div_add_mod t k
  have hge : (rowsOf enc d)[t / k]? = some ((enc d[t / k]).map .lit) := by simp [rowsOf, List.getElem?_map, List.getElem?_eq_getElem hi]
  obtain ⟨_, g2⟩ := relRows_get _ _ _ _ h hge
  have hl : t % k < (enc d[t / k]).length := by rw [hk]; exact hm
  obtain ⟨v, h1, h2⟩ := relCells_get _ _ (t % k) (.lit (enc d[t / k])[t % k]) g2 (by simp [List.getElem?_map, List.getElem?_eq_getElem hl])
  rw [show o + t / k * k + t % k = o + t from by rw [Nat.mul_comm]; omega] at h1
  simp only [Rel] at h2
  constructor
  · rw [h1, get_flatK _ _ _ _ (by simpa using ht), h2.1]
    have e1 : d.toArray[t / k]! = d[t / k] := by simp [getElem!_pos, hi]
    rw [e1]
    simp [getElem!_pos, hl]
  · simp only [World.frozen?, hb]
    have h4 := hfr (o + t) (by omega)
    rw [Bool.eq_false_iff]
    intro hc
    simp only [Bool.and_eq_true, decide_eq_true_eq] at hc
    exact h4 hc
theorem rows_of_holds {enc : α → List Value} {k b o : Nat} {d : Array α} (hk : ∀ x, (enc x).length = k) (hg : ∀ x, (enc x).all ground = true) (h : HoldsK enc k w b o d) : RelRows κ w b o k (rowsOf enc d.toList) := by
  refine relRows_of _ _ fun i e he => ?_
  simp only [rowsOf, List.getElem?_map, Option.map_eq_some_iff] at he
  obtain ⟨x, hx, rfl⟩ := he
  refine ⟨by simp [hk], relCells_of_list _ (enc x) _ (relList_lits κ w _ (hg x)) (by simp [PV.one]) fun j hj => ?_⟩
  have hj' : j < k := by simpa [hk] using hj
  have hi : i < d.size := by
    have := (List.getElem?_eq_some_iff.1 hx).1
    simpa using this
  have hk0 : 0 < k := by omega
  have hlt : i * k + j < d.size * k := by
    have : (i + 1) * k ≤ d.size * k := Nat.mul_le_mul_right k hi
    rw [Nat.add_mul, Nat.one_mul] at this; omega
  have := (h (i * k + j) (by simpa [flatK] using hlt)).1
  rw [get_flatK _ _ _ _ hlt] at this
  have e1 : (i * k + j) / k = i := by rw [Nat.mul_comm, Nat.mul_add_div hk0, Nat.div_eq_of_lt hj', Nat.add_zero]
  have e2 : (i * k + j) % k = j := by rw [Nat.mul_comm, Nat.mul_add_mod, Nat.mod_eq_of_lt hj']
  rw [e1, e2] at this
  have e3 : d[i]! = x := by
    rw [getElem!_pos d i hi]
    have : d.toList[i]? = some x := hx
    simp [List.getElem?_eq_getElem (show i < d.toList.length by simpa using hi)] at this
    exact this
  rw [e3] at this
  rw [Nat.add_assoc, this]
  have hl : j < (enc x).length := by rw [hk]; exact hj'
  simp [getElem!_pos, hl, List.getElem?_eq_getElem hl]
end
theorem bel_grow {w w' : World} (h : Bel w w') : ∃ q os', w' = grow (w.drewN q) os' := by
  refine ⟨w'.drawn - w.drawn, w'.heap.extract w.heap.size w'.heap.size, ?_⟩
  obtain ⟨h1, h2, ⟨h3, h4⟩, h5, h6⟩ := h
  have hh : w'.heap = w.heap ++ w'.heap.extract w.heap.size w'.heap.size := by
    apply Array.ext_getElem?
    intro i
    rw [Array.getElem?_append]
    split
    · rename_i hi; exact h6 i hi
    · rename_i hi
      rw [Array.getElem?_extract]
      split
      · congr 1; omega
      · rename_i hj; rw [Array.getElem?_eq_none (by omega)]
  cases w'
  cases w
  simp only at h1 h2 h3 h4 hh
  simp only [grow, World.drewN, World.mk.injEq]
  exact ⟨hh, h2, by omega, h1, h3⟩
section
variable {α : Type} [Inhabited α] {C : Ctx} {κ : Kn} {w : World} {a : Act}
theorem sortWorld_heap {enc : α → List Value} {k blk off m : Nat} {dk : Array α} {os : Array Obj} {b : Nat} (hb : b < w.heap.size) (hne : b ≠ blk) : (sortWorldK enc k w blk off m dk os).heap[b]? = w.heap[b]? := by
  have e : (sortWorldK enc k w blk off m dk os).heap = (putRowK enc k (Sort.ahead w m) blk off dk).heap ++ os := rfl
  have hs : (putRowK enc k (Sort.ahead w m) blk off dk).heap.size = w.heap.size := by simp [putRowK]
  rw [e, Array.getElem?_append_left (by rw [hs]; exact hb)]
  simp only [putRowK, putRow, mapBlock, heap_ahead, Array.getElem?_modify]
  rw [if_neg (Ne.symm hne)]
theorem sortWorld_row {enc : α → List Value} {k blk off m : Nat} {dk : Array α} {os : Array Obj} {c : Array Value} {el : TypeId} {fr : Nat × Nat} (hb : w.heap[blk]? = some (.cells c el fr)) :
    ∃ c', (sortWorldK enc k w blk off m dk os).heap[blk]? = some (.cells c' el fr) ∧ c'.size = c.size := by
  have hlt : blk < w.heap.size := (Array.getElem?_eq_some_iff.1 hb).1
  have e : (sortWorldK enc k w blk off m dk os).heap = (putRowK enc k (Sort.ahead w m) blk off dk).heap ++ os := rfl
  have hs : (putRowK enc k (Sort.ahead w m) blk off dk).heap.size = w.heap.size := by simp [putRowK]
  rw [e, Array.getElem?_append_left (by rw [hs]; exact hlt)]
  simp only [putRowK, putRow, mapBlock, heap_ahead, Array.getElem?_modify, if_true, hb, Option.map_some, onCells]
  exact ⟨_, rfl, by simp [putCells]⟩
theorem sort_st {f g k : Nat} {enc : α → List Value} {cf : α → α → Int} {srt : List α → List α} (hk : ∀ x, (enc x).length = k) (hgr : ∀ x, (enc x).all ground = true)
    (kit : ∀ (cb : Array Value) (blk off cap : Nat) (d : Array α) (w : World), (∀ args w, (callFunc g args).run C.P w = .ok (.enter g args) w) → CmpLays C.P g cb enc k cf blk off d.size w → HoldsK enc k w blk off d → blk < w.heap.size → d.size < 4611686018427387904 →
      Calls C.P f #[.slice (some ⟨blk, off, none⟩) d.size cap, .func (.func g) #[] cb] w fun e w' => e = .returned (.tuple #[]) ∧ ∃ n os, w' = sortWorldK enc k w blk off n (srt d.toList).toArray os)
    (kit0 : ∀ (p : Option Addr) (cap : Nat) (fv : Value) (w : World), Calls C.P f #[.slice p 0 cap, fv] w fun e w' => e = .returned (.tuple #[]) ∧ w' = w)
    (hf : isGo C.P f = true) (hgo : isGo C.P g = true) (hlen : ∀ d, (srt d).length = d.length)
    {σ : Store} {nx id ver : Nat} {d : List α} {clip : Bool} {caps cargs : List PV} (hσ : σ id = some (.row ver k (rowsOf enc d) false)) (hcap : rdAs (σ.del id) caps = some cargs)
    (hcmp : ∀ x y, CallSpec C g ([.agg ((enc x).map .lit), .agg ((enc y).map .lit)] ++ cargs) (.lit (.int .i64 (cf x y)))) (hsz : d.length < 4611686018427387904) :
    StSpec C f [.own id ver 0 d.length clip, .clo (.func g) [] caps] σ nx (fun r σ' nx' => r = .tup [] ∧ nx' = nx ∧ σ' = σ.put id (.row ver k (rowsOf enc (srt d)) false)) := by
  refine ⟨hf, fun κ w vs s hr => ?_⟩
  simp only [RelList] at hr
  obtain ⟨v1, _, rfl, h1, v2, _, rfl, h2, rfl⟩ := hr
  simp only [Rel] at h1 h2
  obtain ⟨A, cap, rfl, h3, h4, L, h5, h6⟩ := h1
  obtain ⟨fs, cs, rfl, h7, h8⟩ := h2
  simp only [RelList] at h7
  obtain rfl : fs = #[] := Array.ext' h7
  obtain ⟨_, L', g1, g2, g3, g4⟩ := s.blk id _ hσ
  rw [h5] at g1; cases g1
  have hsame : d.length = 0 → σ.put id (.row ver k (rowsOf enc (srt d)) false) = σ := fun h0 => by
    have e1 : d = [] := List.eq_nil_of_length_eq_zero h0
    have e2 : srt d = [] := List.eq_nil_of_length_eq_zero (by rw [hlen]; exact h0)
    rw [e2, ← e1]; exact put_same hσ
  by_cases h0 : d.length = 0
  · rw [h0]
    refine (kit0 A cap _ w).mono ?_
    rintro e w' ⟨rfl, rfl⟩
    exact ⟨_, .tup [], κ, σ, nx, rfl, ⟨rfl, rfl, (hsame h0).symm⟩, s, .refl _ _ _, by simp [Rel, RelList]⟩
  rcases h6 with ⟨hr, rfl, h9, h10⟩ | ⟨h9, _⟩
  rotate_left
  · omega
  rcases g4 with ⟨_, ⟨c, el, fr, k1, k2, k3⟩, k4, k5⟩ | ⟨k1, _⟩
  rotate_left
  · rw [hr] at k1; cases k1
  have hblk : L.blk < w.heap.size := (Array.getElem?_eq_some_iff.1 k1).1
  have hrl : (rowsOf enc d).length = d.length := by simp [rowsOf]
  rw [hrl] at k4 g3
  have hold := holds_of_rows (d := d) hk hgr k1 (by rw [k2]; exact k3) (by rw [k2]; exact k4) k5
  have hat : BlkAt κ id (.row ver k (rowsOf enc d) false) L.blk := ⟨L, h5, hr, rfl⟩
  have hdel := s.del id
  have hcs := rdAs_sound hdel _ _ _ hcap h8
  have hfzne : ∀ b, (κ.lent (σ.del id)).fz b → b ≠ L.blk := by
    rintro b (hb | ⟨i, B, e1, e2⟩) rfl
    · exact s.nfz _ ⟨id, _, hσ, rfl, hat⟩ hb
    · simp only [Store.del] at e1
      split at e1
      · cases e1
      · rename_i hne; exact hne (s.dist i id B _ _ e1 hσ e2 hat)
  have hfzlt : ∀ b, (κ.lent (σ.del id)).fz b → b < w.heap.size := by
    rintro b (hb | ⟨i, B, e1, e2⟩)
    · exact s.fzlt b hb
    · simp only [Store.del] at e1
      split at e1
      · cases e1
      · exact e2.lt (s.blk i B e1).2
  have eg : ∀ args w, (callFunc g args).run C.P w = .ok (.enter g args) w := fun args w => by
    unfold isGo at hgo
    cases hfn : C.P.funcs[g]? with
    | none => rw [hfn] at hgo; cases hgo
    | some fn =>
      rw [hfn] at hgo
      simp only [Bool.and_eq_true, bne_iff_ne, ne_eq] at hgo
      have hname : (fn.name == "runtime.NumGoroutine") = false := by simpa using hgo.1
      have hbody : fn.body.isNone = false := by cases hb : fn.body <;> simp_all
      simp only [callFunc, run_program, hfn, hname, Bool.false_eq_true, if_false, hbody, Sem.run_bind, Result.andThen_ok, Sem.run_pure]
  have hcl : CmpLays C.P g cs enc k cf L.blk L.base d.toArray.size w := by
    intro m os dk hs x y
    have hW : ∀ b, b < w.heap.size → b ≠ L.blk → (sortWorldK enc k w L.blk L.base m dk os).heap[b]? = w.heap[b]? := fun b hb hne => sortWorld_heap hb hne
    have hWs := size_sortWorldK_c enc k w L.blk L.base m dk os
    have := (hcmp x y).2 (sortWorldK enc k w L.blk L.base m dk os) (κ.lent (σ.del id)).fz ([.agg (enc x).toArray, .agg (enc y).toArray] ++ cs.toList) (fun b hb => Nat.lt_of_lt_of_le (hfzlt b hb) hWs)
      (fun gl cc hgl => ⟨.inl (s.glob gl cc hgl).1, RelCells.mono (κ := κ.bare) (w := w) (lent_le (σ.del id)) (fun b hb => hW b (s.fzlt b hb) (hfzne b (.inl hb))) _ _ _ (hW _ (s.fzlt _ (s.glob gl cc hgl).1) (hfzne _ (.inl (s.glob gl cc hgl).1))) (s.glob gl cc hgl).2⟩) (by
        refine relList_append _ _ ?_ ?_
        · simp only [RelList, Rel]
          refine ⟨_, _, rfl, ⟨_, rfl, by simp [PV.one], relList_lits _ _ _ (hgr x)⟩, _, _, rfl, ⟨_, rfl, by simp [PV.one], relList_lits _ _ _ (hgr y)⟩, rfl⟩
        · exact RelList.mono (.refl _) (fun b hb => hW b (hfzlt b hb) (hfzne b hb)) _ _ hcs)
    have e : ([.agg (enc x).toArray, .agg (enc y).toArray] ++ cs.toList : List Value).toArray = #[.agg (enc x).toArray, .agg (enc y).toArray] ++ cs := by
      apply Array.ext'; simp
    rw [e] at this
    refine this.mono ?_
    rintro e w' ⟨v, us, rfl, hb, _, _, hret⟩
    simp only [RetTop, RetN1, Rel] at hret
    exact ⟨by rw [hret.2.1], bel_grow hb⟩
  have := kit cs L.blk L.base cap d.toArray w eg hcl hold hblk (by simpa using hsz)
  have e0 : (⟨L.blk, L.base + 0 * L.sz, none⟩ : Addr) = ⟨L.blk, L.base, none⟩ := by simp
  rw [e0]
  refine this.mono ?_
  rintro e w' ⟨rfl, n, os, rfl⟩
  have hl2 : (srt d).toArray.size = d.toArray.size := by simp [hlen]
  have hold2 := holdsK_sortWorldK_c enc k w L.blk L.base d.toArray (srt d).toArray n os hold hblk hl2
  obtain ⟨c', j1, j2⟩ := sortWorld_row (enc := enc) (k := k) (off := L.base) (m := n) (dk := (srt d).toArray) (os := os) k1
  have hch := s.change (ver' := ver) (es' := rowsOf enc (srt d)) (L' := L) (w' := sortWorldK enc k w L.blk L.base n (srt d).toArray os) (κ' := κ) hσ h5 (.refl κ) rfl rfl
    (fun i v => by split
                   · rename_i h; rw [h.1, h.2]; exact h5
                   · rfl) (Nat.le_refl _) (size_sortWorldK_c enc k w L.blk L.base n (srt d).toArray os) (fun b hb hne => sortWorld_heap hb (hne hr)) (fun _ => .inl ⟨hr, rfl⟩)
    ⟨L, h5, g2, by rw [g3]; simp [rowsOf, hlen], .inl ⟨hr, ⟨c', el, fr, j1, by rw [j2, k2], k3⟩, by simp only [rowsOf, List.length_map, hlen]; exact k4, by
      have := rows_of_holds (κ := κ) hk hgr hold2
      simpa using this⟩⟩
  exact ⟨_, .tup [], κ, _, nx, rfl, ⟨rfl, rfl, rfl⟩, hch.1, hch.2 rfl rfl ⟨rfl, Nat.le_add_right _ _⟩, by simp [Rel, RelList]⟩
end
end Go.Ab
