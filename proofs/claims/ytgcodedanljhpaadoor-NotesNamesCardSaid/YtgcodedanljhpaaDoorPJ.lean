/- Abstract values: sorting a row of own memory by slices.SortFunc, by the kit's contract. -/
import Derived.Test.YtgcodedanljhpaaDoorAcFz
import Derived.Shelf.SlSortCmp.NoneTotal
import Derived.Test.YtgcodedanljhpaaDoorPH
import Derived.Ground.SlsfProg
set_option linter.unusedSimpArgs false
set_option linter.unusedVariables false
section
namespace Go.Ab
open Go Go.Proofs Go.Sort Go.Lib
theorem relRows_of {κ : Kn} {w : World} {b s : Nat} : ∀ (es : List (List PV)) (o : Nat), (∀ (i : Nat) e, es[i]? = some e → e.length = s ∧ RelCells κ w b (o + i * s) e) → RelRows κ w b o s es
  | [], _, _ => by simp only [RelRows]
  | e :: es, o, h => by
    simp only [RelRows]
    have h0 := h 0 e rfl
    refine ⟨h0.1, by simpa using h0.2, relRows_of es (o + s) fun i e' hi => ?_⟩
    have := h (i + 1) e' (by simpa using hi)
    rw [Nat.add_mul, Nat.one_mul] at this
    exact ⟨this.1, by rw [show o + s + i * s = o + (i * s + s) from by omega]; exact this.2⟩
theorem relCells_get {κ : Kn} {w : World} {b : Nat} : ∀ (cs : List PV) (o j : Nat) (p : PV), RelCells κ w b o cs → cs[j]? = some p → ∃ v, w.cell? ⟨b, o + j, none⟩ = some v ∧ Rel κ w p v
  | [], _, _, _, _, h => by simp at h
  | c :: cs, o, 0, p, h, hp => by
    simp only [RelCells] at h
    obtain ⟨⟨v, h1, _, h3⟩, _⟩ := h
    simp only [List.getElem?_cons_zero, Option.some.injEq] at hp
    subst hp
    exact ⟨v, h1, h3⟩
  | c :: cs, o, j + 1, p, h, hp => by
    simp only [RelCells] at h
    have := relCells_get cs (o + 1) j p h.2 (by simpa using hp)
    rw [show o + 1 + j = o + (j + 1) from by omega] at this
    exact this
def rowsOf {α : Type} (enc : α → List Value) (d : List α) : List (List PV) := d.map fun x => (enc x).map .lit
section
variable {α : Type} [Inhabited α] {C : Ctx} {κ : Kn} {w : World} {a : Act}
theorem holds_of_rows {enc : α → List Value} {k b o : Nat} {d : List α} {c : Array Value} {el : TypeId} {fr : Nat × Nat} (hk : ∀ x, (enc x).length = k) (hg : ∀ x, (enc x).all ground = true)
    (hb : w.heap[b]? = some (.cells c el fr)) (hfr : okFr fr c.size) (hn : o + d.length * k ≤ c.size) (h : RelRows κ w b o k (rowsOf enc d)) : HoldsK enc k w b o d.toArray := by
  intro t ht
  have hsz : (flatK enc k d.toArray).size = d.length * k := by simp [flatK]
  rw [hsz] at ht
  have hk0 : 0 < k := by
    rcases Nat.eq_zero_or_pos k with h0 | h0
    · subst h0; simp at ht
    · exact h0
  have hi : t / k < d.length := Nat.div_lt_of_lt_mul (by rw [Nat.mul_comm]; exact ht)
  have hm : t % k < k := Nat.mod_lt _ hk0
  have hdk := Nat.div_add_mod t k
  have hge : (rowsOf enc d)[t / k]? = some ((enc d[t / k]).map .lit) := by simp [rowsOf, List.getElem?_map, List.getElem?_eq_getElem hi]
  obtain ⟨_, g2⟩ := relRows_get _ _ _ _ h hge
  have hl : t % k < (enc d[t / k]).length := by rw [hk]; exact hm
  obtain ⟨v, h1, h2⟩ := relCells_get _ _ (t % k) (.lit (enc d[t / k])[t % k]) g2 (by simp [List.getElem?_map, List.getElem?_eq_getElem hl])
  rw [show o + t / k * k + t % k = o + t from by rw [Nat.mul_comm]; omega] at h1
  simp only [Rel] at h2
  constructor
  · rw [h1, get_flatK _ _ _ _ (by simpa using ht), h2.1]
    have e1 : d.toArray[t / k]! = d[t / k] := by simp [getElem!_pos, hi]
    rw [e1]
    simp [getElem!_pos, hl]
  · simp only [World.frozen?, hb]
    have h4 := hfr (o + t) (by omega)
    rw [Bool.eq_false_iff]
    intro hc
    simp only [Bool.and_eq_true, decide_eq_true_eq] at hc
    exact h4 hc
theorem rows_of_holds {enc : α → List Value} {k b o : Nat} {d : Array α} (hk : ∀ x, (enc x).length = k) (hg : ∀ x, (enc x).all ground = true) (h : HoldsK enc k w b o d) : RelRows κ w b o k (rowsOf enc d.toList) := by
  refine relRows_of _ _ fun i e he => ?_
  simp only [rowsOf, List.getElem?_map, Option.map_eq_some_iff] at he
  obtain ⟨x, hx, rfl⟩ := he
  refine ⟨by simp [hk], relCells_of_list _ (enc x) _ (relList_lits κ w _ (hg x)) (by simp [PV.one]) fun j hj => ?_⟩
  have hj' : j < k := by simpa [hk] using hj
  have hi : i < d.size := by
    have := (List.getElem?_eq_some_iff.1 hx).1
    simpa using this
  have hk0 : 0 < k := by omega
  have hlt : i * k + j < d.size * k := by
    have : (i + 1) * k ≤ d.size * k := Nat.mul_le_mul_right k hi
    rw [Nat.add_mul, Nat.one_mul] at this; omega
  have := (h (i * k + j) (by simpa [flatK] using hlt)).1
  rw [get_flatK _ _ _ _ hlt] at this
  have e1 : (i * k + j) / k = i := by rw [Nat.mul_comm, Nat.mul_add_div hk0, Nat.div_eq_of_lt hj', Nat.add_zero]
  have e2 : (i * k + j) % k = j := by rw [Nat.mul_comm, Nat.mul_add_mod, Nat.mod_eq_of_lt hj']
  rw [e1, e2] at this
  have e3 : d[i]! = x := by
    rw [getElem!_pos d i hi]
    have : d.toList[i]? = some x := hx
    simp [List.getElem?_eq_getElem (show i < d.toList.length by simpa using hi)] at this
    exact this
  rw [e3] at this
  rw [Nat.add_assoc, this]
  have hl : j < (enc x).length := by rw [hk]; exact hj'
  simp [getElem!_pos, hl, List.getElem?_eq_getElem hl]
end
theorem bel_grow {w w' : World} (h : Bel w w') : ∃ q os', w' = grow (w.drewN q) os' := by
  refine ⟨w'.drawn - w.drawn, w'.heap.extract w.heap.size w'.heap.size, ?_⟩
  obtain ⟨h1, h2, ⟨h3, h4⟩, h5, h6⟩ := h
  have hh : w'.heap = w.heap ++ w'.heap.extract w.heap.size w'.heap.size := by
    apply Array.ext_getElem?
    intro i
    rw [Array.getElem?_append]
    split
    · rename_i hi; exact h6 i hi
    · rename_i hi
      rw [Array.getElem?_extract]
      split
      · congr 1; omega
      · rename_i hj; rw [Array.getElem?_eq_none (by omega)]
  cases w'
  cases w
  simp only at h1 h2 h3 h4 hh
  simp only [grow, World.drewN, World.mk.injEq]
  exact ⟨hh, h2, by omega, h1, h3⟩
section
variable {α : Type} [Inhabited α] {C : Ctx} {κ : Kn} {w : World} {a : Act}
theorem sortWorld_heap {enc : α → List Value} {k blk off m : Nat} {dk : Array α} {os : Array Obj} {b : Nat} (hb : b < w.heap.size) (hne : b ≠ blk) : (sortWorldK enc k w blk off m dk os).heap[b]? = w.heap[b]? := by
  have e : (sortWorldK enc k w blk off m dk os).heap = (putRowK enc k (Sort.ahead w m) blk off dk).heap ++ os := rfl
  have hs : (putRowK enc k (Sort.ahead w m) blk off dk).heap.size = w.heap.size := by simp [putRowK]
  rw [e, Array.getElem?_append_left (by rw [hs]; exact hb)]
  simp only [putRowK, putRow, mapBlock, heap_ahead, Array.getElem?_modify]
  rw [if_neg (Ne.symm hne)]
theorem sortWorld_row {enc : α → List Value} {k blk off m : Nat} {dk : Array α} {os : Array Obj} {c : Array Value} {el : TypeId} {fr : Nat × Nat} (hb : w.heap[blk]? = some (.cells c el fr)) :
    ∃ c', (sortWorldK enc k w blk off m dk os).heap[blk]? = some (.cells c' el fr) ∧ c'.size = c.size := by
  have hlt : blk < w.heap.size := (Array.getElem?_eq_some_iff.1 hb).1
  have e : (sortWorldK enc k w blk off m dk os).heap = (putRowK enc k (Sort.ahead w m) blk off dk).heap ++ os := rfl
  have hs : (putRowK enc k (Sort.ahead w m) blk off dk).heap.size = w.heap.size := by simp [putRowK]
  rw [e, Array.getElem?_append_left (by rw [hs]; exact hlt)]
  simp only [putRowK, putRow, mapBlock, heap_ahead, Array.getElem?_modify, if_true, hb, Option.map_some, onCells]
  exact ⟨_, rfl, by simp [putCells]⟩
theorem sort_st {f g k : Nat} {enc : α → List Value} {cf : α → α → Int} {srt : List α → List α} (hk : ∀ x, (enc x).length = k) (hgr : ∀ x, (enc x).all ground = true)
    (kit : ∀ (cb : Array Value) (blk off cap : Nat) (d : Array α) (w : World), (∀ args w, (callFunc g args).run C.P w = .ok (.enter g args) w) → CmpLays C.P g cb enc k cf blk off d.size w → HoldsK enc k w blk off d → blk < w.heap.size → d.size < 4611686018427387904 →
      Calls C.P f #[.slice (some ⟨blk, off, none⟩) d.size cap, .func (.func g) #[] cb] w fun e w' => e = .returned (.tuple #[]) ∧ ∃ n os, w' = sortWorldK enc k w blk off n (srt d.toList).toArray os)
    (kit0 : ∀ (p : Option Addr) (cap : Nat) (fv : Value) (w : World), Calls C.P f #[.slice p 0 cap, fv] w fun e w' => e = .returned (.tuple #[]) ∧ w' = w)
    (hf : isGo C.P f = true) (hgo : isGo C.P g = true) (hlen : ∀ d, (srt d).length = d.length)
    {σ : Store} {nx id ver : Nat} {d : List α} {clip : Bool} {caps cargs : List PV} (hσ : σ id = some (.row ver k (rowsOf enc d) false)) (hcap : rdAs (σ.del id) caps = some cargs)
    (hcmp : ∀ x y, CallSpec C g ([.agg ((enc x).map .lit), .agg ((enc y).map .lit)] ++ cargs) (.lit (.int .i64 (cf x y)))) (hsz : d.length < 4611686018427387904) :
    StSpec C f [.own id ver 0 d.length clip, .clo (.func g) [] caps] σ nx (fun r σ' nx' => r = .tup [] ∧ nx' = nx ∧ σ' = σ.put id (.row ver k (rowsOf enc (srt d)) false)) := by
  refine ⟨hf, fun κ w vs s hr => ?_⟩
  simp only [RelList] at hr
  obtain ⟨v1, _, rfl, h1, v2, _, rfl, h2, rfl⟩ := hr
  simp only [Rel] at h1 h2
  obtain ⟨A, cap, rfl, h3, h4, L, h5, h6⟩ := h1
  obtain ⟨fs, cs, rfl, h7, h8⟩ := h2
  simp only [RelList] at h7
  obtain rfl : fs = #[] := Array.ext' h7
  obtain ⟨_, L', g1, g2, g3, g4⟩ := s.blk id _ hσ
  rw [h5] at g1; cases g1
  have hsame : d.length = 0 → σ.put id (.row ver k (rowsOf enc (srt d)) false) = σ := fun h0 => by
    have e1 : d = [] := List.eq_nil_of_length_eq_zero h0
    have e2 : srt d = [] := List.eq_nil_of_length_eq_zero (by rw [hlen]; exact h0)
    rw [e2, ← e1]; exact put_same hσ
  by_cases h0 : d.length = 0
  · rw [h0]
    refine (kit0 A cap _ w).mono ?_
    rintro e w' ⟨rfl, rfl⟩
    exact ⟨_, .tup [], κ, σ, nx, rfl, ⟨rfl, rfl, (hsame h0).symm⟩, s, .refl _ _ _, by simp [Rel, RelList]⟩
  rcases h6 with ⟨hr, rfl, h9, h10⟩ | ⟨h9, _⟩
  rotate_left
  · omega
  rcases g4 with ⟨_, ⟨c, el, fr, k1, k2, k3⟩, k4, k5⟩ | ⟨k1, _⟩
  rotate_left
  · rw [hr] at k1; cases k1
  have hblk : L.blk < w.heap.size := (Array.getElem?_eq_some_iff.1 k1).1
  have hrl : (rowsOf enc d).length = d.length := by simp [rowsOf]
  rw [hrl] at k4 g3
  have hold := holds_of_rows (d := d) hk hgr k1 (by rw [k2]; exact k3) (by rw [k2]; exact k4) k5
  have hat : BlkAt κ id (.row ver k (rowsOf enc d) false) L.blk := ⟨L, h5, hr, rfl⟩
  have hdel := s.del id
  have hcs := rdAs_sound hdel _ _ _ hcap h8
  have hfzne : ∀ b, (κ.lent (σ.del id)).fz b → b ≠ L.blk := by
    rintro b (hb | ⟨i, B, e1, e2⟩) rfl
    · exact s.nfz _ ⟨id, _, hσ, rfl, hat⟩ hb
    · simp only [Store.del] at e1
      split at e1
      · cases e1
      · rename_i hne; exact hne (s.dist i id B _ _ e1 hσ e2 hat)
  have hfzlt : ∀ b, (κ.lent (σ.del id)).fz b → b < w.heap.size := by
    rintro b (hb | ⟨i, B, e1, e2⟩)
    · exact s.fzlt b hb
    · simp only [Store.del] at e1
      split at e1
      · cases e1
      · exact e2.lt (s.blk i B e1).2
  have eg : ∀ args w, (callFunc g args).run C.P w = .ok (.enter g args) w := fun args w => by
    unfold isGo at hgo
    cases hfn : C.P.funcs[g]? with
    | none => rw [hfn] at hgo; cases hgo
    | some fn =>
      rw [hfn] at hgo
      simp only [Bool.and_eq_true, bne_iff_ne, ne_eq] at hgo
      have hname : (fn.name == "runtime.NumGoroutine") = false := by simpa using hgo.1
      have hbody : fn.body.isNone = false := by cases hb : fn.body <;> simp_all
      simp only [callFunc, run_program, hfn, hname, Bool.false_eq_true, if_false, hbody, Sem.run_bind, Result.andThen_ok, Sem.run_pure]
  have hcl : CmpLays C.P g cs enc k cf L.blk L.base d.toArray.size w := by
    intro m os dk hs x y
    have hW : ∀ b, b < w.heap.size → b ≠ L.blk → (sortWorldK enc k w L.blk L.base m dk os).heap[b]? = w.heap[b]? := fun b hb hne => sortWorld_heap hb hne
    have hWs := size_sortWorldK_c enc k w L.blk L.base m dk os
    have := (hcmp x y).2 (sortWorldK enc k w L.blk L.base m dk os) (κ.lent (σ.del id)).fz ([.agg (enc x).toArray, .agg (enc y).toArray] ++ cs.toList) (fun b hb => Nat.lt_of_lt_of_le (hfzlt b hb) hWs)
      (fun gl cc hgl => ⟨.inl (s.glob gl cc hgl).1, RelCells.mono (κ := κ.bare) (w := w) (lent_le (σ.del id)) (fun b hb => hW b (s.fzlt b hb) (hfzne b (.inl hb))) _ _ _ (hW _ (s.fzlt _ (s.glob gl cc hgl).1) (hfzne _ (.inl (s.glob gl cc hgl).1))) (s.glob gl cc hgl).2⟩) (by
        refine relList_append _ _ ?_ ?_
        · simp only [RelList, Rel]
          refine ⟨_, _, rfl, ⟨_, rfl, by simp [PV.one], relList_lits _ _ _ (hgr x)⟩, _, _, rfl, ⟨_, rfl, by simp [PV.one], relList_lits _ _ _ (hgr y)⟩, rfl⟩
        · exact RelList.mono (.refl _) (fun b hb => hW b (hfzlt b hb) (hfzne b hb)) _ _ hcs)
    have e : ([.agg (enc x).toArray, .agg (enc y).toArray] ++ cs.toList : List Value).toArray = #[.agg (enc x).toArray, .agg (enc y).toArray] ++ cs := by
      apply Array.ext'; simp
    rw [e] at this
    refine this.mono ?_
    rintro e w' ⟨v, us, rfl, hb, _, _, hret⟩
    simp only [RetTop, RetN1, Rel] at hret
    exact ⟨by rw [hret.2.1], bel_grow hb⟩
  have := kit cs L.blk L.base cap d.toArray w eg hcl hold hblk (by simpa using hsz)
  have e0 : (⟨L.blk, L.base + 0 * L.sz, none⟩ : Addr) = ⟨L.blk, L.base, none⟩ := by simp
  rw [e0]
  refine this.mono ?_
  rintro e w' ⟨rfl, n, os, rfl⟩
  have hl2 : (srt d).toArray.size = d.toArray.size := by simp [hlen]
  have hold2 := holdsK_sortWorldK_c enc k w L.blk L.base d.toArray (srt d).toArray n os hold hblk hl2
  obtain ⟨c', j1, j2⟩ := sortWorld_row (enc := enc) (k := k) (off := L.base) (m := n) (dk := (srt d).toArray) (os := os) k1
  have hch := s.change (ver' := ver) (es' := rowsOf enc (srt d)) (L' := L) (w' := sortWorldK enc k w L.blk L.base n (srt d).toArray os) (κ' := κ) hσ h5 (.refl κ) rfl rfl
    (fun i v => by split
                   · rename_i h; rw [h.1, h.2]; exact h5
                   · rfl) (Nat.le_refl _) (size_sortWorldK_c enc k w L.blk L.base n (srt d).toArray os) (fun b hb hne => sortWorld_heap hb (hne hr)) (fun _ => .inl ⟨hr, rfl⟩)
    ⟨L, h5, g2, by rw [g3]; simp [rowsOf, hlen], .inl ⟨hr, ⟨c', el, fr, j1, by rw [j2, k2], k3⟩, by simp only [rowsOf, List.length_map, hlen]; exact k4, by
      have := rows_of_holds (κ := κ) hk hgr hold2
      simpa using this⟩⟩
  exact ⟨_, .tup [], κ, _, nx, rfl, ⟨rfl, rfl, rfl⟩, hch.1, hch.2 rfl rfl ⟨rfl, Nat.le_add_right _ _⟩, by simp [Rel, RelList]⟩
end
end Go.Ab
end

section
/- Notes in the order of their classes. -/
set_option maxRecDepth 1000000
set_option maxHeartbeats 8000000
namespace Go.Proofs
open Go.Shelf Go.RowKit Go.Lib Go.Sort
def noteSort_ren : Go.Shelf.Ren := ⟨fun | 6 => 42 | 15 => 78 | 14 => 77 | 28 => 100 | 29 => 101 | 20 => 92 | 21 => 93 | 22 => 94 | 23 => 95 | 24 => 96 | 25 => 97 | 26 => 98 | 27 => 99 | 46 => 117 | 47 => 118 | 48 => 119 | 49 => 120 | 50 => 121 | 57 => 129 | n => n, fun | 22 => 50 | 24 => 57 | 25 => 100 | 3 => 3 | 39 => 142 | 0 => 0 | 53 => 163 | 55 => 165 | 4 => 4 | 46 => 157 | 45 => 156 | 50 => 112 | 5 => 5 | 9 => 9 | 66 => 176 | 70 => 180 | 76 => 188 | 77 => 189 | n => n, fun | n => n⟩
theorem noteSort : Go.Proofs.SlLaysF0.n6 Tryd.prog noteSort_ren := {
  mixed := by kernel_rfl
  f6 := ⟨Tryd.f42.name, by decide, Tryd.func42.trans (congrArg some (by kernel_rfl))⟩
  f14 := ⟨Tryd.f77.name, by decide, Tryd.func77.trans (congrArg some (by kernel_rfl))⟩
  f15 := Tryd.func78.trans (congrArg some (by kernel_rfl))
  f20 := ⟨Tryd.f92.name, by decide, Tryd.func92.trans (congrArg some (by kernel_rfl))⟩
  f21 := ⟨Tryd.f93.name, by decide, Tryd.func93.trans (congrArg some (by kernel_rfl))⟩
  f22 := ⟨Tryd.f94.name, by decide, Tryd.func94.trans (congrArg some (by kernel_rfl))⟩
  f23 := ⟨Tryd.f95.name, by decide, Tryd.func95.trans (congrArg some (by kernel_rfl))⟩
  f24 := ⟨Tryd.f96.name, by decide, Tryd.func96.trans (congrArg some (by kernel_rfl))⟩
  f25 := ⟨Tryd.f97.name, by decide, Tryd.func97.trans (congrArg some (by kernel_rfl))⟩
  f26 := ⟨Tryd.f98.name, by decide, Tryd.func98.trans (congrArg some (by kernel_rfl))⟩
  f27 := ⟨Tryd.f99.name, by decide, Tryd.func99.trans (congrArg some (by kernel_rfl))⟩
  f28 := Tryd.func100.trans (congrArg some (by kernel_rfl))
  f29 := Tryd.func101.trans (congrArg some (by kernel_rfl))
  f46 := ⟨Tryd.f117.name, by decide, Tryd.func117.trans (congrArg some (by kernel_rfl))⟩
  f47 := Tryd.func118.trans (congrArg some (by kernel_rfl))
  f48 := Tryd.func119.trans (congrArg some (by kernel_rfl))
  f49 := ⟨Tryd.f120.name, by decide, Tryd.func120.trans (congrArg some (by kernel_rfl))⟩
  f50 := ⟨Tryd.f121.name, by decide, Tryd.func121.trans (congrArg some (by kernel_rfl))⟩
  f57 := ⟨Tryd.f129.name, by decide, Tryd.func129.trans (congrArg some (by kernel_rfl))⟩
  t0 := Tryd.underlying0
  a0 := Tryd.isAgg0
  z0 := Tryd.sizeOf0
  v0 := Tryd.zeroValue0
  t3 := Tryd.underlying3
  a3 := Tryd.isAgg3
  z3 := Tryd.sizeOf3
  v3 := Tryd.zeroValue3
  t4 := Tryd.underlying4
  a4 := Tryd.isAgg4
  z4 := Tryd.sizeOf4
  v4 := Tryd.zeroValue4
  t5 := Tryd.underlying5
  a5 := Tryd.isAgg5
  z5 := Tryd.sizeOf5
  v5 := Tryd.zeroValue5
  t9 := Tryd.underlying9
  a9 := Tryd.isAgg9
  z9 := Tryd.sizeOf9
  v9 := Tryd.zeroValue9
  t22 := Tryd.underlying50
  a22 := Tryd.isAgg50
  z22 := Tryd.sizeOf50
  v22 := Tryd.zeroValue50
  t25 := Tryd.underlying100
  a25 := Tryd.isAgg100
  z25 := Tryd.sizeOf100
  v25 := Tryd.zeroValue100
  t39 := Tryd.underlying142
  a39 := Tryd.isAgg142
  z39 := Tryd.sizeOf142
  v39 := Tryd.zeroValue142
  t45 := Tryd.underlying156
  a45 := Tryd.isAgg156
  z45 := Tryd.sizeOf156
  v45 := Tryd.zeroValue156
  t46 := Tryd.underlying157
  a46 := Tryd.isAgg157
  z46 := Tryd.sizeOf157
  v46 := Tryd.zeroValue157
  t50 := Tryd.underlying112
  a50 := Tryd.isAgg112
  z50 := Tryd.sizeOf112
  v50 := Tryd.zeroValue112
  t53 := Tryd.underlying163
  a53 := Tryd.isAgg163
  z53 := Tryd.sizeOf163
  v53 := Tryd.zeroValue163
  t55 := Tryd.underlying165
  a55 := Tryd.isAgg165
  z55 := Tryd.sizeOf165
  v55 := Tryd.zeroValue165
  t66 := Tryd.underlying176
  a66 := Tryd.isAgg176
  z66 := Tryd.sizeOf176
  v66 := Tryd.zeroValue176
  t70 := Tryd.underlying180
  a70 := Tryd.isAgg180
  z70 := Tryd.sizeOf180
  v70 := Tryd.zeroValue180
  t76 := Tryd.underlying188
  a76 := Tryd.isAgg188
  z76 := Tryd.sizeOf188
  v76 := Tryd.zeroValue188
  t77 := Tryd.underlying189
  a77 := Tryd.isAgg189
  z77 := Tryd.sizeOf189
  v77 := Tryd.zeroValue189 }
end Go.Proofs
namespace Go.Ab
open Go Go.Proofs Go.Sort
theorem bd_PI : type_of% (And.intro @evNext.eq_1 (And.intro @fld (And.intro @nit (And.intro @nxE (And.intro @ghR (And.intro @ovR (And.intro @evBin_seql (And.intro @evBin_sneq (And.intro @str.eq_1 (And.intro @u8.eq_1 (And.intro @encBrs.eq_1 (And.intro @cBr.eq_1 (And.intro @encLdg.eq_1 (And.intro @encKws.eq_1 (And.intro @cKw.eq_1 (And.intro @encEvss.eq_1 (And.intro @encEvs.eq_1 (And.intro @cEv.eq_1 (And.intro @encMks.eq_1 (And.intro @cMk.eq_1 (And.intro @encStrs.eq_1 (And.intro @tk2 (And.intro @tk3 (And.intro @List.set_cons_succ.{0} (And.intro @List.getElem?_cons_zero.{0} (And.intro @List.getElem?_cons_succ.{0} (@List.length_set.{0}))))))))))))))))))))))))))) := And.intro @evNext.eq_1 (And.intro @fld (And.intro @nit (And.intro @nxE (And.intro @ghR (And.intro @ovR (And.intro @evBin_seql (And.intro @evBin_sneq (And.intro @str.eq_1 (And.intro @u8.eq_1 (And.intro @encBrs.eq_1 (And.intro @cBr.eq_1 (And.intro @encLdg.eq_1 (And.intro @encKws.eq_1 (And.intro @cKw.eq_1 (And.intro @encEvss.eq_1 (And.intro @encEvs.eq_1 (And.intro @cEv.eq_1 (And.intro @encMks.eq_1 (And.intro @cMk.eq_1 (And.intro @encStrs.eq_1 (And.intro @tk2 (And.intro @tk3 (And.intro @List.set_cons_succ.{0} (And.intro @List.getElem?_cons_zero.{0} (And.intro @List.getElem?_cons_succ.{0} (@List.length_set.{0}))))))))))))))))))))))))))
def cmpI (a b : Int) : Int := if a < b then -1 else if b < a then 1 else 0
theorem c_isNaN (a : Int) : CallSpec cx 79 [i64 a] (bl false) := by
  refine callSpec_of_vc Tryd.func79 rfl (by decide) (by kernel_rfl) (Nat.le_of_ble_eq_true rfl) ?_
  simp -dsimp (disch := omega) only [↓bp0, bd0, bd_PI, evStore, evRange, retQ, resL, finL, newL, flat, tupOf, List.toList_toArray, Tryd.f79, decide_true, Bool.not_true, simprocAttr]
  exact leT_one .rfl' (by simp)
theorem c_Compare (a b : Int) : CallSpec cx 44 [i64 a, i64 b] (i64 (cmpI a b)) := by
  refine callSpec_of_vc Tryd.func44 rfl (by decide) (by kernel_rfl) (Nat.le_of_ble_eq_true rfl) ?_
  try simp -dsimp (disch := omega) only [↓bp0, bd0, bd_PI, evStore, evRange, Tryd.f44, simprocAttr]
  refine CallQ.imm (c_isNaN a) (by rfl) (by rfl) (by first | exact .inl rfl | exact .inr rfl | exact .inr scalB | exact .inr scalI | exact .inr scalT | exact .inr scalM | exact .inr scalMT | exact .inr scalE | exact .inr scalET | exact .inr scalN | exact .inr scalNT) ?_
  try simp -dsimp (disch := omega) only [↓bp0, bd0, bd_PI, evStore, evRange, simprocAttr]
  refine CallQ.imm (c_isNaN b) (by rfl) (by rfl) (by first | exact .inl rfl | exact .inr rfl | exact .inr scalB | exact .inr scalI | exact .inr scalT | exact .inr scalM | exact .inr scalMT | exact .inr scalE | exact .inr scalET | exact .inr scalN | exact .inr scalNT) ?_
  try simp -dsimp (disch := omega) only [↓bp0, bd0, bd_PI, evStore, evRange, simprocAttr]
  cases h1 : decide (a < b)
  · cases h2 : decide (b < a)
    · simp -dsimp (disch := omega) only [↓bp0, bd0, bd_PI, evStore, evRange, retQ, resL, finL, newL, flat, tupOf, List.toList_toArray, Tryd.f44, h1, h2, simprocAttr]
      refine leT_one (int_eq ?_) (by simp)
      rw [cmpI, if_neg (of_decide_eq_false h1), if_neg (of_decide_eq_false h2)]
    · simp -dsimp (disch := omega) only [↓bp0, bd0, bd_PI, evStore, evRange, retQ, resL, finL, newL, flat, tupOf, List.toList_toArray, Tryd.f44, h1, h2, simprocAttr]
      refine leT_one (int_eq ?_) (by simp)
      rw [cmpI, if_neg (of_decide_eq_false h1), if_pos (of_decide_eq_true h2)]
  · simp -dsimp (disch := omega) only [↓bp0, bd0, bd_PI, evStore, evRange, retQ, resL, finL, newL, flat, tupOf, List.toList_toArray, Tryd.f44, h1, simprocAttr]
    refine leT_one (int_eq ?_) (by simp)
    rw [cmpI, if_pos (of_decide_eq_true h1)]
section
variable (O : List Nt)
def encA (a : Fin O.length) : List Value := [.int .i64 (O[a]).cls, .string (O[a]).chg, .int .u8 (O[a]).kind, .int .i64 (O[a]).pl]
def cfA (a b : Fin O.length) : Int := cmpI (O[a]).cls (O[b]).cls
theorem ltOf_A (a b : Fin O.length) : ltOf (cfA O) a b = true ↔ (O[a]).cls < (O[b]).cls := by
  unfold ltOf cfA cmpI
  rw [decide_eq_true_iff]
  repeat' split
  all_goals omega
theorem ltOf_Af (a b : Fin O.length) : ltOf (cfA O) a b = false ↔ ¬ (O[a]).cls < (O[b]).cls := by rw [← Bool.not_eq_true, ltOf_A]
theorem swoA : SWO (ltOf (cfA O)) where
  irrefl x := by rw [ltOf_Af]; omega
  trans x y z h1 h2 := by rw [ltOf_A] at *; omega
  ntrans x y z h1 h2 := by rw [ltOf_Af] at *; omega
def ClsU : Prop := ∀ i j : Fin O.length, (O[i]).cls = (O[j]).cls → i = j
def srtA (d : List (Fin O.length)) : List (Fin O.length) := d.mergeSort fun x y => !(ltOf (cfA O)) y x
def srtN : List Nt := (srtA O (List.finRange O.length)).map fun a => O[a]
end
theorem rows_A (O : List Nt) (d : List (Fin O.length)) : rowsOf (encA O) d = (d.map fun a => O[a]).map cNt := by
  rw [List.map_map]; rfl
theorem fin_A (O : List Nt) : (List.finRange O.length).map (fun a => O[a]) = O := by
  apply List.ext_getElem
  · simp
  · intro i h1 h2; simp
theorem n_Gone2 (O : List Nt) (x y : Fin O.length) : CallSpec cx 43 ([.agg ((encA O x).map .lit), .agg ((encA O y).map .lit)] ++ []) (.lit (.int .i64 (cfA O x y))) := by
  simp only [encA, List.map_cons, List.map_nil, List.cons_append, List.nil_append]
  refine callSpec_of_vc Tryd.func43 rfl (by decide) (by kernel_rfl) (Nat.le_of_ble_eq_true rfl) ?_
  try simp -dsimp (disch := omega) only [↓bp0, bd0, bd_PI, evStore, evRange, Tryd.f43, simprocAttr]
  refine CallQ.imm (c_Compare (O[x]).cls (O[y]).cls) (by rfl) (by rfl) (by first | exact .inl rfl | exact .inr rfl | exact .inr scalB | exact .inr scalI | exact .inr scalT | exact .inr scalM | exact .inr scalMT | exact .inr scalE | exact .inr scalET | exact .inr scalN | exact .inr scalNT) ?_
  simp -dsimp (disch := omega) only [↓bp0, bd0, bd_PI, evStore, evRange, retQ, resL, finL, newL, flat, tupOf, List.toList_toArray, Tryd.f43, simprocAttr]
  exact leT_one .rfl' (by simp)
theorem tisNote : ti cx.P 57 = some ⟨.struct (sfOf 57), 4, 40⟩ := by kernel_rfl
theorem isAggN (w : World) : (isAgg 57).run cx.P w = .ok true w := by rw [run_isAgg tisNote]; rfl
theorem sizeN (w : World) : (sizeOf 57).run cx.P w = .ok 4 w := run_sizeOf tisNote
theorem n_sort (O : List Nt) (hu : ClsU O) (h0 : 0 < O.length) {σ : Store} {nx id ver : Nat} {clip : Bool} (hσ : σ id = some (.row ver 4 (O.map cNt) false)) (hsz : O.length < 4611686018427387904) :
    StSpec cx 42 [.own id ver 0 O.length clip, .clo (.func 43) [] []] σ nx (fun r σ' nx' => r = .tup [] ∧ nx' = nx ∧ σ' = σ.put id (.row ver 4 ((srtN O).map cNt) false)) := by
  haveI : Inhabited (Fin O.length) := ⟨⟨0, h0⟩⟩
  have hσ' : σ id = some (.row ver 4 (rowsOf (encA O) (List.finRange O.length)) false) := by rw [rows_A, fin_A]; exact hσ
  have htot : ∀ x y : Fin O.length, ltOf (cfA O) x y = false → ltOf (cfA O) y x = false → x = y := fun x y h1 h2 => by
    rw [ltOf_Af] at h1 h2
    exact hu x y (by omega)
  have := sort_st (C := cx) (σ := σ) (nx := nx) (id := id) (ver := ver) (clip := clip) (caps := []) (cargs := []) (d := List.finRange O.length) (k := 4) (enc := encA O) (cf := cfA O) (srt := srtA O) (f := 42) (g := 43) (fun _ => rfl) (fun x => rfl) ?_ ?_ (by kernel_rfl) (by kernel_rfl) (fun d => List.length_mergeSort d) hσ' rfl (n_Gone2 O) (by simpa using hsz)
  · rw [rows_A] at this
    simp only [List.length_finRange] at this
    exact this
  · intro cb blk off cap d w eg hcmp hH hblk hsz
    exact AnyQ.slices_SortFunc_total noteSort 4 isAggN sizeN (encA O) (fun _ => rfl) (fun x v hv => by simp [encA] at hv; rcases hv with rfl | rfl | rfl | rfl <;> rfl) (cfA O) (swoA O) 43 cb blk off cap d w eg hcmp hH hblk hsz htot
  · intro p cap fv w
    exact AnyF.slices_SortFunc_none noteSort p cap fv w
end Go.Ab
end

section
/- notes.Gone. -/
set_option maxRecDepth 1000000
set_option maxHeartbeats 16000000
namespace Go.Ab
open Go Go.Proofs Go.Sort
theorem n_sort0 {σ : Store} {nx id ver : Nat} {clip : Bool} (hσ : σ id = some (.row ver 4 [] false)) :
    StSpec cx 42 [.own id ver 0 0 clip, .clo (.func 43) [] []] σ nx (fun r σ' nx' => r = .tup [] ∧ nx' = nx ∧ σ' = σ.put id (.row ver 4 [] false)) := by
  obtain ⟨O, hO⟩ : ∃ O : List Nt, O = [default] := ⟨_, rfl⟩
  have hl : O.length = 1 := by rw [hO]; rfl
  haveI : Inhabited (Fin O.length) := ⟨⟨0, by omega⟩⟩
  have htot : ∀ x y : Fin O.length, ltOf (cfA O) x y = false → ltOf (cfA O) y x = false → x = y := fun x y _ _ => Fin.ext (by omega)
  have := sort_st (C := cx) (σ := σ) (nx := nx) (id := id) (ver := ver) (clip := clip) (caps := []) (cargs := []) (d := ([] : List (Fin O.length))) (k := 4) (enc := encA O) (cf := cfA O) (srt := srtA O) (f := 42) (g := 43) (fun _ => rfl) (fun x => rfl) ?_ ?_ (by kernel_rfl) (by kernel_rfl) (fun d => List.length_mergeSort d) hσ rfl (n_Gone2 O) (by simp)
  · have e : srtA O [] = [] := by simp [srtA]
    rw [e] at this
    exact this
  · intro cb blk off cap d w eg hcmp hH hblk hsz
    exact AnyQ.slices_SortFunc_total noteSort 4 isAggN sizeN (encA O) (fun _ => rfl) (fun x v hv => by simp [encA] at hv; rcases hv with rfl | rfl | rfl | rfl <;> rfl) (cfA O) (swoA O) 43 cb blk off cap d w eg hcmp hH hblk hsz htot
  · intro p cap fv w
    exact AnyF.slices_SortFunc_none noteSort p cap fv w
theorem srtN_len (O : List Nt) : (srtN O).length = O.length := by
  rw [srtN, List.length_map, srtA, List.length_mergeSort, List.length_finRange]
theorem n_sortA (O : List Nt) (hu : ClsU O) {σ : Store} {nx id ver : Nat} {clip : Bool} (hσ : σ id = some (.row ver 4 (O.map cNt) false)) (hsz : O.length < 4611686018427387904) :
    StSpec cx 42 [.own id ver 0 O.length clip, .clo (.func 43) [] []] σ nx (fun r σ' nx' => r = .tup [] ∧ nx' = nx ∧ σ' = σ.put id (.row ver 4 ((srtN O).map cNt) false)) := by
  rcases Nat.eq_zero_or_pos O.length with h | h
  · have h' : O = [] := List.eq_nil_of_length_eq_zero h
    subst h'
    have e : srtN [] = [] := List.eq_nil_of_length_eq_zero (srtN_len [])
    rw [e]
    exact n_sort0 hσ
  · exact n_sort O hu h hσ hsz
/-! ### classes told once -/
theorem lastsF_pw {f : Str → Int} {v : List Ev} {cs : List Int} : (lastsF f v cs).Pairwise fun a b => a.cls ≠ b.cls := by
  rw [lastsF, List.pairwise_map]
  refine List.Pairwise.imp_of_mem ?_ (List.pairwise_lt_range.filter _)
  intro i j hi hj hij he
  have h1 := (List.mem_filter.1 hi).2
  have h2 := (List.mem_filter.1 hj).2
  unfold selB at h1 h2
  unfold ntAt at he
  cases ei : v[i]? with
  | none => rw [ei] at h1; cases h1
  | some x =>
    cases ej : v[j]? with
    | none => rw [ej] at h2; cases h2
    | some y =>
      rw [ei] at h1 he
      rw [ej] at he
      simp only [Bool.and_eq_true, Bool.not_eq_true'] at h1 he
      have h3 := h1.1
      rw [List.any_eq_false] at h3
      have hm : y ∈ v.drop (i + 1) := by
        refine List.mem_iff_getElem?.2 ⟨j - (i + 1), ?_⟩
        rw [List.getElem?_drop, show i + 1 + (j - (i + 1)) = j from by omega]; exact ej
      exact h3 y hm (by simp [he])
theorem clsU_of {O : List Nt} (h : O.Pairwise fun a b => a.cls ≠ b.cls) : ClsU O := fun i j e => by
  rw [List.pairwise_iff_getElem] at h
  rcases Nat.lt_trichotomy i.val j.val with k | k | k
  · exact absurd e (h i.val j.val i.isLt j.isLt k)
  · exact Fin.ext k
  · exact absurd e.symm (h j.val i.val j.isLt i.isLt k)
def negN (n : Nt) : Nt := { n with pl := -1 }
theorem neg_pw {O : List Nt} (h : O.Pairwise fun a b => a.cls ≠ b.cls) : (O.map negN).Pairwise fun a b => a.cls ≠ b.cls := by
  rw [List.pairwise_map]; exact h
def goneO (f : Str → Int) (vA vB : List Ev) (went : List Int) : List Nt := (lastsF f vA (keepN (lastsF f vB went) went)).map negN
def ngone (l : Ldg) (a b : Str) : List Nt × Int := if (ldiff l a b).2.2 ≠ 0 then ([], (ldiff l a b).2.2)
  else (srtN (goneO (clsI l.known) (evV l a) (evV l b) (ldiff l a b).1) ++ lastsF (clsI l.known) (evV l b) (ldiff l a b).1, 0)
theorem lastsF_len {f : Str → Int} {v : List Ev} {cs : List Int} : (lastsF f v cs).length ≤ v.length := by
  rw [lastsF, List.length_map]
  refine Nat.le_trans (List.length_filter_le _ _) (by rw [List.length_range]; exact Nat.le_refl _)
def negK (O : List Nt) (i : Nat) : List Nt := (O.take i).map negN ++ O.drop i
theorem negK_zero {O : List Nt} : negK O 0 = O := by simp [negK]
theorem negK_end {O : List Nt} : negK O O.length = O.map negN := by simp [negK]
theorem negK_len {O : List Nt} {i : Nat} : (negK O i).length = O.length := by simp [negK]; omega
theorem negK_at {O : List Nt} {i : Nat} {n : Nt} (h : O[i]? = some n) : (negK O i)[i]? = some n := by
  have hi := (List.getElem?_eq_some_iff.1 h).1
  rw [negK, List.getElem?_append_right (by simp; omega), List.getElem?_drop]
  simp only [List.length_map, List.length_take]
  rw [show i + (i - min i O.length) = i from by omega]; exact h
theorem negK_step {O : List Nt} {i : Nat} {n : Nt} (h : O[i]? = some n) : (negK O i).set i (negN n) = negK O (i + 1) := by
  have hi := (List.getElem?_eq_some_iff.1 h).1
  have hl : ((O.take i).map negN).length = i := by simp; omega
  have hd : O.drop i = n :: O.drop (i + 1) := by rw [List.drop_eq_getElem_cons hi]; congr 1; rw [List.getElem?_eq_getElem hi] at h; exact Option.some.inj h
  rw [negK, negK, List.set_append_right _ _ (by omega), hl, Nat.sub_self, hd, List.set_cons_zero, take_succ h, List.map_append, List.append_assoc]; rfl
end Go.Ab
end
