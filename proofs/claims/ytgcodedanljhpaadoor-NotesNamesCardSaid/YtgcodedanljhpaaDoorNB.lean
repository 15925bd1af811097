/- strings.Builder over memory: what copyCheck, WriteString, WriteByte and String do, exactly, in whatever program bears them. -/
import Derived.Test.YtgcodedanljhpaaDoorAcEff
import Derived.Shelf.Strings.BuilderX
import Derived.Shelf.RegionOpenPlain
import Derived.Lib.Strings
import Derived.Lib.Slices
import Derived.Lib.Walk
import Derived.Lib.Builder
import Derived.Lib.AppendStr
import Derived.Lib.UnsafeStr
import Derived.WalkKit
import Derived.Laws.Externs
import Derived.Laws.BitsLemmas
import Derived.Test.YtgcodedanljhpaaDoorAcFz
import Derived.Test.YtgcodedanljhpaaDoorLA
set_option linter.unusedSimpArgs false
set_option linter.unusedVariables false
section
namespace Go.Ab
open Go Go.Proofs Go.Shelf Go.RowKit
def sCells (s : ByteArray) : List Value := s.data.toList.map fun b => Value.int .u8 b.toNat
theorem sCells_len (s : ByteArray) : (sCells s).length = s.size := by rw [sCells, List.length_map, Array.length_toList]; rfl
theorem sCells_append (s t : ByteArray) : sCells (s ++ t) = sCells s ++ sCells t := by simp [sCells, ByteArray.data_append]
def Buf (w : World) (E : TypeId) (v : Value) (s : ByteArray) : Prop :=
  (v = .slice none 0 0 ∧ s.size = 0) ∨
  ∃ g cap cur, v = .slice (some ⟨g, 0, none⟩) s.size cap ∧ w.heap[g]? = some (.cells cur E (0, 0)) ∧ s.size ≤ cap ∧ s.size ≤ 140737488355328 ∧ cur.size = cap * 1 ∧ cur.toList.take (s.size * 1) = sCells s
structure Only (w w' : World) (p : Nat → Prop) : Prop where
  os : w'.os = w.os
  tape : w'.tape = w.tape
  outs : Outs w w'
  size : w.heap.size ≤ w'.heap.size
  block : ∀ k, k < w.heap.size → ¬ p k → w'.heap[k]? = w.heap[k]?
theorem Only.refl (w : World) (p : Nat → Prop) : Only w w p := ⟨rfl, rfl, .refl _, Nat.le_refl _, fun _ _ _ => rfl⟩
theorem Only.trans {w w1 w2 : World} {p : Nat → Prop} (h : Only w w1 p) (k : Only w1 w2 p) : Only w w2 p :=
  ⟨k.os.trans h.os, k.tape.trans h.tape, k.outs.trans h.outs, Nat.le_trans h.size k.size, fun b hb hn => (k.block b (Nat.lt_of_lt_of_le hb h.size) hn).trans (h.block b hb hn)⟩
theorem Only.mono {w w' : World} {p q : Nat → Prop} (h : Only w w' p) (hq : ∀ k, k < w.heap.size → p k → q k) : Only w w' q := ⟨h.os, h.tape, h.outs, h.size, fun k hk hn => h.block k hk (fun hp => hn (hq k hk hp))⟩
theorem Only.setCell (w : World) (b o : Nat) (v : Value) : Only w (w.setCell ⟨b, o, none⟩ v) (fun k => k = b) :=
  ⟨rfl, rfl, ⟨rfl, Nat.le_refl _⟩, by simp [World.setCell], fun k _ hn => by simp only [World.setCell]; rw [Array.getElem?_modify]; simp [Ne.symm hn]⟩
structure AppR (w : World) (E : TypeId) (v : Value) (a : ByteArray) (v' : Value) (w' : World) : Prop where
  buf : Buf w' E v' a
  only : Only w w' (fun k => v.ownBlock = some k)
  own : v'.ownBlock = none ∨ v'.ownBlock = v.ownBlock ∨ v'.ownBlock = some w.heap.size
theorem run_append_buf {P : Program} {w : World} {t xt ty E : TypeId} {sz by_ : Nat} (ht : ti P t = some ⟨.slice E, sz, by_⟩) (he : ti P E = some ⟨.int .u8, 1, 1⟩) (hx : notIntT P xt = true) (hz : ∀ w, (zeroValue E).run P w = .ok (.int .u8 0) w)
    {v : Value} {a s : ByteArray} (hv : Buf w E v a) (hlen : a.size + s.size ≤ 140737488355328) :
    ∃ v' w', (Builtin.append_ #[t, xt] ty #[v, .string s]).run P w = .ok v' w' ∧ AppR w E v (a ++ s) v' w' := by
  have n1 : ∀ w', (Builtin.lenOf (.string s)).run P w' = .ok s.size w' := fun w' => rfl
  have n2 : ∀ w', w'.heap = w.heap → (Builtin.firstCells (1 : Nat) s.size (.string s)).run P w' = .ok (sCells s).toArray w' := fun w' _ => Lib.run_firstCells_string w' 1 s
  have n3 := sCells_len s
  have n4 : ∀ u ∈ sCells s, one1 u = true := by
    intro u hu
    simp only [sCells, List.mem_map] at hu
    obtain ⟨b, _, rfl⟩ := hu
    rfl
  have hsum : (a ++ s).size = a.size + s.size := by simp
  rcases hv with ⟨rfl, h0⟩ | ⟨g, cap, cur, rfl, hg, hle, hm, hcs, htk⟩
  · by_cases hs : s.size = 0
    · refine ⟨.slice none 0 0, w, ?_, .inl ⟨rfl, by omega⟩, .refl _ _, .inl rfl⟩
      have := run_append_fit (P := P) (w := w) (ty := ty) (A := none) (sLen := 0) (sCap := 0) (n := s.size) (news := sCells s) ht he hx n1 n2 (by omega) (w2 := w) rfl
      rw [this, hs]
    · obtain ⟨c, more, m1, m2, m3⟩ := run_append_new (P := P) (w := w) (ty := ty) (A := none) (sLen := 0) (sCap := 0) (n := s.size) (x := .string s) (olds := []) (news := sCells s) ht he hx hz rfl (by decide) n1
        (fun w' _ => by simp [Builtin.firstCells]) n2 (by omega) (by simpa using (by omega : s.size ≤ 140737488355328)) rfl (by simpa using n3)
      simp only [Nat.zero_add] at m1 m2 m3
      refine ⟨_, _, m3, .inr ⟨w.heap.size, c, _, by rw [hsum, h0, Nat.zero_add], by rw [Array.getElem?_push, if_pos rfl], by rw [hsum, h0, Nat.zero_add]; exact m1, by omega, ?_, ?_⟩, ⟨rfl, rfl, ⟨rfl, Nat.le_succ _⟩, by simp, fun k hk _ => by rw [Array.getElem?_push, if_neg (by omega)]⟩, .inr (.inr rfl)⟩
      · simp [n3, m2]; omega
      · have ha : sCells a = [] := List.eq_nil_of_length_eq_zero (by rw [sCells_len]; exact h0)
        rw [sCells_append, ha]
        simp only [List.nil_append, Array.toList_append, List.toList_toArray]
        rw [List.take_append_of_le_length (by rw [hsum, n3]; omega), List.take_of_length_le (by rw [hsum, n3]; omega)]
  · have hgl : g < w.heap.size := (Array.getElem?_eq_some_iff.1 hg).1
    have hal : (sCells a).length = a.size := sCells_len a
    have holds : ∀ w', w'.heap = w.heap → (Builtin.firstCells 1 a.size (.slice (some ⟨g, 0, none⟩) a.size cap)).run P w' = .ok (sCells a).toArray w' := fun w' hw' => by
      refine run_firstCells_some _ _ _ _ _ _ (sCells a) (by rw [hal, Nat.mul_one]) (fun j v hj => ?_)
      rw [addr_add, cell_heap hw']
      simp only [Nat.zero_add]
      rw [cell_row hg]
      have hj' : j < (cur.toList.take (a.size * 1)).length := by rw [htk]; exact (List.getElem?_eq_some_iff.1 hj).1
      rw [← htk, List.getElem?_take] at hj
      rw [List.length_take] at hj'
      rw [if_pos (by omega)] at hj
      simpa using hj
    by_cases hfit : a.size + s.size ≤ cap
    · have hrun := run_storeCells (P := P) (o := a.size * 1) (sCells s) 0 cur w hg (fun o _ h => by simp at h) (by rw [n3, hcs]; omega) n4
      simp only [Nat.add_zero] at hrun
      refine ⟨.slice (some ⟨g, 0, none⟩) (a.size + s.size) cap, setRow w g (putAllV cur.toList (a.size * 1) (sCells s)) E (0, 0), run_append_fit ht he hx n1 n2 hfit (by simp only []; rw [addr_add]; simpa using hrun), ?_, ⟨rfl, rfl, ⟨rfl, Nat.le_refl _⟩, by rw [setRow_size]; exact Nat.le_refl _, fun k _ hk => setRow_heap_ne (fun e => hk (by simp [Value.ownBlock, e]))⟩, .inr (.inl rfl)⟩
      refine .inr ⟨g, cap, _, by rw [hsum], setRow_heap_self hgl, by rw [hsum]; exact hfit, by omega, by simp [putAllV_length, hcs], ?_⟩
      apply List.ext_getElem?
      intro j
      rw [List.getElem?_take, sCells_append]
      simp only [List.toList_toArray]
      by_cases hj : j < a.size
      · rw [if_pos (by rw [hsum]; omega), putAllV_out _ _ _ _ (.inl (by omega)), List.getElem?_append_left (by omega), ← htk, List.getElem?_take, if_pos (by omega)]
      · by_cases hj2 : j < a.size + s.size
        · rw [if_pos (by rw [hsum]; omega), List.getElem?_append_right (by omega), hal]
          have := putAllV_in (sCells s) cur.toList (a.size * 1) (j - a.size) (by rw [n3, Array.length_toList, hcs]; omega) (by omega)
          rw [show a.size * 1 + (j - a.size) = j from by omega] at this
          exact this
        · rw [if_neg (by rw [hsum]; omega), List.getElem?_eq_none (by rw [List.length_append]; omega)]
    · obtain ⟨c, more, m1, m2, m3⟩ := run_append_new (P := P) (w := w) (ty := ty) (A := some ⟨g, 0, none⟩) (sLen := a.size) (sCap := cap) (n := s.size) (x := .string s) (olds := sCells a) (news := sCells s) ht he hx hz rfl (by decide) n1
        holds n2 (by omega) (by simpa using hlen) (by rw [hal, Nat.mul_one]) (by rw [n3, Nat.mul_one])
      refine ⟨_, _, m3, .inr ⟨w.heap.size, c, _, by rw [hsum], by rw [Array.getElem?_push, if_pos rfl], by rw [hsum]; exact m1, by omega, ?_, ?_⟩, ⟨rfl, rfl, ⟨rfl, Nat.le_succ _⟩, by simp, fun k hk _ => by rw [Array.getElem?_push, if_neg (by omega)]⟩, .inr (.inr rfl)⟩
      · simp [n3, hal, m2]; omega
      · rw [sCells_append]
        simp only [Array.toList_append, List.toList_toArray]
        rw [List.take_append_of_le_length (by rw [hsum, List.length_append]; omega), List.take_of_length_le (by rw [hsum, List.length_append]; omega)]
def BldAt (w : World) (T E : TypeId) (b : Nat) (p v : Value) (s : ByteArray) : Prop :=
  w.heap[b]? = some (.cells #[p, v] T (0, 0)) ∧ Buf w E v s ∧ v.ownBlock ≠ some b
theorem Buf.kept {w w' : World} {E : TypeId} {v : Value} {s : ByteArray} {q : Nat → Prop} (h : Buf w E v s) (hw : Only w w' q) (hn : ∀ g, v.ownBlock = some g → ¬ q g) : Buf w' E v s := by
  rcases h with h | ⟨g, cap, cur, rfl, h1, h2⟩
  · exact .inl h
  · exact .inr ⟨g, cap, cur, rfl, by rw [hw.block g (Array.getElem?_eq_some_iff.1 h1).1 (hn g rfl)]; exact h1, h2⟩
section
variable {P : Program} {ρ : Ren}
structure BldY (P : Program) (ρ : Ren) : Prop where
  mixed : P.follows .mixedOrders = true
  f166 : P.funcs[ρ.f 166]? = some (Body.n166 ρ)
  f169 : P.funcs[ρ.f 169]? = some (Body.n169 ρ)
  f240 : P.funcs[ρ.f 240]? = some (Body.n240 ρ)
  f276 : P.funcs[ρ.f 276]? = some (Body.n276 ρ)
  t72 : P.underlying (ρ.t 72) = some (TypeDesc.struct #[{ name := "addr", type := ρ.t 70, offset := 0, embedded := false, tag := "", pkgPath := "strings", byteOffset := 0 }, { name := "buf", type := ρ.t 37, offset := 1, embedded := false, tag := "", pkgPath := "strings", byteOffset := 8 }])
  a72 : ∀ w, (isAgg (ρ.t 72)).run P w = .ok true w
  z72 : ∀ w, (Go.sizeOf (ρ.t 72)).run P w = .ok 2 w
  v72 : ∀ w, (zeroValue (ρ.t 72)).run P w = .ok (Value.agg #[Value.pointer none, Value.slice none 0 0]) w
  t70 : P.underlying (ρ.t 70) = some (TypeDesc.pointer (ρ.t 72))
  a70 : ∀ w, (isAgg (ρ.t 70)).run P w = .ok false w
  z70 : ∀ w, (Go.sizeOf (ρ.t 70)).run P w = .ok 1 w
  v70 : ∀ w, (zeroValue (ρ.t 70)).run P w = .ok (Value.pointer none) w
  t37 : P.underlying (ρ.t 37) = some (TypeDesc.slice (ρ.t 5))
  a37 : ∀ w, (isAgg (ρ.t 37)).run P w = .ok false w
  z37 : ∀ w, (Go.sizeOf (ρ.t 37)).run P w = .ok 1 w
  v37 : ∀ w, (zeroValue (ρ.t 37)).run P w = .ok (Value.slice none 0 0) w
  t3 : P.underlying (ρ.t 3) = some (TypeDesc.int IntKind.i64)
  a3 : ∀ w, (isAgg (ρ.t 3)).run P w = .ok false w
  z3 : ∀ w, (Go.sizeOf (ρ.t 3)).run P w = .ok 1 w
  v3 : ∀ w, (zeroValue (ρ.t 3)).run P w = .ok (Value.int IntKind.i64 0) w
  t9 : P.underlying (ρ.t 9) = some (TypeDesc.string)
  a9 : ∀ w, (isAgg (ρ.t 9)).run P w = .ok false w
  z9 : ∀ w, (Go.sizeOf (ρ.t 9)).run P w = .ok 1 w
  v9 : ∀ w, (zeroValue (ρ.t 9)).run P w = .ok (Value.string { data := #[] }) w
  t4 : P.underlying (ρ.t 4) = some (TypeDesc.bool)
  a4 : ∀ w, (isAgg (ρ.t 4)).run P w = .ok false w
  z4 : ∀ w, (Go.sizeOf (ρ.t 4)).run P w = .ok 1 w
  v4 : ∀ w, (zeroValue (ρ.t 4)).run P w = .ok (Value.bool false) w
  t164 : P.underlying (ρ.t 164) = some (TypeDesc.unsafePointer)
  a164 : ∀ w, (isAgg (ρ.t 164)).run P w = .ok false w
  z164 : ∀ w, (Go.sizeOf (ρ.t 164)).run P w = .ok 1 w
  v164 : ∀ w, (zeroValue (ρ.t 164)).run P w = .ok (Value.pointer none) w
  t127 : P.underlying (ρ.t 127) = some (TypeDesc.pointer (ρ.t 5))
  a127 : ∀ w, (isAgg (ρ.t 127)).run P w = .ok false w
  z127 : ∀ w, (Go.sizeOf (ρ.t 127)).run P w = .ok 1 w
  v127 : ∀ w, (zeroValue (ρ.t 127)).run P w = .ok (Value.pointer none) w
structure BldX (P : Program) (ρ : Ren) (T : TypeId) : Prop extends Builder.Extra P ρ where
  lies : liesAt P P.depth T (2 / P.cellsOf T) 0 (ρ.t 72) 1 = true
  row : ti P (ρ.t 37) = some ⟨.slice (ρ.t 5), 1, 24⟩
  byte : ti P (ρ.t 5) = some ⟨.int .u8, 1, 1⟩
  str : notIntT P (ρ.t 9) = true
  two : ρ.t 5 ≠ T
set_option maxHeartbeats 1000000 in
set_option maxRecDepth 100000 in
theorem W_copyCheck (L : BldY P ρ) {T : TypeId} (X : BldX P ρ T) (b : Nat) (w : World) {p v : Value} {s : ByteArray} (h : BldAt w T (ρ.t 5) b p v s) (hp : p = .pointer none ∨ p = .pointer (some ⟨b, 0, none⟩)) :
    Calls P (ρ.f 240) #[.pointer (some ⟨b, 0, none⟩)] w fun e w' => e = .returned (.tuple #[]) ∧ BldAt w' T (ρ.t 5) b (.pointer (some ⟨b, 0, none⟩)) v s ∧ Only w w' (fun k => k = b) := by
  obtain ⟨j, hj, hjs⟩ := Option.map_eq_some_iff.1 X.sizeBuilder
  obtain ⟨hb, hbuf, hne⟩ := h
  have hsh : w.shape? b = some (T, 2) := by simp [World.shape?, hb]
  have mixed := L.mixed
  have t72 := L.t72; have a72 := L.a72; have z72 := L.z72; have v72 := L.v72; have u72 := Go.run_underlying L.t72
  have t70 := L.t70; have a70 := L.a70; have z70 := L.z70; have v70 := L.v70; have u70 := Go.run_underlying L.t70
  have t9 := L.t9; have a9 := L.a9; have z9 := L.z9; have v9 := L.v9; have u9 := Go.run_underlying L.t9
  have t4 := L.t4; have a4 := L.a4; have z4 := L.z4; have v4 := L.v4; have u4 := Go.run_underlying L.t4
  have t164 := L.t164; have a164 := L.a164; have z164 := L.z164; have v164 := L.v164; have u164 := Go.run_underlying L.t164
  rcases hp with rfl | rfl
  · have h0 : w.cell? ⟨b, 0, none⟩ = some (.pointer none) := by rw [Lib.cell_of_heap hb]; rfl
    have hfz : w.frozen? ⟨b, 0, none⟩ = false := Lib.frozen_of_heap hb 0
    go_enter L.f240, Body.n240_ntmps ρ
    go_wp2
    rw [Lib.run_to_unsafe w ⟨b, 0, none⟩ L.t70 L.t164 hj (by rw [hjs]; decide) hsh (Nat.zero_lt_succ 1)]
    simp only [Result.andThen]
    rw [Oper.upon_value]
    go_wp2
    rw [run_callFunc_extern L.f276 (by kernel_rfl) (by kernel_rfl) (by kernel_rfl) (e := Extern.AbiNoEscape.same) (by kernel_rfl)]
    rw [Lib.run_noEscape]
    simp only [Result.andThen]
    rw [Oper.upon_value]
    go_wp2
    rw [Lib.run_from_unsafe w ⟨b, 0, none⟩ L.t164 L.t70 hj hsh X.lies]
    simp only [Result.andThen]
    rw [Oper.upon_value]
    go_wp2
    go_end0
    have hO := Only.setCell w b 0 (.pointer (some ⟨b, 0, none⟩))
    exact ⟨rfl, ⟨by simp [World.setCell, Array.getElem?_modify, hb], hbuf.kept hO (fun g hg e => hne (e ▸ hg)), hne⟩, hO⟩
  · have h0 : w.cell? ⟨b, 0, none⟩ = some (.pointer (some ⟨b, 0, none⟩)) := by rw [Lib.cell_of_heap hb]; rfl
    go_enter L.f240, Body.n240_ntmps ρ
    go_wp2
    rw [Lib.run_neq_ptr_same w _ L.t70 hj]
    go_wp2
    go_end0
    exact ⟨rfl, ⟨hb, hbuf, hne⟩, .refl _ _⟩
theorem wpList_append_buf {ops : Array Oper} {rest : List Oper} {o : Oper} {a : Act} {w : World} {Q : Exit → Act → World → Prop} (hgd : o.guard = none) (sl x : Operand) (t u : TypeId)
    (ho : o.op = .call { callee := .builtin .append, args := #[sl, x], argTypes := #[t, u] }) {v : Value} (s : ByteArray) (hs : a.eval sl = v) (hx : a.eval x = .string s)
    {R : Value → World → Prop} (hr : ∀ ty, ∃ v' w', (Builtin.append_ #[t, u] ty #[v, .string s]).run P w = .ok v' w' ∧ R v' w') (h : ∀ v' w', R v' w' → wpList P ops Q rest (a.put o.dst v') w') : wpList P ops Q (o :: rest) a w := by
  refine wpList_plain hgd fun K hK => ?_
  obtain ⟨v', w', hr, hR⟩ := hr o.type
  unfold Oper.wp execOp
  simp only [ho, resolve, invoke, builtin, Sem.run_bind, Sem.run_pure, Result.andThen_ok, List.map_toArray, List.map_cons, List.map_nil, hs, hx, hr]
  exact hK _ _ (h v' w' hR)
theorem shape_of {w : World} {g : Nat} {cur : Array Value} {e : TypeId} {fr : Nat × Nat} (h : w.heap[g]? = some (.cells cur e fr)) : w.shape? g = some (e, cur.size) := by simp [World.shape?, h]
set_option maxHeartbeats 2000000 in
set_option maxRecDepth 100000 in
theorem W_WriteString (L : BldY P ρ) {T : TypeId} (X : BldX P ρ T) (b : Nat) (s t : ByteArray) (w : World) {p v : Value} (h : BldAt w T (ρ.t 5) b p v s) (hp : p = .pointer none ∨ p = .pointer (some ⟨b, 0, none⟩)) (hlen : s.size + t.size ≤ 140737488355328) :
    Calls P (ρ.f 166) #[.pointer (some ⟨b, 0, none⟩), .string t] w fun e w' => e = .returned (.tuple #[.int .i64 t.size, .nilIface]) ∧ ∃ v', BldAt w' T (ρ.t 5) b (.pointer (some ⟨b, 0, none⟩)) v' (s ++ t) ∧
      Only w w' (fun k => k = b ∨ v.ownBlock = some k) ∧ (v'.ownBlock = none ∨ v'.ownBlock = v.ownBlock ∨ ∃ g, v'.ownBlock = some g ∧ w.heap.size ≤ g) := by
  have mixed := L.mixed
  have t72 := L.t72; have a72 := L.a72; have z72 := L.z72; have v72 := L.v72; have u72 := Go.run_underlying L.t72
  have t70 := L.t70; have a70 := L.a70; have z70 := L.z70; have v70 := L.v70; have u70 := Go.run_underlying L.t70
  have t37 := L.t37; have a37 := L.a37; have z37 := L.z37; have v37 := L.v37; have u37 := Go.run_underlying L.t37
  have t3 := L.t3; have a3 := L.a3; have z3 := L.z3; have v3 := L.v3; have u3 := Go.run_underlying L.t3
  have t9 := L.t9; have a9 := L.a9; have z9 := L.z9; have v9 := L.v9; have u9 := Go.run_underlying L.t9
  have t4 := L.t4; have a4 := L.a4; have z4 := L.z4; have v4 := L.v4; have u4 := Go.run_underlying L.t4
  have t164 := L.t164; have a164 := L.a164; have z164 := L.z164; have v164 := L.v164; have u164 := Go.run_underlying L.t164
  have t5 := X.t5; have a5 := X.a5; have z5 := X.z5; have v5 := X.v5; have u5 := Go.run_underlying X.t5
  have e240 : ∀ args w, (callFunc (ρ.f 240) args).run P w = .ok (.enter (ρ.f 240) args) w := enters_of L.f240 (by kernel_rfl) rfl
  have hblt : b < w.heap.size := (Array.getElem?_eq_some_iff.1 h.1).1
  go_enter L.f166, Body.n166_ntmps ρ
  go_wp2_with (go_at_fn (ρ.f 240); refine (W_copyCheck L X b _ h hp).mono ?_)
  rintro e w1 ⟨rfl, ⟨hbk, hbuf, hne⟩, hO1⟩
  have c0 : w1.cell? ⟨b, 0, none⟩ = some (.pointer (some ⟨b, 0, none⟩)) := by rw [Lib.cell_of_heap hbk]; rfl
  have c1 : w1.cell? ⟨b, 1, none⟩ = some v := by rw [Lib.cell_of_heap hbk]; rfl
  have hrun := fun ty => run_append_buf (P := P) (w := w1) (ty := ty) X.row X.byte X.str X.v5 hbuf hlen
  go_wp2_with (at_builtin; refine wpList_append_buf rfl _ _ (ρ.t 37) (ρ.t 9) rfl (v := v) t rfl rfl hrun ?_)
  rintro v' w2 ⟨hbuf2, hO2, hg2⟩
  have hblt1 : b < w1.heap.size := Nat.lt_of_lt_of_le hblt hO1.size
  have hb2 : w2.heap[b]? = some (.cells #[.pointer (some ⟨b, 0, none⟩), v] T (0, 0)) := by
    rw [hO2.block b hblt1 (fun e => hne e)]; exact hbk
  have d0 : w2.cell? ⟨b, 0, none⟩ = some (.pointer (some ⟨b, 0, none⟩)) := by rw [Lib.cell_of_heap hb2]; rfl
  have d1 : w2.cell? ⟨b, 1, none⟩ = some v := by rw [Lib.cell_of_heap hb2]; rfl
  have f1 : w2.frozen? ⟨b, 1, none⟩ = false := Lib.frozen_of_heap hb2 1
  have hne2 : v'.ownBlock ≠ some b := by
    rcases hg2 with h | h | h <;> rw [h]
    · simp
    · exact hne
    · simp; omega
  obtain ⟨ao, n', cap, rfl⟩ : ∃ ao n' cap, v' = .slice ao n' cap := by
    rcases hbuf2 with hv | ⟨g, cap, cur, hv, _⟩
    · exact ⟨_, _, _, hv.1⟩
    · exact ⟨_, _, _, hv⟩
  go_wp2
  go_ret2
  have hO3 := Only.setCell w2 b 1 (.slice ao n' cap)
  refine ⟨rfl, _, ⟨by simp [World.setCell, Array.getElem?_modify, hb2], hbuf2.kept hO3 (fun g hg e => hne2 (e ▸ hg)), hne2⟩, ?_, ?_⟩
  · exact ((hO1.mono fun k _ e => .inl e).trans (hO2.mono fun k _ e => .inr e)).trans (hO3.mono fun k _ e => .inl e)
  · rcases hg2 with h | h | h
    · exact .inl h
    · exact .inr (.inl h)
    · exact .inr (.inr ⟨_, h, hO1.size⟩)
set_option maxHeartbeats 2000000 in
set_option maxRecDepth 100000 in
theorem W_String (L : BldY P ρ) {T : TypeId} (X : BldX P ρ T) (b : Nat) (s : ByteArray) (w : World) {p v : Value} (h : BldAt w T (ρ.t 5) b p v s) :
    Calls P (ρ.f 169) #[.pointer (some ⟨b, 0, none⟩)] w fun e w' => e = .returned (.string s) ∧ Only w w' (fun k => v.ownBlock = some k) := by
  obtain ⟨hbk, hbuf, hne⟩ := h
  have hblt : b < w.heap.size := (Array.getElem?_eq_some_iff.1 hbk).1
  have hUS : ∀ (W : World) (q : Option Addr), (Builtin.unsafeString_ #[(ρ.t 127), (ρ.t 3)] (ρ.t 9) #[.pointer q, .int .i64 0]).run P W = .ok (.string .empty) W := fun W q => Lib.run_unsafeString_none W _ _ _ q
  have mixed := L.mixed
  have t72 := L.t72; have a72 := L.a72; have z72 := L.z72; have v72 := L.v72; have u72 := Go.run_underlying L.t72
  have t70 := L.t70; have a70 := L.a70; have z70 := L.z70; have v70 := L.v70; have u70 := Go.run_underlying L.t70
  have t37 := L.t37; have a37 := L.a37; have z37 := L.z37; have v37 := L.v37; have u37 := Go.run_underlying L.t37
  have t127 := L.t127; have a127 := L.a127; have z127 := L.z127; have v127 := L.v127; have u127 := Go.run_underlying L.t127
  have t3 := L.t3; have a3 := L.a3; have z3 := L.z3; have v3 := L.v3; have u3 := Go.run_underlying L.t3
  have t9 := L.t9; have a9 := L.a9; have z9 := L.z9; have v9 := L.v9; have u9 := Go.run_underlying L.t9
  have t5 := X.t5; have a5 := X.a5; have z5 := X.z5; have v5 := X.v5; have u5 := Go.run_underlying X.t5
  have hdrew : Only w w.drew (fun k => v.ownBlock = some k) := ⟨rfl, rfl, ⟨rfl, Nat.le_succ _⟩, Nat.le_refl _, fun _ _ _ => rfl⟩
  rcases hbuf with ⟨rfl, h0⟩ | ⟨g, cap, cur, rfl, hg, hle, hm, hcs, htake⟩
  · have hs : s = .empty := by
      apply ByteArray.ext; apply Array.eq_empty_of_size_eq_zero; exact h0
    subst hs
    have c1 : w.drew.cell? ⟨b, 1, none⟩ = some (.slice none 0 0) := by
      have : w.drew.heap[b]? = some (.cells #[p, .slice none 0 0] T (0, 0)) := hbk
      rw [Lib.cell_of_heap this]; rfl
    have hSD : (Builtin.unsafeSliceData_ #[(ρ.t 37)] (ρ.t 127) #[.slice none 0 0]).run P w.drew = .ok (.pointer none) w.drew := rfl
    go_enter L.f169, Body.n169_ntmps ρ
    go_wp2
    go_region_o
    all_goals (go_wp2; go_ret; exact ⟨rfl, hdrew⟩)
  · have hgl : g < w.heap.size := (Array.getElem?_eq_some_iff.1 hg).1
    have c1 : w.drew.cell? ⟨b, 1, none⟩ = some (.slice (some ⟨g, 0, none⟩) s.size cap) := by
      have : w.drew.heap[b]? = some (.cells #[p, .slice (some ⟨g, 0, none⟩) s.size cap] T (0, 0)) := hbk
      rw [Lib.cell_of_heap this]; rfl
    have hg' : w.drew.heap[g]? = some (.cells cur (ρ.t 5) (0, 0)) := hg
    by_cases hs0 : s.size = 0
    · have hs : s = .empty := by
        apply ByteArray.ext; apply Array.eq_empty_of_size_eq_zero; exact hs0
      subst hs
      have e0 : (ByteArray.empty.size : Nat) = 0 := rfl
      rw [e0] at c1 hbk hle htake
      by_cases hc0 : cap = 0
      · subst hc0
        have hSD : (Builtin.unsafeSliceData_ #[(ρ.t 37)] (ρ.t 127) #[.slice (some ⟨g, 0, none⟩) 0 0]).run P w.drew = .ok (.pointer (some ⟨w.drew.heap.size, 0, none⟩)) (w.drew.alloc (.view ⟨g, 0, none⟩ (ρ.t 5))) :=
          Lib.run_unsafeSliceData_zero w.drew _ _ (ρ.t 5) L.t127 ⟨g, 0, none⟩ 0 ((ρ.t 5), cur.size) (shape_of hg')
        have c2 : (w.drew.alloc (.view ⟨g, 0, none⟩ (ρ.t 5))).cell? ⟨b, 1, none⟩ = some (.slice (some ⟨g, 0, none⟩) 0 0) := by
          have : (w.drew.alloc (.view ⟨g, 0, none⟩ (ρ.t 5))).heap[b]? = _ := (Lib.alloc_old w.drew _ b hblt).trans hbk
          rw [Lib.cell_of_heap this]; rfl
        have c3 : (w.alloc (.view ⟨g, 0, none⟩ (ρ.t 5))).drew.cell? ⟨b, 1, none⟩ = some (.slice (some ⟨g, 0, none⟩) 0 0) := c2
        have c0 : w.cell? ⟨b, 1, none⟩ = some (.slice (some ⟨g, 0, none⟩) 0 0) := c1
        have hall : Only w (w.drew.alloc (.view ⟨g, 0, none⟩ (ρ.t 5))) (fun k => (Value.slice (some ⟨g, 0, none⟩) (ByteArray.empty.size) 0).ownBlock = some k) :=
          ⟨rfl, rfl, ⟨rfl, Nat.le_succ _⟩, by show w.heap.size ≤ (w.heap.push _).size; rw [Array.size_push]; omega, fun k hk _ => (Lib.alloc_old w.drew _ k hk)⟩
        go_enter L.f169, Body.n169_ntmps ρ
        go_wp2
        go_region_o
        all_goals (go_wp2; go_ret; exact ⟨rfl, hall⟩)
      · have hSD : (Builtin.unsafeSliceData_ #[(ρ.t 37)] (ρ.t 127) #[.slice (some ⟨g, 0, none⟩) 0 cap]).run P w.drew = .ok (.pointer (some ⟨g, 0, none⟩)) w.drew :=
          Lib.run_unsafeSliceData_row _ _ _ _ _ _ hc0
        clear hc0
        go_enter L.f169, Body.n169_ntmps ρ
        go_wp2
        go_region_o
        all_goals (go_wp2; go_ret; exact ⟨rfl, hdrew⟩)
    · have hl : s.data.toList.length = s.size := by rw [Array.length_toList]; rfl
      have hSD : (Builtin.unsafeSliceData_ #[(ρ.t 37)] (ρ.t 127) #[.slice (some ⟨g, 0, none⟩) s.size cap]).run P w.drew = .ok (.pointer (some ⟨g, 0, none⟩)) w.drew :=
        Lib.run_unsafeSliceData_row _ _ _ _ _ _ (by omega)
      have hUS2 : (Builtin.unsafeString_ #[(ρ.t 127), (ρ.t 3)] (ρ.t 9) #[.pointer (some ⟨g, 0, none⟩), .int .i64 s.size]).run P w.drew = .ok (.string s) (w.drew.freeze ⟨g, 0, none⟩ s.size) := by
        have := Lib.run_unsafeString_row w.drew (ρ.t 127) (ρ.t 3) (ρ.t 9) (ρ.t 5) L.t127 X.cellsByte g cur.size (shape_of hg') s.data.toList (by intro e; rw [e] at hl; simp at hl; omega) (by omega) (by omega) (by
          intro j x hx
          rw [show ((⟨g, 0, none⟩ : Addr).add j) = ⟨g, j, none⟩ from by unfold Addr.add; split <;> simp_all]
          rw [Lib.cell_of_heap hg']
          have hj : j < s.size := by rw [← hl]; exact (List.getElem?_eq_some_iff.1 hx).1
          have h1 : (cur.toList.take (s.size * 1))[j]? = (sCells s)[j]? := by rw [htake]
          rw [List.getElem?_take, if_pos (by omega), sCells, List.getElem?_map, hx] at h1
          simpa using h1)
        rw [hl] at this
        simpa using this
      have hfrz : Only w (w.drew.freeze ⟨g, 0, none⟩ s.size) (fun k => (Value.slice (some ⟨g, 0, none⟩) s.size cap).ownBlock = some k) := by
        unfold World.freeze
        split
        · exact hdrew
        · refine ⟨rfl, rfl, ⟨rfl, Nat.le_succ _⟩, by show w.heap.size ≤ (w.heap.modify _ _).size; rw [Array.size_modify]; exact Nat.le_refl _, fun k hk hn => ?_⟩
          simp only [Array.getElem?_modify]
          rw [if_neg (fun e => hn (by simp [Value.ownBlock, e]))]
          rfl
      go_enter L.f169, Body.n169_ntmps ρ
      go_wp2
      go_region_o
      all_goals (go_wp2; go_ret; exact ⟨rfl, hfrz⟩)
end
end Go.Ab
end

section
/- Abstract values: strings.Builder: contracts of WriteString and String on a builder of own memory. -/
namespace Go.Ab
open Go Go.Proofs Go.Shelf
section
variable {C : Ctx} {N : Nat} {κ : Kn} {st : St} {a : Act} {w : World} {ρ : Ren}
theorem bld_at {i r T E : Nat} {s : ByteArray} {L : Loc} (h : SimBlk κ w i (.bld r T E s)) (hL : κ.loc i 0 = some L) :
    L.real = true ∧ L.base = 0 ∧ ∃ p v, BldAt w T E L.blk p v s ∧ (p = .pointer none ∨ p = .pointer (some ⟨L.blk, 0, none⟩)) ∧ (∀ k, v.ownBlock = some k → BlkAt κ i (.bld r T E s) k) ∧ ((r = i ∧ v.ownBlock = none) ∨ ∃ M, κ.loc r 0 = some M ∧ M.real = true ∧ v.ownBlock = some M.blk) := by
  obtain ⟨L', p, v, h1, h2, h3, h4, h5, h6⟩ := h
  rw [hL] at h1; cases h1
  refine ⟨h2, h3, p, v, ⟨h4, ?_, ?_⟩, h5, ?_, ?_⟩
  · rcases h6 with ⟨_, h7, h8⟩ | ⟨M, cap, cur, _, _, _, h7, h8⟩
    · exact .inl ⟨h7, h8⟩
    · exact .inr ⟨_, cap, cur, h7, h8⟩
  · rcases h6 with ⟨_, h7, h8⟩ | ⟨M, cap, cur, _, _, h9, h7, h8⟩
    · rw [h7]; simp [Value.ownBlock]
    · rw [h7]; simpa [Value.ownBlock] using h9
  · intro k hk
    rcases h6 with ⟨_, h7, h8⟩ | ⟨M, cap, cur, g1, g2, h9, h7, h8⟩
    · rw [h7] at hk; simp [Value.ownBlock] at hk
    · rw [h7] at hk
      simp only [Value.ownBlock, Option.some.injEq] at hk
      exact ⟨r, M, .inr rfl, g1, g2, hk⟩
  · rcases h6 with ⟨h6, h7, h8⟩ | ⟨M, cap, cur, g1, g2, h9, h7, h8⟩
    · exact .inl ⟨h6, by rw [h7]; rfl⟩
    · exact .inr ⟨M, g1, g2, by rw [h7]; rfl⟩
theorem bld_write (L : BldY C.P ρ) {T : TypeId} (X : BldX C.P ρ T) (hg : isGo C.P (ρ.f 166) = true) {σ : Store} {nx id r : Nat} {s t : ByteArray} (hσ : σ id = some (.bld r T (ρ.t 5) s)) (hlen : s.size + t.size ≤ 140737488355328) :
    StSpec C (ρ.f 166) [.ptr id 0 0 0, .lit (.string t)] σ nx (fun q σ' nx' => q = .tup [.lit (.int .i64 t.size), .lit .nilIface] ∧ ∃ r', nx ≤ nx' ∧ σ' = σ.put id (.bld r' T (ρ.t 5) (s ++ t))) := by
  refine ⟨hg, fun κ w vs hS hr => ?_⟩
  simp only [RelList] at hr
  obtain ⟨v1, _, rfl, h1, v2, _, rfl, h2, rfl⟩ := hr
  simp only [Rel] at h1 h2
  obtain ⟨L0, hL0, hreal, rfl⟩ := h1
  obtain ⟨rfl, _⟩ := h2
  obtain ⟨hid, hB⟩ := hS.blk id _ hσ
  simp only at hid
  obtain ⟨_, hbase, p, v, hat, hp, hown, hloc⟩ := bld_at hB hL0
  have e0 : (⟨L0.blk, L0.base + 0 * L0.sz + 0, none⟩ : Addr) = ⟨L0.blk, 0, none⟩ := by rw [hbase]; simp
  rw [e0]
  refine (W_WriteString L X L0.blk s t w hat hp hlen).mono ?_
  rintro e w' ⟨rfl, v', ⟨hb', hbuf', hne'⟩, hO, hv'⟩
  have hself0 : BlkAt κ id (.bld r T (ρ.t 5) s) L0.blk := ⟨id, L0, .inl rfl, hL0, hreal, rfl⟩
  have hother : ∀ b, b < w.heap.size → ¬ BlkAt κ id (.bld r T (ρ.t 5) s) b → w'.heap[b]? = w.heap[b]? := fun b hb hn => hO.block b hb (by
    rintro (rfl | h)
    · exact hn hself0
    · exact hn (hown b h))
  have fin : ∀ (r' nx' : Nat) (κ' : Kn), κ.le κ' → κ'.fz = κ.fz → κ'.mloc = κ.mloc → nx ≤ nx' → (∀ i v, i < nx → κ'.loc i v = κ.loc i v) → (∀ i v, nx' ≤ i → κ'.loc i v = none) →
      (∀ b, BlkAt κ' id (.bld r' T (ρ.t 5) (s ++ t)) b → BlkAt κ id (.bld r T (ρ.t 5) s) b ∨ w.heap.size ≤ b) → SimBlk κ' w' id (.bld r' T (ρ.t 5) (s ++ t)) →
      ∃ v q κ' σ' nx', Ending.returned (Value.tuple #[.int .i64 t.size, .nilIface]) = .returned v ∧ (q = .tup [.lit (.int .i64 t.size), .lit .nilIface] ∧ ∃ r', nx ≤ nx' ∧ σ' = σ.put id (.bld r' T (ρ.t 5) (s ++ t))) ∧ Sim C 0 κ' ⟨fun _ => none, σ', nx'⟩ { tmps := #[], defers := [] } w' ∧ Evo κ σ w κ' σ' w' ∧ Rel κ' w' q v := by
    intro r' nx' κ' k1 k2 k3 k4 k5 k6 k7 k8
    have := hS.swap (B' := .bld r' T (ρ.t 5) (s ++ t)) (w' := w') (κ' := κ') (nx' := nx') hσ rfl rfl (fun _ _ _ _ e => by cases e) k1 k2 k3 k4 k5 k6 hO.size hother k7 k8
    exact ⟨_, _, κ', _, nx', rfl, ⟨rfl, r', k4, rfl⟩, this.1, this.2 hO.os hO.tape hO.outs, by simp [Rel, RelList, ground]⟩
  have hold : (hE : v'.ownBlock = v.ownBlock) → SimBlk κ w' id (.bld r T (ρ.t 5) (s ++ t)) := fun hE => by
    refine ⟨L0, _, v', hL0, hreal, hbase, hb', .inr rfl, ?_⟩
    rcases hloc with ⟨rfl, h⟩ | ⟨M, g1, g2, h⟩
    · rcases hbuf' with ⟨k1, k2⟩ | ⟨g, cap, cur, rfl, _⟩
      · exact .inl ⟨rfl, k1, k2⟩
      · rw [h] at hE; simp [Value.ownBlock] at hE
    · rcases hbuf' with ⟨rfl, k2⟩ | ⟨g, cap, cur, rfl, k⟩
      · rw [h] at hE; simp [Value.ownBlock] at hE
      · rw [h] at hE
        simp only [Value.ownBlock, Option.some.injEq] at hE
        subst hE
        exact .inr ⟨M, cap, cur, g1, g2, fun e => hne' (by simp [Value.ownBlock, e]), rfl, k⟩
  have hfr := fun i v (h : nx ≤ i) => (hS.fresh i v h).1
  rcases hv' with hv' | hv' | ⟨g, hv', hgs⟩
  · refine fin id nx κ (.refl κ) rfl rfl (Nat.le_refl _) (fun _ _ _ => rfl) hfr ?_ ?_
    · rintro b ⟨j, L', hj, k1, k2, k3⟩
      have hj : j = id := hj.elim _root_.id _root_.id
      subst hj
      exact .inl ⟨j, L', .inl rfl, k1, k2, k3⟩
    · refine ⟨L0, _, v', hL0, hreal, hbase, hb', .inr rfl, .inl ⟨rfl, ?_⟩⟩
      rcases hbuf' with k | ⟨g, cap, cur, rfl, _⟩
      · exact k
      · simp [Value.ownBlock] at hv'
  · exact fin r nx κ (.refl κ) rfl rfl (Nat.le_refl _) (fun _ _ _ => rfl) hfr (fun b hb => .inl hb) (hold hv')
  · have hle : κ.le (withLoc κ nx 0 ⟨true, g, 0, 1, 0, 0⟩) := withLoc_le (hfr nx 0 (Nat.le_refl _))
    have hlt : L0.blk < w.heap.size := (Array.getElem?_eq_some_iff.1 hat.1).1
    refine fin nx (nx + 1) (withLoc κ nx 0 ⟨true, g, 0, 1, 0, 0⟩) hle rfl rfl (Nat.le_succ _) ?_ ?_ ?_ ?_
    · intro i v hi
      simp only [withLoc]
      rw [if_neg (by omega)]
    · intro i v hi
      simp only [withLoc]
      rw [if_neg (by omega)]
      exact hfr i v (by omega)
    · rintro b ⟨j, L', hj, k1, k2, k3⟩
      rcases hj with rfl | rfl
      · simp only [withLoc] at k1
        rw [if_neg (by omega)] at k1
        exact .inl ⟨j, L', .inl rfl, k1, k2, k3⟩
      · simp only [withLoc, and_self, if_true, Option.some.injEq] at k1
        subst k1
        exact .inr (by rw [← k3]; exact hgs)
    · refine ⟨L0, _, v', hle.loc _ _ _ hL0, hreal, hbase, hb', .inr rfl, .inr ?_⟩
      rcases hbuf' with ⟨rfl, _⟩ | ⟨g', cap, cur, rfl, k⟩
      · simp [Value.ownBlock] at hv'
      · simp only [Value.ownBlock, Option.some.injEq] at hv'
        subst hv'
        exact ⟨⟨true, g', 0, 1, 0, 0⟩, cap, cur, by simp [withLoc], rfl, by simp only; omega, rfl, k⟩
theorem bld_string (L : BldY C.P ρ) {T : TypeId} (X : BldX C.P ρ T) (hg : isGo C.P (ρ.f 169) = true) {σ : Store} {nx id r : Nat} {s : ByteArray} (hσ : σ id = some (.bld r T (ρ.t 5) s)) :
    StSpec C (ρ.f 169) [.ptr id 0 0 0] σ nx (fun q σ' nx' => q = .lit (.string s) ∧ nx' = nx ∧ σ' = fun j => if j = id then none else σ j) := by
  refine ⟨hg, fun κ w vs hS hr => ?_⟩
  simp only [RelList] at hr
  obtain ⟨v1, _, rfl, h1, rfl⟩ := hr
  simp only [Rel] at h1
  obtain ⟨L0, hL0, hreal, rfl⟩ := h1
  obtain ⟨hid, hB⟩ := hS.blk id _ hσ
  obtain ⟨_, hbase, p, v, hat, hp, hown, hloc⟩ := bld_at hB hL0
  have e0 : (⟨L0.blk, L0.base + 0 * L0.sz + 0, none⟩ : Addr) = ⟨L0.blk, 0, none⟩ := by rw [hbase]; simp
  rw [e0]
  refine (W_String L X L0.blk s w hat).mono ?_
  rintro e w' ⟨rfl, hO⟩
  have := hS.gone (w' := w') hσ rfl hO.size (fun b hb hn => hO.block b hb (fun h => hn (hown b h)))
  exact ⟨_, _, κ, _, nx, rfl, ⟨rfl, rfl, rfl⟩, this.1, this.2 hO.os hO.tape hO.outs, by simp [Rel, ground]⟩
end
end Go.Ab
end

section
/- The seat's strings.Builder. -/
set_option maxRecDepth 1000000
set_option maxHeartbeats 8000000
namespace Go.Ab
open Go Go.Proofs Go.Shelf
def bRen : Ren := ⟨fun | 166 => 31 | 169 => 33 | 240 => 69 | 276 => 88 | n => n, fun | 72 => 81 | 70 => 78 | 37 => 79 | 3 => 3 | 9 => 9 | 4 => 4 | 164 => 150 | 127 => 127 | 5 => 5 | 75 => 83 | 80 => 87 | n => n, fun n => n⟩
theorem bldY : BldY Tryd.prog bRen := {
  mixed := by kernel_rfl
  f166 := Tryd.func31.trans (congrArg some (by kernel_rfl))
  f169 := Tryd.func33.trans (congrArg some (by kernel_rfl))
  f240 := Tryd.func69.trans (congrArg some (by kernel_rfl))
  f276 := Tryd.func88.trans (congrArg some (by kernel_rfl))
  t72 := Tryd.underlying81
  a72 := Tryd.isAgg81
  z72 := Tryd.sizeOf81
  v72 := Tryd.zeroValue81
  t70 := Tryd.underlying78
  a70 := Tryd.isAgg78
  z70 := Tryd.sizeOf78
  v70 := Tryd.zeroValue78
  t37 := Tryd.underlying79
  a37 := Tryd.isAgg79
  z37 := Tryd.sizeOf79
  v37 := Tryd.zeroValue79
  t3 := Tryd.underlying3
  a3 := Tryd.isAgg3
  z3 := Tryd.sizeOf3
  v3 := Tryd.zeroValue3
  t9 := Tryd.underlying9
  a9 := Tryd.isAgg9
  z9 := Tryd.sizeOf9
  v9 := Tryd.zeroValue9
  t4 := Tryd.underlying4
  a4 := Tryd.isAgg4
  z4 := Tryd.sizeOf4
  v4 := Tryd.zeroValue4
  t164 := Tryd.underlying150
  a164 := Tryd.isAgg150
  z164 := Tryd.sizeOf150
  v164 := Tryd.zeroValue150
  t127 := Tryd.underlying127
  a127 := Tryd.isAgg127
  z127 := Tryd.sizeOf127
  v127 := Tryd.zeroValue127 }
theorem bldX : BldX Tryd.prog bRen 81 := {
  sizeBuilder := by kernel_rfl
  liesBuilder := by kernel_rfl
  t5 := Tryd.underlying5
  a5 := Tryd.isAgg5
  z5 := Tryd.sizeOf5
  v5 := Tryd.zeroValue5
  infoByte := by kernel_rfl
  cellsByte := by kernel_rfl
  sizeByte := by kernel_rfl
  neB5 := by decide
  lies := by kernel_rfl
  row := by kernel_rfl
  byte := by kernel_rfl
  str := by kernel_rfl
  two := by decide }
theorem m_WriteString {σ : Store} {nx id r : Nat} {s t : ByteArray} (hσ : σ id = some (.bld r 81 5 s)) (hlen : s.size + t.size ≤ 140737488355328) :
    StSpec cx 31 [.ptr id 0 0 0, .lit (.string t)] σ nx (fun q σ' nx' => q = .tup [.lit (.int .i64 t.size), .lit .nilIface] ∧ ∃ r', nx ≤ nx' ∧ σ' = σ.put id (.bld r' 81 5 (s ++ t))) :=
  bld_write (C := cx) bldY bldX (by kernel_rfl) hσ hlen
theorem m_String {σ : Store} {nx id r : Nat} {s : ByteArray} (hσ : σ id = some (.bld r 81 5 s)) :
    StSpec cx 33 [.ptr id 0 0 0] σ nx (fun q σ' nx' => q = .lit (.string s) ∧ nx' = nx ∧ σ' = fun j => if j = id then none else σ j) :=
  bld_string (C := cx) bldY bldX (by kernel_rfl) hσ
end Go.Ab
end
