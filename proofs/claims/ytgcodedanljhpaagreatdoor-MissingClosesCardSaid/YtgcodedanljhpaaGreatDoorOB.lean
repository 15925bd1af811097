/- slices.Clone of data: a row of own memory. Where there are no elements (the slice may be nil or not): by hand. -/
import Derived.Test.YtgcodedanljhpaaGreatDoorTY
import Derived.Test.YtgcodedanljhpaaGreatDoorLC
import Derived.Test.YtgcodedanljhpaaGreatDoorAcNil
import Derived.Test.YtgcodedanljhpaaGreatDoorAcLib
import Derived.Shelf.RegionOpenPlain
import Derived.Lib.SliceRun
import Derived.WalkKit
import Derived.Lib.Walk
import Derived.Test.YtgcodedanljhpaaGreatDoorLO
set_option linter.unusedSimpArgs false
set_option linter.unusedVariables false
section
set_option maxRecDepth 1000000
set_option maxHeartbeats 8000000
namespace Go.Ab
open Go Go.Proofs Go.Shelf Go.RowKit
theorem bel_alloc (w : World) (o : Obj) : Bel w (w.alloc o) :=
  ⟨rfl, rfl, ⟨rfl, Nat.le_refl _⟩, (by show w.heap.size ≤ (w.heap.push o).size; rw [Array.size_push]; omega), fun b hb => (by show (w.heap.push o)[b]? = w.heap[b]?; rw [Array.getElem?_push_lt hb, Array.getElem?_eq_getElem hb])⟩
def ClonQ (es : List (List PV)) (sz : Nat) (σ : Store) (nx : Nat) (r : PV) (σ' : Store) (nx' : Nat) : Prop :=
  ∃ ver, r = .own nx ver 0 es.length false ∧ σ' = σ.put nx (.row ver sz es false) ∧ nx' = nx + 1
theorem StSpec.clone0 {C : Ctx} {f : FuncId} {σ : Store} {nx sz : Nat} {clip : Bool} (hf : isGo C.P f = true) (h : ∀ A cp w, Calls C.P f #[.slice A 0 cp] w fun e w' => ∃ A', e = .returned (.slice A' 0 0) ∧ Bel w w') :
    StSpec C f [.imm [] clip] σ nx (ClonQ [] sz σ nx) := by
  refine ⟨hf, fun κ w vs s hr => ?_⟩
  simp only [RelList] at hr
  obtain ⟨v, vs', rfl, h1, rfl⟩ := hr
  simp only [Rel] at h1
  obtain ⟨A, len, cap, rfl, h2, h3, h4, _⟩ := h1
  obtain rfl : len = 0 := h2
  refine (h A cap w).mono ?_
  rintro e w' ⟨A', rfl, hb⟩
  have hle : κ.le (withLoc κ nx 0 ⟨false, 0, 0, sz, 0, 0⟩) := withLoc_le (s.fresh _ _ (Nat.le_refl _)).1
  have hm := s.made (sz := sz) (es := []) (L := ⟨false, 0, 0, sz, 0, 0⟩) (w' := w') (κ' := withLoc κ nx 0 ⟨false, 0, 0, sz, 0, 0⟩)
    hle rfl rfl (fun _ _ => rfl) hb.size hb.hold (fun h => by cases h)
    ⟨⟨false, 0, 0, sz, 0, 0⟩, by simp [withLoc], rfl, rfl, .inr ⟨rfl, rfl⟩⟩
  refine ⟨_, .own nx 0 0 0 false, _, _, _, rfl, ⟨0, rfl, rfl, rfl⟩, hm.1, hm.2 hb.os hb.tape hb.output, ?_⟩
  simp only [Rel]
  exact ⟨A', 0, rfl, Nat.le_refl _, by simp, ⟨false, 0, 0, sz, 0, 0⟩, by simp [withLoc], .inr ⟨rfl, fun _ => Nat.le_refl _⟩⟩
theorem CallSpec.clone0 {C : Ctx} {f : FuncId} {sz : Nat} {clip : Bool} (hf : isGo C.P f = true) (h : ∀ A cp w, Calls C.P f #[.slice A 0 cp] w fun e w' => ∃ A', e = .returned (.slice A' 0 0) ∧ Bel w w') :
    CallSpec C f [.imm [] clip] (.new sz []) := by
  refine ⟨hf, fun w fz vs _ _ hr => ?_⟩
  simp only [RelList] at hr
  obtain ⟨v, vs', rfl, h1, rfl⟩ := hr
  simp only [Rel] at h1
  obtain ⟨A, len, cap, rfl, h2, h3, h4, _⟩ := h1
  obtain rfl : len = 0 := h2
  refine (h A cap w).mono ?_
  rintro e w' ⟨A', rfl, hb⟩
  exact ⟨_, [], rfl, hb, List.nodup_nil, (fun b hb => absurd hb List.not_mem_nil), A', 0, rfl, Nat.le_refl _, (fun e he => absurd he List.not_mem_nil), .inr ⟨rfl, rfl⟩⟩
theorem cl0_Ev (A : Option Addr) (cp : Nat) (w : World) : Calls Tryz.prog 127 #[.slice A 0 cp] w fun e w' => ∃ A', e = .returned (.slice A' 0 0) ∧ Bel w w' := by
  have mixed : Tryz.prog.follows .mixedOrders = true := by kernel_rfl
  have q := fun w => Lib.run_eql_slice_nil (P := Tryz.prog) w _ _ A 0 cp 0 0 (Tryz.underlying57)
  cases A <;>
  · go_enter Tryz.func127, Tryz.ntmps127
    go_wp2
    go_ret
    exact ⟨_, rfl, by first | exact ⟨rfl, rfl, ⟨rfl, Nat.le_refl _⟩, Nat.le_refl _, fun _ _ => rfl⟩ | exact bel_alloc _ _⟩
theorem evNil_Ev : ∀ a b x xs c, evBin cx .eql 57 a b (.imm (x :: xs) c) (.lit (.slice none 0 0)) = some (.lit (.bool false)) := fun _ _ _ _ _ => by kernel_rfl
theorem cl_Ev (l : List Ev) (hl : l.length ≤ 2^40) (σ : Store) (nx : Nat) : StSpec cx 127 [encEvs l] σ nx (ClonQ (l.map cEv) 2 σ nx) := by
  cases l with
  | nil => exact StSpec.clone0 (C := cx) (by kernel_rfl) cl0_Ev
  | cons e es =>
    refine StSpec.fresh (by kernel_rfl) fun hfr => ?_
    have ha : ((es.map cEv).all fun e => e.length == 2) = true := List.all_eq_true.2 fun x hx => by obtain ⟨y, _, rfl⟩ := List.mem_map.1 hx; rfl
    have hn : notIntT cx.P 57 = true := by kernel_rfl
    have hl2 : (es.length + 1) * 24 ≤ 140737488355328 := by rw [List.length_cons] at hl; omega
    refine stSpec_of_vc Tryz.func127 rfl (by decide) (by kernel_rfl) (Nat.le_of_ble_eq_true rfl) ?_
    simp -dsimp (maxSteps := 9^9) (disch := first | omega | decide +kernel) only [↓bp0, bd0, reduceIte, Nat.reduceEqDiff, evStore, Nat.reduceAdd, Nat.reduceMul, Int.reduceEq, Int.reduceLT, Int.reduceLE, Nat.reduceLeDiff, List.reduceReplicate, reduceCtorEq, str, u8, encBrs, cBr, encLdg, encKws, cKw, encEvss, encEvs, cEv, List.set_cons_succ, List.getElem?_cons_zero, List.getElem?_cons_succ, Nat.reduceLT, List.length_set, stQ, resL, tupOf, List.toList_toArray, Tryz.f127, List.map_cons, evNil_Ev, ha, hn, hl2, beq_self_eq_true]
    exact ⟨_, _, .refl _, ⟨1, by rw [List.length_cons, List.length_map], put_put, rfl⟩⟩
theorem cl0_Kw (A : Option Addr) (cp : Nat) (w : World) : Calls Tryz.prog 125 #[.slice A 0 cp] w fun e w' => ∃ A', e = .returned (.slice A' 0 0) ∧ Bel w w' := by
  have mixed : Tryz.prog.follows .mixedOrders = true := by kernel_rfl
  have q := fun w => Lib.run_eql_slice_nil (P := Tryz.prog) w _ _ A 0 cp 0 0 (Tryz.underlying22)
  cases A <;>
  · go_enter Tryz.func125, Tryz.ntmps125
    go_wp2
    go_ret
    exact ⟨_, rfl, by first | exact ⟨rfl, rfl, ⟨rfl, Nat.le_refl _⟩, Nat.le_refl _, fun _ _ => rfl⟩ | exact bel_alloc _ _⟩
theorem evNil_Kw : ∀ a b x xs c, evBin cx .eql 22 a b (.imm (x :: xs) c) (.lit (.slice none 0 0)) = some (.lit (.bool false)) := fun _ _ _ _ _ => by kernel_rfl
theorem cl0_Br (A : Option Addr) (cp : Nat) (w : World) : Calls Tryz.prog 126 #[.slice A 0 cp] w fun e w' => ∃ A', e = .returned (.slice A' 0 0) ∧ Bel w w' := by
  have mixed : Tryz.prog.follows .mixedOrders = true := by kernel_rfl
  have q := fun w => Lib.run_eql_slice_nil (P := Tryz.prog) w _ _ A 0 cp 0 0 (Tryz.underlying23)
  cases A <;>
  · go_enter Tryz.func126, Tryz.ntmps126
    go_wp2
    go_ret
    exact ⟨_, rfl, by first | exact ⟨rfl, rfl, ⟨rfl, Nat.le_refl _⟩, Nat.le_refl _, fun _ _ => rfl⟩ | exact bel_alloc _ _⟩
theorem evNil_Br : ∀ a b x xs c, evBin cx .eql 23 a b (.imm (x :: xs) c) (.lit (.slice none 0 0)) = some (.lit (.bool false)) := fun _ _ _ _ _ => by kernel_rfl
theorem clN_Kw (l : List Kw) (hl : l.length ≤ 2^40) : CallSpec cx 125 [encKws l] (.new 2 (l.map cKw)) := by
  cases l with
  | nil => exact CallSpec.clone0 (C := cx) (by kernel_rfl) cl0_Kw
  | cons e es =>
    have ha : ((es.map cKw).all fun e => e.length == 2) = true := List.all_eq_true.2 fun x hx => by obtain ⟨y, _, rfl⟩ := List.mem_map.1 hx; rfl
    have hn : notIntT cx.P 22 = true := by kernel_rfl
    have hl2 : (es.length + 1) * 24 ≤ 140737488355328 := by rw [List.length_cons] at hl; omega
    have hfl : ((es.map cKw).all fun e => e.all flat) = true := List.all_eq_true.2 fun x hx => by obtain ⟨y, _, rfl⟩ := List.mem_map.1 hx; rfl
    refine callSpec_of_vc Tryz.func125 rfl (by decide) (by kernel_rfl) (Nat.le_of_ble_eq_true rfl) ?_
    simp -dsimp (maxSteps := 9^9) (disch := first | omega | decide +kernel) only [↓bp0, bd0, reduceIte, Nat.reduceEqDiff, evStore, Nat.reduceAdd, Nat.reduceMul, Int.reduceEq, Int.reduceLT, Int.reduceLE, Nat.reduceLeDiff, List.reduceReplicate, reduceCtorEq, str, u8, encBrs, cBr, encLdg, encKws, cKw, encEvss, encEvs, cEv, List.set_cons_succ, List.getElem?_cons_zero, List.getElem?_cons_succ, Nat.reduceLT, List.length_set, retQ, resL, finL, newL, flat, tupOf, List.toList_toArray, Tryz.f125, List.map_cons, evNil_Kw, ha, hn, hl2, beq_self_eq_true, hfl, Bool.and_self, Bool.true_and]
    exact leT_refl _
theorem clN_Br (l : List Br) (hl : l.length ≤ 2^40) : CallSpec cx 126 [encBrs l] (.new 3 (l.map cBr)) := by
  cases l with
  | nil => exact CallSpec.clone0 (C := cx) (by kernel_rfl) cl0_Br
  | cons e es =>
    have ha : ((es.map cBr).all fun e => e.length == 3) = true := List.all_eq_true.2 fun x hx => by obtain ⟨y, _, rfl⟩ := List.mem_map.1 hx; rfl
    have hn : notIntT cx.P 23 = true := by kernel_rfl
    have hl2 : (es.length + 1) * 40 ≤ 140737488355328 := by rw [List.length_cons] at hl; omega
    have hfl : ((es.map cBr).all fun e => e.all flat) = true := List.all_eq_true.2 fun x hx => by obtain ⟨y, _, rfl⟩ := List.mem_map.1 hx; rfl
    refine callSpec_of_vc Tryz.func126 rfl (by decide) (by kernel_rfl) (Nat.le_of_ble_eq_true rfl) ?_
    simp -dsimp (maxSteps := 9^9) (disch := first | omega | decide +kernel) only [↓bp0, bd0, reduceIte, Nat.reduceEqDiff, evStore, Nat.reduceAdd, Nat.reduceMul, Int.reduceEq, Int.reduceLT, Int.reduceLE, Nat.reduceLeDiff, List.reduceReplicate, reduceCtorEq, str, u8, encBrs, cBr, encLdg, encKws, cKw, encEvss, encEvs, cEv, List.set_cons_succ, List.getElem?_cons_zero, List.getElem?_cons_succ, Nat.reduceLT, List.length_set, retQ, resL, finL, newL, flat, tupOf, List.toList_toArray, Tryz.f126, List.map_cons, evNil_Br, ha, hn, hl2, beq_self_eq_true, hfl, Bool.and_self, Bool.true_and]
    exact leT_refl _
end Go.Ab
end

section
/- ledger.clone: rows of own memory in a row of own memory. -/
set_option maxRecDepth 1000000
set_option maxHeartbeats 16000000
namespace Go.Ab
open Go Go.Proofs
theorem bd_OB : type_of% (And.intro @str.eq_1 (And.intro @u8.eq_1 (And.intro @encBrs.eq_1 (And.intro @cBr.eq_1 (And.intro @encLdg.eq_1 (And.intro @encKws.eq_1 (And.intro @cKw.eq_1 (And.intro @encEvss.eq_1 (And.intro @encEvs.eq_1 (And.intro @cEv.eq_1 (And.intro @nit (And.intro @ovR (And.intro @fld (And.intro @evBin_seql (And.intro @evBin_sneq (And.intro @List.set_cons_succ.{0} (And.intro @List.getElem?_cons_zero.{0} (And.intro @List.getElem?_cons_succ.{0} (@List.length_set.{0}))))))))))))))))))) := And.intro @str.eq_1 (And.intro @u8.eq_1 (And.intro @encBrs.eq_1 (And.intro @cBr.eq_1 (And.intro @encLdg.eq_1 (And.intro @encKws.eq_1 (And.intro @cKw.eq_1 (And.intro @encEvss.eq_1 (And.intro @encEvs.eq_1 (And.intro @cEv.eq_1 (And.intro @nit (And.intro @ovR (And.intro @fld (And.intro @evBin_seql (And.intro @evBin_sneq (And.intro @List.set_cons_succ.{0} (And.intro @List.getElem?_cons_zero.{0} (And.intro @List.getElem?_cons_succ.{0} (@List.length_set.{0}))))))))))))))))))
def CR (τ : Store) (E hi : Nat) : Nat → List (List PV) → List (List Ev) → Prop
  | lo, [], [] => lo ≤ hi
  | lo, r :: rs, e :: es => ∃ id ver, r = [.own id ver 0 e.length false] ∧ τ id = some (.row ver 2 (e.map cEv) false) ∧ lo ≤ id ∧ id < hi ∧ id ≠ E ∧ CR τ E hi (id + 1) rs es
  | _, _, _ => False
theorem CR.len {τ : Store} {E hi : Nat} : ∀ {lo : Nat} {rs : List (List PV)} {es : List (List Ev)}, CR τ E hi lo rs es → rs.length = es.length
  | _, [], [], _ => rfl
  | _, r :: rs, e :: es, h => by
    obtain ⟨id, ver, _, _, _, _, _, h⟩ := h
    rw [List.length_cons, List.length_cons, CR.len h]
  | _, [], _ :: _, h => h.elim
  | _, _ :: _, [], h => h.elim
theorem CR.congr {τ τ' : Store} {E hi hi' : Nat} (hh : hi ≤ hi') : ∀ {lo : Nat} {rs : List (List PV)} {es : List (List Ev)}, (∀ j, lo ≤ j → j < hi → j ≠ E → τ' j = τ j) → CR τ E hi lo rs es → CR τ' E hi' lo rs es
  | _, [], [], _, h => Nat.le_trans h hh
  | _, r :: rs, e :: es, hj, h => by
    obtain ⟨id, ver, h1, h2, h3, h4, h5, h⟩ := h
    exact ⟨id, ver, h1, by rw [hj id h3 h4 h5]; exact h2, h3, Nat.lt_of_lt_of_le h4 hh, h5, CR.congr hh (fun j k1 k2 k3 => hj j (by omega) k2 k3) h⟩
  | _, [], _ :: _, _, h => h.elim
  | _, _ :: _, [], _, h => h.elim
theorem CR.snoc {τ : Store} {E hi hi' id ver : Nat} {e : List Ev} (h2 : τ id = some (.row ver 2 (e.map cEv) false)) (h3 : hi ≤ id) (h4 : id < hi') (h5 : id ≠ E) :
    ∀ {lo : Nat} {rs : List (List PV)} {es : List (List Ev)}, CR τ E hi lo rs es → CR τ E hi' lo (rs ++ [[.own id ver 0 e.length false]]) (es ++ [e])
  | _, [], [], h => ⟨id, ver, rfl, h2, Nat.le_trans h h3, h4, h5, h4⟩
  | _, r :: rs, e :: es, h => by
    obtain ⟨id', ver', k1, k2, k3, k4, k5, h⟩ := h
    exact ⟨id', ver', k1, k2, k3, by omega, k5, CR.snoc h2 h3 h4 h5 h⟩
  | _, [], _ :: _, h => h.elim
  | _, _ :: _, [], h => h.elim
theorem CR.low {τ : Store} {E hi : Nat} : ∀ {lo lo' : Nat} {rs : List (List PV)} {es : List (List Ev)}, lo' ≤ lo → CR τ E hi lo rs es → CR τ E hi lo' rs es
  | _, _, [], [], k, h => Nat.le_trans k h
  | _, _, r :: rs, e :: es, k, ⟨id, ver, h1, h2, h3, h⟩ => ⟨id, ver, h1, h2, Nat.le_trans k h3, h⟩
  | _, _, [], _ :: _, _, h => h.elim
  | _, _, _ :: _, [], _, h => h.elim
theorem CR.at {τ : Store} {E hi : Nat} : ∀ {lo : Nat} {rs : List (List PV)} {es : List (List Ev)} {i : Nat} {e : List Ev}, CR τ E hi lo rs es → es[i]? = some e →
    ∃ id ver, rs[i]? = some [.own id ver 0 e.length false] ∧ τ id = some (.row ver 2 (e.map cEv) false) ∧ lo ≤ id ∧ id < hi ∧ id ≠ E ∧
      ∀ τ' ver' (e' : List Ev), τ' id = some (.row ver' 2 (e'.map cEv) false) → (∀ j, lo ≤ j → j < hi → j ≠ E → j ≠ id → τ' j = τ j) → CR τ' E hi lo (rs.set i [.own id ver' 0 e'.length false]) (es.set i e')
  | lo, r :: rs, a :: es, 0, e, ⟨id, ver, h1, h2, h3, h4, h5, h6⟩, he => by
    rw [List.getElem?_cons_zero] at he
    cases he
    refine ⟨id, ver, by rw [List.getElem?_cons_zero, h1], h2, h3, h4, h5, fun τ' ver' e' k1 k2 => ⟨id, ver', rfl, k1, h3, h4, h5, CR.congr (Nat.le_refl _) (fun j q1 q2 q3 => k2 j (by omega) q2 q3 (by omega)) h6⟩⟩
  | lo, r :: rs, a :: es, i + 1, e, ⟨id, ver, h1, h2, h3, h4, h5, h6⟩, he => by
    rw [List.getElem?_cons_succ] at he
    obtain ⟨id2, ver2, g1, g2, g3, g4, g5, g6⟩ := CR.at h6 he
    refine ⟨id2, ver2, by rw [List.getElem?_cons_succ]; exact g1, g2, by omega, g4, g5, fun τ' ver' e' k1 k2 => ⟨id, ver, h1, by rw [k2 id h3 h4 h5 (by omega)]; exact h2, h3, h4, h5, g6 τ' ver' e' k1 fun j q1 q2 q3 q4 => k2 j (by omega) q2 q3 q4⟩⟩
  | _, [], [], _, _, _, he => by rw [List.getElem?_nil] at he; cases he
  | _, [], _ :: _, _, _, h, _ => h.elim
  | _, _ :: _, [], _, _, h, _ => h.elim
theorem CR.read {τ : Store} {E hi : Nat} : ∀ {lo : Nat} {rs : List (List PV)} {es : List (List Ev)}, CR τ E hi lo rs es → drRows τ rs = some (es.map fun e => [encEvs e])
  | _, [], [], _ => rfl
  | _, r :: rs, e :: es, ⟨id, ver, h1, h2, _, _, _, h⟩ => by
    subst h1
    have hf : ((e.map cEv).all fun e => e.all flat) = true := List.all_eq_true.2 fun x hx => by obtain ⟨y, _, rfl⟩ := List.mem_map.1 hx; rfl
    have hd : dr1s τ [.own id ver 0 e.length false] = some [encEvs e] := by
      simp only [dr1s, dr1, h2]
      rw [if_pos ⟨trivial, by rw [List.length_map]; omega, hf⟩]
      rw [List.drop_zero, List.take_of_length_le (by rw [List.length_map]; exact Nat.le_refl _)]; rfl
    simp only [drRows, hd, CR.read h]
    rfl
  | _, [], _ :: _, h => h.elim
  | _, _ :: _, [], h => h.elim
theorem putNe {τ : Store} {i j : Nat} {B : Blk} (h : j ≠ i) : (τ.put i B) j = τ j := by simp only [Store.put]; rw [if_neg h]
theorem putEq {τ : Store} {i : Nat} {B : Blk} : (τ.put i B) i = some B := by simp only [Store.put, if_true]
def ClQ (l : Ldg) (σ : Store) (nx : Nat) (r : PV) (τ : Store) (nx' : Nat) : Prop :=
  ∃ E ver rs, r = .agg [encKws l.known, encBrs l.brs, .own E ver 0 l.evs.length false] ∧ τ E = some (.row ver 1 rs false) ∧ CR τ E nx' nx rs l.evs ∧ nx ≤ E ∧ E < nx' ∧ Agr nx σ τ
def zL : Blk := .row 0 3 [[.lit (.slice none 0 0), .lit (.slice none 0 0), .lit (.slice none 0 0)]] false
def CI (l : Ldg) (σ : Store) (nx i : Nat) (τ : Store) (nx1 : Nat) (p : PV) : Prop :=
  nx + 3 ≤ nx1 ∧ Agr nx σ τ ∧ τ (nx + 1) = some zL ∧ τ (nx + 2) = some (.row 0 3 [[encKws l.known, encBrs l.brs, p]] false) ∧
    ((i = 0 ∧ p = .lit (.slice none 0 0)) ∨ (0 < i ∧ ∃ E ver rs, p = .own E ver 0 i false ∧ τ E = some (.row ver 1 rs false) ∧ CR τ E nx1 (nx + 3) rs (l.evs.take i) ∧ nx + 3 ≤ E ∧ E < nx1))
theorem bldL2 : ∀ a b c d, evBuild cx 26 [(0, .imm a c), (1, .imm b d)] = some (.agg [.imm a c, .imm b d, .lit (.slice none 0 0)]) := fun _ _ _ _ => by kernel_rfl
theorem m_clone (l : Ldg) (hk : l.known.length ≤ 2^40) (hb : l.brs.length ≤ 2^40) (h0 : 0 < l.evs.length) (hn : l.evs.length ≤ 2^40) (hE : ∀ e ∈ l.evs, e.length ≤ 2^40) (σ : Store) (nx : Nat) :
    StSpec cx 80 [encLdg l] σ nx (ClQ l σ nx) := by
  refine StSpec.fresh (by kernel_rfl) fun hfr => ?_
  refine stSpec_of_vc Tryz.func80 rfl (by decide) (by kernel_rfl) (Nat.le_of_ble_eq_true rfl) ?_
  have E1 : (nx = nx + 1) = False := eq_false (by omega)
  have E2 : (nx + 1 = nx) = False := eq_false (by omega)
  have E3 : (nx = nx + 2) = False := eq_false (by omega)
  have E4 : (nx + 2 = nx) = False := eq_false (by omega)
  have E5 : (nx + 1 = nx + 2) = False := eq_false (by omega)
  have E6 : (nx + 2 = nx + 1) = False := eq_false (by omega)
  try simp -dsimp (maxSteps := 9^9) (disch := first | omega | decide +kernel) only [↓bp0, bd0, bd_OB, reduceIte, Nat.reduceEqDiff, evStore, Nat.reduceAdd, Nat.reduceMul, Int.reduceEq, Int.reduceLT, Int.reduceLE, Nat.reduceLeDiff, List.reduceReplicate, reduceCtorEq, Nat.reduceLT, Tryz.f80, E1, E2, E3, E4, E5, E6, bldL2]
  refine vc_regJ (fun τ => τ nx = some (.row 0 3 [[encKws l.known, encBrs l.brs, encEvss l.evs]] false)) [0, 1, 2, 3, 4, 5, 6] [] (by kernel_rfl) (by kernel_rfl) ?_ ?_
  · exact (by simp -dsimp (maxSteps := 9^9) (disch := first | omega | decide +kernel) only [↓bp0, bd0, bd_OB, reduceIte, Nat.reduceEqDiff, evStore, Nat.reduceAdd, Nat.reduceMul, Int.reduceEq, Int.reduceLT, Int.reduceLE, Nat.reduceLeDiff, List.reduceReplicate, reduceCtorEq, Nat.reduceLT, E1, E2, E3, E4, E5, E6, bldL2])
  try simp -dsimp (maxSteps := 9^9) (disch := first | omega | decide +kernel) only [↓bp0, bd0, bd_OB, reduceIte, Nat.reduceEqDiff, evStore, Nat.reduceAdd, Nat.reduceMul, Int.reduceEq, Int.reduceLT, Int.reduceLE, Nat.reduceLeDiff, List.reduceReplicate, reduceCtorEq, Nat.reduceLT, vcj, implies_true, E1, E2, E3, E4, E5, E6, bldL2]
  refine ⟨fun τ hτ => by simp -dsimp (maxSteps := 9^9) (disch := first | omega | decide +kernel) only [↓bp0, bd0, bd_OB, reduceIte, Nat.reduceEqDiff, evStore, Nat.reduceAdd, Nat.reduceMul, Int.reduceEq, Int.reduceLT, Int.reduceLE, Nat.reduceLeDiff, List.reduceReplicate, reduceCtorEq, Nat.reduceLT, hτ], ?_⟩
  refine CallJ.imm (clN_Kw l.known hk) (fun _ _ => by rfl) (fun _ _ => by rfl) (by first | exact .inl rfl | exact .inr rfl | exact .inr scalB | exact .inr scalI | exact .inr scalT) ?_
  try simp -dsimp (maxSteps := 9^9) (disch := first | omega | decide +kernel) only [↓bp0, bd0, bd_OB, reduceIte, Nat.reduceEqDiff, evStore, Nat.reduceAdd, Nat.reduceMul, Int.reduceEq, Int.reduceLT, Int.reduceLE, Nat.reduceLeDiff, List.reduceReplicate, reduceCtorEq, Nat.reduceLT, vcj, implies_true, E1, E2, E3, E4, E5, E6, bldL2]
  refine ⟨fun τ hτ => by simp -dsimp (maxSteps := 9^9) (disch := first | omega | decide +kernel) only [↓bp0, bd0, bd_OB, reduceIte, Nat.reduceEqDiff, evStore, Nat.reduceAdd, Nat.reduceMul, Int.reduceEq, Int.reduceLT, Int.reduceLE, Nat.reduceLeDiff, List.reduceReplicate, reduceCtorEq, Nat.reduceLT, hτ], ?_⟩
  refine CallJ.imm (clN_Br l.brs hb) (fun _ _ => by rfl) (fun _ _ => by rfl) (by first | exact .inl rfl | exact .inr rfl | exact .inr scalB | exact .inr scalI | exact .inr scalT) ?_
  try simp -dsimp (maxSteps := 9^9) (disch := first | omega | decide +kernel) only [↓bp0, bd0, bd_OB, reduceIte, Nat.reduceEqDiff, evStore, Nat.reduceAdd, Nat.reduceMul, Int.reduceEq, Int.reduceLT, Int.reduceLE, Nat.reduceLeDiff, List.reduceReplicate, reduceCtorEq, Nat.reduceLT, vcj, implies_true, E1, E2, E3, E4, E5, E6, bldL2]
  refine LoopQ.rule (fun m st => ∃ (i : Nat) (τ : Store) (nx1 : Nat) (p : PV), m = l.evs.length - i ∧ i ≤ l.evs.length ∧
    st = ⟨mkE [(1, .ptr nx 0 0 0), (2, .ptr (nx + 1) 0 0 0), (3, .ptr (nx + 2) 0 0 0), (14, encEvss l.evs), (15, i64 l.evs.length), (16, i64 i)], τ, nx1⟩ ∧ CI l σ nx i τ nx1 p) _ _
    (weak_ofS (le := [(1, .ptr nx 0 0 0), (2, .ptr (nx + 1) 0 0 0), (3, .ptr (nx + 2) 0 0 0), (14, encEvss l.evs), (15, i64 l.evs.length), (16, i64 (0 : Nat))]) (S := (((σ.put nx (.row 0 3 [[encKws l.known, encBrs l.brs, encEvss l.evs]] false)).put (nx + 1) zL).put (nx + 2) zL).put (nx + 2) (.row 0 3 [[encKws l.known, encBrs l.brs, .lit (.slice none 0 0)]] false)) (nx := nx + 3) ?_)
    ⟨0, _, _, .lit (.slice none 0 0), rfl, Nat.zero_le _, rfl, Nat.le_refl _, (by (try simp -dsimp only [st_put_σ]); repeat (first | exact Agr.rfl' | refine Agr.put ?_ (by omega) | exact Agr.ov (by simp only [geL]; omega))), ?_, ?_, .inl ⟨rfl, rfl⟩⟩ ?_
  · refine ⟨?_, ?_, ?_⟩
    · first | (simp -dsimp (maxSteps := 9^9) (disch := first | omega | decide +kernel) only [↓bp0, bd0, bd_OB, reduceIte, Nat.reduceEqDiff, evStore, Nat.reduceAdd, Nat.reduceMul, Int.reduceEq, Int.reduceLT, Int.reduceLE, Nat.reduceLeDiff, List.reduceReplicate, reduceCtorEq, Nat.reduceLT, zL, E1, E2, E3, E4, E5, E6]; done) | simp -dsimp [evl, putN, i64, u32, bl, encL, encB, encLL, zL, E1, E2, E3, E4, E5, E6]
    · (try simp -dsimp only [st_put_σ]); rfl
    · exact Nat.le_refl _
  · exact (by simp -dsimp (maxSteps := 9^9) (disch := first | omega | decide +kernel) only [↓bp0, bd0, bd_OB, reduceIte, Nat.reduceEqDiff, evStore, Nat.reduceAdd, Nat.reduceMul, Int.reduceEq, Int.reduceLT, Int.reduceLE, Nat.reduceLeDiff, List.reduceReplicate, reduceCtorEq, Nat.reduceLT, E1, E2, E3, E4, E5, E6])
  · exact (by simp -dsimp (maxSteps := 9^9) (disch := first | omega | decide +kernel) only [↓bp0, bd0, bd_OB, reduceIte, Nat.reduceEqDiff, evStore, Nat.reduceAdd, Nat.reduceMul, Int.reduceEq, Int.reduceLT, Int.reduceLE, Nat.reduceLeDiff, List.reduceReplicate, reduceCtorEq, Nat.reduceLT, E1, E2, E3, E4, E5, E6])
  rintro m st ⟨i, τ, nx1, p, rfl, hi, rfl, hI⟩
  obtain ⟨c1, c2, c3, c4, c5⟩ := hI
  try simp -dsimp (maxSteps := 9^9) (disch := first | omega | decide +kernel) only [↓bp0, bd0, bd_OB, reduceIte, Nat.reduceEqDiff, evStore, Nat.reduceAdd, Nat.reduceMul, Int.reduceEq, Int.reduceLT, Int.reduceLE, Nat.reduceLeDiff, List.reduceReplicate, reduceCtorEq, Nat.reduceLT, E1, E2, E3, E4, E5, E6]
  refine onC_nlt (fun h2 => ?_) (fun h2 => ?_)
  rotate_left
  · obtain rfl : i = l.evs.length := by omega
    obtain ⟨h, _⟩ | ⟨_, E, ver, rs, rfl, d1, d2, d3, d4⟩ := c5
    · omega
    rw [List.take_length] at d2
    try simp -dsimp (maxSteps := 9^9) (disch := first | omega | decide +kernel) only [↓bp0, bd0, bd_OB, reduceIte, Nat.reduceEqDiff, evStore, Nat.reduceAdd, Nat.reduceMul, Int.reduceEq, Int.reduceLT, Int.reduceLE, Nat.reduceLeDiff, List.reduceReplicate, reduceCtorEq, Nat.reduceLT, c3, c4, zL]
    simp -dsimp (maxSteps := 9^9) (disch := first | omega | decide +kernel) only [↓bp0, bd0, bd_OB, reduceIte, Nat.reduceEqDiff, evStore, Nat.reduceAdd, Nat.reduceMul, Int.reduceEq, Int.reduceLT, Int.reduceLE, Nat.reduceLeDiff, List.reduceReplicate, reduceCtorEq, Nat.reduceLT, stQ, resL, tupOf, List.toList_toArray, Tryz.f80, c3, c4, zL]
    exact ⟨_, _, .refl _, E, ver, rs, rfl, (putNe (by omega)).trans d1, CR.low (by omega) (CR.congr (Nat.le_refl _) (fun j k1 _ _ => putNe (by omega)) d2), by omega, d4, c2.put (by omega)⟩
  obtain ⟨own, hx, hxm⟩ := get_of_lt h2
  have hown := hE own hxm
  have F1 : (nx + 2 = nx1) = False := eq_false (by omega)
  have F2 : (nx1 = nx + 2) = False := eq_false (by omega)
  have F3 : (nx + 2 = nx1 + 1) = False := eq_false (by omega)
  have F4 : (nx1 + 1 = nx + 2) = False := eq_false (by omega)
  have F5 : (nx + 2 = nx1 + 2) = False := eq_false (by omega)
  have F6 : (nx1 + 2 = nx + 2) = False := eq_false (by omega)
  try simp -dsimp (maxSteps := 9^9) (disch := first | omega | decide +kernel) only [↓bp0, bd0, bd_OB, reduceIte, Nat.reduceEqDiff, evStore, Nat.reduceAdd, Nat.reduceMul, Int.reduceEq, Int.reduceLT, Int.reduceLE, Nat.reduceLeDiff, List.reduceReplicate, reduceCtorEq, Nat.reduceLT, hx]
  rcases c5 with ⟨hi0, hp⟩ | ⟨hi0, E, ver, rs, hp, d1, d2, d3, d4⟩
  · subst hp
    refine vc_regJ (fun τ' => τ' (nx + 2) = some (.row 0 3 [[encKws l.known, encBrs l.brs, .lit (.slice none 0 0)]] false)) [0, 1, 2, 6] [3] (by kernel_rfl) (by kernel_rfl) ?_ ?_
    · exact (by simp -dsimp (maxSteps := 9^9) (disch := first | omega | decide +kernel) only [↓bp0, bd0, bd_OB, reduceIte, Nat.reduceEqDiff, evStore, Nat.reduceAdd, Nat.reduceMul, Int.reduceEq, Int.reduceLT, Int.reduceLE, Nat.reduceLeDiff, List.reduceReplicate, reduceCtorEq, Nat.reduceLT, c4])
    try simp -dsimp (maxSteps := 9^9) (disch := first | omega | decide +kernel) only [↓bp0, bd0, bd_OB, reduceIte, Nat.reduceEqDiff, evStore, Nat.reduceAdd, Nat.reduceMul, Int.reduceEq, Int.reduceLT, Int.reduceLE, Nat.reduceLeDiff, List.reduceReplicate, reduceCtorEq, Nat.reduceLT, vcj, implies_true, F1, F2, F3, F4, F5, F6, c4]
    refine ⟨fun τ hτ => by simp -dsimp (maxSteps := 9^9) (disch := first | omega | decide +kernel) only [↓bp0, bd0, bd_OB, reduceIte, Nat.reduceEqDiff, evStore, Nat.reduceAdd, Nat.reduceMul, Int.reduceEq, Int.reduceLT, Int.reduceLE, Nat.reduceLeDiff, List.reduceReplicate, reduceCtorEq, Nat.reduceLT, hτ], ?_⟩
    try simp -dsimp (maxSteps := 9^9) (disch := first | omega | decide +kernel) only [↓bp0, bd0, bd_OB, reduceIte, Nat.reduceEqDiff, evStore, Nat.reduceAdd, Nat.reduceMul, Int.reduceEq, Int.reduceLT, Int.reduceLE, Nat.reduceLeDiff, List.reduceReplicate, reduceCtorEq, Nat.reduceLT, vcj, implies_true, F1, F2, F3, F4, F5, F6, c4]
    refine EffQ.inm (cl_Ev own hown _ _) ⟨_, _, _, 0, rfl, rfl, rfl⟩ (by rfl) ?_
    rintro q σ' nx' ⟨v0, rfl, rfl, rfl⟩
    refine ⟨.inr (by simp -dsimp (maxSteps := 9^9) (disch := first | omega | decide +kernel) only [↓bp0, bd0, bd_OB, reduceIte, Nat.reduceEqDiff, evStore, Nat.reduceAdd, Nat.reduceMul, Int.reduceEq, Int.reduceLT, Int.reduceLE, Nat.reduceLeDiff, List.reduceReplicate, reduceCtorEq, Nat.reduceLT, F1, F2, F3, F4, F5, F6, c4]), ?_⟩
    try simp -dsimp (maxSteps := 9^9) (disch := first | omega | decide +kernel) only [↓bp0, bd0, bd_OB, reduceIte, Nat.reduceEqDiff, evStore, Nat.reduceAdd, Nat.reduceMul, Int.reduceEq, Int.reduceLT, Int.reduceLE, Nat.reduceLeDiff, List.reduceReplicate, reduceCtorEq, Nat.reduceLT, vcj, implies_true, F1, F2, F3, F4, F5, F6, c4]
    refine ⟨.inl (by kernel_rfl), ?_⟩
    try simp -dsimp (maxSteps := 9^9) (disch := first | omega | decide +kernel) only [↓bp0, bd0, bd_OB, reduceIte, Nat.reduceEqDiff, evStore, Nat.reduceAdd, Nat.reduceMul, Int.reduceEq, Int.reduceLT, Int.reduceLE, Nat.reduceLeDiff, List.reduceReplicate, reduceCtorEq, Nat.reduceLT, vcj, implies_true, F1, F2, F3, F4, F5, F6, c4]
    refine ⟨_, _, ?_, weak_ofS (le := [(1, .ptr nx 0 0 0), (2, .ptr (nx + 1) 0 0 0), (3, .ptr (nx + 2) 0 0 0), (14, encEvss l.evs), (15, i64 l.evs.length), (16, i64 ((i + 1 : Nat) : Int))]) (S := (((τ.put nx1 (.row v0 2 (own.map cEv) false)).put (nx1 + 1) (.row 0 1 [[.own nx1 v0 0 own.length false]] false)).put (nx1 + 2) (.row 0 1 [[.own nx1 v0 0 own.length false]] false)).put (nx + 2) (.row 0 3 [[encKws l.known, encBrs l.brs, .own (nx1 + 2) 0 0 1 false]] false)) (nx := nx1 + 3) ⟨?_, ?_, Nat.le_refl _⟩, i + 1, _, _, .own (nx1 + 2) 0 0 1 false, rfl, by omega, rfl, ?_⟩
    · omega
    · first | (simp -dsimp (maxSteps := 9^9) (disch := first | omega | decide +kernel) only [↓bp0, bd0, bd_OB, reduceIte, Nat.reduceEqDiff, evStore, Nat.reduceAdd, Nat.reduceMul, Int.reduceEq, Int.reduceLT, Int.reduceLE, Nat.reduceLeDiff, List.reduceReplicate, reduceCtorEq, Nat.reduceLT, wrapS h2 (show l.evs.length ≤ 9223372036854775807 by omega)]; done) | simp -dsimp [evl, putN, i64, u32, bl, encL, encB, encLL, wrapS h2 (show l.evs.length ≤ 9223372036854775807 by omega)]
    · (try simp -dsimp only [st_put_σ]); rfl
    · subst hi0
      have htk := take_succ hx
      rw [List.take_zero, List.nil_append] at htk
      refine ⟨by omega, ((((c2.put (by omega)).put (by omega)).put (by omega)).put (by omega)), ?_, putEq, .inr ⟨by omega, nx1 + 2, 0, _, rfl, (putNe (by omega)).trans putEq, ?_, by omega, by omega⟩⟩
      · exact (putNe (by omega)).trans ((putNe (by omega)).trans ((putNe (by omega)).trans ((putNe (by omega)).trans c3)))
      · rw [htk]
        exact ⟨nx1, v0, rfl, (putNe (by omega)).trans ((putNe (by omega)).trans ((putNe (by omega)).trans putEq)), by omega, by omega, by omega, show nx1 + 1 ≤ nx1 + 3 by omega⟩
  · subst hp
    have hrl : (i = rs.length) = True := eq_true (by rw [CR.len d2, List.length_take]; omega)
    have h24 : ((i + 1) * 24 ≤ 140737488355328) = True := eq_true (by omega)
    have G1 : (E = nx1) = False := eq_false (by omega)
    have G2 : (nx1 = E) = False := eq_false (by omega)
    have G3 : (E = nx1 + 1) = False := eq_false (by omega)
    have G4 : (nx1 + 1 = E) = False := eq_false (by omega)
    have G5 : (E = nx + 2) = False := eq_false (by omega)
    have G6 : (nx + 2 = E) = False := eq_false (by omega)
    refine vc_regJ (fun τ' => τ' (nx + 2) = some (.row 0 3 [[encKws l.known, encBrs l.brs, .own E ver 0 i false]] false)) [0, 1, 2, 6] [3] (by kernel_rfl) (by kernel_rfl) ?_ ?_
    · exact (by simp -dsimp (maxSteps := 9^9) (disch := first | omega | decide +kernel) only [↓bp0, bd0, bd_OB, reduceIte, Nat.reduceEqDiff, evStore, Nat.reduceAdd, Nat.reduceMul, Int.reduceEq, Int.reduceLT, Int.reduceLE, Nat.reduceLeDiff, List.reduceReplicate, reduceCtorEq, Nat.reduceLT, c4])
    try simp -dsimp (maxSteps := 9^9) (disch := first | omega | decide +kernel) only [↓bp0, bd0, bd_OB, reduceIte, Nat.reduceEqDiff, evStore, Nat.reduceAdd, Nat.reduceMul, Int.reduceEq, Int.reduceLT, Int.reduceLE, Nat.reduceLeDiff, List.reduceReplicate, reduceCtorEq, Nat.reduceLT, vcj, implies_true, F1, F2, F3, F4, F5, F6, c4, G1, G2, G3, G4, G5, G6, d1, hrl, h24, and_self]
    refine ⟨fun τ hτ => by simp -dsimp (maxSteps := 9^9) (disch := first | omega | decide +kernel) only [↓bp0, bd0, bd_OB, reduceIte, Nat.reduceEqDiff, evStore, Nat.reduceAdd, Nat.reduceMul, Int.reduceEq, Int.reduceLT, Int.reduceLE, Nat.reduceLeDiff, List.reduceReplicate, reduceCtorEq, Nat.reduceLT, hτ], ?_⟩
    try simp -dsimp (maxSteps := 9^9) (disch := first | omega | decide +kernel) only [↓bp0, bd0, bd_OB, reduceIte, Nat.reduceEqDiff, evStore, Nat.reduceAdd, Nat.reduceMul, Int.reduceEq, Int.reduceLT, Int.reduceLE, Nat.reduceLeDiff, List.reduceReplicate, reduceCtorEq, Nat.reduceLT, vcj, implies_true, F1, F2, F3, F4, F5, F6, c4, G1, G2, G3, G4, G5, G6, d1, hrl, h24, and_self]
    refine EffQ.inm (cl_Ev own hown _ _) ⟨_, _, _, 0, rfl, rfl, rfl⟩ (by rfl) ?_
    rintro q σ' nx' ⟨v0, rfl, rfl, rfl⟩
    refine ⟨.inr (by simp -dsimp (maxSteps := 9^9) (disch := first | omega | decide +kernel) only [↓bp0, bd0, bd_OB, reduceIte, Nat.reduceEqDiff, evStore, Nat.reduceAdd, Nat.reduceMul, Int.reduceEq, Int.reduceLT, Int.reduceLE, Nat.reduceLeDiff, List.reduceReplicate, reduceCtorEq, Nat.reduceLT, F1, F2, F3, F4, F5, F6, c4, G1, G2, G3, G4, G5, G6, d1, hrl, h24, and_self]), ?_⟩
    try simp -dsimp (maxSteps := 9^9) (disch := first | omega | decide +kernel) only [↓bp0, bd0, bd_OB, reduceIte, Nat.reduceEqDiff, evStore, Nat.reduceAdd, Nat.reduceMul, Int.reduceEq, Int.reduceLT, Int.reduceLE, Nat.reduceLeDiff, List.reduceReplicate, reduceCtorEq, Nat.reduceLT, vcj, implies_true, F1, F2, F3, F4, F5, F6, c4, G1, G2, G3, G4, G5, G6, d1, hrl, h24, and_self]
    refine ⟨.inl (by kernel_rfl), ?_⟩
    try simp -dsimp (maxSteps := 9^9) (disch := first | omega | decide +kernel) only [↓bp0, bd0, bd_OB, reduceIte, Nat.reduceEqDiff, evStore, Nat.reduceAdd, Nat.reduceMul, Int.reduceEq, Int.reduceLT, Int.reduceLE, Nat.reduceLeDiff, List.reduceReplicate, reduceCtorEq, Nat.reduceLT, vcj, implies_true, F1, F2, F3, F4, F5, F6, c4, G1, G2, G3, G4, G5, G6, d1, hrl, h24, and_self]
    refine ⟨_, _, ?_, weak_ofS (le := [(1, .ptr nx 0 0 0), (2, .ptr (nx + 1) 0 0 0), (3, .ptr (nx + 2) 0 0 0), (14, encEvss l.evs), (15, i64 l.evs.length), (16, i64 ((i + 1 : Nat) : Int))]) (S := (((τ.put nx1 (.row v0 2 (own.map cEv) false)).put (nx1 + 1) (.row 0 1 [[.own nx1 v0 0 own.length false]] false)).put E (.row (ver + 1) 1 (rs ++ [[.own nx1 v0 0 own.length false]]) false)).put (nx + 2) (.row 0 3 [[encKws l.known, encBrs l.brs, .own E (ver + 1) 0 (i + 1) false]] false)) (nx := nx1 + 2) ⟨?_, ?_, Nat.le_refl _⟩, i + 1, _, _, .own E (ver + 1) 0 (i + 1) false, rfl, by omega, rfl, ?_⟩
    · omega
    · first | (simp -dsimp (maxSteps := 9^9) (disch := first | omega | decide +kernel) only [↓bp0, bd0, bd_OB, reduceIte, Nat.reduceEqDiff, evStore, Nat.reduceAdd, Nat.reduceMul, Int.reduceEq, Int.reduceLT, Int.reduceLE, Nat.reduceLeDiff, List.reduceReplicate, reduceCtorEq, Nat.reduceLT, wrapS h2 (show l.evs.length ≤ 9223372036854775807 by omega)]; done) | simp -dsimp [evl, putN, i64, u32, bl, encL, encB, encLL, wrapS h2 (show l.evs.length ≤ 9223372036854775807 by omega)]
    · (try simp -dsimp only [st_put_σ]); rfl
    · have htk := take_succ hx
      refine ⟨by omega, ((((c2.put (by omega)).put (by omega)).put (by omega)).put (by omega)), ?_, putEq, .inr ⟨by omega, E, ver + 1, _, rfl, (putNe (by omega)).trans putEq, ?_, by omega, by omega⟩⟩
      · exact (putNe (by omega)).trans ((putNe (by omega)).trans ((putNe (by omega)).trans ((putNe (by omega)).trans c3)))
      · rw [htk]
        refine CR.snoc (hi := nx1) ((putNe (by omega)).trans ((putNe (by omega)).trans ((putNe (by omega)).trans putEq))) (Nat.le_refl _) (by omega) (by omega) (CR.congr (Nat.le_refl _) (fun j k1 k2 k3 => ?_) d2)
        exact (putNe (by omega)).trans ((putNe (by omega)).trans ((putNe (by omega)).trans (putNe (by omega))))
end Go.Ab
end
