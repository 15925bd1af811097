/- slices.Clone of data: a row of own memory. Where there are no elements (the slice may be nil or not): by hand. -/
import Derived.Test.YtgcodedanljhpaaGreatDoorTY
import Derived.Test.YtgcodedanljhpaaGreatDoorLC
import Derived.Test.YtgcodedanljhpaaGreatDoorAcNil
import Derived.Test.YtgcodedanljhpaaGreatDoorAcLib
import Derived.Shelf.RegionOpenPlain
import Derived.Lib.SliceRun
import Derived.WalkKit
import Derived.Lib.Walk
set_option linter.unusedSimpArgs false
set_option linter.unusedVariables false
set_option maxRecDepth 1000000
set_option maxHeartbeats 8000000
namespace Go.Ab
open Go Go.Proofs Go.Shelf Go.RowKit
theorem bel_alloc (w : World) (o : Obj) : Bel w (w.alloc o) :=
  ⟨rfl, rfl, ⟨rfl, Nat.le_refl _⟩, (by show w.heap.size ≤ (w.heap.push o).size; rw [Array.size_push]; omega), fun b hb => (by show (w.heap.push o)[b]? = w.heap[b]?; rw [Array.getElem?_push_lt hb, Array.getElem?_eq_getElem hb])⟩
def ClonQ (es : List (List PV)) (sz : Nat) (σ : Store) (nx : Nat) (r : PV) (σ' : Store) (nx' : Nat) : Prop :=
  ∃ ver, r = .own nx ver 0 es.length false ∧ σ' = σ.put nx (.row ver sz es false) ∧ nx' = nx + 1
theorem StSpec.clone0 {C : Ctx} {f : FuncId} {σ : Store} {nx sz : Nat} {clip : Bool} (hf : isGo C.P f = true) (h : ∀ A cp w, Calls C.P f #[.slice A 0 cp] w fun e w' => ∃ A', e = .returned (.slice A' 0 0) ∧ Bel w w') :
    StSpec C f [.imm [] clip] σ nx (ClonQ [] sz σ nx) := by
  refine ⟨hf, fun κ w vs s hr => ?_⟩
  simp only [RelList] at hr
  obtain ⟨v, vs', rfl, h1, rfl⟩ := hr
  simp only [Rel] at h1
  obtain ⟨A, len, cap, rfl, h2, h3, h4, _⟩ := h1
  obtain rfl : len = 0 := h2
  refine (h A cap w).mono ?_
  rintro e w' ⟨A', rfl, hb⟩
  have hle : κ.le (withLoc κ nx 0 ⟨false, 0, 0, sz, 0, 0⟩) := withLoc_le (s.fresh _ _ (Nat.le_refl _)).1
  have hm := s.made (sz := sz) (es := []) (L := ⟨false, 0, 0, sz, 0, 0⟩) (w' := w') (κ' := withLoc κ nx 0 ⟨false, 0, 0, sz, 0, 0⟩)
    hle rfl rfl (fun _ _ => rfl) hb.size hb.hold (fun h => by cases h)
    ⟨⟨false, 0, 0, sz, 0, 0⟩, by simp [withLoc], rfl, rfl, .inr ⟨rfl, rfl⟩⟩
  refine ⟨_, .own nx 0 0 0 false, _, _, _, rfl, ⟨0, rfl, rfl, rfl⟩, hm.1, hm.2 hb.os hb.tape hb.output, ?_⟩
  simp only [Rel]
  exact ⟨A', 0, rfl, Nat.le_refl _, by simp, ⟨false, 0, 0, sz, 0, 0⟩, by simp [withLoc], .inr ⟨rfl, fun _ => Nat.le_refl _⟩⟩
theorem CallSpec.clone0 {C : Ctx} {f : FuncId} {sz : Nat} {clip : Bool} (hf : isGo C.P f = true) (h : ∀ A cp w, Calls C.P f #[.slice A 0 cp] w fun e w' => ∃ A', e = .returned (.slice A' 0 0) ∧ Bel w w') :
    CallSpec C f [.imm [] clip] (.new sz []) := by
  refine ⟨hf, fun w fz vs _ _ hr => ?_⟩
  simp only [RelList] at hr
  obtain ⟨v, vs', rfl, h1, rfl⟩ := hr
  simp only [Rel] at h1
  obtain ⟨A, len, cap, rfl, h2, h3, h4, _⟩ := h1
  obtain rfl : len = 0 := h2
  refine (h A cap w).mono ?_
  rintro e w' ⟨A', rfl, hb⟩
  exact ⟨_, [], rfl, hb, List.nodup_nil, (fun b hb => absurd hb List.not_mem_nil), A', 0, rfl, Nat.le_refl _, (fun e he => absurd he List.not_mem_nil), .inr ⟨rfl, rfl⟩⟩
end Go.Ab
