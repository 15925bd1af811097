import Derived.Test.YtgcodedanljhpaaGreatDoorMA
import Derived.Test.YtgcodedanljhpaaGreatDoorAcRow
import Derived.Test.YtgcodedanljhpaaGreatDoorRows
import Derived.ProofKit
import Derived.LaidMore
import Derived.OpenShut
import Derived.Stop.Joined
import Derived.Test.YtgcodedanljhpaaGreatDoorTie
import Derived.Test.YtgcodedanljhpaaGreatDoorCards
set_option linter.unusedSimpArgs false
set_option linter.unusedVariables false
section
set_option maxRecDepth 100000
namespace Go.Ab
open Go
theorem Opens.conv {P : Program} {t : TypeId} {D E : Type} {enc : D → List PV} {good : D → Prop} {enc' : E → List PV} {good' : E → Prop} (h : Opens P t enc good) (f : D → E) (h1 : ∀ d, enc' (f d) = enc d) (h2 : ∀ d, good d → good' (f d)) : Opens P t enc' good' := by
  intro H en w base spare held fuel cs x hx
  obtain ⟨d, g1, g2, g3⟩ := h H en w base spare held fuel cs x hx
  exact ⟨f d, h2 d g1, by rw [h1]; exact g2, by rw [h1]; exact g3⟩
theorem trod_struct3 {H : Type} {enc : TypeId × Value → H} {P : Program} {w : World} {base : Nat} {spare : Nat → Bool} {held : Bool} {t : TypeId} {f0 f1 f2 : Field} {fuel : Nat} {cs : List Value} {x : DataW H × List MemPlace} (ht : P.underlying t = some (.struct #[f0, f1, f2])) (h : DataW.trod enc P w base spare held fuel t cs = some x) :
    ∃ y0 y1 y2 n, cs.length = P.cellsOf t ∧ DataW.trod enc P w base spare held n f0.type ((cs.drop f0.offset).take (P.cellsOf f0.type)) = some y0 ∧
      DataW.trod enc P w base spare held n f1.type ((cs.drop f1.offset).take (P.cellsOf f1.type)) = some y1 ∧ DataW.trod enc P w base spare held n f2.type ((cs.drop f2.offset).take (P.cellsOf f2.type)) = some y2 := by
  obtain ⟨xs, n, _, rfl, hl, hlen, hf⟩ := DataW.trod_struct ht h
  match xs, hlen with
  | [y0, y1, y2], _ => exact ⟨y0, y1, y2, n, hl, by simpa using hf 0 f0 rfl, by simpa using hf 1 f1 rfl, by simpa using hf 2 f2 rfl⟩
theorem Opens.struct3 {P : Program} {t : TypeId} {f0 f1 f2 : Field} {D0 D1 D2 : Type} {enc0 : D0 → List PV} {enc1 : D1 → List PV} {enc2 : D2 → List PV} {good0 : D0 → Prop} {good1 : D1 → Prop} {good2 : D2 → Prop} {s0 s1 s2 : Nat} (ht : P.underlying t = some (.struct #[f0, f1, f2]))
    (hc : P.cellsOf t = s0 + s1 + s2) (h0 : P.cellsOf f0.type = s0) (h1 : P.cellsOf f1.type = s1) (h2 : P.cellsOf f2.type = s2) (o0 : f0.offset = 0) (o1 : f1.offset = s0) (o2 : f2.offset = s0 + s1) (e0 : Opens P f0.type enc0 good0) (e1 : Opens P f1.type enc1 good1) (e2 : Opens P f2.type enc2 good2) :
    Opens P t (fun d : D0 × D1 × D2 => enc0 d.1 ++ (enc1 d.2.1 ++ enc2 d.2.2)) (fun d => good0 d.1 ∧ good1 d.2.1 ∧ good2 d.2.2) := by
  intro H en w base spare held fuel cs x h
  obtain ⟨y0, y1, y2, n, hl, g0, g1, g2⟩ := trod_struct3 ht h
  rw [o0, h0, List.drop_zero] at g0
  rw [o1, h1] at g1
  rw [o2, h2] at g2
  obtain ⟨d0, a1, a2, a3⟩ := e0 H en w base spare held n _ _ g0
  obtain ⟨d1, b1, b2, b3⟩ := e1 H en w base spare held n _ _ g1
  obtain ⟨d2, c1, c2, c3⟩ := e2 H en w base spare held n _ _ g2
  refine ⟨(d0, d1, d2), ⟨a1, b1, c1⟩, ?_, by simp only [List.all_append, a3, b3, c3, Bool.and_self]⟩
  have h12 := relList_append _ _ b2 c2
  have := relList_append _ _ a2 h12
  have e1 : (cs.drop (s0 + s1)).take s2 = cs.drop (s0 + s1) := List.take_of_length_le (by rw [List.length_drop]; omega)
  have e2 : (cs.drop s0).take s1 ++ (cs.drop (s0 + s1)).take s2 = cs.drop s0 := by
    rw [e1, ← List.drop_drop]; exact List.take_append_drop _ _
  rwa [e2, List.take_append_drop] at this
end Go.Ab
namespace Go.Proofs.YtgcodedanljhpaaGreatDoor
open Go.ChangeShapes Go.WideShapes Go.ChangeAt Go.WideMaps Go.WideElems Go.RowKit Go.Ab
theorem own : ownKnob Tryz.prog.godebug = none := by kernel_rfl
theorem laidOut : laidOutB Tryz.prog = true := by kernel_rfl
theorem opensS : Opens Tryz.prog 9 (fun s : ByteArray => [str s]) (fun s => s.size ≤ maxLen) := Opens.string Tryz.underlying9
theorem opensI : Opens Tryz.prog 3 (fun n : Int => [i64 n]) (fun n => (Lit.int .i64 n).wf = true) := Opens.int Tryz.underlying3
theorem opensU : Opens Tryz.prog 5 (fun n : Int => [u8 n]) (fun n => (Lit.int .u8 n).wf = true) := Opens.int Tryz.underlying5
theorem opensKw : Opens Tryz.prog 138 cKw (fun _ => True) :=
  (Opens.struct2 Tryz.underlying138 (s0 := 1) (s1 := 1) (by kernel_rfl) (by kernel_rfl) (by kernel_rfl) rfl rfl opensS opensI).conv (fun d => ⟨d.1, d.2⟩) (fun _ => rfl) (fun _ _ => trivial)
theorem opensBr : Opens Tryz.prog 51 cBr (fun _ => True) :=
  (Opens.struct3 Tryz.underlying51 (s0 := 1) (s1 := 1) (s2 := 1) (by kernel_rfl) (by kernel_rfl) (by kernel_rfl) (by kernel_rfl) rfl rfl rfl opensS opensS opensI).conv (fun d => ⟨d.1, d.2.1, d.2.2⟩) (fun _ => rfl) (fun _ _ => trivial)
theorem opensEv : Opens Tryz.prog 61 cEv (fun _ => True) :=
  (Opens.struct2 Tryz.underlying61 (s0 := 1) (s1 := 1) (by kernel_rfl) (by kernel_rfl) (by kernel_rfl) rfl rfl opensU opensS).conv (fun d => ⟨d.1, d.2⟩) (fun _ => rfl) (fun _ _ => trivial)
theorem opensKws : Opens Tryz.prog 22 (fun l : List Kw => [encKws l]) (fun l => l.length ≤ maxLen) :=
  (Opens.slice Tryz.underlying22 (s := 2) (by kernel_rfl) (by decide) (fun _ => rfl) opensKw).conv (fun l => l) (fun _ => rfl) (fun _ h => h.1)
theorem opensBrs : Opens Tryz.prog 23 (fun l : List Br => [encBrs l]) (fun l => l.length ≤ maxLen) :=
  (Opens.slice Tryz.underlying23 (s := 3) (by kernel_rfl) (by decide) (fun _ => rfl) opensBr).conv (fun l => l) (fun _ => rfl) (fun _ h => h.1)
theorem opensEvs : Opens Tryz.prog 57 (fun l : List Ev => [encEvs l]) (fun l => l.length ≤ maxLen) :=
  (Opens.slice Tryz.underlying57 (s := 2) (by kernel_rfl) (by decide) (fun _ => rfl) opensEv).conv (fun l => l) (fun _ => rfl) (fun _ h => h.1)
theorem opensEvss : Opens Tryz.prog 24 (fun l : List (List Ev) => [encEvss l]) (fun l => l.length ≤ maxLen ∧ ∀ s ∈ l, s.length ≤ maxLen) :=
  Opens.slice Tryz.underlying24 (s := 1) (by kernel_rfl) (by decide) (fun _ => rfl) opensEvs
structure LMax (l : Ldg) : Prop where
  known : l.known.length ≤ maxLen
  brs : l.brs.length ≤ maxLen
  evs : l.evs.length ≤ maxLen
  ev : ∀ s ∈ l.evs, s.length ≤ maxLen
theorem opensLdg : Opens Tryz.prog 26 cLdg LMax :=
  (Opens.struct3 Tryz.underlying26 (s0 := 1) (s1 := 1) (s2 := 1) (by kernel_rfl) (by kernel_rfl) (by kernel_rfl) (by kernel_rfl) rfl rfl rfl opensKws opensBrs opensEvss).conv (fun d => ⟨d.1, d.2.1, d.2.2⟩) (fun _ => rfl) (fun _ h => ⟨h.1, h.2.1, h.2.2.1, h.2.2.2⟩)
theorem open1 {H : Type} {en : TypeId × Value → H} {W : World} {D : Type} {enc1 : D → PV} {good : D → Prop} {t : TypeId} {v : Value} {d : DataW H} {p : List MemPlace}
    (ho : Opens Tryz.prog t (fun x => [enc1 x]) good) (hv : one1 v = true) (h : DataW.Trod en Tryz.prog W 0 (fun _ => true) true t v d p) : ∃ x, good x ∧ Rel (allKn W) W (enc1 x) v := by
  obtain ⟨fuel, hf⟩ := h
  obtain ⟨x, h1, h2, _⟩ := ho H en W 0 _ true fuel _ _ hf
  simp only [RelList] at h2
  obtain ⟨u, us, e1, e2, e3⟩ := h2
  refine ⟨x, h1, ?_⟩
  have : v.cells.toList = [v] := by cases v <;> simp_all [one1, Value.cells]
  rw [this, e3] at e1
  cases e1
  exact e2
theorem openS {H : Type} {en : TypeId × Value → H} {W : World} {D : Type} {encs : D → List PV} {good : D → Prop} {t : TypeId} {cs : Array Value} {d : DataW H} {p : List MemPlace}
    (ho : Opens Tryz.prog t encs good) (h : DataW.Trod en Tryz.prog W 0 (fun _ => true) true t (.agg cs) d p) : ∃ x, good x ∧ Rel (allKn W) W (.agg (encs x)) (.agg cs) := by
  obtain ⟨fuel, hf⟩ := h
  obtain ⟨x, h1, h2, h3⟩ := ho H en W 0 _ true fuel _ _ hf
  exact ⟨x, h1, by simp only [Rel]; exact ⟨cs, rfl, h3, h2⟩⟩
theorem of_none {W : World} : ∀ g cs, cx.G g = some cs → g < W.heap.size ∧ RelCells (allKn W) W g 0 cs := fun _ _ h => by cases h
end Go.Proofs.YtgcodedanljhpaaGreatDoor
end

section
/- The laid tables of the seat; opening arguments. -/
set_option maxRecDepth 100000
namespace Go.Proofs.YtgcodedanljhpaaGreatDoor
open Go.ChangeShapes Go.WideShapes Go.ChangeAt Go.WideMaps Go.WideElems Go.RowKit Go.Ab
def laid3 {H : Type} : List (String × DataW H) := [("math/bits.deBruijn32tab", Rows.laid_math_bits_deBruijn32tab), ("math/bits.deBruijn64tab", Rows.laid_math_bits_deBruijn64tab), ("internal/strconv.uint64pow10", Rows.laid_internal_strconv_uint64pow10)]
theorem door_met (os : Os) (args : Array Value) : laidMetH Tryz.prog laid3 ((World.doorLaid Tryz.prog 400 os).forCall (fun _ _ => 0) ⟨#[], args, []⟩).memory :=
  laidMetH_of_parts3 (fuel := 8) (laidMet_of_run' 8 (by kernel_rfl) (by kernel_rfl)) (by kernel_rfl) (by kernel_rfl)
end Go.Proofs.YtgcodedanljhpaaGreatDoor
end
