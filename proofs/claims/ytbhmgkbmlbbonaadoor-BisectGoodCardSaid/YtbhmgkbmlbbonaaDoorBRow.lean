import Derived.Test.YtbhmgkbmlbbonaaDoorBF
import Derived.Test.YtbhmgkbmlbbonaaDoorAbRow
import Derived.Test.YtbhmgkbmlbbonaaDoorTie
import Derived.Test.YtbhmgkbmlbbonaaDoorCards
import Derived.ProofKit
import Derived.LaidMore
import Derived.OpenShut
import Derived.Stop.Joined
set_option linter.unusedSimpArgs false
set_option linter.unusedVariables false
set_option maxRecDepth 100000
namespace Go.Proofs.YtbhmgkbmlbbonaaDoor
open Go.ChangeShapes Go.WideShapes Go.ChangeAt Go.WideMaps Go.WideElems Go.RowKit Go.Ab

theorem own : ownKnob Tryd.prog.godebug = none := by kernel_rfl
theorem laidOut : laidOutB Tryd.prog = true := by kernel_rfl
theorem gTab : Tryd.prog.globalNamed "math/bits.deBruijn32tab" = some 0 := by kernel_rfl
theorem tTab : (Tryd.prog.globals[0]?).map (·.type) = some 92 := by kernel_rfl
def laid1 {H : Type} : List (String × DataW H) := [("math/bits.deBruijn32tab", Rows.laid_math_bits_deBruijn32tab)]

theorem door_met (os : Os) (args : Array Value) : laidMetH Tryd.prog laid1 ((World.doorLaid Tryd.prog 400 os).forCall (fun _ _ => 0) ⟨#[], args, []⟩).memory :=
  laidMetH_of_parts3 (fuel := 8) (laidMet_of_run' 8 (by kernel_rfl) (by kernel_rfl)) (by kernel_rfl) (by kernel_rfl)

/-- A table of small numbers, opened. -/
theorem tab_cells {H : Type} {en : TypeId × Value → H} {W : World} {base fuel : Nat} {spare : Nat → Bool} {held : Bool} {cs : List Value} {p : List MemPlace}
    (hd : DataW.trod en Tryd.prog W base spare held fuel 92 cs = some (Rows.laid_math_bits_deBruijn32tab, p)) : cs = tab.map fun n => Value.int .u8 n := by
  obtain ⟨xs, m, rfl, hx, hlen, hn, hel⟩ := DataW.trod_array Tryd.underlying92 hd
  have c5 : Tryd.prog.cellsOf 5 = 1 := by kernel_rfl
  have c70 : Tryd.prog.cellsOf 92 = 32 := by kernel_rfl
  have hx1 : (Rows.laid_math_bits_deBruijn32tab : DataW H) = .agg (xs.map (·.1)) := congrArg Prod.fst hx
  have ht : (Rows.laid_math_bits_deBruijn32tab : DataW H) = .agg (tab.map fun n => .lit (.int .u8 n)) := rfl
  rw [ht] at hx1
  simp only [DataW.agg.injEq] at hx1
  apply List.ext_getElem?
  intro i
  by_cases hi : i < 32
  · have h1 := hel i hi
    have hxi : xs[i]? = some xs[i] := List.getElem?_eq_getElem (by omega)
    rw [hxi, c5, Nat.mul_one] at h1
    obtain ⟨n, e1, e2, _⟩ := DataW.trod_int Tryd.underlying5 h1
    have h2 : cs[i]? = some (.int .u8 n) := by
      have := congrArg (·[0]?) e1
      simpa [List.getElem?_take, List.getElem?_drop] using this
    rw [h2]
    have h3 := congrArg (·[i]?) hx1
    simp only [List.getElem?_map, hxi, Option.map_some, e2] at h3
    have hti : tab[i]? = some tab[i] := List.getElem?_eq_getElem (by simpa [tab] using hi)
    rw [hti] at h3
    simp at h3
    rw [List.getElem?_map, hti, Option.map_some, h3]
  · rw [List.getElem?_eq_none (by omega), List.getElem?_eq_none (by simp [tab]; omega)]

theorem relLits {κ : Kn} {w : World} {k : IntKind} : ∀ l : List Int, RelList κ w (l.map fun n => .lit (.int k n)) (l.map fun n => Value.int k n)
  | [] => by simp [RelList]
  | n :: l => by
    simp only [List.map_cons, RelList]
    exact ⟨_, _, rfl, by simp [Rel, ground], relLits l⟩

theorem of_laid {W : World} (h : laidMetH Tryd.prog laid1 W) : ∀ g cs, cx.G g = some cs → g < W.heap.size ∧ RelCells (allKn W) W g 0 cs := by
  rw [MakeChecks.laidMetH_plain _ _ _ (by kernel_rfl)] at h
  obtain ⟨ps, ⟨g0, t0, cs0, f0, p0, q0, hg0, ht0, hv0, hd0, _⟩, _, _⟩ := h
  obtain rfl := Option.some.inj (gTab.symm.trans hg0)
  obtain rfl := Option.some.inj (tTab.symm.trans ht0)
  intro g cs hg
  simp only [cx] at hg
  split at hg
  · rename_i e; subst e
    cases hg
    have ht := tab_cells hd0
    have hcell := World.var?_cell hg0 hv0
    refine ⟨?_, relCells_of_list _ _ 0 (relLits tab) (by decide) fun j hj => ?_⟩
    · have h0 := hcell 0
      have : cs0[0]? = some (.int .u8 0) := by
        rw [← Array.getElem?_toList, ht]; rfl
      rw [this] at h0
      unfold World.cell? at h0
      split at h0
      · rename_i hh; exact (Array.getElem?_eq_some_iff.1 hh).1
      · cases h0
    · rw [Nat.zero_add, hcell j, ← ht, Array.getElem?_toList]
  · cases hg

theorem opensI : Opens Tryd.prog 3 (fun n : Int => [i64 n]) (fun n => (Lit.int .i64 n).wf = true) := Opens.int Tryd.underlying3
theorem opensL : Opens Tryd.prog 23 (fun l : List Int => [encL l]) (fun l => l.length ≤ maxLen ∧ ∀ n ∈ l, (Lit.int .i64 n).wf = true) :=
  Opens.slice Tryd.underlying23 (by kernel_rfl) (by decide) (fun _ => rfl) opensI
theorem opensLL : Opens Tryd.prog 22 (fun l : List (List Int) => [encLL l]) (fun l => l.length ≤ maxLen ∧ ∀ p ∈ l, p.length ≤ maxLen ∧ ∀ n ∈ p, (Lit.int .i64 n).wf = true) :=
  Opens.slice Tryd.underlying22 (by kernel_rfl) (by decide) (fun _ => rfl) opensL

theorem open1 {H : Type} {en : TypeId × Value → H} {W : World} {D : Type} {enc1 : D → PV} {good : D → Prop} {t : TypeId} {v : Value} {d : DataW H} {p : List MemPlace}
    (ho : Opens Tryd.prog t (fun x => [enc1 x]) good) (hv : one1 v = true) (h : DataW.Trod en Tryd.prog W 0 (fun _ => true) true t v d p) : ∃ x, good x ∧ Rel (allKn W) W (enc1 x) v := by
  obtain ⟨fuel, hf⟩ := h
  obtain ⟨x, h1, h2, _⟩ := ho H en W 0 _ true fuel _ _ hf
  simp only [RelList] at h2
  obtain ⟨u, us, e1, e2, e3⟩ := h2
  refine ⟨x, h1, ?_⟩
  have : v.cells.toList = [v] := by cases v <;> simp_all [one1, Value.cells]
  rw [this, e3] at e1
  cases e1
  exact e2
end Go.Proofs.YtbhmgkbmlbbonaaDoor
