/- Gaps in order. -/
import Derived.Test.YtgcodedanljhpaaDoorPC
import Derived.Test.YtgcodedanljhpaaDoorPJ
import Derived.Ground.SlsfProg
import Derived.Test.YtgcodedanljhpaaDoorLV
import Derived.Test.YtgcodedanljhpaaDoorAcLib
import Derived.Test.YtgcodedanljhpaaDoorAcCall
set_option linter.unusedSimpArgs false
set_option linter.unusedVariables false
section
set_option maxRecDepth 1000000
set_option maxHeartbeats 8000000
namespace Go.Proofs
open Go.Shelf Go.RowKit Go.Lib Go.Sort
def gapSort_ren : Go.Shelf.Ren := ⟨fun | 6 => 66 | 15 => 78 | 14 => 87 | 28 => 100 | 29 => 101 | 20 => 104 | 21 => 105 | 22 => 106 | 23 => 107 | 24 => 108 | 25 => 109 | 26 => 110 | 27 => 111 | 46 => 122 | 47 => 118 | 48 => 119 | 49 => 123 | 50 => 124 | 57 => 130 | n => n, fun | 22 => 42 | 24 => 49 | 25 => 126 | 3 => 3 | 39 => 142 | 0 => 0 | 53 => 163 | 55 => 165 | 4 => 4 | 46 => 157 | 45 => 156 | 50 => 112 | 5 => 5 | 9 => 9 | 66 => 176 | 70 => 180 | 76 => 188 | 77 => 189 | n => n, fun | n => n⟩
end Go.Proofs
namespace Go.Ab
open Go Go.Proofs Go.Sort
def orL : List Int → Int
  | [] => 0
  | a :: r => if a ≠ 0 then a else orL r
abbrev GA (n : Nat) := Fin 10 × Fin 30 × Fin n
def encG (l : Ldg) (a : GA l.brs.length) : List Value := [.string (l.brs[a.2.2]).name, .int .i64 (a.2.1.val : Int), .int .i64 (a.1.val : Int)]
def cfG {n : Nat} (a b : GA n) : Int := orL [(b.1.val : Int) - a.1.val, (a.2.1.val : Int) - b.2.1.val, (a.2.2.val : Int) - b.2.2.val]
def ltG {n : Nat} (a b : GA n) : Prop := b.1.val < a.1.val ∨ (a.1.val = b.1.val ∧ (a.2.1.val < b.2.1.val ∨ (a.2.1.val = b.2.1.val ∧ a.2.2.val < b.2.2.val)))
def srtG {n : Nat} (d : List (GA n)) : List (GA n) := d.mergeSort fun x y => !(ltOf cfG) y x
end Go.Ab
end

section
/- All gaps, in order. -/
set_option maxRecDepth 1000000
set_option maxHeartbeats 8000000
namespace Go.Ab
open Go Go.Proofs Go.Sort
end Go.Ab
end

section
/- The gaps of a ledger. -/
set_option maxRecDepth 1000000
set_option maxHeartbeats 8000000
namespace Go.Ab
open Go Go.Proofs Go.Sort
def mkA {n : Nat} (i : Fin n) (f : Fx) : GA n := (⟨f.wgt.toNat % 10, by omega⟩, ⟨f.cls.toNat % 30, by omega⟩, i)
def toG (l : Ldg) (a : GA l.brs.length) : Gp := ⟨(l.brs[a.2.2]).name, (a.2.1.val : Int), (a.1.val : Int)⟩
def allA (l : Ldg) (x : List Fx) : List (GA l.brs.length) := (List.finRange l.brs.length).flatMap fun i => (x.filter (wantB (l.brs[i]).name (leff l (l.brs[i]).name).1)).map (mkA i)
def gapL (l : Ldg) (x : List Fx) : List Gp := (srtG (allA l x)).map (toG l)
def gapR (l : Ldg) (x : List Fx) : List Gp := if mchk l x ≠ 0 then [] else gapL l x
def newGps (g : List Gp) : PV := .new 3 (g.map cGp)
def encGps (g : List Gp) : PV := .imm (g.map cGp) false
theorem lst_lenM : ∀ (i : Nat) (l : List Bool), (lst i l).length ≤ l.length
  | _, [] => by simp [lst]
  | i, b :: r => by
    have := lst_lenM (i + 1) r
    rw [lst]
    split <;> simp only [List.length_cons] <;> omega
theorem leff_len {l : Ldg} {n : Str} : (leff l n).1.length ≤ 30 := by
  rw [leff]
  split
  · simp
  · exact Nat.le_trans (lst_lenM _ _) (by simp [inL])
end Go.Ab
end

section
/- The reference's error of a ledger. -/
set_option maxRecDepth 100000
set_option maxHeartbeats 8000000
namespace Go.Ab
open Go Go.Proofs
structure LNm (l : Ldg) : Prop where
  brs : ∀ b ∈ l.brs, b.name.size ≤ 2^40
  known : ∀ k ∈ l.known, k.chg.size ≤ 2^40
end Go.Ab
end

section
/- The reference: what is in effect; what is great. -/
set_option maxRecDepth 100000
set_option maxHeartbeats 8000000
namespace Go.Ab
open Go Go.Proofs
end Go.Ab
end

section
/- What is too great for a law to look at. -/
set_option maxRecDepth 1000000
set_option maxHeartbeats 8000000
namespace Go.Ab
open Go Go.Proofs Go.Sort
def big (s : Str) : Bool := decide ((100 : Int) < (s.size : Int))
def grt26 (l : List Br) : Bool := (l.any fun b => big b.name || big b.frm) || decide ((20 : Int) < (l.length : Int))
def grtE (own : List Ev) : Bool := (decide ((8 : Int) < (own.length : Int)) && decide ((own.length : Int) ≤ 40)) || decide ((50 : Int) < (own.length : Int)) || own.any fun e => big e.chg
def grt29 (l : Ldg) : Bool := (l.known.any fun k => big k.chg) || l.evs.any grtE || decide ((40 : Int) < (l.known.length : Int)) || grt26 l.brs || decide ((20 : Int) < (l.evs.length : Int))
def grtF (f : Fx) : Bool := decide ((20 : Int) < (f.brs.length : Int)) || f.brs.any big
def grt34 (l : Ldg) (x : List Fx) : Bool := x.any grtF || grt29 l || (decide ((10 : Int) < (x.length : Int)) && decide ((x.length : Int) ≤ 30)) || decide ((40 : Int) < (x.length : Int))
end Go.Ab
end

section
/- What is too great for a law to look at: ledgers, fixes. -/
set_option maxRecDepth 1000000
set_option maxHeartbeats 8000000
namespace Go.Ab
open Go Go.Proofs Go.Sort
end Go.Ab
end

section
/- Abstract values: a result of several cells, in its depth. -/
namespace Go.Ab
open Go
theorem leDs_all : ∀ {ps qs : List PV}, leDs ps qs → ps.all PV.one = true → qs.all PV.one = true
  | [], qs, h, _ => by simp only [leDs] at h; subst h; rfl
  | p :: ps, qs, h, ho => by
    simp only [leDs] at h
    obtain ⟨q, qs', rfl, h1, h2⟩ := h
    simp only [List.all_cons, Bool.and_eq_true] at ho ⊢
    exact ⟨leD_one h1 ho.1, leDs_all h2 ho.2⟩
end Go.Ab
end
