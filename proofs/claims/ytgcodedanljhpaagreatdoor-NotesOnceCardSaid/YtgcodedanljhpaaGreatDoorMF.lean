/- Gaps in order. -/
import Derived.Test.YtgcodedanljhpaaGreatDoorPC
import Derived.Test.YtgcodedanljhpaaGreatDoorPJ
import Derived.Ground.SlsfProg
set_option linter.unusedSimpArgs false
set_option linter.unusedVariables false
section
set_option maxRecDepth 1000000
set_option maxHeartbeats 8000000
namespace Go.Proofs
open Go.Shelf Go.RowKit Go.Lib Go.Sort
def gapSort_ren : Go.Shelf.Ren := ⟨fun | 6 => 115 | 15 => 136 | 14 => 150 | 28 => 162 | 29 => 163 | 20 => 171 | 21 => 172 | 22 => 173 | 23 => 174 | 24 => 175 | 25 => 176 | 26 => 177 | 27 => 178 | 46 => 188 | 47 => 184 | 48 => 185 | 49 => 189 | 50 => 190 | 57 => 196 | n => n, fun | 22 => 29 | 24 => 47 | 25 => 186 | 3 => 3 | 39 => 203 | 0 => 0 | 53 => 227 | 55 => 229 | 4 => 4 | 46 => 221 | 45 => 220 | 50 => 141 | 5 => 5 | 9 => 9 | 66 => 244 | 70 => 248 | 76 => 256 | 77 => 257 | n => n, fun | n => n⟩
end Go.Proofs
namespace Go.Ab
open Go Go.Proofs Go.Sort
def orL : List Int → Int
  | [] => 0
  | a :: r => if a ≠ 0 then a else orL r
abbrev GA (n : Nat) := Fin 10 × Fin 30 × Fin n
def encG (l : Ldg) (a : GA l.brs.length) : List Value := [.string (l.brs[a.2.2]).name, .int .i64 (a.2.1.val : Int), .int .i64 (a.1.val : Int)]
def cfG {n : Nat} (a b : GA n) : Int := orL [(b.1.val : Int) - a.1.val, (a.2.1.val : Int) - b.2.1.val, (a.2.2.val : Int) - b.2.2.val]
def ltG {n : Nat} (a b : GA n) : Prop := b.1.val < a.1.val ∨ (a.1.val = b.1.val ∧ (a.2.1.val < b.2.1.val ∨ (a.2.1.val = b.2.1.val ∧ a.2.2.val < b.2.2.val)))
def srtG {n : Nat} (d : List (GA n)) : List (GA n) := d.mergeSort fun x y => !(ltOf cfG) y x
end Go.Ab
end

section
/- All gaps, in order. -/
set_option maxRecDepth 1000000
set_option maxHeartbeats 8000000
namespace Go.Ab
open Go Go.Proofs Go.Sort
end Go.Ab
end

section
/- The gaps of a ledger. -/
set_option maxRecDepth 1000000
set_option maxHeartbeats 8000000
namespace Go.Ab
open Go Go.Proofs Go.Sort
def mkA {n : Nat} (i : Fin n) (f : Fx) : GA n := (⟨f.wgt.toNat % 10, by omega⟩, ⟨f.cls.toNat % 30, by omega⟩, i)
def toG (l : Ldg) (a : GA l.brs.length) : Gp := ⟨(l.brs[a.2.2]).name, (a.2.1.val : Int), (a.1.val : Int)⟩
def allA (l : Ldg) (x : List Fx) : List (GA l.brs.length) := (List.finRange l.brs.length).flatMap fun i => (x.filter (wantB (l.brs[i]).name (leff l (l.brs[i]).name).1)).map (mkA i)
def gapL (l : Ldg) (x : List Fx) : List Gp := (srtG (allA l x)).map (toG l)
def gapR (l : Ldg) (x : List Fx) : List Gp := if mchk l x ≠ 0 then [] else gapL l x
def newGps (g : List Gp) : PV := .new 3 (g.map cGp)
def encGps (g : List Gp) : PV := .imm (g.map cGp) false
end Go.Ab
end
