/- All gaps, in order. -/
import Derived.Test.YtgcodedanljhpaaGreatDoorMD
set_option linter.unusedSimpArgs false
set_option linter.unusedVariables false
section
set_option maxRecDepth 1000000
set_option maxHeartbeats 8000000
namespace Go.Ab
open Go Go.Proofs Go.Sort
end Go.Ab
end

section
/- The gaps of a ledger. -/
set_option maxRecDepth 1000000
set_option maxHeartbeats 8000000
namespace Go.Ab
open Go Go.Proofs Go.Sort
def mkA {n : Nat} (i : Fin n) (f : Fx) : GA n := (⟨f.wgt.toNat % 10, by omega⟩, ⟨f.cls.toNat % 30, by omega⟩, i)
def toG (l : Ldg) (a : GA l.brs.length) : Gp := ⟨(l.brs[a.2.2]).name, (a.2.1.val : Int), (a.1.val : Int)⟩
def allA (l : Ldg) (x : List Fx) : List (GA l.brs.length) := (List.finRange l.brs.length).flatMap fun i => (x.filter (wantB (l.brs[i]).name (leff l (l.brs[i]).name).1)).map (mkA i)
def gapL (l : Ldg) (x : List Fx) : List Gp := (srtG (allA l x)).map (toG l)
def gapR (l : Ldg) (x : List Fx) : List Gp := if mchk l x ≠ 0 then [] else gapL l x
def newGps (g : List Gp) : PV := .new 3 (g.map cGp)
def encGps (g : List Gp) : PV := .imm (g.map cGp) false
end Go.Ab
end
