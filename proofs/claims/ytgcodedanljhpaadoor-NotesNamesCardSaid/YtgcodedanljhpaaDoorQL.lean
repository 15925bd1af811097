/- The reference of notes in plain terms: notes put in their order one by one. -/
import Derived.Test.YtgcodedanljhpaaDoorQG
import Derived.Test.YtgcodedanljhpaaDoorLB
import Derived.Test.YtgcodedanljhpaaDoorLE
set_option linter.unusedSimpArgs false
set_option linter.unusedVariables false
section
set_option maxRecDepth 1000000
set_option maxHeartbeats 8000000
namespace Go.Ab
open Go Go.Proofs Go.Sort
def insP (L : List Nt) (n : Nt) : Nat → Nat
  | 0 => 0
  | k + 1 => match L[k]? with
    | some m => if n.pl < m.pl then insP L n k else k + 1
    | none => k + 1
def insN (L : List Nt) (n : Nt) : List Nt := L.take (insP L n L.length) ++ n :: L.drop (insP L n L.length)
def insAll (g : Int → Nt) (cs : List Int) : List Nt := cs.foldl (fun o c => insN o (g c)) []
def lastA (f : Str → Int) (v : List Ev) (c : Int) : Nat → Option Nt
  | 0 => none
  | k + 1 => match v[k]? with
    | some e => if f e.chg = c then some ⟨c, e.chg, e.kind, k⟩ else lastA f v c k
    | none => none
def lastN (f : Str → Int) (v : List Ev) (c : Int) : Option Nt := lastA f v c v.length
def nt0 : Nt := ⟨0, ⟨#[]⟩, 0, 0⟩
def newsG (f : Str → Int) (v : List Ev) (c : Int) : Nt := (lastN f v c).getD nt0
def goneG (f : Str → Int) (va vb : List Ev) (c : Int) : Nt := match lastN f vb c with
  | some n => n
  | none => negN ((lastN f va c).getD nt0)
def missI (a b : List Int) : List Int := a.filter fun x => !b.any fun y => decide (x = y)
end Go.Ab
end

section
/- One event more: the views of the branches. -/
namespace Go.Ab
open Go
def growL (l : Ldg) (i : Nat) (own : List Ev) (x : Ev) : Ldg := { l with evs := l.evs.set i (own ++ [x]) }
end Go.Ab
end

section
/- One branch more: a cut. -/
namespace Go.Ab
open Go
def addB (l : Ldg) (b : Br) : Ldg := { l with brs := l.brs ++ [b], evs := l.evs ++ [[]] }
def lcutE (l : Ldg) (frm nm : Str) (k : Int) : Int := if (lview l frm).2 ≠ 0 then (lview l frm).2 else if k < 0 ∨ ((lview l frm).1.length : Int) < k then 2 else bchk (l.brs ++ [⟨nm, frm, k⟩])
def lcut (l : Ldg) (frm nm : Str) (k : Int) : Ldg := if lcutE l frm nm k ≠ 0 then ⟨[], [], []⟩ else addB l ⟨nm, frm, k⟩
end Go.Ab
end
