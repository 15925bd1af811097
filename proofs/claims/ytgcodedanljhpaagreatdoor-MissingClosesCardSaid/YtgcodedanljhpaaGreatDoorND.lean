/- Gaps of one branch in order: the law. -/
import Derived.Test.YtgcodedanljhpaaGreatDoorML
set_option linter.unusedSimpArgs false
set_option linter.unusedVariables false
set_option maxRecDepth 1000000
set_option maxHeartbeats 8000000
namespace Go.Ab
open Go Go.Proofs Go.Sort
section
variable {l : Ldg} {x : List Fx} (i : Fin l.brs.length) (inn : List Int)
def oneA (x : List Fx) : List (GA l.brs.length) := (x.filter (wantB (l.brs[i]).name inn)).map (mkA i)
def refB (x : List Fx) : List (GA l.brs.length) := (List.range 9).flatMap fun (k : Nat) => (List.range 30).flatMap fun (c : Nat) =>
  (x.filter (cnd (9 - (k : Int)) c ((l.brs[i]).name, inn))).map fun _ => mkR k c i
variable (h : mchk l x = 0)
include h
end
def mthen (l : Ldg) (x : List Fx) (b : Str) (n : Int) : List Gp × Int :=
  if mchk l x ≠ 0 then ([], mchk l x) else if (laft l b n).2 ≠ 0 then ([], (laft l b n).2) else (o1 x [(b, (laft l b n).1)] 9, 0)
end Go.Ab
