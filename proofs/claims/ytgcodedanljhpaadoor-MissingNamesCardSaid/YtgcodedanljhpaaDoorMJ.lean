/- The reference: gaps in order. -/
import Derived.Test.YtgcodedanljhpaaDoorMI
set_option linter.unusedSimpArgs false
set_option linter.unusedVariables false
set_option maxRecDepth 1000000
set_option maxHeartbeats 8000000
namespace Go.Ab
open Go Go.Proofs Go.Sort
abbrev Pr := Str × List Int
def cnd (w c : Int) (p : Pr) (f : Fx) : Bool := decide (f.wgt = w) && decide (f.cls = c) && (f.brs.any fun y => decide (p.1 = y)) && !(p.2.any fun y => decide (c = y))
def o4 (w c : Int) (p : Pr) (x : List Fx) : List Gp := (x.filter (cnd w c p)).map fun _ => ⟨p.1, c, w⟩
def o3 (x : List Fx) (w c : Int) (ps : List Pr) : List Gp := ps.flatMap fun p => o4 w c p x
def o2 (x : List Fx) (ps : List Pr) (w : Int) (n : Nat) : List Gp := (List.range n).flatMap fun (c : Nat) => o3 x w (c : Int) ps
def o1 (x : List Fx) (ps : List Pr) (n : Nat) : List Gp := (List.range n).flatMap fun (i : Nat) => o2 x ps (9 - (i : Int)) 30
def encPs (ps : List Pr) : PV := .imm (ps.map fun p => [encL p.2]) false
theorem o4_snoc {w c : Int} {p : Pr} {x : List Fx} {f : Fx} : o4 w c p (x ++ [f]) = o4 w c p x ++ if cnd w c p f then [⟨p.1, c, w⟩] else [] := by
  unfold o4
  rw [List.filter_append, List.map_append]
  congr 1
  cases h : cnd w c p f <;> simp [h]
theorem o3_snoc {x : List Fx} {w c : Int} {ps : List Pr} {p : Pr} : o3 x w c (ps ++ [p]) = o3 x w c ps ++ o4 w c p x := by
  unfold o3; rw [List.flatMap_append]; simp
theorem o2_succ {x : List Fx} {w : Int} {ps : List Pr} {n : Nat} : o2 x ps w (n + 1) = o2 x ps w n ++ o3 x w n ps := by
  unfold o2; rw [List.range_succ, List.flatMap_append]; simp
theorem o1_succ {x : List Fx} {ps : List Pr} {n : Nat} : o1 x ps (n + 1) = o1 x ps n ++ o2 x ps (9 - (n : Int)) 30 := by
  unfold o1; rw [List.range_succ, List.flatMap_append]; simp
end Go.Ab
