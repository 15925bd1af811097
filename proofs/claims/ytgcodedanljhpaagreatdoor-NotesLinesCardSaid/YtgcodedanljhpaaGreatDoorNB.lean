/- Numbers in decimal. -/
import Derived.Test.YtgcodedanljhpaaGreatDoorTY
import Derived.Test.YtgcodedanljhpaaGreatDoorLC
import Derived.Test.YtgcodedanljhpaaGreatDoorAcBld
set_option linter.unusedSimpArgs false
set_option linter.unusedVariables false
section
set_option maxRecDepth 1000000
set_option maxHeartbeats 8000000
namespace Go.Ab
open Go Go.Proofs
theorem bd_NA : type_of% (And.intro @str.eq_1 (And.intro @u8.eq_1 (And.intro @List.set_cons_succ.{0} (And.intro @List.getElem?_cons_zero.{0} (And.intro @List.getElem?_cons_succ.{0} (@List.length_set.{0})))))) := And.intro @str.eq_1 (And.intro @u8.eq_1 (And.intro @List.set_cons_succ.{0} (And.intro @List.getElem?_cons_zero.{0} (And.intro @List.getElem?_cons_succ.{0} (@List.length_set.{0})))))
def dig (n : Nat) : Str := ⟨#[UInt8.ofNat (48 + n)]⟩
def decF : Nat → Nat → Str
  | 0, _ => ⟨#[]⟩
  | f + 1, n => if n < 10 then dig n else decF f (n / 10) ++ dig (n % 10)
def dec (n : Nat) : Str := decF 20 n
def dig10 : Str := ⟨#[48, 49, 50, 51, 52, 53, 54, 55, 56, 57, 97, 98, 99, 100, 101, 102, 103, 104, 105, 106, 107, 108, 109, 110, 111, 112, 113, 114, 115, 116, 117, 118, 119, 120, 121, 122]⟩
theorem dig10_at : ∀ n : Fin 10, dig10.extract n.val (n.val + 1) = dec n.val := by decide +kernel
def sml : Str := ⟨List.toArray (List.append (List.append [48, 48, 48, 49, 48, 50, 48, 51, 48, 52, 48, 53, 48, 54, 48, 55, 48, 56, 48, 57, 49, 48, 49, 49, 49, 50, 49, 51, 49, 52, 49, 53, 49, 54, 49, 55, 49, 56, 49, 57, 50, 48, 50, 49, 50, 50, 50, 51, 50, 52] [50, 53, 50, 54, 50, 55, 50, 56, 50, 57, 51, 48, 51, 49, 51, 50, 51, 51, 51, 52, 51, 53, 51, 54, 51, 55, 51, 56, 51, 57, 52, 48, 52, 49, 52, 50, 52, 51, 52, 52, 52, 53, 52, 54, 52, 55, 52, 56, 52, 57]) (List.append [53, 48, 53, 49, 53, 50, 53, 51, 53, 52, 53, 53, 53, 54, 53, 55, 53, 56, 53, 57, 54, 48, 54, 49, 54, 50, 54, 51, 54, 52, 54, 53, 54, 54, 54, 55, 54, 56, 54, 57, 55, 48, 55, 49, 55, 50, 55, 51, 55, 52] [55, 53, 55, 54, 55, 55, 55, 56, 55, 57, 56, 48, 56, 49, 56, 50, 56, 51, 56, 52, 56, 53, 56, 54, 56, 55, 56, 56, 56, 57, 57, 48, 57, 49, 57, 50, 57, 51, 57, 52, 57, 53, 57, 54, 57, 55, 57, 56, 57, 57]))⟩
theorem sml_at : ∀ n : Fin 100, n.val < 10 ∨ sml.extract (2 * n.val) (2 * n.val + 2) = dec n.val := by decide +kernel
theorem m_small (n : Nat) (h : n < 100) : CallSpec cx 179 [i64 n] (str (dec n)) := by
  have hw1 : IntKind.i64.wrap ((n : Int) * 2) = ((2 * n : Nat) : Int) := by rw [IntWalk.i64_in _ (by omega)]; omega
  have hw2 : IntKind.i64.wrap (((2 * n : Nat) : Int) + 2) = ((2 * n + 2 : Nat) : Int) := by rw [IntWalk.i64_in _ (by omega)]; omega
  have hw3 : IntKind.i64.wrap ((n : Int) + 1) = ((n + 1 : Nat) : Int) := by rw [IntWalk.i64_in _ (by omega)]; omega
  have hS : (⟨List.toArray (List.append (List.append [48, 48, 48, 49, 48, 50, 48, 51, 48, 52, 48, 53, 48, 54, 48, 55, 48, 56, 48, 57, 49, 48, 49, 49, 49, 50, 49, 51, 49, 52, 49, 53, 49, 54, 49, 55, 49, 56, 49, 57, 50, 48, 50, 49, 50, 50, 50, 51, 50, 52] [50, 53, 50, 54, 50, 55, 50, 56, 50, 57, 51, 48, 51, 49, 51, 50, 51, 51, 51, 52, 51, 53, 51, 54, 51, 55, 51, 56, 51, 57, 52, 48, 52, 49, 52, 50, 52, 51, 52, 52, 52, 53, 52, 54, 52, 55, 52, 56, 52, 57]) (List.append [53, 48, 53, 49, 53, 50, 53, 51, 53, 52, 53, 53, 53, 54, 53, 55, 53, 56, 53, 57, 54, 48, 54, 49, 54, 50, 54, 51, 54, 52, 54, 53, 54, 54, 54, 55, 54, 56, 54, 57, 55, 48, 55, 49, 55, 50, 55, 51, 55, 52] [55, 53, 55, 54, 55, 55, 55, 56, 55, 57, 56, 48, 56, 49, 56, 50, 56, 51, 56, 52, 56, 53, 56, 54, 56, 55, 56, 56, 56, 57, 57, 48, 57, 49, 57, 50, 57, 51, 57, 52, 57, 53, 57, 54, 57, 55, 57, 56, 57, 57]))⟩ : ByteArray) = sml := rfl
  have hS2 : (⟨#[48, 49, 50, 51, 52, 53, 54, 55, 56, 57, 97, 98, 99, 100, 101, 102, 103, 104, 105, 106, 107, 108, 109, 110, 111, 112, 113, 114, 115, 116, 117, 118, 119, 120, 121, 122]⟩ : ByteArray) = dig10 := rfl
  have hz : sml.size = 200 := by decide +kernel
  have hz2 : dig10.size = 36 := by decide +kernel
  refine callSpec_of_vc Tryz.func179 rfl (by decide) (by kernel_rfl) (Nat.le_of_ble_eq_true rfl) ?_
  try simp -dsimp (disch := first | omega | decide +kernel) only [↓bp0, bd0, bd_NA, reduceIte, Nat.reduceEqDiff, evStore, Nat.reduceAdd, Nat.reduceMul, Int.reduceEq, Int.reduceLT, Int.reduceLE, Nat.reduceLeDiff, List.reduceReplicate, reduceCtorEq, Nat.reduceLT, Tryz.f179]
  cases h1 : decide ((n : Int) < 10)
  · have h1' := of_decide_eq_false h1
    have h4 : (2 * n ≤ 2 * n + 2) = True := by simp
    have h5 : (2 * n ≤ 198) = True := by simp; omega
    have hE : sml.extract (2 * n) (2 * n + 2) = dec n := (sml_at ⟨n, h⟩).resolve_left (by simp only; omega)
    simp -dsimp (disch := first | omega | decide +kernel) only [↓bp0, bd0, bd_NA, reduceIte, Nat.reduceEqDiff, evStore, Nat.reduceAdd, Nat.reduceMul, Int.reduceEq, Int.reduceLT, Int.reduceLE, Nat.reduceLeDiff, List.reduceReplicate, reduceCtorEq, Nat.reduceLT, retQ, resL, finL, newL, flat, tupOf, List.toList_toArray, h1, evSlice, slc, hw1, hw2, hS, hz, h4, h5, hE]
    exact leT_one (le1.rfl' (p := str _)) (fun _ h => by cases h)
  · have h1' := of_decide_eq_true h1
    have h4 : (n ≤ n + 1) = True := by simp
    have h5 : (n ≤ 35) = True := by simp; omega
    have hE : dig10.extract n (n + 1) = dec n := dig10_at ⟨n, by omega⟩
    simp -dsimp (disch := first | omega | decide +kernel) only [↓bp0, bd0, bd_NA, reduceIte, Nat.reduceEqDiff, evStore, Nat.reduceAdd, Nat.reduceMul, Int.reduceEq, Int.reduceLT, Int.reduceLE, Nat.reduceLeDiff, List.reduceReplicate, reduceCtorEq, Nat.reduceLT, retQ, resL, finL, newL, flat, tupOf, List.toList_toArray, h1, evSlice, slc, hw3, hS2, hz2, h4, h5, hE]
    exact leT_one (le1.rfl' (p := str _)) (fun _ h => by cases h)
theorem m_fmtInt (n : Nat) (h : n < 100) : CallSpec cx 152 [i64 n, i64 10] (str (dec n)) := by
  have h1 : decide ((n : Int) < 0) = false := decide_eq_false (by omega)
  have h2 : decide ((n : Int) < 100) = true := decide_eq_true (by omega)
  have h3 : decide ((0 : Int) ≤ n) = true := decide_eq_true (by omega)
  refine callSpec_of_vc Tryz.func152 rfl (by decide) (by kernel_rfl) (Nat.le_of_ble_eq_true rfl) ?_
  try simp -dsimp (disch := first | omega | decide +kernel) only [↓bp0, bd0, bd_NA, reduceIte, Nat.reduceEqDiff, evStore, Nat.reduceAdd, Nat.reduceMul, Int.reduceEq, Int.reduceLT, Int.reduceLE, Nat.reduceLeDiff, List.reduceReplicate, reduceCtorEq, Nat.reduceLT, Tryz.f152, h1, h2, h3]
  refine CallQ.imm (m_small n h) (by rfl) (by rfl) (by first | exact .inl rfl | exact .inr rfl | exact .inr scalB | exact .inr scalI | exact .inr scalT) ?_
  simp -dsimp (disch := first | omega | decide +kernel) only [↓bp0, bd0, bd_NA, reduceIte, Nat.reduceEqDiff, evStore, Nat.reduceAdd, Nat.reduceMul, Int.reduceEq, Int.reduceLT, Int.reduceLE, Nat.reduceLeDiff, List.reduceReplicate, reduceCtorEq, Nat.reduceLT, retQ, resL, finL, newL, flat, tupOf, List.toList_toArray, Tryz.f152]
  exact leT_one (le1.rfl' (p := str _)) (fun _ h => by cases h)
theorem m_itoa0 (n : Nat) (h : n < 100) : CallSpec cx 121 [i64 n] (str (dec n)) := by
  refine callSpec_of_vc Tryz.func121 rfl (by decide) (by kernel_rfl) (Nat.le_of_ble_eq_true rfl) ?_
  try simp -dsimp (disch := first | omega | decide +kernel) only [↓bp0, bd0, bd_NA, reduceIte, Nat.reduceEqDiff, evStore, Nat.reduceAdd, Nat.reduceMul, Int.reduceEq, Int.reduceLT, Int.reduceLE, Nat.reduceLeDiff, List.reduceReplicate, reduceCtorEq, Nat.reduceLT, Tryz.f121]
  refine CallQ.imm (m_fmtInt n h) (by rfl) (by rfl) (by first | exact .inl rfl | exact .inr rfl | exact .inr scalB | exact .inr scalI | exact .inr scalT) ?_
  simp -dsimp (disch := first | omega | decide +kernel) only [↓bp0, bd0, bd_NA, reduceIte, Nat.reduceEqDiff, evStore, Nat.reduceAdd, Nat.reduceMul, Int.reduceEq, Int.reduceLT, Int.reduceLE, Nat.reduceLeDiff, List.reduceReplicate, reduceCtorEq, Nat.reduceLT, retQ, resL, finL, newL, flat, tupOf, List.toList_toArray, Tryz.f121]
  exact leT_one (le1.rfl' (p := str _)) (fun _ h => by cases h)
theorem m_Itoa (n : Nat) (h : n < 100) : CallSpec cx 62 [i64 n] (str (dec n)) := by
  refine callSpec_of_vc Tryz.func62 rfl (by decide) (by kernel_rfl) (Nat.le_of_ble_eq_true rfl) ?_
  try simp -dsimp (disch := first | omega | decide +kernel) only [↓bp0, bd0, bd_NA, reduceIte, Nat.reduceEqDiff, evStore, Nat.reduceAdd, Nat.reduceMul, Int.reduceEq, Int.reduceLT, Int.reduceLE, Nat.reduceLeDiff, List.reduceReplicate, reduceCtorEq, Nat.reduceLT, Tryz.f62]
  refine CallQ.imm (m_itoa0 n h) (by rfl) (by rfl) (by first | exact .inl rfl | exact .inr rfl | exact .inr scalB | exact .inr scalI | exact .inr scalT) ?_
  simp -dsimp (disch := first | omega | decide +kernel) only [↓bp0, bd0, bd_NA, reduceIte, Nat.reduceEqDiff, evStore, Nat.reduceAdd, Nat.reduceMul, Int.reduceEq, Int.reduceLT, Int.reduceLE, Nat.reduceLeDiff, List.reduceReplicate, reduceCtorEq, Nat.reduceLT, retQ, resL, finL, newL, flat, tupOf, List.toList_toArray, Tryz.f62]
  exact leT_one (le1.rfl' (p := str _)) (fun _ h => by cases h)
end Go.Ab
end

section
/- The seat's strings.Builder. -/
set_option maxRecDepth 1000000
set_option maxHeartbeats 8000000
namespace Go.Ab
open Go Go.Proofs Go.Shelf
def bRen : Ren := ⟨fun | 166 => 61 | 169 => 63 | 240 => 120 | 276 => 151 | n => n, fun | 72 => 119 | 70 => 116 | 37 => 117 | 3 => 3 | 9 => 9 | 4 => 4 | 164 => 215 | 127 => 188 | 5 => 5 | 75 => 121 | 80 => 124 | n => n, fun n => n⟩
theorem bldY : BldY Tryz.prog bRen := {
  mixed := by kernel_rfl
  f166 := Tryz.func61.trans (congrArg some (by kernel_rfl))
  f169 := Tryz.func63.trans (congrArg some (by kernel_rfl))
  f240 := Tryz.func120.trans (congrArg some (by kernel_rfl))
  f276 := Tryz.func151.trans (congrArg some (by kernel_rfl))
  t72 := Tryz.underlying119
  a72 := Tryz.isAgg119
  z72 := Tryz.sizeOf119
  v72 := Tryz.zeroValue119
  t70 := Tryz.underlying116
  a70 := Tryz.isAgg116
  z70 := Tryz.sizeOf116
  v70 := Tryz.zeroValue116
  t37 := Tryz.underlying117
  a37 := Tryz.isAgg117
  z37 := Tryz.sizeOf117
  v37 := Tryz.zeroValue117
  t3 := Tryz.underlying3
  a3 := Tryz.isAgg3
  z3 := Tryz.sizeOf3
  v3 := Tryz.zeroValue3
  t9 := Tryz.underlying9
  a9 := Tryz.isAgg9
  z9 := Tryz.sizeOf9
  v9 := Tryz.zeroValue9
  t4 := Tryz.underlying4
  a4 := Tryz.isAgg4
  z4 := Tryz.sizeOf4
  v4 := Tryz.zeroValue4
  t164 := Tryz.underlying215
  a164 := Tryz.isAgg215
  z164 := Tryz.sizeOf215
  v164 := Tryz.zeroValue215
  t127 := Tryz.underlying188
  a127 := Tryz.isAgg188
  z127 := Tryz.sizeOf188
  v127 := Tryz.zeroValue188 }
theorem bldX : BldX Tryz.prog bRen 119 := {
  sizeBuilder := by kernel_rfl
  liesBuilder := by kernel_rfl
  t5 := Tryz.underlying5
  a5 := Tryz.isAgg5
  z5 := Tryz.sizeOf5
  v5 := Tryz.zeroValue5
  infoByte := by kernel_rfl
  cellsByte := by kernel_rfl
  sizeByte := by kernel_rfl
  neB5 := by decide
  lies := by kernel_rfl
  row := by kernel_rfl
  byte := by kernel_rfl
  str := by kernel_rfl
  two := by decide }
theorem m_WriteString {σ : Store} {nx id r : Nat} {s t : ByteArray} (hσ : σ id = some (.bld r 119 5 s)) (hlen : s.size + t.size ≤ 140737488355328) :
    StSpec cx 61 [.ptr id 0 0 0, .lit (.string t)] σ nx (fun q σ' nx' => q = .tup [.lit (.int .i64 t.size), .lit .nilIface] ∧ ∃ r', nx ≤ nx' ∧ σ' = σ.put id (.bld r' 119 5 (s ++ t))) :=
  bld_write (C := cx) bldY bldX (by kernel_rfl) hσ hlen
theorem m_String {σ : Store} {nx id r : Nat} {s : ByteArray} (hσ : σ id = some (.bld r 119 5 s)) :
    StSpec cx 63 [.ptr id 0 0 0] σ nx (fun q σ' nx' => q = .lit (.string s) ∧ nx' = nx ∧ σ' = fun j => if j = id then none else σ j) :=
  bld_string (C := cx) bldY bldX (by kernel_rfl) hσ
end Go.Ab
end
