/- Abstract values: strings. -/
import Derived.Test.YtgcodedanljhpaaGreatDoorAcLib
import Derived.Laws.StructEq
import Derived.Laws.RangeAny
set_option linter.unusedSimpArgs false
set_option linter.unusedVariables false
namespace Go.Ab
open Go
theorem beq_bytes (a b : ByteArray) : (a == b) = decide (a = b) := by
  rw [Bool.eq_iff_iff, MapKept.bytes_beq, decide_eq_true_iff]
theorem beq_toL (a b : ByteArray) : (a.toList == b.toList) = decide (a = b) := by rw [← Go.beq_toListBytes, beq_bytes]
theorem evBin_seql {C : Ctx} {t : TypeId} {x y : Operand} {a b : ByteArray} : evBin C .eql t x y (.lit (.string a)) (.lit (.string b)) = some (.lit (.bool (decide (a = b)))) := by
  simp [evBin, conc, eqGuard, binOp, Op.stringOp, bind, Sem.bind, pure, purely, ofV, ground, beq_toL]
theorem evBin_sneq {C : Ctx} {t : TypeId} {x y : Operand} {a b : ByteArray} : evBin C .neq t x y (.lit (.string a)) (.lit (.string b)) = some (.lit (.bool (!decide (a = b)))) := by
  simp [evBin, conc, eqGuard, binOp, Op.stringOp, bind, Sem.bind, pure, purely, ofV, ground, beq_toL]
theorem evBin_sadd {C : Ctx} {t : TypeId} {x y : Operand} {a b : ByteArray} (h : a.size + b.size ≤ 9223372036854775807) : evBin C .add t x y (.lit (.string a)) (.lit (.string b)) = some (.lit (.string (a ++ b))) := by
  have h' : ¬ (9223372036854775807 : Int) < (a.size : Int) + (b.size : Int) := by omega
  simp [evBin, conc, eqGuard, binOp, Op.stringOp, bind, Sem.bind, pure, purely, ofV, ground, h']
theorem sameNow_str {a b : ByteArray} : Instr.sameNow .string (.string a) (.string b) = some (decide (a = b)) := by
  simp [Instr.sameNow, beq_bytes]
theorem findP_snoc {d : TypeDesc} {k key : Value} {p : PV} {n : Nat} : ∀ (kvs : List (Value × PV × Nat)), findP d k (kvs ++ [(key, p, n)]) = match findP d k kvs with
    | some none => (match Instr.sameNow d k key with
      | some true => some (some p)
      | some false => some none
      | none => none)
    | r => r
  | [] => by simp only [List.nil_append, findP]; rfl
  | (key', p', n') :: r => by
    simp only [List.cons_append, findP]
    cases Instr.sameNow d k key' with
    | none => rfl
    | some b => cases b
                · exact findP_snoc r
                · rfl
def MapI (kvs : List (Value × PV × Nat)) (f : ByteArray → Option PV) : Prop := ∀ s, findP .string (.string s) kvs = some (f s)
theorem MapI.nil : MapI [] fun _ => none := fun _ => rfl
theorem MapI.push {kvs : List (Value × PV × Nat)} {f : ByteArray → Option PV} (h : MapI kvs f) {k : ByteArray} {x : PV} {n : Nat} (hk : f k = none) : MapI (kvs ++ [(.string k, x, n)]) fun s => if s = k then some x else f s := fun s => by
  rw [findP_snoc, h s]
  by_cases e : s = k
  · subst e; simp [hk, sameNow_str]
  · cases hf : f s with
    | none => simp [sameNow_str, e, hf]
    | some p => simp [e, hf]
theorem findP_updP {s k : ByteArray} {x : PV} : ∀ (kvs : List (Value × PV × Nat)) {q : Option PV} {p0 : PV}, findP .string (.string s) kvs = some q → findP .string (.string k) kvs = some (some p0) →
    findP .string (.string s) (updP .string (.string k) x kvs) = some (if s = k then some x else q)
  | [], q, p0, h, hk => by simp [findP] at hk
  | (key, p, n) :: r, q, p0, h, hk => by
    cases key with
    | string y =>
      simp only [findP, sameNow_str] at h hk
      simp only [updP, sameNow_str]
      by_cases e : k = y
      · subst e
        simp only [decide_true, findP, sameNow_str]
        by_cases e2 : s = k
        · subst e2; simp
        · simp only [e2, decide_false, if_false] at h ⊢
          exact h
      · simp only [e, decide_false] at hk ⊢
        simp only [findP, sameNow_str]
        by_cases e2 : s = y
        · subst e2
          simp only [decide_true, Option.some.injEq] at h ⊢
          rw [if_neg (fun h => e h.symm), h]
        · simp only [e2, decide_false] at h ⊢
          exact findP_updP r h hk
    | _ => simp [findP, Instr.sameNow] at hk
theorem MapI.upd {kvs : List (Value × PV × Nat)} {f : ByteArray → Option PV} (h : MapI kvs f) {k : ByteArray} {x p0 : PV} (hk : f k = some p0) : MapI (updP .string (.string k) x kvs) fun s => if s = k then some x else f s :=
  fun s => findP_updP kvs (h s) (by rw [h k, hk])
theorem updP_len {d : TypeDesc} {k : Value} {x : PV} : ∀ kvs : List (Value × PV × Nat), (updP d k x kvs).length = kvs.length
  | [] => rfl
  | (key, p, n) :: r => by
    simp only [updP]
    split
    · rfl
    · simp [updP_len r]
theorem keyS {s : ByteArray} : keyB .string (.string s) = true := rfl
theorem nxE : (∀ {n : Nat}, (n = n + 1) = False) ∧ (∀ {n : Nat}, (n = n + 2) = False) ∧ (∀ {n : Nat}, (n = n + 3) = False) ∧ (∀ {n : Nat}, (n = n + 4) = False) ∧ (∀ {n : Nat}, (n = n + 5) = False) ∧ (∀ {n : Nat}, (n = n + 6) = False) ∧ (∀ {n : Nat}, (n + 1 = n) = False) ∧ (∀ {n : Nat}, (n + 2 = n) = False) ∧ (∀ {n : Nat}, (n + 3 = n) = False) ∧ (∀ {n : Nat}, (n + 4 = n) = False) ∧ (∀ {n : Nat}, (n + 5 = n) = False) ∧ (∀ {n : Nat}, (n + 6 = n) = False) ∧ (∀ {n : Nat}, (n + 1 = 0) = False) ∧ (∀ {n : Nat}, (0 = n + 1) = False) ∧ (∀ {n : Nat}, (n + 2 = 0) = False) ∧ (∀ {n : Nat}, (0 = n + 2) = False) ∧ (∀ {n : Nat}, (n + 3 = 0) = False) ∧ (∀ {n : Nat}, (0 = n + 3) = False) ∧ (∀ {n : Nat}, (n + 4 = 0) = False) ∧ (∀ {n : Nat}, (0 = n + 4) = False) ∧ (∀ {n : Nat}, (n + 5 = 0) = False) ∧ (∀ {n : Nat}, (0 = n + 5) = False) ∧ (∀ {n : Nat}, (n + 6 = 0) = False) ∧ (∀ {n : Nat}, (0 = n + 6) = False) := by
  refine ⟨?_, ?_, ?_, ?_, ?_, ?_, ?_, ?_, ?_, ?_, ?_, ?_, ?_, ?_, ?_, ?_, ?_, ?_, ?_, ?_, ?_, ?_, ?_, ?_⟩ <;> intro n <;> simp
theorem ghR : (∀ {st : St} {t sz t' : Nat}, (st.ghost t sz).env t' = if t' = t then some (.own st.nx 0 0 0 false) else st.env t') ∧ (∀ {st : St} {t sz i : Nat}, (st.ghost t sz).σ i = if i = st.nx then some (.row 0 sz [] false) else st.σ i) ∧
    (∀ {st : St} {t sz : Nat}, (st.ghost t sz).nx = st.nx + 1) := ⟨rfl, rfl, rfl⟩
end Go.Ab
