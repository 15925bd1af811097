/- Abstract values: strings. -/
import Derived.Test.YtgcodedanljhpaaDoorAcLib
import Derived.Laws.StructEq
import Derived.Laws.RangeAny
import Derived.Test.YtgcodedanljhpaaDoorAcFz
import Derived.Test.YtgcodedanljhpaaDoorProg
set_option linter.unusedSimpArgs false
set_option linter.unusedVariables false
section
namespace Go.Ab
open Go
theorem beq_bytes (a b : ByteArray) : (a == b) = decide (a = b) := by
  rw [Bool.eq_iff_iff, MapKept.bytes_beq, decide_eq_true_iff]
theorem beq_toL (a b : ByteArray) : (a.toList == b.toList) = decide (a = b) := by rw [← Go.beq_toListBytes, beq_bytes]
theorem evBin_seql {C : Ctx} {t : TypeId} {x y : Operand} {a b : ByteArray} : evBin C .eql t x y (.lit (.string a)) (.lit (.string b)) = some (.lit (.bool (decide (a = b)))) := by
  simp [evBin, conc, eqGuard, binOp, Op.stringOp, bind, Sem.bind, pure, purely, ofV, ground, beq_toL]
theorem evBin_sneq {C : Ctx} {t : TypeId} {x y : Operand} {a b : ByteArray} : evBin C .neq t x y (.lit (.string a)) (.lit (.string b)) = some (.lit (.bool (!decide (a = b)))) := by
  simp [evBin, conc, eqGuard, binOp, Op.stringOp, bind, Sem.bind, pure, purely, ofV, ground, beq_toL]
theorem evBin_sadd {C : Ctx} {t : TypeId} {x y : Operand} {a b : ByteArray} (h : a.size + b.size ≤ 9223372036854775807) : evBin C .add t x y (.lit (.string a)) (.lit (.string b)) = some (.lit (.string (a ++ b))) := by
  have h' : ¬ (9223372036854775807 : Int) < (a.size : Int) + (b.size : Int) := by omega
  simp [evBin, conc, eqGuard, binOp, Op.stringOp, bind, Sem.bind, pure, purely, ofV, ground, h']
theorem sameNow_str {a b : ByteArray} : Instr.sameNow .string (.string a) (.string b) = some (decide (a = b)) := by
  simp [Instr.sameNow, beq_bytes]
theorem findP_snoc {d : TypeDesc} {k key : Value} {p : PV} {n : Nat} : ∀ (kvs : List (Value × PV × Nat)), findP d k (kvs ++ [(key, p, n)]) = match findP d k kvs with
    | some none => (match Instr.sameNow d k key with
      | some true => some (some p)
      | some false => some none
      | none => none)
    | r => r
  | [] => by simp only [List.nil_append, findP]; rfl
  | (key', p', n') :: r => by
    simp only [List.cons_append, findP]
    cases Instr.sameNow d k key' with
    | none => rfl
    | some b => cases b
                · exact findP_snoc r
                · rfl
def MapI (kvs : List (Value × PV × Nat)) (f : ByteArray → Option PV) : Prop := ∀ s, findP .string (.string s) kvs = some (f s)
theorem MapI.nil : MapI [] fun _ => none := fun _ => rfl
theorem MapI.push {kvs : List (Value × PV × Nat)} {f : ByteArray → Option PV} (h : MapI kvs f) {k : ByteArray} {x : PV} {n : Nat} (hk : f k = none) : MapI (kvs ++ [(.string k, x, n)]) fun s => if s = k then some x else f s := fun s => by
  rw [findP_snoc, h s]
  by_cases e : s = k
  · subst e; simp [hk, sameNow_str]
  · cases hf : f s with
    | none => simp [sameNow_str, e, hf]
    | some p => simp [e, hf]
theorem findP_updP {s k : ByteArray} {x : PV} : ∀ (kvs : List (Value × PV × Nat)) {q : Option PV} {p0 : PV}, findP .string (.string s) kvs = some q → findP .string (.string k) kvs = some (some p0) →
    findP .string (.string s) (updP .string (.string k) x kvs) = some (if s = k then some x else q)
  | [], q, p0, h, hk => by simp [findP] at hk
  | (key, p, n) :: r, q, p0, h, hk => by
    cases key with
    | string y =>
      simp only [findP, sameNow_str] at h hk
      simp only [updP, sameNow_str]
      by_cases e : k = y
      · subst e
        simp only [decide_true, findP, sameNow_str]
        by_cases e2 : s = k
        · subst e2; simp
        · simp only [e2, decide_false, if_false] at h ⊢
          exact h
      · simp only [e, decide_false] at hk ⊢
        simp only [findP, sameNow_str]
        by_cases e2 : s = y
        · subst e2
          simp only [decide_true, Option.some.injEq] at h ⊢
          rw [if_neg (fun h => e h.symm), h]
        · simp only [e2, decide_false] at h ⊢
          exact findP_updP r h hk
    | _ => simp [findP, Instr.sameNow] at hk
theorem MapI.upd {kvs : List (Value × PV × Nat)} {f : ByteArray → Option PV} (h : MapI kvs f) {k : ByteArray} {x p0 : PV} (hk : f k = some p0) : MapI (updP .string (.string k) x kvs) fun s => if s = k then some x else f s :=
  fun s => findP_updP kvs (h s) (by rw [h k, hk])
theorem updP_len {d : TypeDesc} {k : Value} {x : PV} : ∀ kvs : List (Value × PV × Nat), (updP d k x kvs).length = kvs.length
  | [] => rfl
  | (key, p, n) :: r => by
    simp only [updP]
    split
    · rfl
    · simp [updP_len r]
theorem keyS {s : ByteArray} : keyB .string (.string s) = true := rfl
theorem nxE : (∀ {n : Nat}, (n = n + 1) = False) ∧ (∀ {n : Nat}, (n = n + 2) = False) ∧ (∀ {n : Nat}, (n = n + 3) = False) ∧ (∀ {n : Nat}, (n = n + 4) = False) ∧ (∀ {n : Nat}, (n = n + 5) = False) ∧ (∀ {n : Nat}, (n = n + 6) = False) ∧ (∀ {n : Nat}, (n + 1 = n) = False) ∧ (∀ {n : Nat}, (n + 2 = n) = False) ∧ (∀ {n : Nat}, (n + 3 = n) = False) ∧ (∀ {n : Nat}, (n + 4 = n) = False) ∧ (∀ {n : Nat}, (n + 5 = n) = False) ∧ (∀ {n : Nat}, (n + 6 = n) = False) ∧ (∀ {n : Nat}, (n + 1 = 0) = False) ∧ (∀ {n : Nat}, (0 = n + 1) = False) ∧ (∀ {n : Nat}, (n + 2 = 0) = False) ∧ (∀ {n : Nat}, (0 = n + 2) = False) ∧ (∀ {n : Nat}, (n + 3 = 0) = False) ∧ (∀ {n : Nat}, (0 = n + 3) = False) ∧ (∀ {n : Nat}, (n + 4 = 0) = False) ∧ (∀ {n : Nat}, (0 = n + 4) = False) ∧ (∀ {n : Nat}, (n + 5 = 0) = False) ∧ (∀ {n : Nat}, (0 = n + 5) = False) ∧ (∀ {n : Nat}, (n + 6 = 0) = False) ∧ (∀ {n : Nat}, (0 = n + 6) = False) := by
  refine ⟨?_, ?_, ?_, ?_, ?_, ?_, ?_, ?_, ?_, ?_, ?_, ?_, ?_, ?_, ?_, ?_, ?_, ?_, ?_, ?_, ?_, ?_, ?_, ?_⟩ <;> intro n <;> simp
theorem ghR : (∀ {st : St} {t sz t' : Nat}, (st.ghost t sz).env t' = if t' = t then some (.own st.nx 0 0 0 false) else st.env t') ∧ (∀ {st : St} {t sz i : Nat}, (st.ghost t sz).σ i = if i = st.nx then some (.row 0 sz [] false) else st.σ i) ∧
    (∀ {st : St} {t sz : Nat}, (st.ghost t sz).nx = st.nx + 1) := ⟨rfl, rfl, rfl⟩
end Go.Ab
end

section
/- The types of the program of the seat, as operations ask for them. -/
set_option maxRecDepth 100000
set_option maxHeartbeats 8000000
namespace Go.Ab
open Go Go.Proofs
noncomputable def cx : Ctx := ⟨Tryd.prog, fun _ => none, by kernel_rfl, fun t => if t = 81 then some 5 else none, fun t E h w => by
  split at h
  · rename_i ht; subst ht; exact Tryd.zeroValue81 w
  cases h⟩
noncomputable def sfOf (t : TypeId) : Array Field := match ti cx.P t with
  | some ⟨.struct fs, _, _⟩ => fs
  | _ => #[]
theorem tis : (ti cx.P 2 = some ⟨.int .i64, 1, 8⟩) ∧
    (ti cx.P 3 = some ⟨.int .i64, 1, 8⟩) ∧
    (ti cx.P 4 = some ⟨.bool, 1, 1⟩) ∧
    (ti cx.P 5 = some ⟨.int .u8, 1, 1⟩) ∧
    (ti cx.P 9 = some ⟨.string, 1, 16⟩) ∧
    (ti cx.P 21 = some ⟨.int .i32, 1, 4⟩) ∧
    (ti cx.P 22 = some ⟨.slice 29, 1, 24⟩) ∧
    (ti cx.P 23 = some ⟨.slice 62, 1, 24⟩) ∧
    (ti cx.P 24 = some ⟨.slice 58, 1, 24⟩) ∧
    (ti cx.P 26 = some ⟨.struct (sfOf 26), 3, 72⟩) ∧
    (ti cx.P 29 = some ⟨.struct (sfOf 29), 2, 24⟩) ∧
    (ti cx.P 30 = some ⟨.slice 34, 1, 24⟩) ∧
    (ti cx.P 32 = some ⟨.slice 9, 1, 24⟩) ∧
    (ti cx.P 34 = some ⟨.struct (sfOf 34), 3, 40⟩) ∧
    (ti cx.P 36 = some ⟨.int .i64, 1, 8⟩) ∧
    (ti cx.P 42 = some ⟨.slice 49, 1, 24⟩) ∧
    (ti cx.P 49 = some ⟨.struct (sfOf 49), 3, 32⟩) ∧
    (ti cx.P 50 = some ⟨.slice 57, 1, 24⟩) ∧
    (ti cx.P 57 = some ⟨.struct (sfOf 57), 4, 40⟩) ∧
    (ti cx.P 58 = some ⟨.slice 60, 1, 24⟩) ∧
    (ti cx.P 60 = some ⟨.struct (sfOf 60), 2, 24⟩) ∧
    (ti cx.P 62 = some ⟨.struct (sfOf 62), 3, 40⟩) ∧
    (ti cx.P 65 = some ⟨.map 3 4, 1, 8⟩) ∧
    (ti cx.P 70 = some ⟨.map 9 3, 1, 8⟩) ∧
    (ti cx.P 73 = some ⟨.slice 3, 1, 24⟩) ∧
    (ti cx.P 78 = some ⟨.pointer 81, 1, 8⟩) ∧
    (ti cx.P 79 = some ⟨.slice 5, 1, 24⟩) ∧
    (ti cx.P 81 = some ⟨.struct (sfOf 81), 2, 32⟩) ∧
    (ti cx.P 110 = some ⟨.pointer 131, 1, 8⟩) ∧
    (ti cx.P 119 = some ⟨.slice 133, 1, 24⟩) ∧
    (ti cx.P 127 = some ⟨.pointer 5, 1, 8⟩) ∧
    (ti cx.P 129 = some ⟨.array 30 4, 30, 30⟩) ∧
    (ti cx.P 131 = some ⟨.struct (sfOf 131), 60, 60⟩) ∧
    (ti cx.P 133 = some ⟨.struct (sfOf 133), 2, 16⟩) ∧
    (ti cx.P 142 = some ⟨.int .u64, 1, 8⟩) ∧
    (ti cx.P 163 = some ⟨.int .u32, 1, 4⟩) ∧
    (ti cx.P 165 = some ⟨.int .u64, 1, 8⟩) ∧
    (ti cx.P 171 = some ⟨.array 24 5, 24, 24⟩) ∧
    (ti cx.P 175 = some ⟨.func #[3, 3] #[119] false, 1, 8⟩) ∧
    (ti cx.P 180 = some ⟨.pointer 3, 1, 8⟩) ∧
    (ti cx.P 186 = some ⟨.array 20 165, 20, 160⟩) ∧
    (ti cx.P 187 = some ⟨.array 65 5, 65, 65⟩) ∧
    (ti cx.P 188 = some ⟨.pointer 176, 1, 8⟩) ∧
    (ti cx.P 192 = some ⟨.array 32 5, 32, 32⟩) ∧
    (ti cx.P 193 = some ⟨.array 64 5, 64, 64⟩) :=
  ⟨by kernel_rfl, by kernel_rfl, by kernel_rfl, by kernel_rfl, by kernel_rfl, by kernel_rfl, by kernel_rfl, by kernel_rfl, by kernel_rfl, by kernel_rfl, by kernel_rfl, by kernel_rfl, by kernel_rfl, by kernel_rfl, by kernel_rfl, by kernel_rfl, by kernel_rfl, by kernel_rfl, by kernel_rfl, by kernel_rfl, by kernel_rfl, by kernel_rfl, by kernel_rfl, by kernel_rfl, by kernel_rfl, by kernel_rfl, by kernel_rfl, by kernel_rfl, by kernel_rfl, by kernel_rfl, by kernel_rfl, by kernel_rfl, by kernel_rfl, by kernel_rfl, by kernel_rfl, by kernel_rfl, by kernel_rfl, by kernel_rfl, by kernel_rfl, by kernel_rfl, by kernel_rfl, by kernel_rfl, by kernel_rfl, by kernel_rfl, by kernel_rfl⟩
theorem tzs : (cx.B 2 = none) ∧
    (tz cx.P 2 = some (.lit (.int .i64 0))) ∧
    (cx.B 3 = none) ∧
    (tz cx.P 3 = some (.lit (.int .i64 0))) ∧
    (cx.B 4 = none) ∧
    (tz cx.P 4 = some (.lit (.bool false))) ∧
    (cx.B 5 = none) ∧
    (tz cx.P 5 = some (.lit (.int .u8 0))) ∧
    (cx.B 9 = none) ∧
    (tz cx.P 9 = some (.lit (.string ⟨#[]⟩))) ∧
    (cx.B 21 = none) ∧
    (tz cx.P 21 = some (.lit (.int .i32 0))) ∧
    (cx.B 22 = none) ∧
    (tz cx.P 22 = some (.lit (.slice none 0 0))) ∧
    (cx.B 23 = none) ∧
    (tz cx.P 23 = some (.lit (.slice none 0 0))) ∧
    (cx.B 24 = none) ∧
    (tz cx.P 24 = some (.lit (.slice none 0 0))) ∧
    (cx.B 26 = none) ∧
    (tz cx.P 26 = some (.agg [.lit (.slice none 0 0), .lit (.slice none 0 0), .lit (.slice none 0 0)])) ∧
    (cx.B 29 = none) ∧
    (tz cx.P 29 = some (.agg [.lit (.string ⟨#[]⟩), .lit (.int .i64 0)])) ∧
    (cx.B 30 = none) ∧
    (tz cx.P 30 = some (.lit (.slice none 0 0))) ∧
    (cx.B 32 = none) ∧
    (tz cx.P 32 = some (.lit (.slice none 0 0))) ∧
    (cx.B 34 = none) ∧
    (tz cx.P 34 = some (.agg [.lit (.int .i64 0), .lit (.int .i64 0), .lit (.slice none 0 0)])) ∧
    (cx.B 36 = none) ∧
    (tz cx.P 36 = some (.lit (.int .i64 0))) ∧
    (cx.B 42 = none) ∧
    (tz cx.P 42 = some (.lit (.slice none 0 0))) ∧
    (cx.B 49 = none) ∧
    (tz cx.P 49 = some (.agg [.lit (.string ⟨#[]⟩), .lit (.int .i64 0), .lit (.int .i64 0)])) ∧
    (cx.B 50 = none) ∧
    (tz cx.P 50 = some (.lit (.slice none 0 0))) ∧
    (cx.B 57 = none) ∧
    (tz cx.P 57 = some (.agg [.lit (.int .i64 0), .lit (.string ⟨#[]⟩), .lit (.int .u8 0), .lit (.int .i64 0)])) ∧
    (cx.B 58 = none) ∧
    (tz cx.P 58 = some (.lit (.slice none 0 0))) ∧
    (cx.B 60 = none) ∧
    (tz cx.P 60 = some (.agg [.lit (.int .u8 0), .lit (.string ⟨#[]⟩)])) ∧
    (cx.B 62 = none) ∧
    (tz cx.P 62 = some (.agg [.lit (.string ⟨#[]⟩), .lit (.string ⟨#[]⟩), .lit (.int .i64 0)])) ∧
    (cx.B 65 = none) ∧
    (tz cx.P 65 = some (.lit (.map none))) ∧
    (cx.B 70 = none) ∧
    (tz cx.P 70 = some (.lit (.map none))) ∧
    (cx.B 73 = none) ∧
    (tz cx.P 73 = some (.lit (.slice none 0 0))) ∧
    (cx.B 78 = none) ∧
    (tz cx.P 78 = some (.lit (.pointer none))) ∧
    (cx.B 79 = none) ∧
    (tz cx.P 79 = some (.lit (.slice none 0 0))) ∧
    (tz cx.P 81 = some (.agg [.lit (.pointer none), .lit (.slice none 0 0)])) ∧
    (cx.B 110 = none) ∧
    (tz cx.P 110 = some (.lit (.pointer none))) ∧
    (cx.B 119 = none) ∧
    (tz cx.P 119 = some (.lit (.slice none 0 0))) ∧
    (cx.B 127 = none) ∧
    (tz cx.P 127 = some (.lit (.pointer none))) ∧
    (cx.B 129 = none) ∧
    (tz cx.P 129 = some (.agg [.lit (.bool false), .lit (.bool false), .lit (.bool false), .lit (.bool false), .lit (.bool false), .lit (.bool false), .lit (.bool false), .lit (.bool false), .lit (.bool false), .lit (.bool false), .lit (.bool false), .lit (.bool false), .lit (.bool false), .lit (.bool false), .lit (.bool false), .lit (.bool false), .lit (.bool false), .lit (.bool false), .lit (.bool false), .lit (.bool false), .lit (.bool false), .lit (.bool false), .lit (.bool false), .lit (.bool false), .lit (.bool false), .lit (.bool false), .lit (.bool false), .lit (.bool false), .lit (.bool false), .lit (.bool false)])) ∧
    (cx.B 131 = none) ∧
    (tz cx.P 131 = some (.agg [.lit (.bool false), .lit (.bool false), .lit (.bool false), .lit (.bool false), .lit (.bool false), .lit (.bool false), .lit (.bool false), .lit (.bool false), .lit (.bool false), .lit (.bool false), .lit (.bool false), .lit (.bool false), .lit (.bool false), .lit (.bool false), .lit (.bool false), .lit (.bool false), .lit (.bool false), .lit (.bool false), .lit (.bool false), .lit (.bool false), .lit (.bool false), .lit (.bool false), .lit (.bool false), .lit (.bool false), .lit (.bool false), .lit (.bool false), .lit (.bool false), .lit (.bool false), .lit (.bool false), .lit (.bool false), .lit (.bool false), .lit (.bool false), .lit (.bool false), .lit (.bool false), .lit (.bool false), .lit (.bool false), .lit (.bool false), .lit (.bool false), .lit (.bool false), .lit (.bool false), .lit (.bool false), .lit (.bool false), .lit (.bool false), .lit (.bool false), .lit (.bool false), .lit (.bool false), .lit (.bool false), .lit (.bool false), .lit (.bool false), .lit (.bool false), .lit (.bool false), .lit (.bool false), .lit (.bool false), .lit (.bool false), .lit (.bool false), .lit (.bool false), .lit (.bool false), .lit (.bool false), .lit (.bool false), .lit (.bool false)])) ∧
    (cx.B 133 = none) ∧
    (tz cx.P 133 = some (.agg [.lit (.int .i64 0), .lit (.int .i64 0)])) ∧
    (cx.B 142 = none) ∧
    (tz cx.P 142 = some (.lit (.int .u64 0))) ∧
    (cx.B 163 = none) ∧
    (tz cx.P 163 = some (.lit (.int .u32 0))) ∧
    (cx.B 165 = none) ∧
    (tz cx.P 165 = some (.lit (.int .u64 0))) ∧
    (cx.B 171 = none) ∧
    (tz cx.P 171 = some (.agg [.lit (.int .u8 0), .lit (.int .u8 0), .lit (.int .u8 0), .lit (.int .u8 0), .lit (.int .u8 0), .lit (.int .u8 0), .lit (.int .u8 0), .lit (.int .u8 0), .lit (.int .u8 0), .lit (.int .u8 0), .lit (.int .u8 0), .lit (.int .u8 0), .lit (.int .u8 0), .lit (.int .u8 0), .lit (.int .u8 0), .lit (.int .u8 0), .lit (.int .u8 0), .lit (.int .u8 0), .lit (.int .u8 0), .lit (.int .u8 0), .lit (.int .u8 0), .lit (.int .u8 0), .lit (.int .u8 0), .lit (.int .u8 0)])) ∧
    (cx.B 175 = none) ∧
    (tz cx.P 175 = some (.lit .nilFunc)) ∧
    (cx.B 180 = none) ∧
    (tz cx.P 180 = some (.lit (.pointer none))) ∧
    (cx.B 186 = none) ∧
    (tz cx.P 186 = some (.agg [.lit (.int .u64 0), .lit (.int .u64 0), .lit (.int .u64 0), .lit (.int .u64 0), .lit (.int .u64 0), .lit (.int .u64 0), .lit (.int .u64 0), .lit (.int .u64 0), .lit (.int .u64 0), .lit (.int .u64 0), .lit (.int .u64 0), .lit (.int .u64 0), .lit (.int .u64 0), .lit (.int .u64 0), .lit (.int .u64 0), .lit (.int .u64 0), .lit (.int .u64 0), .lit (.int .u64 0), .lit (.int .u64 0), .lit (.int .u64 0)])) ∧
    (cx.B 188 = none) ∧
    (tz cx.P 188 = some (.lit (.pointer none))) ∧
    (cx.B 192 = none) ∧
    (tz cx.P 192 = some (.agg [.lit (.int .u8 0), .lit (.int .u8 0), .lit (.int .u8 0), .lit (.int .u8 0), .lit (.int .u8 0), .lit (.int .u8 0), .lit (.int .u8 0), .lit (.int .u8 0), .lit (.int .u8 0), .lit (.int .u8 0), .lit (.int .u8 0), .lit (.int .u8 0), .lit (.int .u8 0), .lit (.int .u8 0), .lit (.int .u8 0), .lit (.int .u8 0), .lit (.int .u8 0), .lit (.int .u8 0), .lit (.int .u8 0), .lit (.int .u8 0), .lit (.int .u8 0), .lit (.int .u8 0), .lit (.int .u8 0), .lit (.int .u8 0), .lit (.int .u8 0), .lit (.int .u8 0), .lit (.int .u8 0), .lit (.int .u8 0), .lit (.int .u8 0), .lit (.int .u8 0), .lit (.int .u8 0), .lit (.int .u8 0)])) ∧
    (cx.B 193 = none) ∧
    (tz cx.P 193 = some (.agg [.lit (.int .u8 0), .lit (.int .u8 0), .lit (.int .u8 0), .lit (.int .u8 0), .lit (.int .u8 0), .lit (.int .u8 0), .lit (.int .u8 0), .lit (.int .u8 0), .lit (.int .u8 0), .lit (.int .u8 0), .lit (.int .u8 0), .lit (.int .u8 0), .lit (.int .u8 0), .lit (.int .u8 0), .lit (.int .u8 0), .lit (.int .u8 0), .lit (.int .u8 0), .lit (.int .u8 0), .lit (.int .u8 0), .lit (.int .u8 0), .lit (.int .u8 0), .lit (.int .u8 0), .lit (.int .u8 0), .lit (.int .u8 0), .lit (.int .u8 0), .lit (.int .u8 0), .lit (.int .u8 0), .lit (.int .u8 0), .lit (.int .u8 0), .lit (.int .u8 0), .lit (.int .u8 0), .lit (.int .u8 0), .lit (.int .u8 0), .lit (.int .u8 0), .lit (.int .u8 0), .lit (.int .u8 0), .lit (.int .u8 0), .lit (.int .u8 0), .lit (.int .u8 0), .lit (.int .u8 0), .lit (.int .u8 0), .lit (.int .u8 0), .lit (.int .u8 0), .lit (.int .u8 0), .lit (.int .u8 0), .lit (.int .u8 0), .lit (.int .u8 0), .lit (.int .u8 0), .lit (.int .u8 0), .lit (.int .u8 0), .lit (.int .u8 0), .lit (.int .u8 0), .lit (.int .u8 0), .lit (.int .u8 0), .lit (.int .u8 0), .lit (.int .u8 0), .lit (.int .u8 0), .lit (.int .u8 0), .lit (.int .u8 0), .lit (.int .u8 0), .lit (.int .u8 0), .lit (.int .u8 0), .lit (.int .u8 0), .lit (.int .u8 0)])) ∧
    (cx.B 81 = some 5) :=
  ⟨by kernel_rfl, by kernel_rfl, by kernel_rfl, by kernel_rfl, by kernel_rfl, by kernel_rfl, by kernel_rfl, by kernel_rfl, by kernel_rfl, by kernel_rfl, by kernel_rfl, by kernel_rfl, by kernel_rfl, by kernel_rfl, by kernel_rfl, by kernel_rfl, by kernel_rfl, by kernel_rfl, by kernel_rfl, by kernel_rfl, by kernel_rfl, by kernel_rfl, by kernel_rfl, by kernel_rfl, by kernel_rfl, by kernel_rfl, by kernel_rfl, by kernel_rfl, by kernel_rfl, by kernel_rfl, by kernel_rfl, by kernel_rfl, by kernel_rfl, by kernel_rfl, by kernel_rfl, by kernel_rfl, by kernel_rfl, by kernel_rfl, by kernel_rfl, by kernel_rfl, by kernel_rfl, by kernel_rfl, by kernel_rfl, by kernel_rfl, by kernel_rfl, by kernel_rfl, by kernel_rfl, by kernel_rfl, by kernel_rfl, by kernel_rfl, by kernel_rfl, by kernel_rfl, by kernel_rfl, by kernel_rfl, by kernel_rfl, by kernel_rfl, by kernel_rfl, by kernel_rfl, by kernel_rfl, by kernel_rfl, by kernel_rfl, by kernel_rfl, by kernel_rfl, by kernel_rfl, by kernel_rfl, by kernel_rfl, by kernel_rfl, by kernel_rfl, by kernel_rfl, by kernel_rfl, by kernel_rfl, by kernel_rfl, by kernel_rfl, by kernel_rfl, by kernel_rfl, by kernel_rfl, by kernel_rfl, by kernel_rfl, by kernel_rfl, by kernel_rfl, by kernel_rfl, by kernel_rfl, by kernel_rfl, by kernel_rfl, by kernel_rfl, by kernel_rfl, by kernel_rfl, by kernel_rfl⟩
theorem fld : (∀ cs, evFldA cx 26 (.cptr cs) 0 = some (.cptr (cs.drop 0))) ∧
    (∀ i v j o, evFldA cx 26 (.ptr i v j o) 0 = some (.ptr i v j (o + 0))) ∧
    (∀ cs, evFld cx 26 (.agg cs) 0 = cs[0]?) ∧
    (∀ cs, evFldA cx 26 (.cptr cs) 1 = some (.cptr (cs.drop 1))) ∧
    (∀ i v j o, evFldA cx 26 (.ptr i v j o) 1 = some (.ptr i v j (o + 1))) ∧
    (∀ cs, evFld cx 26 (.agg cs) 1 = cs[1]?) ∧
    (∀ cs, evFldA cx 26 (.cptr cs) 2 = some (.cptr (cs.drop 2))) ∧
    (∀ i v j o, evFldA cx 26 (.ptr i v j o) 2 = some (.ptr i v j (o + 2))) ∧
    (∀ cs, evFld cx 26 (.agg cs) 2 = cs[2]?) ∧
    (∀ cs, evFldA cx 29 (.cptr cs) 0 = some (.cptr (cs.drop 0))) ∧
    (∀ i v j o, evFldA cx 29 (.ptr i v j o) 0 = some (.ptr i v j (o + 0))) ∧
    (∀ cs, evFld cx 29 (.agg cs) 0 = cs[0]?) ∧
    (∀ cs, evFldA cx 29 (.cptr cs) 1 = some (.cptr (cs.drop 1))) ∧
    (∀ i v j o, evFldA cx 29 (.ptr i v j o) 1 = some (.ptr i v j (o + 1))) ∧
    (∀ cs, evFld cx 29 (.agg cs) 1 = cs[1]?) ∧
    (∀ cs, evFldA cx 34 (.cptr cs) 0 = some (.cptr (cs.drop 0))) ∧
    (∀ i v j o, evFldA cx 34 (.ptr i v j o) 0 = some (.ptr i v j (o + 0))) ∧
    (∀ cs, evFld cx 34 (.agg cs) 0 = cs[0]?) ∧
    (∀ cs, evFldA cx 34 (.cptr cs) 1 = some (.cptr (cs.drop 1))) ∧
    (∀ i v j o, evFldA cx 34 (.ptr i v j o) 1 = some (.ptr i v j (o + 1))) ∧
    (∀ cs, evFld cx 34 (.agg cs) 1 = cs[1]?) ∧
    (∀ cs, evFldA cx 34 (.cptr cs) 2 = some (.cptr (cs.drop 2))) ∧
    (∀ i v j o, evFldA cx 34 (.ptr i v j o) 2 = some (.ptr i v j (o + 2))) ∧
    (∀ cs, evFld cx 34 (.agg cs) 2 = cs[2]?) ∧
    (∀ cs, evFldA cx 49 (.cptr cs) 0 = some (.cptr (cs.drop 0))) ∧
    (∀ i v j o, evFldA cx 49 (.ptr i v j o) 0 = some (.ptr i v j (o + 0))) ∧
    (∀ cs, evFld cx 49 (.agg cs) 0 = cs[0]?) ∧
    (∀ cs, evFldA cx 49 (.cptr cs) 1 = some (.cptr (cs.drop 1))) ∧
    (∀ i v j o, evFldA cx 49 (.ptr i v j o) 1 = some (.ptr i v j (o + 1))) ∧
    (∀ cs, evFld cx 49 (.agg cs) 1 = cs[1]?) ∧
    (∀ cs, evFldA cx 49 (.cptr cs) 2 = some (.cptr (cs.drop 2))) ∧
    (∀ i v j o, evFldA cx 49 (.ptr i v j o) 2 = some (.ptr i v j (o + 2))) ∧
    (∀ cs, evFld cx 49 (.agg cs) 2 = cs[2]?) ∧
    (∀ cs, evFldA cx 57 (.cptr cs) 0 = some (.cptr (cs.drop 0))) ∧
    (∀ i v j o, evFldA cx 57 (.ptr i v j o) 0 = some (.ptr i v j (o + 0))) ∧
    (∀ cs, evFld cx 57 (.agg cs) 0 = cs[0]?) ∧
    (∀ cs, evFldA cx 57 (.cptr cs) 1 = some (.cptr (cs.drop 1))) ∧
    (∀ i v j o, evFldA cx 57 (.ptr i v j o) 1 = some (.ptr i v j (o + 1))) ∧
    (∀ cs, evFld cx 57 (.agg cs) 1 = cs[1]?) ∧
    (∀ cs, evFldA cx 57 (.cptr cs) 2 = some (.cptr (cs.drop 2))) ∧
    (∀ i v j o, evFldA cx 57 (.ptr i v j o) 2 = some (.ptr i v j (o + 2))) ∧
    (∀ cs, evFld cx 57 (.agg cs) 2 = cs[2]?) ∧
    (∀ cs, evFldA cx 57 (.cptr cs) 3 = some (.cptr (cs.drop 3))) ∧
    (∀ i v j o, evFldA cx 57 (.ptr i v j o) 3 = some (.ptr i v j (o + 3))) ∧
    (∀ cs, evFld cx 57 (.agg cs) 3 = cs[3]?) ∧
    (∀ cs, evFldA cx 60 (.cptr cs) 0 = some (.cptr (cs.drop 0))) ∧
    (∀ i v j o, evFldA cx 60 (.ptr i v j o) 0 = some (.ptr i v j (o + 0))) ∧
    (∀ cs, evFld cx 60 (.agg cs) 0 = cs[0]?) ∧
    (∀ cs, evFldA cx 60 (.cptr cs) 1 = some (.cptr (cs.drop 1))) ∧
    (∀ i v j o, evFldA cx 60 (.ptr i v j o) 1 = some (.ptr i v j (o + 1))) ∧
    (∀ cs, evFld cx 60 (.agg cs) 1 = cs[1]?) ∧
    (∀ cs, evFldA cx 62 (.cptr cs) 0 = some (.cptr (cs.drop 0))) ∧
    (∀ i v j o, evFldA cx 62 (.ptr i v j o) 0 = some (.ptr i v j (o + 0))) ∧
    (∀ cs, evFld cx 62 (.agg cs) 0 = cs[0]?) ∧
    (∀ cs, evFldA cx 62 (.cptr cs) 1 = some (.cptr (cs.drop 1))) ∧
    (∀ i v j o, evFldA cx 62 (.ptr i v j o) 1 = some (.ptr i v j (o + 1))) ∧
    (∀ cs, evFld cx 62 (.agg cs) 1 = cs[1]?) ∧
    (∀ cs, evFldA cx 62 (.cptr cs) 2 = some (.cptr (cs.drop 2))) ∧
    (∀ i v j o, evFldA cx 62 (.ptr i v j o) 2 = some (.ptr i v j (o + 2))) ∧
    (∀ cs, evFld cx 62 (.agg cs) 2 = cs[2]?) ∧
    (∀ cs, evFldA cx 81 (.cptr cs) 0 = some (.cptr (cs.drop 0))) ∧
    (∀ i v j o, evFldA cx 81 (.ptr i v j o) 0 = some (.ptr i v j (o + 0))) ∧
    (∀ cs, evFld cx 81 (.agg cs) 0 = cs[0]?) ∧
    (∀ cs, evFldA cx 81 (.cptr cs) 1 = some (.cptr (cs.drop 1))) ∧
    (∀ i v j o, evFldA cx 81 (.ptr i v j o) 1 = some (.ptr i v j (o + 1))) ∧
    (∀ cs, evFld cx 81 (.agg cs) 1 = cs[1]?) ∧
    (∀ cs, evFldA cx 131 (.cptr cs) 0 = some (.cptr (cs.drop 0))) ∧
    (∀ i v j o, evFldA cx 131 (.ptr i v j o) 0 = some (.ptr i v j (o + 0))) ∧
    (∀ cs, evFld cx 131 (.agg cs) 0 = (if 0 + 30 ≤ cs.length then some (.agg ((cs.drop 0).take 30)) else none)) ∧
    (∀ cs, evFldA cx 131 (.cptr cs) 1 = some (.cptr (cs.drop 30))) ∧
    (∀ i v j o, evFldA cx 131 (.ptr i v j o) 1 = some (.ptr i v j (o + 30))) ∧
    (∀ cs, evFld cx 131 (.agg cs) 1 = (if 30 + 30 ≤ cs.length then some (.agg ((cs.drop 30).take 30)) else none)) ∧
    (∀ cs, evFldA cx 133 (.cptr cs) 0 = some (.cptr (cs.drop 0))) ∧
    (∀ i v j o, evFldA cx 133 (.ptr i v j o) 0 = some (.ptr i v j (o + 0))) ∧
    (∀ cs, evFld cx 133 (.agg cs) 0 = cs[0]?) ∧
    (∀ cs, evFldA cx 133 (.cptr cs) 1 = some (.cptr (cs.drop 1))) ∧
    (∀ i v j o, evFldA cx 133 (.ptr i v j o) 1 = some (.ptr i v j (o + 1))) ∧
    (∀ cs, evFld cx 133 (.agg cs) 1 = cs[1]?) :=
  ⟨fun _ => by kernel_rfl, fun _ _ _ _ => by kernel_rfl, fun _ => by kernel_rfl, fun _ => by kernel_rfl, fun _ _ _ _ => by kernel_rfl, fun _ => by kernel_rfl, fun _ => by kernel_rfl, fun _ _ _ _ => by kernel_rfl, fun _ => by kernel_rfl, fun _ => by kernel_rfl, fun _ _ _ _ => by kernel_rfl, fun _ => by kernel_rfl, fun _ => by kernel_rfl, fun _ _ _ _ => by kernel_rfl, fun _ => by kernel_rfl, fun _ => by kernel_rfl, fun _ _ _ _ => by kernel_rfl, fun _ => by kernel_rfl, fun _ => by kernel_rfl, fun _ _ _ _ => by kernel_rfl, fun _ => by kernel_rfl, fun _ => by kernel_rfl, fun _ _ _ _ => by kernel_rfl, fun _ => by kernel_rfl, fun _ => by kernel_rfl, fun _ _ _ _ => by kernel_rfl, fun _ => by kernel_rfl, fun _ => by kernel_rfl, fun _ _ _ _ => by kernel_rfl, fun _ => by kernel_rfl, fun _ => by kernel_rfl, fun _ _ _ _ => by kernel_rfl, fun _ => by kernel_rfl, fun _ => by kernel_rfl, fun _ _ _ _ => by kernel_rfl, fun _ => by kernel_rfl, fun _ => by kernel_rfl, fun _ _ _ _ => by kernel_rfl, fun _ => by kernel_rfl, fun _ => by kernel_rfl, fun _ _ _ _ => by kernel_rfl, fun _ => by kernel_rfl, fun _ => by kernel_rfl, fun _ _ _ _ => by kernel_rfl, fun _ => by kernel_rfl, fun _ => by kernel_rfl, fun _ _ _ _ => by kernel_rfl, fun _ => by kernel_rfl, fun _ => by kernel_rfl, fun _ _ _ _ => by kernel_rfl, fun _ => by kernel_rfl, fun _ => by kernel_rfl, fun _ _ _ _ => by kernel_rfl, fun _ => by kernel_rfl, fun _ => by kernel_rfl, fun _ _ _ _ => by kernel_rfl, fun _ => by kernel_rfl, fun _ => by kernel_rfl, fun _ _ _ _ => by kernel_rfl, fun _ => by kernel_rfl, fun _ => by kernel_rfl, fun _ _ _ _ => by kernel_rfl, fun _ => by kernel_rfl, fun _ => by kernel_rfl, fun _ _ _ _ => by kernel_rfl, fun _ => by kernel_rfl, fun _ => by kernel_rfl, fun _ _ _ _ => by kernel_rfl, fun _ => by kernel_rfl, fun _ => by kernel_rfl, fun _ _ _ _ => by kernel_rfl, fun _ => by kernel_rfl, fun _ => by kernel_rfl, fun _ _ _ _ => by kernel_rfl, fun _ => by kernel_rfl, fun _ => by kernel_rfl, fun _ _ _ _ => by kernel_rfl, fun _ => by kernel_rfl⟩
theorem nit : (notIntT cx.P 22 = true) ∧
    (notIntT cx.P 23 = true) ∧
    (notIntT cx.P 24 = true) ∧
    (notIntT cx.P 30 = true) ∧
    (notIntT cx.P 32 = true) ∧
    (notIntT cx.P 42 = true) ∧
    (notIntT cx.P 50 = true) ∧
    (notIntT cx.P 58 = true) ∧
    (notIntT cx.P 73 = true) ∧
    (notIntT cx.P 79 = true) ∧
    (notIntT cx.P 119 = true) :=
  ⟨by kernel_rfl, by kernel_rfl, by kernel_rfl, by kernel_rfl, by kernel_rfl, by kernel_rfl, by kernel_rfl, by kernel_rfl, by kernel_rfl, by kernel_rfl, by kernel_rfl⟩
theorem cnQ : (∀ v, PV.one (.lit v) = true) ∧ (∀ a b, PV.one (.imm a b) = true) ∧ (∀ a b c d e, PV.one (.own a b c d e) = true) ∧ (∀ a, PV.one (.cptr a) = true) ∧ (∀ a b c d, PV.one (.ptr a b c d) = true) ∧ (∀ a b c, PV.one (.clo a b c) = true) ∧ (∀ a b, PV.one (.ifc a b) = true) ∧ (∀ a, PV.one (.mp a) = true) ∧ (∀ a b, PV.one (.new a b) = true) ∧ (∀ a, PV.one (.agg a) = false) ∧ (∀ a, PV.one (.tup a) = false) ∧ (∀ v, forget1 (.lit v) = .lit v) ∧ (∀ a b, forget1 (.imm a b) = .imm a b) ∧ (∀ a b c d e, forget1 (.own a b c d e) = .own a b c d e) ∧ (∀ a, forget1 (.cptr a) = .cptr a) ∧ (∀ a b c d, forget1 (.ptr a b c d) = .ptr a b c d) ∧ (∀ a b c, forget1 (.clo a b c) = .clo a b c) ∧ (∀ a b, forget1 (.ifc a b) = .ifc a b) ∧ (∀ a, forget1 (.mp a) = .mp a) ∧ (∀ a b, forget1 (.new a b) = .imm b false) ∧ (∀ a, forget1 (.agg a) = .agg a) ∧ (∀ a, forget1 (.tup a) = .tup a) ∧ (∀ v, forget (.lit v) = .lit v) ∧ (∀ a b, forget (.imm a b) = .imm a b) ∧ (∀ a b c d e, forget (.own a b c d e) = .own a b c d e) ∧ (∀ a, forget (.cptr a) = .cptr a) ∧ (∀ a b c d, forget (.ptr a b c d) = .ptr a b c d) ∧ (∀ a b c, forget (.clo a b c) = .clo a b c) ∧ (∀ a b, forget (.ifc a b) = .ifc a b) ∧ (∀ a, forget (.mp a) = .mp a) ∧ (∀ a b, forget (.new a b) = .imm b false) ∧ (∀ a, forget (.agg a) = .agg a) ∧ (∀ a, forget (.tup a) = .tup (a.map forget1)) ∧ (∀ a, aggD (.struct a) = true) ∧ (∀ a b, aggD (.array a b) = true) ∧ (aggD .bool = false) ∧ (∀ a, aggD (.int a) = false) ∧ (aggD .string = false) ∧ (∀ a, aggD (.slice a) = false) ∧ (∀ a, aggD (.pointer a) = false) ∧ (∀ a b, aggD (.map a b) = false) ∧ (∀ a b c, aggD (.func a b c) = false) :=
  ⟨fun _ => rfl, fun _ _ => rfl, fun _ _ _ _ _ => rfl, fun _ => rfl, fun _ _ _ _ => rfl, fun _ _ _ => rfl, fun _ _ => rfl, fun _ => rfl, fun _ _ => rfl, fun _ => rfl, fun _ => rfl, fun _ => rfl, fun _ _ => rfl, fun _ _ _ _ _ => rfl, fun _ => rfl, fun _ _ _ _ => rfl, fun _ _ _ => rfl, fun _ _ => rfl, fun _ => rfl, fun _ _ => rfl, fun _ => rfl, fun _ => rfl, fun _ => rfl, fun _ _ => rfl, fun _ _ _ _ _ => rfl, fun _ => rfl, fun _ _ _ _ => rfl, fun _ _ _ => rfl, fun _ _ => rfl, fun _ => rfl, fun _ _ => rfl, fun _ => rfl, fun _ => rfl, fun _ => rfl, fun _ _ => rfl, rfl, fun _ => rfl, rfl, fun _ => rfl, fun _ => rfl, fun _ _ => rfl, fun _ _ _ => rfl⟩
theorem bp0 : type_of% (And.intro @vcl (And.intro @vcy (@vco))) := And.intro @vcl (And.intro @vcy (@vco))
theorem bd0 : type_of% (And.intro cnQ (And.intro @vck (And.intro @gR (And.intro @evl (And.intro @evb (And.intro @evBuiltin.eq_1 (And.intro @evBuiltin.eq_2 (And.intro @evBuiltin.eq_3 (And.intro @evLen.eq_1 (And.intro @evLen.eq_2 (And.intro @evLen.eq_3 (And.intro @evLen.eq_4 (And.intro @evLen.eq_5 (And.intro @evLen.eq_6 (And.intro @evIdxA.eq_1 (And.intro @evLoad.eq_1 (And.intro @evLoad.eq_2 (And.intro @loadP.eq_1 (And.intro @tis (And.intro @i64.eq_1 (And.intro @u32.eq_1 (And.intro @bl.eq_1 (And.intro @encL.eq_1 (And.intro @encB.eq_1 (And.intro @encLL.eq_1 (And.intro @wantd.eq_1 (And.intro @tzs (And.intro @eve.eq_1 (And.intro @eve.eq_2 (And.intro @eve.eq_3 (And.intro @eve.eq_4 (And.intro @eve.eq_5 (And.intro @eve.eq_6 (And.intro @eve.eq_7 (And.intro @eve.eq_8 (And.intro @eve.eq_9 (And.intro @eve.eq_10 (And.intro @eve.eq_11 (And.intro @eve.eq_12 (And.intro @evBox.eq_1 (And.intro @evAlloc.eq_1 (And.intro @evBuildSlice.eq_1 (And.intro @evMakeSlice.eq_1 (And.intro @evAppend.eq_1 (And.intro @fillRows.eq_1 (And.intro @fillRows.eq_2 (And.intro @zcells.eq_1 (And.intro @elemsOf.eq_1 (And.intro @elemsOf.eq_2 (And.intro @elemsOf.eq_3 (And.intro @elemsOf.eq_4 (And.intro @putAll.eq_1 (And.intro @putAll.eq_2 (@Int.cast_ofNat_Int)))))))))))))))))))))))))))))))))))))))))))))))))))))) := And.intro cnQ (And.intro @vck (And.intro @gR (And.intro @evl (And.intro @evb (And.intro @evBuiltin.eq_1 (And.intro @evBuiltin.eq_2 (And.intro @evBuiltin.eq_3 (And.intro @evLen.eq_1 (And.intro @evLen.eq_2 (And.intro @evLen.eq_3 (And.intro @evLen.eq_4 (And.intro @evLen.eq_5 (And.intro @evLen.eq_6 (And.intro @evIdxA.eq_1 (And.intro @evLoad.eq_1 (And.intro @evLoad.eq_2 (And.intro @loadP.eq_1 (And.intro @tis (And.intro @i64.eq_1 (And.intro @u32.eq_1 (And.intro @bl.eq_1 (And.intro @encL.eq_1 (And.intro @encB.eq_1 (And.intro @encLL.eq_1 (And.intro @wantd.eq_1 (And.intro @tzs (And.intro @eve.eq_1 (And.intro @eve.eq_2 (And.intro @eve.eq_3 (And.intro @eve.eq_4 (And.intro @eve.eq_5 (And.intro @eve.eq_6 (And.intro @eve.eq_7 (And.intro @eve.eq_8 (And.intro @eve.eq_9 (And.intro @eve.eq_10 (And.intro @eve.eq_11 (And.intro @eve.eq_12 (And.intro @evBox.eq_1 (And.intro @evAlloc.eq_1 (And.intro @evBuildSlice.eq_1 (And.intro @evMakeSlice.eq_1 (And.intro @evAppend.eq_1 (And.intro @fillRows.eq_1 (And.intro @fillRows.eq_2 (And.intro @zcells.eq_1 (And.intro @elemsOf.eq_1 (And.intro @elemsOf.eq_2 (And.intro @elemsOf.eq_3 (And.intro @elemsOf.eq_4 (And.intro @putAll.eq_1 (And.intro @putAll.eq_2 (@Int.cast_ofNat_Int)))))))))))))))))))))))))))))))))))))))))))))))))))))
end Go.Ab
end

section
/- Branches and ledgers in plain terms. -/
namespace Go.Ab
open Go
abbrev Str := ByteArray
structure Br where
  name : Str
  frm : Str
  pos : Int
structure Kw where
  chg : Str
  cls : Int
structure Ev where
  kind : Int
  chg : Str
structure Ldg where
  known : List Kw
  brs : List Br
  evs : List (List Ev)
abbrev str (s : Str) : PV := .lit (.string s)
abbrev u8 (n : Int) : PV := .lit (.int .u8 n)
def cBr (b : Br) : List PV := [str b.name, str b.frm, .lit (.int .i64 b.pos)]
def cKw (k : Kw) : List PV := [str k.chg, .lit (.int .i64 k.cls)]
def cEv (e : Ev) : List PV := [u8 e.kind, str e.chg]
def encBrs (l : List Br) : PV := .imm (l.map cBr) false
def encKws (l : List Kw) : PV := .imm (l.map cKw) false
def encEvs (l : List Ev) : PV := .imm (l.map cEv) false
def encEvss (l : List (List Ev)) : PV := .imm (l.map fun x => [encEvs x]) false
def encLdg (l : Ldg) : PV := .agg [encKws l.known, encBrs l.brs, encEvss l.evs]
def encStrs (l : List Str) : PV := .imm (l.map fun s => [str s]) false
def lowB (c : UInt8) : Bool := decide (97 ≤ c.toNat) && decide (c.toNat ≤ 122)
def nameC (c : UInt8) : Bool := lowB c || (decide (48 ≤ c.toNat) && decide (c.toNat ≤ 57)) || decide (c.toNat = 45)
def nameB (s : Str) : Bool := decide (s.size ≤ 40) && (match s.data.toList with
  | [] => false
  | c :: r => lowB c && r.all nameC)
def idx (l : List Br) (n : Str) : Int := fi (fun b => decide (b.name = n)) l
def dupB (l : List Br) : Bool := (List.range l.length).any fun i => match l[i]? with
  | some b => decide (idx l b.name < i)
  | none => false
def brB (l : List Br) (i : Nat) (b : Br) : Bool := !nameB b.name || decide (b.pos < 0) || decide (320 < b.pos) || (decide (0 < i) && decide (idx (l.take i) b.frm < 0))
def anyI {α : Type} (p : Nat → α → Bool) (l : List α) : Bool := (List.range l.length).any fun i => match l[i]? with
  | some b => p i b
  | none => false
def bchk (l : List Br) : Int :=
  if 8 < l.length then 4 else if dupB l then 14 else match l[0]? with
  | none => 8
  | some b => if b.frm ≠ ⟨#[]⟩ ∨ b.pos ≠ 0 then 8 else if anyI (brB l) l then 8 else 0
def endOf (l : List Br) (cs : List Int) (i : Nat) : Int := match l[i]?, cs[i]? with
  | some b, some c => b.pos + c
  | _, _ => 0
def fitI (l : List Br) (cs : List Int) (i : Nat) (b : Br) : Bool := decide (i = 0) || decide (b.pos ≤ endOf l cs (idx l b.frm).toNat)
def bfits (l : List Br) (cs : List Int) : Int :=
  if bchk l ≠ 0 then bchk l else if cs.length ≠ l.length ∨ (cs.any fun n => decide (n < 0) || decide (40 < n)) = true then 2
  else if anyI (fun i b => !fitI l cs i b) l then 16 else 0
def own (i : Nat) (c : Int) : List (Nat × Nat) := (List.range c.toNat).map fun k => (i, k)
def vw1 (l : List Br) (cs : List Int) (V : List (List (Nat × Nat))) (i : Nat) : List (Nat × Nat) := match l[i]?, cs[i]? with
  | some b, some c => (if i = 0 then [] else ((V[(idx l b.frm).toNat]?).getD []).take b.pos.toNat) ++ own i c
  | _, _ => []
def vws (l : List Br) (cs : List Int) : Nat → List (List (Nat × Nat))
  | 0 => []
  | n + 1 => vws l cs n ++ [vw1 l cs (vws l cs n) n]
def vw (l : List Br) (cs : List Int) (i : Nat) : List (Nat × Nat) := ((vws l cs l.length)[i]?).getD []
def bview (l : List Br) (cs : List Int) (n : Str) : List (Nat × Nat) × Int :=
  if bfits l cs ≠ 0 then ([], bfits l cs) else if idx l n < 0 then ([], 6) else (vw l cs (idx l n).toNat, 0)
def cMk (m : Nat × Nat) : List PV := [.lit (.int .i64 (m.1 : Int)), .lit (.int .i64 (m.2 : Int))]
def encMks (l : List (Nat × Nat)) : PV := .imm (l.map cMk) false
def newMks (l : List (Nat × Nat)) : PV := .new 2 (l.map cMk)
/-! ### ledgers -/
def clsOf (known : List Kw) (c : Str) : Option Int := (known.find? fun k => decide (k.chg = c)).map (·.cls)
def cls0 (known : List Kw) (c : Str) : Int := (clsOf known c).getD 0
def clsI (known : List Kw) (c : Str) : Int := (clsOf known c).getD (-1)
def cnts (l : Ldg) : List Int := l.evs.map fun x => (x.length : Int)
def lastK (f : Str → Int) : List Ev → Int → Option Int
  | [], _ => none
  | e :: r, c => match lastK f r c with
    | some k => some k
    | none => if f e.chg = c then some e.kind else none
def inB (f : Str → Int) (es : List Ev) (c : Int) : Bool := match lastK f es c with
  | some k => decide (k ≠ 3)
  | none => false
def seenL (f : Str → Int) (es : List Ev) : List Bool := (List.range 30).map fun (c : Nat) => (lastK f es (c : Int)).isSome
def inL (f : Str → Int) (es : List Ev) : List Bool := (List.range 30).map fun (c : Nat) => inB f es (c : Int)
def alwC (f : Str → Int) (es : List Ev) (kind c : Int) : Int :=
  if kind < 1 ∨ 4 < kind then 2
  else if kind = 3 then (if inB f es c then 0 else 36)
  else if inB f es c then 30
  else if kind = 1 ∧ (lastK f es c).isSome = true then 14
  else if kind = 4 ∧ (lastK f es c).isSome = false then 36
  else 0
def alw (f : Str → Int) (es : List Ev) (x : Ev) : Int := alwC f es x.kind (f x.chg)
def evAt (l : Ldg) (m : Nat × Nat) : Ev := (((l.evs[m.1]?).getD [])[m.2]?).getD ⟨0, ⟨#[]⟩⟩
def seenE (l : Ldg) (v : List (Nat × Nat)) : List Ev := v.map (evAt l)
def nodupB : List Kw → Bool
  | [] => true
  | k :: r => !(r.any fun q => decide (q.chg = k.chg)) && nodupB r
def kwB (k : Kw) : Bool := !nameB k.chg || decide (k.cls < 0) || decide (30 ≤ k.cls)
def runB (known : List Kw) (pre own : List Ev) : Bool := (List.range own.length).all fun k => match own[k]? with
  | some x => (clsOf known x.chg).isSome && decide (alw (cls0 known) (pre ++ own.take k) x = 0)
  | none => true
def preE (l : Ldg) (i : Nat) : List Ev := seenE l ((vw l.brs (cnts l) i).take (match l.brs[i]? with
  | some b => b.pos.toNat
  | none => 0))
def lchk (l : Ldg) : Int :=
  if 30 < l.known.length then 4 else if nodupB l.known = false then 14 else if l.known.any kwB then 8 else if bchk l.brs ≠ 0 then bchk l.brs
  else if l.evs.length ≠ l.brs.length then 2 else if (l.evs.any fun s => decide (40 < s.length)) = true then 4 else if bfits l.brs (cnts l) ≠ 0 then bfits l.brs (cnts l)
  else if anyI (fun i own => !runB l.known (preE l i) own) l.evs then 8 else 0
def lview (l : Ldg) (n : Str) : List (Nat × Nat) × Int := if lchk l ≠ 0 then ([], lchk l) else bview l.brs (cnts l) n
def effE (known : List Kw) (es : List Ev) : List Int := lst 0 (inL (cls0 known) es)
def leff (l : Ldg) (n : Str) : List Int × Int := if (lview l n).2 ≠ 0 then ([], (lview l n).2) else (effE l.known (seenE l (lview l n).1), 0)
def laft (l : Ldg) (n : Str) (k : Int) : List Int × Int := if (lview l n).2 ≠ 0 then ([], (lview l n).2) else
  if k < 0 ∨ ((lview l n).1.length : Int) < k then ([], 2) else (effE l.known (seenE l ((lview l n).1.take k.toNat)), 0)
end Go.Ab
end
