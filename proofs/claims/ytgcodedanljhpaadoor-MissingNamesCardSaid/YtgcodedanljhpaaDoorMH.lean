/- Gaps compared. -/
import Derived.Test.YtgcodedanljhpaaDoorMA
import Derived.Test.YtgcodedanljhpaaDoorMF
import Derived.Test.YtgcodedanljhpaaDoorLXa
set_option linter.unusedSimpArgs false
set_option linter.unusedVariables false
section
set_option maxRecDepth 100000
namespace Go.Ab
open Go Go.Proofs
theorem purely_bind {α β : Type} {P : Program} : ∀ {s : Sem α} {f : α → Sem β}, purely P (s >>= f) = (purely P s).bind fun a => purely P (f a) := by
  intro s
  induction s with
  | pure a => intro f; rfl
  | program k ih => intro f; exact ih P
  | mark m k ih => intro f; exact ih
  | _ => intro f; rfl
theorem pu_int {d : Nat} {k : IntKind} {a b : Int} {t : TypeId} {q : IntKind} (h : purely cx.P (underlying t) = some (.int q)) : purely cx.P (Op.equalIn (d + 1) t (.int k a) (.int k b)) = some (a == b) := by
  unfold Op.equalIn
  rw [purely_bind, h]
  simp [purely, pure]
theorem pu_str {d : Nat} {a b : ByteArray} {t : TypeId} (h : purely cx.P (underlying t) = some .string) : purely cx.P (Op.equalIn (d + 1) t (.string a) (.string b)) = some (a == b) := by
  unfold Op.equalIn
  rw [purely_bind, h]
  rfl
theorem uGap : purely cx.P (underlying 49) = some (.struct (sfOf 49)) := by kernel_rfl
theorem uStr : purely cx.P (underlying 9) = some .string := by kernel_rfl
theorem uInt : purely cx.P (underlying 3) = some (.int .i64) := by kernel_rfl
theorem pu_gap {s : ByteArray} {c w : Int} : purely cx.P (Op.equalIn 10000 49 (.agg #[.string s, .int .i64 c, .int .i64 w]) (.agg #[.string s, .int .i64 c, .int .i64 w])) = some true := by
  rw [show (10000 : Nat) = 9999 + 1 from rfl]
  unfold Op.equalIn
  rw [purely_bind, uGap]
  simp only [Option.bind_some]
  rw [purely_bind]
  have h1 : purely cx.P (program : Sem Program) = some cx.P := rfl
  rw [h1]
  simp only [Option.bind_some]
  rw [show cx.P.stoodInHeld 49 = false by kernel_rfl]
  simp only [Bool.false_eq_true, if_false]
  have p0 : purely cx.P (part 9 #[Value.string s, Value.int IntKind.i64 c, Value.int IntKind.i64 w] 0) = some (.string s) := by kernel_rfl
  have p1 : purely cx.P (part 3 #[Value.string s, Value.int IntKind.i64 c, Value.int IntKind.i64 w] 1) = some (.int .i64 c) := by kernel_rfl
  have p2 : purely cx.P (part 3 #[Value.string s, Value.int IntKind.i64 c, Value.int IntKind.i64 w] 2) = some (.int .i64 w) := by kernel_rfl
  have q0 := pu_str (d := 9998) (a := s) (b := s) uStr
  have q1 := pu_int (d := 9998) (k := .i64) (a := c) (b := c) uInt
  have q2 := pu_int (d := 9998) (k := .i64) (a := w) (b := w) uInt
  have hss : (s == s) = true := by rw [beq_bytes]; simp
  rw [hss] at q0
  rw [beq_self_eq_true] at q1 q2
  obtain ⟨f0, f1, f2, hfs, n0, n1, n2, t0, t1, t2, o0, o1, o2⟩ : ∃ f0 f1 f2 : Field, sfOf 49 = [f0, f1, f2].toArray ∧ f0.name ≠ "_" ∧ f1.name ≠ "_" ∧ f2.name ≠ "_" ∧ f0.type = 9 ∧ f1.type = 3 ∧ f2.type = 3 ∧ f0.offset = 0 ∧ f1.offset = 1 ∧ f2.offset = 2 :=
    ⟨(sfOf 49)[0]!, (sfOf 49)[1]!, (sfOf 49)[2]!, by kernel_rfl, by have : ((sfOf 49)[0]!).name ≠ "_" := (of_decide_eq_true (by kernel_rfl)); exact this, (of_decide_eq_true (by kernel_rfl)), (of_decide_eq_true (by kernel_rfl)), by kernel_rfl, by kernel_rfl, by kernel_rfl, by kernel_rfl, by kernel_rfl, by kernel_rfl⟩
  rw [hfs]
  simp only [List.forIn_toArray, List.forIn_cons, List.forIn_nil, n0, n1, n2, ne_eq, not_false_eq_true, if_true, t0, t1, t2, o0, o1, o2, purely_bind, p0, p1, p2, Option.bind_some, show (9999 : Nat) = 9998 + 1 from rfl, q0, q1, q2, beq_self_eq_true, Bool.not_true, Bool.false_eq_true, if_false, bind_assoc, pure_bind]
  simp [purely_bind, p0, p1, p2, q0, q1, q2, purely, pure, show (9999 : Nat) = 9998 + 1 from rfl]
  try rfl
theorem ev_neq_gap {s : ByteArray} {c w : Int} {x y : Operand} : evBin cx .neq 49 x y (.agg [.lit (.string s), .lit (.int .i64 c), .lit (.int .i64 w)]) (.agg [.lit (.string s), .lit (.int .i64 c), .lit (.int .i64 w)]) = some (.lit (.bool false)) := by
  have hg : cx.P.eqGuardType cx.P.depth 49 = false := by kernel_rfl
  have hq := pu_gap (s := s) (c := c) (w := w)
  simp only [evBin, conc, lits, Option.map_some]
  have e : purely cx.P (do eqGuard .neq 49 x y (.agg #[.string s, .int .i64 c, .int .i64 w]) (.agg #[.string s, .int .i64 c, .int .i64 w]); binOp .neq 49 (.agg #[.string s, .int .i64 c, .int .i64 w]) (.agg #[.string s, .int .i64 c, .int .i64 w])) = some (.bool false) := by
    rw [purely_bind]
    have h1 : purely cx.P (eqGuard .neq 49 x y (.agg #[.string s, .int .i64 c, .int .i64 w]) (.agg #[.string s, .int .i64 c, .int .i64 w])) = some () := by
      unfold eqGuard
      simp only [Bool.not_true, Bool.false_eq_true, if_false]
      rw [purely_bind, show purely cx.P (program : Sem Program) = some cx.P from rfl]
      simp only [Option.bind_some]
      rw [purely_bind, show purely cx.P (program : Sem Program) = some cx.P from rfl]
      simp only [Option.bind_some, hg, Bool.not_false, if_true]
      rfl
    rw [h1]
    simp only [Option.bind_some]
    have e2 : binOp .neq 49 (.agg #[.string s, .int .i64 c, .int .i64 w]) (.agg #[.string s, .int .i64 c, .int .i64 w]) = (Op.equal 49 (.agg #[.string s, .int .i64 c, .int .i64 w]) (.agg #[.string s, .int .i64 c, .int .i64 w]) >>= fun b => pure (Value.bool (!b))) := rfl
    rw [e2, purely_bind]
    unfold Op.equal Op.maxDepth
    rw [hq]
    rfl
  rw [e]
  rfl
end Go.Ab
end

section
/- What is too great for a law to look at. -/
set_option maxRecDepth 1000000
set_option maxHeartbeats 8000000
namespace Go.Ab
open Go Go.Proofs Go.Sort
def big (s : Str) : Bool := decide ((100 : Int) < (s.size : Int))
def grt26 (l : List Br) : Bool := (l.any fun b => big b.name || big b.frm) || decide ((20 : Int) < (l.length : Int))
def grtE (own : List Ev) : Bool := (decide ((8 : Int) < (own.length : Int)) && decide ((own.length : Int) ≤ 40)) || decide ((50 : Int) < (own.length : Int)) || own.any fun e => big e.chg
def grt29 (l : Ldg) : Bool := (l.known.any fun k => big k.chg) || l.evs.any grtE || decide ((40 : Int) < (l.known.length : Int)) || grt26 l.brs || decide ((20 : Int) < (l.evs.length : Int))
def grtF (f : Fx) : Bool := decide ((20 : Int) < (f.brs.length : Int)) || f.brs.any big
def grt34 (l : Ldg) (x : List Fx) : Bool := x.any grtF || grt29 l || (decide ((10 : Int) < (x.length : Int)) && decide ((x.length : Int) ≤ 30)) || decide ((40 : Int) < (x.length : Int))
theorem any_snoc {α : Type} {l : List α} {p : α → Bool} {i : Nat} {a : α} (h : l[i]? = some a) (h0 : (l.take i).any p = false) (ha : p a = false) : (l.take (i + 1)).any p = false := by
  rw [take_succ h, List.any_append, h0]; simp [ha]
theorem any_hit {α : Type} {l : List α} {p : α → Bool} {i : Nat} {a : α} (h : l[i]? = some a) (ha : p a = true) : l.any p = true := List.any_eq_true.2 ⟨a, List.mem_of_getElem? h, ha⟩
end Go.Ab
end

section
/- What is too great for a law to look at: ledgers, fixes. -/
set_option maxRecDepth 1000000
set_option maxHeartbeats 8000000
namespace Go.Ab
open Go Go.Proofs Go.Sort
end Go.Ab
end
