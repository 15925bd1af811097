/- The references' names, places and errors of tables. -/
import Derived.Test.YtgcodedanljhpaaDoorLPa
set_option linter.unusedSimpArgs false
set_option linter.unusedVariables false
set_option maxRecDepth 100000
set_option maxHeartbeats 8000000
namespace Go.Ab
open Go Go.Proofs
theorem evIdx_si {s : Str} {i : Nat} (h : i < s.size) : evIdx cx 9 (.lit (.string s)) (.lit (.int .i64 (i : Int))) = some (.lit (.int .u8 ((s[i]'h).toNat : Int))) := by
  simp only [evIdx, tis, natOf_cast, dif_pos h]
theorem byte_bad {c : UInt8} (hn : nameC c = false) : c.toNat ≠ 45 ∧ (c.toNat < 48 ∨ (57 < c.toNat ∧ c.toNat < 97) ∨ 122 < c.toNat) := by
  simp only [nameC, lowB, Bool.or_eq_false_iff, Bool.and_eq_false_iff, decide_eq_false_iff_not] at hn
  omega
end Go.Ab
