/- The error of fixes. -/
import Derived.Test.YtgcodedanljhpaaGreatDoorMA
set_option linter.unusedSimpArgs false
set_option linter.unusedVariables false
section
set_option maxRecDepth 100000
set_option maxHeartbeats 8000000
namespace Go.Ab
open Go Go.Proofs
def MapB (kvs : List (Value × PV × Nat)) (p : Int → Bool) : Prop := ∀ n, findP (.int .i64) (.int .i64 n) kvs = some (if p n then some (.lit (.bool true)) else none)
theorem MapB.push {kvs : List (Value × PV × Nat)} {p : Int → Bool} (h : MapB kvs p) {k : Int} {c : Nat} (hk : p k = false) : MapB (kvs ++ [(.int .i64 k, .lit (.bool true), c)]) fun n => p n || decide (n = k) := fun n => by
  rw [findP_snoc, h n]
  by_cases e : n = k
  · subst e; simp [hk, Instr.sameNow]
  · have hb : (n == k) = false := by simpa using e
    cases hp : p n
    · simp [Instr.sameNow, e, hb, hp]
    · simp [hp]
theorem keyI {n : Int} : keyB (.int .i64) (.int .i64 n) = true := rfl
end Go.Ab
end

section
/- Gaps of a branch. -/
set_option maxRecDepth 100000
set_option maxHeartbeats 8000000
namespace Go.Ab
open Go Go.Proofs
def Sub (σ τ : Store) : Prop := ∀ j B, σ j = some B → τ j = some B
theorem Sub.rfl' {σ : Store} : Sub σ σ := fun _ _ h => h
theorem Sub.put {σ τ : Store} {k : Nat} {B : Blk} (h : Sub σ τ) (hk : σ k = none) : Sub σ (τ.put k B) := fun j B' hj => by
  simp only [Store.put]
  rw [if_neg (fun e => by subst e; rw [hk] at hj; cases hj)]
  exact h j B' hj
def nonL (σ : Store) : List (Nat × Blk) → Prop
  | [] => True
  | (i, _) :: r => σ i = none ∧ nonL σ r
theorem Sub.ov {σ : Store} : ∀ {ls : List (Nat × Blk)}, nonL σ ls → Sub σ (ovS ls σ)
  | [], _ => .rfl'
  | (i, B) :: r, h => fun j B' hj => by
    simp only [ovS]
    rw [if_neg (fun e => by subst e; rw [h.1] at hj; cases hj)]
    exact Sub.ov h.2 j B' hj
theorem weak_ofU {st : St} {le : List (Nat × PV)} {ls : List (Nat × Blk)} {σ : Store} {nx : Nat} (h1 : allE st.env le) (h2 : allS st.σ ls) (h3 : Sub σ st.σ) (h4 : st.nx ≤ nx) : Weak st ⟨mkE le, ovS ls σ, nx⟩ := by
  refine ⟨allE_spec le h1, fun j B' h => ?_, h4⟩
  rcases ovS_at h with h | h
  · exact allS_spec ls h2 j B' h
  · exact h3 j B' h
theorem ov_del {σ : Store} {i : Nat} {B : Blk} : ovS [(i, B)] (σ.del i) = σ.put i B := by
  funext j
  simp only [ovS, Store.del, Store.put]
  split <;> rfl
end Go.Ab
end
