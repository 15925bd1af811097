/- Abstract values: words of 64 bits. -/
import Derived.Test.YtbhmgkbmlbbonaaDoorAbLib
set_option linter.unusedSimpArgs false
set_option linter.unusedVariables false
set_option maxRecDepth 100000
namespace Go.Ab.W64
open Go Go.Ab

/-! ### words of 64 bits -/
def ub (n : Int) : BitVec 64 := BitVec.ofInt 64 n

theorem uWrap (n : Int) : IntKind.u64.wrap n = ((ub n).toNat : Int) := by
  rw [show IntKind.u64.wrap n = n % 18446744073709551616 from by simp [IntKind.wrap, IntKind.bits, IntKind.signed], ub, BitVec.toNat_ofInt]
  have : (0:Int) ≤ n % 18446744073709551616 := Int.emod_nonneg _ (by decide)
  show n % 18446744073709551616 = ((n % ((2 ^ 64 : Nat) : Int)).toNat : Int)
  rw [show (((2 ^ 64 : Nat) : Int)) = 18446744073709551616 from rfl]
  omega
theorem ubT (x : BitVec 64) : ub (x.toNat : Int) = x := by
  apply BitVec.eq_of_toNat_eq
  rw [ub, BitVec.toNat_ofInt]
  have := x.isLt
  omega
theorem ub_sub (a b : Int) : ub (a - b) = ub a - ub b := by
  unfold ub; rw [Int.sub_eq_add_neg, BitVec.ofInt_add, BitVec.ofInt_neg, BitVec.sub_eq_add_neg]
theorem ub_mul (a b : Int) : ub (a * b) = ub a * ub b := by
  unfold ub; rw [BitVec.ofInt_mul]
theorem ubK : ub 0 = 0#64 ∧ ub 1 = 1#64 := ⟨rfl, rfl⟩
theorem uEq0 (x : BitVec 64) : decide ((x.toNat : Int) = 0) = decide (x = 0#64) := by
  rw [decide_eq_decide]
  constructor
  · intro h; apply BitVec.eq_of_toNat_eq; simp; omega
  · rintro rfl; rfl
theorem uEq1 (x : BitVec 64) : decide ((x.toNat : Int) = 1) = decide (x = 1#64) := by
  rw [decide_eq_decide]
  constructor
  · intro h; apply BitVec.eq_of_toNat_eq; simp; omega
  · rintro rfl; rfl
theorem wrapT (x : BitVec 64) : IntKind.u64.wrap (x.toNat : Int) = (x.toNat : Int) := by rw [uWrap, ubT]

theorem uBits {C : Ctx} {t : TypeId} {x y : Operand} {a b : Int} :
    evBin C .and t x y (.lit (.int .u64 a)) (.lit (.int .u64 b)) = some (.lit (.int .u64 ((ub a &&& ub b).toNat : Int))) ∧
    evBin C .or t x y (.lit (.int .u64 a)) (.lit (.int .u64 b)) = some (.lit (.int .u64 ((ub a ||| ub b).toNat : Int))) ∧
    evBin C .andNot t x y (.lit (.int .u64 a)) (.lit (.int .u64 b)) = some (.lit (.int .u64 ((ub a &&& ~~~ ub b).toNat : Int))) := by
  refine ⟨?_, ?_, ?_⟩
  · show some (PV.lit (.int .u64 (IntKind.u64.wrap ((BitVec.ofInt 64 a &&& BitVec.ofInt 64 b).toNat : Int)))) = _
    rw [wrapT]; rfl
  · show some (PV.lit (.int .u64 (IntKind.u64.wrap ((BitVec.ofInt 64 a ||| BitVec.ofInt 64 b).toNat : Int)))) = _
    rw [wrapT]; rfl
  · show some (PV.lit (.int .u64 (IntKind.u64.wrap ((BitVec.ofInt 64 a &&& ~~~ BitVec.ofInt 64 b).toNat : Int)))) = _
    rw [wrapT]; rfl
theorem uShl {C : Ctx} {t : TypeId} {x y : Operand} {k : IntKind} {a b : Int} (hb : 0 ≤ b) :
    evBin C .shl t x y (.lit (.int .u64 a)) (.lit (.int k b)) = some (.lit (.int .u64 ((ub a <<< b.toNat).toNat : Int))) := by
  have e : evBin C .shl t x y (.lit (.int .u64 a)) (.lit (.int k b)) = some (.lit (.int .u64 (IntKind.u64.wrap (a * 2 ^ (min b.toNat 64))))) := by
    simp [evBin, conc, eqGuard, binOp, Op.shift, bind, Sem.bind, pure, purely, ofV_int, show ¬ b < 0 from by omega]
    rfl
  rw [e, uWrap]
  have key : (ub (a * 2 ^ min b.toNat 64)).toNat = (ub a <<< b.toNat).toNat := by
    unfold ub
    rw [BitVec.toNat_shiftLeft, BitVec.toNat_ofInt, BitVec.toNat_ofInt, Nat.shiftLeft_eq]
    by_cases hn : b.toNat ≤ 64
    · rw [Nat.min_eq_left hn]
      have hp : (0:Int) ≤ a % ((2 ^ 64 : Nat) : Int) := Int.emod_nonneg _ (by decide)
      have hq : (0:Int) ≤ (a * 2 ^ b.toNat) % ((2 ^ 64 : Nat) : Int) := Int.emod_nonneg _ (by decide)
      apply Int.ofNat_inj.1
      rw [Int.natCast_emod, Int.natCast_mul, Int.toNat_of_nonneg hq, Int.toNat_of_nonneg hp, Int.natCast_pow]
      rw [Int.mul_emod, Int.mul_emod (a % _)]
      simp
      rw [Int.mul_emod (a % 18446744073709551616) (2 ^ b.toNat), Int.emod_emod_of_dvd _ (Int.dvd_refl _)]
    · rw [Nat.min_eq_right (by omega)]
      obtain ⟨c, hc⟩ : ∃ c, b.toNat = 64 + c := ⟨b.toNat - 64, by omega⟩
      rw [hc, Nat.pow_add, ← Nat.mul_assoc, Nat.mul_right_comm, Nat.mul_mod_left]
      have : (a * 2 ^ 64) % ((2 ^ 64 : Nat) : Int) = 0 := Int.mul_emod_left _ _
      rw [this]; rfl
  rw [key]
theorem uShr {C : Ctx} {t : TypeId} {x y : Operand} {k : IntKind} {a : BitVec 64} {b : Int} (hb : 0 ≤ b) :
    evBin C .shr t x y (.lit (.int .u64 (a.toNat : Int))) (.lit (.int k b)) = some (.lit (.int .u64 ((a >>> b.toNat).toNat : Int))) := by
  have e : evBin C .shr t x y (.lit (.int .u64 (a.toNat : Int))) (.lit (.int k b)) = some (.lit (.int .u64 ((a.toNat : Int).fdiv (2 ^ (min b.toNat 64))))) := by
    simp [evBin, conc, eqGuard, binOp, Op.shift, bind, Sem.bind, pure, purely, ofV_int, show ¬ b < 0 from by omega]
    rfl
  rw [e]
  have key : (a.toNat : Int).fdiv (2 ^ min b.toNat 64) = ((a >>> b.toNat).toNat : Int) := by
    rw [BitVec.toNat_ushiftRight, Nat.shiftRight_eq_div_pow, Int.fdiv_eq_ediv_of_nonneg _ (Int.le_of_lt (Int.pow_pos (by decide)))]
    by_cases hn : b.toNat ≤ 64
    · rw [Nat.min_eq_left hn, Int.natCast_ediv, Int.natCast_pow]; rfl
    · rw [Nat.min_eq_right (by omega)]
      have h1 := a.isLt
      have h2 : 2 ^ 64 ≤ 2 ^ b.toNat := Nat.pow_le_pow_right (by decide) (by omega)
      rw [Nat.div_eq_of_lt (by omega)]
      show (a.toNat : Int) / 18446744073709551616 = 0
      omega
  rw [key]

theorem uRules : (∀ n, IntKind.u64.wrap n = ((ub n).toNat : Int)) ∧ (∀ x : BitVec 64, ub (x.toNat : Int) = x) ∧ (∀ a b, ub (a - b) = ub a - ub b) ∧ (∀ a b, ub (a * b) = ub a * ub b) ∧ (ub 0 = 0#64) ∧ (ub 1 = 1#64) ∧
    (∀ x : BitVec 64, decide ((x.toNat : Int) = 0) = decide (x = 0#64)) ∧ (∀ x : BitVec 64, decide ((x.toNat : Int) = 1) = decide (x = 1#64)) ∧ (∀ n : Nat, ((n : Int)).toNat = n) ∧ (∀ n : Nat, (0 ≤ (n : Int)) = True) ∧
    (∀ x : BitVec 64, 0#64 - x = -x) :=
  ⟨uWrap, ubT, ub_sub, ub_mul, rfl, rfl, uEq0, uEq1, fun _ => rfl, fun n => by simp, fun x => by simp⟩
def wd (x : BitVec 64) : PV := .lit (.int .u64 (x.toNat : Int))
theorem bit_at {x : BitVec 64} {a : Nat} : (x >>> a &&& 1#64 = 1#64) ↔ x.getLsbD a = true := by
  rw [BitVec.and_one_eq_setWidth_ofBool_getLsbD, BitVec.getLsbD_ushiftRight, Nat.add_zero]
  cases x.getLsbD a <;> decide
/-- The lowest bit. -/
theorem low_ex (x : BitVec 64) (hx : x ≠ 0#64) : ∃ k, k < 64 ∧ x.getLsbD k = true ∧ ∀ j, j < k → x.getLsbD j = false := by
  have hex : ∃ k, x.getLsbD k = true := by
    apply Classical.byContradiction; intro h
    apply hx
    apply BitVec.eq_of_getLsbD_eq
    intro i hi
    have : ¬ x.getLsbD i = true := fun hb => h ⟨i, hb⟩
    simp at this; simp [this]
  have key : ∀ n, (∃ k, k < n ∧ x.getLsbD k = true) → ∃ k, x.getLsbD k = true ∧ ∀ j, j < k → x.getLsbD j = false := by
    intro n
    induction n with
    | zero => rintro ⟨k, h, _⟩; omega
    | succ n ih =>
      rintro ⟨k, h1, h2⟩
      by_cases h3 : ∃ k, k < n ∧ x.getLsbD k = true
      · exact ih h3
      · refine ⟨k, h2, fun j hj => ?_⟩
        rw [Bool.eq_false_iff]; intro hb; exact h3 ⟨j, by omega, hb⟩
  obtain ⟨k, hk⟩ := hex
  obtain ⟨k, h1, h2⟩ := key (k + 1) ⟨k, by omega, hk⟩
  refine ⟨k, ?_, h1, h2⟩
  apply Classical.byContradiction; intro h
  rw [BitVec.getLsbD_of_ge _ _ (by omega)] at h1; cases h1
theorem low_and {x : BitVec 64} {k : Nat} (hk : k < 64) (h1 : x.getLsbD k = true) (h2 : ∀ j, j < k → x.getLsbD j = false) : x &&& -x = BitVec.twoPow 64 k := by
  apply BitVec.eq_of_getLsbD_eq
  intro i hi
  rw [BitVec.getLsbD_and, BitVec.getLsbD_neg, BitVec.getLsbD_twoPow]
  by_cases e : i = k
  · subst e
    have : ¬ ∃ j, j < i ∧ x.getLsbD j = true := fun ⟨j, g1, g2⟩ => by rw [h2 j g1] at g2; cases g2
    simp [h1, this, hk]
  · have e' : ¬ k = i := fun h => e h.symm
    by_cases hlt : i < k
    · simp [h2 i hlt, e']
    · have : ∃ j, j < i ∧ x.getLsbD j = true := ⟨k, by omega, h1⟩
      simp [this, e', hi]
theorem low_clear {x : BitVec 64} {k : Nat} (hk : k < 64) (h1 : x.getLsbD k = true) (h2 : ∀ j, j < k → x.getLsbD j = false) (i : Nat) : (x &&& (x - 1#64)).getLsbD i = if i = k then false else x.getLsbD i := by
  by_cases hi : i < 64
  · rw [← BitVec.not_neg, BitVec.getLsbD_and, BitVec.getLsbD_not, BitVec.getLsbD_neg]
    by_cases e : i = k
    · subst e
      have : ¬ ∃ j, j < i ∧ x.getLsbD j = true := fun ⟨j, g1, g2⟩ => by rw [h2 j g1] at g2; cases g2
      simp [h1, this]
    · by_cases hlt : i < k
      · simp [h2 i hlt, e]
      · have : ∃ j, j < i ∧ x.getLsbD j = true := ⟨k, by omega, h1⟩
        simp [this, e, hi]
  · rw [BitVec.getLsbD_of_ge _ _ (by omega), BitVec.getLsbD_of_ge _ _ (by omega)]; simp
def bitsB (x : BitVec 64) : List Bool := (List.range 64).map x.getLsbD
def bitsL (x : BitVec 64) : List Int := lst 0 (bitsB x)

theorem bitsB_get {x : BitVec 64} {i : Nat} : (bitsB x)[i]? = if i < 64 then some (x.getLsbD i) else none := by
  unfold bitsB
  rw [List.getElem?_map]
  split
  · rename_i h; rw [List.getElem?_range h]; rfl
  · rename_i h; rw [List.getElem?_eq_none (by simp; omega)]; rfl

theorem bits_step {x : BitVec 64} {k : Nat} (hk : k < 64) (h1 : x.getLsbD k = true) (h2 : ∀ j, j < k → x.getLsbD j = false) : bitsL x = (k : Int) :: bitsL (x &&& (x - 1#64)) := by
  unfold bitsL
  rw [lst_first (bitsB x) 0 k (by rw [bitsB_get, if_pos hk, h1]) (fun j hj => by rw [bitsB_get, if_pos (by omega), h2 j hj]), Nat.zero_add]
  congr 2
  apply List.ext_getElem?
  intro i
  rw [List.getElem?_set, bitsB_get, bitsB_get, low_clear hk h1 h2]
  have hl : (bitsB x).length = 64 := by simp [bitsB]
  by_cases e : k = i
  · subst e; simp [hl, hk]
  · have : ¬ i = k := fun h => e h.symm
    simp [e, this]
theorem bits_zero : bitsL 0#64 = [] := by decide
theorem bits_len (x : BitVec 64) : (bitsL x).length ≤ 64 := by
  have := lst_len (bitsB x) 0
  simpa [bitsL, bitsB] using this

theorem mem_bits {y : BitVec 64} {x : Int} : x ∈ bitsL y ↔ ∃ j : Nat, y.getLsbD j = true ∧ x = (j : Int) := by
  unfold bitsL
  rw [mem_lst]
  constructor
  · rintro ⟨j, h1, h2⟩
    rw [bitsB_get] at h1
    split at h1
    · exact ⟨j, by simpa using h1, by simpa using h2⟩
    · cases h1
  · rintro ⟨j, h1, h2⟩
    have hj : j < 64 := by
      apply Classical.byContradiction; intro hc
      rw [BitVec.getLsbD_of_ge _ _ (by omega)] at h1; cases h1
    exact ⟨j, by rw [bitsB_get, if_pos hj, h1], by simpa using h2⟩

end Go.Ab.W64
