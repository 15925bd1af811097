import Derived.Test.YtbhmgkbmlbbonaaDoorHF
set_option linter.unusedSimpArgs false
set_option linter.unusedVariables false
set_option maxRecDepth 100000
set_option maxHeartbeats 8000000
namespace Go.Ab
open Go Go.Proofs

/-! ### words of 32 bits -/
def ub (n : Int) : BitVec 32 := BitVec.ofInt 32 n

theorem uWrap (n : Int) : IntKind.u32.wrap n = ((ub n).toNat : Int) := by
  rw [IntKind.wrap_u32, ub, BitVec.toNat_ofInt]
  have : (0:Int) ≤ n % 4294967296 := Int.emod_nonneg _ (by decide)
  show n % 4294967296 = ((n % ((2 ^ 32 : Nat) : Int)).toNat : Int)
  rw [show (((2 ^ 32 : Nat) : Int)) = 4294967296 from rfl]
  omega
theorem ubT (x : BitVec 32) : ub (x.toNat : Int) = x := by
  apply BitVec.eq_of_toNat_eq
  rw [ub, BitVec.toNat_ofInt]
  have := x.isLt
  omega
theorem ub_sub (a b : Int) : ub (a - b) = ub a - ub b := by
  unfold ub; rw [Int.sub_eq_add_neg, BitVec.ofInt_add, BitVec.ofInt_neg, BitVec.sub_eq_add_neg]
theorem ub_mul (a b : Int) : ub (a * b) = ub a * ub b := by
  unfold ub; rw [BitVec.ofInt_mul]
theorem ubK : ub 0 = 0#32 ∧ ub 1 = 1#32 := ⟨rfl, rfl⟩
theorem uEq0 (x : BitVec 32) : decide ((x.toNat : Int) = 0) = decide (x = 0#32) := by
  rw [decide_eq_decide]
  constructor
  · intro h; apply BitVec.eq_of_toNat_eq; simp; omega
  · rintro rfl; rfl
theorem uEq1 (x : BitVec 32) : decide ((x.toNat : Int) = 1) = decide (x = 1#32) := by
  rw [decide_eq_decide]
  constructor
  · intro h; apply BitVec.eq_of_toNat_eq; simp; omega
  · rintro rfl; rfl
theorem wrapT (x : BitVec 32) : IntKind.u32.wrap (x.toNat : Int) = (x.toNat : Int) := by rw [uWrap, ubT]

theorem uBits {C : Ctx} {t : TypeId} {x y : Operand} {a b : Int} :
    evBin C .and t x y (.lit (.int .u32 a)) (.lit (.int .u32 b)) = some (.lit (.int .u32 ((ub a &&& ub b).toNat : Int))) ∧
    evBin C .or t x y (.lit (.int .u32 a)) (.lit (.int .u32 b)) = some (.lit (.int .u32 ((ub a ||| ub b).toNat : Int))) ∧
    evBin C .andNot t x y (.lit (.int .u32 a)) (.lit (.int .u32 b)) = some (.lit (.int .u32 ((ub a &&& ~~~ ub b).toNat : Int))) := by
  refine ⟨?_, ?_, ?_⟩
  · show some (PV.lit (.int .u32 (IntKind.u32.wrap ((BitVec.ofInt 32 a &&& BitVec.ofInt 32 b).toNat : Int)))) = _
    rw [wrapT]; rfl
  · show some (PV.lit (.int .u32 (IntKind.u32.wrap ((BitVec.ofInt 32 a ||| BitVec.ofInt 32 b).toNat : Int)))) = _
    rw [wrapT]; rfl
  · show some (PV.lit (.int .u32 (IntKind.u32.wrap ((BitVec.ofInt 32 a &&& ~~~ BitVec.ofInt 32 b).toNat : Int)))) = _
    rw [wrapT]; rfl
theorem uShl {C : Ctx} {t : TypeId} {x y : Operand} {k : IntKind} {a b : Int} (hb : 0 ≤ b) :
    evBin C .shl t x y (.lit (.int .u32 a)) (.lit (.int k b)) = some (.lit (.int .u32 ((ub a <<< b.toNat).toNat : Int))) := by
  have e : evBin C .shl t x y (.lit (.int .u32 a)) (.lit (.int k b)) = some (.lit (.int .u32 (IntKind.u32.wrap (a * 2 ^ (min b.toNat 32))))) := by
    simp [evBin, conc, eqGuard, binOp, Op.shift, bind, Sem.bind, pure, purely, ofV_int, show ¬ b < 0 from by omega]
    rfl
  rw [e, uWrap]
  have key : (ub (a * 2 ^ min b.toNat 32)).toNat = (ub a <<< b.toNat).toNat := by
    unfold ub
    rw [BitVec.toNat_shiftLeft, BitVec.toNat_ofInt, BitVec.toNat_ofInt, Nat.shiftLeft_eq]
    by_cases hn : b.toNat ≤ 32
    · rw [Nat.min_eq_left hn]
      have hp : (0:Int) ≤ a % ((2 ^ 32 : Nat) : Int) := Int.emod_nonneg _ (by decide)
      have hq : (0:Int) ≤ (a * 2 ^ b.toNat) % ((2 ^ 32 : Nat) : Int) := Int.emod_nonneg _ (by decide)
      apply Int.ofNat_inj.1
      rw [Int.natCast_emod, Int.natCast_mul, Int.toNat_of_nonneg hq, Int.toNat_of_nonneg hp, Int.natCast_pow]
      rw [Int.mul_emod, Int.mul_emod (a % _)]
      simp
      rw [Int.mul_emod (a % 4294967296) (2 ^ b.toNat), Int.emod_emod_of_dvd _ (Int.dvd_refl _)]
    · rw [Nat.min_eq_right (by omega)]
      obtain ⟨c, hc⟩ : ∃ c, b.toNat = 32 + c := ⟨b.toNat - 32, by omega⟩
      rw [hc, Nat.pow_add, ← Nat.mul_assoc, Nat.mul_right_comm, Nat.mul_mod_left]
      have : (a * 2 ^ 32) % ((2 ^ 32 : Nat) : Int) = 0 := Int.mul_emod_left _ _
      rw [this]; rfl
  rw [key]
theorem uShr {C : Ctx} {t : TypeId} {x y : Operand} {k : IntKind} {a : BitVec 32} {b : Int} (hb : 0 ≤ b) :
    evBin C .shr t x y (.lit (.int .u32 (a.toNat : Int))) (.lit (.int k b)) = some (.lit (.int .u32 ((a >>> b.toNat).toNat : Int))) := by
  have e : evBin C .shr t x y (.lit (.int .u32 (a.toNat : Int))) (.lit (.int k b)) = some (.lit (.int .u32 ((a.toNat : Int).fdiv (2 ^ (min b.toNat 32))))) := by
    simp [evBin, conc, eqGuard, binOp, Op.shift, bind, Sem.bind, pure, purely, ofV_int, show ¬ b < 0 from by omega]
    rfl
  rw [e]
  have key : (a.toNat : Int).fdiv (2 ^ min b.toNat 32) = ((a >>> b.toNat).toNat : Int) := by
    rw [BitVec.toNat_ushiftRight, Nat.shiftRight_eq_div_pow, Int.fdiv_eq_ediv_of_nonneg _ (Int.le_of_lt (Int.pow_pos (by decide)))]
    by_cases hn : b.toNat ≤ 32
    · rw [Nat.min_eq_left hn, Int.natCast_ediv, Int.natCast_pow]; rfl
    · rw [Nat.min_eq_right (by omega)]
      have h1 := a.isLt
      have h2 : 2 ^ 32 ≤ 2 ^ b.toNat := Nat.pow_le_pow_right (by decide) (by omega)
      rw [Nat.div_eq_of_lt (by omega)]
      show (a.toNat : Int) / 4294967296 = 0
      omega
  rw [key]
/-- The lowest bit. -/
theorem low_ex (x : BitVec 32) (hx : x ≠ 0#32) : ∃ k, k < 32 ∧ x.getLsbD k = true ∧ ∀ j, j < k → x.getLsbD j = false := by
  have hex : ∃ k, x.getLsbD k = true := by
    apply Classical.byContradiction; intro h
    apply hx
    apply BitVec.eq_of_getLsbD_eq
    intro i hi
    have : ¬ x.getLsbD i = true := fun hb => h ⟨i, hb⟩
    simp at this; simp [this]
  have key : ∀ n, (∃ k, k < n ∧ x.getLsbD k = true) → ∃ k, x.getLsbD k = true ∧ ∀ j, j < k → x.getLsbD j = false := by
    intro n
    induction n with
    | zero => rintro ⟨k, h, _⟩; omega
    | succ n ih =>
      rintro ⟨k, h1, h2⟩
      by_cases h3 : ∃ k, k < n ∧ x.getLsbD k = true
      · exact ih h3
      · refine ⟨k, h2, fun j hj => ?_⟩
        rw [Bool.eq_false_iff]; intro hb; exact h3 ⟨j, by omega, hb⟩
  obtain ⟨k, hk⟩ := hex
  obtain ⟨k, h1, h2⟩ := key (k + 1) ⟨k, by omega, hk⟩
  refine ⟨k, ?_, h1, h2⟩
  apply Classical.byContradiction; intro h
  rw [BitVec.getLsbD_of_ge _ _ (by omega)] at h1; cases h1
theorem low_and {x : BitVec 32} {k : Nat} (hk : k < 32) (h1 : x.getLsbD k = true) (h2 : ∀ j, j < k → x.getLsbD j = false) : x &&& -x = BitVec.twoPow 32 k := by
  apply BitVec.eq_of_getLsbD_eq
  intro i hi
  rw [BitVec.getLsbD_and, BitVec.getLsbD_neg, BitVec.getLsbD_twoPow]
  by_cases e : i = k
  · subst e
    have : ¬ ∃ j, j < i ∧ x.getLsbD j = true := fun ⟨j, g1, g2⟩ => by rw [h2 j g1] at g2; cases g2
    simp [h1, this, hk]
  · have e' : ¬ k = i := fun h => e h.symm
    by_cases hlt : i < k
    · simp [h2 i hlt, e']
    · have : ∃ j, j < i ∧ x.getLsbD j = true := ⟨k, by omega, h1⟩
      simp [this, e', hi]
theorem low_clear {x : BitVec 32} {k : Nat} (hk : k < 32) (h1 : x.getLsbD k = true) (h2 : ∀ j, j < k → x.getLsbD j = false) (i : Nat) : (x &&& (x - 1#32)).getLsbD i = if i = k then false else x.getLsbD i := by
  by_cases hi : i < 32
  · rw [← BitVec.not_neg, BitVec.getLsbD_and, BitVec.getLsbD_not, BitVec.getLsbD_neg]
    by_cases e : i = k
    · subst e
      have : ¬ ∃ j, j < i ∧ x.getLsbD j = true := fun ⟨j, g1, g2⟩ => by rw [h2 j g1] at g2; cases g2
      simp [h1, this]
    · by_cases hlt : i < k
      · simp [h2 i hlt, e]
      · have : ∃ j, j < i ∧ x.getLsbD j = true := ⟨k, by omega, h1⟩
        simp [this, e, hi]
  · rw [BitVec.getLsbD_of_ge _ _ (by omega), BitVec.getLsbD_of_ge _ _ (by omega)]; simp
theorem tab_low : ∀ k : Fin 32, tab[((BitVec.twoPow 32 k.val * 125613361#32) >>> 27).toNat]? = some (k.val : Int) := by decide

theorem uRules : (∀ n, IntKind.u32.wrap n = ((ub n).toNat : Int)) ∧ (∀ x : BitVec 32, ub (x.toNat : Int) = x) ∧ (∀ a b, ub (a - b) = ub a - ub b) ∧ (∀ a b, ub (a * b) = ub a * ub b) ∧ (ub 0 = 0#32) ∧ (ub 1 = 1#32) ∧
    (∀ x : BitVec 32, decide ((x.toNat : Int) = 0) = decide (x = 0#32)) ∧ (∀ x : BitVec 32, decide ((x.toNat : Int) = 1) = decide (x = 1#32)) ∧ (∀ n : Nat, ((n : Int)).toNat = n) ∧ (∀ n : Nat, (0 ≤ (n : Int)) = True) ∧ ((0 : Int) ≤ 27) = True ∧ ((27 : Int).toNat = 27) ∧ ub 125613361 = 125613361#32 ∧
    (∀ x : BitVec 32, 0#32 - x = -x) :=
  ⟨uWrap, ubT, ub_sub, ub_mul, rfl, rfl, uEq0, uEq1, fun _ => rfl, fun n => by simp, by simp, rfl, rfl, fun x => by simp⟩

def w32 (x : BitVec 32) : PV := .lit (.int .u32 (x.toNat : Int))

theorem tisG : (ti cx.P 92 = some ⟨.array 32 5, 32, 32⟩) ∧ (ti cx.P 5 = some ⟨.int .u8, 1, 1⟩) ∧ (cx.G 0 = some (tab.map fun n => .lit (.int .u8 n))) := ⟨by kernel_rfl, by kernel_rfl, rfl⟩

theorem s48 (x : BitVec 32) (k : Nat) (hk : k < 32) (h1 : x.getLsbD k = true) (h2 : ∀ j, j < k → x.getLsbD j = false) : CallSpec cx 63 [w32 x] (i64 k) := by
  have hx : decide (x = 0#32) = false := by
    rw [decide_eq_false_iff_not]; rintro rfl; simp at h1
  have ht := tab_low ⟨k, hk⟩
  have hi : ((BitVec.twoPow 32 k * 125613361#32) >>> 27).toNat < 32 := by
    rw [BitVec.toNat_ushiftRight, Nat.shiftRight_eq_div_pow]
    have := (BitVec.twoPow 32 k * 125613361#32).isLt
    omega
  have hd : (List.drop ((BitVec.twoPow 32 k * 125613361#32) >>> 27).toNat (List.map (fun n => PV.lit (Value.int IntKind.u8 n)) tab))[0]? = some (.lit (.int .u8 k)) := by
    rw [List.getElem?_drop, List.getElem?_map, Nat.add_zero, ht]; rfl
  have hw : IntKind.i64.wrap (k : Int) = k := by rw [IntWalk.i64_in _ (by omega)]
  refine callSpec_of_vc Tryd.func63 rfl (by decide) (by kernel_rfl) (Nat.le_of_ble_eq_true rfl) ?_
  simp -dsimp (maxSteps := 2000000) (disch := first | omega | decide +kernel) only [↓vcl, ↓vcy, ↓vco, vck, gR, evl, evb, evBuiltin, evLen, evIdxA, evLoad, loadP, aggD, tis, i64, u32, bl, encL, encB, encLL, reduceIte, Nat.reduceEqDiff, forget, forget1, wantd, tzs, eve, evStore, evBox, evAlloc, evBuildSlice, evMakeSlice, evAppend, fillRows, zcells, elemsOf, putAll, PV.one, Nat.reduceAdd, Nat.reduceMul, Int.cast_ofNat_Int, Int.reduceEq, Int.reduceLT, Int.reduceLE, Nat.reduceLeDiff, List.reduceReplicate, reduceCtorEq, retQ, resL, finL, newL, flat, tupOf, List.toList_toArray, Tryd.f63, w32, uRules, uBits, uShr, uUn, hx, low_and hk h1 h2, tisG, hi, hd, evConv]
  exact leT_one (int_eq hw) (by simp)
end Go.Ab
