import Derived.Test.YtbhmgkbmlbbonaaDoorHF
set_option linter.unusedSimpArgs false
set_option linter.unusedVariables false
section
set_option maxRecDepth 100000
set_option maxHeartbeats 8000000
namespace Go.Ab
open Go Go.Proofs

/-! ### words of 32 bits -/
def ub (n : Int) : BitVec 32 := BitVec.ofInt 32 n

theorem uWrap (n : Int) : IntKind.u32.wrap n = ((ub n).toNat : Int) := by
  rw [IntKind.wrap_u32, ub, BitVec.toNat_ofInt]
  have : (0:Int) ≤ n % 4294967296 := Int.emod_nonneg _ (by decide)
  show n % 4294967296 = ((n % ((2 ^ 32 : Nat) : Int)).toNat : Int)
  rw [show (((2 ^ 32 : Nat) : Int)) = 4294967296 from rfl]
  omega
theorem ubT (x : BitVec 32) : ub (x.toNat : Int) = x := by
  apply BitVec.eq_of_toNat_eq
  rw [ub, BitVec.toNat_ofInt]
  have := x.isLt
  omega
theorem ub_sub (a b : Int) : ub (a - b) = ub a - ub b := by
  unfold ub; rw [Int.sub_eq_add_neg, BitVec.ofInt_add, BitVec.ofInt_neg, BitVec.sub_eq_add_neg]
theorem ub_mul (a b : Int) : ub (a * b) = ub a * ub b := by
  unfold ub; rw [BitVec.ofInt_mul]
theorem ubK : ub 0 = 0#32 ∧ ub 1 = 1#32 := ⟨rfl, rfl⟩
theorem uEq0 (x : BitVec 32) : decide ((x.toNat : Int) = 0) = decide (x = 0#32) := by
  rw [decide_eq_decide]
  constructor
  · intro h; apply BitVec.eq_of_toNat_eq; simp; omega
  · rintro rfl; rfl
theorem uEq1 (x : BitVec 32) : decide ((x.toNat : Int) = 1) = decide (x = 1#32) := by
  rw [decide_eq_decide]
  constructor
  · intro h; apply BitVec.eq_of_toNat_eq; simp; omega
  · rintro rfl; rfl
theorem wrapT (x : BitVec 32) : IntKind.u32.wrap (x.toNat : Int) = (x.toNat : Int) := by rw [uWrap, ubT]

theorem uBits {C : Ctx} {t : TypeId} {x y : Operand} {a b : Int} :
    evBin C .and t x y (.lit (.int .u32 a)) (.lit (.int .u32 b)) = some (.lit (.int .u32 ((ub a &&& ub b).toNat : Int))) ∧
    evBin C .or t x y (.lit (.int .u32 a)) (.lit (.int .u32 b)) = some (.lit (.int .u32 ((ub a ||| ub b).toNat : Int))) ∧
    evBin C .andNot t x y (.lit (.int .u32 a)) (.lit (.int .u32 b)) = some (.lit (.int .u32 ((ub a &&& ~~~ ub b).toNat : Int))) := by
  refine ⟨?_, ?_, ?_⟩
  · show some (PV.lit (.int .u32 (IntKind.u32.wrap ((BitVec.ofInt 32 a &&& BitVec.ofInt 32 b).toNat : Int)))) = _
    rw [wrapT]; rfl
  · show some (PV.lit (.int .u32 (IntKind.u32.wrap ((BitVec.ofInt 32 a ||| BitVec.ofInt 32 b).toNat : Int)))) = _
    rw [wrapT]; rfl
  · show some (PV.lit (.int .u32 (IntKind.u32.wrap ((BitVec.ofInt 32 a &&& ~~~ BitVec.ofInt 32 b).toNat : Int)))) = _
    rw [wrapT]; rfl
theorem uShl {C : Ctx} {t : TypeId} {x y : Operand} {k : IntKind} {a b : Int} (hb : 0 ≤ b) :
    evBin C .shl t x y (.lit (.int .u32 a)) (.lit (.int k b)) = some (.lit (.int .u32 ((ub a <<< b.toNat).toNat : Int))) := by
  have e : evBin C .shl t x y (.lit (.int .u32 a)) (.lit (.int k b)) = some (.lit (.int .u32 (IntKind.u32.wrap (a * 2 ^ (min b.toNat 32))))) := by
    simp [evBin, conc, eqGuard, binOp, Op.shift, bind, Sem.bind, pure, purely, ofV_int, show ¬ b < 0 from by omega]
    rfl
  rw [e, uWrap]
  have key : (ub (a * 2 ^ min b.toNat 32)).toNat = (ub a <<< b.toNat).toNat := by
    unfold ub
    rw [BitVec.toNat_shiftLeft, BitVec.toNat_ofInt, BitVec.toNat_ofInt, Nat.shiftLeft_eq]
    by_cases hn : b.toNat ≤ 32
    · rw [Nat.min_eq_left hn]
      have hp : (0:Int) ≤ a % ((2 ^ 32 : Nat) : Int) := Int.emod_nonneg _ (by decide)
      have hq : (0:Int) ≤ (a * 2 ^ b.toNat) % ((2 ^ 32 : Nat) : Int) := Int.emod_nonneg _ (by decide)
      apply Int.ofNat_inj.1
      rw [Int.natCast_emod, Int.natCast_mul, Int.toNat_of_nonneg hq, Int.toNat_of_nonneg hp, Int.natCast_pow]
      rw [Int.mul_emod, Int.mul_emod (a % _)]
      simp
      rw [Int.mul_emod (a % 4294967296) (2 ^ b.toNat), Int.emod_emod_of_dvd _ (Int.dvd_refl _)]
    · rw [Nat.min_eq_right (by omega)]
      obtain ⟨c, hc⟩ : ∃ c, b.toNat = 32 + c := ⟨b.toNat - 32, by omega⟩
      rw [hc, Nat.pow_add, ← Nat.mul_assoc, Nat.mul_right_comm, Nat.mul_mod_left]
      have : (a * 2 ^ 32) % ((2 ^ 32 : Nat) : Int) = 0 := Int.mul_emod_left _ _
      rw [this]; rfl
  rw [key]
theorem uShr {C : Ctx} {t : TypeId} {x y : Operand} {k : IntKind} {a : BitVec 32} {b : Int} (hb : 0 ≤ b) :
    evBin C .shr t x y (.lit (.int .u32 (a.toNat : Int))) (.lit (.int k b)) = some (.lit (.int .u32 ((a >>> b.toNat).toNat : Int))) := by
  have e : evBin C .shr t x y (.lit (.int .u32 (a.toNat : Int))) (.lit (.int k b)) = some (.lit (.int .u32 ((a.toNat : Int).fdiv (2 ^ (min b.toNat 32))))) := by
    simp [evBin, conc, eqGuard, binOp, Op.shift, bind, Sem.bind, pure, purely, ofV_int, show ¬ b < 0 from by omega]
    rfl
  rw [e]
  have key : (a.toNat : Int).fdiv (2 ^ min b.toNat 32) = ((a >>> b.toNat).toNat : Int) := by
    rw [BitVec.toNat_ushiftRight, Nat.shiftRight_eq_div_pow, Int.fdiv_eq_ediv_of_nonneg _ (Int.le_of_lt (Int.pow_pos (by decide)))]
    by_cases hn : b.toNat ≤ 32
    · rw [Nat.min_eq_left hn, Int.natCast_ediv, Int.natCast_pow]; rfl
    · rw [Nat.min_eq_right (by omega)]
      have h1 := a.isLt
      have h2 : 2 ^ 32 ≤ 2 ^ b.toNat := Nat.pow_le_pow_right (by decide) (by omega)
      rw [Nat.div_eq_of_lt (by omega)]
      show (a.toNat : Int) / 4294967296 = 0
      omega
  rw [key]
/-- The lowest bit. -/
theorem low_ex (x : BitVec 32) (hx : x ≠ 0#32) : ∃ k, k < 32 ∧ x.getLsbD k = true ∧ ∀ j, j < k → x.getLsbD j = false := by
  have hex : ∃ k, x.getLsbD k = true := by
    apply Classical.byContradiction; intro h
    apply hx
    apply BitVec.eq_of_getLsbD_eq
    intro i hi
    have : ¬ x.getLsbD i = true := fun hb => h ⟨i, hb⟩
    simp at this; simp [this]
  have key : ∀ n, (∃ k, k < n ∧ x.getLsbD k = true) → ∃ k, x.getLsbD k = true ∧ ∀ j, j < k → x.getLsbD j = false := by
    intro n
    induction n with
    | zero => rintro ⟨k, h, _⟩; omega
    | succ n ih =>
      rintro ⟨k, h1, h2⟩
      by_cases h3 : ∃ k, k < n ∧ x.getLsbD k = true
      · exact ih h3
      · refine ⟨k, h2, fun j hj => ?_⟩
        rw [Bool.eq_false_iff]; intro hb; exact h3 ⟨j, by omega, hb⟩
  obtain ⟨k, hk⟩ := hex
  obtain ⟨k, h1, h2⟩ := key (k + 1) ⟨k, by omega, hk⟩
  refine ⟨k, ?_, h1, h2⟩
  apply Classical.byContradiction; intro h
  rw [BitVec.getLsbD_of_ge _ _ (by omega)] at h1; cases h1
theorem low_and {x : BitVec 32} {k : Nat} (hk : k < 32) (h1 : x.getLsbD k = true) (h2 : ∀ j, j < k → x.getLsbD j = false) : x &&& -x = BitVec.twoPow 32 k := by
  apply BitVec.eq_of_getLsbD_eq
  intro i hi
  rw [BitVec.getLsbD_and, BitVec.getLsbD_neg, BitVec.getLsbD_twoPow]
  by_cases e : i = k
  · subst e
    have : ¬ ∃ j, j < i ∧ x.getLsbD j = true := fun ⟨j, g1, g2⟩ => by rw [h2 j g1] at g2; cases g2
    simp [h1, this, hk]
  · have e' : ¬ k = i := fun h => e h.symm
    by_cases hlt : i < k
    · simp [h2 i hlt, e']
    · have : ∃ j, j < i ∧ x.getLsbD j = true := ⟨k, by omega, h1⟩
      simp [this, e', hi]
theorem low_clear {x : BitVec 32} {k : Nat} (hk : k < 32) (h1 : x.getLsbD k = true) (h2 : ∀ j, j < k → x.getLsbD j = false) (i : Nat) : (x &&& (x - 1#32)).getLsbD i = if i = k then false else x.getLsbD i := by
  by_cases hi : i < 32
  · rw [← BitVec.not_neg, BitVec.getLsbD_and, BitVec.getLsbD_not, BitVec.getLsbD_neg]
    by_cases e : i = k
    · subst e
      have : ¬ ∃ j, j < i ∧ x.getLsbD j = true := fun ⟨j, g1, g2⟩ => by rw [h2 j g1] at g2; cases g2
      simp [h1, this]
    · by_cases hlt : i < k
      · simp [h2 i hlt, e]
      · have : ∃ j, j < i ∧ x.getLsbD j = true := ⟨k, by omega, h1⟩
        simp [this, e, hi]
  · rw [BitVec.getLsbD_of_ge _ _ (by omega), BitVec.getLsbD_of_ge _ _ (by omega)]; simp
theorem tab_low : ∀ k : Fin 32, tab[((BitVec.twoPow 32 k.val * 125613361#32) >>> 27).toNat]? = some (k.val : Int) := by decide

theorem uRules : (∀ n, IntKind.u32.wrap n = ((ub n).toNat : Int)) ∧ (∀ x : BitVec 32, ub (x.toNat : Int) = x) ∧ (∀ a b, ub (a - b) = ub a - ub b) ∧ (∀ a b, ub (a * b) = ub a * ub b) ∧ (ub 0 = 0#32) ∧ (ub 1 = 1#32) ∧
    (∀ x : BitVec 32, decide ((x.toNat : Int) = 0) = decide (x = 0#32)) ∧ (∀ x : BitVec 32, decide ((x.toNat : Int) = 1) = decide (x = 1#32)) ∧ (∀ n : Nat, ((n : Int)).toNat = n) ∧ (∀ n : Nat, (0 ≤ (n : Int)) = True) ∧ ((0 : Int) ≤ 27) = True ∧ ((27 : Int).toNat = 27) ∧ ub 125613361 = 125613361#32 ∧
    (∀ x : BitVec 32, 0#32 - x = -x) :=
  ⟨uWrap, ubT, ub_sub, ub_mul, rfl, rfl, uEq0, uEq1, fun _ => rfl, fun n => by simp, by simp, rfl, rfl, fun x => by simp⟩

def w32 (x : BitVec 32) : PV := .lit (.int .u32 (x.toNat : Int))

theorem tisG : (ti cx.P 92 = some ⟨.array 32 5, 32, 32⟩) ∧ (ti cx.P 5 = some ⟨.int .u8, 1, 1⟩) ∧ (cx.G 0 = some (tab.map fun n => .lit (.int .u8 n))) := ⟨by kernel_rfl, by kernel_rfl, rfl⟩

theorem s48 (x : BitVec 32) (k : Nat) (hk : k < 32) (h1 : x.getLsbD k = true) (h2 : ∀ j, j < k → x.getLsbD j = false) : CallSpec cx 63 [w32 x] (i64 k) := by
  have hx : decide (x = 0#32) = false := by
    rw [decide_eq_false_iff_not]; rintro rfl; simp at h1
  have ht := tab_low ⟨k, hk⟩
  have hi : ((BitVec.twoPow 32 k * 125613361#32) >>> 27).toNat < 32 := by
    rw [BitVec.toNat_ushiftRight, Nat.shiftRight_eq_div_pow]
    have := (BitVec.twoPow 32 k * 125613361#32).isLt
    omega
  have hd : (List.drop ((BitVec.twoPow 32 k * 125613361#32) >>> 27).toNat (List.map (fun n => PV.lit (Value.int IntKind.u8 n)) tab))[0]? = some (.lit (.int .u8 k)) := by
    rw [List.getElem?_drop, List.getElem?_map, Nat.add_zero, ht]; rfl
  have hw : IntKind.i64.wrap (k : Int) = k := by rw [IntWalk.i64_in _ (by omega)]
  refine callSpec_of_vc Tryd.func63 rfl (by decide) (by kernel_rfl) (Nat.le_of_ble_eq_true rfl) ?_
  simp -dsimp (maxSteps := 2000000) (disch := first | omega | decide +kernel) only [↓vcl, ↓vcy, ↓vco, vck, gR, evl, evb, evBuiltin, evLen, evIdxA, evLoad, loadP, aggD, tis, i64, u32, bl, encL, encB, encLL, reduceIte, Nat.reduceEqDiff, forget, forget1, wantd, tzs, eve, evStore, evBox, evAlloc, evBuildSlice, evMakeSlice, evAppend, fillRows, zcells, elemsOf, putAll, PV.one, Nat.reduceAdd, Nat.reduceMul, Int.cast_ofNat_Int, Int.reduceEq, Int.reduceLT, Int.reduceLE, Nat.reduceLeDiff, List.reduceReplicate, reduceCtorEq, retQ, resL, finL, newL, flat, tupOf, List.toList_toArray, Tryd.f63, w32, uRules, uBits, uShr, uUn, hx, low_and hk h1 h2, tisG, hi, hd, evConv]
  exact leT_one (int_eq hw) (by simp)
end Go.Ab
end

section
set_option maxRecDepth 100000
set_option maxHeartbeats 8000000
namespace Go.Ab
open Go Go.Proofs

def bitsB (x : BitVec 32) : List Bool := (List.range 32).map x.getLsbD
def bitsL (x : BitVec 32) : List Int := lst 0 (bitsB x)

theorem bitsB_get {x : BitVec 32} {i : Nat} : (bitsB x)[i]? = if i < 32 then some (x.getLsbD i) else none := by
  unfold bitsB
  rw [List.getElem?_map]
  split
  · rename_i h; rw [List.getElem?_range h]; rfl
  · rename_i h; rw [List.getElem?_eq_none (by simp; omega)]; rfl

theorem bits_step {x : BitVec 32} {k : Nat} (hk : k < 32) (h1 : x.getLsbD k = true) (h2 : ∀ j, j < k → x.getLsbD j = false) : bitsL x = (k : Int) :: bitsL (x &&& (x - 1#32)) := by
  unfold bitsL
  rw [lst_first (bitsB x) 0 k (by rw [bitsB_get, if_pos hk, h1]) (fun j hj => by rw [bitsB_get, if_pos (by omega), h2 j hj]), Nat.zero_add]
  congr 2
  apply List.ext_getElem?
  intro i
  rw [List.getElem?_set, bitsB_get, bitsB_get, low_clear hk h1 h2]
  have hl : (bitsB x).length = 32 := by simp [bitsB]
  by_cases e : k = i
  · subst e; simp [hl, hk]
  · have : ¬ i = k := fun h => e h.symm
    simp [e, this]
theorem bits_zero : bitsL 0#32 = [] := by decide
theorem bits_len (x : BitVec 32) : (bitsL x).length ≤ 32 := by
  have := lst_len (bitsB x) 0
  simpa [bitsL, bitsB] using this

theorem s34 (x0 : BitVec 32) : CallSpec cx 52 [w32 x0] (newI (bitsL x0)) := by
  have hb0 := bits_len x0
  refine callSpec_of_vc Tryd.func52 rfl (by decide) (by kernel_rfl) (Nat.le_of_ble_eq_true rfl) ?_
  try simp -dsimp (maxSteps := 2000000) (disch := first | omega | decide +kernel) only [↓vcl, ↓vcy, ↓vco, vck, gR, evl, evb, evBuiltin, evLen, evIdxA, evLoad, loadP, aggD, tis, i64, u32, bl, encL, encB, encLL, reduceIte, Nat.reduceEqDiff, forget, forget1, wantd, tzs, eve, evStore, evBox, evAlloc, evBuildSlice, evMakeSlice, evAppend, fillRows, zcells, elemsOf, putAll, PV.one, Nat.reduceAdd, Nat.reduceMul, Int.cast_ofNat_Int, Int.reduceEq, Int.reduceLT, Int.reduceLE, Nat.reduceLeDiff, List.reduceReplicate, reduceCtorEq, Tryd.f52]
  refine LoopQ.rule (fun k st => ∃ (s : BitVec 32) (out : List Int) (nx : Nat), out ++ bitsL s = bitsL x0 ∧ k = (bitsL s).length ∧
    ((out = [] ∧ st = ⟨mkE [(0, w32 s), (3, .lit (.slice none 0 0))], mkS [], nx⟩) ∨
     ∃ id ver, id < nx ∧ st = ⟨mkE [(0, w32 s), (3, .own id ver 0 out.length false)], mkS [(id, .row ver 1 (out.map fun i => [i64 i]) false)], nx⟩)) _ _ (weak_of ?_) ⟨x0, [], 0, rfl, rfl, .inl ⟨rfl, rfl⟩⟩ ?_
  · first | (simp -dsimp (maxSteps := 2000000) (disch := first | omega | decide +kernel) only [↓vcl, ↓vcy, ↓vco, vck, gR, evl, evb, evBuiltin, evLen, evIdxA, evLoad, loadP, aggD, tis, i64, u32, bl, encL, encB, encLL, reduceIte, Nat.reduceEqDiff, forget, forget1, wantd, tzs, eve, evStore, evBox, evAlloc, evBuildSlice, evMakeSlice, evAppend, fillRows, zcells, elemsOf, putAll, PV.one, Nat.reduceAdd, Nat.reduceMul, Int.cast_ofNat_Int, Int.reduceEq, Int.reduceLT, Int.reduceLE, Nat.reduceLeDiff, List.reduceReplicate, reduceCtorEq]; done) | simp -dsimp [evl, putN, i64, u32, bl, encL, encB, encLL]
  rintro k st ⟨s, out, nx, hout, rfl, ⟨rfl, rfl⟩ | ⟨id, ver, hid, rfl⟩⟩
  · cases hs : decide (s = 0#32)
    · have hs' := of_decide_eq_false hs
      obtain ⟨k, hk, h1, h2⟩ := low_ex s hs'
      have hst := bits_step hk h1 h2
      try simp -dsimp (maxSteps := 2000000) (disch := first | omega | decide +kernel) only [↓vcl, ↓vcy, ↓vco, vck, gR, evl, evb, evBuiltin, evLen, evIdxA, evLoad, loadP, aggD, tis, i64, u32, bl, encL, encB, encLL, reduceIte, Nat.reduceEqDiff, forget, forget1, wantd, tzs, eve, evStore, evBox, evAlloc, evBuildSlice, evMakeSlice, evAppend, fillRows, zcells, elemsOf, putAll, PV.one, Nat.reduceAdd, Nat.reduceMul, Int.cast_ofNat_Int, Int.reduceEq, Int.reduceLT, Int.reduceLE, Nat.reduceLeDiff, List.reduceReplicate, reduceCtorEq, w32, uRules, uBits, uUn, hs]
      refine CallQ.imm (s48 s k hk h1 h2) (by rfl) (by first | rfl | (simp -dsimp (maxSteps := 2000000) (disch := first | omega | decide +kernel) only [↓vcl, ↓vcy, ↓vco, vck, gR, evl, evb, evBuiltin, evLen, evIdxA, evLoad, loadP, aggD, tis, i64, u32, bl, encL, encB, encLL, reduceIte, Nat.reduceEqDiff, forget, forget1, wantd, tzs, eve, evStore, evBox, evAlloc, evBuildSlice, evMakeSlice, evAppend, fillRows, zcells, elemsOf, putAll, PV.one, Nat.reduceAdd, Nat.reduceMul, Int.cast_ofNat_Int, Int.reduceEq, Int.reduceLT, Int.reduceLE, Nat.reduceLeDiff, List.reduceReplicate, reduceCtorEq, drcs, drc, flat]; done) | simp -dsimp [evl, drcs, drc, flat, i64, u32, bl, encL, encB, encLL]) (by first | exact .inl rfl | exact .inr rfl | exact .inr scalB | exact .inr scalI | exact .inr scalT) ?_
      try simp -dsimp (maxSteps := 2000000) (disch := first | omega | decide +kernel) only [↓vcl, ↓vcy, ↓vco, vck, gR, evl, evb, evBuiltin, evLen, evIdxA, evLoad, loadP, aggD, tis, i64, u32, bl, encL, encB, encLL, reduceIte, Nat.reduceEqDiff, forget, forget1, wantd, tzs, eve, evStore, evBox, evAlloc, evBuildSlice, evMakeSlice, evAppend, fillRows, zcells, elemsOf, putAll, PV.one, Nat.reduceAdd, Nat.reduceMul, Int.cast_ofNat_Int, Int.reduceEq, Int.reduceLT, Int.reduceLE, Nat.reduceLeDiff, List.reduceReplicate, reduceCtorEq, w32, uRules, uBits, uUn, hs]
      refine ⟨_, _, ?_, weak_of ?_, s &&& (s - 1#32), [(k : Int)], nx + 2, by rw [← hout, hst]; rfl, rfl, .inr ⟨nx + 1, 0, by omega, rfl⟩⟩
      · rw [hst]; simp
      · first | (simp -dsimp (maxSteps := 2000000) (disch := first | omega | decide +kernel) only [↓vcl, ↓vcy, ↓vco, vck, gR, evl, evb, evBuiltin, evLen, evIdxA, evLoad, loadP, aggD, tis, i64, u32, bl, encL, encB, encLL, reduceIte, Nat.reduceEqDiff, forget, forget1, wantd, tzs, eve, evStore, evBox, evAlloc, evBuildSlice, evMakeSlice, evAppend, fillRows, zcells, elemsOf, putAll, PV.one, Nat.reduceAdd, Nat.reduceMul, Int.cast_ofNat_Int, Int.reduceEq, Int.reduceLT, Int.reduceLE, Nat.reduceLeDiff, List.reduceReplicate, reduceCtorEq, w32]; done) | simp -dsimp [evl, putN, i64, u32, bl, encL, encB, encLL, w32]
    · have hs' := of_decide_eq_true hs
      simp -dsimp (maxSteps := 2000000) (disch := first | omega | decide +kernel) only [↓vcl, ↓vcy, ↓vco, vck, gR, evl, evb, evBuiltin, evLen, evIdxA, evLoad, loadP, aggD, tis, i64, u32, bl, encL, encB, encLL, reduceIte, Nat.reduceEqDiff, forget, forget1, wantd, tzs, eve, evStore, evBox, evAlloc, evBuildSlice, evMakeSlice, evAppend, fillRows, zcells, elemsOf, putAll, PV.one, Nat.reduceAdd, Nat.reduceMul, Int.cast_ofNat_Int, Int.reduceEq, Int.reduceLT, Int.reduceLE, Nat.reduceLeDiff, List.reduceReplicate, reduceCtorEq, retQ, resL, finL, newL, flat, tupOf, List.toList_toArray, Tryd.f52, w32, uRules, hs]
      refine leT_one (.inr ⟨rfl, 1, ?_⟩) (by simp)
      rw [newI, ← hout, hs', bits_zero]; rfl
  · have hbd : (out.length + 1) * 8 ≤ 140737488355328 := by
      have := congrArg List.length hout
      rw [List.length_append] at this; omega
    have hne : (id = nx) = False := by simp; omega
    have hne' : (nx = id) = False := by simp; omega
    cases hs : decide (s = 0#32)
    · have hs' := of_decide_eq_false hs
      obtain ⟨k, hk, h1, h2⟩ := low_ex s hs'
      have hst := bits_step hk h1 h2
      try simp -dsimp (maxSteps := 2000000) (disch := first | omega | decide +kernel) only [↓vcl, ↓vcy, ↓vco, vck, gR, evl, evb, evBuiltin, evLen, evIdxA, evLoad, loadP, aggD, tis, i64, u32, bl, encL, encB, encLL, reduceIte, Nat.reduceEqDiff, forget, forget1, wantd, tzs, eve, evStore, evBox, evAlloc, evBuildSlice, evMakeSlice, evAppend, fillRows, zcells, elemsOf, putAll, PV.one, Nat.reduceAdd, Nat.reduceMul, Int.cast_ofNat_Int, Int.reduceEq, Int.reduceLT, Int.reduceLE, Nat.reduceLeDiff, List.reduceReplicate, reduceCtorEq, w32, uRules, uBits, uUn, hs]
      refine CallQ.imm (s48 s k hk h1 h2) (by rfl) (by first | rfl | (simp -dsimp (maxSteps := 2000000) (disch := first | omega | decide +kernel) only [↓vcl, ↓vcy, ↓vco, vck, gR, evl, evb, evBuiltin, evLen, evIdxA, evLoad, loadP, aggD, tis, i64, u32, bl, encL, encB, encLL, reduceIte, Nat.reduceEqDiff, forget, forget1, wantd, tzs, eve, evStore, evBox, evAlloc, evBuildSlice, evMakeSlice, evAppend, fillRows, zcells, elemsOf, putAll, PV.one, Nat.reduceAdd, Nat.reduceMul, Int.cast_ofNat_Int, Int.reduceEq, Int.reduceLT, Int.reduceLE, Nat.reduceLeDiff, List.reduceReplicate, reduceCtorEq, drcs, drc, flat]; done) | simp -dsimp [evl, drcs, drc, flat, i64, u32, bl, encL, encB, encLL]) (by first | exact .inl rfl | exact .inr rfl | exact .inr scalB | exact .inr scalI | exact .inr scalT) ?_
      try simp -dsimp (maxSteps := 2000000) (disch := first | omega | decide +kernel) only [↓vcl, ↓vcy, ↓vco, vck, gR, evl, evb, evBuiltin, evLen, evIdxA, evLoad, loadP, aggD, tis, i64, u32, bl, encL, encB, encLL, reduceIte, Nat.reduceEqDiff, forget, forget1, wantd, tzs, eve, evStore, evBox, evAlloc, evBuildSlice, evMakeSlice, evAppend, fillRows, zcells, elemsOf, putAll, PV.one, Nat.reduceAdd, Nat.reduceMul, Int.cast_ofNat_Int, Int.reduceEq, Int.reduceLT, Int.reduceLE, Nat.reduceLeDiff, List.reduceReplicate, reduceCtorEq, w32, uRules, uBits, uUn, hs, hne, hne', hbd]
      refine ⟨_, _, ?_, weak_of ?_, s &&& (s - 1#32), out ++ [(k : Int)], nx + 1, by rw [← hout, hst]; simp, rfl, .inr ⟨id, ver + 1, by omega, rfl⟩⟩
      · rw [hst]; simp
      · first | (simp -dsimp (maxSteps := 2000000) (disch := first | omega | decide +kernel) only [↓vcl, ↓vcy, ↓vco, vck, gR, evl, evb, evBuiltin, evLen, evIdxA, evLoad, loadP, aggD, tis, i64, u32, bl, encL, encB, encLL, reduceIte, Nat.reduceEqDiff, forget, forget1, wantd, tzs, eve, evStore, evBox, evAlloc, evBuildSlice, evMakeSlice, evAppend, fillRows, zcells, elemsOf, putAll, PV.one, Nat.reduceAdd, Nat.reduceMul, Int.cast_ofNat_Int, Int.reduceEq, Int.reduceLT, Int.reduceLE, Nat.reduceLeDiff, List.reduceReplicate, reduceCtorEq, w32, hne, hne']; done) | simp -dsimp [evl, putN, i64, u32, bl, encL, encB, encLL, w32, hne, hne']
    · have hs' := of_decide_eq_true hs
      simp -dsimp (maxSteps := 2000000) (disch := first | omega | decide +kernel) only [↓vcl, ↓vcy, ↓vco, vck, gR, evl, evb, evBuiltin, evLen, evIdxA, evLoad, loadP, aggD, tis, i64, u32, bl, encL, encB, encLL, reduceIte, Nat.reduceEqDiff, forget, forget1, wantd, tzs, eve, evStore, evBox, evAlloc, evBuildSlice, evMakeSlice, evAppend, fillRows, zcells, elemsOf, putAll, PV.one, Nat.reduceAdd, Nat.reduceMul, Int.cast_ofNat_Int, Int.reduceEq, Int.reduceLT, Int.reduceLE, Nat.reduceLeDiff, List.reduceReplicate, reduceCtorEq, retQ, resL, finL, newL, flat, tupOf, List.toList_toArray, Tryd.f52, w32, uRules, hs]
      refine leT_one ?_ (by simp)
      rw [← hout, hs', bits_zero, List.append_nil]
      exact .rfl'

theorem s37 (x : BitVec 32) (i : Nat) : CallSpec cx 50 [w32 x, i64 i] (bl (decide ((x >>> i) &&& 1#32 = 1#32))) := by
  refine callSpec_of_vc Tryd.func50 rfl (by decide) (by kernel_rfl) (Nat.le_of_ble_eq_true rfl) ?_
  simp -dsimp (maxSteps := 2000000) (disch := first | omega | decide +kernel) only [↓vcl, ↓vcy, ↓vco, vck, gR, evl, evb, evBuiltin, evLen, evIdxA, evLoad, loadP, aggD, tis, i64, u32, bl, encL, encB, encLL, reduceIte, Nat.reduceEqDiff, forget, forget1, wantd, tzs, eve, evStore, evBox, evAlloc, evBuildSlice, evMakeSlice, evAppend, fillRows, zcells, elemsOf, putAll, PV.one, Nat.reduceAdd, Nat.reduceMul, Int.cast_ofNat_Int, Int.reduceEq, Int.reduceLT, Int.reduceLE, Nat.reduceLeDiff, List.reduceReplicate, reduceCtorEq, retQ, resL, finL, newL, flat, tupOf, List.toList_toArray, Tryd.f50, w32, uRules, uBits, uShr]
  exact leT_one (bl_eq rfl) (by simp)
end Go.Ab
end

section
set_option maxRecDepth 100000
set_option maxHeartbeats 8000000
namespace Go.Ab
open Go Go.Proofs

def msk (f : Nat → Bool) : Nat → BitVec 32
  | 0 => 0#32
  | n + 1 => msk f n ||| (if f n then BitVec.twoPow 32 n else 0#32)
theorem msk_get {f : Nat → Bool} : ∀ (n j : Nat), n ≤ 32 → (msk f n).getLsbD j = (decide (j < n) && f j)
  | 0, j, _ => by simp [msk]
  | n + 1, j, h => by
    rw [msk, BitVec.getLsbD_or, msk_get n j (by omega)]
    by_cases e : j = n
    · subst e
      cases hf : f j
      · simp
      · simp [BitVec.getLsbD_twoPow]; omega
    · have e' : ¬ n = j := fun h => e h.symm
      have : decide (j < n + 1) = decide (j < n) := by rw [decide_eq_decide]; omega
      rw [this]
      split <;> simp [BitVec.getLsbD_twoPow, e']

open Classical in
noncomputable def ancW (H : List (List Nat)) (i : Nat) : BitVec 32 := msk (fun j => decide (Anc H [i] j)) 32
noncomputable def setsL (H : List (List Nat)) : List (BitVec 32) := (List.range H.length).map (ancW H)

theorem anc_lt {H : List (List Nat)} (hv : Vd H) {F : List Nat} {n : Nat} (hF : ∀ x ∈ F, x < n) {j : Nat} (h : Anc H F j) : j < n := by
  induction h with
  | base h => exact hF _ h
  | up _ h1 h2 ih => have := hv _ _ h1 _ h2; omega

theorem anc_trans {H : List (List Nat)} {F : List Nat} {k j : Nat} (h1 : Anc H F k) (h2 : Anc H [k] j) : Anc H F j := by
  induction h2 with
  | base h => simp at h; subst h; exact h1
  | up _ h3 h4 ih => exact .up ih h3 h4

theorem anc_step {H : List (List Nat)} {i j : Nat} {p : List Nat} (hp : H[i]? = some p) : Anc H [i] j ↔ j = i ∨ ∃ k ∈ p, Anc H [k] j := by
  constructor
  · intro h
    induction h with
    | base h => simp at h; exact .inl h
    | up _ h3 h4 ih =>
      rcases ih with rfl | ⟨k, hk, h5⟩
      · rw [hp] at h3; cases h3
        exact .inr ⟨_, h4, .base (by simp)⟩
      · exact .inr ⟨k, hk, .up h5 h3 h4⟩
  · rintro (rfl | ⟨k, hk, h⟩)
    · exact .base (by simp)
    · exact anc_trans (.up (.base (by simp)) hp hk) h

theorem ancW_get {H : List (List Nat)} {i j : Nat} : (ancW H i).getLsbD j = true ↔ j < 32 ∧ Anc H [i] j := by
  rw [ancW, msk_get _ _ (Nat.le_refl _)]
  simp

theorem s33 (H : List (List Nat)) (hv : Vd H) (hl : H.length ≤ 32) (hp : ∀ p ∈ H, p.length ≤ 9223372036854775807) :
    CallSpec cx 49 [encLL (toII H)] (.new 1 ((setsL H).map fun x => [w32 x])) := by
  refine callSpec_of_vc Tryd.func49 rfl (by decide) (by kernel_rfl) (Nat.le_of_ble_eq_true rfl) ?_
  have hbd : 1 * H.length ≤ 140737488355328 := by omega
  have hbd' : H.length ≤ 140737488355328 := by omega
  have hbd4 : 4 * H.length ≤ 140737488355328 := by omega
  try simp -dsimp (maxSteps := 2000000) (disch := first | omega | decide +kernel) only [↓vcl, ↓vcy, ↓vco, vck, gR, evl, evb, evBuiltin, evLen, evIdxA, evLoad, loadP, aggD, tis, i64, u32, bl, encL, encB, encLL, reduceIte, Nat.reduceEqDiff, forget, forget1, wantd, tzs, eve, evStore, evBox, evAlloc, evBuildSlice, evMakeSlice, evAppend, fillRows, zcells, elemsOf, putAll, PV.one, Nat.reduceAdd, Nat.reduceMul, Int.cast_ofNat_Int, Int.reduceEq, Int.reduceLT, Int.reduceLE, Nat.reduceLeDiff, List.reduceReplicate, reduceCtorEq, Tryd.f49, toII, hbd, hbd', hbd4]
  refine LoopQ.rule (fun m st => ∃ (i : Nat) (out : List (BitVec 32)), i ≤ H.length ∧ out.length = H.length ∧ (∀ j, j < i → out[j]? = some (ancW H j)) ∧ m = H.length - i ∧
    st = ⟨mkE [(3, .own 0 0 0 H.length false), (11, encLL (toII H)), (12, i64 H.length), (13, i64 i)], mkS [(0, .row 0 1 (out.map fun b => [w32 b]) false)], 1⟩) _ _ (weak_of ?_)
    ⟨0, List.replicate H.length 0#32, by omega, by simp, by omega, rfl, rfl⟩ ?_
  · first | (simp -dsimp (maxSteps := 2000000) (disch := first | omega | decide +kernel) only [↓vcl, ↓vcy, ↓vco, vck, gR, evl, evb, evBuiltin, evLen, evIdxA, evLoad, loadP, aggD, tis, i64, u32, bl, encL, encB, encLL, reduceIte, Nat.reduceEqDiff, forget, forget1, wantd, tzs, eve, evStore, evBox, evAlloc, evBuildSlice, evMakeSlice, evAppend, fillRows, zcells, elemsOf, putAll, PV.one, Nat.reduceAdd, Nat.reduceMul, Int.cast_ofNat_Int, Int.reduceEq, Int.reduceLT, Int.reduceLE, Nat.reduceLeDiff, List.reduceReplicate, reduceCtorEq, toII, w32]; done) | simp -dsimp [evl, putN, i64, u32, bl, encL, encB, encLL, toII, w32]
  rintro m st ⟨i, out, hi, hol, hout, rfl, rfl⟩
  try simp -dsimp (maxSteps := 2000000) (disch := first | omega | decide +kernel) only [↓vcl, ↓vcy, ↓vco, vck, gR, evl, evb, evBuiltin, evLen, evIdxA, evLoad, loadP, aggD, tis, i64, u32, bl, encL, encB, encLL, reduceIte, Nat.reduceEqDiff, forget, forget1, wantd, tzs, eve, evStore, evBox, evAlloc, evBuildSlice, evMakeSlice, evAppend, fillRows, zcells, elemsOf, putAll, PV.one, Nat.reduceAdd, Nat.reduceMul, Int.cast_ofNat_Int, Int.reduceEq, Int.reduceLT, Int.reduceLE, Nat.reduceLeDiff, List.reduceReplicate, reduceCtorEq]
  refine onC_nlt (fun h2 => ?_) (fun h2 => ?_)
  · obtain ⟨p, hip, hpm⟩ := get_of_lt (l := H) h2
    have hoi : out[i]? = some out[i] := List.getElem?_eq_getElem (by omega)
    try simp -dsimp (maxSteps := 2000000) (disch := first | omega | decide +kernel) only [↓vcl, ↓vcy, ↓vco, vck, gR, evl, evb, evBuiltin, evLen, evIdxA, evLoad, loadP, aggD, tis, i64, u32, bl, encL, encB, encLL, reduceIte, Nat.reduceEqDiff, forget, forget1, wantd, tzs, eve, evStore, evBox, evAlloc, evBuildSlice, evMakeSlice, evAppend, fillRows, zcells, elemsOf, putAll, PV.one, Nat.reduceAdd, Nat.reduceMul, Int.cast_ofNat_Int, Int.reduceEq, Int.reduceLT, Int.reduceLE, Nat.reduceLeDiff, List.reduceReplicate, reduceCtorEq, toII, hip, h2, hoi, w32, uRules, uShl]
    refine LoopQ.rule (fun m st => ∃ (c : Nat) (out : List (BitVec 32)) (v : BitVec 32), c ≤ p.length ∧ out.length = H.length ∧ (∀ j, j < i → out[j]? = some (ancW H j)) ∧ out[i]? = some v ∧
        (∀ j, v.getLsbD j = true ↔ j < 32 ∧ (j = i ∨ ∃ k ∈ p.take c, Anc H [k] j)) ∧ m = p.length - c ∧
      st = ⟨mkE [(3, .own 0 0 0 H.length false), (4, i64 i), (11, encLL (toII H)), (12, i64 H.length), (13, i64 i), (23, encL (toI p)), (24, i64 p.length), (25, i64 c)], mkS [(0, .row 0 1 (out.map fun b => [w32 b]) false)], 1⟩) _ _ (weak_of ?_)
      ⟨0, out.set i (1#32 <<< i), 1#32 <<< i, by omega, by simp [hol], fun j hj => by rw [List.getElem?_set_ne (by omega)]; exact hout j hj, by rw [List.getElem?_set_self (by omega)],
        fun j => by rw [show (1#32 <<< i) = BitVec.twoPow 32 i from by rw [BitVec.twoPow_eq], BitVec.getLsbD_twoPow]; simp; omega, rfl, rfl⟩ ?_
    · first | (simp -dsimp (maxSteps := 2000000) (disch := first | omega | decide +kernel) only [↓vcl, ↓vcy, ↓vco, vck, gR, evl, evb, evBuiltin, evLen, evIdxA, evLoad, loadP, aggD, tis, i64, u32, bl, encL, encB, encLL, reduceIte, Nat.reduceEqDiff, forget, forget1, wantd, tzs, eve, evStore, evBox, evAlloc, evBuildSlice, evMakeSlice, evAppend, fillRows, zcells, elemsOf, putAll, PV.one, Nat.reduceAdd, Nat.reduceMul, Int.cast_ofNat_Int, Int.reduceEq, Int.reduceLT, Int.reduceLE, Nat.reduceLeDiff, List.reduceReplicate, reduceCtorEq, toII, toI, w32, List.map_set]; done) | simp -dsimp [evl, putN, i64, u32, bl, encL, encB, encLL, toII, toI, w32, List.map_set]
    clear hol hout hoi out
    rintro m st ⟨c, out, v, hc, hol, hout, hoi, hv', rfl, rfl⟩
    try simp -dsimp (maxSteps := 2000000) (disch := first | omega | decide +kernel) only [↓vcl, ↓vcy, ↓vco, vck, gR, evl, evb, evBuiltin, evLen, evIdxA, evLoad, loadP, aggD, tis, i64, u32, bl, encL, encB, encLL, reduceIte, Nat.reduceEqDiff, forget, forget1, wantd, tzs, eve, evStore, evBox, evAlloc, evBuildSlice, evMakeSlice, evAppend, fillRows, zcells, elemsOf, putAll, PV.one, Nat.reduceAdd, Nat.reduceMul, Int.cast_ofNat_Int, Int.reduceEq, Int.reduceLT, Int.reduceLE, Nat.reduceLeDiff, List.reduceReplicate, reduceCtorEq, toI]
    refine onC_nlt (fun h4 => ?_) (fun h4 => ?_)
    · obtain ⟨q, hq, hqm⟩ := get_of_lt (l := p) h4
      have hqi : q < i := hv i p hip q hqm
      have hqH : q < H.length := by omega
      have hoq := hout q hqi
      try simp -dsimp (maxSteps := 2000000) (disch := first | omega | decide +kernel) only [↓vcl, ↓vcy, ↓vco, vck, gR, evl, evb, evBuiltin, evLen, evIdxA, evLoad, loadP, aggD, tis, i64, u32, bl, encL, encB, encLL, reduceIte, Nat.reduceEqDiff, forget, forget1, wantd, tzs, eve, evStore, evBox, evAlloc, evBuildSlice, evMakeSlice, evAppend, fillRows, zcells, elemsOf, putAll, PV.one, Nat.reduceAdd, Nat.reduceMul, Int.cast_ofNat_Int, Int.reduceEq, Int.reduceLT, Int.reduceLE, Nat.reduceLeDiff, List.reduceReplicate, reduceCtorEq, toI, hq, hqH, h2, hoq, hoi, w32, uRules, uBits]
      refine ⟨_, _, ?_, weak_of ?_, c + 1, out.set i (v ||| ancW H q), v ||| ancW H q, h4, by simp [hol], fun j hj => by rw [List.getElem?_set_ne (by omega)]; exact hout j hj, by rw [List.getElem?_set_self (by omega)], ?_, rfl, rfl⟩
      · omega
      · first | (simp -dsimp (maxSteps := 2000000) (disch := first | omega | decide +kernel) only [↓vcl, ↓vcy, ↓vco, vck, gR, evl, evb, evBuiltin, evLen, evIdxA, evLoad, loadP, aggD, tis, i64, u32, bl, encL, encB, encLL, reduceIte, Nat.reduceEqDiff, forget, forget1, wantd, tzs, eve, evStore, evBox, evAlloc, evBuildSlice, evMakeSlice, evAppend, fillRows, zcells, elemsOf, putAll, PV.one, Nat.reduceAdd, Nat.reduceMul, Int.cast_ofNat_Int, Int.reduceEq, Int.reduceLT, Int.reduceLE, Nat.reduceLeDiff, List.reduceReplicate, reduceCtorEq, toII, toI, w32, List.map_set, wrapS h4 (hp p hpm)]; done) | simp -dsimp [evl, putN, i64, u32, bl, encL, encB, encLL, toII, toI, w32, List.map_set, wrapS h4 (hp p hpm)]
      · intro j
        rw [BitVec.getLsbD_or, Bool.or_eq_true, hv', ancW_get, take_succ hq]
        constructor
        · rintro (⟨h5, h6 | ⟨k, h6, h7⟩⟩ | ⟨h5, h6⟩)
          · exact ⟨h5, .inl h6⟩
          · exact ⟨h5, .inr ⟨k, by simp [h6], h7⟩⟩
          · exact ⟨h5, .inr ⟨q, by simp, h6⟩⟩
        · rintro ⟨h5, h6 | ⟨k, h6, h7⟩⟩
          · exact .inl ⟨h5, .inl h6⟩
          · rw [List.mem_append] at h6
            rcases h6 with h6 | h6
            · exact .inl ⟨h5, .inr ⟨k, h6, h7⟩⟩
            · simp at h6; subst h6; exact .inr ⟨h5, h7⟩
    · have hvi : v = ancW H i := by
        apply BitVec.eq_of_getLsbD_eq
        intro j hj
        rw [Bool.eq_iff_iff, hv', ancW_get, anc_step hip, List.take_of_length_le (by omega)]
      try simp -dsimp (maxSteps := 2000000) (disch := first | omega | decide +kernel) only [↓vcl, ↓vcy, ↓vco, vck, gR, evl, evb, evBuiltin, evLen, evIdxA, evLoad, loadP, aggD, tis, i64, u32, bl, encL, encB, encLL, reduceIte, Nat.reduceEqDiff, forget, forget1, wantd, tzs, eve, evStore, evBox, evAlloc, evBuildSlice, evMakeSlice, evAppend, fillRows, zcells, elemsOf, putAll, PV.one, Nat.reduceAdd, Nat.reduceMul, Int.cast_ofNat_Int, Int.reduceEq, Int.reduceLT, Int.reduceLE, Nat.reduceLeDiff, List.reduceReplicate, reduceCtorEq]
      refine ⟨_, _, ?_, weak_of ?_, i + 1, out, h2, hol, fun j hj => ?_, rfl, rfl⟩
      · omega
      · first | (simp -dsimp (maxSteps := 2000000) (disch := first | omega | decide +kernel) only [↓vcl, ↓vcy, ↓vco, vck, gR, evl, evb, evBuiltin, evLen, evIdxA, evLoad, loadP, aggD, tis, i64, u32, bl, encL, encB, encLL, reduceIte, Nat.reduceEqDiff, forget, forget1, wantd, tzs, eve, evStore, evBox, evAlloc, evBuildSlice, evMakeSlice, evAppend, fillRows, zcells, elemsOf, putAll, PV.one, Nat.reduceAdd, Nat.reduceMul, Int.cast_ofNat_Int, Int.reduceEq, Int.reduceLT, Int.reduceLE, Nat.reduceLeDiff, List.reduceReplicate, reduceCtorEq, toII, w32, wrapS h2 (show H.length ≤ 9223372036854775807 by omega)]; done) | simp -dsimp [evl, putN, i64, u32, bl, encL, encB, encLL, toII, w32, wrapS h2 (show H.length ≤ 9223372036854775807 by omega)]
      · by_cases e : j = i
        · subst e; rw [hoi, hvi]
        · exact hout j (by omega)
  · have hfin : out = setsL H := by
      apply List.ext_getElem?
      intro j
      unfold setsL
      rw [List.getElem?_map]
      by_cases hj : j < H.length
      · rw [hout j (by omega), List.getElem?_range hj]; rfl
      · rw [List.getElem?_eq_none (by omega), List.getElem?_eq_none (by simp; omega)]; rfl
    simp -dsimp (maxSteps := 2000000) (disch := first | omega | decide +kernel) only [↓vcl, ↓vcy, ↓vco, vck, gR, evl, evb, evBuiltin, evLen, evIdxA, evLoad, loadP, aggD, tis, i64, u32, bl, encL, encB, encLL, reduceIte, Nat.reduceEqDiff, forget, forget1, wantd, tzs, eve, evStore, evBox, evAlloc, evBuildSlice, evMakeSlice, evAppend, fillRows, zcells, elemsOf, putAll, PV.one, Nat.reduceAdd, Nat.reduceMul, Int.cast_ofNat_Int, Int.reduceEq, Int.reduceLT, Int.reduceLE, Nat.reduceLeDiff, List.reduceReplicate, reduceCtorEq, retQ, resL, finL, newL, flat, tupOf, List.toList_toArray, Tryd.f49, ← hol, w32]
    refine leT_one ?_ (by simp)
    rw [hfin]; exact .rfl'
end Go.Ab
end
