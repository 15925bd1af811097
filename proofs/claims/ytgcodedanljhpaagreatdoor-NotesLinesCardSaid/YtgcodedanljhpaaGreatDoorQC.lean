/- The reference's decimals and cuts of words. -/
import Derived.Test.YtgcodedanljhpaaGreatDoorLR
import Derived.Test.YtgcodedanljhpaaGreatDoorNB
import Derived.Test.YtgcodedanljhpaaGreatDoorPP
set_option linter.unusedSimpArgs false
set_option linter.unusedVariables false
section
set_option maxRecDepth 1000000
set_option maxHeartbeats 8000000
namespace Go.Ab
open Go Go.Proofs
theorem bd_QA : type_of% (And.intro @evNext.eq_1 (And.intro @fld (And.intro @nit (And.intro @nxE (And.intro @ghR (And.intro @ovR (And.intro @evBin_seql (And.intro @evBin_sneq (And.intro @str.eq_1 (And.intro @u8.eq_1 (And.intro @encStrs.eq_1 (And.intro @tk2 (And.intro @tk3 (And.intro @List.set_cons_succ.{0} (And.intro @List.getElem?_cons_zero.{0} (And.intro @List.getElem?_cons_succ.{0} (@List.length_set.{0}))))))))))))))))) := And.intro @evNext.eq_1 (And.intro @fld (And.intro @nit (And.intro @nxE (And.intro @ghR (And.intro @ovR (And.intro @evBin_seql (And.intro @evBin_sneq (And.intro @str.eq_1 (And.intro @u8.eq_1 (And.intro @encStrs.eq_1 (And.intro @tk2 (And.intro @tk3 (And.intro @List.set_cons_succ.{0} (And.intro @List.getElem?_cons_zero.{0} (And.intro @List.getElem?_cons_succ.{0} (@List.length_set.{0}))))))))))))))))
theorem cvI8w {σ : Store} {n : Int} : evConv cx σ 3 5 (.lit (.int .i64 n)) = some (.lit (.int .u8 (IntKind.u8.wrap n))) := by rfl
theorem cvBw {σ : Store} {id ver off len : Nat} {c : Bool} : evConv cx σ 117 9 (.own id ver off len c) = match σ id with
    | some (.row ver' _ es _) => if ver = ver' ∧ off + len ≤ es.length then (match byteL ((es.drop off).take len) with
      | some ns => some (.lit (.string (bstr ns)))
      | none => none) else none
    | _ => none := by
  have h : bytesT cx 117 9 = true := by kernel_rfl
  simp only [evConv, h, and_true]
  first | rfl | (split <;> rfl)
theorem evR10 {C : Ctx} {t : TypeId} {x y : Operand} {a : Int} : evBin C .rem t x y (.lit (.int .i64 a)) (.lit (.int .i64 10)) = some (.lit (.int .i64 (a.tmod 10))) := by rfl
theorem evQ10 {C : Ctx} {t : TypeId} {x y : Operand} {a : Int} : evBin C .quo t x y (.lit (.int .i64 a)) (.lit (.int .i64 10)) = some (.lit (.int .i64 (IntKind.i64.wrap (a.tdiv 10)))) := by rfl
theorem dig_one : ∀ n : Fin 10, bstr [((48 + n.val : Nat) : Int)] = dig n.val := by decide +kernel
theorem dig_sz (n : Nat) : (dig n).size = 1 := rfl
theorem decF_sz : ∀ (f n : Nat), (decF f n).size ≤ f
  | 0, _ => Nat.le_refl _
  | f + 1, n => by
    have := decF_sz f (n / 10)
    rw [decF]
    split
    · rw [dig_sz]; omega
    · rw [ByteArray.size_append, dig_sz]; omega
theorem decF_st : ∀ (f n : Nat), n < 10 ^ (f + 1) → decF (f + 2) n = decF (f + 1) n
  | 0, n, h => by
    have h : n < 10 := h
    show (if n < 10 then dig n else _) = (if n < 10 then dig n else _)
    rw [if_pos h, if_pos h]
  | f + 1, n, h => by
    have ih := decF_st f (n / 10) (by rw [Nat.div_lt_iff_lt_mul (by omega)]; rw [Nat.pow_succ] at h; exact h)
    rw [decF, ih, ← decF]
theorem dec_lt10 {n : Nat} (h : n < 10) : dec n = dig n := by rw [dec, decF, if_pos h]
theorem dec_step {n : Nat} (h : 10 ≤ n) (hn : n < 10 ^ 19) : dec n = dec (n / 10) ++ dig (n % 10) := by
  have : dec (n / 10) = decF 19 (n / 10) := decF_st 18 (n / 10) (by omega)
  rw [this, dec, decF, if_neg (by omega)]
theorem r_dec36 (n : Nat) (h : n < 9223372036854775808) : CallSpec cx 40 [i64 n] (str (dec n)) := by
  have hd : ∀ m : Nat, m < 9223372036854775808 → IntKind.i64.wrap ((m : Int).tdiv 10) = ((m / 10 : Nat) : Int) ∧ IntKind.i64.wrap ((m : Int) / 10) = ((m / 10 : Nat) : Int) ∧ IntKind.i64.wrap ((m : Int).tmod 10) = ((m % 10 : Nat) : Int) ∧ (m : Int).tmod 10 = ((m % 10 : Nat) : Int) := fun m hm => by
    have e1 : (m : Int).tdiv 10 = ((m / 10 : Nat) : Int) := by rw [Int.tdiv_eq_ediv_of_nonneg (by omega)]; omega
    have e2 : (m : Int) / 10 = ((m / 10 : Nat) : Int) := by omega
    have e3 : (m : Int).tmod 10 = ((m % 10 : Nat) : Int) := by rw [Int.tmod_eq_emod_of_nonneg (by omega)]; omega
    have e4 : (m : Int) % 10 = ((m % 10 : Nat) : Int) := by omega
    have w1 : IntKind.i64.wrap ((m / 10 : Nat) : Int) = ((m / 10 : Nat) : Int) := IntWalk.i64_in _ (by omega)
    have w2 : IntKind.i64.wrap ((m % 10 : Nat) : Int) = ((m % 10 : Nat) : Int) := IntWalk.i64_in _ (by omega)
    rw [e1, e2, e3, w1, w2]; exact ⟨rfl, rfl, rfl, rfl⟩
  have hw1 : ∀ m : Nat, m < 10 → IntKind.i64.wrap (48 + (m : Int)) = ((48 + m : Nat) : Int) := fun m hm => by rw [IntWalk.i64_in _ (by omega)]; omega
  have hw2 : ∀ m : Nat, m < 10 → IntKind.u8.wrap ((48 + m : Nat) : Int) = ((48 + m : Nat) : Int) := fun m hm => IntWalk.u8_in _ (by omega)
  have hE : ∀ m : Nat, m < 10 → bstr [((48 + m : Nat) : Int)] = dig m := fun m hm => dig_one ⟨m, hm⟩
  obtain ⟨a1, a2, a3, a4⟩ := hd n h
  have b := Nat.mod_lt n (show 10 > 0 by omega)
  refine callSpec_of_vc Tryz.func40 rfl (by decide) (by kernel_rfl) (Nat.le_of_ble_eq_true rfl) ?_
  try simp -dsimp (maxSteps := 9^9) (disch := first | omega | decide +kernel) only [↓bp0, bd0, bd_QA, reduceIte, Nat.reduceEqDiff, evStore, Nat.reduceAdd, Nat.reduceMul, Int.reduceEq, Int.reduceLT, Int.reduceLE, Nat.reduceLeDiff, List.reduceReplicate, reduceCtorEq, evRange, Nat.reduceLT, Tryz.f40, evR10, evQ10, a1, a2, a3, a4, hw1 _ b, cvI8w, cvBw, byteL, List.drop_zero, hw2 _ b, hE _ b, PV.cellsP]
  refine LoopQ.rule (fun m st => ∃ (k nx : Nat) (s : Str), k ≤ n ∧ s.size ≤ 20 ∧ ((k = 0 ∧ s = dec n) ∨ (0 < k ∧ dec k ++ s = dec n)) ∧ m = k ∧
    st = ⟨mkE [(0, i64 k), (3, str s)], mkS [], nx⟩) _ _ (weak_of ?_)
    ⟨n / 10, 1, dig (n % 10), Nat.div_le_self _ _, by rw [dig_sz]; omega, ?_, rfl, rfl⟩ ?_
  · first | (simp -dsimp (maxSteps := 9^9) (disch := first | omega | decide +kernel) only [↓bp0, bd0, bd_QA, reduceIte, Nat.reduceEqDiff, evStore, Nat.reduceAdd, Nat.reduceMul, Int.reduceEq, Int.reduceLT, Int.reduceLE, Nat.reduceLeDiff, List.reduceReplicate, reduceCtorEq, evRange, Nat.reduceLT, a1, a2, a3, a4, hw1 _ b, cvI8w, cvBw, byteL, List.drop_zero, hw2 _ b, hE _ b, PV.cellsP]; done) | simp -dsimp [evl, putN, i64, u32, bl, encL, encB, encLL, a1, a2, a3, a4, hw1 _ b, cvI8w, cvBw, byteL, List.drop_zero, hw2 _ b, hE _ b, PV.cellsP]
  · by_cases h10 : n < 10
    · exact .inl ⟨by omega, by rw [dec_lt10 h10, Nat.mod_eq_of_lt h10]⟩
    · exact .inr ⟨by omega, (dec_step (by omega) (by omega)).symm⟩
  rintro m st ⟨k, nx, s, hk, hs, hinv, hmk, rfl⟩
  obtain ⟨a1, a2, a3, a4⟩ := hd k (by omega)
  have b := Nat.mod_lt k (show 10 > 0 by omega)
  cases h0 : decide ((0 : Int) < (k : Int))
  · have h0' := of_decide_eq_false h0
    have hsn : s = dec n := by
      rcases hinv with ⟨_, h⟩ | ⟨h, _⟩
      · exact h
      · omega
    simp -dsimp (maxSteps := 9^9) (disch := first | omega | decide +kernel) only [↓bp0, bd0, bd_QA, reduceIte, Nat.reduceEqDiff, evStore, Nat.reduceAdd, Nat.reduceMul, Int.reduceEq, Int.reduceLT, Int.reduceLE, Nat.reduceLeDiff, List.reduceReplicate, reduceCtorEq, evRange, Nat.reduceLT, retQ, resL, finL, newL, flat, tupOf, List.toList_toArray, Tryz.f40, h0]
    rw [hsn]
    exact leT_one (le1.rfl' (p := str _)) (fun _ h => by cases h)
  · have h0' := of_decide_eq_true h0
    obtain ⟨hk0, hkd⟩ := hinv.resolve_left (fun h => by omega)
    have sA : ∀ {C : Ctx} {t : TypeId} {x y : Operand}, evBin C .add t x y (.lit (.string (dig (k % 10)))) (.lit (.string s)) = some (.lit (.string (dig (k % 10) ++ s))) := evBin_sadd (by rw [dig_sz]; omega)
    try simp -dsimp (maxSteps := 9^9) (disch := first | omega | decide +kernel) only [↓bp0, bd0, bd_QA, reduceIte, Nat.reduceEqDiff, evStore, Nat.reduceAdd, Nat.reduceMul, Int.reduceEq, Int.reduceLT, Int.reduceLE, Nat.reduceLeDiff, List.reduceReplicate, reduceCtorEq, evRange, Nat.reduceLT, h0, a1, a2, a3, a4, hw1 _ b, cvI8w, cvBw, byteL, List.drop_zero, hw2 _ b, hE _ b, PV.cellsP, sA, evR10, evQ10]
    have hsz : (dig (k % 10) ++ s).size ≤ 20 := by
      have h1 : (dec n).size ≤ 20 := decF_sz 20 n
      have h2 : (dec k).size = (decF 19 (k / 10)).size + 1 ∨ (dec k).size = 1 := by
        by_cases h10 : k < 10
        · rw [dec_lt10 h10]; exact .inr (dig_sz _)
        · rw [dec, decF, if_neg h10, ByteArray.size_append, dig_sz]; exact .inl rfl
      rw [← hkd, ByteArray.size_append] at h1
      rw [ByteArray.size_append, dig_sz]
      omega
    refine ⟨_, _, ?_, weak_of ?_, k / 10, nx + 1, dig (k % 10) ++ s, by omega, hsz, ?_, rfl, rfl⟩
    · omega
    · first | (simp -dsimp (maxSteps := 9^9) (disch := first | omega | decide +kernel) only [↓bp0, bd0, bd_QA, reduceIte, Nat.reduceEqDiff, evStore, Nat.reduceAdd, Nat.reduceMul, Int.reduceEq, Int.reduceLT, Int.reduceLE, Nat.reduceLeDiff, List.reduceReplicate, reduceCtorEq, evRange, Nat.reduceLT, a1, a2, a3, a4, hw1 _ b, cvI8w, cvBw, byteL, List.drop_zero, hw2 _ b, hE _ b, PV.cellsP, sA]; done) | simp -dsimp [evl, putN, i64, u32, bl, encL, encB, encLL, a1, a2, a3, a4, hw1 _ b, cvI8w, cvBw, byteL, List.drop_zero, hw2 _ b, hE _ b, PV.cellsP, sA]
    · by_cases h10 : k < 10
      · refine .inl ⟨by omega, ?_⟩
        rw [← hkd, dec_lt10 h10, Nat.mod_eq_of_lt h10]
      · refine .inr ⟨by omega, ?_⟩
        have e := dec_step (n := k) (by omega) (by omega)
        rw [← hkd, e, ByteArray.append_assoc]
/-! ### cutting at a byte -/
def newStrs (l : List Str) : PV := .new 1 (l.map fun s => [str s])
theorem scalSt {l : List Str} : scal (newStrs l) = true := by
  simp only [scal, scal1, newStrs, List.all_map, List.all_eq_true]
  intro x _; rfl
theorem flSq {l : List Str} : ((l.map fun s => [str s]).all fun e => e.all flat) = true := by
  rw [List.all_eq_true]; intro e he; obtain ⟨b, _, rfl⟩ := List.mem_map.1 he; rfl
def isAt (s : Str) (c : UInt8) (i : Nat) : Bool := if h : i < s.size then s[i]'h == c else true
def cutGo (s : Str) (c : UInt8) : Nat → List Str × Nat
  | 0 => ([], 0)
  | i + 1 => if isAt s c i then ((cutGo s c i).1 ++ [s.extract (cutGo s c i).2 i], i + 1) else cutGo s c i
def cutS (s : Str) (c : UInt8) : List Str := (cutGo s c (s.size + 1)).1
theorem cutGo_le (s : Str) (c : UInt8) : ∀ i, (cutGo s c i).2 ≤ i ∧ (cutGo s c i).1.length ≤ i
  | 0 => ⟨Nat.le_refl _, Nat.le_refl _⟩
  | i + 1 => by
    obtain ⟨h1, h2⟩ := cutGo_le s c i
    rw [cutGo]
    split
    · exact ⟨Nat.le_refl _, by simp; omega⟩
    · exact ⟨by omega, by omega⟩
theorem r_cut36 (s : Str) (c : UInt8) (hs : s.size ≤ 2^32) : CallSpec cx 39 [str s, u8 c.toNat] (newStrs (cutS s c)) := by
  refine callSpec_of_vc Tryz.func39 rfl (by decide) (by kernel_rfl) (Nat.le_of_ble_eq_true rfl) ?_
  try simp -dsimp (maxSteps := 9^9) (disch := first | omega | decide +kernel) only [↓bp0, bd0, bd_QA, reduceIte, Nat.reduceEqDiff, evStore, Nat.reduceAdd, Nat.reduceMul, Int.reduceEq, Int.reduceLT, Int.reduceLE, Nat.reduceLeDiff, List.reduceReplicate, reduceCtorEq, evRange, Nat.reduceLT, Tryz.f39]
  refine LoopQ.ghost 5 1 (by rfl) ?_
  refine LoopQ.rule (fun m st => ∃ (i id ver nx : Nat), i ≤ s.size + 1 ∧ id < nx ∧ m = s.size + 1 - i ∧
    st = ⟨mkE [(0, str s), (1, u8 c.toNat), (5, .own id ver 0 (cutGo s c i).1.length false), (6, i64 (cutGo s c i).2), (7, i64 i)], mkS [(id, .row ver 1 ((cutGo s c i).1.map fun s => [str s]) false)], nx⟩) _ _ (weak_of ?_)
    ⟨0, 0, 0, 1, by omega, by omega, rfl, rfl⟩ ?_
  · first | (simp -dsimp (maxSteps := 9^9) (disch := first | omega | decide +kernel) only [↓bp0, bd0, bd_QA, reduceIte, Nat.reduceEqDiff, evStore, Nat.reduceAdd, Nat.reduceMul, Int.reduceEq, Int.reduceLT, Int.reduceLE, Nat.reduceLeDiff, List.reduceReplicate, reduceCtorEq, evRange, Nat.reduceLT, ghR, cutGo, List.map_nil, List.length_nil]; done) | simp -dsimp [evl, putN, i64, u32, bl, encL, encB, encLL, ghR, cutGo, List.map_nil, List.length_nil]
  rintro m st ⟨i, id, ver, nx, hi, hid, rfl, rfl⟩
  have hE1_0a : (id = nx) = False := by simp; omega
  have hE1_0b : (nx = id) = False := by simp; omega
  obtain ⟨g1, g2⟩ := cutGo_le s c i
  cases h1 : decide ((i : Int) ≤ (s.size : Int))
  · have h1' := of_decide_eq_false h1
    have hi' : i = s.size + 1 := by omega
    subst hi'
    have hT : List.take (cutGo s c (s.size + 1)).1.length ((cutGo s c (s.size + 1)).1.map fun s => [PV.lit (.string s)]) = (cutGo s c (s.size + 1)).1.map fun s => [PV.lit (.string s)] := List.take_of_length_le (by rw [List.length_map]; omega)
    simp -dsimp (maxSteps := 9^9) (disch := first | omega | decide +kernel) only [↓bp0, bd0, bd_QA, reduceIte, Nat.reduceEqDiff, evStore, Nat.reduceAdd, Nat.reduceMul, Int.reduceEq, Int.reduceLT, Int.reduceLE, Nat.reduceLeDiff, List.reduceReplicate, reduceCtorEq, evRange, Nat.reduceLT, retQ, resL, finL, newL, flat, tupOf, List.toList_toArray, Tryz.f39, h1, hT, flSq, hE1_0a, hE1_0b]
    exact leT_one .rfl' (by simp)
  have h1' := of_decide_eq_true h1
  have hE : cutGo s c (i + 1) = if isAt s c i then ((cutGo s c i).1 ++ [s.extract (cutGo s c i).2 i], i + 1) else cutGo s c i := rfl
  have hbd : ((cutGo s c i).1.length + 1) * 16 ≤ 140737488355328 := by omega
  have hsl : ((cutGo s c i).2 ≤ i) = True := by simp [g1]
  have hsl2 : (i ≤ s.size) = True := by simp; omega
  cases h2 : decide ((i : Int) = (s.size : Int))
  · have h2' := of_decide_eq_false h2
    have hlt : i < s.size := by omega
    have hx := evIdx_si hlt
    cases h3 : decide (((s[i]'hlt).toNat : Int) = (c.toNat : Int))
    · have h3' := of_decide_eq_false h3
      have hat : isAt s c i = false := by
        rw [isAt, dif_pos hlt, beq_eq_false_iff_ne]
        intro e; exact h3' (by rw [e])
      rw [hat, if_neg (by simp)] at hE
      try simp -dsimp (maxSteps := 9^9) (disch := first | omega | decide +kernel) only [↓bp0, bd0, bd_QA, reduceIte, Nat.reduceEqDiff, evStore, Nat.reduceAdd, Nat.reduceMul, Int.reduceEq, Int.reduceLT, Int.reduceLE, Nat.reduceLeDiff, List.reduceReplicate, reduceCtorEq, evRange, Nat.reduceLT, h1, h2, h3, hx, hE1_0a, hE1_0b]
      refine ⟨_, _, ?_, weak_of ?_, i + 1, id, ver, nx, by omega, hid, rfl, rfl⟩
      · omega
      · rw [hE]
        first | (simp -dsimp (maxSteps := 9^9) (disch := first | omega | decide +kernel) only [↓bp0, bd0, bd_QA, reduceIte, Nat.reduceEqDiff, evStore, Nat.reduceAdd, Nat.reduceMul, Int.reduceEq, Int.reduceLT, Int.reduceLE, Nat.reduceLeDiff, List.reduceReplicate, reduceCtorEq, evRange, Nat.reduceLT, hE1_0a, hE1_0b, wrapS (show i < s.size + 1 by omega) (show s.size + 1 ≤ 9223372036854775807 by omega)]; done) | simp -dsimp [evl, putN, i64, u32, bl, encL, encB, encLL, hE1_0a, hE1_0b, wrapS (show i < s.size + 1 by omega) (show s.size + 1 ≤ 9223372036854775807 by omega)]
    · have h3' := of_decide_eq_true h3
      have hat : isAt s c i = true := by
        rw [isAt, dif_pos hlt, beq_iff_eq]
        exact UInt8.toNat_inj.1 (by omega)
      rw [hat, if_pos rfl] at hE
      generalize cutGo s c i = q at *
      obtain ⟨O, f⟩ := q
      simp only at *
      try simp -dsimp (maxSteps := 9^9) (disch := first | omega | decide +kernel) only [↓bp0, bd0, bd_QA, reduceIte, Nat.reduceEqDiff, evStore, Nat.reduceAdd, Nat.reduceMul, Int.reduceEq, Int.reduceLT, Int.reduceLE, Nat.reduceLeDiff, List.reduceReplicate, reduceCtorEq, evRange, Nat.reduceLT, h1, h2, h3, hx, evSlice, slc, hsl, hsl2, hbd, List.length_map, hE1_0a, hE1_0b]
      refine ⟨_, _, ?_, weak_of ?_, i + 1, id, ver + 1, nx + 1, by omega, by omega, rfl, rfl⟩
      · omega
      · rw [hE]
        first | (simp -dsimp (maxSteps := 9^9) (disch := first | omega | decide +kernel) only [↓bp0, bd0, bd_QA, reduceIte, Nat.reduceEqDiff, evStore, Nat.reduceAdd, Nat.reduceMul, Int.reduceEq, Int.reduceLT, Int.reduceLE, Nat.reduceLeDiff, List.reduceReplicate, reduceCtorEq, evRange, Nat.reduceLT, hE1_0a, hE1_0b, wrapS (show i < s.size + 1 by omega) (show s.size + 1 ≤ 9223372036854775807 by omega), List.map_append, List.map_cons, List.map_nil, List.length_append, List.length_cons, List.length_nil]; done) | simp -dsimp [evl, putN, i64, u32, bl, encL, encB, encLL, hE1_0a, hE1_0b, wrapS (show i < s.size + 1 by omega) (show s.size + 1 ≤ 9223372036854775807 by omega), List.map_append, List.map_cons, List.map_nil, List.length_append, List.length_cons, List.length_nil]
  · have h2' := of_decide_eq_true h2
    have hat : isAt s c i = true := by rw [isAt, dif_neg (by omega)]
    rw [hat, if_pos rfl] at hE
    generalize cutGo s c i = q at *
    obtain ⟨O, f⟩ := q
    simp only at *
    try simp -dsimp (maxSteps := 9^9) (disch := first | omega | decide +kernel) only [↓bp0, bd0, bd_QA, reduceIte, Nat.reduceEqDiff, evStore, Nat.reduceAdd, Nat.reduceMul, Int.reduceEq, Int.reduceLT, Int.reduceLE, Nat.reduceLeDiff, List.reduceReplicate, reduceCtorEq, evRange, Nat.reduceLT, h1, h2, evSlice, slc, hsl, hsl2, hbd, List.length_map, hE1_0a, hE1_0b]
    refine ⟨_, _, ?_, weak_of ?_, i + 1, id, ver + 1, nx + 1, by omega, by omega, rfl, rfl⟩
    · omega
    · rw [hE]
      first | (simp -dsimp (maxSteps := 9^9) (disch := first | omega | decide +kernel) only [↓bp0, bd0, bd_QA, reduceIte, Nat.reduceEqDiff, evStore, Nat.reduceAdd, Nat.reduceMul, Int.reduceEq, Int.reduceLT, Int.reduceLE, Nat.reduceLeDiff, List.reduceReplicate, reduceCtorEq, evRange, Nat.reduceLT, hE1_0a, hE1_0b, wrapS (show i < s.size + 1 by omega) (show s.size + 1 ≤ 9223372036854775807 by omega), List.map_append, List.map_cons, List.map_nil, List.length_append, List.length_cons, List.length_nil]; done) | simp -dsimp [evl, putN, i64, u32, bl, encL, encB, encLL, hE1_0a, hE1_0b, wrapS (show i < s.size + 1 by omega) (show s.size + 1 ≤ 9223372036854775807 by omega), List.map_append, List.map_cons, List.map_nil, List.length_append, List.length_cons, List.length_nil]
end Go.Ab
end

section
/- Lines and their words in plain terms. -/
set_option maxRecDepth 1000000
set_option maxHeartbeats 8000000
namespace Go.Ab
open Go Go.Proofs
def noC (w : Str) (c : UInt8) : Prop := ∀ b ∈ w.data.toList, b ≠ c
theorem noC_app {a b : Str} {c : UInt8} (ha : noC a c) (hb : noC b c) : noC (a ++ b) c := fun x hx => by
  rw [ByteArray.data_append, Array.toList_append, List.mem_append] at hx
  rcases hx with h | h
  · exact ha x h
  · exact hb x h
theorem noC_at {w : Str} {c : UInt8} (h : noC w c) (i : Nat) (hi : i < w.size) : w[i]'hi ≠ c :=
  h _ (Array.mem_toList_iff.2 (Array.getElem_mem (xs := w.data) (i := i) hi))
theorem isAt_no {w : Str} {c : UInt8} (h : noC w c) {i : Nat} (hi : i < w.size) (Y : Str) : isAt (w ++ Y) c i = false := by
  have h2 : i < (w ++ Y).size := by rw [ByteArray.size_append]; omega
  rw [isAt, dif_pos h2, ByteArray.getElem_append_left hi]
  exact beq_eq_false_iff_ne.2 (noC_at h i hi)
theorem isAt_right {P X : Str} {c : UInt8} (k : Nat) : isAt (P ++ X) c (P.size + k) = isAt X c k := by
  unfold isAt
  by_cases h : k < X.size
  · have h2 : P.size + k < (P ++ X).size := by rw [ByteArray.size_append]; omega
    rw [dif_pos h2, dif_pos h, ByteArray.getElem_append_right (by omega)]
    have : P.size + k - P.size = k := by omega
    simp only [this]
  · rw [dif_neg (by rw [ByteArray.size_append]; omega), dif_neg h]
theorem cut_gen {s w : Str} {c : UInt8} {o : List Str} {p : Nat} (ho : cutGo s c p = (o, p)) (hk : ∀ k, k < w.size → isAt s c (p + k) = false) (he : s.extract p (p + w.size) = w) (ha : isAt s c (p + w.size) = true) : cutGo s c (p + w.size + 1) = (o ++ [w], p + w.size + 1) := by
  have h : ∀ k, k ≤ w.size → cutGo s c (p + k) = (o, p) := fun k => by
    induction k with
    | zero => intro _; exact ho
    | succ k ih =>
      intro h
      rw [← Nat.add_assoc, cutGo, hk k (by omega), if_neg (by simp)]
      exact ih (by omega)
  rw [cutGo, ha, if_pos rfl, h _ (Nat.le_refl _), he]
def endC (c : UInt8) : Str := ⟨#[c]⟩
theorem cut_words {c : UInt8} {z : Str} (hz : noC z c) : ∀ (ws : List Str) (P : Str) (o : List Str) (s : Str), (∀ w ∈ ws, noC w c) → s = P ++ (catS (ws.map (· ++ endC c)) ++ z) → cutGo s c P.size = (o, P.size) → (cutGo s c (s.size + 1)).1 = o ++ ws ++ [z]
  | [], P, o, s, _, hs, ho => by
    have e : s = P ++ z := by
      rw [hs, List.map_nil, catS]; congr 1
    have hz' : s.size = P.size + z.size := by rw [e, ByteArray.size_append]
    have := cut_gen (w := z) ho (fun k hk => by
      rw [e, isAt_right]
      have := isAt_no hz hk ⟨#[]⟩
      rwa [show z ++ (⟨#[]⟩ : Str) = z from by apply ByteArray.ext; simp] at this) (by
      rw [e]
      have := ByteArray.extract_append_size_add (a := P) (b := z) (i := 0) (j := z.size)
      rw [Nat.add_zero] at this
      rw [this]; exact ByteArray.extract_zero_size) (by rw [isAt, dif_neg (by omega)])
    rw [hz', this, List.append_nil]
  | w :: r, P, o, s, hw, hs, ho => by
    have hw1 := hw w (by simp)
    have e : s = P ++ (w ++ (endC c ++ (catS (r.map (· ++ endC c)) ++ z))) := by
      rw [hs, List.map_cons, catS]; simp only [ByteArray.append_assoc]
    have e2 : s = (P ++ (w ++ endC c)) ++ (catS (r.map (· ++ endC c)) ++ z) := by
      rw [e]; simp only [ByteArray.append_assoc]
    have hP : (P ++ (w ++ endC c)).size = P.size + w.size + 1 := by
      rw [ByteArray.size_append, ByteArray.size_append]; rfl
    have := cut_gen (w := w) ho (fun k hk => by rw [e, isAt_right]; exact isAt_no hw1 hk _) (by
      rw [e]
      have := ByteArray.extract_append_size_add (a := P) (b := w ++ (endC c ++ (catS (r.map (· ++ endC c)) ++ z))) (i := 0) (j := w.size)
      rw [Nat.add_zero] at this
      rw [this]; exact ByteArray.extract_append_eq_left rfl) (by
      rw [e, isAt_right]
      have := isAt_right (P := w) (X := endC c ++ (catS (r.map (· ++ endC c)) ++ z)) (c := c) 0
      rw [Nat.add_zero] at this
      rw [this, isAt, dif_pos (by rw [ByteArray.size_append]; show 0 < 1 + _; omega), ByteArray.getElem_append_left (by show 0 < 1; omega)]
      exact beq_iff_eq.2 rfl)
    have ih := cut_words hz r (P ++ (w ++ endC c)) (o ++ [w]) s (fun x hx => hw x (by simp [hx])) e2 (by rw [hP]; exact this)
    rw [ih]; simp
theorem cutS_words {c : UInt8} {z : Str} {ws : List Str} (hz : noC z c) (hw : ∀ w ∈ ws, noC w c) : cutS (catS (ws.map (· ++ endC c)) ++ z) c = ws ++ [z] := by
  have e : catS (ws.map (· ++ endC c)) ++ z = (⟨#[]⟩ : Str) ++ (catS (ws.map (· ++ endC c)) ++ z) := by apply ByteArray.ext; simp
  exact cut_words hz ws ⟨#[]⟩ [] _ hw e rfl
/-! ### the lines of notes -/
def sCame : Str := ⟨#[99, 97, 109, 101]⟩
def sWent : Str := ⟨#[119, 101, 110, 116]⟩
def cWs (n : Nt) : List Str := [sCame, dec n.cls.toNat, n.chg]
def wWs (n : Nt) : List Str := if 0 ≤ n.pl then [sWent, dec n.cls.toNat, n.chg] else [sWent, dec n.cls.toNat]
def wZ (n : Nt) : Str := if 0 ≤ n.pl then wordS n.kind else n.chg
def cbody (n : Nt) : Str := catS ((cWs n).map (· ++ endC 32)) ++ wordS n.kind
def wbody (n : Nt) : Str := catS ((wWs n).map (· ++ endC 32)) ++ wZ n
theorem app_nil (a : Str) : a ++ (⟨#[]⟩ : Str) = a := by apply ByteArray.ext; simp
theorem cline_body (n : Nt) : cline n = cbody n ++ endC 10 := by
  have e : bCame = sCame ++ endC 32 := rfl
  have e2 : bSp = endC 32 := rfl
  have e3 : bNl = endC 10 := rfl
  rw [cline, cbody, e, e2, e3]
  simp only [cWs, List.map_cons, List.map_nil, catS, app_nil, ByteArray.append_assoc]
theorem wline_body (n : Nt) : wline n = wbody n ++ endC 10 := by
  have e : bWent = sWent ++ endC 32 := rfl
  have e2 : bSp = endC 32 := rfl
  have e3 : bNl = endC 10 := rfl
  rw [wline, whead, wmid, wbody, wWs, wZ, e, e2, e3]
  split
  · simp only [List.map_cons, List.map_nil, catS, app_nil, ByteArray.append_assoc]
  · simp only [List.map_cons, List.map_nil, catS, app_nil, ByteArray.append_assoc]
structure NtNm (n : Nt) : Prop extends NtOk n where
  nm : nameB n.chg = true
theorem noC_name {s : Str} (h : nameB s = true) : noC s 32 ∧ noC s 10 := by
  have h2 : ∀ b ∈ s.data.toList, nameC b = true := by
    unfold nameB at h
    rw [Bool.and_eq_true] at h
    have h3 := h.2
    split at h3
    · cases h3
    · rename_i c r e
      rw [Bool.and_eq_true, List.all_eq_true] at h3
      intro b hb
      rw [e] at hb
      rcases List.mem_cons.1 hb with rfl | hb
      · unfold nameC; rw [h3.1]; rfl
      · exact h3.2 b hb
  exact ⟨fun b hb e => by have := h2 b hb; rw [e] at this; revert this; decide, fun b hb e => by have := h2 b hb; rw [e] at this; revert this; decide⟩
theorem noC_dec : ∀ n : Fin 30, noC (dec n.val) 32 ∧ noC (dec n.val) 10 := by unfold noC; decide +kernel
theorem noC_word (k : Int) : noC (wordS k) 32 ∧ noC (wordS k) 10 := by
  unfold wordS noC
  repeat' split
  all_goals decide
theorem noC_came : noC sCame 32 ∧ noC sCame 10 := by unfold noC; decide
theorem noC_went : noC sWent 32 ∧ noC sWent 10 := by unfold noC; decide
theorem noC_sp : noC (endC 32) 10 := by unfold noC; decide
theorem noC_catS {c : UInt8} : ∀ L : List Str, (∀ a ∈ L, noC a c) → noC (catS L) c
  | [], _ => by intro b hb; simp [catS] at hb
  | a :: r, h => by rw [catS]; exact noC_app (h a (by simp)) (noC_catS r fun b hb => h b (by simp [hb]))
theorem cWs_no {n : Nt} (h : NtNm n) : ∀ w ∈ cWs n, noC w 32 ∧ noC w 10 := fun w hw => by
  have hc := h.cls
  simp only [cWs, List.mem_cons, List.not_mem_nil, or_false] at hw
  rcases hw with rfl | rfl | rfl
  · exact noC_came
  · exact noC_dec ⟨n.cls.toNat, by omega⟩
  · exact noC_name h.nm
theorem wWs_no {n : Nt} (h : NtNm n) : ∀ w ∈ wWs n, noC w 32 ∧ noC w 10 := fun w hw => by
  have hc := h.cls
  unfold wWs at hw
  split at hw
  · simp only [List.mem_cons, List.not_mem_nil, or_false] at hw
    rcases hw with rfl | rfl | rfl
    · exact noC_went
    · exact noC_dec ⟨n.cls.toNat, by omega⟩
    · exact noC_name h.nm
  · simp only [List.mem_cons, List.not_mem_nil, or_false] at hw
    rcases hw with rfl | rfl
    · exact noC_went
    · exact noC_dec ⟨n.cls.toNat, by omega⟩
theorem wZ_no {n : Nt} (h : NtNm n) : noC (wZ n) 32 ∧ noC (wZ n) 10 := by
  unfold wZ
  split
  · exact noC_word _
  · exact noC_name h.nm
theorem cbody_no {n : Nt} (h : NtNm n) : noC (cbody n) 10 := by
  refine noC_app (noC_catS _ fun a ha => ?_) (noC_word _).2
  obtain ⟨w, hw, rfl⟩ := List.mem_map.1 ha
  exact noC_app (cWs_no h w hw).2 noC_sp
theorem wbody_no {n : Nt} (h : NtNm n) : noC (wbody n) 10 := by
  refine noC_app (noC_catS _ fun a ha => ?_) (wZ_no h).2
  obtain ⟨w, hw, rfl⟩ := List.mem_map.1 ha
  exact noC_app (wWs_no h w hw).2 noC_sp
theorem cut_cbody {n : Nt} (h : NtNm n) : cutS (cbody n) 32 = cWs n ++ [wordS n.kind] := cutS_words (noC_word _).1 fun w hw => (cWs_no h w hw).1
theorem cut_wbody {n : Nt} (h : NtNm n) : cutS (wbody n) 32 = wWs n ++ [wZ n] := cutS_words (wZ_no h).1 fun w hw => (wWs_no h w hw).1
def bodies (X Y : List Nt) : List Str := X.map cbody ++ Y.map wbody
theorem cut_text {X Y : List Nt} (hX : ∀ n ∈ X, NtNm n) (hY : ∀ n ∈ Y, NtNm n) : cutS (catS (X.map cline ++ Y.map wline)) 10 = bodies X Y ++ [⟨#[]⟩] := by
  have e : X.map cline ++ Y.map wline = (bodies X Y).map (· ++ endC 10) := by
    rw [bodies, List.map_append, List.map_map, List.map_map]
    congr 1
    · exact List.map_congr_left fun n _ => cline_body n
    · exact List.map_congr_left fun n _ => wline_body n
  rw [e, ← app_nil (catS _)]
  refine cutS_words (by intro b hb; simp at hb) fun w hw => ?_
  rcases List.mem_append.1 hw with h | h
  · obtain ⟨n, hn, rfl⟩ := List.mem_map.1 h
    exact cbody_no (hX n hn)
  · obtain ⟨n, hn, rfl⟩ := List.mem_map.1 h
    exact wbody_no (hY n hn)
theorem lastsF_nm {l : Ldg} {n : Str} (h : (lview l n).2 = 0) {cs : List Int} {t : Nt} (ht : t ∈ lastsF (clsI l.known) (evV l n) cs) : NtNm t := by
  refine ⟨lastsF_ok h ht, ?_⟩
  obtain ⟨hok, _⟩ := lview_ok h
  obtain ⟨i, hi, rfl⟩ := List.mem_map.1 ht
  have hil := List.mem_range.1 (List.mem_filter.1 hi).1
  obtain ⟨e, hx, hxm⟩ := get_of_lt hil
  obtain ⟨_, h2⟩ := evV_ok h hxm
  obtain ⟨v, hv⟩ := Option.isSome_iff_exists.1 h2
  obtain ⟨k, k1, k2, _⟩ := clsOf_mem hv
  have k3 := List.any_eq_false.1 hok.kw k k1
  unfold kwB at k3
  simp only [Bool.or_eq_true, Bool.not_eq_true', decide_eq_true_eq, not_or, Bool.not_eq_false] at k3
  rw [ntAt, hx]
  rw [k2] at k3
  exact k3.1.1
theorem notes_nm {l : Ldg} {a b : Str} (ha : (lview l a).2 = 0) (hb : (lview l b).2 = 0) :
    (∀ n ∈ (nnews l a b).1, NtNm n) ∧ (∀ n ∈ (ngone l a b).1, NtNm n) ∧ (nnews l a b).2 = 0 ∧ (ngone l a b).2 = 0 ∧ (nnews l a b).1.length ≤ 2^20 ∧ (ngone l a b).1.length ≤ 2^22 ∧ ntext l a b = (catS ((nnews l a b).1.map cline ++ (ngone l a b).1.map wline), 0) := by
  have d1 := ldiff_of ha hb
  have e1 : nnews l a b = (lastsF (clsI l.known) (evV l b) (onlyL (cls0 l.known) (evV l b) (evV l a)), 0) := by rw [nnews, d1]; simp
  have e2 : ngone l a b = (srtN (goneO (clsI l.known) (evV l a) (evV l b) (onlyL (cls0 l.known) (evV l a) (evV l b))) ++ lastsF (clsI l.known) (evV l b) (onlyL (cls0 l.known) (evV l a) (evV l b)), 0) := by rw [ngone, d1]; simp
  have hlA := evV_len ha
  have hlB := evV_len hb
  have ht : ntext l a b = (catS ((nnews l a b).1.map cline ++ (ngone l a b).1.map wline), 0) := by rw [ntext, d1]; simp
  refine ⟨fun n hn => ?_, fun n hn => ?_, by rw [e1], by rw [e2], ?_, ?_, ht⟩
  · rw [e1] at hn; exact lastsF_nm hb hn
  · rw [e2] at hn
    rcases List.mem_append.1 hn with h | h
    · have h' := (srtN_perm _).mem_iff.1 h
      obtain ⟨t, ht, rfl⟩ := List.mem_map.1 h'
      have := lastsF_nm ha ht
      exact ⟨neg_ok this.toNtOk, this.nm⟩
    · exact lastsF_nm hb h
  · rw [e1]; have := lastsF_len (f := clsI l.known) (v := evV l b) (cs := onlyL (cls0 l.known) (evV l b) (evV l a)); simp only; omega
  · rw [e2, List.length_append, srtN_len, goneO, List.length_map]
    have h1 := lastsF_len (f := clsI l.known) (v := evV l b) (cs := onlyL (cls0 l.known) (evV l a) (evV l b))
    have h2 := lastsF_len (f := clsI l.known) (v := evV l a) (cs := keepN (lastsF (clsI l.known) (evV l b) (onlyL (cls0 l.known) (evV l a) (evV l b))) (onlyL (cls0 l.known) (evV l a) (evV l b)))
    omega
theorem cbody_size {n : Nt} (h : NtOk n) : (cbody n).size ≤ 60 := by
  have := cline_size h
  rw [cline_body, ByteArray.size_append] at this
  omega
theorem wbody_size {n : Nt} (h : NtOk n) : (wbody n).size ≤ 60 := by
  have := wline_size h
  rw [wline_body, ByteArray.size_append] at this
  omega
end Go.Ab
end

section
/- NotesLines. -/
set_option maxRecDepth 1000000
set_option maxHeartbeats 16000000
namespace Go.Ab
open Go Go.Proofs Go.Sort
theorem bd_QC : type_of% (And.intro @evNext.eq_1 (And.intro @fld (And.intro @nit (And.intro @nxE (And.intro @ghR (And.intro @ovR (And.intro @evBin_seql (And.intro @evBin_sneq (And.intro @str.eq_1 (And.intro @u8.eq_1 (And.intro @encBrs.eq_1 (And.intro @cBr.eq_1 (And.intro @encLdg.eq_1 (And.intro @encKws.eq_1 (And.intro @cKw.eq_1 (And.intro @encEvss.eq_1 (And.intro @encEvs.eq_1 (And.intro @cEv.eq_1 (And.intro @encMks.eq_1 (And.intro @cMk.eq_1 (And.intro @encStrs.eq_1 (And.intro @tk2 (And.intro @tk3 (And.intro @List.set_cons_succ.{0} (And.intro @List.getElem?_cons_zero.{0} (And.intro @List.getElem?_cons_succ.{0} (@List.length_set.{0}))))))))))))))))))))))))))) := And.intro @evNext.eq_1 (And.intro @fld (And.intro @nit (And.intro @nxE (And.intro @ghR (And.intro @ovR (And.intro @evBin_seql (And.intro @evBin_sneq (And.intro @str.eq_1 (And.intro @u8.eq_1 (And.intro @encBrs.eq_1 (And.intro @cBr.eq_1 (And.intro @encLdg.eq_1 (And.intro @encKws.eq_1 (And.intro @cKw.eq_1 (And.intro @encEvss.eq_1 (And.intro @encEvs.eq_1 (And.intro @cEv.eq_1 (And.intro @encMks.eq_1 (And.intro @cMk.eq_1 (And.intro @encStrs.eq_1 (And.intro @tk2 (And.intro @tk3 (And.intro @List.set_cons_succ.{0} (And.intro @List.getElem?_cons_zero.{0} (And.intro @List.getElem?_cons_succ.{0} (@List.length_set.{0}))))))))))))))))))))))))))
theorem evBn {x y : Operand} {a b : Bool} : evBin cx .neq 4 x y (.lit (.bool a)) (.lit (.bool b)) = some (.lit (.bool (a != b))) := by
  cases a <;> cases b <;> kernel_rfl
theorem l_LinesG (X Y : List Nt) (hX : ∀ n ∈ X, NtNm n) (hY : ∀ n ∈ Y, NtNm n) (hXl : X.length ≤ 2^20) (hYl : Y.length ≤ 2^22) (l : Ldg) (a b : Str) (hz : LSz l) (hn : LNm l) (hg : grt29 l = false)
    (cG : CallSpec cx 32 [encLdg l] (bl (grt29 l)))
    (c1 : decide ((100 : Int) < (a.size : Int)) = false) (c2 : decide ((100 : Int) < (b.size : Int)) = false) (h0 : decide (bothE l a b = 0) = true)
    (k1 : CallSpec cx 35 [encLdg l, str a, str b] (.tup [newNts X, i64 0]))
    (k2 : CallSpec cx 36 [encLdg l, str a, str b] (.tup [newNts Y, i64 0]))
    (k3 : CallSpec cx 37 [encLdg l, str a, str b] (.tup [str (catS (X.map cline ++ Y.map wline)), i64 0])) :
    CallSpec cx 8 [encLdg l, str a, str b] (bl true) := by
  have hsz : (catS (X.map cline ++ Y.map wline)).size ≤ 2^32 := by
    have := catS_size (m := 60) (X.map cline ++ Y.map wline) fun s hs => by
      rcases List.mem_append.1 hs with h | h
      · obtain ⟨n, hn, rfl⟩ := List.mem_map.1 h
        exact cline_size (hX n hn).toNtOk
      · obtain ⟨n, hn, rfl⟩ := List.mem_map.1 h
        exact wline_size (hY n hn).toNtOk
    rw [List.length_append, List.length_map, List.length_map] at this
    omega
  have k4 := r_cut36 _ 10 hsz
  rw [cut_text hX hY] at k4
  have hT : (10 : UInt8).toNat = 10 := rfl
  rw [hT] at k4
  have hBl : (bodies X Y).length = X.length + Y.length := by rw [bodies, List.length_append, List.length_map, List.length_map]
  have hw0 : IntKind.i64.wrap ((X.length : Int) + (Y.length : Int)) = ((X.length + Y.length : Nat) : Int) := by rw [IntWalk.i64_in _ (by omega)]; omega
  have hw1 : IntKind.i64.wrap (((X.length + Y.length : Nat) : Int) + 1) = ((X.length + Y.length + 1 : Nat) : Int) := by rw [IntWalk.i64_in _ (by omega)]; omega
  have hw2 : IntKind.i64.wrap (((X.length + Y.length + 1 : Nat) : Int) - 1) = ((X.length + Y.length : Nat) : Int) := by rw [IntWalk.i64_in _ (by omega)]; omega
  have hend : (bodies X Y ++ [(⟨#[]⟩ : Str)])[X.length + Y.length]? = some ⟨#[]⟩ := by rw [← hBl]; simp
  have hLl : (bodies X Y ++ [(⟨#[]⟩ : Str)]).length = X.length + Y.length + 1 := by rw [List.length_append, hBl]; rfl
  have hAt1 : ∀ (i : Nat) (n : Nt), X[i]? = some n → (bodies X Y ++ [(⟨#[]⟩ : Str)])[i]? = some (cbody n) := fun i n hx => by
    have hx' := (List.getElem?_eq_some_iff.1 hx).1
    rw [bodies, List.append_assoc, List.getElem?_append_left (by rw [List.length_map]; exact hx'), List.getElem?_map, hx]; rfl
  have hAt2 : ∀ (i : Nat) (n : Nt), X.length ≤ i → Y[i - X.length]? = some n → (bodies X Y ++ [(⟨#[]⟩ : Str)])[i]? = some (wbody n) := fun i n hi hx => by
    have hx' := (List.getElem?_eq_some_iff.1 hx).1
    rw [bodies, List.append_assoc, List.getElem?_append_right (by rw [List.length_map]; omega), List.length_map, List.getElem?_append_left (by rw [List.length_map]; omega), List.getElem?_map, hx]; rfl
  generalize bodies X Y ++ [(⟨#[]⟩ : Str)] = L at k4 hend hLl hAt1 hAt2
  refine callSpec_of_vc Tryz.func8 rfl (by decide) (by kernel_rfl) (Nat.le_of_ble_eq_true rfl) ?_
  try simp -dsimp (maxSteps := 20000000) (disch := first | omega | decide +kernel) only [↓bp0, bd0, bd_QC, reduceIte, Nat.reduceEqDiff, evStore, Nat.reduceAdd, Nat.reduceMul, Int.reduceEq, Int.reduceLT, Int.reduceLE, Nat.reduceLeDiff, List.reduceReplicate, reduceCtorEq, evRange, cNt, tk4, Nat.reduceLT, Tryz.f8]
  refine CallQ.imm (v_alive) (by rfl) (by first | rfl | (simp -dsimp (maxSteps := 20000000) (disch := first | omega | decide +kernel) only [↓bp0, bd0, bd_QC, reduceIte, Nat.reduceEqDiff, evStore, Nat.reduceAdd, Nat.reduceMul, Int.reduceEq, Int.reduceLT, Int.reduceLE, Nat.reduceLeDiff, List.reduceReplicate, reduceCtorEq, evRange, cNt, tk4, Nat.reduceLT, drcs, drc, flat]; done) | simp -dsimp [evl, drcs, drc, flat, i64, u32, bl, encL, encB, encLL]) (by first | exact .inl rfl | exact .inr rfl | exact .inr scalB | exact .inr scalI | exact .inr scalT | exact .inr scalM | exact .inr scalMT | exact .inr scalE | exact .inr scalET | exact .inr scalN | exact .inr scalNT | exact .inr scalSt) ?_
  try simp -dsimp (maxSteps := 20000000) (disch := first | omega | decide +kernel) only [↓bp0, bd0, bd_QC, reduceIte, Nat.reduceEqDiff, evStore, Nat.reduceAdd, Nat.reduceMul, Int.reduceEq, Int.reduceLT, Int.reduceLE, Nat.reduceLeDiff, List.reduceReplicate, reduceCtorEq, evRange, cNt, tk4, Nat.reduceLT]
  refine CallQ.imm (cG) (by rfl) (by first | rfl | (simp -dsimp (maxSteps := 20000000) (disch := first | omega | decide +kernel) only [↓bp0, bd0, bd_QC, reduceIte, Nat.reduceEqDiff, evStore, Nat.reduceAdd, Nat.reduceMul, Int.reduceEq, Int.reduceLT, Int.reduceLE, Nat.reduceLeDiff, List.reduceReplicate, reduceCtorEq, evRange, cNt, tk4, Nat.reduceLT, drcs, drc, flat]; done) | simp -dsimp [evl, drcs, drc, flat, i64, u32, bl, encL, encB, encLL]) (by first | exact .inl rfl | exact .inr rfl | exact .inr scalB | exact .inr scalI | exact .inr scalT | exact .inr scalM | exact .inr scalMT | exact .inr scalE | exact .inr scalET | exact .inr scalN | exact .inr scalNT | exact .inr scalSt) ?_
  try simp -dsimp (maxSteps := 20000000) (disch := first | omega | decide +kernel) only [↓bp0, bd0, bd_QC, reduceIte, Nat.reduceEqDiff, evStore, Nat.reduceAdd, Nat.reduceMul, Int.reduceEq, Int.reduceLT, Int.reduceLE, Nat.reduceLeDiff, List.reduceReplicate, reduceCtorEq, evRange, cNt, tk4, Nat.reduceLT, hg]
  refine CallQ.imm (v_long a b) (by rfl) (by first | rfl | (simp -dsimp (maxSteps := 20000000) (disch := first | omega | decide +kernel) only [↓bp0, bd0, bd_QC, reduceIte, Nat.reduceEqDiff, evStore, Nat.reduceAdd, Nat.reduceMul, Int.reduceEq, Int.reduceLT, Int.reduceLE, Nat.reduceLeDiff, List.reduceReplicate, reduceCtorEq, evRange, cNt, tk4, Nat.reduceLT, drcs, drc, flat]; done) | simp -dsimp [evl, drcs, drc, flat, i64, u32, bl, encL, encB, encLL]) (by first | exact .inl rfl | exact .inr rfl | exact .inr scalB | exact .inr scalI | exact .inr scalT | exact .inr scalM | exact .inr scalMT | exact .inr scalE | exact .inr scalET | exact .inr scalN | exact .inr scalNT | exact .inr scalSt) ?_
  try simp -dsimp (maxSteps := 20000000) (disch := first | omega | decide +kernel) only [↓bp0, bd0, bd_QC, reduceIte, Nat.reduceEqDiff, evStore, Nat.reduceAdd, Nat.reduceMul, Int.reduceEq, Int.reduceLT, Int.reduceLE, Nat.reduceLeDiff, List.reduceReplicate, reduceCtorEq, evRange, cNt, tk4, Nat.reduceLT, c1, c2, Bool.or_false]
  refine CallQ.imm (v_Both l a b hz hn) (by rfl) (by first | rfl | (simp -dsimp (maxSteps := 20000000) (disch := first | omega | decide +kernel) only [↓bp0, bd0, bd_QC, reduceIte, Nat.reduceEqDiff, evStore, Nat.reduceAdd, Nat.reduceMul, Int.reduceEq, Int.reduceLT, Int.reduceLE, Nat.reduceLeDiff, List.reduceReplicate, reduceCtorEq, evRange, cNt, tk4, Nat.reduceLT, drcs, drc, flat]; done) | simp -dsimp [evl, drcs, drc, flat, i64, u32, bl, encL, encB, encLL]) (by first | exact .inl rfl | exact .inr rfl | exact .inr scalB | exact .inr scalI | exact .inr scalT | exact .inr scalM | exact .inr scalMT | exact .inr scalE | exact .inr scalET | exact .inr scalN | exact .inr scalNT | exact .inr scalSt) ?_
  try simp -dsimp (maxSteps := 20000000) (disch := first | omega | decide +kernel) only [↓bp0, bd0, bd_QC, reduceIte, Nat.reduceEqDiff, evStore, Nat.reduceAdd, Nat.reduceMul, Int.reduceEq, Int.reduceLT, Int.reduceLE, Nat.reduceLeDiff, List.reduceReplicate, reduceCtorEq, evRange, cNt, tk4, Nat.reduceLT, h0]
  refine CallQ.imm (k1) (by rfl) (by first | rfl | (simp -dsimp (maxSteps := 20000000) (disch := first | omega | decide +kernel) only [↓bp0, bd0, bd_QC, reduceIte, Nat.reduceEqDiff, evStore, Nat.reduceAdd, Nat.reduceMul, Int.reduceEq, Int.reduceLT, Int.reduceLE, Nat.reduceLeDiff, List.reduceReplicate, reduceCtorEq, evRange, cNt, tk4, Nat.reduceLT, drcs, drc, flat]; done) | simp -dsimp [evl, drcs, drc, flat, i64, u32, bl, encL, encB, encLL]) (by first | exact .inl rfl | exact .inr rfl | exact .inr scalB | exact .inr scalI | exact .inr scalT | exact .inr scalM | exact .inr scalMT | exact .inr scalE | exact .inr scalET | exact .inr scalN | exact .inr scalNT | exact .inr scalSt) ?_
  try simp -dsimp (maxSteps := 20000000) (disch := first | omega | decide +kernel) only [↓bp0, bd0, bd_QC, reduceIte, Nat.reduceEqDiff, evStore, Nat.reduceAdd, Nat.reduceMul, Int.reduceEq, Int.reduceLT, Int.reduceLE, Nat.reduceLeDiff, List.reduceReplicate, reduceCtorEq, evRange, cNt, tk4, Nat.reduceLT, newNts]
  refine CallQ.imm (k2) (by rfl) (by first | rfl | (simp -dsimp (maxSteps := 20000000) (disch := first | omega | decide +kernel) only [↓bp0, bd0, bd_QC, reduceIte, Nat.reduceEqDiff, evStore, Nat.reduceAdd, Nat.reduceMul, Int.reduceEq, Int.reduceLT, Int.reduceLE, Nat.reduceLeDiff, List.reduceReplicate, reduceCtorEq, evRange, cNt, tk4, Nat.reduceLT, drcs, drc, flat]; done) | simp -dsimp [evl, drcs, drc, flat, i64, u32, bl, encL, encB, encLL]) (by first | exact .inl rfl | exact .inr rfl | exact .inr scalB | exact .inr scalI | exact .inr scalT | exact .inr scalM | exact .inr scalMT | exact .inr scalE | exact .inr scalET | exact .inr scalN | exact .inr scalNT | exact .inr scalSt) ?_
  try simp -dsimp (maxSteps := 20000000) (disch := first | omega | decide +kernel) only [↓bp0, bd0, bd_QC, reduceIte, Nat.reduceEqDiff, evStore, Nat.reduceAdd, Nat.reduceMul, Int.reduceEq, Int.reduceLT, Int.reduceLE, Nat.reduceLeDiff, List.reduceReplicate, reduceCtorEq, evRange, cNt, tk4, Nat.reduceLT, newNts]
  refine CallQ.imm (k3) (by rfl) (by first | rfl | (simp -dsimp (maxSteps := 20000000) (disch := first | omega | decide +kernel) only [↓bp0, bd0, bd_QC, reduceIte, Nat.reduceEqDiff, evStore, Nat.reduceAdd, Nat.reduceMul, Int.reduceEq, Int.reduceLT, Int.reduceLE, Nat.reduceLeDiff, List.reduceReplicate, reduceCtorEq, evRange, cNt, tk4, Nat.reduceLT, drcs, drc, flat]; done) | simp -dsimp [evl, drcs, drc, flat, i64, u32, bl, encL, encB, encLL]) (by first | exact .inl rfl | exact .inr rfl | exact .inr scalB | exact .inr scalI | exact .inr scalT | exact .inr scalM | exact .inr scalMT | exact .inr scalE | exact .inr scalET | exact .inr scalN | exact .inr scalNT | exact .inr scalSt) ?_
  try simp -dsimp (maxSteps := 20000000) (disch := first | omega | decide +kernel) only [↓bp0, bd0, bd_QC, reduceIte, Nat.reduceEqDiff, evStore, Nat.reduceAdd, Nat.reduceMul, Int.reduceEq, Int.reduceLT, Int.reduceLE, Nat.reduceLeDiff, List.reduceReplicate, reduceCtorEq, evRange, cNt, tk4, Nat.reduceLT]
  refine CallQ.imm (k4) (by rfl) (by first | rfl | (simp -dsimp (maxSteps := 20000000) (disch := first | omega | decide +kernel) only [↓bp0, bd0, bd_QC, reduceIte, Nat.reduceEqDiff, evStore, Nat.reduceAdd, Nat.reduceMul, Int.reduceEq, Int.reduceLT, Int.reduceLE, Nat.reduceLeDiff, List.reduceReplicate, reduceCtorEq, evRange, cNt, tk4, Nat.reduceLT, drcs, drc, flat]; done) | simp -dsimp [evl, drcs, drc, flat, i64, u32, bl, encL, encB, encLL]) (by first | exact .inl rfl | exact .inr rfl | exact .inr scalB | exact .inr scalI | exact .inr scalT | exact .inr scalM | exact .inr scalMT | exact .inr scalE | exact .inr scalET | exact .inr scalN | exact .inr scalNT | exact .inr scalSt) ?_
  try simp -dsimp (maxSteps := 20000000) (disch := first | omega | decide +kernel) only [↓bp0, bd0, bd_QC, reduceIte, Nat.reduceEqDiff, evStore, Nat.reduceAdd, Nat.reduceMul, Int.reduceEq, Int.reduceLT, Int.reduceLE, Nat.reduceLeDiff, List.reduceReplicate, reduceCtorEq, evRange, cNt, tk4, Nat.reduceLT, newStrs, encNts, List.length_map, hLl, hw0, hw1, hw2, hend, decide_true]
  refine LoopQ.rule (fun m st => ∃ (i nx : Nat), i ≤ X.length + Y.length ∧ m = X.length + Y.length - i ∧
    st = ⟨mkE [(7, bl true), (8, encNts X), (10, encNts Y), (14, encStrs L), (15, i64 i)], mkS [], nx⟩) _ _ (weak_of ?_)
    ⟨0, 1, by omega, rfl, rfl⟩ ?_
  · first | (simp -dsimp (maxSteps := 20000000) (disch := first | omega | decide +kernel) only [↓bp0, bd0, bd_QC, reduceIte, Nat.reduceEqDiff, evStore, Nat.reduceAdd, Nat.reduceMul, Int.reduceEq, Int.reduceLT, Int.reduceLE, Nat.reduceLeDiff, List.reduceReplicate, reduceCtorEq, evRange, cNt, tk4, Nat.reduceLT, encNts]; done) | simp -dsimp [evl, putN, i64, u32, bl, encL, encB, encLL, encNts]
  rintro m st ⟨i, nx, hi, rfl, rfl⟩
  try simp -dsimp (maxSteps := 20000000) (disch := first | omega | decide +kernel) only [↓bp0, bd0, bd_QC, reduceIte, Nat.reduceEqDiff, evStore, Nat.reduceAdd, Nat.reduceMul, Int.reduceEq, Int.reduceLT, Int.reduceLE, Nat.reduceLeDiff, List.reduceReplicate, reduceCtorEq, evRange, cNt, tk4, Nat.reduceLT, encNts, List.length_map, hw0]
  refine onC_nlt (fun h2 => ?_) (fun h2 => ?_)
  · by_cases hx' : i < X.length
    · obtain ⟨n, hx, hxm⟩ := get_of_lt hx'
      have hln := hAt1 i n hx
      have hok := hX n hxm
      have hcl := hok.cls
      have k5 := r_cut36 (cbody n) 32 (by have := cbody_size hok.toNtOk; omega)
      rw [cut_cbody hok, show (32 : UInt8).toNat = 32 from rfl] at k5
      obtain ⟨c, hc⟩ : ∃ c : Nat, n.cls = c := ⟨n.cls.toNat, by omega⟩
      have k6 := r_dec36 c (by omega)
      have d1 : decide ((i : Int) < (X.length : Int)) = true := decide_eq_true (by omega)
      have d2 : decide ((X.length : Int) ≤ (i : Int)) = false := decide_eq_false (by omega)
      have hcw : cWs n ++ [wordS n.kind] = [sCame, dec c, n.chg, wordS n.kind] := by rw [cWs, hc]; rfl
      rw [hcw] at k5
      have hsc : (⟨#[99, 97, 109, 101]⟩ : ByteArray) = sCame := rfl
      try simp -dsimp (maxSteps := 20000000) (disch := first | omega | decide +kernel) only [↓bp0, bd0, bd_QC, reduceIte, Nat.reduceEqDiff, evStore, Nat.reduceAdd, Nat.reduceMul, Int.reduceEq, Int.reduceLT, Int.reduceLE, Nat.reduceLeDiff, List.reduceReplicate, reduceCtorEq, evRange, cNt, tk4, Nat.reduceLT, hln]
      refine CallQ.imm (k5) (by rfl) (by first | rfl | (simp -dsimp (maxSteps := 20000000) (disch := first | omega | decide +kernel) only [↓bp0, bd0, bd_QC, reduceIte, Nat.reduceEqDiff, evStore, Nat.reduceAdd, Nat.reduceMul, Int.reduceEq, Int.reduceLT, Int.reduceLE, Nat.reduceLeDiff, List.reduceReplicate, reduceCtorEq, evRange, cNt, tk4, Nat.reduceLT, drcs, drc, flat]; done) | simp -dsimp [evl, drcs, drc, flat, i64, u32, bl, encL, encB, encLL]) (by first | exact .inl rfl | exact .inr rfl | exact .inr scalB | exact .inr scalI | exact .inr scalT | exact .inr scalM | exact .inr scalMT | exact .inr scalE | exact .inr scalET | exact .inr scalN | exact .inr scalNT | exact .inr scalSt) ?_
      try simp -dsimp (maxSteps := 20000000) (disch := first | omega | decide +kernel) only [↓bp0, bd0, bd_QC, reduceIte, Nat.reduceEqDiff, evStore, Nat.reduceAdd, Nat.reduceMul, Int.reduceEq, Int.reduceLT, Int.reduceLE, Nat.reduceLeDiff, List.reduceReplicate, reduceCtorEq, evRange, cNt, tk4, Nat.reduceLT, newStrs]
      first | refine vc_text (by kernel_rfl) ?_ | skip
      try simp -dsimp (maxSteps := 20000000) (disch := first | omega | decide +kernel) only [↓bp0, bd0, bd_QC, reduceIte, Nat.reduceEqDiff, evStore, Nat.reduceAdd, Nat.reduceMul, Int.reduceEq, Int.reduceLT, Int.reduceLE, Nat.reduceLeDiff, List.reduceReplicate, reduceCtorEq, evRange, cNt, tk4, Nat.reduceLT, newStrs, hln, hx, List.length_map, hc, d1, encNts, hsc, decide_true]
      refine CallY.imm (k6) (by rfl) (by first | rfl | (simp -dsimp (maxSteps := 20000000) (disch := first | omega | decide +kernel) only [↓bp0, bd0, bd_QC, reduceIte, Nat.reduceEqDiff, evStore, Nat.reduceAdd, Nat.reduceMul, Int.reduceEq, Int.reduceLT, Int.reduceLE, Nat.reduceLeDiff, List.reduceReplicate, reduceCtorEq, evRange, cNt, tk4, Nat.reduceLT, drcs, drc, flat, encNts, hx, hc]; done) | simp -dsimp [evl, drcs, drc, flat, i64, u32, bl, encL, encB, encLL]) (by first | exact .inl rfl | exact .inr rfl | exact .inr scalB | exact .inr scalI | exact .inr scalT | exact .inr scalM | exact .inr scalMT | exact .inr scalE | exact .inr scalET | exact .inr scalN | exact .inr scalNT | exact .inr scalSt) ?_
      try simp -dsimp (maxSteps := 20000000) (disch := first | omega | decide +kernel) only [↓bp0, bd0, bd_QC, reduceIte, Nat.reduceEqDiff, evStore, Nat.reduceAdd, Nat.reduceMul, Int.reduceEq, Int.reduceLT, Int.reduceLE, Nat.reduceLeDiff, List.reduceReplicate, reduceCtorEq, evRange, cNt, tk4, Nat.reduceLT, newStrs, hln, hx, List.length_map, hc, d1, d2, encNts, hsc, decide_true]
      first | refine vc_text (by kernel_rfl) ?_ | skip
      try simp -dsimp (maxSteps := 20000000) (disch := first | omega | decide +kernel) only [↓bp0, bd0, bd_QC, reduceIte, Nat.reduceEqDiff, evStore, Nat.reduceAdd, Nat.reduceMul, Int.reduceEq, Int.reduceLT, Int.reduceLE, Nat.reduceLeDiff, List.reduceReplicate, reduceCtorEq, evRange, cNt, tk4, Nat.reduceLT, newStrs, hln, hx, List.length_map, hc, d1, d2, encNts, hsc, decide_true]
      refine ⟨_, _, ?_, weak_of ?_, i + 1, nx, by omega, rfl, rfl⟩
      · omega
      · first | (simp -dsimp (maxSteps := 20000000) (disch := first | omega | decide +kernel) only [↓bp0, bd0, bd_QC, reduceIte, Nat.reduceEqDiff, evStore, Nat.reduceAdd, Nat.reduceMul, Int.reduceEq, Int.reduceLT, Int.reduceLE, Nat.reduceLeDiff, List.reduceReplicate, reduceCtorEq, evRange, cNt, tk4, Nat.reduceLT, wrapS h2 (show X.length + Y.length ≤ 9223372036854775807 by omega), encNts]; done) | simp -dsimp [evl, putN, i64, u32, bl, encL, encB, encLL, wrapS h2 (show X.length + Y.length ≤ 9223372036854775807 by omega), encNts]
    · obtain ⟨n, hx, hxm⟩ := get_of_lt (show i - X.length < Y.length by omega)
      have hln := hAt2 i n (by omega) hx
      have hok := hY n hxm
      have k5 := r_cut36 (wbody n) 32 (by have := wbody_size hok.toNtOk; omega)
      rw [cut_wbody hok, show (32 : UInt8).toNat = 32 from rfl] at k5
      have d1 : decide ((i : Int) < (X.length : Int)) = false := decide_eq_false (by omega)
      have d2 : decide ((X.length : Int) ≤ (i : Int)) = true := decide_eq_true (by omega)
      have hws : IntKind.i64.wrap ((i : Int) - (X.length : Int)) = ((i - X.length : Nat) : Int) := by rw [IntWalk.i64_in _ (by omega)]; omega
      have hsw : (⟨#[119, 101, 110, 116]⟩ : ByteArray) = sWent := rfl
      cases hp : decide ((0 : Int) ≤ n.pl)
      · have hcw : wWs n ++ [wZ n] = [sWent, dec n.cls.toNat, n.chg] := by
          have := of_decide_eq_false hp
          rw [wWs, wZ, if_neg this, if_neg this]; rfl
        rw [hcw] at k5
        try simp -dsimp (maxSteps := 20000000) (disch := first | omega | decide +kernel) only [↓bp0, bd0, bd_QC, reduceIte, Nat.reduceEqDiff, evStore, Nat.reduceAdd, Nat.reduceMul, Int.reduceEq, Int.reduceLT, Int.reduceLE, Nat.reduceLeDiff, List.reduceReplicate, reduceCtorEq, evRange, cNt, tk4, Nat.reduceLT, hln]
        refine CallQ.imm (k5) (by rfl) (by first | rfl | (simp -dsimp (maxSteps := 20000000) (disch := first | omega | decide +kernel) only [↓bp0, bd0, bd_QC, reduceIte, Nat.reduceEqDiff, evStore, Nat.reduceAdd, Nat.reduceMul, Int.reduceEq, Int.reduceLT, Int.reduceLE, Nat.reduceLeDiff, List.reduceReplicate, reduceCtorEq, evRange, cNt, tk4, Nat.reduceLT, drcs, drc, flat]; done) | simp -dsimp [evl, drcs, drc, flat, i64, u32, bl, encL, encB, encLL]) (by first | exact .inl rfl | exact .inr rfl | exact .inr scalB | exact .inr scalI | exact .inr scalT | exact .inr scalM | exact .inr scalMT | exact .inr scalE | exact .inr scalET | exact .inr scalN | exact .inr scalNT | exact .inr scalSt) ?_
        try simp -dsimp (maxSteps := 20000000) (disch := first | omega | decide +kernel) only [↓bp0, bd0, bd_QC, reduceIte, Nat.reduceEqDiff, evStore, Nat.reduceAdd, Nat.reduceMul, Int.reduceEq, Int.reduceLT, Int.reduceLE, Nat.reduceLeDiff, List.reduceReplicate, reduceCtorEq, evRange, cNt, tk4, Nat.reduceLT, newStrs]
        first | refine vc_text (by kernel_rfl) ?_ | skip
        try simp -dsimp (maxSteps := 20000000) (disch := first | omega | decide +kernel) only [↓bp0, bd0, bd_QC, reduceIte, Nat.reduceEqDiff, evStore, Nat.reduceAdd, Nat.reduceMul, Int.reduceEq, Int.reduceLT, Int.reduceLE, Nat.reduceLeDiff, List.reduceReplicate, reduceCtorEq, evRange, cNt, tk4, Nat.reduceLT, newStrs, hln, hx, List.length_map, d1, d2, hws, hp, encNts, hsw, decide_true, evBn, bne_self_eq_false]
        first | refine vc_text (by kernel_rfl) ?_ | skip
        try simp -dsimp (maxSteps := 20000000) (disch := first | omega | decide +kernel) only [↓bp0, bd0, bd_QC, reduceIte, Nat.reduceEqDiff, evStore, Nat.reduceAdd, Nat.reduceMul, Int.reduceEq, Int.reduceLT, Int.reduceLE, Nat.reduceLeDiff, List.reduceReplicate, reduceCtorEq, evRange, cNt, tk4, Nat.reduceLT, newStrs, hln, hx, List.length_map, d1, d2, hws, hp, encNts, hsw, decide_true, evBn, bne_self_eq_false]
        refine ⟨_, _, ?_, weak_of ?_, i + 1, nx, by omega, rfl, rfl⟩
        · omega
        · first | (simp -dsimp (maxSteps := 20000000) (disch := first | omega | decide +kernel) only [↓bp0, bd0, bd_QC, reduceIte, Nat.reduceEqDiff, evStore, Nat.reduceAdd, Nat.reduceMul, Int.reduceEq, Int.reduceLT, Int.reduceLE, Nat.reduceLeDiff, List.reduceReplicate, reduceCtorEq, evRange, cNt, tk4, Nat.reduceLT, wrapS h2 (show X.length + Y.length ≤ 9223372036854775807 by omega), encNts]; done) | simp -dsimp [evl, putN, i64, u32, bl, encL, encB, encLL, wrapS h2 (show X.length + Y.length ≤ 9223372036854775807 by omega), encNts]
      · have hcw : wWs n ++ [wZ n] = [sWent, dec n.cls.toNat, n.chg, wordS n.kind] := by
          have := of_decide_eq_true hp
          rw [wWs, wZ, if_pos this, if_pos this]; rfl
        rw [hcw] at k5
        try simp -dsimp (maxSteps := 20000000) (disch := first | omega | decide +kernel) only [↓bp0, bd0, bd_QC, reduceIte, Nat.reduceEqDiff, evStore, Nat.reduceAdd, Nat.reduceMul, Int.reduceEq, Int.reduceLT, Int.reduceLE, Nat.reduceLeDiff, List.reduceReplicate, reduceCtorEq, evRange, cNt, tk4, Nat.reduceLT, hln]
        refine CallQ.imm (k5) (by rfl) (by first | rfl | (simp -dsimp (maxSteps := 20000000) (disch := first | omega | decide +kernel) only [↓bp0, bd0, bd_QC, reduceIte, Nat.reduceEqDiff, evStore, Nat.reduceAdd, Nat.reduceMul, Int.reduceEq, Int.reduceLT, Int.reduceLE, Nat.reduceLeDiff, List.reduceReplicate, reduceCtorEq, evRange, cNt, tk4, Nat.reduceLT, drcs, drc, flat]; done) | simp -dsimp [evl, drcs, drc, flat, i64, u32, bl, encL, encB, encLL]) (by first | exact .inl rfl | exact .inr rfl | exact .inr scalB | exact .inr scalI | exact .inr scalT | exact .inr scalM | exact .inr scalMT | exact .inr scalE | exact .inr scalET | exact .inr scalN | exact .inr scalNT | exact .inr scalSt) ?_
        try simp -dsimp (maxSteps := 20000000) (disch := first | omega | decide +kernel) only [↓bp0, bd0, bd_QC, reduceIte, Nat.reduceEqDiff, evStore, Nat.reduceAdd, Nat.reduceMul, Int.reduceEq, Int.reduceLT, Int.reduceLE, Nat.reduceLeDiff, List.reduceReplicate, reduceCtorEq, evRange, cNt, tk4, Nat.reduceLT, newStrs]
        first | refine vc_text (by kernel_rfl) ?_ | skip
        try simp -dsimp (maxSteps := 20000000) (disch := first | omega | decide +kernel) only [↓bp0, bd0, bd_QC, reduceIte, Nat.reduceEqDiff, evStore, Nat.reduceAdd, Nat.reduceMul, Int.reduceEq, Int.reduceLT, Int.reduceLE, Nat.reduceLeDiff, List.reduceReplicate, reduceCtorEq, evRange, cNt, tk4, Nat.reduceLT, newStrs, hln, hx, List.length_map, d1, d2, hws, hp, encNts, hsw, decide_true, evBn, bne_self_eq_false]
        first | refine vc_text (by kernel_rfl) ?_ | skip
        try simp -dsimp (maxSteps := 20000000) (disch := first | omega | decide +kernel) only [↓bp0, bd0, bd_QC, reduceIte, Nat.reduceEqDiff, evStore, Nat.reduceAdd, Nat.reduceMul, Int.reduceEq, Int.reduceLT, Int.reduceLE, Nat.reduceLeDiff, List.reduceReplicate, reduceCtorEq, evRange, cNt, tk4, Nat.reduceLT, newStrs, hln, hx, List.length_map, d1, d2, hws, hp, encNts, hsw, decide_true, evBn, bne_self_eq_false]
        refine ⟨_, _, ?_, weak_of ?_, i + 1, nx, by omega, rfl, rfl⟩
        · omega
        · first | (simp -dsimp (maxSteps := 20000000) (disch := first | omega | decide +kernel) only [↓bp0, bd0, bd_QC, reduceIte, Nat.reduceEqDiff, evStore, Nat.reduceAdd, Nat.reduceMul, Int.reduceEq, Int.reduceLT, Int.reduceLE, Nat.reduceLeDiff, List.reduceReplicate, reduceCtorEq, evRange, cNt, tk4, Nat.reduceLT, wrapS h2 (show X.length + Y.length ≤ 9223372036854775807 by omega), encNts]; done) | simp -dsimp [evl, putN, i64, u32, bl, encL, encB, encLL, wrapS h2 (show X.length + Y.length ≤ 9223372036854775807 by omega), encNts]
  · simp -dsimp (maxSteps := 20000000) (disch := first | omega | decide +kernel) only [↓bp0, bd0, bd_QC, reduceIte, Nat.reduceEqDiff, evStore, Nat.reduceAdd, Nat.reduceMul, Int.reduceEq, Int.reduceLT, Int.reduceLE, Nat.reduceLeDiff, List.reduceReplicate, reduceCtorEq, evRange, cNt, tk4, Nat.reduceLT, retQ, resL, finL, newL, flat, tupOf, List.toList_toArray, Tryz.f8]
    exact leT_one .rfl' (by simp)
theorem l_Lines (l : Ldg) (a b : Str) (hl : l.known.length ≤ 9223372036854775807) (hb : l.brs.length ≤ 9223372036854775807) (hv : l.evs.length ≤ 9223372036854775807) (he : ∀ s ∈ l.evs, s.length ≤ 9223372036854775807) :
    CallSpec cx 8 [encLdg l, str a, str b] (bl true) := by
  cases hg : grt29 l
  case true =>
    refine callSpec_of_vc Tryz.func8 rfl (by decide) (by kernel_rfl) (Nat.le_of_ble_eq_true rfl) ?_
    try simp -dsimp (maxSteps := 20000000) (disch := first | omega | decide +kernel) only [↓bp0, bd0, bd_QC, reduceIte, Nat.reduceEqDiff, evStore, Nat.reduceAdd, Nat.reduceMul, Int.reduceEq, Int.reduceLT, Int.reduceLE, Nat.reduceLeDiff, List.reduceReplicate, reduceCtorEq, evRange, cNt, tk4, Nat.reduceLT, Tryz.f8]
    refine CallQ.imm (v_alive) (by rfl) (by first | rfl | (simp -dsimp (maxSteps := 20000000) (disch := first | omega | decide +kernel) only [↓bp0, bd0, bd_QC, reduceIte, Nat.reduceEqDiff, evStore, Nat.reduceAdd, Nat.reduceMul, Int.reduceEq, Int.reduceLT, Int.reduceLE, Nat.reduceLeDiff, List.reduceReplicate, reduceCtorEq, evRange, cNt, tk4, Nat.reduceLT, drcs, drc, flat]; done) | simp -dsimp [evl, drcs, drc, flat, i64, u32, bl, encL, encB, encLL]) (by first | exact .inl rfl | exact .inr rfl | exact .inr scalB | exact .inr scalI | exact .inr scalT | exact .inr scalM | exact .inr scalMT | exact .inr scalE | exact .inr scalET | exact .inr scalN | exact .inr scalNT | exact .inr scalSt) ?_
    try simp -dsimp (maxSteps := 20000000) (disch := first | omega | decide +kernel) only [↓bp0, bd0, bd_QC, reduceIte, Nat.reduceEqDiff, evStore, Nat.reduceAdd, Nat.reduceMul, Int.reduceEq, Int.reduceLT, Int.reduceLE, Nat.reduceLeDiff, List.reduceReplicate, reduceCtorEq, evRange, cNt, tk4, Nat.reduceLT]
    refine CallQ.imm (r_Great29 l hl hb hv he) (by rfl) (by first | rfl | (simp -dsimp (maxSteps := 20000000) (disch := first | omega | decide +kernel) only [↓bp0, bd0, bd_QC, reduceIte, Nat.reduceEqDiff, evStore, Nat.reduceAdd, Nat.reduceMul, Int.reduceEq, Int.reduceLT, Int.reduceLE, Nat.reduceLeDiff, List.reduceReplicate, reduceCtorEq, evRange, cNt, tk4, Nat.reduceLT, drcs, drc, flat]; done) | simp -dsimp [evl, drcs, drc, flat, i64, u32, bl, encL, encB, encLL]) (by first | exact .inl rfl | exact .inr rfl | exact .inr scalB | exact .inr scalI | exact .inr scalT | exact .inr scalM | exact .inr scalMT | exact .inr scalE | exact .inr scalET | exact .inr scalN | exact .inr scalNT | exact .inr scalSt) ?_
    simp -dsimp (maxSteps := 20000000) (disch := first | omega | decide +kernel) only [↓bp0, bd0, bd_QC, reduceIte, Nat.reduceEqDiff, evStore, Nat.reduceAdd, Nat.reduceMul, Int.reduceEq, Int.reduceLT, Int.reduceLE, Nat.reduceLeDiff, List.reduceReplicate, reduceCtorEq, evRange, cNt, tk4, Nat.reduceLT, retQ, resL, finL, newL, flat, tupOf, List.toList_toArray, Tryz.f8, hg]
    exact leT_one .rfl' (by simp)
  obtain ⟨hz, hn⟩ := grt29_noP hg
  cases c1 : decide ((100 : Int) < (a.size : Int))
  case true =>
    refine callSpec_of_vc Tryz.func8 rfl (by decide) (by kernel_rfl) (Nat.le_of_ble_eq_true rfl) ?_
    try simp -dsimp (maxSteps := 20000000) (disch := first | omega | decide +kernel) only [↓bp0, bd0, bd_QC, reduceIte, Nat.reduceEqDiff, evStore, Nat.reduceAdd, Nat.reduceMul, Int.reduceEq, Int.reduceLT, Int.reduceLE, Nat.reduceLeDiff, List.reduceReplicate, reduceCtorEq, evRange, cNt, tk4, Nat.reduceLT, Tryz.f8]
    refine CallQ.imm (v_alive) (by rfl) (by first | rfl | (simp -dsimp (maxSteps := 20000000) (disch := first | omega | decide +kernel) only [↓bp0, bd0, bd_QC, reduceIte, Nat.reduceEqDiff, evStore, Nat.reduceAdd, Nat.reduceMul, Int.reduceEq, Int.reduceLT, Int.reduceLE, Nat.reduceLeDiff, List.reduceReplicate, reduceCtorEq, evRange, cNt, tk4, Nat.reduceLT, drcs, drc, flat]; done) | simp -dsimp [evl, drcs, drc, flat, i64, u32, bl, encL, encB, encLL]) (by first | exact .inl rfl | exact .inr rfl | exact .inr scalB | exact .inr scalI | exact .inr scalT | exact .inr scalM | exact .inr scalMT | exact .inr scalE | exact .inr scalET | exact .inr scalN | exact .inr scalNT | exact .inr scalSt) ?_
    try simp -dsimp (maxSteps := 20000000) (disch := first | omega | decide +kernel) only [↓bp0, bd0, bd_QC, reduceIte, Nat.reduceEqDiff, evStore, Nat.reduceAdd, Nat.reduceMul, Int.reduceEq, Int.reduceLT, Int.reduceLE, Nat.reduceLeDiff, List.reduceReplicate, reduceCtorEq, evRange, cNt, tk4, Nat.reduceLT]
    refine CallQ.imm (r_Great29 l hl hb hv he) (by rfl) (by first | rfl | (simp -dsimp (maxSteps := 20000000) (disch := first | omega | decide +kernel) only [↓bp0, bd0, bd_QC, reduceIte, Nat.reduceEqDiff, evStore, Nat.reduceAdd, Nat.reduceMul, Int.reduceEq, Int.reduceLT, Int.reduceLE, Nat.reduceLeDiff, List.reduceReplicate, reduceCtorEq, evRange, cNt, tk4, Nat.reduceLT, drcs, drc, flat]; done) | simp -dsimp [evl, drcs, drc, flat, i64, u32, bl, encL, encB, encLL]) (by first | exact .inl rfl | exact .inr rfl | exact .inr scalB | exact .inr scalI | exact .inr scalT | exact .inr scalM | exact .inr scalMT | exact .inr scalE | exact .inr scalET | exact .inr scalN | exact .inr scalNT | exact .inr scalSt) ?_
    try simp -dsimp (maxSteps := 20000000) (disch := first | omega | decide +kernel) only [↓bp0, bd0, bd_QC, reduceIte, Nat.reduceEqDiff, evStore, Nat.reduceAdd, Nat.reduceMul, Int.reduceEq, Int.reduceLT, Int.reduceLE, Nat.reduceLeDiff, List.reduceReplicate, reduceCtorEq, evRange, cNt, tk4, Nat.reduceLT, hg]
    refine CallQ.imm (v_long a b) (by rfl) (by first | rfl | (simp -dsimp (maxSteps := 20000000) (disch := first | omega | decide +kernel) only [↓bp0, bd0, bd_QC, reduceIte, Nat.reduceEqDiff, evStore, Nat.reduceAdd, Nat.reduceMul, Int.reduceEq, Int.reduceLT, Int.reduceLE, Nat.reduceLeDiff, List.reduceReplicate, reduceCtorEq, evRange, cNt, tk4, Nat.reduceLT, drcs, drc, flat]; done) | simp -dsimp [evl, drcs, drc, flat, i64, u32, bl, encL, encB, encLL]) (by first | exact .inl rfl | exact .inr rfl | exact .inr scalB | exact .inr scalI | exact .inr scalT | exact .inr scalM | exact .inr scalMT | exact .inr scalE | exact .inr scalET | exact .inr scalN | exact .inr scalNT | exact .inr scalSt) ?_
    simp -dsimp (maxSteps := 20000000) (disch := first | omega | decide +kernel) only [↓bp0, bd0, bd_QC, reduceIte, Nat.reduceEqDiff, evStore, Nat.reduceAdd, Nat.reduceMul, Int.reduceEq, Int.reduceLT, Int.reduceLE, Nat.reduceLeDiff, List.reduceReplicate, reduceCtorEq, evRange, cNt, tk4, Nat.reduceLT, retQ, resL, finL, newL, flat, tupOf, List.toList_toArray, Tryz.f8, c1, Bool.true_or]
    exact leT_one .rfl' (by simp)
  cases c2 : decide ((100 : Int) < (b.size : Int))
  case true =>
    refine callSpec_of_vc Tryz.func8 rfl (by decide) (by kernel_rfl) (Nat.le_of_ble_eq_true rfl) ?_
    try simp -dsimp (maxSteps := 20000000) (disch := first | omega | decide +kernel) only [↓bp0, bd0, bd_QC, reduceIte, Nat.reduceEqDiff, evStore, Nat.reduceAdd, Nat.reduceMul, Int.reduceEq, Int.reduceLT, Int.reduceLE, Nat.reduceLeDiff, List.reduceReplicate, reduceCtorEq, evRange, cNt, tk4, Nat.reduceLT, Tryz.f8]
    refine CallQ.imm (v_alive) (by rfl) (by first | rfl | (simp -dsimp (maxSteps := 20000000) (disch := first | omega | decide +kernel) only [↓bp0, bd0, bd_QC, reduceIte, Nat.reduceEqDiff, evStore, Nat.reduceAdd, Nat.reduceMul, Int.reduceEq, Int.reduceLT, Int.reduceLE, Nat.reduceLeDiff, List.reduceReplicate, reduceCtorEq, evRange, cNt, tk4, Nat.reduceLT, drcs, drc, flat]; done) | simp -dsimp [evl, drcs, drc, flat, i64, u32, bl, encL, encB, encLL]) (by first | exact .inl rfl | exact .inr rfl | exact .inr scalB | exact .inr scalI | exact .inr scalT | exact .inr scalM | exact .inr scalMT | exact .inr scalE | exact .inr scalET | exact .inr scalN | exact .inr scalNT | exact .inr scalSt) ?_
    try simp -dsimp (maxSteps := 20000000) (disch := first | omega | decide +kernel) only [↓bp0, bd0, bd_QC, reduceIte, Nat.reduceEqDiff, evStore, Nat.reduceAdd, Nat.reduceMul, Int.reduceEq, Int.reduceLT, Int.reduceLE, Nat.reduceLeDiff, List.reduceReplicate, reduceCtorEq, evRange, cNt, tk4, Nat.reduceLT]
    refine CallQ.imm (r_Great29 l hl hb hv he) (by rfl) (by first | rfl | (simp -dsimp (maxSteps := 20000000) (disch := first | omega | decide +kernel) only [↓bp0, bd0, bd_QC, reduceIte, Nat.reduceEqDiff, evStore, Nat.reduceAdd, Nat.reduceMul, Int.reduceEq, Int.reduceLT, Int.reduceLE, Nat.reduceLeDiff, List.reduceReplicate, reduceCtorEq, evRange, cNt, tk4, Nat.reduceLT, drcs, drc, flat]; done) | simp -dsimp [evl, drcs, drc, flat, i64, u32, bl, encL, encB, encLL]) (by first | exact .inl rfl | exact .inr rfl | exact .inr scalB | exact .inr scalI | exact .inr scalT | exact .inr scalM | exact .inr scalMT | exact .inr scalE | exact .inr scalET | exact .inr scalN | exact .inr scalNT | exact .inr scalSt) ?_
    try simp -dsimp (maxSteps := 20000000) (disch := first | omega | decide +kernel) only [↓bp0, bd0, bd_QC, reduceIte, Nat.reduceEqDiff, evStore, Nat.reduceAdd, Nat.reduceMul, Int.reduceEq, Int.reduceLT, Int.reduceLE, Nat.reduceLeDiff, List.reduceReplicate, reduceCtorEq, evRange, cNt, tk4, Nat.reduceLT, hg]
    refine CallQ.imm (v_long a b) (by rfl) (by first | rfl | (simp -dsimp (maxSteps := 20000000) (disch := first | omega | decide +kernel) only [↓bp0, bd0, bd_QC, reduceIte, Nat.reduceEqDiff, evStore, Nat.reduceAdd, Nat.reduceMul, Int.reduceEq, Int.reduceLT, Int.reduceLE, Nat.reduceLeDiff, List.reduceReplicate, reduceCtorEq, evRange, cNt, tk4, Nat.reduceLT, drcs, drc, flat]; done) | simp -dsimp [evl, drcs, drc, flat, i64, u32, bl, encL, encB, encLL]) (by first | exact .inl rfl | exact .inr rfl | exact .inr scalB | exact .inr scalI | exact .inr scalT | exact .inr scalM | exact .inr scalMT | exact .inr scalE | exact .inr scalET | exact .inr scalN | exact .inr scalNT | exact .inr scalSt) ?_
    simp -dsimp (maxSteps := 20000000) (disch := first | omega | decide +kernel) only [↓bp0, bd0, bd_QC, reduceIte, Nat.reduceEqDiff, evStore, Nat.reduceAdd, Nat.reduceMul, Int.reduceEq, Int.reduceLT, Int.reduceLE, Nat.reduceLeDiff, List.reduceReplicate, reduceCtorEq, evRange, cNt, tk4, Nat.reduceLT, retQ, resL, finL, newL, flat, tupOf, List.toList_toArray, Tryz.f8, c1, c2, Bool.or_true]
    exact leT_one .rfl' (by simp)
  cases h0 : decide (bothE l a b = 0)
  · refine callSpec_of_vc Tryz.func8 rfl (by decide) (by kernel_rfl) (Nat.le_of_ble_eq_true rfl) ?_
    try simp -dsimp (maxSteps := 20000000) (disch := first | omega | decide +kernel) only [↓bp0, bd0, bd_QC, reduceIte, Nat.reduceEqDiff, evStore, Nat.reduceAdd, Nat.reduceMul, Int.reduceEq, Int.reduceLT, Int.reduceLE, Nat.reduceLeDiff, List.reduceReplicate, reduceCtorEq, evRange, cNt, tk4, Nat.reduceLT, Tryz.f8]
    refine CallQ.imm (v_alive) (by rfl) (by first | rfl | (simp -dsimp (maxSteps := 20000000) (disch := first | omega | decide +kernel) only [↓bp0, bd0, bd_QC, reduceIte, Nat.reduceEqDiff, evStore, Nat.reduceAdd, Nat.reduceMul, Int.reduceEq, Int.reduceLT, Int.reduceLE, Nat.reduceLeDiff, List.reduceReplicate, reduceCtorEq, evRange, cNt, tk4, Nat.reduceLT, drcs, drc, flat]; done) | simp -dsimp [evl, drcs, drc, flat, i64, u32, bl, encL, encB, encLL]) (by first | exact .inl rfl | exact .inr rfl | exact .inr scalB | exact .inr scalI | exact .inr scalT | exact .inr scalM | exact .inr scalMT | exact .inr scalE | exact .inr scalET | exact .inr scalN | exact .inr scalNT | exact .inr scalSt) ?_
    try simp -dsimp (maxSteps := 20000000) (disch := first | omega | decide +kernel) only [↓bp0, bd0, bd_QC, reduceIte, Nat.reduceEqDiff, evStore, Nat.reduceAdd, Nat.reduceMul, Int.reduceEq, Int.reduceLT, Int.reduceLE, Nat.reduceLeDiff, List.reduceReplicate, reduceCtorEq, evRange, cNt, tk4, Nat.reduceLT]
    refine CallQ.imm (r_Great29 l hl hb hv he) (by rfl) (by first | rfl | (simp -dsimp (maxSteps := 20000000) (disch := first | omega | decide +kernel) only [↓bp0, bd0, bd_QC, reduceIte, Nat.reduceEqDiff, evStore, Nat.reduceAdd, Nat.reduceMul, Int.reduceEq, Int.reduceLT, Int.reduceLE, Nat.reduceLeDiff, List.reduceReplicate, reduceCtorEq, evRange, cNt, tk4, Nat.reduceLT, drcs, drc, flat]; done) | simp -dsimp [evl, drcs, drc, flat, i64, u32, bl, encL, encB, encLL]) (by first | exact .inl rfl | exact .inr rfl | exact .inr scalB | exact .inr scalI | exact .inr scalT | exact .inr scalM | exact .inr scalMT | exact .inr scalE | exact .inr scalET | exact .inr scalN | exact .inr scalNT | exact .inr scalSt) ?_
    try simp -dsimp (maxSteps := 20000000) (disch := first | omega | decide +kernel) only [↓bp0, bd0, bd_QC, reduceIte, Nat.reduceEqDiff, evStore, Nat.reduceAdd, Nat.reduceMul, Int.reduceEq, Int.reduceLT, Int.reduceLE, Nat.reduceLeDiff, List.reduceReplicate, reduceCtorEq, evRange, cNt, tk4, Nat.reduceLT, hg]
    refine CallQ.imm (v_long a b) (by rfl) (by first | rfl | (simp -dsimp (maxSteps := 20000000) (disch := first | omega | decide +kernel) only [↓bp0, bd0, bd_QC, reduceIte, Nat.reduceEqDiff, evStore, Nat.reduceAdd, Nat.reduceMul, Int.reduceEq, Int.reduceLT, Int.reduceLE, Nat.reduceLeDiff, List.reduceReplicate, reduceCtorEq, evRange, cNt, tk4, Nat.reduceLT, drcs, drc, flat]; done) | simp -dsimp [evl, drcs, drc, flat, i64, u32, bl, encL, encB, encLL]) (by first | exact .inl rfl | exact .inr rfl | exact .inr scalB | exact .inr scalI | exact .inr scalT | exact .inr scalM | exact .inr scalMT | exact .inr scalE | exact .inr scalET | exact .inr scalN | exact .inr scalNT | exact .inr scalSt) ?_
    try simp -dsimp (maxSteps := 20000000) (disch := first | omega | decide +kernel) only [↓bp0, bd0, bd_QC, reduceIte, Nat.reduceEqDiff, evStore, Nat.reduceAdd, Nat.reduceMul, Int.reduceEq, Int.reduceLT, Int.reduceLE, Nat.reduceLeDiff, List.reduceReplicate, reduceCtorEq, evRange, cNt, tk4, Nat.reduceLT, c1, c2, Bool.or_false]
    refine CallQ.imm (v_Both l a b hz hn) (by rfl) (by first | rfl | (simp -dsimp (maxSteps := 20000000) (disch := first | omega | decide +kernel) only [↓bp0, bd0, bd_QC, reduceIte, Nat.reduceEqDiff, evStore, Nat.reduceAdd, Nat.reduceMul, Int.reduceEq, Int.reduceLT, Int.reduceLE, Nat.reduceLeDiff, List.reduceReplicate, reduceCtorEq, evRange, cNt, tk4, Nat.reduceLT, drcs, drc, flat]; done) | simp -dsimp [evl, drcs, drc, flat, i64, u32, bl, encL, encB, encLL]) (by first | exact .inl rfl | exact .inr rfl | exact .inr scalB | exact .inr scalI | exact .inr scalT | exact .inr scalM | exact .inr scalMT | exact .inr scalE | exact .inr scalET | exact .inr scalN | exact .inr scalNT | exact .inr scalSt) ?_
    simp -dsimp (maxSteps := 20000000) (disch := first | omega | decide +kernel) only [↓bp0, bd0, bd_QC, reduceIte, Nat.reduceEqDiff, evStore, Nat.reduceAdd, Nat.reduceMul, Int.reduceEq, Int.reduceLT, Int.reduceLE, Nat.reduceLeDiff, List.reduceReplicate, reduceCtorEq, evRange, cNt, tk4, Nat.reduceLT, retQ, resL, finL, newL, flat, tupOf, List.toList_toArray, Tryz.f8, h0]
    exact leT_one .rfl' (by simp)
  obtain ⟨va, vb, hlc⟩ := bothE_zero (of_decide_eq_true h0)
  obtain ⟨p1, p2, p3, p4, p5, p6, p7⟩ := notes_nm va vb
  have k1 := n_News l a b hz
  have k2 := n_Gone l a b hz
  have k3 := n_Text l a b hz
  rw [p3] at k1
  rw [p4] at k2
  rw [p7] at k3
  exact l_LinesG _ _ p1 p2 p5 p6 l a b hz hn hg (r_Great29 l hl hb hv he) c1 c2 h0 k1 k2 k3
end Go.Ab
end
