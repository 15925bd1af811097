import Derived.Test.YtbhmgkbmlbbonaaDoorBL
set_option linter.unusedSimpArgs false
set_option linter.unusedVariables false
set_option maxRecDepth 100000
set_option maxHeartbeats 8000000
namespace Go.Ab
open Go Go.Proofs

/-! ### words as ints -/
def iw (x : BitVec 64) : PV := .lit (.int .i64 (x.toNat : Int))
theorem ofI_nat (x : BitVec 64) : BitVec.ofInt 64 (x.toNat : Int) = x := W64.ubT x
theorem iBits {C : Ctx} {t : TypeId} {x y : Operand} {a b : BitVec 64} :
    evBin C .and t x y (.lit (.int .i64 (a.toNat : Int))) (.lit (.int .i64 (b.toNat : Int))) = some (.lit (.int .i64 (IntKind.i64.wrap ((a &&& b).toNat : Int)))) ∧
    evBin C .or t x y (.lit (.int .i64 (a.toNat : Int))) (.lit (.int .i64 (b.toNat : Int))) = some (.lit (.int .i64 (IntKind.i64.wrap ((a ||| b).toNat : Int)))) ∧
    evBin C .andNot t x y (.lit (.int .i64 (a.toNat : Int))) (.lit (.int .i64 (b.toNat : Int))) = some (.lit (.int .i64 (IntKind.i64.wrap ((a &&& ~~~b).toNat : Int)))) := by
  refine ⟨?_, ?_, ?_⟩
  · show some (PV.lit (.int .i64 (IntKind.i64.wrap ((BitVec.ofInt 64 (a.toNat : Int) &&& BitVec.ofInt 64 (b.toNat : Int)).toNat : Int)))) = _
    rw [ofI_nat, ofI_nat]
  · show some (PV.lit (.int .i64 (IntKind.i64.wrap ((BitVec.ofInt 64 (a.toNat : Int) ||| BitVec.ofInt 64 (b.toNat : Int)).toNat : Int)))) = _
    rw [ofI_nat, ofI_nat]
  · show some (PV.lit (.int .i64 (IntKind.i64.wrap ((BitVec.ofInt 64 (a.toNat : Int) &&& ~~~ BitVec.ofInt 64 (b.toNat : Int)).toNat : Int)))) = _
    rw [ofI_nat, ofI_nat]
theorem iAnd1 {C : Ctx} {t : TypeId} {x y : Operand} {a : BitVec 64} : evBin C .and t x y (.lit (.int .i64 (a.toNat : Int))) (.lit (.int .i64 1)) = some (.lit (.int .i64 ((a &&& 1#64).toNat : Int))) := by
  show some (PV.lit (.int .i64 (IntKind.i64.wrap ((BitVec.ofInt 64 (a.toNat : Int) &&& 1#64).toNat : Int)))) = _
  rw [ofI_nat, wrap_small]
  rw [BitVec.toNat_and]
  exact Nat.lt_of_le_of_lt Nat.and_le_right (by decide)
theorem iShl {C : Ctx} {t : TypeId} {x y : Operand} {n : Nat} (hn : n ≤ 12) : evBin C .shl t x y (.lit (.int .i64 1)) (.lit (.int .i64 (n : Int))) = some (.lit (.int .i64 ((1#64 <<< n).toNat : Int))) := by
  have e : evBin C .shl t x y (.lit (.int .i64 1)) (.lit (.int .i64 (n : Int))) = some (.lit (.int .i64 (IntKind.i64.wrap (1 * 2 ^ (min (n : Int).toNat 64))))) := by
    simp [evBin, conc, eqGuard, binOp, Op.shift, bind, Sem.bind, pure, purely, ofV_int]
    rfl
  rw [e]
  have key : ∀ n : Fin 13, IntKind.i64.wrap (1 * 2 ^ (min (n.val : Int).toNat 64)) = ((1#64 <<< n.val).toNat : Int) := by decide +kernel
  rw [key ⟨n, by omega⟩]
theorem iShr {C : Ctx} {t : TypeId} {x y : Operand} {k : IntKind} {a : BitVec 64} {b : Nat} :
    evBin C .shr t x y (.lit (.int .i64 (a.toNat : Int))) (.lit (.int k (b : Int))) = some (.lit (.int .i64 ((a >>> b).toNat : Int))) := by
  have e : evBin C .shr t x y (.lit (.int .i64 (a.toNat : Int))) (.lit (.int k (b : Int))) = some (.lit (.int .i64 ((a.toNat : Int).fdiv (2 ^ (min (b : Int).toNat 64))))) := by
    simp [evBin, conc, eqGuard, binOp, Op.shift, bind, Sem.bind, pure, purely, ofV_int]
    rfl
  have e2 := W64.uShr (C := C) (t := t) (x := x) (y := y) (k := k) (a := a) (b := (b : Int)) (by omega)
  have e3 : evBin C .shr t x y (.lit (.int .u64 (a.toNat : Int))) (.lit (.int k (b : Int))) = some (.lit (.int .u64 ((a.toNat : Int).fdiv (2 ^ (min (b : Int).toNat 64))))) := by
    simp [evBin, conc, eqGuard, binOp, Op.shift, bind, Sem.bind, pure, purely, ofV_int]
    rfl
  rw [e3] at e2
  simp only [Option.some.injEq, PV.lit.injEq, Value.int.injEq, true_and, Int.toNat_natCast] at e2
  rw [e, Int.toNat_natCast, e2]
theorem one_bit : ∀ x : Fin 4096, x.val ≠ 0 → decide ((BitVec.ofNat 64 x.val) &&& ((BitVec.ofNat 64 x.val) - 1#64) = 0#64) = decide (((List.range 12).filter fun i => (BitVec.ofNat 64 x.val).getLsbD i).length ≤ 1) := by decide +kernel
theorem low_sel {l : List Int} {s : BitVec 64} (hl : l.length ≤ 12) (h : ∀ i, s.getLsbD i = true → i < l.length) (h1 : 1 ≤ (sel l s).length) : decide (s &&& (s - 1#64) = 0#64) = decide ((sel l s).length ≤ 1) ∧ s.toNat ≠ 0 := by
  have hlt := bits_lt h
  have h12 : s.toNat < 4096 := Nat.lt_of_lt_of_le hlt (by rw [show 4096 = 2 ^ 12 from rfl]; exact Nat.pow_le_pow_right (by omega) hl)
  have hs0 : s.toNat ≠ 0 := fun e => by
    have : s = 0#64 := BitVec.eq_of_toNat_eq e
    rw [(sel_nil h).2 this] at h1
    simp at h1
  have e1 := one_bit ⟨s.toNat, h12⟩ hs0
  have e2 := swar_small ⟨s.toNat, h12⟩
  simp only [BitVec.ofNat_toNat, BitVec.setWidth_eq] at e1 e2
  rw [← e2, swar_sel hl h] at e1
  exact ⟨e1, hs0⟩
theorem sub_one {s : BitVec 64} (h : s.toNat ≠ 0) (h2 : s.toNat < 4096) : IntKind.i64.wrap ((s.toNat : Int) - 1) = ((s - 1#64).toNat : Int) := by
  have : (s - 1#64).toNat = s.toNat - 1 := by
    rw [BitVec.toNat_sub_of_le (by rw [BitVec.le_def]; show 1 ≤ _; omega)]; rfl
  rw [this, IntWalk.i64_in _ (by omega)]; omega
theorem small_bits {x : BitVec 64} {n : Nat} (hn : n ≤ 12) (h : ∀ i, x.getLsbD i = true → i < n) : x.toNat < 4096 :=
  Nat.lt_of_lt_of_le (bits_lt h) (by rw [show 4096 = 2 ^ 12 from rfl]; exact Nat.pow_le_pow_right (by omega) hn)
theorem wrap_bits {x : BitVec 64} {n : Nat} (hn : n ≤ 12) (h : ∀ i, x.getLsbD i = true → i < n) : IntKind.i64.wrap (x.toNat : Int) = (x.toNat : Int) := wrap_small (by have := small_bits hn h; omega)

/-! ### the reference's table -/
noncomputable def tbF : Array Field := match ti cx.P 84 with
  | some ⟨.struct fs, _, _⟩ => fs
  | _ => #[]
theorem tisT : (ti cx.P 84 = some ⟨.struct tbF, 2, 48⟩) := by kernel_rfl
theorem fldT : (∀ i v j o, evFldA cx 84 (.ptr i v j o) 0 = some (.ptr i v j (o + 0))) ∧ (∀ i v j o, evFldA cx 84 (.ptr i v j o) 1 = some (.ptr i v j (o + 1))) :=
  ⟨fun _ _ _ _ => by kernel_rfl, fun _ _ _ _ => by kernel_rfl⟩
theorem bldT : (∀ i v o l c, evBuild cx 84 [(1, .own i v o l c)] = some (.agg [.lit (.slice none 0 0), .own i v o l c])) := fun _ _ _ _ _ => by kernel_rfl

structure Tst (l : List Int) (u : List (BitVec 64)) (v : Nat) (σ : Store) (K : List Int) : Prop where
  t : σ 1 = some (.row 0 2 [[.own 2 v 0 l.length false, .own 0 0 0 (2 ^ l.length) false]] false)
  u : σ 2 = some (.row v 1 (u.map fun x => [iw x]) false)
  k : σ 0 = some (.row 0 1 (K.map fun x => [i64 x]) false)
theorem Tst.upd {l : List Int} {u : List (BitVec 64)} {v : Nat} {σ : Store} {K K' : List Int} (h : Tst l u v σ K) : Tst l u v (σ.put 0 (.row 0 1 (K'.map fun x => [i64 x]) false)) K' :=
  ⟨h.t, h.u, rfl⟩
structure Kor (R : Int → Int → Bool) (l : List Int) (K : List Int) : Prop where
  len : K.length = 2 ^ l.length
  known : ∀ s : BitVec 64, (∀ i, s.getLsbD i = true → i < l.length) → K[s.toNat]? = some 0 ∨ K[s.toNat]? = some ((D R (sel l s) : Int) + 1)
theorem Kor.set {R : Int → Int → Bool} {l : List Int} {K : List Int} (h : Kor R l K) (s : BitVec 64) : Kor R l (K.set s.toNat ((D R (sel l s) : Int) + 1)) := by
  refine ⟨by simp [h.len], fun t ht => ?_⟩
  by_cases e : t.toNat = s.toNat
  · have : t = s := BitVec.eq_of_toNat_eq e
    subst this
    rcases h.known t ht with h1 | h1
    · right; rw [List.getElem?_set_self (List.getElem?_eq_some_iff.1 h1).1]
    · right; rw [List.getElem?_set_self (List.getElem?_eq_some_iff.1 h1).1]
  · rw [List.getElem?_set_ne (Ne.symm e)]; exact h.known t ht

section
variable (h : List (List Int)) (l : List Int) (hl : h.length ≤ 9223372036854775807) (hp : ∀ p ∈ h, p.length ≤ 9223372036854775807) (hz : scheck h l = 0)
include hl hp hz
theorem r_newTable : StSpec cx 44 [encLL h, encL l] (fun _ => none) 0 (fun r σ' nx' => r = .ptr 1 0 0 0 ∧ ∃ v, Tst l (upsL h l) v σ' (List.replicate (2 ^ l.length) 0)) := by
  obtain ⟨q1, q2, q3, q4, q5⟩ := scheck_in hz
  have hpw : (1#64 <<< l.length).toNat = 2 ^ l.length := by
    have key : ∀ n : Fin 13, (1#64 <<< n.val).toNat = 2 ^ n.val := by decide +kernel
    exact key ⟨l.length, by omega⟩
  have hp12 : 2 ^ l.length ≤ 4096 := by rw [show 4096 = 2 ^ 12 from rfl]; exact Nat.pow_le_pow_right (by omega) q2
  have hpb : 8 * 2 ^ l.length ≤ 140737488355328 := by omega
  have hsh := fun {t x y} => iShl (C := cx) (t := t) (x := x) (y := y) q2
  rw [hpw] at hsh
  refine stSpec_of_vc Tryd.func44 rfl (by decide) (by kernel_rfl) (Nat.le_of_ble_eq_true rfl) ?_
  try simp -dsimp (maxSteps := 2000000) (disch := first | omega | decide +kernel) only [↓vcl, ↓vcy, ↓vco, vck, gR, evl, evb, evBuiltin, evLen, evIdxA, evLoad, loadP, aggD, tis, i64, u32, bl, encL, encB, encLL, reduceIte, Nat.reduceEqDiff, forget, forget1, wantd, tzs, eve, evStore, evBox, evAlloc, evBuildSlice, evMakeSlice, evAppend, fillRows, zcells, elemsOf, putAll, PV.one, Nat.reduceAdd, Nat.reduceMul, Int.cast_ofNat_Int, Int.reduceEq, Int.reduceLT, Int.reduceLE, Nat.reduceLeDiff, List.reduceReplicate, reduceCtorEq, Tryd.f44, hsh, hpb, bldT, tisT]
  refine LoopQ.ghostC 1 0 1 (by rfl) (by rfl) ?_
  refine LoopQ.rule (fun m st => ∃ (i ver nx : Nat) (us : List (BitVec 64)), i ≤ l.length ∧ us = (upsL h l).take i ∧ 3 ≤ nx ∧ m = l.length - i ∧
    st = ⟨mkE [(0, encLL h), (1, encL l), (5, .ptr 1 0 0 0), (6, i64 i)], mkS [(1, .row 0 2 [[.own 2 ver 0 us.length false, .own 0 0 0 (2 ^ l.length) false]] false), (2, .row ver 1 (us.map fun u => [iw u]) false), (0, .row 0 1 ((List.replicate (2 ^ l.length) (0:Int)).map fun x => [i64 x]) false)], nx⟩) _ _ (weak_of ?_)
    ⟨0, 0, 3, [], by omega, by simp, by omega, rfl, rfl⟩ ?_
  · first | (simp -dsimp (maxSteps := 2000000) (disch := first | omega | decide +kernel) only [↓vcl, ↓vcy, ↓vco, vck, gR, evl, evb, evBuiltin, evLen, evIdxA, evLoad, loadP, aggD, tis, i64, u32, bl, encL, encB, encLL, reduceIte, Nat.reduceEqDiff, forget, forget1, wantd, tzs, eve, evStore, evBox, evAlloc, evBuildSlice, evMakeSlice, evAppend, fillRows, zcells, elemsOf, putAll, PV.one, Nat.reduceAdd, Nat.reduceMul, Int.cast_ofNat_Int, Int.reduceEq, Int.reduceLT, Int.reduceLE, Nat.reduceLeDiff, List.reduceReplicate, reduceCtorEq, List.set_cons_succ, List.getElem?_cons_zero, List.getElem?_cons_succ, Nat.reduceLT, List.length_set, List.map_replicate]; done) | simp -dsimp [evl, putN, i64, u32, bl, encL, encB, encLL, List.set_cons_succ, List.getElem?_cons_zero, List.getElem?_cons_succ, Nat.reduceLT, List.length_set, List.map_replicate]
  rintro m st ⟨i, ver, nx, us, hi, hus, hnx, rfl, rfl⟩
  try simp -dsimp (maxSteps := 2000000) (disch := first | omega | decide +kernel) only [↓vcl, ↓vcy, ↓vco, vck, gR, evl, evb, evBuiltin, evLen, evIdxA, evLoad, loadP, aggD, tis, i64, u32, bl, encL, encB, encLL, reduceIte, Nat.reduceEqDiff, forget, forget1, wantd, tzs, eve, evStore, evBox, evAlloc, evBuildSlice, evMakeSlice, evAppend, fillRows, zcells, elemsOf, putAll, PV.one, Nat.reduceAdd, Nat.reduceMul, Int.cast_ofNat_Int, Int.reduceEq, Int.reduceLT, Int.reduceLE, Nat.reduceLeDiff, List.reduceReplicate, reduceCtorEq]
  refine onC_nlt (fun h2 => ?_) (fun h2 => ?_)
  · obtain ⟨c, hc, hcm⟩ := get_of_lt h2
    have hns : ((nx = 0) = False) ∧ ((0 = nx) = False) ∧ ((nx = 1) = False) ∧ ((1 = nx) = False) ∧ ((nx = 2) = False) ∧ ((2 = nx) = False) := by simp only [eq_iff_iff, iff_false]; omega
    have hul : us.length = i := by rw [hus]; simp [upsL]; omega
    have hub : (us.length + 1) * 8 ≤ 140737488355328 := by omega
    let F : Nat → Bool := fun k => match l[k]? with
      | some d => isA h d c
      | none => false
    have hF : ∀ k x, l[k]? = some x → F k = isA h x c := fun k x hx => by simp only [F, hx]
    try simp -dsimp (maxSteps := 2000000) (disch := first | omega | decide +kernel) only [↓vcl, ↓vcy, ↓vco, vck, gR, evl, evb, evBuiltin, evLen, evIdxA, evLoad, loadP, aggD, tis, i64, u32, bl, encL, encB, encLL, reduceIte, Nat.reduceEqDiff, forget, forget1, wantd, tzs, eve, evStore, evBox, evAlloc, evBuildSlice, evMakeSlice, evAppend, fillRows, zcells, elemsOf, putAll, PV.one, Nat.reduceAdd, Nat.reduceMul, Int.cast_ofNat_Int, Int.reduceEq, Int.reduceLT, Int.reduceLE, Nat.reduceLeDiff, List.reduceReplicate, reduceCtorEq]
    refine LoopQ.rule (fun m st => ∃ (k : Nat), k ≤ l.length ∧ m = l.length - k ∧
      st = ⟨mkE [(0, encLL h), (1, encL l), (5, .ptr 1 0 0 0), (6, i64 i), (7, iw (mk64 F k)), (8, i64 k)], mkS [(1, .row 0 2 [[.own 2 ver 0 us.length false, .own 0 0 0 (2 ^ l.length) false]] false), (2, .row ver 1 (us.map fun u => [iw u]) false), (0, .row 0 1 ((List.replicate (2 ^ l.length) (0:Int)).map fun x => [i64 x]) false)], nx⟩) _ _ (weak_of ?_)
      ⟨0, by omega, rfl, rfl⟩ ?_
    · first | (simp -dsimp (maxSteps := 2000000) (disch := first | omega | decide +kernel) only [↓vcl, ↓vcy, ↓vco, vck, gR, evl, evb, evBuiltin, evLen, evIdxA, evLoad, loadP, aggD, tis, i64, u32, bl, encL, encB, encLL, reduceIte, Nat.reduceEqDiff, forget, forget1, wantd, tzs, eve, evStore, evBox, evAlloc, evBuildSlice, evMakeSlice, evAppend, fillRows, zcells, elemsOf, putAll, PV.one, Nat.reduceAdd, Nat.reduceMul, Int.cast_ofNat_Int, Int.reduceEq, Int.reduceLT, Int.reduceLE, Nat.reduceLeDiff, List.reduceReplicate, reduceCtorEq, mk64, iw, hns, List.map_replicate]; done) | simp -dsimp [evl, putN, i64, u32, bl, encL, encB, encLL, mk64, iw, hns, List.map_replicate]
    rintro m st ⟨k, hk, rfl, rfl⟩
    try simp -dsimp (maxSteps := 2000000) (disch := first | omega | decide +kernel) only [↓vcl, ↓vcy, ↓vco, vck, gR, evl, evb, evBuiltin, evLen, evIdxA, evLoad, loadP, aggD, tis, i64, u32, bl, encL, encB, encLL, reduceIte, Nat.reduceEqDiff, forget, forget1, wantd, tzs, eve, evStore, evBox, evAlloc, evBuildSlice, evMakeSlice, evAppend, fillRows, zcells, elemsOf, putAll, PV.one, Nat.reduceAdd, Nat.reduceMul, Int.cast_ofNat_Int, Int.reduceEq, Int.reduceLT, Int.reduceLE, Nat.reduceLeDiff, List.reduceReplicate, reduceCtorEq]
    refine onC_nlt (fun h3 => ?_) (fun h3 => ?_)
    · obtain ⟨d, hd, hdm⟩ := get_of_lt h3
      have hsk := fun {t x y} => iShl (C := cx) (t := t) (x := x) (y := y) (show k ≤ 12 by omega)
      try simp -dsimp (maxSteps := 2000000) (disch := first | omega | decide +kernel) only [↓vcl, ↓vcy, ↓vco, vck, gR, evl, evb, evBuiltin, evLen, evIdxA, evLoad, loadP, aggD, tis, i64, u32, bl, encL, encB, encLL, reduceIte, Nat.reduceEqDiff, forget, forget1, wantd, tzs, eve, evStore, evBox, evAlloc, evBuildSlice, evMakeSlice, evAppend, fillRows, zcells, elemsOf, putAll, PV.one, Nat.reduceAdd, Nat.reduceMul, Int.cast_ofNat_Int, Int.reduceEq, Int.reduceLT, Int.reduceLE, Nat.reduceLeDiff, List.reduceReplicate, reduceCtorEq, hd, hc]
      refine CallY.imm (s14 h hl hp d c) (by rfl) (by first | rfl | (simp -dsimp (maxSteps := 2000000) (disch := first | omega | decide +kernel) only [↓vcl, ↓vcy, ↓vco, vck, gR, evl, evb, evBuiltin, evLen, evIdxA, evLoad, loadP, aggD, tis, i64, u32, bl, encL, encB, encLL, reduceIte, Nat.reduceEqDiff, forget, forget1, wantd, tzs, eve, evStore, evBox, evAlloc, evBuildSlice, evMakeSlice, evAppend, fillRows, zcells, elemsOf, putAll, PV.one, Nat.reduceAdd, Nat.reduceMul, Int.cast_ofNat_Int, Int.reduceEq, Int.reduceLT, Int.reduceLE, Nat.reduceLeDiff, List.reduceReplicate, reduceCtorEq, drcs, drc, flat]; done) | simp -dsimp [evl, drcs, drc, flat, i64, u32, bl, encL, encB, encLL]) (by first | exact .inl rfl | exact .inr rfl | exact .inr scalB | exact .inr scalI | exact .inr scalT) ?_
      cases hFk : F k
      · have hA : isA h d c = false := by rw [← hF k d hd]; exact hFk
        try simp -dsimp (maxSteps := 2000000) (disch := first | omega | decide +kernel) only [↓vcl, ↓vcy, ↓vco, vck, gR, evl, evb, evBuiltin, evLen, evIdxA, evLoad, loadP, aggD, tis, i64, u32, bl, encL, encB, encLL, reduceIte, Nat.reduceEqDiff, forget, forget1, wantd, tzs, eve, evStore, evBox, evAlloc, evBuildSlice, evMakeSlice, evAppend, fillRows, zcells, elemsOf, putAll, PV.one, Nat.reduceAdd, Nat.reduceMul, Int.cast_ofNat_Int, Int.reduceEq, Int.reduceLT, Int.reduceLE, Nat.reduceLeDiff, List.reduceReplicate, reduceCtorEq, hA]
        refine ⟨_, _, ?_, weak_of ?_, k + 1, h3, rfl, rfl⟩
        · omega
        · first | (simp -dsimp (maxSteps := 2000000) (disch := first | omega | decide +kernel) only [↓vcl, ↓vcy, ↓vco, vck, gR, evl, evb, evBuiltin, evLen, evIdxA, evLoad, loadP, aggD, tis, i64, u32, bl, encL, encB, encLL, reduceIte, Nat.reduceEqDiff, forget, forget1, wantd, tzs, eve, evStore, evBox, evAlloc, evBuildSlice, evMakeSlice, evAppend, fillRows, zcells, elemsOf, putAll, PV.one, Nat.reduceAdd, Nat.reduceMul, Int.cast_ofNat_Int, Int.reduceEq, Int.reduceLT, Int.reduceLE, Nat.reduceLeDiff, List.reduceReplicate, reduceCtorEq, wrapS h3 (show l.length ≤ 9223372036854775807 by omega), mk64_snoc, hFk, Bool.false_eq_true, if_false, BitVec.or_zero, List.map_replicate]; done) | simp -dsimp [evl, putN, i64, u32, bl, encL, encB, encLL, wrapS h3 (show l.length ≤ 9223372036854775807 by omega), mk64_snoc, hFk, Bool.false_eq_true, if_false, BitVec.or_zero, List.map_replicate]
      · have hA : isA h d c = true := by rw [← hF k d hd]; exact hFk
        have hwb : IntKind.i64.wrap ((mk64 F k ||| 1#64 <<< k).toNat : Int) = ((mk64 F k ||| 1#64 <<< k).toNat : Int) := wrap_bits (n := k + 1) (by omega) fun j hj => by
          have : (mk64 F (k + 1)).getLsbD j = true := by rw [mk64_snoc, hFk, if_pos rfl]; exact hj
          rw [mk64_get _ _ (by omega), Bool.and_eq_true] at this
          exact of_decide_eq_true this.1
        try simp -dsimp (maxSteps := 2000000) (disch := first | omega | decide +kernel) only [↓vcl, ↓vcy, ↓vco, vck, gR, evl, evb, evBuiltin, evLen, evIdxA, evLoad, loadP, aggD, tis, i64, u32, bl, encL, encB, encLL, reduceIte, Nat.reduceEqDiff, forget, forget1, wantd, tzs, eve, evStore, evBox, evAlloc, evBuildSlice, evMakeSlice, evAppend, fillRows, zcells, elemsOf, putAll, PV.one, Nat.reduceAdd, Nat.reduceMul, Int.cast_ofNat_Int, Int.reduceEq, Int.reduceLT, Int.reduceLE, Nat.reduceLeDiff, List.reduceReplicate, reduceCtorEq, hA, iw, hsk, iBits, hwb]
        refine ⟨_, _, ?_, weak_of ?_, k + 1, h3, rfl, rfl⟩
        · omega
        · first | (simp -dsimp (maxSteps := 2000000) (disch := first | omega | decide +kernel) only [↓vcl, ↓vcy, ↓vco, vck, gR, evl, evb, evBuiltin, evLen, evIdxA, evLoad, loadP, aggD, tis, i64, u32, bl, encL, encB, encLL, reduceIte, Nat.reduceEqDiff, forget, forget1, wantd, tzs, eve, evStore, evBox, evAlloc, evBuildSlice, evMakeSlice, evAppend, fillRows, zcells, elemsOf, putAll, PV.one, Nat.reduceAdd, Nat.reduceMul, Int.cast_ofNat_Int, Int.reduceEq, Int.reduceLT, Int.reduceLE, Nat.reduceLeDiff, List.reduceReplicate, reduceCtorEq, wrapS h3 (show l.length ≤ 9223372036854775807 by omega), mk64_snoc, hFk, iw, if_true, List.map_replicate]; done) | simp -dsimp [evl, putN, i64, u32, bl, encL, encB, encLL, wrapS h3 (show l.length ≤ 9223372036854775807 by omega), mk64_snoc, hFk, iw, if_true, List.map_replicate]
    have hkl : k = l.length := by omega
    subst hkl
    have hui : (upsL h l)[i]? = some (mk64 F l.length) := by unfold upsL; rw [List.getElem?_map, hc]; rfl
    try simp -dsimp (maxSteps := 2000000) (disch := first | omega | decide +kernel) only [↓vcl, ↓vcy, ↓vco, vck, gR, evl, evb, evBuiltin, evLen, evIdxA, evLoad, loadP, aggD, tis, i64, u32, bl, encL, encB, encLL, reduceIte, Nat.reduceEqDiff, forget, forget1, wantd, tzs, eve, evStore, evBox, evAlloc, evBuildSlice, evMakeSlice, evAppend, fillRows, zcells, elemsOf, putAll, PV.one, Nat.reduceAdd, Nat.reduceMul, Int.cast_ofNat_Int, Int.reduceEq, Int.reduceLT, Int.reduceLE, Nat.reduceLeDiff, List.reduceReplicate, reduceCtorEq, hub, fldT, tisT, List.set_cons_succ, List.getElem?_cons_zero, List.getElem?_cons_succ, Nat.reduceLT, List.length_set, hns, iw]
    refine ⟨_, _, ?_, weak_of ?_, i + 1, ver + 1, nx + 1, us ++ [mk64 F l.length], h2, by rw [take_succ hui, hus], by omega, rfl, rfl⟩
    · omega
    · first | (simp -dsimp (maxSteps := 2000000) (disch := first | omega | decide +kernel) only [↓vcl, ↓vcy, ↓vco, vck, gR, evl, evb, evBuiltin, evLen, evIdxA, evLoad, loadP, aggD, tis, i64, u32, bl, encL, encB, encLL, reduceIte, Nat.reduceEqDiff, forget, forget1, wantd, tzs, eve, evStore, evBox, evAlloc, evBuildSlice, evMakeSlice, evAppend, fillRows, zcells, elemsOf, putAll, PV.one, Nat.reduceAdd, Nat.reduceMul, Int.cast_ofNat_Int, Int.reduceEq, Int.reduceLT, Int.reduceLE, Nat.reduceLeDiff, List.reduceReplicate, reduceCtorEq, wrapS h2 (show l.length ≤ 9223372036854775807 by omega), List.set_cons_succ, List.getElem?_cons_zero, List.getElem?_cons_succ, Nat.reduceLT, List.length_set, hns, iw, List.map_replicate]; done) | simp -dsimp [evl, putN, i64, u32, bl, encL, encB, encLL, wrapS h2 (show l.length ≤ 9223372036854775807 by omega), List.set_cons_succ, List.getElem?_cons_zero, List.getElem?_cons_succ, Nat.reduceLT, List.length_set, hns, iw, List.map_replicate]
  have hil : i = l.length := by omega
  subst hil
  have hus2 : us = upsL h l := by rw [hus, List.take_of_length_le (by simp [upsL])]
  clear hus
  subst hus2
  have hul : (upsL h l).length = l.length := by simp [upsL]
  simp -dsimp (maxSteps := 2000000) (disch := first | omega | decide +kernel) only [↓vcl, ↓vcy, ↓vco, vck, gR, evl, evb, evBuiltin, evLen, evIdxA, evLoad, loadP, aggD, tis, i64, u32, bl, encL, encB, encLL, reduceIte, Nat.reduceEqDiff, forget, forget1, wantd, tzs, eve, evStore, evBox, evAlloc, evBuildSlice, evMakeSlice, evAppend, fillRows, zcells, elemsOf, putAll, PV.one, Nat.reduceAdd, Nat.reduceMul, Int.cast_ofNat_Int, Int.reduceEq, Int.reduceLT, Int.reduceLE, Nat.reduceLeDiff, List.reduceReplicate, reduceCtorEq, stQ, resL, tupOf, List.toList_toArray, Tryd.f44]
  exact ⟨_, _, .refl _, ver, by simp only [st_put_σ, mkS, hul]; rfl, rfl, rfl⟩
end
end Go.Ab
