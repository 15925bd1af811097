import Derived.Test.YtbhmgkbmlbbonaaDoorBG
import Derived.Test.YtbhmgkbmlbbonaaDoorBP
set_option linter.unusedSimpArgs false
set_option linter.unusedVariables false
set_option maxRecDepth 100000
set_option maxHeartbeats 8000000
namespace Go.Ab
open Go Go.Proofs

/-! ### types of the search -/
noncomputable def srF : Array Field := match ti cx.P 68 with
  | some ⟨.struct fs, _, _⟩ => fs
  | _ => #[]
theorem tisB : (ti cx.P 60 = some ⟨.int .u64, 1, 8⟩) ∧ (ti cx.P 66 = some ⟨.slice 60, 1, 24⟩) ∧ (ti cx.P 68 = some ⟨.struct srF, 2, 48⟩) ∧ (ti cx.P 81 = some ⟨.array 4096 3, 4096, 32768⟩) ∧
    (ti cx.P 57 = some ⟨.pointer 68, 1, 8⟩) ∧ (ti cx.P 82 = some ⟨.func #[60] #[3] false, 1, 8⟩) ∧ (ti cx.P 59 = some ⟨.func #[60] #[3, 3] false, 1, 8⟩) ∧ (notIntT cx.P 66 = true) :=
  ⟨by kernel_rfl, by kernel_rfl, by kernel_rfl, by kernel_rfl, by kernel_rfl, by kernel_rfl, by kernel_rfl, by kernel_rfl⟩
theorem fldS : (∀ cs, evFldA cx 68 (.cptr cs) 0 = some (.cptr (cs.drop 0))) ∧ (∀ cs, evFldA cx 68 (.cptr cs) 1 = some (.cptr (cs.drop 1))) ∧
    (∀ i v j o, evFldA cx 68 (.ptr i v j o) 0 = some (.ptr i v j (o + 0))) ∧ (∀ i v j o, evFldA cx 68 (.ptr i v j o) 1 = some (.ptr i v j (o + 1))) :=
  ⟨fun _ => by kernel_rfl, fun _ => by kernel_rfl, fun _ _ _ _ => by kernel_rfl, fun _ _ _ _ => by kernel_rfl⟩
theorem bldS : (∀ es c, evBuild cx 68 [(0, .imm es c)] = some (.agg [.imm es c, .lit (.slice none 0 0)])) := fun _ _ => by kernel_rfl
theorem tzU : tz cx.P 60 = some (.lit (.int .u64 0)) := by kernel_rfl

/-! ### sums of bits -/
theorem ub_add (a b : Int) : W64.ub (a + b) = W64.ub a + W64.ub b := by unfold W64.ub; rw [BitVec.ofInt_add]
theorem swK : (W64.ub 6148914691236517205 = 6148914691236517205#64) ∧ (W64.ub 3689348814741910323 = 3689348814741910323#64) ∧ (W64.ub 1085102592571150095 = 1085102592571150095#64) ∧
    (∀ {n : Int}, IntKind.u64.wrap n = ((W64.ub n).toNat : Int)) ∧ (∀ x : BitVec 64, W64.ub (x.toNat : Int) = x) ∧ (∀ a b, W64.ub (a + b) = W64.ub a + W64.ub b) := ⟨rfl, rfl, rfl, W64.uWrap _, W64.ubT, ub_add⟩
theorem cvUI {a : Int} : evConv cx 91 3 (.lit (.int .u64 a)) = some (.lit (.int .i64 (IntKind.i64.wrap a))) := by rfl
theorem iAnd {C : Ctx} {t : TypeId} {x y : Operand} {a b : Int} : evBin C .and t x y (.lit (.int .i64 a)) (.lit (.int .i64 b)) = some (.lit (.int .i64 (IntKind.i64.wrap ((BitVec.ofInt 64 a &&& BitVec.ofInt 64 b).toNat : Int)))) := rfl
theorem ofI_wrap (n : Int) : BitVec.ofInt 64 (IntKind.i64.wrap n) = BitVec.ofInt 64 n := by
  apply BitVec.eq_of_toInt_eq
  rw [BitVec.toInt_ofInt, BitVec.toInt_ofInt]
  have e : IntKind.i64.wrap n = if n % 18446744073709551616 ≥ 9223372036854775808 then n % 18446744073709551616 - 18446744073709551616 else n % 18446744073709551616 := by simp [IntKind.wrap, IntKind.bits, IntKind.signed]
  rw [e]
  show Int.bmod _ 18446744073709551616 = Int.bmod n 18446744073709551616
  rw [Int.bmod_def, Int.bmod_def]
  split <;> omega
theorem wrap_small {x : BitVec 64} (h : x.toNat < 9223372036854775808) : IntKind.i64.wrap (x.toNat : Int) = (x.toNat : Int) := IntWalk.i64_in _ (by omega)

theorem b_Ones64 (x : BitVec 64) : CallSpec cx 68 [W64.wd x] (i64 ((swar x).toNat : Int)) := by
  refine callSpec_of_vc Tryd.func68 rfl (by decide) (by kernel_rfl) (Nat.le_of_ble_eq_true rfl) ?_
  simp -dsimp (maxSteps := 2000000) (disch := first | omega | decide +kernel) only [↓vcl, ↓vcy, ↓vco, vck, gR, evl, evb, evBuiltin, evLen, evIdxA, evLoad, loadP, aggD, tis, i64, u32, bl, encL, encB, encLL, reduceIte, Nat.reduceEqDiff, forget, forget1, wantd, tzs, eve, evStore, evBox, evAlloc, evBuildSlice, evMakeSlice, evAppend, fillRows, zcells, elemsOf, putAll, PV.one, Nat.reduceAdd, Nat.reduceMul, Int.cast_ofNat_Int, Int.reduceEq, Int.reduceLT, Int.reduceLE, Nat.reduceLeDiff, List.reduceReplicate, reduceCtorEq, retQ, resL, finL, newL, flat, tupOf, List.toList_toArray, Tryd.f68, W64.wd, W64.uBits, W64.uShr, W64.uRules, swK, cvUI, iAnd]
  refine leT_one (int_eq ?_) (by simp)
  rw [ofI_wrap]
  refine Eq.trans (congrArg (fun y : BitVec 64 => IntKind.i64.wrap ((y &&& BitVec.ofInt 64 127).toNat : Int)) (W64.ubT _)) ?_
  refine wrap_small (x := swar x) ?_
  unfold swar
  simp only [BitVec.toNat_and]
  exact Nat.lt_of_le_of_lt Nat.and_le_right (by decide)
theorem b_Ones (x : BitVec 64) : CallSpec cx 59 [W64.wd x] (i64 ((swar x).toNat : Int)) := by
  refine callSpec_of_vc Tryd.func59 rfl (by decide) (by kernel_rfl) (Nat.le_of_ble_eq_true rfl) ?_
  try simp -dsimp (maxSteps := 2000000) (disch := first | omega | decide +kernel) only [↓vcl, ↓vcy, ↓vco, vck, gR, evl, evb, evBuiltin, evLen, evIdxA, evLoad, loadP, aggD, tis, i64, u32, bl, encL, encB, encLL, reduceIte, Nat.reduceEqDiff, forget, forget1, wantd, tzs, eve, evStore, evBox, evAlloc, evBuildSlice, evMakeSlice, evAppend, fillRows, zcells, elemsOf, putAll, PV.one, Nat.reduceAdd, Nat.reduceMul, Int.cast_ofNat_Int, Int.reduceEq, Int.reduceLT, Int.reduceLE, Nat.reduceLeDiff, List.reduceReplicate, reduceCtorEq, Tryd.f59]
  refine CallQ.imm (b_Ones64 x) (by rfl) (by first | rfl | (simp -dsimp (maxSteps := 2000000) (disch := first | omega | decide +kernel) only [↓vcl, ↓vcy, ↓vco, vck, gR, evl, evb, evBuiltin, evLen, evIdxA, evLoad, loadP, aggD, tis, i64, u32, bl, encL, encB, encLL, reduceIte, Nat.reduceEqDiff, forget, forget1, wantd, tzs, eve, evStore, evBox, evAlloc, evBuildSlice, evMakeSlice, evAppend, fillRows, zcells, elemsOf, putAll, PV.one, Nat.reduceAdd, Nat.reduceMul, Int.cast_ofNat_Int, Int.reduceEq, Int.reduceLT, Int.reduceLE, Nat.reduceLeDiff, List.reduceReplicate, reduceCtorEq, drcs, drc, flat]; done) | simp -dsimp [evl, drcs, drc, flat, i64, u32, bl, encL, encB, encLL]) (by first | exact .inl rfl | exact .inr rfl | exact .inr scalB | exact .inr scalI | exact .inr scalT) ?_
  simp -dsimp (maxSteps := 2000000) (disch := first | omega | decide +kernel) only [↓vcl, ↓vcy, ↓vco, vck, gR, evl, evb, evBuiltin, evLen, evIdxA, evLoad, loadP, aggD, tis, i64, u32, bl, encL, encB, encLL, reduceIte, Nat.reduceEqDiff, forget, forget1, wantd, tzs, eve, evStore, evBox, evAlloc, evBuildSlice, evMakeSlice, evAppend, fillRows, zcells, elemsOf, putAll, PV.one, Nat.reduceAdd, Nat.reduceMul, Int.cast_ofNat_Int, Int.reduceEq, Int.reduceLT, Int.reduceLE, Nat.reduceLeDiff, List.reduceReplicate, reduceCtorEq, retQ, resL, finL, newL, flat, tupOf, List.toList_toArray, Tryd.f59]
  exact leT_refl _
theorem swar_small : ∀ x : Fin 4096, (swar (BitVec.ofNat 64 x.val)).toNat = ((List.range 12).filter fun i => (BitVec.ofNat 64 x.val).getLsbD i).length := by decide +kernel
theorem bits_lt {s : BitVec 64} {n : Nat} (h : ∀ i, s.getLsbD i = true → i < n) : s.toNat < 2 ^ n := by
  apply Nat.lt_pow_two_of_testBit
  intro i hi
  rw [Bool.eq_false_iff]
  intro hb
  have := h i hb
  omega
theorem swar_sel {l : List Int} {s : BitVec 64} (hl : l.length ≤ 12) (h : ∀ i, s.getLsbD i = true → i < l.length) : (swar s).toNat = (sel l s).length := by
  have hlt := bits_lt h
  have h12 : s.toNat < 4096 := Nat.lt_of_lt_of_le hlt (by rw [show 4096 = 2 ^ 12 from rfl]; exact Nat.pow_le_pow_right (by omega) hl)
  have := swar_small ⟨s.toNat, h12⟩
  simp only [BitVec.ofNat_toNat, BitVec.setWidth_eq] at this
  rw [this]
  unfold sel
  obtain ⟨d, hd⟩ : ∃ d, 12 = l.length + d := ⟨12 - l.length, by omega⟩
  have key : ∀ n, n ≤ l.length → ((List.range n).filterMap fun i => if s.getLsbD i then l[i]? else none).length = ((List.range n).filter fun i => s.getLsbD i).length := fun n => by
    induction n with
    | zero => intro _; rfl
    | succ n ih =>
      intro hn
      rw [List.range_succ, List.filterMap_append, List.filter_append, List.length_append, List.length_append, ih (by omega)]
      have hx : l[n]? = some l[n] := List.getElem?_eq_getElem (by omega)
      cases hb : s.getLsbD n <;> simp [hb, hx]
  rw [key _ (Nat.le_refl _)]
  have k2 : ∀ d, ((List.range (l.length + d)).filter fun i => s.getLsbD i).length = ((List.range l.length).filter fun i => s.getLsbD i).length := fun d => by
    induction d with
    | zero => rfl
    | succ d ih =>
      rw [← Nat.add_assoc, List.range_succ, List.filter_append, List.length_append, ih]
      cases hb : s.getLsbD (l.length + d)
      · simp [hb]
      · have := h _ hb; omega
  rw [hd, k2]

end Go.Ab
