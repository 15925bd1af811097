import Derived.Test.YtbhmgkbmlbbonaaDoorBI
set_option linter.unusedSimpArgs false
set_option linter.unusedVariables false
set_option maxRecDepth 100000
set_option maxHeartbeats 8000000
namespace Go.Ab
open Go Go.Proofs

/-! ### the depth of a set of suspects -/
structure Kok (R : Int → Int → Bool) (l : List Int) (K : List Int) : Prop where
  len : K.length = 4096
  known : ∀ s : BitVec 64, (∀ i, s.getLsbD i = true → i < l.length) → K[s.toNat]? = some 0 ∨ K[s.toNat]? = some ((D R (sel l s) : Int) + 1)
def rowK (K : List Int) : Blk := .row 0 4096 [K.map fun x => i64 x] false
def cloD (iK iF : Nat) : PV := .clo (.func 58) [] [.ptr iK 0 0 0, .ptr iF 0 0 0]
def cloF (ib iD : Nat) : PV := .clo (.func 57) [] [.ptr ib 0 0 0, .ptr iD 0 0 0]
structure Bst (l : List Int) (u : List (BitVec 64)) (ib iK iD iF : Nat) (σ : Store) (K : List Int) : Prop where
  b : σ ib = some (.row 0 1 [[.cptr [encL l, encU u]]] false)
  k : σ iK = some (rowK K)
  d : σ iD = some (.row 0 1 [[cloD iK iF]] false)
  f : σ iF = some (.row 0 1 [[cloF ib iD]] false)
  ne : iK ≠ ib ∧ iK ≠ iD ∧ iK ≠ iF
theorem Bst.upd {l : List Int} {u : List (BitVec 64)} {ib iK iD iF : Nat} {σ : Store} {K K' : List Int} (h : Bst l u ib iK iD iF σ K) : Bst l u ib iK iD iF (σ.put iK (rowK K')) K' := by
  obtain ⟨h1, h2, h3⟩ := h.ne
  refine ⟨?_, ?_, ?_, ?_, h.ne⟩ <;> simp only [Store.put]
  · rw [if_neg (Ne.symm h1)]; exact h.b
  · simp
  · rw [if_neg (Ne.symm h2)]; exact h.d
  · rw [if_neg (Ne.symm h3)]; exact h.f

theorem bitZ {x : BitVec 64} {i : Nat} : decide (x >>> i &&& 1#64 = 0#64) = !x.getLsbD i := by
  rw [BitVec.and_one_eq_setWidth_ofBool_getLsbD, BitVec.getLsbD_ushiftRight, Nat.add_zero]
  cases x.getLsbD i <;> decide
theorem mxI {P : Program} {a b : Int} : ((concs [PV.lit (.int .i64 a), PV.lit (.int .i64 b)]).bind fun vs => (purely P (Builtin.max_ #[] 0 vs.toArray)).bind ofV) = some (.lit (.int .i64 (if b > a then b else a))) := by
  rfl
theorem mxN {a b : Nat} : (if (b : Int) > (a : Int) then (b : Int) else (a : Int)) = ((max a b : Nat) : Int) := by split <;> omega
theorem neg1 : decide ((-1 : Int) = -1) = true := rfl

section
variable (R : Int → Int → Bool) (l : List Int) (u : List (BitVec 64)) (ib iK iD iF : Nat)
variable (hok : Ok R l) (hn : l.length ≤ 12) (hul : u.length = l.length) (hU : ∀ (i j : Nat) (c d : Int) (x : BitVec 64), l[i]? = some c → l[j]? = some d → u[i]? = some x → x.getLsbD j = R d c)

def DepSp (s : BitVec 64) : Prop := ∀ σ nx K, Bst l u ib iK iD iF σ K → Kok R l K →
  StSpec cx 58 [W64.wd s, .ptr iK 0 0 0, .ptr iF 0 0 0] σ nx (fun r σ' nx' => r = i64 (D R (sel l s)) ∧ nx' = nx ∧ ∃ K', Kok R l K' ∧ σ' = σ.put iK (rowK K'))
def FirSp (s : BitVec 64) : Prop := ∀ σ nx K, Bst l u ib iK iD iF σ K → Kok R l K →
  StSpec cx 57 [W64.wd s, .ptr ib 0 0 0, .ptr iD 0 0 0] σ nx (fun r σ' nx' => (∃ a : Nat, r = .tup [i64 (D R (sel l s)), i64 a] ∧ s.getLsbD a = true ∧ l[a]? = some (nxt R (sel l s))) ∧ nx' = nx ∧ ∃ K', Kok R l K' ∧ σ' = σ.put iK (rowK K'))

include hok hn hul hU
theorem first_of (s : BitVec 64) (hs : ∀ i, s.getLsbD i = true → i < l.length) (h2 : 2 ≤ (sel l s).length)
    (ih : ∀ t : BitVec 64, (∀ i, t.getLsbD i = true → i < l.length) → 1 ≤ (sel l t).length → (sel l t).length < (sel l s).length → DepSp R l u ib iK iD iF t) : FirSp R l u ib iK iD iF s := by
  intro σ nx K hB hK
  have hselle := List.Sublist.length_le (sel_sub (l := l) (s := s))
  have hsame := put_same hB.k
  refine stSpec_of_vc Tryd.func57 rfl (by decide) (by kernel_rfl) (Nat.le_of_ble_eq_true rfl) ?_
  try simp -dsimp (maxSteps := 2000000) (disch := first | omega | decide +kernel) only [↓vcl, ↓vcy, ↓vco, vck, gR, evl, evb, evBuiltin, evLen, evIdxA, evLoad, loadP, aggD, tis, i64, u32, bl, encL, encB, encLL, reduceIte, Nat.reduceEqDiff, forget, forget1, wantd, tzs, eve, evStore, evBox, evAlloc, evBuildSlice, evMakeSlice, evAppend, fillRows, zcells, elemsOf, putAll, PV.one, Nat.reduceAdd, Nat.reduceMul, Int.cast_ofNat_Int, Int.reduceEq, Int.reduceLT, Int.reduceLE, Nat.reduceLeDiff, List.reduceReplicate, reduceCtorEq, Tryd.f57, hB.b, fldS, tisB, List.set_cons_succ, List.getElem?_cons_zero, List.getElem?_cons_succ, Nat.reduceLT, List.length_set, encU]
  refine LoopQ.rule (fun m st => ∃ (i : Nat) (K' : List Int), i ≤ l.length ∧ Kok R l K' ∧ m = l.length - i ∧
    st = ⟨mkE [(0, W64.wd s), (1, .ptr ib 0 0 0), (2, .ptr iD 0 0 0), (6, i64 (scan l.length (vbit R l s) i).1), (7, i64 (scan l.length (vbit R l s) i).2), (21, encU u), (22, i64 l.length), (23, i64 i)], σ.put iK (rowK K'), nx⟩) _ _ (weak_ofS ?_)
    ⟨0, K, by omega, hK, rfl, rfl⟩ ?_
  · first | (simp -dsimp (maxSteps := 2000000) (disch := first | omega | decide +kernel) only [↓vcl, ↓vcy, ↓vco, vck, gR, evl, evb, evBuiltin, evLen, evIdxA, evLoad, loadP, aggD, tis, i64, u32, bl, encL, encB, encLL, reduceIte, Nat.reduceEqDiff, forget, forget1, wantd, tzs, eve, evStore, evBox, evAlloc, evBuildSlice, evMakeSlice, evAppend, fillRows, zcells, elemsOf, putAll, PV.one, Nat.reduceAdd, Nat.reduceMul, Int.cast_ofNat_Int, Int.reduceEq, Int.reduceLT, Int.reduceLE, Nat.reduceLeDiff, List.reduceReplicate, reduceCtorEq, hsame, scan, encU, hul, W64.wd]; done) | simp -dsimp [evl, putN, i64, u32, bl, encL, encB, encLL, hsame, scan, encU, hul, W64.wd]
  rintro m st ⟨i, K', hi, hK', rfl, rfl⟩
  have hB' := hB.upd (K' := K')
  have hnE : ((iD = iK) = False) ∧ ((ib = iK) = False) ∧ ((iF = iK) = False) := by
    obtain ⟨n1, n2, n3⟩ := hB.ne
    simp only [eq_iff_iff, iff_false]; exact ⟨Ne.symm n2, Ne.symm n1, Ne.symm n3⟩
  try simp -dsimp (maxSteps := 2000000) (disch := first | omega | decide +kernel) only [↓vcl, ↓vcy, ↓vco, vck, gR, evl, evb, evBuiltin, evLen, evIdxA, evLoad, loadP, aggD, tis, i64, u32, bl, encL, encB, encLL, reduceIte, Nat.reduceEqDiff, forget, forget1, wantd, tzs, eve, evStore, evBox, evAlloc, evBuildSlice, evMakeSlice, evAppend, fillRows, zcells, elemsOf, putAll, PV.one, Nat.reduceAdd, Nat.reduceMul, Int.cast_ofNat_Int, Int.reduceEq, Int.reduceLT, Int.reduceLE, Nat.reduceLeDiff, List.reduceReplicate, reduceCtorEq]
  refine onC_nlt (fun h3 => ?_) (fun h3 => ?_)
  · obtain ⟨c, hc, hcm⟩ := get_of_lt h3
    obtain ⟨x, hx, hxm⟩ := get_of_lt (show i < u.length by omega)
    have hbadS : sel l (s &&& x) = (sel l s).filter fun d => R d c := sel_filt fun j d hd => by rw [BitVec.getLsbD_and, hU i j c d x hc hd hx]
    have hgoodS : sel l (s &&& ~~~x) = (sel l s).filter fun d => !R d c := sel_filt fun j d hd => by
      have hj := (List.getElem?_eq_some_iff.1 hd).1
      rw [BitVec.getLsbD_and, BitVec.getLsbD_not, hU i j c d x hc hd hx, decide_eq_true (show j < 64 by omega), Bool.true_and]
    have hbb : ∀ i, (s &&& x).getLsbD i = true → i < l.length := fun i hi => hs i (by rw [BitVec.getLsbD_and, Bool.and_eq_true] at hi; exact hi.1)
    have hgb : ∀ i, (s &&& ~~~x).getLsbD i = true → i < l.length := fun i hi => hs i (by rw [BitVec.getLsbD_and, Bool.and_eq_true] at hi; exact hi.1)
    have hbn := sel_nil hbb
    have hgn := sel_nil hgb
    have hskip : vbit R l s i = none → scan l.length (vbit R l s) (i + 1) = scan l.length (vbit R l s) i := fun h => by rw [scan, h]
    have hv : s.getLsbD i = true → vbit R l s i = val R (sel l s) c := fun h => by unfold vbit; rw [if_pos h, hc]; rfl
    cases hA : s.getLsbD i
    · have e := hskip (by unfold vbit; rw [hA]; rfl)
      try simp -dsimp (maxSteps := 2000000) (disch := first | omega | decide +kernel) only [↓vcl, ↓vcy, ↓vco, vck, gR, evl, evb, evBuiltin, evLen, evIdxA, evLoad, loadP, aggD, tis, i64, u32, bl, encL, encB, encLL, reduceIte, Nat.reduceEqDiff, forget, forget1, wantd, tzs, eve, evStore, evBox, evAlloc, evBuildSlice, evMakeSlice, evAppend, fillRows, zcells, elemsOf, putAll, PV.one, Nat.reduceAdd, Nat.reduceMul, Int.cast_ofNat_Int, Int.reduceEq, Int.reduceLT, Int.reduceLE, Nat.reduceLeDiff, List.reduceReplicate, reduceCtorEq, encU, hx, tisB, W64.wd, W64.uBits, W64.uShr, W64.uRules, bitZ, hA]
      refine ⟨_, _, ?_, weak_ofS ?_, i + 1, K', h3, hK', rfl, rfl⟩
      · omega
      · first | (simp -dsimp (maxSteps := 2000000) (disch := first | omega | decide +kernel) only [↓vcl, ↓vcy, ↓vco, vck, gR, evl, evb, evBuiltin, evLen, evIdxA, evLoad, loadP, aggD, tis, i64, u32, bl, encL, encB, encLL, reduceIte, Nat.reduceEqDiff, forget, forget1, wantd, tzs, eve, evStore, evBox, evAlloc, evBuildSlice, evMakeSlice, evAppend, fillRows, zcells, elemsOf, putAll, PV.one, Nat.reduceAdd, Nat.reduceMul, Int.cast_ofNat_Int, Int.reduceEq, Int.reduceLT, Int.reduceLE, Nat.reduceLeDiff, List.reduceReplicate, reduceCtorEq, wrapS h3 (show l.length ≤ 9223372036854775807 by omega), e, W64.wd]; done) | simp -dsimp [evl, putN, i64, u32, bl, encL, encB, encLL, wrapS h3 (show l.length ≤ 9223372036854775807 by omega), e, W64.wd]
    cases hBz : decide (s &&& x = 0#64)
    case true =>
      have e := hskip (by rw [hv hA]; unfold val valO; rw [if_pos (.inl (by rw [← hbadS]; exact hbn.2 (of_decide_eq_true hBz)))])
      try simp -dsimp (maxSteps := 2000000) (disch := first | omega | decide +kernel) only [↓vcl, ↓vcy, ↓vco, vck, gR, evl, evb, evBuiltin, evLen, evIdxA, evLoad, loadP, aggD, tis, i64, u32, bl, encL, encB, encLL, reduceIte, Nat.reduceEqDiff, forget, forget1, wantd, tzs, eve, evStore, evBox, evAlloc, evBuildSlice, evMakeSlice, evAppend, fillRows, zcells, elemsOf, putAll, PV.one, Nat.reduceAdd, Nat.reduceMul, Int.cast_ofNat_Int, Int.reduceEq, Int.reduceLT, Int.reduceLE, Nat.reduceLeDiff, List.reduceReplicate, reduceCtorEq, encU, hx, tisB, W64.wd, W64.uBits, W64.uShr, W64.uRules, bitZ, hA, hBz]
      refine ⟨_, _, ?_, weak_ofS ?_, i + 1, K', h3, hK', rfl, rfl⟩
      · omega
      · first | (simp -dsimp (maxSteps := 2000000) (disch := first | omega | decide +kernel) only [↓vcl, ↓vcy, ↓vco, vck, gR, evl, evb, evBuiltin, evLen, evIdxA, evLoad, loadP, aggD, tis, i64, u32, bl, encL, encB, encLL, reduceIte, Nat.reduceEqDiff, forget, forget1, wantd, tzs, eve, evStore, evBox, evAlloc, evBuildSlice, evMakeSlice, evAppend, fillRows, zcells, elemsOf, putAll, PV.one, Nat.reduceAdd, Nat.reduceMul, Int.cast_ofNat_Int, Int.reduceEq, Int.reduceLT, Int.reduceLE, Nat.reduceLeDiff, List.reduceReplicate, reduceCtorEq, wrapS h3 (show l.length ≤ 9223372036854775807 by omega), e, W64.wd]; done) | simp -dsimp [evl, putN, i64, u32, bl, encL, encB, encLL, wrapS h3 (show l.length ≤ 9223372036854775807 by omega), e, W64.wd]
    cases hCz : decide (s &&& ~~~x = 0#64)
    case true =>
      have e := hskip (by rw [hv hA]; unfold val valO; rw [if_pos (.inr (by rw [← hgoodS]; exact hgn.2 (of_decide_eq_true hCz)))])
      try simp -dsimp (maxSteps := 2000000) (disch := first | omega | decide +kernel) only [↓vcl, ↓vcy, ↓vco, vck, gR, evl, evb, evBuiltin, evLen, evIdxA, evLoad, loadP, aggD, tis, i64, u32, bl, encL, encB, encLL, reduceIte, Nat.reduceEqDiff, forget, forget1, wantd, tzs, eve, evStore, evBox, evAlloc, evBuildSlice, evMakeSlice, evAppend, fillRows, zcells, elemsOf, putAll, PV.one, Nat.reduceAdd, Nat.reduceMul, Int.cast_ofNat_Int, Int.reduceEq, Int.reduceLT, Int.reduceLE, Nat.reduceLeDiff, List.reduceReplicate, reduceCtorEq, encU, hx, tisB, W64.wd, W64.uBits, W64.uShr, W64.uRules, bitZ, hA, hBz, hCz]
      refine ⟨_, _, ?_, weak_ofS ?_, i + 1, K', h3, hK', rfl, rfl⟩
      · omega
      · first | (simp -dsimp (maxSteps := 2000000) (disch := first | omega | decide +kernel) only [↓vcl, ↓vcy, ↓vco, vck, gR, evl, evb, evBuiltin, evLen, evIdxA, evLoad, loadP, aggD, tis, i64, u32, bl, encL, encB, encLL, reduceIte, Nat.reduceEqDiff, forget, forget1, wantd, tzs, eve, evStore, evBox, evAlloc, evBuildSlice, evMakeSlice, evAppend, fillRows, zcells, elemsOf, putAll, PV.one, Nat.reduceAdd, Nat.reduceMul, Int.cast_ofNat_Int, Int.reduceEq, Int.reduceLT, Int.reduceLE, Nat.reduceLeDiff, List.reduceReplicate, reduceCtorEq, wrapS h3 (show l.length ≤ 9223372036854775807 by omega), e, W64.wd]; done) | simp -dsimp [evl, putN, i64, u32, bl, encL, encB, encLL, wrapS h3 (show l.length ≤ 9223372036854775807 by omega), e, W64.wd]
    have hne1 : ((sel l s).filter fun d => R d c) ≠ [] := fun h => of_decide_eq_false hBz (hbn.1 (by rw [hbadS]; exact h))
    have hne2 : ((sel l s).filter fun d => !R d c) ≠ [] := fun h => of_decide_eq_false hCz (hgn.1 (by rw [hgoodS]; exact h))
    have hlt := part_lt hne1 hne2
    have hp1 := List.length_pos_iff.2 hne1
    have hp2 := List.length_pos_iff.2 hne2
    have hvi : vbit R l s i = some (1 + max (D R (sel l (s &&& x))) (D R (sel l (s &&& ~~~x)))) := by
      rw [hv hA]; unfold val valO; rw [if_neg (by rw [not_or]; exact ⟨hne1, hne2⟩), hbadS, hgoodS]
    have hD1 := ih (s &&& x) hbb (by rw [hbadS]; omega) (by rw [hbadS]; omega)
    have hD2 := ih (s &&& ~~~x) hgb (by rw [hgoodS]; omega) (by rw [hgoodS]; omega)
    try simp -dsimp (maxSteps := 2000000) (disch := first | omega | decide +kernel) only [↓vcl, ↓vcy, ↓vco, vck, gR, evl, evb, evBuiltin, evLen, evIdxA, evLoad, loadP, aggD, tis, i64, u32, bl, encL, encB, encLL, reduceIte, Nat.reduceEqDiff, forget, forget1, wantd, tzs, eve, evStore, evBox, evAlloc, evBuildSlice, evMakeSlice, evAppend, fillRows, zcells, elemsOf, putAll, PV.one, Nat.reduceAdd, Nat.reduceMul, Int.cast_ofNat_Int, Int.reduceEq, Int.reduceLT, Int.reduceLE, Nat.reduceLeDiff, List.reduceReplicate, reduceCtorEq, encU, hx, tisB, W64.wd, W64.uBits, W64.uShr, W64.uRules, bitZ, hA, hBz, hCz]
    refine vc_regJ (fun τ => τ iD = some (.row 0 1 [[cloD iK iF]] false)) [3, 4] [2, 5] (by kernel_rfl) (by kernel_rfl) ?_ ?_
    · exact hB'.d
    try simp -dsimp (maxSteps := 2000000) (disch := first | omega | decide +kernel) only [↓vcl, ↓vcy, ↓vco, vck, gR, evl, evb, evBuiltin, evLen, evIdxA, evLoad, loadP, aggD, tis, i64, u32, bl, encL, encB, encLL, reduceIte, Nat.reduceEqDiff, forget, forget1, wantd, tzs, eve, evStore, evBox, evAlloc, evBuildSlice, evMakeSlice, evAppend, fillRows, zcells, elemsOf, putAll, PV.one, Nat.reduceAdd, Nat.reduceMul, Int.cast_ofNat_Int, Int.reduceEq, Int.reduceLT, Int.reduceLE, Nat.reduceLeDiff, List.reduceReplicate, reduceCtorEq, vcj, implies_true, hnE, hB.d, cloD, tisB]
    refine EffQ.inm (hD1 _ _ K' hB' hK') ⟨_, _, _, rfl, rfl, K', hK', rfl⟩ (by rfl) ?_
    rintro r σ' nx' ⟨rfl, rfl, K2, hK2, rfl⟩
    have hB2 := hB'.upd (K' := K2)
    refine ⟨.inr hB2.d, ?_⟩
    try simp -dsimp (maxSteps := 2000000) (disch := first | omega | decide +kernel) only [↓vcl, ↓vcy, ↓vco, vck, gR, evl, evb, evBuiltin, evLen, evIdxA, evLoad, loadP, aggD, tis, i64, u32, bl, encL, encB, encLL, reduceIte, Nat.reduceEqDiff, forget, forget1, wantd, tzs, eve, evStore, evBox, evAlloc, evBuildSlice, evMakeSlice, evAppend, fillRows, zcells, elemsOf, putAll, PV.one, Nat.reduceAdd, Nat.reduceMul, Int.cast_ofNat_Int, Int.reduceEq, Int.reduceLT, Int.reduceLE, Nat.reduceLeDiff, List.reduceReplicate, reduceCtorEq, vcj, implies_true, hnE, hB.d, cloD, tisB]
    refine ⟨fun τ hτ => by rw [hτ]; rfl, ?_⟩
    refine EffQ.inm (hD2 _ _ K2 hB2 hK2) ⟨_, _, _, rfl, rfl, K2, hK2, rfl⟩ (by rfl) ?_
    rintro r σ' nx' ⟨rfl, rfl, K3, hK3, rfl⟩
    have hB3 := hB2.upd (K' := K3)
    refine ⟨.inr hB3.d, ?_⟩
    have hDD : 1 + max (D R (sel l (s &&& x))) (D R (sel l (s &&& ~~~x))) ≤ 100 := by
      have o1 := D_lt _ _ rfl (hok.sub (sel_sub (l := l) (s := s &&& x))) (by rw [hbadS]; omega)
      have o2 := D_lt _ _ rfl (hok.sub (sel_sub (l := l) (s := s &&& ~~~x))) (by rw [hgoodS]; omega)
      have o3 := List.Sublist.length_le (sel_sub (l := l) (s := s &&& x))
      have o4 := List.Sublist.length_le (sel_sub (l := l) (s := s &&& ~~~x))
      omega
    have hw : IntKind.i64.wrap (1 + ((max (D R (sel l (s &&& x))) (D R (sel l (s &&& ~~~x))) : Nat) : Int)) = ((1 + max (D R (sel l (s &&& x))) (D R (sel l (s &&& ~~~x))) : Nat) : Int) := by
      rw [IntWalk.i64_in _ (by omega)]; omega
    try simp -dsimp (maxSteps := 2000000) (disch := first | omega | decide +kernel) only [↓vcl, ↓vcy, ↓vco, vck, gR, evl, evb, evBuiltin, evLen, evIdxA, evLoad, loadP, aggD, tis, i64, u32, bl, encL, encB, encLL, reduceIte, Nat.reduceEqDiff, forget, forget1, wantd, tzs, eve, evStore, evBox, evAlloc, evBuildSlice, evMakeSlice, evAppend, fillRows, zcells, elemsOf, putAll, PV.one, Nat.reduceAdd, Nat.reduceMul, Int.cast_ofNat_Int, Int.reduceEq, Int.reduceLT, Int.reduceLE, Nat.reduceLeDiff, List.reduceReplicate, reduceCtorEq, vcj, implies_true, hnE, hB.d, cloD, tisB, mxI, mxN, hw]
    have hscan : scan l.length (vbit R l s) (i + 1) = if 1 + max (D R (sel l (s &&& x))) (D R (sel l (s &&& ~~~x))) < (scan l.length (vbit R l s) i).1 then (1 + max (D R (sel l (s &&& x))) (D R (sel l (s &&& ~~~x))), (i : Int)) else scan l.length (vbit R l s) i := by
      rw [scan, hvi]
    refine onC_nlt (fun h4 => ?_) (fun h4 => ?_)
    · rw [if_pos h4] at hscan
      try simp -dsimp (maxSteps := 2000000) (disch := first | omega | decide +kernel) only [↓vcl, ↓vcy, ↓vco, vck, gR, evl, evb, evBuiltin, evLen, evIdxA, evLoad, loadP, aggD, tis, i64, u32, bl, encL, encB, encLL, reduceIte, Nat.reduceEqDiff, forget, forget1, wantd, tzs, eve, evStore, evBox, evAlloc, evBuildSlice, evMakeSlice, evAppend, fillRows, zcells, elemsOf, putAll, PV.one, Nat.reduceAdd, Nat.reduceMul, Int.cast_ofNat_Int, Int.reduceEq, Int.reduceLT, Int.reduceLE, Nat.reduceLeDiff, List.reduceReplicate, reduceCtorEq]
      refine ⟨_, _, ?_, weak_ofS ?_, i + 1, K3, h3, hK3, rfl, rfl⟩
      · omega
      · first | (simp -dsimp (maxSteps := 2000000) (disch := first | omega | decide +kernel) only [↓vcl, ↓vcy, ↓vco, vck, gR, evl, evb, evBuiltin, evLen, evIdxA, evLoad, loadP, aggD, tis, i64, u32, bl, encL, encB, encLL, reduceIte, Nat.reduceEqDiff, forget, forget1, wantd, tzs, eve, evStore, evBox, evAlloc, evBuildSlice, evMakeSlice, evAppend, fillRows, zcells, elemsOf, putAll, PV.one, Nat.reduceAdd, Nat.reduceMul, Int.cast_ofNat_Int, Int.reduceEq, Int.reduceLT, Int.reduceLE, Nat.reduceLeDiff, List.reduceReplicate, reduceCtorEq, wrapS h3 (show l.length ≤ 9223372036854775807 by omega), hscan, W64.wd, put_put, encU]; done) | simp -dsimp [evl, putN, i64, u32, bl, encL, encB, encLL, wrapS h3 (show l.length ≤ 9223372036854775807 by omega), hscan, W64.wd, put_put, encU]
    · rw [if_neg (by omega)] at hscan
      try simp -dsimp (maxSteps := 2000000) (disch := first | omega | decide +kernel) only [↓vcl, ↓vcy, ↓vco, vck, gR, evl, evb, evBuiltin, evLen, evIdxA, evLoad, loadP, aggD, tis, i64, u32, bl, encL, encB, encLL, reduceIte, Nat.reduceEqDiff, forget, forget1, wantd, tzs, eve, evStore, evBox, evAlloc, evBuildSlice, evMakeSlice, evAppend, fillRows, zcells, elemsOf, putAll, PV.one, Nat.reduceAdd, Nat.reduceMul, Int.cast_ofNat_Int, Int.reduceEq, Int.reduceLT, Int.reduceLE, Nat.reduceLeDiff, List.reduceReplicate, reduceCtorEq]
      refine ⟨_, _, ?_, weak_ofS ?_, i + 1, K3, h3, hK3, rfl, rfl⟩
      · omega
      · first | (simp -dsimp (maxSteps := 2000000) (disch := first | omega | decide +kernel) only [↓vcl, ↓vcy, ↓vco, vck, gR, evl, evb, evBuiltin, evLen, evIdxA, evLoad, loadP, aggD, tis, i64, u32, bl, encL, encB, encLL, reduceIte, Nat.reduceEqDiff, forget, forget1, wantd, tzs, eve, evStore, evBox, evAlloc, evBuildSlice, evMakeSlice, evAppend, fillRows, zcells, elemsOf, putAll, PV.one, Nat.reduceAdd, Nat.reduceMul, Int.cast_ofNat_Int, Int.reduceEq, Int.reduceLT, Int.reduceLE, Nat.reduceLeDiff, List.reduceReplicate, reduceCtorEq, wrapS h3 (show l.length ≤ 9223372036854775807 by omega), hscan, W64.wd, put_put, encU]; done) | simp -dsimp [evl, putN, i64, u32, bl, encL, encB, encLL, wrapS h3 (show l.length ≤ 9223372036854775807 by omega), hscan, W64.wd, put_put, encU]
  have hil : i = l.length := by omega
  subst hil
  obtain ⟨a, ha1, ha2, ha3⟩ := scan_best (s := s) hok h2 hselle
  rw [ha1]
  simp -dsimp (maxSteps := 2000000) (disch := first | omega | decide +kernel) only [↓vcl, ↓vcy, ↓vco, vck, gR, evl, evb, evBuiltin, evLen, evIdxA, evLoad, loadP, aggD, tis, i64, u32, bl, encL, encB, encLL, reduceIte, Nat.reduceEqDiff, forget, forget1, wantd, tzs, eve, evStore, evBox, evAlloc, evBuildSlice, evMakeSlice, evAppend, fillRows, zcells, elemsOf, putAll, PV.one, Nat.reduceAdd, Nat.reduceMul, Int.cast_ofNat_Int, Int.reduceEq, Int.reduceLT, Int.reduceLE, Nat.reduceLeDiff, List.reduceReplicate, reduceCtorEq, stQ, resL, tupOf, List.toList_toArray, Tryd.f57]
  exact ⟨_, _, .refl _, ⟨a, rfl, ha2, ha3⟩, rfl, K', hK', rfl⟩
end
end Go.Ab
