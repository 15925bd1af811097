import Derived.Test.YtbhmgkbmlbbonaaDoorBM
set_option linter.unusedSimpArgs false
set_option linter.unusedVariables false
set_option maxRecDepth 100000
set_option maxHeartbeats 8000000
namespace Go.Ab
open Go Go.Proofs

/-! ### the depth of a set of suspects, the reference's -/
def oint : Option Nat → Int
  | some d => d
  | none => -1
def bst (n : Nat) (v : Nat → Option Nat) (k : Nat) : Int := if (scan n v k).1 < n then ((scan n v k).1 : Int) else -1
def rowI (K : List Int) : Blk := .row 0 1 (K.map fun x => i64 x :: []) false

section
variable (R : Int → Int → Bool) (l : List Int) (u : List (BitVec 64)) (v : Nat)
variable (hok : Ok R l) (hn : l.length ≤ 12) (hul : u.length = l.length) (hU : ∀ (i j : Nat) (c d : Int) (x : BitVec 64), l[i]? = some c → l[j]? = some d → u[i]? = some x → x.getLsbD j = R d c)

def DepR (s : BitVec 64) : Prop := ∀ σ nx K, Tst l u v σ K → Kor R l K →
  StSpec cx 45 [.ptr 1 0 0 0, iw s] σ nx (fun r σ' nx' => r = i64 (D R (sel l s)) ∧ nx' = nx ∧ ∃ K', Kor R l K' ∧ σ' = σ.put 0 (.row 0 1 (K'.map fun x => [i64 x]) false))
def ByR (s : BitVec 64) (i : Nat) : Prop := ∀ σ nx K, Tst l u v σ K → Kor R l K →
  StSpec cx 60 [.ptr 1 0 0 0, iw s, i64 i] σ nx (fun r σ' nx' => r = i64 (oint (vbit R l s i)) ∧ nx' = nx ∧ ∃ K', Kor R l K' ∧ σ' = σ.put 0 (.row 0 1 (K'.map fun x => [i64 x]) false))

include hok hn hul hU
theorem by_of (s : BitVec 64) (hs : ∀ i, s.getLsbD i = true → i < l.length) (i : Nat) (hi : i < l.length)
    (ih : ∀ t : BitVec 64, (∀ i, t.getLsbD i = true → i < l.length) → 1 ≤ (sel l t).length → (sel l t).length < (sel l s).length → DepR R l u v t) : ByR R l u v s i := by
  intro σ nx K hB hK
  have hsame := put_same hB.k
  obtain ⟨c, hc, hcm⟩ := get_of_lt hi
  obtain ⟨x, hx, hxm⟩ := get_of_lt (show i < u.length by omega)
  have hbadS : sel l (s &&& x) = (sel l s).filter fun d => R d c := sel_filt fun j d hd => by rw [BitVec.getLsbD_and, hU i j c d x hc hd hx]
  have hgoodS : sel l (s &&& ~~~x) = (sel l s).filter fun d => !R d c := sel_filt fun j d hd => by
    have hj := (List.getElem?_eq_some_iff.1 hd).1
    rw [BitVec.getLsbD_and, BitVec.getLsbD_not, hU i j c d x hc hd hx, decide_eq_true (show j < 64 by omega), Bool.true_and]
  have hbb : ∀ i, (s &&& x).getLsbD i = true → i < l.length := fun i hi => hs i (by rw [BitVec.getLsbD_and, Bool.and_eq_true] at hi; exact hi.1)
  have hgb : ∀ i, (s &&& ~~~x).getLsbD i = true → i < l.length := fun i hi => hs i (by rw [BitVec.getLsbD_and, Bool.and_eq_true] at hi; exact hi.1)
  have hbn := sel_nil hbb
  have hgn := sel_nil hgb
  have hv : s.getLsbD i = true → vbit R l s i = val R (sel l s) c := fun h => by unfold vbit; rw [if_pos h, hc]; rfl
  have hw1 := wrap_bits hn hbb
  have hw2 := wrap_bits hn hgb
  have hxl : i < l.length := hi
  have hcx : (u.map fun x => [iw x])[i]? = some [iw x] := by rw [List.getElem?_map, hx]; rfl
  have hbt := hB.t
  have hbu := hB.u
  simp only [iw] at hbu hcx
  refine stSpec_of_vc Tryd.func60 rfl (by decide) (by kernel_rfl) (Nat.le_of_ble_eq_true rfl) ?_
  cases hA : s.getLsbD i
  · have e : vbit R l s i = none := by unfold vbit; rw [hA]; rfl
    rw [e]
    simp -dsimp (maxSteps := 2000000) (disch := first | omega | decide +kernel) only [↓vcl, ↓vcy, ↓vco, vck, gR, evl, evb, evBuiltin, evLen, evIdxA, evLoad, loadP, aggD, tis, i64, u32, bl, encL, encB, encLL, reduceIte, Nat.reduceEqDiff, forget, forget1, wantd, tzs, eve, evStore, evBox, evAlloc, evBuildSlice, evMakeSlice, evAppend, fillRows, zcells, elemsOf, putAll, PV.one, Nat.reduceAdd, Nat.reduceMul, Int.cast_ofNat_Int, Int.reduceEq, Int.reduceLT, Int.reduceLE, Nat.reduceLeDiff, List.reduceReplicate, reduceCtorEq, stQ, resL, tupOf, List.toList_toArray, Tryd.f60, hbt, hbu, hx, hxl, fldT, tisT, List.set_cons_succ, List.getElem?_cons_zero, List.getElem?_cons_succ, Nat.reduceLT, List.length_set, iw, iBits, iShr, iAnd1, hw1, hw2, W64.uEq0, bitZ, hA, oint]
    exact ⟨_, _, .refl _, rfl, K, hK, hsame.symm⟩
  cases hBz : decide (s &&& x = 0#64)
  case true =>
    have e : vbit R l s i = none := by rw [hv hA]; unfold val valO; rw [if_pos (.inl (by rw [← hbadS]; exact hbn.2 (of_decide_eq_true hBz)))]
    rw [e]
    simp -dsimp (maxSteps := 2000000) (disch := first | omega | decide +kernel) only [↓vcl, ↓vcy, ↓vco, vck, gR, evl, evb, evBuiltin, evLen, evIdxA, evLoad, loadP, aggD, tis, i64, u32, bl, encL, encB, encLL, reduceIte, Nat.reduceEqDiff, forget, forget1, wantd, tzs, eve, evStore, evBox, evAlloc, evBuildSlice, evMakeSlice, evAppend, fillRows, zcells, elemsOf, putAll, PV.one, Nat.reduceAdd, Nat.reduceMul, Int.cast_ofNat_Int, Int.reduceEq, Int.reduceLT, Int.reduceLE, Nat.reduceLeDiff, List.reduceReplicate, reduceCtorEq, stQ, resL, tupOf, List.toList_toArray, Tryd.f60, hbt, hbu, hx, hxl, fldT, tisT, List.set_cons_succ, List.getElem?_cons_zero, List.getElem?_cons_succ, Nat.reduceLT, List.length_set, iw, iBits, iShr, iAnd1, hw1, hw2, W64.uEq0, bitZ, hA, hBz, oint]
    exact ⟨_, _, .refl _, rfl, K, hK, hsame.symm⟩
  cases hCz : decide (s &&& ~~~x = 0#64)
  case true =>
    have e : vbit R l s i = none := by rw [hv hA]; unfold val valO; rw [if_pos (.inr (by rw [← hgoodS]; exact hgn.2 (of_decide_eq_true hCz)))]
    rw [e]
    simp -dsimp (maxSteps := 2000000) (disch := first | omega | decide +kernel) only [↓vcl, ↓vcy, ↓vco, vck, gR, evl, evb, evBuiltin, evLen, evIdxA, evLoad, loadP, aggD, tis, i64, u32, bl, encL, encB, encLL, reduceIte, Nat.reduceEqDiff, forget, forget1, wantd, tzs, eve, evStore, evBox, evAlloc, evBuildSlice, evMakeSlice, evAppend, fillRows, zcells, elemsOf, putAll, PV.one, Nat.reduceAdd, Nat.reduceMul, Int.cast_ofNat_Int, Int.reduceEq, Int.reduceLT, Int.reduceLE, Nat.reduceLeDiff, List.reduceReplicate, reduceCtorEq, stQ, resL, tupOf, List.toList_toArray, Tryd.f60, hbt, hbu, hx, hxl, fldT, tisT, List.set_cons_succ, List.getElem?_cons_zero, List.getElem?_cons_succ, Nat.reduceLT, List.length_set, iw, iBits, iShr, iAnd1, hw1, hw2, W64.uEq0, bitZ, hA, hBz, hCz, oint]
    exact ⟨_, _, .refl _, rfl, K, hK, hsame.symm⟩
  have hne1 : ((sel l s).filter fun d => R d c) ≠ [] := fun h => of_decide_eq_false hBz (hbn.1 (by rw [hbadS]; exact h))
  have hne2 : ((sel l s).filter fun d => !R d c) ≠ [] := fun h => of_decide_eq_false hCz (hgn.1 (by rw [hgoodS]; exact h))
  have hlt := part_lt hne1 hne2
  have hp1 := List.length_pos_iff.2 hne1
  have hp2 := List.length_pos_iff.2 hne2
  have hvi : vbit R l s i = some (1 + max (D R (sel l (s &&& x))) (D R (sel l (s &&& ~~~x)))) := by
    rw [hv hA]; unfold val valO; rw [if_neg (by rw [not_or]; exact ⟨hne1, hne2⟩), hbadS, hgoodS]
  have hD1 := ih (s &&& x) hbb (by rw [hbadS]; omega) (by rw [hbadS]; omega)
  have hD2 := ih (s &&& ~~~x) hgb (by rw [hgoodS]; omega) (by rw [hgoodS]; omega)
  have hDD : 1 + max (D R (sel l (s &&& x))) (D R (sel l (s &&& ~~~x))) ≤ 100 := by
    have o1 := D_lt _ _ rfl (hok.sub (sel_sub (l := l) (s := s &&& x))) (by rw [hbadS]; omega)
    have o2 := D_lt _ _ rfl (hok.sub (sel_sub (l := l) (s := s &&& ~~~x))) (by rw [hgoodS]; omega)
    have o3 := List.Sublist.length_le (sel_sub (l := l) (s := s &&& x))
    have o4 := List.Sublist.length_le (sel_sub (l := l) (s := s &&& ~~~x))
    omega
  have hw : IntKind.i64.wrap (1 + ((max (D R (sel l (s &&& x))) (D R (sel l (s &&& ~~~x))) : Nat) : Int)) = ((1 + max (D R (sel l (s &&& x))) (D R (sel l (s &&& ~~~x))) : Nat) : Int) := by
    rw [IntWalk.i64_in _ (by omega)]; omega
  rw [hvi]
  try simp -dsimp (maxSteps := 2000000) (disch := first | omega | decide +kernel) only [↓vcl, ↓vcy, ↓vco, vck, gR, evl, evb, evBuiltin, evLen, evIdxA, evLoad, loadP, aggD, tis, i64, u32, bl, encL, encB, encLL, reduceIte, Nat.reduceEqDiff, forget, forget1, wantd, tzs, eve, evStore, evBox, evAlloc, evBuildSlice, evMakeSlice, evAppend, fillRows, zcells, elemsOf, putAll, PV.one, Nat.reduceAdd, Nat.reduceMul, Int.cast_ofNat_Int, Int.reduceEq, Int.reduceLT, Int.reduceLE, Nat.reduceLeDiff, List.reduceReplicate, reduceCtorEq, Tryd.f60, hbt, hbu, hx, hxl, fldT, tisT, List.set_cons_succ, List.getElem?_cons_zero, List.getElem?_cons_succ, Nat.reduceLT, List.length_set, iw, iBits, iShr, iAnd1, hw1, hw2, W64.uEq0, bitZ, hA, hBz, hCz]
  refine CallQ.inm (hD1 _ _ K hB hK) (by rfl) ?_
  rintro r σ' nx' ⟨rfl, rfl, K2, hK2, rfl⟩
  try simp -dsimp (maxSteps := 2000000) (disch := first | omega | decide +kernel) only [↓vcl, ↓vcy, ↓vco, vck, gR, evl, evb, evBuiltin, evLen, evIdxA, evLoad, loadP, aggD, tis, i64, u32, bl, encL, encB, encLL, reduceIte, Nat.reduceEqDiff, forget, forget1, wantd, tzs, eve, evStore, evBox, evAlloc, evBuildSlice, evMakeSlice, evAppend, fillRows, zcells, elemsOf, putAll, PV.one, Nat.reduceAdd, Nat.reduceMul, Int.cast_ofNat_Int, Int.reduceEq, Int.reduceLT, Int.reduceLE, Nat.reduceLeDiff, List.reduceReplicate, reduceCtorEq]
  refine CallQ.inm (hD2 _ _ K2 hB.upd hK2) (by rfl) ?_
  rintro r σ' nx' ⟨rfl, rfl, K3, hK3, rfl⟩
  simp -dsimp (maxSteps := 2000000) (disch := first | omega | decide +kernel) only [↓vcl, ↓vcy, ↓vco, vck, gR, evl, evb, evBuiltin, evLen, evIdxA, evLoad, loadP, aggD, tis, i64, u32, bl, encL, encB, encLL, reduceIte, Nat.reduceEqDiff, forget, forget1, wantd, tzs, eve, evStore, evBox, evAlloc, evBuildSlice, evMakeSlice, evAppend, fillRows, zcells, elemsOf, putAll, PV.one, Nat.reduceAdd, Nat.reduceMul, Int.cast_ofNat_Int, Int.reduceEq, Int.reduceLT, Int.reduceLE, Nat.reduceLeDiff, List.reduceReplicate, reduceCtorEq, stQ, resL, tupOf, List.toList_toArray, Tryd.f60, mxI, mxN, hw, put_put, oint]
  exact ⟨_, _, .refl _, rfl, K3, hK3, rfl⟩
end
end Go.Ab
