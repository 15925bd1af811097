import Derived.Test.YtlfllbelabkaeaaDoorDF
set_option linter.unusedSimpArgs false
set_option linter.unusedVariables false
set_option maxRecDepth 100000
namespace Go.Ab
open Go Go.Proofs W16

/-! ### what is ready -/
def rdyG (H : BitVec 16) (g : List Int) : Bool := g.any fun k => H.getLsbD k.toNat
def rdyN (H : BitVec 16) (c : Nat) (n : Nd) : Bool := decide (n.1 ≠ (c : Int)) || n.2.all (rdyG H)
def rdy (l : List Nd) (H : BitVec 16) (c : Nat) : Bool := l.all (rdyN H c)
def inC (l : List Nd) : Prop := ∀ n ∈ l, 0 ≤ n.1 ∧ n.1 < 10 ∧ ∀ g ∈ n.2, ∀ c ∈ g, 0 ≤ c ∧ c < 10
theorem inC_of {l : List Nd} (h : dcheck l = 0) : inC l := fun n hn => by
  obtain ⟨_, _, h3, _⟩ := dc_many h
  have := h3 n hn
  exact ⟨this.1, this.2.1, fun g hg => (this.2.2 g hg).2⟩

theorem all_not {α : Type} {l : List α} {p : α → Bool} {x : α} (hx : x ∈ l) (h : p x = false) : l.all p = false := by
  rw [← Bool.not_eq_true, List.all_eq_true]; intro h2; rw [h2 x hx] at h; cases h
theorem all_of {α : Type} {l : List α} {p : α → Bool} {i : Nat} (hi : l.length ≤ i) (h : ∀ j, j < i → ∀ x, l[j]? = some x → p x = true) : l.all p = true := by
  rw [List.all_eq_true]
  intro x hx
  obtain ⟨j, hj⟩ := List.getElem?_of_mem hx
  exact h j (by have := (List.getElem?_eq_some_iff.1 hj).1; omega) x hj

theorem r_ready (l : List Nd) (hv : List Int) (c : Nat) (h : fits l) (hc : inC l) (hh : hv.length ≤ 9223372036854775807) (hH : ∀ k ∈ hv, 0 ≤ k ∧ k < 16) :
    CallSpec cx 35 [encNs l, encL hv, i64 c] (bl (rdy l (ofL hv) c)) := by
  have hl := h.1
  refine callSpec_of_vc Tryd.func35 rfl (by decide) (by kernel_rfl) (Nat.le_of_ble_eq_true rfl) ?_
  try simp -dsimp (maxSteps := 2000000) (disch := first | omega | decide +kernel) only [↓vcl, ↓vcy, ↓vco, vck, gR, evl, evb, evBuiltin, evLen, evIdxA, evLoad, loadP, aggD, tis, i64, u32, bl, encL, encB, encLL, reduceIte, Nat.reduceEqDiff, forget, forget1, wantd, tzs, eve, evStore, evBox, evAlloc, evBuildSlice, evMakeSlice, evAppend, fillRows, zcells, elemsOf, putAll, PV.one, Nat.reduceAdd, Nat.reduceMul, Int.cast_ofNat_Int, Int.reduceEq, Int.reduceLT, Int.reduceLE, Nat.reduceLeDiff, List.reduceReplicate, reduceCtorEq, Tryd.f35]
  refine LoopQ.rule (fun m st => ∃ i : Nat, i ≤ l.length ∧ (∀ j, j < i → ∀ n, l[j]? = some n → rdyN (ofL hv) c n = true) ∧ m = l.length - i ∧ st = ⟨mkE [(0, encNs l), (1, encL hv), (2, i64 c), (7, i64 i)], mkS [], 0⟩) _ _ (weak_of ?_) ⟨0, by omega, by omega, rfl, rfl⟩ ?_
  · first | (simp -dsimp (maxSteps := 2000000) (disch := first | omega | decide +kernel) only [↓vcl, ↓vcy, ↓vco, vck, gR, evl, evb, evBuiltin, evLen, evIdxA, evLoad, loadP, aggD, tis, i64, u32, bl, encL, encB, encLL, reduceIte, Nat.reduceEqDiff, forget, forget1, wantd, tzs, eve, evStore, evBox, evAlloc, evBuildSlice, evMakeSlice, evAppend, fillRows, zcells, elemsOf, putAll, PV.one, Nat.reduceAdd, Nat.reduceMul, Int.cast_ofNat_Int, Int.reduceEq, Int.reduceLT, Int.reduceLE, Nat.reduceLeDiff, List.reduceReplicate, reduceCtorEq, encNs]; done) | simp -dsimp [evl, putN, i64, u32, bl, encL, encB, encLL, encNs]
  rintro m st ⟨i, hi, hpre, rfl, rfl⟩
  try simp -dsimp (maxSteps := 2000000) (disch := first | omega | decide +kernel) only [↓vcl, ↓vcy, ↓vco, vck, gR, evl, evb, evBuiltin, evLen, evIdxA, evLoad, loadP, aggD, tis, i64, u32, bl, encL, encB, encLL, reduceIte, Nat.reduceEqDiff, forget, forget1, wantd, tzs, eve, evStore, evBox, evAlloc, evBuildSlice, evMakeSlice, evAppend, fillRows, zcells, elemsOf, putAll, PV.one, Nat.reduceAdd, Nat.reduceMul, Int.cast_ofNat_Int, Int.reduceEq, Int.reduceLT, Int.reduceLE, Nat.reduceLeDiff, List.reduceReplicate, reduceCtorEq, encNs]
  refine onC_nlt (fun h2 => ?_) (fun h2 => ?_)
  · obtain ⟨n, hn, hnm⟩ := get_of_lt h2
    have hfn := h.2 n hnm
    have hcn := hc n hnm
    have hnot : rdyN (ofL hv) c n = false → rdy l (ofL hv) c = false := fun h3 => all_not hnm h3
    have hstep : rdyN (ofL hv) c n = true → ∀ j, j < i + 1 → ∀ n', l[j]? = some n' → rdyN (ofL hv) c n' = true := fun h3 j hj n' hn' => by
      by_cases e : j = i
      · subst e; rw [hn] at hn'; cases hn'; exact h3
      · exact hpre j (by omega) n' hn'
    cases hM : decide (n.1 = (c : Int))
    · try simp -dsimp (maxSteps := 2000000) (disch := first | omega | decide +kernel) only [↓vcl, ↓vcy, ↓vco, vck, gR, evl, evb, evBuiltin, evLen, evIdxA, evLoad, loadP, aggD, tis, i64, u32, bl, encL, encB, encLL, reduceIte, Nat.reduceEqDiff, forget, forget1, wantd, tzs, eve, evStore, evBox, evAlloc, evBuildSlice, evMakeSlice, evAppend, fillRows, zcells, elemsOf, putAll, PV.one, Nat.reduceAdd, Nat.reduceMul, Int.cast_ofNat_Int, Int.reduceEq, Int.reduceLT, Int.reduceLE, Nat.reduceLeDiff, List.reduceReplicate, reduceCtorEq, encNs, hn, encN, fldN, List.set_cons_succ, List.getElem?_cons_zero, List.getElem?_cons_succ, Nat.reduceLT, List.length_set, hM]
      refine ⟨_, _, ?_, weak_of ?_, i + 1, h2, hstep ?_, rfl, rfl⟩
      · omega
      · first | (simp -dsimp (maxSteps := 2000000) (disch := first | omega | decide +kernel) only [↓vcl, ↓vcy, ↓vco, vck, gR, evl, evb, evBuiltin, evLen, evIdxA, evLoad, loadP, aggD, tis, i64, u32, bl, encL, encB, encLL, reduceIte, Nat.reduceEqDiff, forget, forget1, wantd, tzs, eve, evStore, evBox, evAlloc, evBuildSlice, evMakeSlice, evAppend, fillRows, zcells, elemsOf, putAll, PV.one, Nat.reduceAdd, Nat.reduceMul, Int.cast_ofNat_Int, Int.reduceEq, Int.reduceLT, Int.reduceLE, Nat.reduceLeDiff, List.reduceReplicate, reduceCtorEq, encNs, wrapS h2 hl]; done) | simp -dsimp [evl, putN, i64, u32, bl, encL, encB, encLL, encNs, wrapS h2 hl]
      · unfold rdyN; rw [decide_eq_true (of_decide_eq_false hM)]; rfl
    have hM' := of_decide_eq_true hM
    have hrn : rdyN (ofL hv) c n = n.2.all (rdyG (ofL hv)) := by unfold rdyN; rw [hM']; simp
    try simp -dsimp (maxSteps := 2000000) (disch := first | omega | decide +kernel) only [↓vcl, ↓vcy, ↓vco, vck, gR, evl, evb, evBuiltin, evLen, evIdxA, evLoad, loadP, aggD, tis, i64, u32, bl, encL, encB, encLL, reduceIte, Nat.reduceEqDiff, forget, forget1, wantd, tzs, eve, evStore, evBox, evAlloc, evBuildSlice, evMakeSlice, evAppend, fillRows, zcells, elemsOf, putAll, PV.one, Nat.reduceAdd, Nat.reduceMul, Int.cast_ofNat_Int, Int.reduceEq, Int.reduceLT, Int.reduceLE, Nat.reduceLeDiff, List.reduceReplicate, reduceCtorEq, encNs, hn, encN, fldN, List.set_cons_succ, List.getElem?_cons_zero, List.getElem?_cons_succ, Nat.reduceLT, List.length_set, hM]
    refine LoopQ.rule (fun m st => ∃ k : Nat, k ≤ n.2.length ∧ (∀ j, j < k → ∀ g, n.2[j]? = some g → rdyG (ofL hv) g = true) ∧ m = n.2.length - k ∧ st = ⟨mkE [(0, encNs l), (1, encL hv), (2, i64 c), (7, i64 i), (8, i64 k)], mkS [], 0⟩) _ _ (weak_of ?_) ⟨0, by omega, by omega, rfl, rfl⟩ ?_
    · first | (simp -dsimp (maxSteps := 2000000) (disch := first | omega | decide +kernel) only [↓vcl, ↓vcy, ↓vco, vck, gR, evl, evb, evBuiltin, evLen, evIdxA, evLoad, loadP, aggD, tis, i64, u32, bl, encL, encB, encLL, reduceIte, Nat.reduceEqDiff, forget, forget1, wantd, tzs, eve, evStore, evBox, evAlloc, evBuildSlice, evMakeSlice, evAppend, fillRows, zcells, elemsOf, putAll, PV.one, Nat.reduceAdd, Nat.reduceMul, Int.cast_ofNat_Int, Int.reduceEq, Int.reduceLT, Int.reduceLE, Nat.reduceLeDiff, List.reduceReplicate, reduceCtorEq, encNs]; done) | simp -dsimp [evl, putN, i64, u32, bl, encL, encB, encLL, encNs]
    rintro m st ⟨k, hk, hpk, rfl, rfl⟩
    try simp -dsimp (maxSteps := 2000000) (disch := first | omega | decide +kernel) only [↓vcl, ↓vcy, ↓vco, vck, gR, evl, evb, evBuiltin, evLen, evIdxA, evLoad, loadP, aggD, tis, i64, u32, bl, encL, encB, encLL, reduceIte, Nat.reduceEqDiff, forget, forget1, wantd, tzs, eve, evStore, evBox, evAlloc, evBuildSlice, evMakeSlice, evAppend, fillRows, zcells, elemsOf, putAll, PV.one, Nat.reduceAdd, Nat.reduceMul, Int.cast_ofNat_Int, Int.reduceEq, Int.reduceLT, Int.reduceLE, Nat.reduceLeDiff, List.reduceReplicate, reduceCtorEq, encNs, hn, encN, fldN, List.set_cons_succ, List.getElem?_cons_zero, List.getElem?_cons_succ, Nat.reduceLT, List.length_set]
    refine onC_nlt (fun h3 => ?_) (fun h3 => ?_)
    · obtain ⟨g, hg, hgm⟩ := get_of_lt h3
      have hgl := hfn.2 g hgm
      obtain ⟨of, of0, ofS, ofE⟩ : ∃ of : Nat → Bool, of 0 = false ∧ (∀ q x, g[q]? = some x → of (q + 1) = (of q || decide (x ∈ hv))) ∧ of g.length = rdyG (ofL hv) g := by
        refine ⟨fun q => (g.take q).any fun k => (ofL hv).getLsbD k.toNat, by simp, fun q x hx => ?_, ?_⟩
        · simp only []
          rw [take_succ hx, List.any_append, List.any_cons, List.any_nil, Bool.or_false]
          congr 1
          rw [Bool.eq_iff_iff, ofL_get hH, decide_eq_true_iff]
          have := hcn.2.2 g hgm x (List.mem_of_getElem? hx)
          rw [show ((x.toNat : Nat) : Int) = x from by omega]
        · simp only []
          rw [List.take_of_length_le (Nat.le_refl _)]; rfl
      try simp -dsimp (maxSteps := 2000000) (disch := first | omega | decide +kernel) only [↓vcl, ↓vcy, ↓vco, vck, gR, evl, evb, evBuiltin, evLen, evIdxA, evLoad, loadP, aggD, tis, i64, u32, bl, encL, encB, encLL, reduceIte, Nat.reduceEqDiff, forget, forget1, wantd, tzs, eve, evStore, evBox, evAlloc, evBuildSlice, evMakeSlice, evAppend, fillRows, zcells, elemsOf, putAll, PV.one, Nat.reduceAdd, Nat.reduceMul, Int.cast_ofNat_Int, Int.reduceEq, Int.reduceLT, Int.reduceLE, Nat.reduceLeDiff, List.reduceReplicate, reduceCtorEq]
      refine LoopQ.rule (fun m st => ∃ q : Nat, q ≤ g.length ∧ m = g.length - q ∧ st = ⟨mkE [(0, encNs l), (1, encL hv), (2, i64 c), (7, i64 i), (8, i64 k), (9, bl (of q)), (10, i64 q)], mkS [], 0⟩) _ _ (weak_of ?_) ⟨0, by omega, rfl, rfl⟩ ?_
      · first | (simp -dsimp (maxSteps := 2000000) (disch := first | omega | decide +kernel) only [↓vcl, ↓vcy, ↓vco, vck, gR, evl, evb, evBuiltin, evLen, evIdxA, evLoad, loadP, aggD, tis, i64, u32, bl, encL, encB, encLL, reduceIte, Nat.reduceEqDiff, forget, forget1, wantd, tzs, eve, evStore, evBox, evAlloc, evBuildSlice, evMakeSlice, evAppend, fillRows, zcells, elemsOf, putAll, PV.one, Nat.reduceAdd, Nat.reduceMul, Int.cast_ofNat_Int, Int.reduceEq, Int.reduceLT, Int.reduceLE, Nat.reduceLeDiff, List.reduceReplicate, reduceCtorEq, encNs, of0]; done) | simp -dsimp [evl, putN, i64, u32, bl, encL, encB, encLL, encNs, of0]
      rintro m st ⟨q, hq, rfl, rfl⟩
      try simp -dsimp (maxSteps := 2000000) (disch := first | omega | decide +kernel) only [↓vcl, ↓vcy, ↓vco, vck, gR, evl, evb, evBuiltin, evLen, evIdxA, evLoad, loadP, aggD, tis, i64, u32, bl, encL, encB, encLL, reduceIte, Nat.reduceEqDiff, forget, forget1, wantd, tzs, eve, evStore, evBox, evAlloc, evBuildSlice, evMakeSlice, evAppend, fillRows, zcells, elemsOf, putAll, PV.one, Nat.reduceAdd, Nat.reduceMul, Int.cast_ofNat_Int, Int.reduceEq, Int.reduceLT, Int.reduceLE, Nat.reduceLeDiff, List.reduceReplicate, reduceCtorEq, encNs, hn, encN, fldN, List.set_cons_succ, List.getElem?_cons_zero, List.getElem?_cons_succ, Nat.reduceLT, List.length_set, hg]
      refine onC_nlt (fun h4 => ?_) (fun h4 => ?_)
      · obtain ⟨x, hx, hxm⟩ := get_of_lt h4
        have hst := ofS q x hx
        generalize of q = U at *
        cases U
        · try simp -dsimp (maxSteps := 2000000) (disch := first | omega | decide +kernel) only [↓vcl, ↓vcy, ↓vco, vck, gR, evl, evb, evBuiltin, evLen, evIdxA, evLoad, loadP, aggD, tis, i64, u32, bl, encL, encB, encLL, reduceIte, Nat.reduceEqDiff, forget, forget1, wantd, tzs, eve, evStore, evBox, evAlloc, evBuildSlice, evMakeSlice, evAppend, fillRows, zcells, elemsOf, putAll, PV.one, Nat.reduceAdd, Nat.reduceMul, Int.cast_ofNat_Int, Int.reduceEq, Int.reduceLT, Int.reduceLE, Nat.reduceLeDiff, List.reduceReplicate, reduceCtorEq, encNs, hn, encN, fldN, List.set_cons_succ, List.getElem?_cons_zero, List.getElem?_cons_succ, Nat.reduceLT, List.length_set, hg, hx]
          refine CallQ.imm (r_Has hv x hh) (by rfl) (by first | rfl | (simp -dsimp (maxSteps := 2000000) (disch := first | omega | decide +kernel) only [↓vcl, ↓vcy, ↓vco, vck, gR, evl, evb, evBuiltin, evLen, evIdxA, evLoad, loadP, aggD, tis, i64, u32, bl, encL, encB, encLL, reduceIte, Nat.reduceEqDiff, forget, forget1, wantd, tzs, eve, evStore, evBox, evAlloc, evBuildSlice, evMakeSlice, evAppend, fillRows, zcells, elemsOf, putAll, PV.one, Nat.reduceAdd, Nat.reduceMul, Int.cast_ofNat_Int, Int.reduceEq, Int.reduceLT, Int.reduceLE, Nat.reduceLeDiff, List.reduceReplicate, reduceCtorEq, drcs, drc, flat]; done) | simp -dsimp [evl, drcs, drc, flat, i64, u32, bl, encL, encB, encLL]) (by first | exact .inl rfl | exact .inr rfl | exact .inr scalB | exact .inr scalI | exact .inr scalT) ?_
          try simp -dsimp (maxSteps := 2000000) (disch := first | omega | decide +kernel) only [↓vcl, ↓vcy, ↓vco, vck, gR, evl, evb, evBuiltin, evLen, evIdxA, evLoad, loadP, aggD, tis, i64, u32, bl, encL, encB, encLL, reduceIte, Nat.reduceEqDiff, forget, forget1, wantd, tzs, eve, evStore, evBox, evAlloc, evBuildSlice, evMakeSlice, evAppend, fillRows, zcells, elemsOf, putAll, PV.one, Nat.reduceAdd, Nat.reduceMul, Int.cast_ofNat_Int, Int.reduceEq, Int.reduceLT, Int.reduceLE, Nat.reduceLeDiff, List.reduceReplicate, reduceCtorEq]
          refine ⟨_, _, ?_, weak_of ?_, q + 1, h4, rfl, rfl⟩
          · omega
          · first | (simp -dsimp (maxSteps := 2000000) (disch := first | omega | decide +kernel) only [↓vcl, ↓vcy, ↓vco, vck, gR, evl, evb, evBuiltin, evLen, evIdxA, evLoad, loadP, aggD, tis, i64, u32, bl, encL, encB, encLL, reduceIte, Nat.reduceEqDiff, forget, forget1, wantd, tzs, eve, evStore, evBox, evAlloc, evBuildSlice, evMakeSlice, evAppend, fillRows, zcells, elemsOf, putAll, PV.one, Nat.reduceAdd, Nat.reduceMul, Int.cast_ofNat_Int, Int.reduceEq, Int.reduceLT, Int.reduceLE, Nat.reduceLeDiff, List.reduceReplicate, reduceCtorEq, encNs, wrapS h4 hgl, hst, Bool.false_or]; done) | simp -dsimp [evl, putN, i64, u32, bl, encL, encB, encLL, encNs, wrapS h4 hgl, hst, Bool.false_or]
        · try simp -dsimp (maxSteps := 2000000) (disch := first | omega | decide +kernel) only [↓vcl, ↓vcy, ↓vco, vck, gR, evl, evb, evBuiltin, evLen, evIdxA, evLoad, loadP, aggD, tis, i64, u32, bl, encL, encB, encLL, reduceIte, Nat.reduceEqDiff, forget, forget1, wantd, tzs, eve, evStore, evBox, evAlloc, evBuildSlice, evMakeSlice, evAppend, fillRows, zcells, elemsOf, putAll, PV.one, Nat.reduceAdd, Nat.reduceMul, Int.cast_ofNat_Int, Int.reduceEq, Int.reduceLT, Int.reduceLE, Nat.reduceLeDiff, List.reduceReplicate, reduceCtorEq]
          refine ⟨_, _, ?_, weak_of ?_, q + 1, h4, rfl, rfl⟩
          · omega
          · first | (simp -dsimp (maxSteps := 2000000) (disch := first | omega | decide +kernel) only [↓vcl, ↓vcy, ↓vco, vck, gR, evl, evb, evBuiltin, evLen, evIdxA, evLoad, loadP, aggD, tis, i64, u32, bl, encL, encB, encLL, reduceIte, Nat.reduceEqDiff, forget, forget1, wantd, tzs, eve, evStore, evBox, evAlloc, evBuildSlice, evMakeSlice, evAppend, fillRows, zcells, elemsOf, putAll, PV.one, Nat.reduceAdd, Nat.reduceMul, Int.cast_ofNat_Int, Int.reduceEq, Int.reduceLT, Int.reduceLE, Nat.reduceLeDiff, List.reduceReplicate, reduceCtorEq, encNs, wrapS h4 hgl, hst, Bool.true_or]; done) | simp -dsimp [evl, putN, i64, u32, bl, encL, encB, encLL, encNs, wrapS h4 hgl, hst, Bool.true_or]
      · rw [show q = g.length from by omega, ofE]
        cases hR : rdyG (ofL hv) g
        · simp -dsimp (maxSteps := 2000000) (disch := first | omega | decide +kernel) only [↓vcl, ↓vcy, ↓vco, vck, gR, evl, evb, evBuiltin, evLen, evIdxA, evLoad, loadP, aggD, tis, i64, u32, bl, encL, encB, encLL, reduceIte, Nat.reduceEqDiff, forget, forget1, wantd, tzs, eve, evStore, evBox, evAlloc, evBuildSlice, evMakeSlice, evAppend, fillRows, zcells, elemsOf, putAll, PV.one, Nat.reduceAdd, Nat.reduceMul, Int.cast_ofNat_Int, Int.reduceEq, Int.reduceLT, Int.reduceLE, Nat.reduceLeDiff, List.reduceReplicate, reduceCtorEq, retQ, resL, finL, newL, flat, tupOf, List.toList_toArray, Tryd.f35, uUn, Option.bind_some]
          exact leT_one (bl_eq (by rw [hnot (by rw [hrn]; exact all_not hgm hR)])) (by simp)
        · try simp -dsimp (maxSteps := 2000000) (disch := first | omega | decide +kernel) only [↓vcl, ↓vcy, ↓vco, vck, gR, evl, evb, evBuiltin, evLen, evIdxA, evLoad, loadP, aggD, tis, i64, u32, bl, encL, encB, encLL, reduceIte, Nat.reduceEqDiff, forget, forget1, wantd, tzs, eve, evStore, evBox, evAlloc, evBuildSlice, evMakeSlice, evAppend, fillRows, zcells, elemsOf, putAll, PV.one, Nat.reduceAdd, Nat.reduceMul, Int.cast_ofNat_Int, Int.reduceEq, Int.reduceLT, Int.reduceLE, Nat.reduceLeDiff, List.reduceReplicate, reduceCtorEq, uUn, Option.bind_some]
          refine ⟨_, _, ?_, weak_of ?_, k + 1, h3, fun j hj g' hg' => ?_, rfl, rfl⟩
          · omega
          · first | (simp -dsimp (maxSteps := 2000000) (disch := first | omega | decide +kernel) only [↓vcl, ↓vcy, ↓vco, vck, gR, evl, evb, evBuiltin, evLen, evIdxA, evLoad, loadP, aggD, tis, i64, u32, bl, encL, encB, encLL, reduceIte, Nat.reduceEqDiff, forget, forget1, wantd, tzs, eve, evStore, evBox, evAlloc, evBuildSlice, evMakeSlice, evAppend, fillRows, zcells, elemsOf, putAll, PV.one, Nat.reduceAdd, Nat.reduceMul, Int.cast_ofNat_Int, Int.reduceEq, Int.reduceLT, Int.reduceLE, Nat.reduceLeDiff, List.reduceReplicate, reduceCtorEq, encNs, wrapS h3 hfn.1]; done) | simp -dsimp [evl, putN, i64, u32, bl, encL, encB, encLL, encNs, wrapS h3 hfn.1]
          · by_cases e : j = k
            · subst e; rw [hg] at hg'; cases hg'; exact hR
            · exact hpk j (by omega) g' hg'
    · try simp -dsimp (maxSteps := 2000000) (disch := first | omega | decide +kernel) only [↓vcl, ↓vcy, ↓vco, vck, gR, evl, evb, evBuiltin, evLen, evIdxA, evLoad, loadP, aggD, tis, i64, u32, bl, encL, encB, encLL, reduceIte, Nat.reduceEqDiff, forget, forget1, wantd, tzs, eve, evStore, evBox, evAlloc, evBuildSlice, evMakeSlice, evAppend, fillRows, zcells, elemsOf, putAll, PV.one, Nat.reduceAdd, Nat.reduceMul, Int.cast_ofNat_Int, Int.reduceEq, Int.reduceLT, Int.reduceLE, Nat.reduceLeDiff, List.reduceReplicate, reduceCtorEq]
      refine ⟨_, _, ?_, weak_of ?_, i + 1, h2, hstep ?_, rfl, rfl⟩
      · omega
      · first | (simp -dsimp (maxSteps := 2000000) (disch := first | omega | decide +kernel) only [↓vcl, ↓vcy, ↓vco, vck, gR, evl, evb, evBuiltin, evLen, evIdxA, evLoad, loadP, aggD, tis, i64, u32, bl, encL, encB, encLL, reduceIte, Nat.reduceEqDiff, forget, forget1, wantd, tzs, eve, evStore, evBox, evAlloc, evBuildSlice, evMakeSlice, evAppend, fillRows, zcells, elemsOf, putAll, PV.one, Nat.reduceAdd, Nat.reduceMul, Int.cast_ofNat_Int, Int.reduceEq, Int.reduceLT, Int.reduceLE, Nat.reduceLeDiff, List.reduceReplicate, reduceCtorEq, encNs, wrapS h2 hl]; done) | simp -dsimp [evl, putN, i64, u32, bl, encL, encB, encLL, encNs, wrapS h2 hl]
      · rw [hrn]; exact all_of h3 hpk
  · simp -dsimp (maxSteps := 2000000) (disch := first | omega | decide +kernel) only [↓vcl, ↓vcy, ↓vco, vck, gR, evl, evb, evBuiltin, evLen, evIdxA, evLoad, loadP, aggD, tis, i64, u32, bl, encL, encB, encLL, reduceIte, Nat.reduceEqDiff, forget, forget1, wantd, tzs, eve, evStore, evBox, evAlloc, evBuildSlice, evMakeSlice, evAppend, fillRows, zcells, elemsOf, putAll, PV.one, Nat.reduceAdd, Nat.reduceMul, Int.cast_ofNat_Int, Int.reduceEq, Int.reduceLT, Int.reduceLE, Nat.reduceLeDiff, List.reduceReplicate, reduceCtorEq, retQ, resL, finL, newL, flat, tupOf, List.toList_toArray, Tryd.f35]
    exact leT_one (bl_eq (by unfold rdy; rw [all_of h2 hpre])) (by simp)
end Go.Ab
