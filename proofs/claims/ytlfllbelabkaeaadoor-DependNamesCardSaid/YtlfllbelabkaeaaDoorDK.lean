import Derived.Test.YtlfllbelabkaeaaDoorDJ
set_option linter.unusedSimpArgs false
set_option linter.unusedVariables false
set_option maxRecDepth 100000
namespace Go.Ab
open Go Go.Proofs W16

/-! ### the order of a set, in plain terms -/
def next (l : List Nd) (S H : BitVec 16) : Option Int := (bitsL S).find? fun c => !H.getLsbD c.toNat && rdy l H c.toNat
def grF (l : List Nd) (S : BitVec 16) : Nat → BitVec 16 → List Int
  | 0, _ => []
  | n + 1, H => match next l S H with
    | none => []
    | some c => c :: grF l S n (H ||| bit c.toNat)
def gr (l : List Nd) (S H : BitVec 16) : List Int := grF l S (pc (S &&& ~~~ H)) H

theorem bits_mem {S : BitVec 16} {c : Int} : c ∈ bitsL S ↔ ∃ j : Nat, c = j ∧ j < 16 ∧ S.getLsbD j = true := by
  rw [mem_bits]
  constructor
  · rintro ⟨j, h1, h2⟩
    refine ⟨j, h2, ?_, h1⟩
    apply Classical.byContradiction; intro hc
    rw [BitVec.getLsbD_of_ge _ _ (by omega)] at h1; cases h1
  · rintro ⟨j, h1, _, h2⟩; exact ⟨j, h2, h1⟩
theorem next_some {l : List Nd} {S H : BitVec 16} {c : Int} (h : next l S H = some c) : ∃ j : Nat, c = j ∧ j < 16 ∧ S.getLsbD j = true ∧ H.getLsbD j = false ∧ rdy l H j = true := by
  unfold next at h
  have h1 := List.mem_of_find?_eq_some h
  have h2 := List.find?_some h
  obtain ⟨j, rfl, hj, hb⟩ := bits_mem.1 h1
  simp only [Int.toNat_natCast, Bool.and_eq_true, Bool.not_eq_true'] at h2
  exact ⟨j, rfl, hj, hb, h2.1, h2.2⟩
theorem pc_drop {S H : BitVec 16} {j : Nat} (hj : j < 16) (h1 : S.getLsbD j = true) (h2 : H.getLsbD j = false) : pc (S &&& ~~~ (H ||| bit j)) + 1 = pc (S &&& ~~~ H) := by
  have e : S &&& ~~~ H = (S &&& ~~~ (H ||| bit j)) ||| bit j := by
    apply BitVec.eq_of_getLsbD_eq
    intro i hi
    simp only [BitVec.getLsbD_and, BitVec.getLsbD_or, BitVec.getLsbD_not, bit_get, hi, decide_true, Bool.true_and, Bool.and_true]
    by_cases e : i = j
    · subst e; simp [h1, h2]
    · simp [e]
  have hb : (S &&& ~~~ (H ||| bit j)).getLsbD j = false := by
    simp only [BitVec.getLsbD_and, BitVec.getLsbD_or, BitVec.getLsbD_not, bit_get, hj, decide_true]
    simp
  rw [e, pc_or hj, hb]; simp
theorem gr_none {l : List Nd} {S H : BitVec 16} (h : next l S H = none) : gr l S H = [] := by
  unfold gr
  cases pc (S &&& ~~~ H) with
  | zero => rfl
  | succ n => simp only [grF, h]
theorem gr_some {l : List Nd} {S H : BitVec 16} {c : Int} (h : next l S H = some c) : gr l S H = c :: gr l S (H ||| bit c.toNat) := by
  obtain ⟨j, rfl, hj, h1, h2, _⟩ := next_some h
  have := pc_drop hj h1 h2
  unfold gr
  rw [Int.toNat_natCast, ← this]
  simp only [grF, h, Int.toNat_natCast]
theorem gr_len {l : List Nd} {S : BitVec 16} : ∀ (n : Nat) (H : BitVec 16), (grF l S n H).length ≤ n
  | 0, H => by simp [grF]
  | n + 1, H => by
    simp only [grF]
    cases next l S H with
    | none => simp
    | some c => simp; exact gr_len n _
theorem pc_le (x : BitVec 16) : pc x ≤ 16 := bits_len x
theorem fi_find {α : Type} (p : α → Bool) : ∀ l : List α, (fi p l = -1 ∧ l.find? p = none) ∨ ∃ (k : Nat) (x : α), fi p l = k ∧ l[k]? = some x ∧ l.find? p = some x
  | [] => .inl ⟨rfl, rfl⟩
  | y :: l => by
    cases hp : p y
    · rcases fi_find p l with ⟨h1, h2⟩ | ⟨k, x, h1, h2, h3⟩
      · exact .inl ⟨by rw [fi, hp, h1]; simp, by rw [List.find?_cons_of_neg (by rw [hp]; simp), h2]⟩
      · refine .inr ⟨k + 1, x, ?_, by simpa using h2, by rw [List.find?_cons_of_neg (by rw [hp]; simp), h3]⟩
        rw [fi, hp, h1]; simp only [Bool.false_eq_true, if_false]; rw [if_neg (by omega)]; omega
    · exact .inr ⟨0, y, by simp [fi, hp], by simp, by rw [List.find?_cons_of_pos hp]⟩
theorem lst_filter {q : Nat → Bool} : ∀ (L : List Bool) (s : Nat) (M : List Bool), M.length = L.length → (∀ (i : Nat) b, L[i]? = some b → M[i]? = some (b && q (s + i))) → lst s M = (lst s L).filter fun c => q c.toNat
  | [], s, [], _, _ => rfl
  | [], s, _ :: _, h, _ => by simp at h
  | _ :: _, s, [], h, _ => by simp at h
  | b :: L, s, c :: M, h, hb => by
    have ih := lst_filter L (s + 1) M (by simpa using h) fun i b' hi => by have := hb (i + 1) b' (by simpa using hi); simp at this; rw [this]; congr 3; omega
    have h0 := hb 0 b (by simp)
    simp at h0
    subst h0
    cases b
    · simp only [lst, Bool.false_and, Bool.false_eq_true, if_false]; exact ih
    · simp only [lst, Bool.true_and, if_true]
      rw [List.filter_cons]
      cases hq : q s
      · simp [hq, ih]
      · simp [hq, ih]
theorem bits_filter {S H : BitVec 16} : bitsL (S &&& ~~~ H) = (bitsL S).filter fun c => !H.getLsbD c.toNat := by
  unfold bitsL
  refine lst_filter (q := fun c => !H.getLsbD c) (bitsB S) 0 (bitsB (S &&& ~~~ H)) (by simp [bitsB]) fun i b hi => ?_
  rw [bitsB_get] at hi ⊢
  split at hi
  · rename_i h
    cases hi
    rw [if_pos h, BitVec.getLsbD_and, BitVec.getLsbD_not, Nat.zero_add]; simp [h]
  · cases hi
theorem next_left {l : List Nd} {S H : BitVec 16} : next l S H = (bitsL (S &&& ~~~ H)).find? fun c => rdy l H c.toNat := by
  rw [bits_filter, List.find?_filter]
  unfold next
  congr 1; funext a
  cases H.getLsbD a.toNat <;> cases rdy l H a.toNat <;> rfl

theorem d_order (l : List Nd) (H0 S : BitVec 16) (hd : dcheck l = 0) (hS : ∀ j, S.getLsbD j = true → j < 10) : CallSpec cx 36 [.cptr (wantsL l), wd H0, wd S] (newI (gr l S H0)) := by
  have hg0 : (gr l S H0).length ≤ 16 := Nat.le_trans (gr_len _ _) (pc_le _)
  have wrap : ∀ n, IntKind.u16.wrap n = IntKind.u16.wrap n := fun _ => rfl
  refine callSpec_of_vc Tryd.func36 rfl (by decide) (by kernel_rfl) (Nat.le_of_ble_eq_true rfl) ?_
  try simp -dsimp (maxSteps := 2000000) (disch := first | omega | decide +kernel) only [↓vcl, ↓vcy, ↓vco, vck, gR, evl, evb, evBuiltin, evLen, evIdxA, evLoad, loadP, aggD, tis, i64, u32, bl, encL, encB, encLL, reduceIte, Nat.reduceEqDiff, forget, forget1, wantd, tzs, eve, evStore, evBox, evAlloc, evBuildSlice, evMakeSlice, evAppend, fillRows, zcells, elemsOf, putAll, PV.one, Nat.reduceAdd, Nat.reduceMul, Int.cast_ofNat_Int, Int.reduceEq, Int.reduceLT, Int.reduceLE, Nat.reduceLeDiff, List.reduceReplicate, reduceCtorEq, Tryd.f36, PV.cellsP, wd, uRules, uBits, List.set_cons_succ, List.getElem?_cons_zero, List.getElem?_cons_succ, Nat.reduceLT, List.length_set]
  refine LoopQ.rule (fun k st => ∃ (H : BitVec 16) (out : List Int) (nx : Nat), out ++ gr l S H = gr l S H0 ∧ k = pc (S &&& ~~~ H) ∧
    ((out = [] ∧ 2 ≤ nx ∧ st = ⟨mkE [(3, .ptr 0 0 0 0), (4, .ptr 1 0 0 0), (7, .lit (.slice none 0 0)), (8, wd (S &&& ~~~ H))], mkS [(0, .row 0 1 [[.cptr (wantsL l)]] false), (1, .row 0 1 [[wd H]] false)], nx⟩) ∨
     ∃ id ver, 2 ≤ id ∧ id < nx ∧ st = ⟨mkE [(3, .ptr 0 0 0 0), (4, .ptr 1 0 0 0), (7, .own id ver 0 out.length false), (8, wd (S &&& ~~~ H))], mkS [(0, .row 0 1 [[.cptr (wantsL l)]] false), (1, .row 0 1 [[wd H]] false), (id, .row ver 1 (out.map fun i => [i64 i]) false)], nx⟩)) _ _ (weak_of ?_) ⟨H0, [], 2, rfl, rfl, .inl ⟨rfl, by omega, rfl⟩⟩ ?_
  · first | (simp -dsimp (maxSteps := 2000000) (disch := first | omega | decide +kernel) only [↓vcl, ↓vcy, ↓vco, vck, gR, evl, evb, evBuiltin, evLen, evIdxA, evLoad, loadP, aggD, tis, i64, u32, bl, encL, encB, encLL, reduceIte, Nat.reduceEqDiff, forget, forget1, wantd, tzs, eve, evStore, evBox, evAlloc, evBuildSlice, evMakeSlice, evAppend, fillRows, zcells, elemsOf, putAll, PV.one, Nat.reduceAdd, Nat.reduceMul, Int.cast_ofNat_Int, Int.reduceEq, Int.reduceLT, Int.reduceLE, Nat.reduceLeDiff, List.reduceReplicate, reduceCtorEq, wd]; done) | simp -dsimp [evl, putN, i64, u32, bl, encL, encB, encLL, wd]
  rintro k st ⟨H, out, nx, hout, rfl, hst⟩
  have ci := li_index (bitsL (S &&& ~~~ H)) (by have := bits_len (S &&& ~~~ H); omega) 56 [.cptr [.cptr (wantsL l)], .cptr [wd H]] rfl (fun c => rdy l H c.toNat) fun c hc => by
    obtain ⟨j, rfl, hj, hb⟩ := bits_mem.1 hc
    rw [BitVec.getLsbD_and, Bool.and_eq_true] at hb
    exact d_order1 l H j hd (hS j hb.1)
  rcases hst with ⟨rfl, hnx, rfl⟩ | ⟨id, ver, hid2, hid, rfl⟩
  · have hns : ((nx = 0) = False) ∧ ((0 = nx) = False) ∧ ((1 = nx) = False) ∧ ((nx = 1) = False) ∧ ((0 = nx + 1) = False) ∧ ((1 = nx + 1) = False) ∧ ((nx + 1 = 0) = False) ∧ ((nx + 1 = 1) = False) ∧ ((nx = nx + 1) = False) ∧ ((nx + 1 = nx) = False) := by simp only [eq_iff_iff, iff_false]; omega
    try simp -dsimp (maxSteps := 2000000) (disch := first | omega | decide +kernel) only [↓vcl, ↓vcy, ↓vco, vck, gR, evl, evb, evBuiltin, evLen, evIdxA, evLoad, loadP, aggD, tis, i64, u32, bl, encL, encB, encLL, reduceIte, Nat.reduceEqDiff, forget, forget1, wantd, tzs, eve, evStore, evBox, evAlloc, evBuildSlice, evMakeSlice, evAppend, fillRows, zcells, elemsOf, putAll, PV.one, Nat.reduceAdd, Nat.reduceMul, Int.cast_ofNat_Int, Int.reduceEq, Int.reduceLT, Int.reduceLE, Nat.reduceLeDiff, List.reduceReplicate, reduceCtorEq, wd, uRules, uBits, List.set_cons_succ, List.getElem?_cons_zero, List.getElem?_cons_succ, Nat.reduceLT, List.length_set]
    refine CallQ.imm (d_list (S &&& ~~~ H)) (by rfl) (by first | rfl | (simp -dsimp (maxSteps := 2000000) (disch := first | omega | decide +kernel) only [↓vcl, ↓vcy, ↓vco, vck, gR, evl, evb, evBuiltin, evLen, evIdxA, evLoad, loadP, aggD, tis, i64, u32, bl, encL, encB, encLL, reduceIte, Nat.reduceEqDiff, forget, forget1, wantd, tzs, eve, evStore, evBox, evAlloc, evBuildSlice, evMakeSlice, evAppend, fillRows, zcells, elemsOf, putAll, PV.one, Nat.reduceAdd, Nat.reduceMul, Int.cast_ofNat_Int, Int.reduceEq, Int.reduceLT, Int.reduceLE, Nat.reduceLeDiff, List.reduceReplicate, reduceCtorEq, drcs, drc, flat]; done) | simp -dsimp [evl, drcs, drc, flat, i64, u32, bl, encL, encB, encLL]) (by first | exact .inl rfl | exact .inr rfl | exact .inr scalB | exact .inr scalI | exact .inr scalT) ?_
    try simp -dsimp (maxSteps := 2000000) (disch := first | omega | decide +kernel) only [↓vcl, ↓vcy, ↓vco, vck, gR, evl, evb, evBuiltin, evLen, evIdxA, evLoad, loadP, aggD, tis, i64, u32, bl, encL, encB, encLL, reduceIte, Nat.reduceEqDiff, forget, forget1, wantd, tzs, eve, evStore, evBox, evAlloc, evBuildSlice, evMakeSlice, evAppend, fillRows, zcells, elemsOf, putAll, PV.one, Nat.reduceAdd, Nat.reduceMul, Int.cast_ofNat_Int, Int.reduceEq, Int.reduceLT, Int.reduceLE, Nat.reduceLeDiff, List.reduceReplicate, reduceCtorEq, newI]
    refine CallQ.imm (ci) (by rfl) (by first | rfl | (simp -dsimp (maxSteps := 2000000) (disch := first | omega | decide +kernel) only [↓vcl, ↓vcy, ↓vco, vck, gR, evl, evb, evBuiltin, evLen, evIdxA, evLoad, loadP, aggD, tis, i64, u32, bl, encL, encB, encLL, reduceIte, Nat.reduceEqDiff, forget, forget1, wantd, tzs, eve, evStore, evBox, evAlloc, evBuildSlice, evMakeSlice, evAppend, fillRows, zcells, elemsOf, putAll, PV.one, Nat.reduceAdd, Nat.reduceMul, Int.cast_ofNat_Int, Int.reduceEq, Int.reduceLT, Int.reduceLE, Nat.reduceLeDiff, List.reduceReplicate, reduceCtorEq, drcs, drc, flat]; done) | simp -dsimp [evl, drcs, drc, flat, i64, u32, bl, encL, encB, encLL]) (by first | exact .inl rfl | exact .inr rfl | exact .inr scalB | exact .inr scalI | exact .inr scalT) ?_
    rcases fi_find (fun c => rdy l H c.toNat) (bitsL (S &&& ~~~ H)) with ⟨h1, h2⟩ | ⟨k, x, h1, h2, h3⟩
    · have hn : next l S H = none := by rw [next_left]; exact h2
      rw [gr_none hn] at hout
      simp -dsimp (maxSteps := 2000000) (disch := first | omega | decide +kernel) only [↓vcl, ↓vcy, ↓vco, vck, gR, evl, evb, evBuiltin, evLen, evIdxA, evLoad, loadP, aggD, tis, i64, u32, bl, encL, encB, encLL, reduceIte, Nat.reduceEqDiff, forget, forget1, wantd, tzs, eve, evStore, evBox, evAlloc, evBuildSlice, evMakeSlice, evAppend, fillRows, zcells, elemsOf, putAll, PV.one, Nat.reduceAdd, Nat.reduceMul, Int.cast_ofNat_Int, Int.reduceEq, Int.reduceLT, Int.reduceLE, Nat.reduceLeDiff, List.reduceReplicate, reduceCtorEq, retQ, resL, finL, newL, flat, tupOf, List.toList_toArray, Tryd.f36, h1, Int.reduceNeg]
      refine leT_one (.inr ⟨rfl, 1, ?_⟩) (by simp)
      rw [newI, ← hout]; rfl
    · have hn : next l S H = some x := by rw [next_left]; exact h3
      obtain ⟨j, rfl, hj, hs1, hs2, _⟩ := next_some hn
      rw [gr_some hn, Int.toNat_natCast] at hout
      have hpd := pc_drop hj hs1 hs2
      have hk0 : decide ((k : Int) < 0) = false := by rw [decide_eq_false_iff_not]; omega
      have eL : S &&& ~~~ H &&& ~~~ (1#16 <<< j) = S &&& ~~~ (H ||| bit j) := by
        rw [show (1#16 <<< j) = bit j from rfl, BitVec.not_or, BitVec.and_assoc]
      rw [h1]
      try simp -dsimp (maxSteps := 2000000) (disch := first | omega | decide +kernel) only [↓vcl, ↓vcy, ↓vco, vck, gR, evl, evb, evBuiltin, evLen, evIdxA, evLoad, loadP, aggD, tis, i64, u32, bl, encL, encB, encLL, reduceIte, Nat.reduceEqDiff, forget, forget1, wantd, tzs, eve, evStore, evBox, evAlloc, evBuildSlice, evMakeSlice, evAppend, fillRows, zcells, elemsOf, putAll, PV.one, Nat.reduceAdd, Nat.reduceMul, Int.cast_ofNat_Int, Int.reduceEq, Int.reduceLT, Int.reduceLE, Nat.reduceLeDiff, List.reduceReplicate, reduceCtorEq, hk0, wd, uRules, uBits, List.set_cons_succ, List.getElem?_cons_zero, List.getElem?_cons_succ, Nat.reduceLT, List.length_set]
      refine CallQ.imm (d_list (S &&& ~~~ H)) (by rfl) (by first | rfl | (simp -dsimp (maxSteps := 2000000) (disch := first | omega | decide +kernel) only [↓vcl, ↓vcy, ↓vco, vck, gR, evl, evb, evBuiltin, evLen, evIdxA, evLoad, loadP, aggD, tis, i64, u32, bl, encL, encB, encLL, reduceIte, Nat.reduceEqDiff, forget, forget1, wantd, tzs, eve, evStore, evBox, evAlloc, evBuildSlice, evMakeSlice, evAppend, fillRows, zcells, elemsOf, putAll, PV.one, Nat.reduceAdd, Nat.reduceMul, Int.cast_ofNat_Int, Int.reduceEq, Int.reduceLT, Int.reduceLE, Nat.reduceLeDiff, List.reduceReplicate, reduceCtorEq, drcs, drc, flat]; done) | simp -dsimp [evl, drcs, drc, flat, i64, u32, bl, encL, encB, encLL]) (by first | exact .inl rfl | exact .inr rfl | exact .inr scalB | exact .inr scalI | exact .inr scalT) ?_
      try simp -dsimp (maxSteps := 2000000) (disch := first | omega | decide +kernel) only [↓vcl, ↓vcy, ↓vco, vck, gR, evl, evb, evBuiltin, evLen, evIdxA, evLoad, loadP, aggD, tis, i64, u32, bl, encL, encB, encLL, reduceIte, Nat.reduceEqDiff, forget, forget1, wantd, tzs, eve, evStore, evBox, evAlloc, evBuildSlice, evMakeSlice, evAppend, fillRows, zcells, elemsOf, putAll, PV.one, Nat.reduceAdd, Nat.reduceMul, Int.cast_ofNat_Int, Int.reduceEq, Int.reduceLT, Int.reduceLE, Nat.reduceLeDiff, List.reduceReplicate, reduceCtorEq, newI, h2, wd, uRules, uBits, uShl, List.set_cons_succ, List.getElem?_cons_zero, List.getElem?_cons_succ, Nat.reduceLT, List.length_set, hns]
      refine ⟨_, _, ?_, weak_of ?_, H ||| bit j, [(j : Int)], nx + 2, hout, rfl, .inr ⟨nx + 1, 0, by omega, by omega, rfl⟩⟩
      · omega
      · first | (simp -dsimp (maxSteps := 2000000) (disch := first | omega | decide +kernel) only [↓vcl, ↓vcy, ↓vco, vck, gR, evl, evb, evBuiltin, evLen, evIdxA, evLoad, loadP, aggD, tis, i64, u32, bl, encL, encB, encLL, reduceIte, Nat.reduceEqDiff, forget, forget1, wantd, tzs, eve, evStore, evBox, evAlloc, evBuildSlice, evMakeSlice, evAppend, fillRows, zcells, elemsOf, putAll, PV.one, Nat.reduceAdd, Nat.reduceMul, Int.cast_ofNat_Int, Int.reduceEq, Int.reduceLT, Int.reduceLE, Nat.reduceLeDiff, List.reduceReplicate, reduceCtorEq, wd, eL, hns, bit]; done) | simp -dsimp [evl, putN, i64, u32, bl, encL, encB, encLL, wd, eL, hns, bit]
  · have hbd : (out.length + 1) * 8 ≤ 140737488355328 := by
      have := congrArg List.length hout
      rw [List.length_append] at this; omega
    have hns : ((nx = 0) = False) ∧ ((0 = nx) = False) ∧ ((1 = nx) = False) ∧ ((nx = 1) = False) ∧ ((id = nx) = False) ∧ ((nx = id) = False) ∧ ((id = 0) = False) ∧ ((id = 1) = False) ∧ ((0 = id) = False) ∧ ((1 = id) = False) := by simp only [eq_iff_iff, iff_false]; omega
    try simp -dsimp (maxSteps := 2000000) (disch := first | omega | decide +kernel) only [↓vcl, ↓vcy, ↓vco, vck, gR, evl, evb, evBuiltin, evLen, evIdxA, evLoad, loadP, aggD, tis, i64, u32, bl, encL, encB, encLL, reduceIte, Nat.reduceEqDiff, forget, forget1, wantd, tzs, eve, evStore, evBox, evAlloc, evBuildSlice, evMakeSlice, evAppend, fillRows, zcells, elemsOf, putAll, PV.one, Nat.reduceAdd, Nat.reduceMul, Int.cast_ofNat_Int, Int.reduceEq, Int.reduceLT, Int.reduceLE, Nat.reduceLeDiff, List.reduceReplicate, reduceCtorEq, wd, uRules, uBits, List.set_cons_succ, List.getElem?_cons_zero, List.getElem?_cons_succ, Nat.reduceLT, List.length_set]
    refine CallQ.imm (d_list (S &&& ~~~ H)) (by rfl) (by first | rfl | (simp -dsimp (maxSteps := 2000000) (disch := first | omega | decide +kernel) only [↓vcl, ↓vcy, ↓vco, vck, gR, evl, evb, evBuiltin, evLen, evIdxA, evLoad, loadP, aggD, tis, i64, u32, bl, encL, encB, encLL, reduceIte, Nat.reduceEqDiff, forget, forget1, wantd, tzs, eve, evStore, evBox, evAlloc, evBuildSlice, evMakeSlice, evAppend, fillRows, zcells, elemsOf, putAll, PV.one, Nat.reduceAdd, Nat.reduceMul, Int.cast_ofNat_Int, Int.reduceEq, Int.reduceLT, Int.reduceLE, Nat.reduceLeDiff, List.reduceReplicate, reduceCtorEq, drcs, drc, flat]; done) | simp -dsimp [evl, drcs, drc, flat, i64, u32, bl, encL, encB, encLL]) (by first | exact .inl rfl | exact .inr rfl | exact .inr scalB | exact .inr scalI | exact .inr scalT) ?_
    try simp -dsimp (maxSteps := 2000000) (disch := first | omega | decide +kernel) only [↓vcl, ↓vcy, ↓vco, vck, gR, evl, evb, evBuiltin, evLen, evIdxA, evLoad, loadP, aggD, tis, i64, u32, bl, encL, encB, encLL, reduceIte, Nat.reduceEqDiff, forget, forget1, wantd, tzs, eve, evStore, evBox, evAlloc, evBuildSlice, evMakeSlice, evAppend, fillRows, zcells, elemsOf, putAll, PV.one, Nat.reduceAdd, Nat.reduceMul, Int.cast_ofNat_Int, Int.reduceEq, Int.reduceLT, Int.reduceLE, Nat.reduceLeDiff, List.reduceReplicate, reduceCtorEq, newI]
    refine CallQ.imm (ci) (by rfl) (by first | rfl | (simp -dsimp (maxSteps := 2000000) (disch := first | omega | decide +kernel) only [↓vcl, ↓vcy, ↓vco, vck, gR, evl, evb, evBuiltin, evLen, evIdxA, evLoad, loadP, aggD, tis, i64, u32, bl, encL, encB, encLL, reduceIte, Nat.reduceEqDiff, forget, forget1, wantd, tzs, eve, evStore, evBox, evAlloc, evBuildSlice, evMakeSlice, evAppend, fillRows, zcells, elemsOf, putAll, PV.one, Nat.reduceAdd, Nat.reduceMul, Int.cast_ofNat_Int, Int.reduceEq, Int.reduceLT, Int.reduceLE, Nat.reduceLeDiff, List.reduceReplicate, reduceCtorEq, drcs, drc, flat]; done) | simp -dsimp [evl, drcs, drc, flat, i64, u32, bl, encL, encB, encLL]) (by first | exact .inl rfl | exact .inr rfl | exact .inr scalB | exact .inr scalI | exact .inr scalT) ?_
    rcases fi_find (fun c => rdy l H c.toNat) (bitsL (S &&& ~~~ H)) with ⟨h1, h2⟩ | ⟨k, x, h1, h2, h3⟩
    · have hn : next l S H = none := by rw [next_left]; exact h2
      rw [gr_none hn, List.append_nil] at hout
      simp -dsimp (maxSteps := 2000000) (disch := first | omega | decide +kernel) only [↓vcl, ↓vcy, ↓vco, vck, gR, evl, evb, evBuiltin, evLen, evIdxA, evLoad, loadP, aggD, tis, i64, u32, bl, encL, encB, encLL, reduceIte, Nat.reduceEqDiff, forget, forget1, wantd, tzs, eve, evStore, evBox, evAlloc, evBuildSlice, evMakeSlice, evAppend, fillRows, zcells, elemsOf, putAll, PV.one, Nat.reduceAdd, Nat.reduceMul, Int.cast_ofNat_Int, Int.reduceEq, Int.reduceLT, Int.reduceLE, Nat.reduceLeDiff, List.reduceReplicate, reduceCtorEq, retQ, resL, finL, newL, flat, tupOf, List.toList_toArray, Tryd.f36, h1, Int.reduceNeg, hns]
      refine leT_one ?_ (by simp)
      rw [← hout]
      exact .rfl'
    · have hn : next l S H = some x := by rw [next_left]; exact h3
      obtain ⟨j, rfl, hj, hs1, hs2, _⟩ := next_some hn
      rw [gr_some hn, Int.toNat_natCast] at hout
      have hpd := pc_drop hj hs1 hs2
      have hk0 : decide ((k : Int) < 0) = false := by rw [decide_eq_false_iff_not]; omega
      have eL : S &&& ~~~ H &&& ~~~ (1#16 <<< j) = S &&& ~~~ (H ||| bit j) := by
        rw [show (1#16 <<< j) = bit j from rfl, BitVec.not_or, BitVec.and_assoc]
      rw [h1]
      try simp -dsimp (maxSteps := 2000000) (disch := first | omega | decide +kernel) only [↓vcl, ↓vcy, ↓vco, vck, gR, evl, evb, evBuiltin, evLen, evIdxA, evLoad, loadP, aggD, tis, i64, u32, bl, encL, encB, encLL, reduceIte, Nat.reduceEqDiff, forget, forget1, wantd, tzs, eve, evStore, evBox, evAlloc, evBuildSlice, evMakeSlice, evAppend, fillRows, zcells, elemsOf, putAll, PV.one, Nat.reduceAdd, Nat.reduceMul, Int.cast_ofNat_Int, Int.reduceEq, Int.reduceLT, Int.reduceLE, Nat.reduceLeDiff, List.reduceReplicate, reduceCtorEq, hk0, wd, uRules, uBits, List.set_cons_succ, List.getElem?_cons_zero, List.getElem?_cons_succ, Nat.reduceLT, List.length_set]
      refine CallQ.imm (d_list (S &&& ~~~ H)) (by rfl) (by first | rfl | (simp -dsimp (maxSteps := 2000000) (disch := first | omega | decide +kernel) only [↓vcl, ↓vcy, ↓vco, vck, gR, evl, evb, evBuiltin, evLen, evIdxA, evLoad, loadP, aggD, tis, i64, u32, bl, encL, encB, encLL, reduceIte, Nat.reduceEqDiff, forget, forget1, wantd, tzs, eve, evStore, evBox, evAlloc, evBuildSlice, evMakeSlice, evAppend, fillRows, zcells, elemsOf, putAll, PV.one, Nat.reduceAdd, Nat.reduceMul, Int.cast_ofNat_Int, Int.reduceEq, Int.reduceLT, Int.reduceLE, Nat.reduceLeDiff, List.reduceReplicate, reduceCtorEq, drcs, drc, flat]; done) | simp -dsimp [evl, drcs, drc, flat, i64, u32, bl, encL, encB, encLL]) (by first | exact .inl rfl | exact .inr rfl | exact .inr scalB | exact .inr scalI | exact .inr scalT) ?_
      try simp -dsimp (maxSteps := 2000000) (disch := first | omega | decide +kernel) only [↓vcl, ↓vcy, ↓vco, vck, gR, evl, evb, evBuiltin, evLen, evIdxA, evLoad, loadP, aggD, tis, i64, u32, bl, encL, encB, encLL, reduceIte, Nat.reduceEqDiff, forget, forget1, wantd, tzs, eve, evStore, evBox, evAlloc, evBuildSlice, evMakeSlice, evAppend, fillRows, zcells, elemsOf, putAll, PV.one, Nat.reduceAdd, Nat.reduceMul, Int.cast_ofNat_Int, Int.reduceEq, Int.reduceLT, Int.reduceLE, Nat.reduceLeDiff, List.reduceReplicate, reduceCtorEq, newI, h2, wd, uRules, uBits, uShl, List.set_cons_succ, List.getElem?_cons_zero, List.getElem?_cons_succ, Nat.reduceLT, List.length_set, hns, hbd]
      refine ⟨_, _, ?_, weak_of ?_, H ||| bit j, out ++ [(j : Int)], nx + 1, by rw [← hout]; simp, rfl, .inr ⟨id, ver + 1, by omega, by omega, rfl⟩⟩
      · omega
      · first | (simp -dsimp (maxSteps := 2000000) (disch := first | omega | decide +kernel) only [↓vcl, ↓vcy, ↓vco, vck, gR, evl, evb, evBuiltin, evLen, evIdxA, evLoad, loadP, aggD, tis, i64, u32, bl, encL, encB, encLL, reduceIte, Nat.reduceEqDiff, forget, forget1, wantd, tzs, eve, evStore, evBox, evAlloc, evBuildSlice, evMakeSlice, evAppend, fillRows, zcells, elemsOf, putAll, PV.one, Nat.reduceAdd, Nat.reduceMul, Int.cast_ofNat_Int, Int.reduceEq, Int.reduceLT, Int.reduceLE, Nat.reduceLeDiff, List.reduceReplicate, reduceCtorEq, wd, eL, hns, bit]; done) | simp -dsimp [evl, putN, i64, u32, bl, encL, encB, encLL, wd, eL, hns, bit]
end Go.Ab
