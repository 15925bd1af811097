import Derived.Test.YtbhmgkbmlbbonaaDoorBJ
set_option linter.unusedSimpArgs false
set_option linter.unusedVariables false
set_option maxRecDepth 100000
set_option maxHeartbeats 8000000
namespace Go.Ab
open Go Go.Proofs

theorem Kok.set {R : Int → Int → Bool} {l : List Int} {K : List Int} (h : Kok R l K) (s : BitVec 64) : Kok R l (K.set s.toNat ((D R (sel l s) : Int) + 1)) := by
  refine ⟨by simp [h.len], fun t ht => ?_⟩
  by_cases e : t.toNat = s.toNat
  · have : t = s := BitVec.eq_of_toNat_eq e
    subst this
    rcases h.known t ht with h1 | h1
    · right; rw [List.getElem?_set_self (List.getElem?_eq_some_iff.1 h1).1]
    · right; rw [List.getElem?_set_self (List.getElem?_eq_some_iff.1 h1).1]
  · rw [List.getElem?_set_ne (Ne.symm e)]; exact h.known t ht
theorem Kok.at {R : Int → Int → Bool} {l : List Int} {K : List Int} (h : Kok R l K) {s : BitVec 64} (hs : ∀ i, s.getLsbD i = true → i < l.length) : ∃ v, K[s.toNat]? = some v ∧ (v = 0 ∨ v = (D R (sel l s) : Int) + 1) := by
  rcases h.known s hs with h1 | h1
  · exact ⟨_, h1, .inl rfl⟩
  · exact ⟨_, h1, .inr rfl⟩

section
variable (R : Int → Int → Bool) (l : List Int) (u : List (BitVec 64)) (ib iK iD iF : Nat)
variable (hok : Ok R l) (hn : l.length ≤ 12)
include hok hn
theorem dep_of (s : BitVec 64) (hs : ∀ i, s.getLsbD i = true → i < l.length) (h1 : 1 ≤ (sel l s).length)
    (hF : 2 ≤ (sel l s).length → FirSp R l u ib iK iD iF s) : DepSp R l u ib iK iD iF s := by
  intro σ nx K hB hK
  have hselle := List.Sublist.length_le (sel_sub (l := l) (s := s))
  have hsame := put_same hB.k
  have hsw := swar_sel hn hs
  have hsb : s.toNat < 4096 := Nat.lt_of_lt_of_le (bits_lt hs) (by rw [show 4096 = 2 ^ 12 from rfl]; exact Nat.pow_le_pow_right (by omega) hn)
  have hDl := D_lt _ _ rfl (hok.sub (sel_sub (l := l) (s := s))) h1
  have hw1 : IntKind.i64.wrap ((D R (sel l s) : Int) + 1 - 1) = (D R (sel l s) : Int) := by rw [IntWalk.i64_in _ (by omega)]; omega
  refine stSpec_of_vc Tryd.func58 rfl (by decide) (by kernel_rfl) (Nat.le_of_ble_eq_true rfl) ?_
  try simp -dsimp (maxSteps := 2000000) (disch := first | omega | decide +kernel) only [↓vcl, ↓vcy, ↓vco, vck, gR, evl, evb, evBuiltin, evLen, evIdxA, evLoad, loadP, aggD, tis, i64, u32, bl, encL, encB, encLL, reduceIte, Nat.reduceEqDiff, forget, forget1, wantd, tzs, eve, evStore, evBox, evAlloc, evBuildSlice, evMakeSlice, evAppend, fillRows, zcells, elemsOf, putAll, PV.one, Nat.reduceAdd, Nat.reduceMul, Int.cast_ofNat_Int, Int.reduceEq, Int.reduceLT, Int.reduceLE, Nat.reduceLeDiff, List.reduceReplicate, reduceCtorEq, Tryd.f58]
  refine CallQ.imm (b_Ones s) (by rfl) (by first | rfl | (simp -dsimp (maxSteps := 2000000) (disch := first | omega | decide +kernel) only [↓vcl, ↓vcy, ↓vco, vck, gR, evl, evb, evBuiltin, evLen, evIdxA, evLoad, loadP, aggD, tis, i64, u32, bl, encL, encB, encLL, reduceIte, Nat.reduceEqDiff, forget, forget1, wantd, tzs, eve, evStore, evBox, evAlloc, evBuildSlice, evMakeSlice, evAppend, fillRows, zcells, elemsOf, putAll, PV.one, Nat.reduceAdd, Nat.reduceMul, Int.cast_ofNat_Int, Int.reduceEq, Int.reduceLT, Int.reduceLE, Nat.reduceLeDiff, List.reduceReplicate, reduceCtorEq, drcs, drc, flat]; done) | simp -dsimp [evl, drcs, drc, flat, i64, u32, bl, encL, encB, encLL]) (by first | exact .inl rfl | exact .inr rfl | exact .inr scalB | exact .inr scalI | exact .inr scalT) ?_
  cases hone : decide (((sel l s).length : Int) = 1)
  case true =>
    have he := of_decide_eq_true hone
    have hD0 : D R (sel l s) = 0 := by rw [D_eq, if_pos (by omega)]
    simp -dsimp (maxSteps := 2000000) (disch := first | omega | decide +kernel) only [↓vcl, ↓vcy, ↓vco, vck, gR, evl, evb, evBuiltin, evLen, evIdxA, evLoad, loadP, aggD, tis, i64, u32, bl, encL, encB, encLL, reduceIte, Nat.reduceEqDiff, forget, forget1, wantd, tzs, eve, evStore, evBox, evAlloc, evBuildSlice, evMakeSlice, evAppend, fillRows, zcells, elemsOf, putAll, PV.one, Nat.reduceAdd, Nat.reduceMul, Int.cast_ofNat_Int, Int.reduceEq, Int.reduceLT, Int.reduceLE, Nat.reduceLeDiff, List.reduceReplicate, reduceCtorEq, stQ, resL, tupOf, List.toList_toArray, Tryd.f58, hsw, hone]
    exact ⟨_, _, .refl _, by rw [hD0]; rfl, rfl, K, hK, hsame.symm⟩
  have h2 : 2 ≤ (sel l s).length := by have := of_decide_eq_false hone; omega
  obtain ⟨v, hv, hv2⟩ := hK.at hs
  have hdr : ((K.map fun x => PV.lit (.int .i64 x)).drop s.toNat)[0]? = some (.lit (.int .i64 v)) := by rw [List.getElem?_drop, Nat.add_zero, List.getElem?_map, hv]; rfl
  have hb := hB.k
  have hf := hB.f
  have hnF : ((iF = iK) = False) := by simp only [eq_iff_iff, iff_false]; exact Ne.symm hB.ne.2.2
  simp only [rowK, i64] at hb
  simp only [cloF] at hf
  rcases hv2 with rfl | rfl
  · have hz0 : decide ((0 : Int) = 0) = true := rfl
    try simp -dsimp (maxSteps := 2000000) (disch := first | omega | decide +kernel) only [↓vcl, ↓vcy, ↓vco, vck, gR, evl, evb, evBuiltin, evLen, evIdxA, evLoad, loadP, aggD, tis, i64, u32, bl, encL, encB, encLL, reduceIte, Nat.reduceEqDiff, forget, forget1, wantd, tzs, eve, evStore, evBox, evAlloc, evBuildSlice, evMakeSlice, evAppend, fillRows, zcells, elemsOf, putAll, PV.one, Nat.reduceAdd, Nat.reduceMul, Int.cast_ofNat_Int, Int.reduceEq, Int.reduceLT, Int.reduceLE, Nat.reduceLeDiff, List.reduceReplicate, reduceCtorEq, hsw, hone, W64.wd, hb, hf, tisB, hsb, hdr, hz0]
    refine CallQ.inm ((hF h2) _ _ K hB hK) (by rfl) ?_
    rintro r σ' nx' ⟨⟨a, rfl, ha1, ha2⟩, rfl, K2, hK2, rfl⟩
    have hl2 : s.toNat + 1 ≤ K2.length := by rw [hK2.len]; omega
    have hw2 : IntKind.i64.wrap ((D R (sel l s) : Int) + 1) = (D R (sel l s) : Int) + 1 := IntWalk.i64_in _ (by omega)
    have hs2 : (((K2.map fun x => PV.lit (.int .i64 x)).set s.toNat (.lit (.int .i64 ((D R (sel l s) : Int) + 1)))).drop s.toNat)[0]? = some (.lit (.int .i64 ((D R (sel l s) : Int) + 1))) := by
      rw [List.getElem?_drop, Nat.add_zero, List.getElem?_set_self (by rw [List.length_map]; omega)]
    simp -dsimp (maxSteps := 2000000) (disch := first | omega | decide +kernel) only [↓vcl, ↓vcy, ↓vco, vck, gR, evl, evb, evBuiltin, evLen, evIdxA, evLoad, loadP, aggD, tis, i64, u32, bl, encL, encB, encLL, reduceIte, Nat.reduceEqDiff, forget, forget1, wantd, tzs, eve, evStore, evBox, evAlloc, evBuildSlice, evMakeSlice, evAppend, fillRows, zcells, elemsOf, putAll, PV.one, Nat.reduceAdd, Nat.reduceMul, Int.cast_ofNat_Int, Int.reduceEq, Int.reduceLT, Int.reduceLE, Nat.reduceLeDiff, List.reduceReplicate, reduceCtorEq, stQ, resL, tupOf, List.toList_toArray, Tryd.f58, rowK, hsw, hone, W64.wd, hb, hf, tisB, hsb, hl2, hw2, hs2, hw1, put_put]
    refine ⟨_, _, .refl _, rfl, _, hK2.set s, ?_⟩
    rw [List.map_set]
  · have hz1 : decide ((D R (sel l s) : Int) + 1 = 0) = false := decide_eq_false (by omega)
    simp -dsimp (maxSteps := 2000000) (disch := first | omega | decide +kernel) only [↓vcl, ↓vcy, ↓vco, vck, gR, evl, evb, evBuiltin, evLen, evIdxA, evLoad, loadP, aggD, tis, i64, u32, bl, encL, encB, encLL, reduceIte, Nat.reduceEqDiff, forget, forget1, wantd, tzs, eve, evStore, evBox, evAlloc, evBuildSlice, evMakeSlice, evAppend, fillRows, zcells, elemsOf, putAll, PV.one, Nat.reduceAdd, Nat.reduceMul, Int.cast_ofNat_Int, Int.reduceEq, Int.reduceLT, Int.reduceLE, Nat.reduceLeDiff, List.reduceReplicate, reduceCtorEq, stQ, resL, tupOf, List.toList_toArray, Tryd.f58, hsw, hone, W64.wd, hb, tisB, hsb, hdr, hz1, hw1]
    exact ⟨_, _, .refl _, rfl, K, hK, hsame.symm⟩

theorem all_dep (hul : u.length = l.length) (hU : ∀ (i j : Nat) (c d : Int) (x : BitVec 64), l[i]? = some c → l[j]? = some d → u[i]? = some x → x.getLsbD j = R d c) :
    ∀ (n : Nat) (s : BitVec 64), (sel l s).length = n → (∀ i, s.getLsbD i = true → i < l.length) → 1 ≤ n → (2 ≤ n → FirSp R l u ib iK iD iF s) ∧ DepSp R l u ib iK iD iF s := by
  intro n
  induction n using Nat.strongRecOn with
  | _ n ih =>
    intro s hl hs h1
    have hF : 2 ≤ n → FirSp R l u ib iK iD iF s := fun h2 => first_of R l u ib iK iD iF hok hn hul hU s hs (by omega) fun t ht h3 h4 => (ih _ (by omega) t rfl ht h3).2
    exact ⟨hF, dep_of R l u ib iK iD iF hok hn s hs (by omega) fun h2 => hF (by omega)⟩
end

theorem tz4096 : tz cx.P 81 = some (.agg (List.replicate 4096 (i64 0))) := by kernel_rfl
theorem tzF1 : tz cx.P 82 = some (.lit .nilFunc) := by kernel_rfl
theorem tzF2 : tz cx.P 59 = some (.lit .nilFunc) := by kernel_rfl
theorem rep1 : (List.replicate 4096 (i64 0)).all PV.one = true := by rw [List.all_replicate]; rfl
theorem kok0 {R : Int → Int → Bool} {l : List Int} (hl : l.length ≤ 12) : Kok R l (List.replicate 4096 0) := by
  refine ⟨List.length_replicate, fun s hs => .inl ?_⟩
  have : s.toNat < 4096 := Nat.lt_of_lt_of_le (bits_lt hs) (by rw [show 4096 = 2 ^ 12 from rfl]; exact Nat.pow_le_pow_right (by omega) hl)
  rw [List.getElem?_replicate, if_pos this]

theorem b_best (R : Int → Int → Bool) (l : List Int) (u : List (BitVec 64)) (hok : Ok R l) (hn : l.length ≤ 12) (hul : u.length = l.length) (hU : ∀ (i j : Nat) (c d : Int) (x : BitVec 64), l[i]? = some c → l[j]? = some d → u[i]? = some x → x.getLsbD j = R d c)
    (s : BitVec 64) (hs : ∀ i, s.getLsbD i = true → i < l.length) (h1 : 1 ≤ (sel l s).length) :
    ∃ a : Int, CallSpec cx 42 [.cptr [encL l, encU u], W64.wd s] (.tup [i64 (D R (sel l s)), i64 a]) ∧ ((sel l s).length ≤ 1 → a = -1) ∧ (2 ≤ (sel l s).length → ∃ k : Nat, a = k ∧ s.getLsbD k = true ∧ l[k]? = some (nxt R (sel l s))) := by
  have hsw := swar_sel hn hs
  by_cases hone : (sel l s).length ≤ 1
  · have hoD : decide (((sel l s).length : Int) = 1) = true := decide_eq_true (by omega)
    have hD0 : D R (sel l s) = 0 := by rw [D_eq, if_pos (by omega)]
    refine ⟨-1, ?_, fun _ => rfl, fun h => by omega⟩
    refine callSpec_of_vc Tryd.func42 rfl (by decide) (by kernel_rfl) (Nat.le_of_ble_eq_true rfl) ?_
    try simp -dsimp (maxSteps := 2000000) (disch := first | omega | decide +kernel) only [↓vcl, ↓vcy, ↓vco, vck, gR, evl, evb, evBuiltin, evLen, evIdxA, evLoad, loadP, aggD, tis, i64, u32, bl, encL, encB, encLL, reduceIte, Nat.reduceEqDiff, forget, forget1, wantd, tzs, eve, evStore, evBox, evAlloc, evBuildSlice, evMakeSlice, evAppend, fillRows, zcells, elemsOf, putAll, PV.one, Nat.reduceAdd, Nat.reduceMul, Int.cast_ofNat_Int, Int.reduceEq, Int.reduceLT, Int.reduceLE, Nat.reduceLeDiff, List.reduceReplicate, reduceCtorEq, Tryd.f42, tz4096, tzF1, tzF2, rep1, List.length_replicate]
    refine CallQ.imm (b_Ones s) (by rfl) (by first | rfl | (simp -dsimp (maxSteps := 2000000) (disch := first | omega | decide +kernel) only [↓vcl, ↓vcy, ↓vco, vck, gR, evl, evb, evBuiltin, evLen, evIdxA, evLoad, loadP, aggD, tis, i64, u32, bl, encL, encB, encLL, reduceIte, Nat.reduceEqDiff, forget, forget1, wantd, tzs, eve, evStore, evBox, evAlloc, evBuildSlice, evMakeSlice, evAppend, fillRows, zcells, elemsOf, putAll, PV.one, Nat.reduceAdd, Nat.reduceMul, Int.cast_ofNat_Int, Int.reduceEq, Int.reduceLT, Int.reduceLE, Nat.reduceLeDiff, List.reduceReplicate, reduceCtorEq, drcs, drc, flat]; done) | simp -dsimp [evl, drcs, drc, flat, i64, u32, bl, encL, encB, encLL]) (by first | exact .inl rfl | exact .inr rfl | exact .inr scalB | exact .inr scalI | exact .inr scalT) ?_
    simp -dsimp (maxSteps := 2000000) (disch := first | omega | decide +kernel) only [↓vcl, ↓vcy, ↓vco, vck, gR, evl, evb, evBuiltin, evLen, evIdxA, evLoad, loadP, aggD, tis, i64, u32, bl, encL, encB, encLL, reduceIte, Nat.reduceEqDiff, forget, forget1, wantd, tzs, eve, evStore, evBox, evAlloc, evBuildSlice, evMakeSlice, evAppend, fillRows, zcells, elemsOf, putAll, PV.one, Nat.reduceAdd, Nat.reduceMul, Int.cast_ofNat_Int, Int.reduceEq, Int.reduceLT, Int.reduceLE, Nat.reduceLeDiff, List.reduceReplicate, reduceCtorEq, retQ, resL, finL, newL, flat, tupOf, List.toList_toArray, Tryd.f42, hsw, hoD]
    rw [hD0]; exact ⟨.rfl', .rfl', trivial⟩
  have h2 : 2 ≤ (sel l s).length := by omega
  have hoD : decide (((sel l s).length : Int) = 1) = false := decide_eq_false (by omega)
  obtain ⟨k, _, hk1, hk2⟩ := scan_best (s := s) hok h2 (List.Sublist.length_le sel_sub)
  have huniq : ∀ a : Nat, l[a]? = some (nxt R (sel l s)) → a = k := fun a ha => by
    have key : ∀ i j : Nat, i < j → l[i]? = some (nxt R (sel l s)) → l[j]? = some (nxt R (sel l s)) → False := fun i j hij hi hj => by
      obtain ⟨q1, q2⟩ := List.getElem?_eq_some_iff.1 hi
      obtain ⟨q3, q4⟩ := List.getElem?_eq_some_iff.1 hj
      have := List.pairwise_iff_getElem.1 hok.inc i j q1 q3 hij
      omega
    rcases Nat.lt_trichotomy a k with h | h | h
    · exact (key a k h ha hk2).elim
    · exact h
    · exact (key k a h hk2 ha).elim
  refine ⟨k, ?_, fun h => by omega, fun _ => ⟨k, rfl, hk1, hk2⟩⟩
  refine callSpec_of_vc Tryd.func42 rfl (by decide) (by kernel_rfl) (Nat.le_of_ble_eq_true rfl) ?_
  try simp -dsimp (maxSteps := 2000000) (disch := first | omega | decide +kernel) only [↓vcl, ↓vcy, ↓vco, vck, gR, evl, evb, evBuiltin, evLen, evIdxA, evLoad, loadP, aggD, tis, i64, u32, bl, encL, encB, encLL, reduceIte, Nat.reduceEqDiff, forget, forget1, wantd, tzs, eve, evStore, evBox, evAlloc, evBuildSlice, evMakeSlice, evAppend, fillRows, zcells, elemsOf, putAll, PV.one, Nat.reduceAdd, Nat.reduceMul, Int.cast_ofNat_Int, Int.reduceEq, Int.reduceLT, Int.reduceLE, Nat.reduceLeDiff, List.reduceReplicate, reduceCtorEq, Tryd.f42, tz4096, tzF1, tzF2, rep1, List.length_replicate, tisB, List.set_cons_succ, List.getElem?_cons_zero, List.getElem?_cons_succ, Nat.reduceLT, List.length_set]
  refine CallQ.imm (b_Ones s) (by rfl) (by first | rfl | (simp -dsimp (maxSteps := 2000000) (disch := first | omega | decide +kernel) only [↓vcl, ↓vcy, ↓vco, vck, gR, evl, evb, evBuiltin, evLen, evIdxA, evLoad, loadP, aggD, tis, i64, u32, bl, encL, encB, encLL, reduceIte, Nat.reduceEqDiff, forget, forget1, wantd, tzs, eve, evStore, evBox, evAlloc, evBuildSlice, evMakeSlice, evAppend, fillRows, zcells, elemsOf, putAll, PV.one, Nat.reduceAdd, Nat.reduceMul, Int.cast_ofNat_Int, Int.reduceEq, Int.reduceLT, Int.reduceLE, Nat.reduceLeDiff, List.reduceReplicate, reduceCtorEq, drcs, drc, flat]; done) | simp -dsimp [evl, drcs, drc, flat, i64, u32, bl, encL, encB, encLL]) (by first | exact .inl rfl | exact .inr rfl | exact .inr scalB | exact .inr scalI | exact .inr scalT) ?_
  try simp -dsimp (maxSteps := 2000000) (disch := first | omega | decide +kernel) only [↓vcl, ↓vcy, ↓vco, vck, gR, evl, evb, evBuiltin, evLen, evIdxA, evLoad, loadP, aggD, tis, i64, u32, bl, encL, encB, encLL, reduceIte, Nat.reduceEqDiff, forget, forget1, wantd, tzs, eve, evStore, evBox, evAlloc, evBuildSlice, evMakeSlice, evAppend, fillRows, zcells, elemsOf, putAll, PV.one, Nat.reduceAdd, Nat.reduceMul, Int.cast_ofNat_Int, Int.reduceEq, Int.reduceLT, Int.reduceLE, Nat.reduceLeDiff, List.reduceReplicate, reduceCtorEq, hsw, hoD, tisB, List.set_cons_succ, List.getElem?_cons_zero, List.getElem?_cons_succ, Nat.reduceLT, List.length_set]
  refine CallQ.inm (((all_dep R l u 0 1 2 3 hok hn hul hU _ s rfl hs h1).1 h2) _ _ (List.replicate 4096 0) ⟨rfl, ?_, rfl, rfl, by decide⟩ (kok0 hn)) (by rfl) ?_
  · simp only [rowK, List.map_replicate]
    rfl
  rintro r σ' nx' ⟨⟨a, rfl, ha1, ha2⟩, rfl, K2, hK2, rfl⟩
  obtain rfl := huniq a ha2
  simp -dsimp (maxSteps := 2000000) (disch := first | omega | decide +kernel) only [↓vcl, ↓vcy, ↓vco, vck, gR, evl, evb, evBuiltin, evLen, evIdxA, evLoad, loadP, aggD, tis, i64, u32, bl, encL, encB, encLL, reduceIte, Nat.reduceEqDiff, forget, forget1, wantd, tzs, eve, evStore, evBox, evAlloc, evBuildSlice, evMakeSlice, evAppend, fillRows, zcells, elemsOf, putAll, PV.one, Nat.reduceAdd, Nat.reduceMul, Int.cast_ofNat_Int, Int.reduceEq, Int.reduceLT, Int.reduceLE, Nat.reduceLeDiff, List.reduceReplicate, reduceCtorEq, retQ, resL, finL, newL, flat, tupOf, List.toList_toArray, Tryd.f42]
  exact leT_refl _
end Go.Ab
