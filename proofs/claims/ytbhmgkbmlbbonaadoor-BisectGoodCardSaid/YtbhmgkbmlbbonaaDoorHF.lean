import Derived.Test.YtbhmgkbmlbbonaaDoorHD
set_option linter.unusedSimpArgs false
set_option linter.unusedVariables false
section
set_option maxRecDepth 100000
set_option maxHeartbeats 8000000
namespace Go.Ab
open Go Go.Proofs

theorem s35 (m : List Bool) (hl : m.length ≤ 2^40) : CallSpec cx 54 [encB m] (newI (lst 0 m)) := by
  refine callSpec_of_vc Tryd.func54 rfl (by decide) (by kernel_rfl) (Nat.le_of_ble_eq_true rfl) ?_
  try simp -dsimp (maxSteps := 2000000) (disch := first | omega | decide +kernel) only [↓vcl, ↓vcy, ↓vco, vck, gR, evl, evb, evBuiltin, evLen, evIdxA, evLoad, loadP, aggD, tis, i64, u32, bl, encL, encB, encLL, reduceIte, Nat.reduceEqDiff, forget, forget1, wantd, tzs, eve, evStore, evBox, evAlloc, evBuildSlice, evMakeSlice, evAppend, fillRows, zcells, elemsOf, putAll, PV.one, Nat.reduceAdd, Nat.reduceMul, Int.cast_ofNat_Int, Int.reduceEq, Int.reduceLT, Int.reduceLE, Nat.reduceLeDiff, List.reduceReplicate, reduceCtorEq, Tryd.f54]
  refine LoopQ.rule (fun k st => ∃ i nx : Nat, i ≤ m.length ∧ k = m.length - i ∧
    ((lst 0 (m.take i) = [] ∧ st = ⟨mkE [(0, encB m), (3, .lit (.slice none 0 0)), (4, i64 i)], mkS [], nx⟩) ∨
     ∃ id ver, id < nx ∧ st = ⟨mkE [(0, encB m), (3, .own id ver 0 (lst 0 (m.take i)).length false), (4, i64 i)], mkS [(id, .row ver 1 ((lst 0 (m.take i)).map fun i => [i64 i]) false)], nx⟩)) _ _ (weak_of ?_) ⟨0, 0, by omega, rfl, .inl ⟨by simp [lst], rfl⟩⟩ ?_
  · first | (simp -dsimp (maxSteps := 2000000) (disch := first | omega | decide +kernel) only [↓vcl, ↓vcy, ↓vco, vck, gR, evl, evb, evBuiltin, evLen, evIdxA, evLoad, loadP, aggD, tis, i64, u32, bl, encL, encB, encLL, reduceIte, Nat.reduceEqDiff, forget, forget1, wantd, tzs, eve, evStore, evBox, evAlloc, evBuildSlice, evMakeSlice, evAppend, fillRows, zcells, elemsOf, putAll, PV.one, Nat.reduceAdd, Nat.reduceMul, Int.cast_ofNat_Int, Int.reduceEq, Int.reduceLT, Int.reduceLE, Nat.reduceLeDiff, List.reduceReplicate, reduceCtorEq]; done) | simp -dsimp [evl, putN, i64, u32, bl, encL, encB, encLL]
  rintro k st ⟨i, nx, hi, rfl, ⟨he, rfl⟩ | ⟨id, ver, hid, rfl⟩⟩
  · try simp -dsimp (maxSteps := 2000000) (disch := first | omega | decide +kernel) only [↓vcl, ↓vcy, ↓vco, vck, gR, evl, evb, evBuiltin, evLen, evIdxA, evLoad, loadP, aggD, tis, i64, u32, bl, encL, encB, encLL, reduceIte, Nat.reduceEqDiff, forget, forget1, wantd, tzs, eve, evStore, evBox, evAlloc, evBuildSlice, evMakeSlice, evAppend, fillRows, zcells, elemsOf, putAll, PV.one, Nat.reduceAdd, Nat.reduceMul, Int.cast_ofNat_Int, Int.reduceEq, Int.reduceLT, Int.reduceLE, Nat.reduceLeDiff, List.reduceReplicate, reduceCtorEq]
    refine onC_nlt (fun h2 => ?_) (fun h2 => ?_)
    · obtain ⟨b, hx, hxm⟩ := get_of_lt h2
      have hs := take_succ hx
      have hls := lst_snoc (m.take i) 0 b
      rw [List.length_take, Nat.min_eq_left (by omega), Nat.zero_add, he] at hls
      cases b
      · try simp -dsimp (maxSteps := 2000000) (disch := first | omega | decide +kernel) only [↓vcl, ↓vcy, ↓vco, vck, gR, evl, evb, evBuiltin, evLen, evIdxA, evLoad, loadP, aggD, tis, i64, u32, bl, encL, encB, encLL, reduceIte, Nat.reduceEqDiff, forget, forget1, wantd, tzs, eve, evStore, evBox, evAlloc, evBuildSlice, evMakeSlice, evAppend, fillRows, zcells, elemsOf, putAll, PV.one, Nat.reduceAdd, Nat.reduceMul, Int.cast_ofNat_Int, Int.reduceEq, Int.reduceLT, Int.reduceLE, Nat.reduceLeDiff, List.reduceReplicate, reduceCtorEq, hx]
        refine ⟨_, _, ?_, weak_of ?_, i + 1, nx, h2, rfl, .inl ⟨by rw [hs, hls]; rfl, rfl⟩⟩
        · omega
        · first | (simp -dsimp (maxSteps := 2000000) (disch := first | omega | decide +kernel) only [↓vcl, ↓vcy, ↓vco, vck, gR, evl, evb, evBuiltin, evLen, evIdxA, evLoad, loadP, aggD, tis, i64, u32, bl, encL, encB, encLL, reduceIte, Nat.reduceEqDiff, forget, forget1, wantd, tzs, eve, evStore, evBox, evAlloc, evBuildSlice, evMakeSlice, evAppend, fillRows, zcells, elemsOf, putAll, PV.one, Nat.reduceAdd, Nat.reduceMul, Int.cast_ofNat_Int, Int.reduceEq, Int.reduceLT, Int.reduceLE, Nat.reduceLeDiff, List.reduceReplicate, reduceCtorEq, wrapS h2 (show m.length ≤ 9223372036854775807 by omega)]; done) | simp -dsimp [evl, putN, i64, u32, bl, encL, encB, encLL, wrapS h2 (show m.length ≤ 9223372036854775807 by omega)]
      · try simp -dsimp (maxSteps := 2000000) (disch := first | omega | decide +kernel) only [↓vcl, ↓vcy, ↓vco, vck, gR, evl, evb, evBuiltin, evLen, evIdxA, evLoad, loadP, aggD, tis, i64, u32, bl, encL, encB, encLL, reduceIte, Nat.reduceEqDiff, forget, forget1, wantd, tzs, eve, evStore, evBox, evAlloc, evBuildSlice, evMakeSlice, evAppend, fillRows, zcells, elemsOf, putAll, PV.one, Nat.reduceAdd, Nat.reduceMul, Int.cast_ofNat_Int, Int.reduceEq, Int.reduceLT, Int.reduceLE, Nat.reduceLeDiff, List.reduceReplicate, reduceCtorEq, hx]
        refine ⟨_, _, ?_, weak_of ?_, i + 1, nx + 2, h2, rfl, .inr ⟨nx + 1, 0, by omega, rfl⟩⟩
        · omega
        · first | (simp -dsimp (maxSteps := 2000000) (disch := first | omega | decide +kernel) only [↓vcl, ↓vcy, ↓vco, vck, gR, evl, evb, evBuiltin, evLen, evIdxA, evLoad, loadP, aggD, tis, i64, u32, bl, encL, encB, encLL, reduceIte, Nat.reduceEqDiff, forget, forget1, wantd, tzs, eve, evStore, evBox, evAlloc, evBuildSlice, evMakeSlice, evAppend, fillRows, zcells, elemsOf, putAll, PV.one, Nat.reduceAdd, Nat.reduceMul, Int.cast_ofNat_Int, Int.reduceEq, Int.reduceLT, Int.reduceLE, Nat.reduceLeDiff, List.reduceReplicate, reduceCtorEq, wrapS h2 (show m.length ≤ 9223372036854775807 by omega), hs, hls, he]; done) | simp -dsimp [evl, putN, i64, u32, bl, encL, encB, encLL, wrapS h2 (show m.length ≤ 9223372036854775807 by omega), hs, hls, he]
    · simp -dsimp (maxSteps := 2000000) (disch := first | omega | decide +kernel) only [↓vcl, ↓vcy, ↓vco, vck, gR, evl, evb, evBuiltin, evLen, evIdxA, evLoad, loadP, aggD, tis, i64, u32, bl, encL, encB, encLL, reduceIte, Nat.reduceEqDiff, forget, forget1, wantd, tzs, eve, evStore, evBox, evAlloc, evBuildSlice, evMakeSlice, evAppend, fillRows, zcells, elemsOf, putAll, PV.one, Nat.reduceAdd, Nat.reduceMul, Int.cast_ofNat_Int, Int.reduceEq, Int.reduceLT, Int.reduceLE, Nat.reduceLeDiff, List.reduceReplicate, reduceCtorEq, retQ, resL, finL, newL, flat, tupOf, List.toList_toArray, Tryd.f54]
      refine leT_one (.inr ⟨rfl, 1, ?_⟩) (by simp)
      rw [List.take_of_length_le (by omega)] at he
      rw [newI, he]; rfl
  · have hlen := lst_len (m.take i) 0
    rw [List.length_take, Nat.min_eq_left (by omega)] at hlen
    have hne : (id = nx) = False := by simp; omega
    have hne' : (nx = id) = False := by simp; omega
    have hbd : ((lst 0 (m.take i)).length + 1) * 8 ≤ 140737488355328 := by omega
    try simp -dsimp (maxSteps := 2000000) (disch := first | omega | decide +kernel) only [↓vcl, ↓vcy, ↓vco, vck, gR, evl, evb, evBuiltin, evLen, evIdxA, evLoad, loadP, aggD, tis, i64, u32, bl, encL, encB, encLL, reduceIte, Nat.reduceEqDiff, forget, forget1, wantd, tzs, eve, evStore, evBox, evAlloc, evBuildSlice, evMakeSlice, evAppend, fillRows, zcells, elemsOf, putAll, PV.one, Nat.reduceAdd, Nat.reduceMul, Int.cast_ofNat_Int, Int.reduceEq, Int.reduceLT, Int.reduceLE, Nat.reduceLeDiff, List.reduceReplicate, reduceCtorEq]
    refine onC_nlt (fun h2 => ?_) (fun h2 => ?_)
    · obtain ⟨b, hx, hxm⟩ := get_of_lt h2
      have hs := take_succ hx
      have hls := lst_snoc (m.take i) 0 b
      rw [List.length_take, Nat.min_eq_left (by omega), Nat.zero_add] at hls
      cases b
      · try simp -dsimp (maxSteps := 2000000) (disch := first | omega | decide +kernel) only [↓vcl, ↓vcy, ↓vco, vck, gR, evl, evb, evBuiltin, evLen, evIdxA, evLoad, loadP, aggD, tis, i64, u32, bl, encL, encB, encLL, reduceIte, Nat.reduceEqDiff, forget, forget1, wantd, tzs, eve, evStore, evBox, evAlloc, evBuildSlice, evMakeSlice, evAppend, fillRows, zcells, elemsOf, putAll, PV.one, Nat.reduceAdd, Nat.reduceMul, Int.cast_ofNat_Int, Int.reduceEq, Int.reduceLT, Int.reduceLE, Nat.reduceLeDiff, List.reduceReplicate, reduceCtorEq, hx]
        refine ⟨_, _, ?_, weak_of ?_, i + 1, nx, h2, rfl, .inr ⟨id, ver, hid, rfl⟩⟩
        · omega
        · first | (simp -dsimp (maxSteps := 2000000) (disch := first | omega | decide +kernel) only [↓vcl, ↓vcy, ↓vco, vck, gR, evl, evb, evBuiltin, evLen, evIdxA, evLoad, loadP, aggD, tis, i64, u32, bl, encL, encB, encLL, reduceIte, Nat.reduceEqDiff, forget, forget1, wantd, tzs, eve, evStore, evBox, evAlloc, evBuildSlice, evMakeSlice, evAppend, fillRows, zcells, elemsOf, putAll, PV.one, Nat.reduceAdd, Nat.reduceMul, Int.cast_ofNat_Int, Int.reduceEq, Int.reduceLT, Int.reduceLE, Nat.reduceLeDiff, List.reduceReplicate, reduceCtorEq, wrapS h2 (show m.length ≤ 9223372036854775807 by omega), hs, hls, hne, hne']; done) | simp -dsimp [evl, putN, i64, u32, bl, encL, encB, encLL, wrapS h2 (show m.length ≤ 9223372036854775807 by omega), hs, hls, hne, hne']
      · try simp -dsimp (maxSteps := 2000000) (disch := first | omega | decide +kernel) only [↓vcl, ↓vcy, ↓vco, vck, gR, evl, evb, evBuiltin, evLen, evIdxA, evLoad, loadP, aggD, tis, i64, u32, bl, encL, encB, encLL, reduceIte, Nat.reduceEqDiff, forget, forget1, wantd, tzs, eve, evStore, evBox, evAlloc, evBuildSlice, evMakeSlice, evAppend, fillRows, zcells, elemsOf, putAll, PV.one, Nat.reduceAdd, Nat.reduceMul, Int.cast_ofNat_Int, Int.reduceEq, Int.reduceLT, Int.reduceLE, Nat.reduceLeDiff, List.reduceReplicate, reduceCtorEq, hx, hne, hne', hbd]
        refine ⟨_, _, ?_, weak_of ?_, i + 1, nx + 1, h2, rfl, .inr ⟨id, ver + 1, by omega, rfl⟩⟩
        · omega
        · first | (simp -dsimp (maxSteps := 2000000) (disch := first | omega | decide +kernel) only [↓vcl, ↓vcy, ↓vco, vck, gR, evl, evb, evBuiltin, evLen, evIdxA, evLoad, loadP, aggD, tis, i64, u32, bl, encL, encB, encLL, reduceIte, Nat.reduceEqDiff, forget, forget1, wantd, tzs, eve, evStore, evBox, evAlloc, evBuildSlice, evMakeSlice, evAppend, fillRows, zcells, elemsOf, putAll, PV.one, Nat.reduceAdd, Nat.reduceMul, Int.cast_ofNat_Int, Int.reduceEq, Int.reduceLT, Int.reduceLE, Nat.reduceLeDiff, List.reduceReplicate, reduceCtorEq, wrapS h2 (show m.length ≤ 9223372036854775807 by omega), hs, hls, hne, hne']; done) | simp -dsimp [evl, putN, i64, u32, bl, encL, encB, encLL, wrapS h2 (show m.length ≤ 9223372036854775807 by omega), hs, hls, hne, hne']
    · simp -dsimp (maxSteps := 2000000) (disch := first | omega | decide +kernel) only [↓vcl, ↓vcy, ↓vco, vck, gR, evl, evb, evBuiltin, evLen, evIdxA, evLoad, loadP, aggD, tis, i64, u32, bl, encL, encB, encLL, reduceIte, Nat.reduceEqDiff, forget, forget1, wantd, tzs, eve, evStore, evBox, evAlloc, evBuildSlice, evMakeSlice, evAppend, fillRows, zcells, elemsOf, putAll, PV.one, Nat.reduceAdd, Nat.reduceMul, Int.cast_ofNat_Int, Int.reduceEq, Int.reduceLT, Int.reduceLE, Nat.reduceLeDiff, List.reduceReplicate, reduceCtorEq, retQ, resL, finL, newL, flat, tupOf, List.toList_toArray, Tryd.f54]
      refine leT_one ?_ (by simp)
      rw [List.take_of_length_le (by omega)]
      exact .rfl'
end Go.Ab
end

section
set_option maxRecDepth 100000
set_option maxHeartbeats 8000000
namespace Go.Ab
open Go Go.Proofs

def toI (p : List Nat) : List Int := p.map fun (k : Nat) => (k : Int)
def toII (H : List (List Nat)) : List (List Int) := H.map toI

inductive Anc (H : List (List Nat)) (F : List Nat) : Nat → Prop
  | base {x : Nat} : x ∈ F → Anc H F x
  | up {i k : Nat} {p : List Nat} : Anc H F i → H[i]? = some p → k ∈ p → Anc H F k

open Classical in
noncomputable def ancs (H : List (List Nat)) (F : List Nat) : List Bool := (List.range H.length).map fun x => decide (Anc H F x)

def Vd (H : List (List Nat)) : Prop := ∀ (i : Nat) (p : List Nat), H[i]? = some p → ∀ k ∈ p, k < i

def Tr (out : List Bool) (x : Nat) : Prop := out[x]? = some true

theorem tr_set {out : List Bool} {q x : Nat} {b : Bool} (h : q < out.length) : Tr (out.set q b) x ↔ if x = q then b = true else Tr out x := by
  unfold Tr
  rw [List.getElem?_set]
  by_cases hx : x = q
  · subst hx; simp [h]
  · have : ¬ q = x := fun h => hx h.symm
    simp [hx, this]

theorem anc_end {H : List (List Nat)} {F : List Nat} {out : List Bool} (hlen : out.length = H.length) (h1 : ∀ x, Tr out x → Anc H F x) (h2 : ∀ x ∈ F, Tr out x)
    (h3 : ∀ (j : Nat) (p : List Nat), H[j]? = some p → Tr out j → ∀ k ∈ p, Tr out k) : out = ancs H F := by
  have key : ∀ x, Anc H F x → Tr out x := fun x h => by
    induction h with
    | base h => exact h2 _ h
    | up _ hp hk ih => exact h3 _ _ hp ih _ hk
  apply List.ext_getElem?
  intro x
  unfold ancs
  rw [List.getElem?_map]
  by_cases hx : x < H.length
  · rw [List.getElem?_range hx]
    have hox : x < out.length := by omega
    have hg : out[x]? = some out[x] := List.getElem?_eq_getElem hox
    rw [hg, Option.map_some]
    congr 1
    by_cases ha : Anc H F x
    · have := key x ha
      unfold Tr at this; rw [hg] at this
      simp only [Option.some.injEq] at this
      simp [this, ha]
    · have : out[x] ≠ true := fun hb => ha (h1 x (by unfold Tr; rw [hg, hb]))
      simp only [Bool.not_eq_true] at this
      simp [this, ha]
  · rw [List.getElem?_eq_none (by omega), List.getElem?_eq_none (by simp; omega)]; rfl

theorem s36 (H : List (List Nat)) (F : List Nat) (hv : Vd H) (hF : ∀ x ∈ F, x < H.length) (hl : H.length ≤ 2^40) (hp : ∀ p ∈ H, p.length ≤ 9223372036854775807) (hFl : F.length ≤ 9223372036854775807) :
    CallSpec cx 55 [encLL (toII H), encL (toI F)] (newB (ancs H F)) := by
  refine callSpec_of_vc Tryd.func55 rfl (by decide) (by kernel_rfl) (Nat.le_of_ble_eq_true rfl) ?_
  have hbd : 1 * H.length ≤ 140737488355328 := by omega
  have hbd' : H.length ≤ 140737488355328 := by omega
  try simp -dsimp (maxSteps := 2000000) (disch := first | omega | decide +kernel) only [↓vcl, ↓vcy, ↓vco, vck, gR, evl, evb, evBuiltin, evLen, evIdxA, evLoad, loadP, aggD, tis, i64, u32, bl, encL, encB, encLL, reduceIte, Nat.reduceEqDiff, forget, forget1, wantd, tzs, eve, evStore, evBox, evAlloc, evBuildSlice, evMakeSlice, evAppend, fillRows, zcells, elemsOf, putAll, PV.one, Nat.reduceAdd, Nat.reduceMul, Int.cast_ofNat_Int, Int.reduceEq, Int.reduceLT, Int.reduceLE, Nat.reduceLeDiff, List.reduceReplicate, reduceCtorEq, Tryd.f55, toII, hbd, hbd']
  refine LoopQ.rule (fun m st => ∃ (i : Nat) (out : List Bool), i ≤ F.length ∧ out.length = H.length ∧ (∀ x, Tr out x ↔ x ∈ F.take i) ∧ m = F.length - i ∧
    st = ⟨mkE [(0, encLL (toII H)), (1, encL (toI F)), (5, .own 0 0 0 H.length false), (6, i64 i)], mkS [(0, .row 0 1 (out.map fun b => [bl b]) false)], 1⟩) _ _ (weak_of ?_)
    ⟨0, List.replicate H.length false, by omega, by simp, by simp [Tr, List.getElem?_replicate], rfl, rfl⟩ ?_
  · first | (simp -dsimp (maxSteps := 2000000) (disch := first | omega | decide +kernel) only [↓vcl, ↓vcy, ↓vco, vck, gR, evl, evb, evBuiltin, evLen, evIdxA, evLoad, loadP, aggD, tis, i64, u32, bl, encL, encB, encLL, reduceIte, Nat.reduceEqDiff, forget, forget1, wantd, tzs, eve, evStore, evBox, evAlloc, evBuildSlice, evMakeSlice, evAppend, fillRows, zcells, elemsOf, putAll, PV.one, Nat.reduceAdd, Nat.reduceMul, Int.cast_ofNat_Int, Int.reduceEq, Int.reduceLT, Int.reduceLE, Nat.reduceLeDiff, List.reduceReplicate, reduceCtorEq, toII]; done) | simp -dsimp [evl, putN, i64, u32, bl, encL, encB, encLL, toII]
  rintro m st ⟨i, out, hi, hol, hout, rfl, rfl⟩
  try simp -dsimp (maxSteps := 2000000) (disch := first | omega | decide +kernel) only [↓vcl, ↓vcy, ↓vco, vck, gR, evl, evb, evBuiltin, evLen, evIdxA, evLoad, loadP, aggD, tis, i64, u32, bl, encL, encB, encLL, reduceIte, Nat.reduceEqDiff, forget, forget1, wantd, tzs, eve, evStore, evBox, evAlloc, evBuildSlice, evMakeSlice, evAppend, fillRows, zcells, elemsOf, putAll, PV.one, Nat.reduceAdd, Nat.reduceMul, Int.cast_ofNat_Int, Int.reduceEq, Int.reduceLT, Int.reduceLE, Nat.reduceLeDiff, List.reduceReplicate, reduceCtorEq, toI]
  refine onC_nlt (fun h2 => ?_) (fun h2 => ?_)
  · obtain ⟨x, hx, hxm⟩ := get_of_lt (l := F) h2
    have hxl := hF x hxm
    have hox : out[x]? = some out[x] := List.getElem?_eq_getElem (by omega)
    try simp -dsimp (maxSteps := 2000000) (disch := first | omega | decide +kernel) only [↓vcl, ↓vcy, ↓vco, vck, gR, evl, evb, evBuiltin, evLen, evIdxA, evLoad, loadP, aggD, tis, i64, u32, bl, encL, encB, encLL, reduceIte, Nat.reduceEqDiff, forget, forget1, wantd, tzs, eve, evStore, evBox, evAlloc, evBuildSlice, evMakeSlice, evAppend, fillRows, zcells, elemsOf, putAll, PV.one, Nat.reduceAdd, Nat.reduceMul, Int.cast_ofNat_Int, Int.reduceEq, Int.reduceLT, Int.reduceLE, Nat.reduceLeDiff, List.reduceReplicate, reduceCtorEq, toI, hx, hxl, hox]
    refine ⟨_, _, ?_, weak_of ?_, i + 1, out.set x true, h2, by simp [hol], ?_, rfl, rfl⟩
    · omega
    · first | (simp -dsimp (maxSteps := 2000000) (disch := first | omega | decide +kernel) only [↓vcl, ↓vcy, ↓vco, vck, gR, evl, evb, evBuiltin, evLen, evIdxA, evLoad, loadP, aggD, tis, i64, u32, bl, encL, encB, encLL, reduceIte, Nat.reduceEqDiff, forget, forget1, wantd, tzs, eve, evStore, evBox, evAlloc, evBuildSlice, evMakeSlice, evAppend, fillRows, zcells, elemsOf, putAll, PV.one, Nat.reduceAdd, Nat.reduceMul, Int.cast_ofNat_Int, Int.reduceEq, Int.reduceLT, Int.reduceLE, Nat.reduceLeDiff, List.reduceReplicate, reduceCtorEq, wrapS h2 hFl, List.map_set, toI, toII]; done) | simp -dsimp [evl, putN, i64, u32, bl, encL, encB, encLL, wrapS h2 hFl, List.map_set, toI, toII]
    · intro y
      rw [tr_set (by omega), take_succ hx, List.mem_append, hout]
      by_cases hy : y = x <;> simp [hy]
  have hT : ∀ x, Tr out x ↔ x ∈ F := fun x => by rw [hout, List.take_of_length_le (by omega)]
  try simp -dsimp (maxSteps := 2000000) (disch := first | omega | decide +kernel) only [↓vcl, ↓vcy, ↓vco, vck, gR, evl, evb, evBuiltin, evLen, evIdxA, evLoad, loadP, aggD, tis, i64, u32, bl, encL, encB, encLL, reduceIte, Nat.reduceEqDiff, forget, forget1, wantd, tzs, eve, evStore, evBox, evAlloc, evBuildSlice, evMakeSlice, evAppend, fillRows, zcells, elemsOf, putAll, PV.one, Nat.reduceAdd, Nat.reduceMul, Int.cast_ofNat_Int, Int.reduceEq, Int.reduceLT, Int.reduceLE, Nat.reduceLeDiff, List.reduceReplicate, reduceCtorEq]
  refine LoopQ.rule (fun m st => ∃ (n : Nat) (out : List Bool), n ≤ H.length ∧ out.length = H.length ∧ (∀ x, Tr out x → Anc H F x) ∧ (∀ x ∈ F, Tr out x) ∧ (∀ (j : Nat) (p : List Nat), n ≤ j → H[j]? = some p → Tr out j → ∀ k ∈ p, Tr out k) ∧ m = n ∧
    st = ⟨mkE [(0, encLL (toII H)), (5, .own 0 0 0 H.length false), (7, i64 ((n : Int) - 1))], mkS [(0, .row 0 1 (out.map fun b => [bl b]) false)], 1⟩) _ _ (weak_of ?_)
    ⟨H.length, out, by omega, hol, fun x h => .base ((hT x).1 h), fun x h => (hT x).2 h, fun j p h1 h2 => by
      have := (List.getElem?_eq_some_iff.1 h2).1; omega, rfl, rfl⟩ ?_
  · first | (simp -dsimp (maxSteps := 2000000) (disch := first | omega | decide +kernel) only [↓vcl, ↓vcy, ↓vco, vck, gR, evl, evb, evBuiltin, evLen, evIdxA, evLoad, loadP, aggD, tis, i64, u32, bl, encL, encB, encLL, reduceIte, Nat.reduceEqDiff, forget, forget1, wantd, tzs, eve, evStore, evBox, evAlloc, evBuildSlice, evMakeSlice, evAppend, fillRows, zcells, elemsOf, putAll, PV.one, Nat.reduceAdd, Nat.reduceMul, Int.cast_ofNat_Int, Int.reduceEq, Int.reduceLT, Int.reduceLE, Nat.reduceLeDiff, List.reduceReplicate, reduceCtorEq, toII, wrapP (Nat.le_refl _) (show H.length ≤ 9223372036854775807 by omega)]; done) | simp -dsimp [evl, putN, i64, u32, bl, encL, encB, encLL, toII, wrapP (Nat.le_refl _) (show H.length ≤ 9223372036854775807 by omega)]
  clear hi hol hout h2 hT out i
  rintro n st ⟨_, out, hn, hol, m2, m3, m4, rfl, rfl⟩
  cases n with
  | zero =>
    have e1 : ((0:Nat):Int) - 1 = -1 := rfl
    have e0 : decide ((0:Int) ≤ -1) = false := rfl
    rw [e1]
    simp -dsimp (maxSteps := 2000000) (disch := first | omega | decide +kernel) only [↓vcl, ↓vcy, ↓vco, vck, gR, evl, evb, evBuiltin, evLen, evIdxA, evLoad, loadP, aggD, tis, i64, u32, bl, encL, encB, encLL, reduceIte, Nat.reduceEqDiff, forget, forget1, wantd, tzs, eve, evStore, evBox, evAlloc, evBuildSlice, evMakeSlice, evAppend, fillRows, zcells, elemsOf, putAll, PV.one, Nat.reduceAdd, Nat.reduceMul, Int.cast_ofNat_Int, Int.reduceEq, Int.reduceLT, Int.reduceLE, Nat.reduceLeDiff, List.reduceReplicate, reduceCtorEq, retQ, resL, finL, newL, flat, tupOf, List.toList_toArray, Tryd.f55, e0, ← hol]
    refine leT_one ?_ (by simp)
    rw [anc_end hol m2 m3 fun j p => m4 j p (Nat.zero_le j)]
    exact .rfl'
  | succ j =>
    obtain ⟨p, hjp, hpm⟩ := get_of_lt (l := H) (show j < H.length by omega)
    have e1 : ((j + 1 : Nat) : Int) - 1 = j := by omega
    have e2 : decide ((0:Int) ≤ (j : Int)) = true := by simp
    rw [e1]
    try simp -dsimp (maxSteps := 2000000) (disch := first | omega | decide +kernel) only [↓vcl, ↓vcy, ↓vco, vck, gR, evl, evb, evBuiltin, evLen, evIdxA, evLoad, loadP, aggD, tis, i64, u32, bl, encL, encB, encLL, reduceIte, Nat.reduceEqDiff, forget, forget1, wantd, tzs, eve, evStore, evBox, evAlloc, evBuildSlice, evMakeSlice, evAppend, fillRows, zcells, elemsOf, putAll, PV.one, Nat.reduceAdd, Nat.reduceMul, Int.cast_ofNat_Int, Int.reduceEq, Int.reduceLT, Int.reduceLE, Nat.reduceLeDiff, List.reduceReplicate, reduceCtorEq, e2]
    refine LoopQ.rule (fun m st => ∃ (c : Nat) (out : List Bool), c ≤ p.length ∧ out.length = H.length ∧ (∀ x, Tr out x → Anc H F x) ∧ (∀ x ∈ F, Tr out x) ∧ (∀ (j' : Nat) (p : List Nat), j + 1 ≤ j' → H[j']? = some p → Tr out j' → ∀ k ∈ p, Tr out k) ∧
        (Tr out j → ∀ k ∈ p.take c, Tr out k) ∧ m = p.length - c ∧
      st = ⟨mkE [(0, encLL (toII H)), (5, .own 0 0 0 H.length false), (7, i64 j), (8, i64 c)], mkS [(0, .row 0 1 (out.map fun b => [bl b]) false)], 1⟩) _ _ (weak_of ?_)
      ⟨0, out, by omega, hol, m2, m3, m4, by simp, rfl, rfl⟩ ?_
    · first | (simp -dsimp (maxSteps := 2000000) (disch := first | omega | decide +kernel) only [↓vcl, ↓vcy, ↓vco, vck, gR, evl, evb, evBuiltin, evLen, evIdxA, evLoad, loadP, aggD, tis, i64, u32, bl, encL, encB, encLL, reduceIte, Nat.reduceEqDiff, forget, forget1, wantd, tzs, eve, evStore, evBox, evAlloc, evBuildSlice, evMakeSlice, evAppend, fillRows, zcells, elemsOf, putAll, PV.one, Nat.reduceAdd, Nat.reduceMul, Int.cast_ofNat_Int, Int.reduceEq, Int.reduceLT, Int.reduceLE, Nat.reduceLeDiff, List.reduceReplicate, reduceCtorEq, toII]; done) | simp -dsimp [evl, putN, i64, u32, bl, encL, encB, encLL, toII]
    clear hol m2 m3 m4 out
    rintro m st ⟨c, out, hc, hol, m2, m3, m4, m5, rfl, rfl⟩
    try simp -dsimp (maxSteps := 2000000) (disch := first | omega | decide +kernel) only [↓vcl, ↓vcy, ↓vco, vck, gR, evl, evb, evBuiltin, evLen, evIdxA, evLoad, loadP, aggD, tis, i64, u32, bl, encL, encB, encLL, reduceIte, Nat.reduceEqDiff, forget, forget1, wantd, tzs, eve, evStore, evBox, evAlloc, evBuildSlice, evMakeSlice, evAppend, fillRows, zcells, elemsOf, putAll, PV.one, Nat.reduceAdd, Nat.reduceMul, Int.cast_ofNat_Int, Int.reduceEq, Int.reduceLT, Int.reduceLE, Nat.reduceLeDiff, List.reduceReplicate, reduceCtorEq, toII, toI, hjp]
    refine onC_nlt (fun h2 => ?_) (fun h2 => ?_)
    · obtain ⟨q, hq, hqm⟩ := get_of_lt (l := p) h2
      have hqj : q < j := hv j p hjp q hqm
      have hql : q < H.length := by omega
      have hjl : j < H.length := by omega
      have hoq : out[q]? = some out[q] := List.getElem?_eq_getElem (by omega)
      have hoj : out[j]? = some out[j] := List.getElem?_eq_getElem (by omega)
      have fin : ∀ (b : Bool), b = (out[q] || out[j]) → (out.set q b).length = H.length ∧ (∀ x, Tr (out.set q b) x → Anc H F x) ∧ (∀ x ∈ F, Tr (out.set q b) x) ∧ (∀ (j' : Nat) (p : List Nat), j + 1 ≤ j' → H[j']? = some p → Tr (out.set q b) j' → ∀ k ∈ p, Tr (out.set q b) k) ∧
        (Tr (out.set q b) j → ∀ k ∈ p.take (c + 1), Tr (out.set q b) k) := by
        intro b hb
        have up : ∀ x, Tr out x → Tr (out.set q b) x := fun x hx => by
          rw [tr_set (by omega)]
          split
          · rename_i e; subst e
            unfold Tr at hx; rw [hoq] at hx; simp at hx
            rw [hb, hx]; rfl
          · exact hx
        have dn : ∀ x, x ≠ q → Tr (out.set q b) x → Tr out x := fun x hx h => by
          rw [tr_set (by omega), if_neg hx] at h; exact h
        refine ⟨by simp [hol], fun x hx => ?_, fun x hx => up x (m3 x hx), fun j' p' h5 h6 h7 k hk => ?_, fun h5 k hk => ?_⟩
        · by_cases e : x = q
          · subst e
            rw [tr_set (by omega), if_pos rfl, hb, Bool.or_eq_true] at hx
            rcases hx with hx | hx
            · exact m2 _ (by unfold Tr; rw [hoq, hx])
            · exact .up (m2 j (by unfold Tr; rw [hoj, hx])) hjp hqm
          · exact m2 x (dn x e hx)
        · exact up k (m4 j' p' h5 h6 (dn j' (by omega) h7) k hk)
        · rw [take_succ hq, List.mem_append] at hk
          have h5' := dn j (by omega) h5
          rcases hk with hk | hk
          · exact up k (m5 h5' k hk)
          · simp at hk; subst hk
            rw [tr_set (by omega), if_pos rfl, hb]
            unfold Tr at h5'; rw [hoj] at h5'; simp at h5'
            rw [h5', Bool.or_true]
      cases hbq : out[q]
      · obtain ⟨f1, f2, f3, f4, f5⟩ := fin out[j] (by rw [hbq, Bool.false_or])
        try simp -dsimp (maxSteps := 2000000) (disch := first | omega | decide +kernel) only [↓vcl, ↓vcy, ↓vco, vck, gR, evl, evb, evBuiltin, evLen, evIdxA, evLoad, loadP, aggD, tis, i64, u32, bl, encL, encB, encLL, reduceIte, Nat.reduceEqDiff, forget, forget1, wantd, tzs, eve, evStore, evBox, evAlloc, evBuildSlice, evMakeSlice, evAppend, fillRows, zcells, elemsOf, putAll, PV.one, Nat.reduceAdd, Nat.reduceMul, Int.cast_ofNat_Int, Int.reduceEq, Int.reduceLT, Int.reduceLE, Nat.reduceLeDiff, List.reduceReplicate, reduceCtorEq, toII, toI, hjp, hq, hql, hjl, hoq, hoj, hbq]
        refine ⟨_, _, ?_, weak_of ?_, c + 1, out.set q out[j], h2, f1, f2, f3, f4, f5, rfl, rfl⟩
        · omega
        · first | (simp -dsimp (maxSteps := 2000000) (disch := first | omega | decide +kernel) only [↓vcl, ↓vcy, ↓vco, vck, gR, evl, evb, evBuiltin, evLen, evIdxA, evLoad, loadP, aggD, tis, i64, u32, bl, encL, encB, encLL, reduceIte, Nat.reduceEqDiff, forget, forget1, wantd, tzs, eve, evStore, evBox, evAlloc, evBuildSlice, evMakeSlice, evAppend, fillRows, zcells, elemsOf, putAll, PV.one, Nat.reduceAdd, Nat.reduceMul, Int.cast_ofNat_Int, Int.reduceEq, Int.reduceLT, Int.reduceLE, Nat.reduceLeDiff, List.reduceReplicate, reduceCtorEq, wrapS h2 (hp p hpm), List.map_set, toI, toII]; done) | simp -dsimp [evl, putN, i64, u32, bl, encL, encB, encLL, wrapS h2 (hp p hpm), List.map_set, toI, toII]
      · obtain ⟨f1, f2, f3, f4, f5⟩ := fin true (by rw [hbq, Bool.true_or])
        try simp -dsimp (maxSteps := 2000000) (disch := first | omega | decide +kernel) only [↓vcl, ↓vcy, ↓vco, vck, gR, evl, evb, evBuiltin, evLen, evIdxA, evLoad, loadP, aggD, tis, i64, u32, bl, encL, encB, encLL, reduceIte, Nat.reduceEqDiff, forget, forget1, wantd, tzs, eve, evStore, evBox, evAlloc, evBuildSlice, evMakeSlice, evAppend, fillRows, zcells, elemsOf, putAll, PV.one, Nat.reduceAdd, Nat.reduceMul, Int.cast_ofNat_Int, Int.reduceEq, Int.reduceLT, Int.reduceLE, Nat.reduceLeDiff, List.reduceReplicate, reduceCtorEq, toII, toI, hjp, hq, hql, hjl, hoq, hoj, hbq]
        refine ⟨_, _, ?_, weak_of ?_, c + 1, out.set q true, h2, f1, f2, f3, f4, f5, rfl, rfl⟩
        · omega
        · first | (simp -dsimp (maxSteps := 2000000) (disch := first | omega | decide +kernel) only [↓vcl, ↓vcy, ↓vco, vck, gR, evl, evb, evBuiltin, evLen, evIdxA, evLoad, loadP, aggD, tis, i64, u32, bl, encL, encB, encLL, reduceIte, Nat.reduceEqDiff, forget, forget1, wantd, tzs, eve, evStore, evBox, evAlloc, evBuildSlice, evMakeSlice, evAppend, fillRows, zcells, elemsOf, putAll, PV.one, Nat.reduceAdd, Nat.reduceMul, Int.cast_ofNat_Int, Int.reduceEq, Int.reduceLT, Int.reduceLE, Nat.reduceLeDiff, List.reduceReplicate, reduceCtorEq, wrapS h2 (hp p hpm), List.map_set, toI, toII]; done) | simp -dsimp [evl, putN, i64, u32, bl, encL, encB, encLL, wrapS h2 (hp p hpm), List.map_set, toI, toII]
    · try simp -dsimp (maxSteps := 2000000) (disch := first | omega | decide +kernel) only [↓vcl, ↓vcy, ↓vco, vck, gR, evl, evb, evBuiltin, evLen, evIdxA, evLoad, loadP, aggD, tis, i64, u32, bl, encL, encB, encLL, reduceIte, Nat.reduceEqDiff, forget, forget1, wantd, tzs, eve, evStore, evBox, evAlloc, evBuildSlice, evMakeSlice, evAppend, fillRows, zcells, elemsOf, putAll, PV.one, Nat.reduceAdd, Nat.reduceMul, Int.cast_ofNat_Int, Int.reduceEq, Int.reduceLT, Int.reduceLE, Nat.reduceLeDiff, List.reduceReplicate, reduceCtorEq]
      refine ⟨_, _, ?_, weak_of ?_, j, out, by omega, hol, m2, m3, fun j' p' h5 h6 h7 => ?_, rfl, rfl⟩
      · omega
      · first | (simp -dsimp (maxSteps := 2000000) (disch := first | omega | decide +kernel) only [↓vcl, ↓vcy, ↓vco, vck, gR, evl, evb, evBuiltin, evLen, evIdxA, evLoad, loadP, aggD, tis, i64, u32, bl, encL, encB, encLL, reduceIte, Nat.reduceEqDiff, forget, forget1, wantd, tzs, eve, evStore, evBox, evAlloc, evBuildSlice, evMakeSlice, evAppend, fillRows, zcells, elemsOf, putAll, PV.one, Nat.reduceAdd, Nat.reduceMul, Int.cast_ofNat_Int, Int.reduceEq, Int.reduceLT, Int.reduceLE, Nat.reduceLeDiff, List.reduceReplicate, reduceCtorEq, wrapP (Nat.le_refl j) (by omega), toI, toII]; done) | simp -dsimp [evl, putN, i64, u32, bl, encL, encB, encLL, wrapP (Nat.le_refl j) (by omega), toI, toII]
      · by_cases e : j' = j
        · subst e; rw [hjp] at h6; cases h6
          rw [List.take_of_length_le (by omega)] at m5
          exact m5 h7
        · exact m4 j' p' (by omega) h6 h7
end Go.Ab
end
