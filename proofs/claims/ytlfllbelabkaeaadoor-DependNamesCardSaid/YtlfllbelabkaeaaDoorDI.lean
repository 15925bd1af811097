import Derived.Test.YtlfllbelabkaeaaDoorDH
set_option linter.unusedSimpArgs false
set_option linter.unusedVariables false
set_option maxRecDepth 100000
namespace Go.Ab
open Go Go.Proofs W16

theorem wf_snoc {l : List Nd} {n : Nd} {c : Nat} : wf (l ++ [n]) c = wf l c ++ if n.1 = (c : Int) then n.2.map ofL else [] := by
  unfold wf
  rw [List.filter_append, List.flatMap_append]
  congr 1
  by_cases h : n.1 = (c : Int)
  · rw [if_pos h]; simp [List.filter_cons, h]
  · rw [if_neg h]; simp [List.filter_cons, h]
theorem wf_len {c : Nat} : ∀ l : List Nd, (∀ n ∈ l, n.2.length ≤ 4) → (wf l c).length ≤ 4 * l.length
  | [], _ => by simp [wf]
  | n :: l, h => by
    have ih := wf_len (c := c) l fun m hm => h m (by simp [hm])
    have hn := h n (by simp)
    have : wf (n :: l) c = (if n.1 = (c : Int) then n.2.map ofL else []) ++ wf l c := by
      unfold wf
      by_cases h : n.1 = (c : Int)
      · rw [if_pos h]; simp [List.filter_cons, h]
      · rw [if_neg h]; simp [List.filter_cons, h]
    rw [this, List.length_append]
    split <;> simp <;> omega

theorem tiW : (ti cx.P 75 = some ⟨.array 10 72, 10, 240⟩) ∧ (tz cx.P 75 = some (.agg (List.replicate 10 (.lit (.slice none 0 0))))) ∧ (ti cx.P 59 = some ⟨.int .u16, 1, 2⟩) ∧ (notIntT cx.P 72 = true) := ⟨by kernel_rfl, by kernel_rfl, by kernel_rfl, by kernel_rfl⟩
noncomputable def ptrD : TypeDesc := match ti cx.P 56 with
  | some ⟨d, _, _⟩ => d
  | _ => .bool
theorem tiP : ti cx.P 56 = some ⟨ptrD, 1, 8⟩ ∧ aggD ptrD = false := ⟨by kernel_rfl, by kernel_rfl⟩
theorem oneW : (List.replicate 10 (PV.lit (.slice none 0 0))).all PV.one = true := rfl

def wpart (l : List Nd) (n : Nd) (i k c : Nat) : List (BitVec 16) := wf (l.take i) c ++ if n.1 = (c : Int) then (n.2.take k).map ofL else []
theorem wpart_zero {l : List Nd} {n : Nd} {i : Nat} : wpart l n i 0 = wf (l.take i) := by
  funext c; unfold wpart; split <;> simp
theorem wpart_end {l : List Nd} {n : Nd} {i : Nat} (hn : l[i]? = some n) : wpart l n i n.2.length = wf (l.take (i + 1)) := by
  funext c; unfold wpart; rw [take_succ hn, wf_snoc, List.take_of_length_le (Nat.le_refl _)]

theorem wpart_step {l : List Nd} {n : Nd} {i k d : Nat} {g : List Int} (hg : n.2[k]? = some g) : wpart l n i (k + 1) d = wpart l n i k d ++ if n.1 = (d : Int) then [ofL g] else [] := by
  unfold wpart
  rw [List.append_assoc]
  congr 1
  split
  · rw [take_succ hg, List.map_append]; rfl
  · rfl
set_option maxHeartbeats 4000000 in
theorem d_look (l : List Nd) (h : fits l) (hd : dcheck l = 0) : CallSpec cx 32 [encNs l] (.cptr (wantsL l)) := by
  have hl := h.1
  have hc := inC_of hd
  obtain ⟨m1, m2, _, _⟩ := dc_many hd
  refine callSpec_of_vc Tryd.func32 rfl (by decide) (by kernel_rfl) (Nat.le_of_ble_eq_true rfl) ?_
  try simp -dsimp (maxSteps := 2000000) (disch := first | omega | decide +kernel) only [↓vcl, ↓vcy, ↓vco, vck, gR, evl, evb, evBuiltin, evLen, evIdxA, evLoad, loadP, aggD, tis, i64, u32, bl, encL, encB, encLL, reduceIte, Nat.reduceEqDiff, forget, forget1, wantd, tzs, eve, evStore, evBox, evAlloc, evBuildSlice, evMakeSlice, evAppend, fillRows, zcells, elemsOf, putAll, PV.one, Nat.reduceAdd, Nat.reduceMul, Int.cast_ofNat_Int, Int.reduceEq, Int.reduceLT, Int.reduceLE, Nat.reduceLeDiff, List.reduceReplicate, reduceCtorEq, Tryd.f32, tiW, PV.cellsP, oneW, List.length_replicate, encNs]
  refine LoopQ.rule (fun m st => ∃ (i nx : Nat) (σ : Store) (q : Nat) (cs : List PV) (ids : Nat → Nat), i ≤ l.length ∧ Gd σ nx (wf (l.take i)) q cs ids ∧ m = l.length - i ∧
    st = ⟨mkE [(3, .ptr 0 0 0 0), (9, encNs l), (10, i64 l.length), (11, i64 i)], σ, nx⟩) _ _ (weak_ofS ?_ rfl rfl) ⟨0, 1, _, 0, List.replicate 10 (.lit (.slice none 0 0)), fun _ => 0, by omega, ?_, rfl, rfl⟩ ?_
  · first | (simp -dsimp (maxSteps := 2000000) (disch := first | omega | decide +kernel) only [↓vcl, ↓vcy, ↓vco, vck, gR, evl, evb, evBuiltin, evLen, evIdxA, evLoad, loadP, aggD, tis, i64, u32, bl, encL, encB, encLL, reduceIte, Nat.reduceEqDiff, forget, forget1, wantd, tzs, eve, evStore, evBox, evAlloc, evBuildSlice, evMakeSlice, evAppend, fillRows, zcells, elemsOf, putAll, PV.one, Nat.reduceAdd, Nat.reduceMul, Int.cast_ofNat_Int, Int.reduceEq, Int.reduceLT, Int.reduceLE, Nat.reduceLeDiff, List.reduceReplicate, reduceCtorEq, encNs]; done) | simp -dsimp [evl, putN, i64, u32, bl, encL, encB, encLL, encNs]
  · refine ⟨List.length_replicate, rfl, by omega, fun c hc' _ => ?_, fun c hc' hf => ?_, fun c hc' hf => ?_, fun c c' _ _ hf => ?_⟩
    · rw [List.getElem?_replicate, if_pos hc']
    · exact absurd (by simp [wf]) hf
    · exact absurd (by simp [wf]) hf
    · exact absurd (by simp [wf]) hf
  rintro m st ⟨i, nx, σ, q0, cs, ids, hi, hG, rfl, rfl⟩
  try simp -dsimp (maxSteps := 2000000) (disch := first | omega | decide +kernel) only [↓vcl, ↓vcy, ↓vco, vck, gR, evl, evb, evBuiltin, evLen, evIdxA, evLoad, loadP, aggD, tis, i64, u32, bl, encL, encB, encLL, reduceIte, Nat.reduceEqDiff, forget, forget1, wantd, tzs, eve, evStore, evBox, evAlloc, evBuildSlice, evMakeSlice, evAppend, fillRows, zcells, elemsOf, putAll, PV.one, Nat.reduceAdd, Nat.reduceMul, Int.cast_ofNat_Int, Int.reduceEq, Int.reduceLT, Int.reduceLE, Nat.reduceLeDiff, List.reduceReplicate, reduceCtorEq, encNs]
  refine onC_nlt (fun h2 => ?_) (fun h2 => ?_)
  · obtain ⟨n, hn, hnm⟩ := get_of_lt h2
    have hfn := h.2 n hnm
    have hcn := hc n hnm
    have hmn := m2 n hnm
    obtain ⟨c, hcc⟩ : ∃ o : Nat, n.1 = o := ⟨n.1.toNat, by omega⟩
    have hpos := hG.pos
    have hn0 : (0 = nx) = False := by simp; omega
    try simp -dsimp (maxSteps := 2000000) (disch := first | omega | decide +kernel) only [↓vcl, ↓vcy, ↓vco, vck, gR, evl, evb, evBuiltin, evLen, evIdxA, evLoad, loadP, aggD, tis, i64, u32, bl, encL, encB, encLL, reduceIte, Nat.reduceEqDiff, forget, forget1, wantd, tzs, eve, evStore, evBox, evAlloc, evBuildSlice, evMakeSlice, evAppend, fillRows, zcells, elemsOf, putAll, PV.one, Nat.reduceAdd, Nat.reduceMul, Int.cast_ofNat_Int, Int.reduceEq, Int.reduceLT, Int.reduceLE, Nat.reduceLeDiff, List.reduceReplicate, reduceCtorEq, encNs, hn, encN, tzN, PV.cellsP, fldN, List.set_cons_succ, List.getElem?_cons_zero, List.getElem?_cons_succ, Nat.reduceLT, List.length_set]
    refine LoopQ.rule (fun m st => ∃ (k nx' : Nat) (σ : Store) (cs : List PV) (ids : Nat → Nat), k ≤ n.2.length ∧ nx < nx' ∧ σ nx = some (.row 0 2 [[i64 n.1, encLL n.2]] false) ∧ Gd σ nx' (wpart l n i k) nx cs ids ∧ m = n.2.length - k ∧
      st = ⟨mkE [(3, .ptr 0 0 0 0), (5, .ptr nx 0 0 0), (9, encNs l), (10, i64 l.length), (11, i64 i), (16, encLL n.2), (17, i64 n.2.length), (18, i64 k)], σ, nx'⟩) _ _ (weak_ofS ?_ rfl rfl) ⟨0, nx + 1, _, cs, ids, by omega, by omega, ?_, ?_, rfl, rfl⟩ ?_
    · first | (simp -dsimp (maxSteps := 2000000) (disch := first | omega | decide +kernel) only [↓vcl, ↓vcy, ↓vco, vck, gR, evl, evb, evBuiltin, evLen, evIdxA, evLoad, loadP, aggD, tis, i64, u32, bl, encL, encB, encLL, reduceIte, Nat.reduceEqDiff, forget, forget1, wantd, tzs, eve, evStore, evBox, evAlloc, evBuildSlice, evMakeSlice, evAppend, fillRows, zcells, elemsOf, putAll, PV.one, Nat.reduceAdd, Nat.reduceMul, Int.cast_ofNat_Int, Int.reduceEq, Int.reduceLT, Int.reduceLE, Nat.reduceLeDiff, List.reduceReplicate, reduceCtorEq, encNs]; done) | simp -dsimp [evl, putN, i64, u32, bl, encL, encB, encLL, encNs]
    · simp -dsimp [st_put_σ, Store.put, putAll, encL, encLL, i64]
    · rw [wpart_zero]
      refine hG.keep (by omega) (.inl (Nat.le_refl _)) (fun j hj hjq => ?_) (by omega)
      simp -dsimp [st_put_σ, Store.put, hjq]
    rintro m st ⟨k, nx', σ', cs', ids', hk, hnx, hσq, hG', rfl, rfl⟩
    try simp -dsimp (maxSteps := 2000000) (disch := first | omega | decide +kernel) only [↓vcl, ↓vcy, ↓vco, vck, gR, evl, evb, evBuiltin, evLen, evIdxA, evLoad, loadP, aggD, tis, i64, u32, bl, encL, encB, encLL, reduceIte, Nat.reduceEqDiff, forget, forget1, wantd, tzs, eve, evStore, evBox, evAlloc, evBuildSlice, evMakeSlice, evAppend, fillRows, zcells, elemsOf, putAll, PV.one, Nat.reduceAdd, Nat.reduceMul, Int.cast_ofNat_Int, Int.reduceEq, Int.reduceLT, Int.reduceLE, Nat.reduceLeDiff, List.reduceReplicate, reduceCtorEq]
    refine onC_nlt (fun h3 => ?_) (fun h3 => ?_)
    · obtain ⟨g, hg, hgm⟩ := get_of_lt h3
      have hgl := hfn.2 g hgm
      have hgc : ∀ k ∈ g, 0 ≤ k ∧ k < 16 := fun k hk => by have := hcn.2.2 g hgm k hk; omega
      have hc10 : c < 10 := by omega
      have htop := hG'.top
      have hlen := hG'.len
      have hpos' := hG'.pos
      have hcl : c + 1 ≤ 10 := by omega
      have hns : ((nx = nx') = False) ∧ ((0 = nx') = False) ∧ ((nx = nx' + 1) = False) ∧ ((0 = nx' + 1) = False) ∧ ((nx' = nx' + 1) = False) := by
        simp only [eq_iff_iff, iff_false]; omega
      have hns0 : (nx = 0) = False := by simp only [eq_iff_iff, iff_false]; omega
      by_cases he : wpart l n i k c = []
      · have hcell := hG'.nil c hc10 he
        have hcd : (List.drop c cs')[0]? = some (.lit (.slice none 0 0)) := by rw [List.getElem?_drop]; exact hcell
        try simp -dsimp (maxSteps := 2000000) (disch := first | omega | decide +kernel) only [↓vcl, ↓vcy, ↓vco, vck, gR, evl, evb, evBuiltin, evLen, evIdxA, evLoad, loadP, aggD, tis, i64, u32, bl, encL, encB, encLL, reduceIte, Nat.reduceEqDiff, forget, forget1, wantd, tzs, eve, evStore, evBox, evAlloc, evBuildSlice, evMakeSlice, evAppend, fillRows, zcells, elemsOf, putAll, PV.one, Nat.reduceAdd, Nat.reduceMul, Int.cast_ofNat_Int, Int.reduceEq, Int.reduceLT, Int.reduceLE, Nat.reduceLeDiff, List.reduceReplicate, reduceCtorEq, hg, hσq, fldN, List.set_cons_succ, List.getElem?_cons_zero, List.getElem?_cons_succ, Nat.reduceLT, List.length_set, hcc, tiW, hc10, htop, hcd]
        refine vc_regJ (fun s => s nx = some (.row 0 2 [[i64 n.1, encLL n.2]] false) ∧ s 0 = some (.row 0 10 [cs'] false)) [0, 1, 2, 3, 4, 5, 6, 7, 8, 13] (by kernel_rfl) (by kernel_rfl) ?_ ?_
        · exact ⟨hσq, htop⟩
        try simp -dsimp (maxSteps := 2000000) (disch := first | omega | decide +kernel) only [↓vcl, ↓vcy, ↓vco, vck, gR, evl, evb, evBuiltin, evLen, evIdxA, evLoad, loadP, aggD, tis, i64, u32, bl, encL, encB, encLL, reduceIte, Nat.reduceEqDiff, forget, forget1, wantd, tzs, eve, evStore, evBox, evAlloc, evBuildSlice, evMakeSlice, evAppend, fillRows, zcells, elemsOf, putAll, PV.one, Nat.reduceAdd, Nat.reduceMul, Int.cast_ofNat_Int, Int.reduceEq, Int.reduceLT, Int.reduceLE, Nat.reduceLeDiff, List.reduceReplicate, reduceCtorEq, vcj, implies_true, hg, hσq, fldN, List.set_cons_succ, List.getElem?_cons_zero, List.getElem?_cons_succ, Nat.reduceLT, List.length_set, hcc, tiW, hc10, htop, hcd]
        refine ⟨fun s hs => by rw [hs.1]; rfl, fun s hs => by rw [hs.1]; rfl, fun s hs => by rw [hs.2]; exact hcd, ?_⟩
        refine CallY.imm (d_of g hgl hgc) (by rfl) (by first | rfl | (simp -dsimp (maxSteps := 2000000) (disch := first | omega | decide +kernel) only [↓vcl, ↓vcy, ↓vco, vck, gR, evl, evb, evBuiltin, evLen, evIdxA, evLoad, loadP, aggD, tis, i64, u32, bl, encL, encB, encLL, reduceIte, Nat.reduceEqDiff, forget, forget1, wantd, tzs, eve, evStore, evBox, evAlloc, evBuildSlice, evMakeSlice, evAppend, fillRows, zcells, elemsOf, putAll, PV.one, Nat.reduceAdd, Nat.reduceMul, Int.cast_ofNat_Int, Int.reduceEq, Int.reduceLT, Int.reduceLE, Nat.reduceLeDiff, List.reduceReplicate, reduceCtorEq, drcs, drc, flat]; done) | simp -dsimp [evl, drcs, drc, flat, i64, u32, bl, encL, encB, encLL]) (by first | exact .inl rfl | exact .inr rfl | exact .inr scalB | exact .inr scalI | exact .inr scalT) ?_
        try simp -dsimp (maxSteps := 2000000) (disch := first | omega | decide +kernel) only [↓vcl, ↓vcy, ↓vco, vck, gR, evl, evb, evBuiltin, evLen, evIdxA, evLoad, loadP, aggD, tis, i64, u32, bl, encL, encB, encLL, reduceIte, Nat.reduceEqDiff, forget, forget1, wantd, tzs, eve, evStore, evBox, evAlloc, evBuildSlice, evMakeSlice, evAppend, fillRows, zcells, elemsOf, putAll, PV.one, Nat.reduceAdd, Nat.reduceMul, Int.cast_ofNat_Int, Int.reduceEq, Int.reduceLT, Int.reduceLE, Nat.reduceLeDiff, List.reduceReplicate, reduceCtorEq, vcj, implies_true, hg, hσq, fldN, List.set_cons_succ, List.getElem?_cons_zero, List.getElem?_cons_succ, Nat.reduceLT, List.length_set, hcc, tiW, hc10, htop, hcd, wd, hns, hlen, hcl]
        refine ⟨.inl (by decide +kernel), ?_⟩
        refine ⟨_, _, ?_, weak_ofS ?_ rfl rfl, k + 1, nx' + 1 + 1, _, cs'.set c (.own (nx' + 1) 0 0 [ofL g].length false), _, h3, by omega, ?_, hG'.upd (c := c) (id := nx' + 1) (v := 0) (ws := [ofL g]) hc10 ?_ ?_ (by simp) ?_ ?_ (by omega) ?_ (by omega) (by omega) (by omega) ?_, rfl, rfl⟩
        · omega
        · first | (simp -dsimp (maxSteps := 2000000) (disch := first | omega | decide +kernel) only [↓vcl, ↓vcy, ↓vco, vck, gR, evl, evb, evBuiltin, evLen, evIdxA, evLoad, loadP, aggD, tis, i64, u32, bl, encL, encB, encLL, reduceIte, Nat.reduceEqDiff, forget, forget1, wantd, tzs, eve, evStore, evBox, evAlloc, evBuildSlice, evMakeSlice, evAppend, fillRows, zcells, elemsOf, putAll, PV.one, Nat.reduceAdd, Nat.reduceMul, Int.cast_ofNat_Int, Int.reduceEq, Int.reduceLT, Int.reduceLE, Nat.reduceLeDiff, List.reduceReplicate, reduceCtorEq, encNs, wrapS h3 hfn.1]; done) | simp -dsimp [evl, putN, i64, u32, bl, encL, encB, encLL, encNs, wrapS h3 hfn.1]
        · simp -dsimp [st_put_σ, Store.put, hns0, hns, hσq, hcc, encL, encLL, i64]
        · rw [wpart_step hg, he, if_pos hcc]; rfl
        · intro d hd; rw [wpart_step hg, if_neg (by rw [hcc]; omega), List.append_nil]
        · simp -dsimp [st_put_σ, Store.put, hns]
        · simp -dsimp [st_put_σ, Store.put, hns, wd]
        · intro j h1 h2 h3
          simp -dsimp [st_put_σ, Store.put, show ¬ j = 0 by omega, show ¬ j = nx' + 1 by omega, show ¬ j = nx' by omega]
        · intro d hd hdc hf
          have := hG'.idr d hd hf; omega
      · obtain ⟨v, hcell, hid⟩ := hG'.cell c hc10 he
        obtain ⟨j1, j2, j3⟩ := hG'.idr c hc10 he
        have hcd : (List.drop c cs')[0]? = some (.own (ids' c) v 0 (wpart l n i k c).length false) := by rw [List.getElem?_drop]; exact hcell
        have hnid : ((ids' c = nx') = False) ∧ ((ids' c = 0) = False) ∧ ((0 = ids' c) = False) ∧ ((nx = ids' c) = False) ∧ ((nx' = ids' c) = False) := by
          simp only [eq_iff_iff, iff_false]; omega
        have hw : (wpart l n i k c).length ≤ 100 := by
          have := wf_len (c := c) (l.take i) fun m hm => (m2 m (List.mem_of_mem_take hm)).1
          have h5 := hmn.1
          unfold wpart
          rw [if_pos hcc, List.length_append, List.length_map, List.length_take]
          rw [List.length_take] at this
          omega
        have hbd : ((wpart l n i k c).length + 1) * 2 ≤ 140737488355328 := by omega
        try simp -dsimp (maxSteps := 2000000) (disch := first | omega | decide +kernel) only [↓vcl, ↓vcy, ↓vco, vck, gR, evl, evb, evBuiltin, evLen, evIdxA, evLoad, loadP, aggD, tis, i64, u32, bl, encL, encB, encLL, reduceIte, Nat.reduceEqDiff, forget, forget1, wantd, tzs, eve, evStore, evBox, evAlloc, evBuildSlice, evMakeSlice, evAppend, fillRows, zcells, elemsOf, putAll, PV.one, Nat.reduceAdd, Nat.reduceMul, Int.cast_ofNat_Int, Int.reduceEq, Int.reduceLT, Int.reduceLE, Nat.reduceLeDiff, List.reduceReplicate, reduceCtorEq, hg, hσq, fldN, List.set_cons_succ, List.getElem?_cons_zero, List.getElem?_cons_succ, Nat.reduceLT, List.length_set, hcc, tiW, hc10, htop, hcd]
        refine vc_regJ (fun s => s nx = some (.row 0 2 [[i64 n.1, encLL n.2]] false) ∧ s 0 = some (.row 0 10 [cs'] false)) [0, 1, 2, 3, 4, 5, 6, 7, 8, 13] (by kernel_rfl) (by kernel_rfl) ?_ ?_
        · exact ⟨hσq, htop⟩
        try simp -dsimp (maxSteps := 2000000) (disch := first | omega | decide +kernel) only [↓vcl, ↓vcy, ↓vco, vck, gR, evl, evb, evBuiltin, evLen, evIdxA, evLoad, loadP, aggD, tis, i64, u32, bl, encL, encB, encLL, reduceIte, Nat.reduceEqDiff, forget, forget1, wantd, tzs, eve, evStore, evBox, evAlloc, evBuildSlice, evMakeSlice, evAppend, fillRows, zcells, elemsOf, putAll, PV.one, Nat.reduceAdd, Nat.reduceMul, Int.cast_ofNat_Int, Int.reduceEq, Int.reduceLT, Int.reduceLE, Nat.reduceLeDiff, List.reduceReplicate, reduceCtorEq, vcj, implies_true, hg, hσq, fldN, List.set_cons_succ, List.getElem?_cons_zero, List.getElem?_cons_succ, Nat.reduceLT, List.length_set, hcc, tiW, hc10, htop, hcd]
        refine ⟨fun s hs => by rw [hs.1]; rfl, fun s hs => by rw [hs.1]; rfl, fun s hs => by rw [hs.2]; exact hcd, ?_⟩
        refine CallY.imm (d_of g hgl hgc) (by rfl) (by first | rfl | (simp -dsimp (maxSteps := 2000000) (disch := first | omega | decide +kernel) only [↓vcl, ↓vcy, ↓vco, vck, gR, evl, evb, evBuiltin, evLen, evIdxA, evLoad, loadP, aggD, tis, i64, u32, bl, encL, encB, encLL, reduceIte, Nat.reduceEqDiff, forget, forget1, wantd, tzs, eve, evStore, evBox, evAlloc, evBuildSlice, evMakeSlice, evAppend, fillRows, zcells, elemsOf, putAll, PV.one, Nat.reduceAdd, Nat.reduceMul, Int.cast_ofNat_Int, Int.reduceEq, Int.reduceLT, Int.reduceLE, Nat.reduceLeDiff, List.reduceReplicate, reduceCtorEq, drcs, drc, flat]; done) | simp -dsimp [evl, drcs, drc, flat, i64, u32, bl, encL, encB, encLL]) (by first | exact .inl rfl | exact .inr rfl | exact .inr scalB | exact .inr scalI | exact .inr scalT) ?_
        try simp -dsimp (maxSteps := 2000000) (disch := first | omega | decide +kernel) only [↓vcl, ↓vcy, ↓vco, vck, gR, evl, evb, evBuiltin, evLen, evIdxA, evLoad, loadP, aggD, tis, i64, u32, bl, encL, encB, encLL, reduceIte, Nat.reduceEqDiff, forget, forget1, wantd, tzs, eve, evStore, evBox, evAlloc, evBuildSlice, evMakeSlice, evAppend, fillRows, zcells, elemsOf, putAll, PV.one, Nat.reduceAdd, Nat.reduceMul, Int.cast_ofNat_Int, Int.reduceEq, Int.reduceLT, Int.reduceLE, Nat.reduceLeDiff, List.reduceReplicate, reduceCtorEq, vcj, implies_true, hg, hσq, fldN, List.set_cons_succ, List.getElem?_cons_zero, List.getElem?_cons_succ, Nat.reduceLT, List.length_set, hcc, tiW, hc10, htop, hcd, wd, hns, hlen, hcl, hid, hnid, hbd]
        refine ⟨.inl (by decide +kernel), ?_⟩
        refine ⟨_, _, ?_, weak_ofS ?_ rfl rfl, k + 1, nx' + 1, _, cs'.set c (.own (ids' c) (v + 1) 0 (wpart l n i k c ++ [ofL g]).length false), _, h3, by omega, ?_, hG'.upd (c := c) (id := ids' c) (v := v + 1) (ws := wpart l n i k c ++ [ofL g]) hc10 ?_ ?_ (by simp) ?_ ?_ (by omega) ?_ (by omega) (by omega) (by omega) ?_, rfl, rfl⟩
        · omega
        · first | (simp -dsimp (maxSteps := 2000000) (disch := first | omega | decide +kernel) only [↓vcl, ↓vcy, ↓vco, vck, gR, evl, evb, evBuiltin, evLen, evIdxA, evLoad, loadP, aggD, tis, i64, u32, bl, encL, encB, encLL, reduceIte, Nat.reduceEqDiff, forget, forget1, wantd, tzs, eve, evStore, evBox, evAlloc, evBuildSlice, evMakeSlice, evAppend, fillRows, zcells, elemsOf, putAll, PV.one, Nat.reduceAdd, Nat.reduceMul, Int.cast_ofNat_Int, Int.reduceEq, Int.reduceLT, Int.reduceLE, Nat.reduceLeDiff, List.reduceReplicate, reduceCtorEq, encNs, wrapS h3 hfn.1]; done) | simp -dsimp [evl, putN, i64, u32, bl, encL, encB, encLL, encNs, wrapS h3 hfn.1]
        · simp -dsimp [st_put_σ, Store.put, hns0, hnid, hns, hσq, hcc, encL, encLL, i64]
        · rw [wpart_step hg, if_pos hcc]
        · intro d hd; rw [wpart_step hg, if_neg (by rw [hcc]; omega), List.append_nil]
        · simp -dsimp [st_put_σ, Store.put, hns, hnid]
        · simp -dsimp [st_put_σ, Store.put, hns, hnid, wd]
        · intro j h1 h2 h3
          simp -dsimp [st_put_σ, Store.put, show ¬ j = 0 by omega, h3, show ¬ j = nx' by omega]
        · intro d hd hdc hf e
          exact hdc (hG'.dist d c hd hc10 hf he e)
    · try simp -dsimp (maxSteps := 2000000) (disch := first | omega | decide +kernel) only [↓vcl, ↓vcy, ↓vco, vck, gR, evl, evb, evBuiltin, evLen, evIdxA, evLoad, loadP, aggD, tis, i64, u32, bl, encL, encB, encLL, reduceIte, Nat.reduceEqDiff, forget, forget1, wantd, tzs, eve, evStore, evBox, evAlloc, evBuildSlice, evMakeSlice, evAppend, fillRows, zcells, elemsOf, putAll, PV.one, Nat.reduceAdd, Nat.reduceMul, Int.cast_ofNat_Int, Int.reduceEq, Int.reduceLT, Int.reduceLE, Nat.reduceLeDiff, List.reduceReplicate, reduceCtorEq]
      refine ⟨_, _, ?_, weak_ofS ?_ rfl rfl, i + 1, nx', σ', nx, cs', ids', h2, ?_, rfl, rfl⟩
      · omega
      · first | (simp -dsimp (maxSteps := 2000000) (disch := first | omega | decide +kernel) only [↓vcl, ↓vcy, ↓vco, vck, gR, evl, evb, evBuiltin, evLen, evIdxA, evLoad, loadP, aggD, tis, i64, u32, bl, encL, encB, encLL, reduceIte, Nat.reduceEqDiff, forget, forget1, wantd, tzs, eve, evStore, evBox, evAlloc, evBuildSlice, evMakeSlice, evAppend, fillRows, zcells, elemsOf, putAll, PV.one, Nat.reduceAdd, Nat.reduceMul, Int.cast_ofNat_Int, Int.reduceEq, Int.reduceLT, Int.reduceLE, Nat.reduceLeDiff, List.reduceReplicate, reduceCtorEq, encNs, wrapS h2 hl]; done) | simp -dsimp [evl, putN, i64, u32, bl, encL, encB, encLL, encNs, wrapS h2 hl]
      · have : k = n.2.length := by omega
        subst this
        rw [← wpart_end hn]; exact hG'
  · rw [List.take_of_length_le (by omega)] at hG
    have hdr := hG.dr
    have htop := hG.top
    by_cases hfl : cs.all Go.Ab.flat = true
    · have := hG.flat hfl
      simp -dsimp (maxSteps := 2000000) (disch := first | omega | decide +kernel) only [↓vcl, ↓vcy, ↓vco, vck, gR, evl, evb, evBuiltin, evLen, evIdxA, evLoad, loadP, aggD, tis, i64, u32, bl, encL, encB, encLL, reduceIte, Nat.reduceEqDiff, forget, forget1, wantd, tzs, eve, evStore, evBox, evAlloc, evBuildSlice, evMakeSlice, evAppend, fillRows, zcells, elemsOf, putAll, PV.one, Nat.reduceAdd, Nat.reduceMul, Int.cast_ofNat_Int, Int.reduceEq, Int.reduceLT, Int.reduceLE, Nat.reduceLeDiff, List.reduceReplicate, reduceCtorEq, retQ, resL, finL, newL, flat, tupOf, List.toList_toArray, Tryd.f32, htop, hfl, drcs, drc, List.getElem?_cons_zero]
      rw [this]
      exact leT_refl _
    · have hfl' : cs.all Go.Ab.flat = false := by simpa using hfl
      simp -dsimp (maxSteps := 2000000) (disch := first | omega | decide +kernel) only [↓vcl, ↓vcy, ↓vco, vck, gR, evl, evb, evBuiltin, evLen, evIdxA, evLoad, loadP, aggD, tis, i64, u32, bl, encL, encB, encLL, reduceIte, Nat.reduceEqDiff, forget, forget1, wantd, tzs, eve, evStore, evBox, evAlloc, evBuildSlice, evMakeSlice, evAppend, fillRows, zcells, elemsOf, putAll, PV.one, Nat.reduceAdd, Nat.reduceMul, Int.cast_ofNat_Int, Int.reduceEq, Int.reduceLT, Int.reduceLE, Nat.reduceLeDiff, List.reduceReplicate, reduceCtorEq, retQ, resL, finL, newL, flat, tupOf, List.toList_toArray, Tryd.f32, htop, hfl', drcs, drc, List.getElem?_cons_zero, hdr]
      exact leT_refl _
end Go.Ab
