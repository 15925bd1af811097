import Derived.Test.YtlfllbelabkaeaaDoorDV
import Derived.Test.YtlfllbelabkaeaaDoorAbFrz
set_option linter.unusedSimpArgs false
set_option linter.unusedVariables false
set_option maxRecDepth 100000
namespace Go.Ab
open Go Go.Proofs W16

def exN : List Nd := [(3, [[1, 2], [0]]), (1, [[4]]), (2, [])]
def exR : List (List PV) := [[i64 3, .imm [[.imm [[i64 1], [i64 2]] false], [.imm [[i64 0]] false]] false], [i64 1, .imm [[.imm [[i64 4]] false]] false], [i64 2, .lit (.slice none 0 0)]]
theorem bldN : (∀ k n i v o l c, evBuild cx 51 [(0, .lit (.int k n)), (1, .own i v o l c)] = some (.agg [.lit (.int k n), .own i v o l c])) ∧ (∀ k n, evBuild cx 51 [(0, .lit (.int k n))] = some (.agg [.lit (.int k n), .lit (.slice none 0 0)])) ∧
    (∀ i v o l c, evBuild cx 51 [(1, .own i v o l c)] = some (.agg [i64 0, .own i v o l c])) := ⟨fun _ _ _ _ _ _ _ => by kernel_rfl, fun _ _ => by kernel_rfl, fun _ _ _ _ _ => by kernel_rfl⟩
theorem e_example : CallSpec cx 29 [] (.new 2 exR) := by
  refine callSpec_of_vcD Tryd.func29 rfl (by decide) (by kernel_rfl) (Nat.le_of_ble_eq_true rfl) ?_
  try simp -dsimp (maxSteps := 2000000) (disch := first | omega | decide +kernel) only [↓vcl, ↓vcy, ↓vco, vck, gR, evl, evb, evBuiltin, evLen, evIdxA, evLoad, loadP, aggD, tis, i64, u32, bl, encL, encB, encLL, reduceIte, Nat.reduceEqDiff, forget, forget1, wantd, tzs, eve, evStore, evBox, evAlloc, evBuildSlice, evMakeSlice, evAppend, fillRows, zcells, elemsOf, putAll, PV.one, Nat.reduceAdd, Nat.reduceMul, Int.cast_ofNat_Int, Int.reduceEq, Int.reduceLT, Int.reduceLE, Nat.reduceLeDiff, List.reduceReplicate, reduceCtorEq, Tryd.f29, List.set_cons_succ, List.getElem?_cons_zero, List.getElem?_cons_succ, Nat.reduceLT, List.length_set, tzN, bldN, PV.cellsP]
  simp -dsimp (maxSteps := 2000000) (disch := first | omega | decide +kernel) only [↓vcl, ↓vcy, ↓vco, vck, gR, evl, evb, evBuiltin, evLen, evIdxA, evLoad, loadP, aggD, tis, i64, u32, bl, encL, encB, encLL, reduceIte, Nat.reduceEqDiff, forget, forget1, wantd, tzs, eve, evStore, evBox, evAlloc, evBuildSlice, evMakeSlice, evAppend, fillRows, zcells, elemsOf, putAll, PV.one, Nat.reduceAdd, Nat.reduceMul, Int.cast_ofNat_Int, Int.reduceEq, Int.reduceLT, Int.reduceLE, Nat.reduceLeDiff, List.reduceReplicate, reduceCtorEq, retD, resL, newD, rdp, fu4, ml, Store.del, onL, List.toList_toArray, Tryd.f29, List.set_cons_succ, List.getElem?_cons_zero, List.getElem?_cons_succ, Nat.reduceLT, List.length_set, tzN, bldN, PV.cellsP]
  rfl

/-! ### what is computed, in small cases -/
theorem and_dis {x y : BitVec 16} : x &&& y = 0#16 ↔ ∀ j, x.getLsbD j = true → y.getLsbD j = false := by
  rw [andz_iff]
  exact forall_congr' fun j => by cases x.getLsbD j <;> cases y.getLsbD j <;> simp
theorem setB_eq {s : List Int} : setB s = decide (s.Pairwise (· < ·) ∧ ∀ c ∈ s, 0 ≤ c ∧ c < 10) := by
  rw [Bool.eq_iff_iff, decide_eq_true_iff]
  constructor
  · intro h; exact ⟨set_pair h, set_cls h⟩
  · rintro ⟨h1, h2⟩
    refine setB_of (Nat.le_refl _) fun j hj c hc => ⟨h2 c (List.mem_of_getElem? hc), ?_⟩
    rintro k d rfl hk
    rw [List.pairwise_iff_getElem] at h1
    have g1 := List.getElem?_eq_some_iff.1 hc
    have g2 := List.getElem?_eq_some_iff.1 hk
    have := h1 k (k + 1) g2.1 g1.1 (by omega)
    rw [g1.2, g2.2] at this; exact this
theorem twiceN_eq {l : List Nd} : twiceN l = decide (¬ ((l.map Prod.fst).Nodup ∧ ∀ n ∈ l, ∀ g ∈ n.2, g.Nodup)) := by
  unfold twiceN
  rw [decide_eq_decide]
  constructor
  · rintro ⟨i, n, hn, h⟩ ⟨h1, h2⟩
    rcases h with ⟨k, m, hk, hm, e⟩ | ⟨g, hg, hd⟩
    · rw [List.nodup_iff_pairwise_ne, List.pairwise_iff_getElem] at h1
      have g1 := List.getElem?_eq_some_iff.1 hn
      have g2 := List.getElem?_eq_some_iff.1 hm
      refine h1 k i (by simpa using g2.1) (by simpa using g1.1) hk ?_
      rw [List.getElem_map, List.getElem_map, g1.2, g2.2, e]
    · exact hd (h2 n (List.mem_of_getElem? hn) g hg)
  · intro h
    apply Classical.byContradiction
    intro hc
    apply h
    constructor
    · rw [List.nodup_iff_pairwise_ne, List.pairwise_iff_getElem]
      intro i j hi hj hij e
      rw [List.getElem_map, List.getElem_map] at e
      rw [List.length_map] at hi hj
      exact hc ⟨j, l[j], List.getElem?_eq_getElem hj, .inl ⟨i, l[i], hij, List.getElem?_eq_getElem hi, e⟩⟩
    · intro n hn g hg
      apply Classical.byContradiction
      intro hd
      obtain ⟨i, hi⟩ := List.getElem?_of_mem hn
      exact hc ⟨i, n, hi, .inr ⟨g, hg, hd⟩⟩
def dchkC (l : List Nd) : Int := if 10 < l.length then 4 else if l.any manyN then 4 else if l.any badN then 8 else if decide (¬ ((l.map Prod.fst).Nodup ∧ ∀ n ∈ l, ∀ g ∈ n.2, g.Nodup)) then 14 else 0
def bothC (l : List Nd) (ss : List (List Int)) : Int := if dchkC l = 0 then (if ss.all (fun s => decide (s.Pairwise (· < ·) ∧ ∀ c ∈ s, 0 ≤ c ∧ c < 10)) then 0 else 2) else dchkC l
theorem dcheck_eq {l : List Nd} : dcheck l = dchkC l := by
  unfold dcheck dchkC; rw [twiceN_eq]
theorem both_eq {l : List Nd} {ss : List (List Int)} : both l ss = bothC l ss := by
  unfold both bothC
  rw [dcheck_eq, show setB = (fun s => decide (s.Pairwise (· < ·) ∧ ∀ c ∈ s, 0 ≤ c ∧ c < 10)) from funext fun s => setB_eq]
def betterB (x y : BitVec 16) : Bool := decide (pc x < pc y) || (decide (pc x = pc y) && lexlt (bitsL x) (bitsL y))
def noneB (l : List Nd) (B G : BitVec 16) (P : BitVec 16 → Bool) : Bool := (List.range 1024).all fun m => !(decide (mk m &&& G = G) && P (mk m) && decide (mk m &&& B = 0#16) && decide ((gr l (mk m) B).length = pc (mk m)))
theorem noneB_spec {l : List Nd} {B G : BitVec 16} {P : BitVec 16 → Bool} (h : noneB l B G P = true) : ∀ s, Cand l B G s → P s = false := by
  intro s hs
  obtain ⟨m, hm, rfl⟩ := mk_of (rch_10 hs.1)
  have := List.all_eq_true.1 h m (List.mem_range.2 hm)
  rw [Bool.eq_false_iff]; intro hP
  rw [decide_eq_true hs.2, hP, decide_eq_true (and_dis.2 fun j hj => (rch_sub hs.1 j hj).2), decide_eq_true ((gr_full fun j hj => rch_sub hs.1 j hj).2 hs.1)] at this
  cases this
def chkB (l : List Nd) (B G r : BitVec 16) : Bool := decide (r.toNat < 1024) && decide (r &&& B = 0#16) && decide ((gr l r B).length = pc r) && decide (r &&& G = G) && noneB l B G fun s => betterB s r
theorem plan_chk {l : List Nd} {B G r : BitVec 16} (h : chkB l B G r = true) : IsPlan l B G r := by
  unfold chkB at h
  simp only [Bool.and_eq_true, decide_eq_true_eq] at h
  obtain ⟨⟨⟨⟨h1, h2⟩, h3⟩, h4⟩, h5⟩ := h
  have e : r = mk r.toNat := by simp [mk]
  have hs : ∀ j, r.getLsbD j = true → j < 10 ∧ B.getLsbD j = false := fun j hj => ⟨mk_10 h1 j (by rw [← e]; exact hj), and_dis.1 h2 j hj⟩
  refine ⟨⟨(gr_full hs).1 h3, h4⟩, fun s hc hb => ?_⟩
  have := noneB_spec h5 s hc
  unfold betterB at this
  unfold better at hb
  rw [Bool.or_eq_false_iff, decide_eq_false_iff_not] at this
  rcases hb with hb | ⟨hb, hl⟩
  · exact this.1 hb
  · rw [decide_eq_true hb, hl] at this; cases this.2
theorem plan_none {l : List Nd} {B G : BitVec 16} (h : noneB l B G (fun _ => true) = true) : planL l B G = [] ∧ planE l B G = 6 :=
  plan_not fun s hs => by have := noneB_spec h s hs; cases this
theorem plV_at {l : List Nd} {hv wn : List Int} {r : BitVec 16} (h0 : bothC l [hv, wn] = 0) (h : chkB l (ofL hv) (ofL wn &&& ~~~ ofL hv) r = true) : plV l hv wn = bitsL r ∧ plE l hv wn = 0 := by
  have h1 := both_eq.trans h0
  have := plan_at (plan_chk h)
  exact ⟨by rw [plV, if_pos h1, plG]; exact this.1, by rw [plE, if_pos h1, plG]; exact this.2⟩
theorem fits_d {l : List Nd} (h : (decide (l.length ≤ 1000) && l.all fun n => decide (n.2.length ≤ 1000) && n.2.all fun g => decide (g.length ≤ 1000)) = true) : fits l := by
  simp only [Bool.and_eq_true, decide_eq_true_eq, List.all_eq_true] at h
  exact ⟨by omega, fun n hn => ⟨by have := (h.2 n hn).1; omega, fun g hg => by have := (h.2 n hn).2 g hg; omega⟩⟩

theorem x_p1 : plV exN [] [3] = [0, 2, 3] ∧ plE exN [] [3] = 0 := plV_at (r := 13#16) (by decide +kernel) (by decide +kernel)
theorem x_p3 : plV exN [1] [3] = [0, 3] ∧ plE exN [1] [3] = 0 := plV_at (r := 9#16) (by decide +kernel) (by decide +kernel)
theorem x_o2 : orV exN [] [0, 2, 3] = [0, 2, 3] ∧ orE exN [] [0, 2, 3] = 0 := by
  unfold orV orE
  rw [both_eq]
  decide +kernel
def exM : List Nd := [(3, [[1, 2], [0]]), (1, [[4]]), (2, []), (4, [[1]])]
theorem x_r4 : rcV exM [] = [0, 2, 3, 5, 6, 7, 8, 9] ∧ both exM [[]] = 0 := by
  unfold rcV
  rw [both_eq]
  decide +kernel
end Go.Ab
