/- The worst branch; equal gaps. -/
import Derived.Test.YtgcodedanljhpaaGreatDoorMO
import Derived.Test.YtgcodedanljhpaaGreatDoorMH
set_option linter.unusedSimpArgs false
set_option linter.unusedVariables false
set_option maxRecDepth 1000000
set_option maxHeartbeats 8000000
namespace Go.Ab
open Go Go.Proofs Go.Sort
theorem bd_MS : type_of% (And.intro @evNext.eq_1 (And.intro @fld (And.intro @nit (And.intro @nxE (And.intro @ghR (And.intro @ovR (And.intro @evBin_seql (And.intro @evBin_sneq (And.intro @str.eq_1 (And.intro @u8.eq_1 (And.intro @encBrs.eq_1 (And.intro @cBr.eq_1 (And.intro @encLdg.eq_1 (And.intro @encKws.eq_1 (And.intro @cKw.eq_1 (And.intro @encEvss.eq_1 (And.intro @encEvs.eq_1 (And.intro @cEv.eq_1 (And.intro @encMks.eq_1 (And.intro @cMk.eq_1 (And.intro @encStrs.eq_1 (And.intro @encFxs.eq_1 (And.intro @cFx.eq_1 (And.intro @cGp.eq_1 (And.intro @tk2 (And.intro @tk3 (And.intro @List.set_cons_succ.{0} (And.intro @List.getElem?_cons_zero.{0} (And.intro @List.getElem?_cons_succ.{0} (@List.length_set.{0})))))))))))))))))))))))))))))) := And.intro @evNext.eq_1 (And.intro @fld (And.intro @nit (And.intro @nxE (And.intro @ghR (And.intro @ovR (And.intro @evBin_seql (And.intro @evBin_sneq (And.intro @str.eq_1 (And.intro @u8.eq_1 (And.intro @encBrs.eq_1 (And.intro @cBr.eq_1 (And.intro @encLdg.eq_1 (And.intro @encKws.eq_1 (And.intro @cKw.eq_1 (And.intro @encEvss.eq_1 (And.intro @encEvs.eq_1 (And.intro @cEv.eq_1 (And.intro @encMks.eq_1 (And.intro @cMk.eq_1 (And.intro @encStrs.eq_1 (And.intro @encFxs.eq_1 (And.intro @cFx.eq_1 (And.intro @cGp.eq_1 (And.intro @tk2 (And.intro @tk3 (And.intro @List.set_cons_succ.{0} (And.intro @List.getElem?_cons_zero.{0} (And.intro @List.getElem?_cons_succ.{0} (@List.length_set.{0})))))))))))))))))))))))))))))
theorem sc_look {G : List Gp} {kvs : List (Value × PV × Nat)} (h : ScM G kvs) (s : Str) : (findP .string (.string s) kvs = some none ∧ scr G s = 0) ∨ findP .string (.string s) kvs = some (some (.lit (.int .i64 (scr G s)))) := by
  have : findP .string (.string s) kvs = some (if hasG G s then some (.lit (.int .i64 (scr G s))) else none) := h.map s
  cases hc : hasG G s
  · rw [hc] at this; exact .inl ⟨this, scr_no _ hc⟩
  · rw [hc] at this; exact .inr this
theorem wstF_if {G : List Gp} {w : Str} {b : Br} : (decide (scr G w < scr G b.name) = false → wstF G w b = w) ∧ (decide (scr G w < scr G b.name) = true → wstF G w b = b.name) :=
  ⟨fun h => by unfold wstF; rw [if_neg (of_decide_eq_false h)], fun h => by unfold wstF; rw [if_pos (of_decide_eq_true h)]⟩
theorem m_Worst (l : Ldg) (x : List Fx) (hz : LSz l) (hx40 : x.length ≤ 2^40) (hb40 : ∀ f ∈ x, f.brs.length ≤ 2^40) : CallSpec cx 21 [encLdg l, encFxs x] (.tup [str (mworst l x).1, i64 (mworst l x).2.1, i64 (mworst l x).2.2]) := by
  have hbl := hz.brs
  refine callSpec_of_vc Tryz.func21 rfl (by decide) (by kernel_rfl) (Nat.le_of_ble_eq_true rfl) ?_
  try simp -dsimp (disch := first | omega | decide +kernel) only [↓bp0, bd0, bd_MS, reduceIte, Nat.reduceEqDiff, evStore, Nat.reduceAdd, Nat.reduceMul, Int.reduceEq, Int.reduceLT, Int.reduceLE, Nat.reduceLeDiff, List.reduceReplicate, reduceCtorEq, evRange, Nat.reduceLT, Tryz.f21]
  refine CallQ.inm (m_scores l x hz hx40 hb40 _ _) (by rfl) ?_
  rintro r σ' nx1 (⟨h0, hn, rfl, rfl⟩ | ⟨h0, id, kvs, ck, hid, hid2, rfl, rfl, hM⟩)
  · have h0d : decide (mchk l x = 0) = false := decide_eq_false h0
    simp -dsimp (disch := first | omega | decide +kernel) only [↓bp0, bd0, bd_MS, reduceIte, Nat.reduceEqDiff, evStore, Nat.reduceAdd, Nat.reduceMul, Int.reduceEq, Int.reduceLT, Int.reduceLE, Nat.reduceLeDiff, List.reduceReplicate, reduceCtorEq, evRange, Nat.reduceLT, retQ, resL, finL, newL, flat, tupOf, List.toList_toArray, Tryz.f21, h0d]
    rw [mworst, if_pos h0]
    exact ⟨.rfl', .rfl', .rfl', trivial⟩
  have hid' : 1 ≤ id := hid
  have hE1_0a : (id = 0) = False := by simp; omega
  have hE1_0b : (0 = id) = False := by simp; omega
  cases h1 : decide ((kvs.length : Int) = 0)
  case true =>
    have h1' : gapL l x = [] := hM.len.1 (by have := of_decide_eq_true h1; omega)
    simp -dsimp (disch := first | omega | decide +kernel) only [↓bp0, bd0, bd_MS, reduceIte, Nat.reduceEqDiff, evStore, Nat.reduceAdd, Nat.reduceMul, Int.reduceEq, Int.reduceLT, Int.reduceLE, Nat.reduceLeDiff, List.reduceReplicate, reduceCtorEq, evRange, Nat.reduceLT, retQ, resL, finL, newL, flat, tupOf, List.toList_toArray, Tryz.f21, h1, hE1_0a, hE1_0b]
    rw [mworst, if_neg (by rw [Decidable.not_not]; exact h0), if_pos h1']
    exact ⟨.rfl', .rfl', .rfl', trivial⟩
  have h1' : gapL l x ≠ [] := fun e => by have := hM.len.2 e; have := of_decide_eq_false h1; omega
  have he : mworst l x = (wst (gapL l x) l.brs, scr (gapL l x) (wst (gapL l x) l.brs), 0) := by rw [mworst, if_neg (by rw [Decidable.not_not]; exact h0), if_neg h1']
  rw [he]
  clear he h1'
  revert hM
  generalize gapL l x = G
  intro hM
  try simp -dsimp (disch := first | omega | decide +kernel) only [↓bp0, bd0, bd_MS, reduceIte, Nat.reduceEqDiff, evStore, Nat.reduceAdd, Nat.reduceMul, Int.reduceEq, Int.reduceLT, Int.reduceLE, Nat.reduceLeDiff, List.reduceReplicate, reduceCtorEq, evRange, Nat.reduceLT, h1, hE1_0a, hE1_0b]
  refine LoopQ.rule (fun m st => ∃ (i nx : Nat) (w : Str), i ≤ l.brs.length ∧ id < nx ∧ w = wst G (l.brs.take i) ∧ m = l.brs.length - i ∧
    st = ⟨mkE [(2, .ptr 0 0 0 0), (7, .mp id), (9, str w), (25, encBrs l.brs), (26, i64 l.brs.length), (27, i64 i)], mkS [(0, .row 0 3 [[encKws l.known, encBrs l.brs, encEvss l.evs]] false), (id, .map kvs ck false)], nx⟩) _ _ (weak_of ?_)
    ⟨0, nx1, ⟨#[]⟩, by omega, hid2, rfl, rfl, rfl⟩ ?_
  · first | (simp -dsimp (disch := first | omega | decide +kernel) only [↓bp0, bd0, bd_MS, reduceIte, Nat.reduceEqDiff, evStore, Nat.reduceAdd, Nat.reduceMul, Int.reduceEq, Int.reduceLT, Int.reduceLE, Nat.reduceLeDiff, List.reduceReplicate, reduceCtorEq, evRange, Nat.reduceLT, hE1_0a, hE1_0b]; done) | simp -dsimp [evl, putN, i64, u32, bl, encL, encB, encLL, hE1_0a, hE1_0b]
  rintro m st ⟨i, nx, w, hi, hnx, hw, rfl, rfl⟩
  have hE2_0a : (id = 0) = False := by simp; omega
  have hE2_0b : (0 = id) = False := by simp; omega
  have hE2_1a : (id = nx) = False := by simp; omega
  have hE2_1b : (nx = id) = False := by simp; omega
  have hE2_2a : (nx = 0) = False := by simp; omega
  have hE2_2b : (0 = nx) = False := by simp; omega
  try simp -dsimp (disch := first | omega | decide +kernel) only [↓bp0, bd0, bd_MS, reduceIte, Nat.reduceEqDiff, evStore, Nat.reduceAdd, Nat.reduceMul, Int.reduceEq, Int.reduceLT, Int.reduceLE, Nat.reduceLeDiff, List.reduceReplicate, reduceCtorEq, evRange, Nat.reduceLT, hE2_0a, hE2_0b, hE2_1a, hE2_1b, hE2_2a, hE2_2b]
  refine onC_nlt (fun h2 => ?_) (fun h2 => ?_)
  · obtain ⟨b, hx, hxm⟩ := get_of_lt h2
    have hst : wst G (l.brs.take (i + 1)) = wstF G w b := by rw [take_succ hx, wst_snoc, hw]
    cases c1 : decide (scr G w < scr G b.name)
    · have hf := wstF_if.1 c1
      rcases sc_look hM b.name with ⟨a1, a2⟩ | a1 <;> rcases sc_look hM w with ⟨b1, b2⟩ | b1
      all_goals
        (try rw [a2] at c1)
        (try rw [b2] at c1)
        try simp -dsimp (disch := first | omega | decide +kernel) only [↓bp0, bd0, bd_MS, reduceIte, Nat.reduceEqDiff, evStore, Nat.reduceAdd, Nat.reduceMul, Int.reduceEq, Int.reduceLT, Int.reduceLE, Nat.reduceLeDiff, List.reduceReplicate, reduceCtorEq, evRange, Nat.reduceLT, hx, a1, b1, c1, evLookup, keyS, hE2_0a, hE2_0b, hE2_1a, hE2_1b, hE2_2a, hE2_2b]
        refine ⟨_, _, ?_, weak_of ?_, i + 1, nx + 1, w, h2, by omega, by rw [hst, hf], rfl, rfl⟩
        · omega
        · first | (simp -dsimp (disch := first | omega | decide +kernel) only [↓bp0, bd0, bd_MS, reduceIte, Nat.reduceEqDiff, evStore, Nat.reduceAdd, Nat.reduceMul, Int.reduceEq, Int.reduceLT, Int.reduceLE, Nat.reduceLeDiff, List.reduceReplicate, reduceCtorEq, evRange, Nat.reduceLT, wrapS h2 (show l.brs.length ≤ 9223372036854775807 by omega), hE2_0a, hE2_0b, hE2_1a, hE2_1b, hE2_2a, hE2_2b]; done) | simp -dsimp [evl, putN, i64, u32, bl, encL, encB, encLL, wrapS h2 (show l.brs.length ≤ 9223372036854775807 by omega), hE2_0a, hE2_0b, hE2_1a, hE2_1b, hE2_2a, hE2_2b]
    · have hf := wstF_if.2 c1
      rcases sc_look hM b.name with ⟨a1, a2⟩ | a1 <;> rcases sc_look hM w with ⟨b1, b2⟩ | b1
      all_goals
        (try rw [a2] at c1)
        (try rw [b2] at c1)
      · exact absurd (of_decide_eq_true c1) (by omega)
      all_goals
        try simp -dsimp (disch := first | omega | decide +kernel) only [↓bp0, bd0, bd_MS, reduceIte, Nat.reduceEqDiff, evStore, Nat.reduceAdd, Nat.reduceMul, Int.reduceEq, Int.reduceLT, Int.reduceLE, Nat.reduceLeDiff, List.reduceReplicate, reduceCtorEq, evRange, Nat.reduceLT, hx, a1, b1, c1, evLookup, keyS, hE2_0a, hE2_0b, hE2_1a, hE2_1b, hE2_2a, hE2_2b]
        refine ⟨_, _, ?_, weak_of ?_, i + 1, nx + 1, b.name, h2, by omega, by rw [hst, hf], rfl, rfl⟩
        · omega
        · first | (simp -dsimp (disch := first | omega | decide +kernel) only [↓bp0, bd0, bd_MS, reduceIte, Nat.reduceEqDiff, evStore, Nat.reduceAdd, Nat.reduceMul, Int.reduceEq, Int.reduceLT, Int.reduceLE, Nat.reduceLeDiff, List.reduceReplicate, reduceCtorEq, evRange, Nat.reduceLT, hx, wrapS h2 (show l.brs.length ≤ 9223372036854775807 by omega), hE2_0a, hE2_0b, hE2_1a, hE2_1b, hE2_2a, hE2_2b]; done) | simp -dsimp [evl, putN, i64, u32, bl, encL, encB, encLL, hx, wrapS h2 (show l.brs.length ≤ 9223372036854775807 by omega), hE2_0a, hE2_0b, hE2_1a, hE2_1b, hE2_2a, hE2_2b]
  · rw [List.take_of_length_le (by omega)] at hw
    rw [← hw]
    rcases sc_look hM w with ⟨b1, b2⟩ | b1
    · try simp -dsimp (disch := first | omega | decide +kernel) only [↓bp0, bd0, bd_MS, reduceIte, Nat.reduceEqDiff, evStore, Nat.reduceAdd, Nat.reduceMul, Int.reduceEq, Int.reduceLT, Int.reduceLE, Nat.reduceLeDiff, List.reduceReplicate, reduceCtorEq, evRange, Nat.reduceLT, b1, evLookup, keyS, hE2_0a, hE2_0b, hE2_1a, hE2_1b, hE2_2a, hE2_2b]
      first | refine vc_text (by kernel_rfl) ?_ | skip
      simp -dsimp (disch := first | omega | decide +kernel) only [↓bp0, bd0, bd_MS, reduceIte, Nat.reduceEqDiff, evStore, Nat.reduceAdd, Nat.reduceMul, Int.reduceEq, Int.reduceLT, Int.reduceLE, Nat.reduceLeDiff, List.reduceReplicate, reduceCtorEq, evRange, Nat.reduceLT, retQ, resL, finL, newL, flat, tupOf, List.toList_toArray, Tryz.f21, b1, evLookup, keyS, hE2_0a, hE2_0b, hE2_1a, hE2_1b, hE2_2a, hE2_2b]
      rw [b2]
      exact ⟨.rfl', .rfl', .rfl', trivial⟩
    · try simp -dsimp (disch := first | omega | decide +kernel) only [↓bp0, bd0, bd_MS, reduceIte, Nat.reduceEqDiff, evStore, Nat.reduceAdd, Nat.reduceMul, Int.reduceEq, Int.reduceLT, Int.reduceLE, Nat.reduceLeDiff, List.reduceReplicate, reduceCtorEq, evRange, Nat.reduceLT, b1, evLookup, keyS, hE2_0a, hE2_0b, hE2_1a, hE2_1b, hE2_2a, hE2_2b]
      first | refine vc_text (by kernel_rfl) ?_ | skip
      simp -dsimp (disch := first | omega | decide +kernel) only [↓bp0, bd0, bd_MS, reduceIte, Nat.reduceEqDiff, evStore, Nat.reduceAdd, Nat.reduceMul, Int.reduceEq, Int.reduceLT, Int.reduceLE, Nat.reduceLeDiff, List.reduceReplicate, reduceCtorEq, evRange, Nat.reduceLT, retQ, resL, finL, newL, flat, tupOf, List.toList_toArray, Tryz.f21, b1, evLookup, keyS, hE2_0a, hE2_0b, hE2_1a, hE2_1b, hE2_2a, hE2_2b]
      exact ⟨.rfl', .rfl', .rfl', trivial⟩
theorem r_Same (g : List Gp) (hg : g.length ≤ 9223372036854775807) : CallSpec cx 17 [encGps g, encGps g] (bl true) := by
  refine callSpec_of_vc Tryz.func17 rfl (by decide) (by kernel_rfl) (Nat.le_of_ble_eq_true rfl) ?_
  try simp -dsimp (disch := first | omega | decide +kernel) only [↓bp0, bd0, bd_MS, reduceIte, Nat.reduceEqDiff, evStore, Nat.reduceAdd, Nat.reduceMul, Int.reduceEq, Int.reduceLT, Int.reduceLE, Nat.reduceLeDiff, List.reduceReplicate, reduceCtorEq, evRange, Nat.reduceLT, Tryz.f17, encGps, List.length_map]
  refine LoopQ.rule (fun m st => ∃ (i : Nat), i ≤ g.length ∧ m = g.length - i ∧
    st = ⟨mkE [(0, encGps g), (1, encGps g), (5, i64 i)], mkS [], 0⟩) _ _ (weak_of ?_)
    ⟨0, by omega, rfl, rfl⟩ ?_
  · first | (simp -dsimp (disch := first | omega | decide +kernel) only [↓bp0, bd0, bd_MS, reduceIte, Nat.reduceEqDiff, evStore, Nat.reduceAdd, Nat.reduceMul, Int.reduceEq, Int.reduceLT, Int.reduceLE, Nat.reduceLeDiff, List.reduceReplicate, reduceCtorEq, evRange, Nat.reduceLT, encGps]; done) | simp -dsimp [evl, putN, i64, u32, bl, encL, encB, encLL, encGps]
  rintro m st ⟨i, hi, rfl, rfl⟩
  try simp -dsimp (disch := first | omega | decide +kernel) only [↓bp0, bd0, bd_MS, reduceIte, Nat.reduceEqDiff, evStore, Nat.reduceAdd, Nat.reduceMul, Int.reduceEq, Int.reduceLT, Int.reduceLE, Nat.reduceLeDiff, List.reduceReplicate, reduceCtorEq, evRange, Nat.reduceLT, encGps, List.length_map]
  refine onC_nlt (fun h2 => ?_) (fun h2 => ?_)
  · obtain ⟨a, hx, hxm⟩ := get_of_lt h2
    try simp -dsimp (disch := first | omega | decide +kernel) only [↓bp0, bd0, bd_MS, reduceIte, Nat.reduceEqDiff, evStore, Nat.reduceAdd, Nat.reduceMul, Int.reduceEq, Int.reduceLT, Int.reduceLE, Nat.reduceLeDiff, List.reduceReplicate, reduceCtorEq, evRange, Nat.reduceLT, hx, encGps, ev_neq_gap]
    refine ⟨_, _, ?_, weak_of ?_, i + 1, h2, rfl, rfl⟩
    · omega
    · first | (simp -dsimp (disch := first | omega | decide +kernel) only [↓bp0, bd0, bd_MS, reduceIte, Nat.reduceEqDiff, evStore, Nat.reduceAdd, Nat.reduceMul, Int.reduceEq, Int.reduceLT, Int.reduceLE, Nat.reduceLeDiff, List.reduceReplicate, reduceCtorEq, evRange, Nat.reduceLT, wrapS h2 hg, encGps]; done) | simp -dsimp [evl, putN, i64, u32, bl, encL, encB, encLL, wrapS h2 hg, encGps]
  · simp -dsimp (disch := first | omega | decide +kernel) only [↓bp0, bd0, bd_MS, reduceIte, Nat.reduceEqDiff, evStore, Nat.reduceAdd, Nat.reduceMul, Int.reduceEq, Int.reduceLT, Int.reduceLE, Nat.reduceLeDiff, List.reduceReplicate, reduceCtorEq, evRange, Nat.reduceLT, retQ, resL, finL, newL, flat, tupOf, List.toList_toArray, Tryz.f17]
    exact leT_one .rfl' (by simp)
end Go.Ab
