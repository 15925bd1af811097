/- The reference: what is in effect; what is great. -/
import Derived.Test.YtgcodedanljhpaaGreatDoorLW
set_option linter.unusedSimpArgs false
set_option linter.unusedVariables false
section
set_option maxRecDepth 100000
set_option maxHeartbeats 8000000
namespace Go.Ab
open Go Go.Proofs
theorem bd_LX : type_of% (And.intro @evNext.eq_1 (And.intro @fld (And.intro @nit (And.intro @nxE (And.intro @ovR (And.intro @evBin_seql (And.intro @evBin_sneq (And.intro @str.eq_1 (And.intro @u8.eq_1 (And.intro @encBrs.eq_1 (And.intro @cBr.eq_1 (And.intro @encLdg.eq_1 (And.intro @encKws.eq_1 (And.intro @cKw.eq_1 (And.intro @encEvss.eq_1 (And.intro @encEvs.eq_1 (And.intro @cEv.eq_1 (And.intro @encMks.eq_1 (And.intro @cMk.eq_1 (And.intro @tk2 (And.intro @tk3 (And.intro @List.set_cons_succ.{0} (And.intro @List.getElem?_cons_zero.{0} (And.intro @List.getElem?_cons_succ.{0} (@List.length_set.{0}))))))))))))))))))))))))) := And.intro @evNext.eq_1 (And.intro @fld (And.intro @nit (And.intro @nxE (And.intro @ovR (And.intro @evBin_seql (And.intro @evBin_sneq (And.intro @str.eq_1 (And.intro @u8.eq_1 (And.intro @encBrs.eq_1 (And.intro @cBr.eq_1 (And.intro @encLdg.eq_1 (And.intro @encKws.eq_1 (And.intro @cKw.eq_1 (And.intro @encEvss.eq_1 (And.intro @encEvs.eq_1 (And.intro @cEv.eq_1 (And.intro @encMks.eq_1 (And.intro @cMk.eq_1 (And.intro @tk2 (And.intro @tk3 (And.intro @List.set_cons_succ.{0} (And.intro @List.getElem?_cons_zero.{0} (And.intro @List.getElem?_cons_succ.{0} (@List.length_set.{0}))))))))))))))))))))))))
theorem r_lView (l : Ldg) (n : Str) (hz : LSz l) (hn : LNm l) : CallSpec cx 42 [encLdg l, str n] (.tup [encEvs (seenE l (lview l n).1), i64 (lview l n).2]) := by
  refine callSpec_of_vc Tryz.func42 rfl (by decide) (by kernel_rfl) (Nat.le_of_ble_eq_true rfl) ?_
  try simp -dsimp (disch := first | omega | decide +kernel) only [↓bp0, bd0, bd_LX, reduceIte, Nat.reduceEqDiff, evStore, Nat.reduceAdd, Nat.reduceMul, Int.reduceEq, Int.reduceLT, Int.reduceLE, Nat.reduceLeDiff, List.reduceReplicate, reduceCtorEq, evRange, Nat.reduceLT, Tryz.f42]
  refine CallQ.imm (r_lCheck l hz hn) (by rfl) (by rfl) (by first | exact .inl rfl | exact .inr rfl | exact .inr scalB | exact .inr scalI | exact .inr scalT | exact .inr scalM | exact .inr scalMT | exact .inr scalE) ?_
  cases h0 : decide (lchk l = 0)
  · try simp -dsimp (disch := first | omega | decide +kernel) only [↓bp0, bd0, bd_LX, reduceIte, Nat.reduceEqDiff, evStore, Nat.reduceAdd, Nat.reduceMul, Int.reduceEq, Int.reduceLT, Int.reduceLE, Nat.reduceLeDiff, List.reduceReplicate, reduceCtorEq, evRange, Nat.reduceLT, h0]
    refine CallQ.imm (r_lCheck l hz hn) (by rfl) (by rfl) (by first | exact .inl rfl | exact .inr rfl | exact .inr scalB | exact .inr scalI | exact .inr scalT | exact .inr scalM | exact .inr scalMT | exact .inr scalE) ?_
    simp -dsimp (disch := first | omega | decide +kernel) only [↓bp0, bd0, bd_LX, reduceIte, Nat.reduceEqDiff, evStore, Nat.reduceAdd, Nat.reduceMul, Int.reduceEq, Int.reduceLT, Int.reduceLE, Nat.reduceLeDiff, List.reduceReplicate, reduceCtorEq, evRange, Nat.reduceLT, retQ, resL, finL, newL, flat, tupOf, List.toList_toArray, Tryz.f42, h0]
    rw [lview, if_pos (of_decide_eq_false h0)]
    exact ⟨.inl (.inr (.inr ⟨rfl, rfl⟩)), .rfl', trivial⟩
  have h0' := of_decide_eq_true h0
  have e1 : lview l n = bview l.brs (cnts l) n := by rw [lview, if_neg (by rw [Decidable.not_not]; exact h0')]
  have hfp : (lview l n).2 = 0 → _ := fun h => fold_pre (l := l) (n := n) h
  rw [e1] at hfp ⊢
  try simp -dsimp (disch := first | omega | decide +kernel) only [↓bp0, bd0, bd_LX, reduceIte, Nat.reduceEqDiff, evStore, Nat.reduceAdd, Nat.reduceMul, Int.reduceEq, Int.reduceLT, Int.reduceLE, Nat.reduceLeDiff, List.reduceReplicate, reduceCtorEq, evRange, Nat.reduceLT, h0]
  first | refine vc_text (by kernel_rfl) ?_ | skip
  try simp -dsimp (disch := first | omega | decide +kernel) only [↓bp0, bd0, bd_LX, reduceIte, Nat.reduceEqDiff, evStore, Nat.reduceAdd, Nat.reduceMul, Int.reduceEq, Int.reduceLT, Int.reduceLE, Nat.reduceLeDiff, List.reduceReplicate, reduceCtorEq, evRange, Nat.reduceLT]
  refine CallY.imm (r_Counts l hz.evs hz.ev) (by rfl) (by rfl) (by first | exact .inl rfl | exact .inr rfl | exact .inr scalB | exact .inr scalI | exact .inr scalT | exact .inr scalM | exact .inr scalMT | exact .inr scalE) ?_
  try simp -dsimp (disch := first | omega | decide +kernel) only [↓bp0, bd0, bd_LX, reduceIte, Nat.reduceEqDiff, evStore, Nat.reduceAdd, Nat.reduceMul, Int.reduceEq, Int.reduceLT, Int.reduceLE, Nat.reduceLeDiff, List.reduceReplicate, reduceCtorEq, evRange, Nat.reduceLT]
  refine CallY.imm (r_View l.brs (cnts l) n (by have := hz.brs; omega) (by rw [cnts_len]; have := hz.evs; omega) hn.brs) (by rfl) (by rfl) (by first | exact .inl rfl | exact .inr rfl | exact .inr scalB | exact .inr scalI | exact .inr scalT | exact .inr scalM | exact .inr scalMT | exact .inr scalE) ?_
  cases h1 : decide ((bview l.brs (cnts l) n).2 = 0)
  · have h1' := of_decide_eq_false h1
    have hnil : (bview l.brs (cnts l) n).1 = [] := by
      unfold bview at h1' ⊢
      split
      · rfl
      · split
        · rfl
        · rename_i q1 q2; rw [if_neg q1, if_neg q2] at h1'; exact absurd rfl h1'
    simp -dsimp (disch := first | omega | decide +kernel) only [↓bp0, bd0, bd_LX, reduceIte, Nat.reduceEqDiff, evStore, Nat.reduceAdd, Nat.reduceMul, Int.reduceEq, Int.reduceLT, Int.reduceLE, Nat.reduceLeDiff, List.reduceReplicate, reduceCtorEq, evRange, Nat.reduceLT, retQ, resL, finL, newL, flat, tupOf, List.toList_toArray, Tryz.f42, h1]
    rw [hnil]
    exact ⟨.inl (.inr (.inr ⟨rfl, rfl⟩)), .rfl', trivial⟩
  obtain ⟨q1, q2, q3, q4⟩ := hfp (of_decide_eq_true h1)
  have hlen : (bview l.brs (cnts l) n).1.length ≤ 2^30 := by
    obtain ⟨hok, i, hi, _, e⟩ := lview_ok (l := l) (n := n) (by rw [e1]; exact of_decide_eq_true h1)
    rw [e1] at e
    obtain ⟨b, c, hb, hc, _, _⟩ := hok.vok.at hi
    have := hok.vok.length i hi hb hc
    have := hok.vok.at_ i b hb
    rw [e]; omega
  have h1' := of_decide_eq_true h1
  rw [h1'] at h1
  rw [h1']
  generalize (bview l.brs (cnts l) n).1 = v at q2 q3 q4 hlen ⊢
  try simp -dsimp (disch := first | omega | decide +kernel) only [↓bp0, bd0, bd_LX, reduceIte, Nat.reduceEqDiff, evStore, Nat.reduceAdd, Nat.reduceMul, Int.reduceEq, Int.reduceLT, Int.reduceLE, Nat.reduceLeDiff, List.reduceReplicate, reduceCtorEq, evRange, Nat.reduceLT, h1]
  refine CallQ.imm (r_Seen l v v.length q2 hlen) (by rfl) (by rfl) (by first | exact .inl rfl | exact .inr rfl | exact .inr scalB | exact .inr scalI | exact .inr scalT | exact .inr scalM | exact .inr scalMT | exact .inr scalE) ?_
  rw [List.take_length]
  simp -dsimp (disch := first | omega | decide +kernel) only [↓bp0, bd0, bd_LX, reduceIte, Nat.reduceEqDiff, evStore, Nat.reduceAdd, Nat.reduceMul, Int.reduceEq, Int.reduceLT, Int.reduceLE, Nat.reduceLeDiff, List.reduceReplicate, reduceCtorEq, evRange, Nat.reduceLT, retQ, resL, finL, newL, flat, tupOf, List.toList_toArray, Tryz.f42, h1, newEvs]
  exact ⟨.rfl', .rfl', trivial⟩
theorem r_effect (l : Ldg) (s : List Ev) (hl : l.known.length ≤ 2^40) (hs : s.length ≤ 2^40) : CallSpec cx 118 [encLdg l, encEvs s] (newI (lst 0 (inL (clsI l.known) s))) := by
  have hl30 := inL_len (f := clsI l.known) s
  have hget : ∀ i : Nat, i < 30 → (inL (clsI l.known) s)[i]? = some (inB (clsI l.known) s i) := fun i h => inL_get h
  generalize hL : inL (clsI l.known) s = L at hl30 hget
  refine callSpec_of_vc Tryz.func118 rfl (by decide) (by kernel_rfl) (Nat.le_of_ble_eq_true rfl) ?_
  try simp -dsimp (disch := first | omega | decide +kernel) only [↓bp0, bd0, bd_LX, reduceIte, Nat.reduceEqDiff, evStore, Nat.reduceAdd, Nat.reduceMul, Int.reduceEq, Int.reduceLT, Int.reduceLE, Nat.reduceLeDiff, List.reduceReplicate, reduceCtorEq, evRange, Nat.reduceLT, Tryz.f118]
  refine LoopQ.ghost 5 1 (by rfl) ?_
  refine LoopQ.rule (fun m st => ∃ i id ver nx : Nat, i ≤ 30 ∧ 1 ≤ id ∧ id < nx ∧ m = 30 - i ∧
    st = ⟨mkE [(1, encEvs s), (2, .ptr 0 0 0 0), (5, .own id ver 0 (lst 0 (L.take i)).length false), (6, i64 i)], mkS [(0, .row 0 3 [[encKws l.known, encBrs l.brs, encEvss l.evs]] false), (id, .row ver 1 ((lst 0 (L.take i)).map fun n => [i64 n]) false)], nx⟩) _ _ (weak_of ?_)
    ⟨0, 1, 0, 2, by omega, by omega, by omega, rfl, rfl⟩ ?_
  · first | (simp -dsimp (disch := first | omega | decide +kernel) only [↓bp0, bd0, bd_LX, reduceIte, Nat.reduceEqDiff, evStore, Nat.reduceAdd, Nat.reduceMul, Int.reduceEq, Int.reduceLT, Int.reduceLE, Nat.reduceLeDiff, List.reduceReplicate, reduceCtorEq, evRange, Nat.reduceLT, ghR, lst]; done) | simp -dsimp [evl, putN, i64, u32, bl, encL, encB, encLL, ghR, lst]
  rintro m st ⟨i, id, ver, nx, hi, hid1, hid, rfl, rfl⟩
  have hE1_0a : (id = 0) = False := by simp; omega
  have hE1_0b : (0 = id) = False := by simp; omega
  have hE1_1a : (id = nx) = False := by simp; omega
  have hE1_1b : (nx = id) = False := by simp; omega
  have hE1_2a : (nx = 0) = False := by simp; omega
  have hE1_2b : (0 = nx) = False := by simp; omega
  have hlen := lst_len (L.take i) 0
  rw [List.length_take] at hlen
  have hbd : ((lst 0 (L.take i)).length + 1) * 8 ≤ 140737488355328 := by omega
  try simp -dsimp (disch := first | omega | decide +kernel) only [↓bp0, bd0, bd_LX, reduceIte, Nat.reduceEqDiff, evStore, Nat.reduceAdd, Nat.reduceMul, Int.reduceEq, Int.reduceLT, Int.reduceLE, Nat.reduceLeDiff, List.reduceReplicate, reduceCtorEq, evRange, Nat.reduceLT, hE1_0a, hE1_0b, hE1_1a, hE1_1b, hE1_2a, hE1_2b]
  refine onC_ilt (fun h2 => ?_) (fun h2 => ?_)
  · have h2 : i < 30 := by omega
    have hx := hget i h2
    have hts := take_succ hx
    have hls := lst_snoc (L.take i) 0 (inB (clsI l.known) s i)
    rw [List.length_take, Nat.min_eq_left (by omega), Nat.zero_add] at hls
    try simp -dsimp (disch := first | omega | decide +kernel) only [↓bp0, bd0, bd_LX, reduceIte, Nat.reduceEqDiff, evStore, Nat.reduceAdd, Nat.reduceMul, Int.reduceEq, Int.reduceLT, Int.reduceLE, Nat.reduceLeDiff, List.reduceReplicate, reduceCtorEq, evRange, Nat.reduceLT, hE1_0a, hE1_0b, hE1_1a, hE1_1b, hE1_2a, hE1_2b]
    refine CallQ.imm (r_In l s i hl hs) (by rfl) (by rfl) (by first | exact .inl rfl | exact .inr rfl | exact .inr scalB | exact .inr scalI | exact .inr scalT | exact .inr scalM | exact .inr scalMT | exact .inr scalE) ?_
    cases hb : inB (clsI l.known) s i
    · rw [hb] at hls hts
      try simp -dsimp (disch := first | omega | decide +kernel) only [↓bp0, bd0, bd_LX, reduceIte, Nat.reduceEqDiff, evStore, Nat.reduceAdd, Nat.reduceMul, Int.reduceEq, Int.reduceLT, Int.reduceLE, Nat.reduceLeDiff, List.reduceReplicate, reduceCtorEq, evRange, Nat.reduceLT, hb, hE1_0a, hE1_0b, hE1_1a, hE1_1b, hE1_2a, hE1_2b]
      refine ⟨_, _, ?_, weak_of ?_, i + 1, id, ver, nx, by omega, hid1, hid, rfl, rfl⟩
      · omega
      · first | (simp -dsimp (disch := first | omega | decide +kernel) only [↓bp0, bd0, bd_LX, reduceIte, Nat.reduceEqDiff, evStore, Nat.reduceAdd, Nat.reduceMul, Int.reduceEq, Int.reduceLT, Int.reduceLE, Nat.reduceLeDiff, List.reduceReplicate, reduceCtorEq, evRange, Nat.reduceLT, wrapS h2 (show 30 ≤ 9223372036854775807 by omega), hts, hls, hE1_0a, hE1_0b, hE1_1a, hE1_1b, hE1_2a, hE1_2b]; done) | simp -dsimp [evl, putN, i64, u32, bl, encL, encB, encLL, wrapS h2 (show 30 ≤ 9223372036854775807 by omega), hts, hls, hE1_0a, hE1_0b, hE1_1a, hE1_1b, hE1_2a, hE1_2b]
    · rw [hb] at hls hts
      try simp -dsimp (disch := first | omega | decide +kernel) only [↓bp0, bd0, bd_LX, reduceIte, Nat.reduceEqDiff, evStore, Nat.reduceAdd, Nat.reduceMul, Int.reduceEq, Int.reduceLT, Int.reduceLE, Nat.reduceLeDiff, List.reduceReplicate, reduceCtorEq, evRange, Nat.reduceLT, hb, hE1_0a, hE1_0b, hE1_1a, hE1_1b, hE1_2a, hE1_2b, hbd]
      refine ⟨_, _, ?_, weak_of ?_, i + 1, id, ver + 1, nx + 1, by omega, hid1, by omega, rfl, rfl⟩
      · omega
      · first | (simp -dsimp (disch := first | omega | decide +kernel) only [↓bp0, bd0, bd_LX, reduceIte, Nat.reduceEqDiff, evStore, Nat.reduceAdd, Nat.reduceMul, Int.reduceEq, Int.reduceLT, Int.reduceLE, Nat.reduceLeDiff, List.reduceReplicate, reduceCtorEq, evRange, Nat.reduceLT, wrapS h2 (show 30 ≤ 9223372036854775807 by omega), hts, hls, hE1_0a, hE1_0b, hE1_1a, hE1_1b, hE1_2a, hE1_2b]; done) | simp -dsimp [evl, putN, i64, u32, bl, encL, encB, encLL, wrapS h2 (show 30 ≤ 9223372036854775807 by omega), hts, hls, hE1_0a, hE1_0b, hE1_1a, hE1_1b, hE1_2a, hE1_2b]
  · rw [List.take_of_length_le (by omega)]
    simp -dsimp (disch := first | omega | decide +kernel) only [↓bp0, bd0, bd_LX, reduceIte, Nat.reduceEqDiff, evStore, Nat.reduceAdd, Nat.reduceMul, Int.reduceEq, Int.reduceLT, Int.reduceLE, Nat.reduceLeDiff, List.reduceReplicate, reduceCtorEq, evRange, Nat.reduceLT, retQ, resL, finL, newL, flat, tupOf, List.toList_toArray, Tryz.f118, hE1_0a, hE1_0b, hE1_1a, hE1_1b, hE1_2a, hE1_2b]
    exact leT_one .rfl' (by simp)
theorem effE_clsI {known : List Kw} {s : List Ev} (h : ∀ e ∈ s, (clsOf known e.chg).isSome = true) : lst 0 (inL (clsI known) s) = effE known s := by
  unfold effE inL
  congr 1
  apply List.map_congr_left
  intro c _
  exact inB_congr (fun e he => (cls_eq (h e he)).symm) _
theorem r_Effect (l : Ldg) (n : Str) (hz : LSz l) (hn : LNm l) : CallSpec cx 100 [encLdg l, str n] (.tup [newI (leff l n).1, i64 (leff l n).2]) := by
  refine callSpec_of_vc Tryz.func100 rfl (by decide) (by kernel_rfl) (Nat.le_of_ble_eq_true rfl) ?_
  try simp -dsimp (disch := first | omega | decide +kernel) only [↓bp0, bd0, bd_LX, reduceIte, Nat.reduceEqDiff, evStore, Nat.reduceAdd, Nat.reduceMul, Int.reduceEq, Int.reduceLT, Int.reduceLE, Nat.reduceLeDiff, List.reduceReplicate, reduceCtorEq, evRange, Nat.reduceLT, Tryz.f100]
  refine CallQ.imm (r_lView l n hz hn) (by rfl) (by rfl) (by first | exact .inl rfl | exact .inr rfl | exact .inr scalB | exact .inr scalI | exact .inr scalT | exact .inr scalM | exact .inr scalMT | exact .inr scalE) ?_
  cases h0 : decide ((lview l n).2 = 0)
  · simp -dsimp (disch := first | omega | decide +kernel) only [↓bp0, bd0, bd_LX, reduceIte, Nat.reduceEqDiff, evStore, Nat.reduceAdd, Nat.reduceMul, Int.reduceEq, Int.reduceLT, Int.reduceLE, Nat.reduceLeDiff, List.reduceReplicate, reduceCtorEq, evRange, Nat.reduceLT, retQ, resL, finL, newL, flat, tupOf, List.toList_toArray, Tryz.f100, h0]
    rw [leff, if_pos (of_decide_eq_false h0)]
    exact ⟨.inr ⟨rfl, 1, rfl⟩, .rfl', trivial⟩
  have h0' := of_decide_eq_true h0
  obtain ⟨q1, q2, q3, q4⟩ := fold_pre h0'
  rw [leff, if_neg (by rw [Decidable.not_not]; exact h0')]
  have hsl : (seenE l (lview l n).1).length ≤ 2^40 := by simp [seenE]; exact q4
  generalize seenE l (lview l n).1 = s at q3 hsl ⊢
  try simp -dsimp (disch := first | omega | decide +kernel) only [↓bp0, bd0, bd_LX, reduceIte, Nat.reduceEqDiff, evStore, Nat.reduceAdd, Nat.reduceMul, Int.reduceEq, Int.reduceLT, Int.reduceLE, Nat.reduceLeDiff, List.reduceReplicate, reduceCtorEq, evRange, Nat.reduceLT, h0]
  refine CallQ.thaw (r_effect l s hz.known hsl) (by rfl) (by first | rfl | (simp -dsimp (disch := first | omega | decide +kernel) only [↓bp0, bd0, bd_LX, reduceIte, Nat.reduceEqDiff, evStore, Nat.reduceAdd, Nat.reduceMul, Int.reduceEq, Int.reduceLT, Int.reduceLE, Nat.reduceLeDiff, List.reduceReplicate, reduceCtorEq, evRange, Nat.reduceLT, drcs, drc, flat, encEvs]; done)) flLitI ?_
  rw [effE_clsI q3]
  simp -dsimp (disch := first | omega | decide +kernel) only [↓bp0, bd0, bd_LX, reduceIte, Nat.reduceEqDiff, evStore, Nat.reduceAdd, Nat.reduceMul, Int.reduceEq, Int.reduceLT, Int.reduceLE, Nat.reduceLeDiff, List.reduceReplicate, reduceCtorEq, evRange, Nat.reduceLT, retQ, resL, finL, newL, flat, tupOf, List.toList_toArray, Tryz.f100]
  exact ⟨.rfl', .rfl', trivial⟩
end Go.Ab
end

section
/- The reference: After. -/
set_option maxRecDepth 100000
set_option maxHeartbeats 8000000
namespace Go.Ab
open Go Go.Proofs
theorem bd_LXa : type_of% (And.intro @evNext.eq_1 (And.intro @fld (And.intro @nit (And.intro @nxE (And.intro @ovR (And.intro @evBin_seql (And.intro @evBin_sneq (And.intro @str.eq_1 (And.intro @u8.eq_1 (And.intro @encBrs.eq_1 (And.intro @cBr.eq_1 (And.intro @encLdg.eq_1 (And.intro @encKws.eq_1 (And.intro @cKw.eq_1 (And.intro @encEvss.eq_1 (And.intro @encEvs.eq_1 (And.intro @cEv.eq_1 (And.intro @encMks.eq_1 (And.intro @cMk.eq_1 (And.intro @tk2 (And.intro @tk3 (And.intro @List.set_cons_succ.{0} (And.intro @List.getElem?_cons_zero.{0} (And.intro @List.getElem?_cons_succ.{0} (@List.length_set.{0}))))))))))))))))))))))))) := And.intro @evNext.eq_1 (And.intro @fld (And.intro @nit (And.intro @nxE (And.intro @ovR (And.intro @evBin_seql (And.intro @evBin_sneq (And.intro @str.eq_1 (And.intro @u8.eq_1 (And.intro @encBrs.eq_1 (And.intro @cBr.eq_1 (And.intro @encLdg.eq_1 (And.intro @encKws.eq_1 (And.intro @cKw.eq_1 (And.intro @encEvss.eq_1 (And.intro @encEvs.eq_1 (And.intro @cEv.eq_1 (And.intro @encMks.eq_1 (And.intro @cMk.eq_1 (And.intro @tk2 (And.intro @tk3 (And.intro @List.set_cons_succ.{0} (And.intro @List.getElem?_cons_zero.{0} (And.intro @List.getElem?_cons_succ.{0} (@List.length_set.{0}))))))))))))))))))))))))
theorem r_After (l : Ldg) (n : Str) (k : Int) (hz : LSz l) (hn : LNm l) : CallSpec cx 59 [encLdg l, str n, i64 k] (.tup [newI (laft l n k).1, i64 (laft l n k).2]) := by
  refine callSpec_of_vc Tryz.func59 rfl (by decide) (by kernel_rfl) (Nat.le_of_ble_eq_true rfl) ?_
  try simp -dsimp (disch := first | omega | decide +kernel) only [↓bp0, bd0, bd_LXa, reduceIte, Nat.reduceEqDiff, evStore, Nat.reduceAdd, Nat.reduceMul, Int.reduceEq, Int.reduceLT, Int.reduceLE, Nat.reduceLeDiff, List.reduceReplicate, reduceCtorEq, evRange, Nat.reduceLT, Tryz.f59]
  refine CallQ.imm (r_lView l n hz hn) (by rfl) (by rfl) (by first | exact .inl rfl | exact .inr rfl | exact .inr scalB | exact .inr scalI | exact .inr scalT | exact .inr scalM | exact .inr scalMT | exact .inr scalE) ?_
  cases h0 : decide ((lview l n).2 = 0)
  · simp -dsimp (disch := first | omega | decide +kernel) only [↓bp0, bd0, bd_LXa, reduceIte, Nat.reduceEqDiff, evStore, Nat.reduceAdd, Nat.reduceMul, Int.reduceEq, Int.reduceLT, Int.reduceLE, Nat.reduceLeDiff, List.reduceReplicate, reduceCtorEq, evRange, Nat.reduceLT, retQ, resL, finL, newL, flat, tupOf, List.toList_toArray, Tryz.f59, h0]
    rw [laft, if_pos (of_decide_eq_false h0)]
    exact ⟨.inr ⟨rfl, 1, rfl⟩, .rfl', trivial⟩
  have h0' := of_decide_eq_true h0
  obtain ⟨q1, q2, q3, q4⟩ := fold_pre h0'
  rw [laft, if_neg (by rw [Decidable.not_not]; exact h0')]
  have hsl : (seenE l (lview l n).1).length = (lview l n).1.length := by simp [seenE]
  have htk : ∀ k : Nat, seenE l ((lview l n).1.take k) = (seenE l (lview l n).1).take k := fun k => seenE_take _ _ _
  generalize (lview l n).1.length = len at q4 hsl ⊢
  cases h1 : decide (k < 0)
  case true =>
    simp -dsimp (disch := first | omega | decide +kernel) only [↓bp0, bd0, bd_LXa, reduceIte, Nat.reduceEqDiff, evStore, Nat.reduceAdd, Nat.reduceMul, Int.reduceEq, Int.reduceLT, Int.reduceLE, Nat.reduceLeDiff, List.reduceReplicate, reduceCtorEq, evRange, Nat.reduceLT, retQ, resL, finL, newL, flat, tupOf, List.toList_toArray, Tryz.f59, h0, h1]
    rw [if_pos (.inl (of_decide_eq_true h1))]
    exact ⟨.inr ⟨rfl, 1, rfl⟩, .rfl', trivial⟩
  cases h2 : decide ((len : Int) < k)
  case true =>
    rw [← hsl] at h2
    simp -dsimp (disch := first | omega | decide +kernel) only [↓bp0, bd0, bd_LXa, reduceIte, Nat.reduceEqDiff, evStore, Nat.reduceAdd, Nat.reduceMul, Int.reduceEq, Int.reduceLT, Int.reduceLE, Nat.reduceLeDiff, List.reduceReplicate, reduceCtorEq, evRange, Nat.reduceLT, retQ, resL, finL, newL, flat, tupOf, List.toList_toArray, Tryz.f59, h0, h1, h2]
    rw [hsl] at h2
    rw [if_pos (.inr (of_decide_eq_true h2))]
    exact ⟨.inr ⟨rfl, 1, rfl⟩, .rfl', trivial⟩
  have h1' := of_decide_eq_false h1
  have h2' := of_decide_eq_false h2
  rw [if_neg (by rw [not_or]; exact ⟨h1', h2'⟩)]
  obtain ⟨k, rfl⟩ : ∃ m : Nat, k = m := ⟨k.toNat, by omega⟩
  rw [Int.toNat_natCast, htk]
  rw [← hsl] at h2
  generalize seenE l (lview l n).1 = s at q3 hsl h2 ⊢
  have hkl : k ≤ s.length := by omega
  have hdt : List.drop 0 (List.take k (s.map cEv)) = (s.take k).map cEv := by rw [List.drop_zero, List.map_take]
  have hdt2 : List.take k (s.map cEv) = (s.take k).map cEv := by rw [List.map_take]
  try simp -dsimp (disch := first | omega | decide +kernel) only [↓bp0, bd0, bd_LXa, reduceIte, Nat.reduceEqDiff, evStore, Nat.reduceAdd, Nat.reduceMul, Int.reduceEq, Int.reduceLT, Int.reduceLE, Nat.reduceLeDiff, List.reduceReplicate, reduceCtorEq, evRange, Nat.reduceLT, h0, h1, h2]
  first | refine vc_text (by kernel_rfl) ?_ | skip
  try simp -dsimp (disch := first | omega | decide +kernel) only [↓bp0, bd0, bd_LXa, reduceIte, Nat.reduceEqDiff, evStore, Nat.reduceAdd, Nat.reduceMul, Int.reduceEq, Int.reduceLT, Int.reduceLE, Nat.reduceLeDiff, List.reduceReplicate, reduceCtorEq, evRange, Nat.reduceLT, hkl, evSlice, slc, allEv, Bool.false_and, hdt, hdt2]
  refine CallY.q 4 rfl (by kernel_rfl) ?_
  refine CallQ.thaw (r_effect l (s.take k) hz.known (by rw [List.length_take]; omega)) (by rfl) (by first | rfl | (simp -dsimp (disch := first | omega | decide +kernel) only [↓bp0, bd0, bd_LXa, reduceIte, Nat.reduceEqDiff, evStore, Nat.reduceAdd, Nat.reduceMul, Int.reduceEq, Int.reduceLT, Int.reduceLE, Nat.reduceLeDiff, List.reduceReplicate, reduceCtorEq, evRange, Nat.reduceLT, drcs, drc, flat, encEvs]; done)) flLitI ?_
  rw [effE_clsI fun e he => q3 e (List.mem_of_mem_take he)]
  simp -dsimp (disch := first | omega | decide +kernel) only [↓bp0, bd0, bd_LXa, reduceIte, Nat.reduceEqDiff, evStore, Nat.reduceAdd, Nat.reduceMul, Int.reduceEq, Int.reduceLT, Int.reduceLE, Nat.reduceLeDiff, List.reduceReplicate, reduceCtorEq, evRange, Nat.reduceLT, retQ, resL, finL, newL, flat, tupOf, List.toList_toArray, Tryz.f59]
  exact ⟨.rfl', .rfl', trivial⟩
end Go.Ab
end
