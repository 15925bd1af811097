/- The state with which own events begin. -/
import Derived.Test.YtgcodedanljhpaaGreatDoorLM
set_option linter.unusedSimpArgs false
set_option linter.unusedVariables false
set_option maxRecDepth 100000
set_option maxHeartbeats 8000000
namespace Go.Ab
open Go Go.Proofs
theorem bd_LN : type_of% (And.intro @evNext.eq_1 (And.intro @fld (And.intro @nit (And.intro @nxE (And.intro @ovR (And.intro @evBin_seql (And.intro @evBin_sneq (And.intro @str.eq_1 (And.intro @u8.eq_1 (And.intro @encBrs.eq_1 (And.intro @cBr.eq_1 (And.intro @encLdg.eq_1 (And.intro @encKws.eq_1 (And.intro @cKw.eq_1 (And.intro @encEvss.eq_1 (And.intro @encEvs.eq_1 (And.intro @cEv.eq_1 (And.intro @encMks.eq_1 (And.intro @cMk.eq_1 (And.intro @tk2 (And.intro @tk3 (And.intro @List.set_cons_succ.{0} (And.intro @List.getElem?_cons_zero.{0} (And.intro @List.getElem?_cons_succ.{0} (@List.length_set.{0}))))))))))))))))))))))))) := And.intro @evNext.eq_1 (And.intro @fld (And.intro @nit (And.intro @nxE (And.intro @ovR (And.intro @evBin_seql (And.intro @evBin_sneq (And.intro @str.eq_1 (And.intro @u8.eq_1 (And.intro @encBrs.eq_1 (And.intro @cBr.eq_1 (And.intro @encLdg.eq_1 (And.intro @encKws.eq_1 (And.intro @cKw.eq_1 (And.intro @encEvss.eq_1 (And.intro @encEvs.eq_1 (And.intro @cEv.eq_1 (And.intro @encMks.eq_1 (And.intro @cMk.eq_1 (And.intro @tk2 (And.intro @tk3 (And.intro @List.set_cons_succ.{0} (And.intro @List.getElem?_cons_zero.{0} (And.intro @List.getElem?_cons_succ.{0} (@List.length_set.{0}))))))))))))))))))))))))
theorem tok_fits {l : List Br} {cs : List Int} (h : bfits l cs = 0) : TOk l cs := by
  have hv := vok_of h
  refine ⟨?_, hv.len, hv.cnt⟩
  apply Classical.byContradiction
  intro hc
  rw [bfits, if_pos hc] at h
  exact hc h
theorem bview_at {l : List Br} {cs : List Int} (h : bfits l cs = 0) {i : Nat} {b : Br} (hb : l[i]? = some b) : bview l cs b.name = (vw l cs i, 0) := by
  have := (tok_fits h).uniq hb
  rw [bview, if_neg (by rw [Decidable.not_not]; exact h), if_neg (by omega), this]; rfl
theorem allMk {l : List (Nat × Nat)} : ((l.map cMk).all fun e => e.length == 2) = true := by
  rw [List.all_eq_true]; intro e he; obtain ⟨b, _, rfl⟩ := List.mem_map.1 he; rfl
theorem d_begin (l : Ldg) (h : POk l) (i : Nat) (b : Br) (hb : l.brs[i]? = some b) (hk : ∀ e ∈ preE l i, (clsOf l.known e.chg).isSome = true) (kvs : List (Value × PV × Nat)) (hM : ClsM l.known kvs)
    (σ : Store) (nx idm ck : Nat) (hm : σ idm = some (.map kvs ck false)) : StSpec cx 147 [encLdg l, .mp idm, i64 i] σ nx (StQ (cls0 l.known) (preE l i) σ nx) := by
  refine StSpec.fresh (by kernel_rfl) fun hfr => ?_
  have hidm : idm < nx := by
    rcases Nat.lt_or_ge idm nx with h1 | h1
    · exact h1
    · rw [hfr idm h1] at hm; cases hm
  have hv := h.vok
  have hbn := bview_at h.fits hb
  obtain ⟨p, hp⟩ : ∃ p : Nat, b.pos = p := ⟨b.pos.toNat, by have := hv.at_ i b hb; omega⟩
  have hi := (List.getElem?_eq_some_iff.1 hb).1
  obtain ⟨b', c', hb', hc', hc0', _⟩ := hv.at hi
  rw [hb] at hb'; cases hb'
  have hlen := hv.length i hi hb hc'
  have hple : p ≤ (vw l.brs (cnts l) i).length := by omega
  have hpre : preE l i = seenE l ((vw l.brs (cnts l) i).take p) := by rw [preE, hb]; simp only [hp, Int.toNat_natCast]
  have hmem := hv.take_mem hb
  rw [hp, Int.toNat_natCast] at hmem
  rw [hpre] at hk ⊢
  have hvl : ((vw l.brs (cnts l) i).take p).length ≤ 2^40 := by rw [List.length_take]; have := hv.at_ i b hb; omega
  have hdt : List.drop 0 (List.take p ((vw l.brs (cnts l) i).map cMk)) = ((vw l.brs (cnts l) i).take p).map cMk := by rw [List.drop_zero, List.map_take]
  have hcl : (cnts l).length ≤ 9223372036854775807 := by rw [h.cnt, h.len]; have := hv.le8; omega
  have hbl : l.brs.length ≤ 9223372036854775807 := by have := hv.le8; omega
  have hel : l.evs.length ≤ 2^40 := by rw [h.len]; have := hv.le8; omega
  have hes : ∀ s ∈ l.evs, s.length ≤ 2^40 := fun s hs => by have := h.evs s hs; omega
  generalize hV : (vw l.brs (cnts l) i).take p = v at hk hmem hvl hdt
  refine stSpec_of_vc Tryz.func147 rfl (by decide) (by kernel_rfl) (Nat.le_of_ble_eq_true rfl) ?_
  try simp -dsimp (disch := first | omega | decide +kernel) only [↓bp0, bd0, bd_LN, reduceIte, Nat.reduceEqDiff, evStore, Nat.reduceAdd, Nat.reduceMul, Int.reduceEq, Int.reduceLT, Int.reduceLE, Nat.reduceLeDiff, List.reduceReplicate, reduceCtorEq, evRange, Nat.reduceLT, Tryz.f147, tzSt, onesSt]
  refine vc_text (by kernel_rfl) ?_
  try simp -dsimp (disch := first | omega | decide +kernel) only [↓bp0, bd0, bd_LN, reduceIte, Nat.reduceEqDiff, evStore, Nat.reduceAdd, Nat.reduceMul, Int.reduceEq, Int.reduceLT, Int.reduceLE, Nat.reduceLeDiff, List.reduceReplicate, reduceCtorEq, evRange, Nat.reduceLT, hb]
  refine CallY.imm (d_counts l hel hes) (by rfl) (by rfl) (by first | exact .inl rfl | exact .inr rfl | exact .inr scalB | exact .inr scalI | exact .inr scalT | exact .inr scalM | exact .inr scalMT) ?_
  try simp -dsimp (disch := first | omega | decide +kernel) only [↓bp0, bd0, bd_LN, reduceIte, Nat.reduceEqDiff, evStore, Nat.reduceAdd, Nat.reduceMul, Int.reduceEq, Int.reduceLT, Int.reduceLE, Nat.reduceLeDiff, List.reduceReplicate, reduceCtorEq, evRange, Nat.reduceLT, hb]
  refine CallY.imm (d_View l.brs (cnts l) b.name hbl hcl) (by rfl) (by rfl) (by first | exact .inl rfl | exact .inr rfl | exact .inr scalB | exact .inr scalI | exact .inr scalT | exact .inr scalM | exact .inr scalMT) ?_
  try simp -dsimp (disch := first | omega | decide +kernel) only [↓bp0, bd0, bd_LN, reduceIte, Nat.reduceEqDiff, evStore, Nat.reduceAdd, Nat.reduceMul, Int.reduceEq, Int.reduceLT, Int.reduceLE, Nat.reduceLeDiff, List.reduceReplicate, reduceCtorEq, evRange, Nat.reduceLT, hbn, newMks, hb, hp, hple, evSlice, slc, allMk, Bool.false_and, hdt]
  have hmm : ∀ (k : Nat), k ≤ v.length → (seenE l v).length = v.length := fun _ _ => by simp [seenE]
  refine LoopQ.rule (fun m st => ∃ (k nx' : Nat), k ≤ v.length ∧ nx + 2 ≤ nx' ∧ m = v.length - k ∧
    st = ⟨mkE [(1, .mp idm), (3, .ptr nx 0 0 0), (7, .ptr (nx + 1) 0 0 0), (35, encMks v), (36, i64 v.length), (37, i64 k)],
      ovS [(nx, .row 0 3 [[encKws l.known, encBrs l.brs, encEvss l.evs]] false), (nx + 1, .row 0 60 [stC (cls0 l.known) ((seenE l v).take k)] false)] σ, nx'⟩) _ _ ?_
    ⟨0, _, by omega, Nat.le_refl _, rfl, rfl⟩ ?_
  · refine weak_ofV hfr (by first | (simp -dsimp (disch := first | omega | decide +kernel) only [↓bp0, bd0, bd_LN, reduceIte, Nat.reduceEqDiff, evStore, Nat.reduceAdd, Nat.reduceMul, Int.reduceEq, Int.reduceLT, Int.reduceLE, Nat.reduceLeDiff, List.reduceReplicate, reduceCtorEq, evRange, Nat.reduceLT, stC_nil, List.take_zero]; done) | simp -dsimp [evl, putN, i64, u32, bl, encL, encB, encLL, stC_nil, List.take_zero]) (by first | (simp -dsimp (disch := first | omega | decide +kernel) only [↓bp0, bd0, bd_LN, reduceIte, Nat.reduceEqDiff, evStore, Nat.reduceAdd, Nat.reduceMul, Int.reduceEq, Int.reduceLT, Int.reduceLE, Nat.reduceLeDiff, List.reduceReplicate, reduceCtorEq, evRange, Nat.reduceLT, stC_nil, List.take_zero]; done) | simp -dsimp [evl, putN, i64, u32, bl, encL, encB, encLL, stC_nil, List.take_zero]) (by (try simp -dsimp only [st_put_σ]); repeat (first | exact Agr.rfl' | refine Agr.put ?_ (by omega) | exact Agr.ov (by simp only [geL]; omega))) (by first | (simp -dsimp (disch := first | omega | decide +kernel) only [↓bp0, bd0, bd_LN, reduceIte, Nat.reduceEqDiff, evStore, Nat.reduceAdd, Nat.reduceMul, Int.reduceEq, Int.reduceLT, Int.reduceLE, Nat.reduceLeDiff, List.reduceReplicate, reduceCtorEq, evRange, Nat.reduceLT, stC_nil, List.take_zero]; done) | simp -dsimp [evl, putN, i64, u32, bl, encL, encB, encLL, stC_nil, List.take_zero])
  rintro m st ⟨k, nx', hkl, hid, rfl, rfl⟩
  have hE0 : (idm = nx) = False := by simp; omega
  have hE0r : (nx = idm) = False := by simp; omega
  have hE1 : (idm = nx + 1) = False := by simp; omega
  have hE1r : (nx + 1 = idm) = False := by simp; omega
  have hE2 : (idm = nx') = False := by simp; omega
  have hE2r : (nx' = idm) = False := by simp; omega
  have hE3 : (nx = nx') = False := by simp; omega
  have hE3r : (nx' = nx) = False := by simp; omega
  have hE4 : (nx + 1 = nx') = False := by simp; omega
  have hE4r : (nx' = nx + 1) = False := by simp; omega
  have hE5 : (idm = nx' + 1) = False := by simp; omega
  have hE5r : (nx' + 1 = idm) = False := by simp; omega
  have hE6 : (nx = nx' + 1) = False := by simp; omega
  have hE6r : (nx' + 1 = nx) = False := by simp; omega
  try simp -dsimp (disch := first | omega | decide +kernel) only [↓bp0, bd0, bd_LN, reduceIte, Nat.reduceEqDiff, evStore, Nat.reduceAdd, Nat.reduceMul, Int.reduceEq, Int.reduceLT, Int.reduceLE, Nat.reduceLeDiff, List.reduceReplicate, reduceCtorEq, evRange, Nat.reduceLT]
  refine onC_nlt (fun h2 => ?_) (fun h2 => ?_)
  · obtain ⟨⟨j, e⟩, hx, hxm⟩ := get_of_lt h2
    obtain ⟨_, c0, hc0, hlt⟩ := hmem _ hxm
    obtain ⟨own, x, hj, he, hev, hxo⟩ := evAt_get hc0 hlt
    simp only at hj he
    have hsx : (seenE l v)[k]? = some x := by simp only [seenE, List.getElem?_map, hx, Option.map_some, hev]
    have hfp := hM.find h.nodup (hk x (List.mem_of_getElem? hsx))
    obtain ⟨c, hc, hc30⟩ := h.cls x.chg
    rw [hc] at hfp
    have hts := take_succ hsx
    try simp -dsimp (disch := first | omega | decide +kernel) only [↓bp0, bd0, bd_LN, reduceIte, Nat.reduceEqDiff, evStore, Nat.reduceAdd, Nat.reduceMul, Int.reduceEq, Int.reduceLT, Int.reduceLE, Nat.reduceLeDiff, List.reduceReplicate, reduceCtorEq, evRange, Nat.reduceLT, hx, hE0, hE0r, hE1, hE1r, hE2, hE2r, hE3, hE3r, hE4, hE4r, hE5, hE5r, hE6, hE6r]
    refine vc_regJ (fun τ => τ nx = some (.row 0 3 [[encKws l.known, encBrs l.brs, encEvss l.evs]] false) ∧ τ nx' = some (.row 0 2 [cMk (j, e)] false)) [0, 1, 2, 3, 4, 5, 6, 7, 8, 9] [] (by kernel_rfl) (by kernel_rfl) ?_ ?_
    · exact ⟨(by simp -dsimp (disch := first | omega | decide +kernel) only [↓bp0, bd0, bd_LN, reduceIte, Nat.reduceEqDiff, evStore, Nat.reduceAdd, Nat.reduceMul, Int.reduceEq, Int.reduceLT, Int.reduceLE, Nat.reduceLeDiff, List.reduceReplicate, reduceCtorEq, evRange, Nat.reduceLT, hE0, hE0r, hE1, hE1r, hE2, hE2r, hE3, hE3r, hE4, hE4r, hE5, hE5r, hE6, hE6r]), (by simp -dsimp (disch := first | omega | decide +kernel) only [↓bp0, bd0, bd_LN, reduceIte, Nat.reduceEqDiff, evStore, Nat.reduceAdd, Nat.reduceMul, Int.reduceEq, Int.reduceLT, Int.reduceLE, Nat.reduceLeDiff, List.reduceReplicate, reduceCtorEq, evRange, Nat.reduceLT, hE0, hE0r, hE1, hE1r, hE2, hE2r, hE3, hE3r, hE4, hE4r, hE5, hE5r, hE6, hE6r])⟩
    try simp -dsimp (disch := first | omega | decide +kernel) only [↓bp0, bd0, bd_LN, reduceIte, Nat.reduceEqDiff, evStore, Nat.reduceAdd, Nat.reduceMul, Int.reduceEq, Int.reduceLT, Int.reduceLE, Nat.reduceLeDiff, List.reduceReplicate, reduceCtorEq, evRange, Nat.reduceLT, vcj, implies_true, hE0, hE0r, hE1, hE1r, hE2, hE2r, hE3, hE3r, hE4, hE4r, hE5, hE5r, hE6, hE6r]
    refine ⟨fun τ hτ => by simp -dsimp (disch := first | omega | decide +kernel) only [↓bp0, bd0, bd_LN, reduceIte, Nat.reduceEqDiff, evStore, Nat.reduceAdd, Nat.reduceMul, Int.reduceEq, Int.reduceLT, Int.reduceLE, Nat.reduceLeDiff, List.reduceReplicate, reduceCtorEq, evRange, Nat.reduceLT, hτ.1], ?_⟩
    try simp -dsimp (disch := first | omega | decide +kernel) only [↓bp0, bd0, bd_LN, reduceIte, Nat.reduceEqDiff, evStore, Nat.reduceAdd, Nat.reduceMul, Int.reduceEq, Int.reduceLT, Int.reduceLE, Nat.reduceLeDiff, List.reduceReplicate, reduceCtorEq, evRange, Nat.reduceLT, vcj, implies_true, hE0, hE0r, hE1, hE1r, hE2, hE2r, hE3, hE3r, hE4, hE4r, hE5, hE5r, hE6, hE6r]
    refine ⟨fun τ hτ => by simp -dsimp (disch := first | omega | decide +kernel) only [↓bp0, bd0, bd_LN, reduceIte, Nat.reduceEqDiff, evStore, Nat.reduceAdd, Nat.reduceMul, Int.reduceEq, Int.reduceLT, Int.reduceLE, Nat.reduceLeDiff, List.reduceReplicate, reduceCtorEq, evRange, Nat.reduceLT, hτ.2], ?_⟩
    try simp -dsimp (disch := first | omega | decide +kernel) only [↓bp0, bd0, bd_LN, reduceIte, Nat.reduceEqDiff, evStore, Nat.reduceAdd, Nat.reduceMul, Int.reduceEq, Int.reduceLT, Int.reduceLE, Nat.reduceLeDiff, List.reduceReplicate, reduceCtorEq, evRange, Nat.reduceLT, vcj, implies_true, hj, hE0, hE0r, hE1, hE1r, hE2, hE2r, hE3, hE3r, hE4, hE4r, hE5, hE5r, hE6, hE6r]
    refine ⟨fun τ hτ => by simp -dsimp (disch := first | omega | decide +kernel) only [↓bp0, bd0, bd_LN, reduceIte, Nat.reduceEqDiff, evStore, Nat.reduceAdd, Nat.reduceMul, Int.reduceEq, Int.reduceLT, Int.reduceLE, Nat.reduceLeDiff, List.reduceReplicate, reduceCtorEq, evRange, Nat.reduceLT, hτ.2], ?_⟩
    try simp -dsimp (disch := first | omega | decide +kernel) only [↓bp0, bd0, bd_LN, reduceIte, Nat.reduceEqDiff, evStore, Nat.reduceAdd, Nat.reduceMul, Int.reduceEq, Int.reduceLT, Int.reduceLE, Nat.reduceLeDiff, List.reduceReplicate, reduceCtorEq, evRange, Nat.reduceLT, vcj, implies_true, hj, he, hE0, hE0r, hE1, hE1r, hE2, hE2r, hE3, hE3r, hE4, hE4r, hE5, hE5r, hE6, hE6r]
    try simp -dsimp (disch := first | omega | decide +kernel) only [↓bp0, bd0, bd_LN, reduceIte, Nat.reduceEqDiff, evStore, Nat.reduceAdd, Nat.reduceMul, Int.reduceEq, Int.reduceLT, Int.reduceLE, Nat.reduceLeDiff, List.reduceReplicate, reduceCtorEq, evRange, Nat.reduceLT, hx, hj, he, hE0, hE0r, hE1, hE1r, hE2, hE2r, hE3, hE3r, hE4, hE4r, hE5, hE5r, hE6, hE6r, hm, evLookup, keyS, hfp]
    refine CallQ.inm (d_put (cls0 l.known) ((seenE l v).take k) x c hc hc30 _ _ (nx + 1) 0 (by simp -dsimp (disch := first | omega | decide +kernel) only [↓bp0, bd0, bd_LN, reduceIte, Nat.reduceEqDiff, evStore, Nat.reduceAdd, Nat.reduceMul, Int.reduceEq, Int.reduceLT, Int.reduceLE, Nat.reduceLeDiff, List.reduceReplicate, reduceCtorEq, evRange, Nat.reduceLT, hE0, hE0r, hE1, hE1r, hE2, hE2r, hE3, hE3r, hE4, hE4r, hE5, hE5r, hE6, hE6r])) (by rfl) ?_
    rintro r σ' nx2 ⟨rfl, rfl, rfl⟩
    rw [← hts]
    try simp -dsimp (disch := first | omega | decide +kernel) only [↓bp0, bd0, bd_LN, reduceIte, Nat.reduceEqDiff, evStore, Nat.reduceAdd, Nat.reduceMul, Int.reduceEq, Int.reduceLT, Int.reduceLE, Nat.reduceLeDiff, List.reduceReplicate, reduceCtorEq, evRange, Nat.reduceLT]
    refine ⟨_, _, ?_, ?_, k + 1, nx' + 2, h2, by omega, rfl, rfl⟩
    · omega
    · refine weak_ofV hfr (by first | (simp -dsimp (disch := first | omega | decide +kernel) only [↓bp0, bd0, bd_LN, reduceIte, Nat.reduceEqDiff, evStore, Nat.reduceAdd, Nat.reduceMul, Int.reduceEq, Int.reduceLT, Int.reduceLE, Nat.reduceLeDiff, List.reduceReplicate, reduceCtorEq, evRange, Nat.reduceLT, hE0, hE0r, hE1, hE1r, hE2, hE2r, hE3, hE3r, hE4, hE4r, hE5, hE5r, hE6, hE6r, wrapS h2 (show v.length ≤ 9223372036854775807 by omega)]; done) | simp -dsimp [evl, putN, i64, u32, bl, encL, encB, encLL, hE0, hE0r, hE1, hE1r, hE2, hE2r, hE3, hE3r, hE4, hE4r, hE5, hE5r, hE6, hE6r, wrapS h2 (show v.length ≤ 9223372036854775807 by omega)]) (by first | (simp -dsimp (disch := first | omega | decide +kernel) only [↓bp0, bd0, bd_LN, reduceIte, Nat.reduceEqDiff, evStore, Nat.reduceAdd, Nat.reduceMul, Int.reduceEq, Int.reduceLT, Int.reduceLE, Nat.reduceLeDiff, List.reduceReplicate, reduceCtorEq, evRange, Nat.reduceLT, hE0, hE0r, hE1, hE1r, hE2, hE2r, hE3, hE3r, hE4, hE4r, hE5, hE5r, hE6, hE6r, wrapS h2 (show v.length ≤ 9223372036854775807 by omega)]; done) | simp -dsimp [evl, putN, i64, u32, bl, encL, encB, encLL, hE0, hE0r, hE1, hE1r, hE2, hE2r, hE3, hE3r, hE4, hE4r, hE5, hE5r, hE6, hE6r, wrapS h2 (show v.length ≤ 9223372036854775807 by omega)]) (by (try simp -dsimp only [st_put_σ]); repeat (first | exact Agr.rfl' | refine Agr.put ?_ (by omega) | exact Agr.ov (by simp only [geL]; omega))) (by first | (simp -dsimp (disch := first | omega | decide +kernel) only [↓bp0, bd0, bd_LN, reduceIte, Nat.reduceEqDiff, evStore, Nat.reduceAdd, Nat.reduceMul, Int.reduceEq, Int.reduceLT, Int.reduceLE, Nat.reduceLeDiff, List.reduceReplicate, reduceCtorEq, evRange, Nat.reduceLT, hE0, hE0r, hE1, hE1r, hE2, hE2r, hE3, hE3r, hE4, hE4r, hE5, hE5r, hE6, hE6r, wrapS h2 (show v.length ≤ 9223372036854775807 by omega)]; done) | simp -dsimp [evl, putN, i64, u32, bl, encL, encB, encLL, hE0, hE0r, hE1, hE1r, hE2, hE2r, hE3, hE3r, hE4, hE4r, hE5, hE5r, hE6, hE6r, wrapS h2 (show v.length ≤ 9223372036854775807 by omega)])
  · have hkv : k = v.length := by omega
    have htk : (seenE l v).take k = seenE l v := List.take_of_length_le (by simp [seenE]; omega)
    rw [htk]
    simp -dsimp (disch := first | omega | decide +kernel) only [↓bp0, bd0, bd_LN, reduceIte, Nat.reduceEqDiff, evStore, Nat.reduceAdd, Nat.reduceMul, Int.reduceEq, Int.reduceLT, Int.reduceLE, Nat.reduceLeDiff, List.reduceReplicate, reduceCtorEq, evRange, Nat.reduceLT, stQ, resL, tupOf, List.toList_toArray, Tryz.f147]
    exact ⟨_, _, weakσ_of hfr (by simp -dsimp (disch := first | omega | decide +kernel) only [↓bp0, bd0, bd_LN, reduceIte, Nat.reduceEqDiff, evStore, Nat.reduceAdd, Nat.reduceMul, Int.reduceEq, Int.reduceLT, Int.reduceLE, Nat.reduceLeDiff, List.reduceReplicate, reduceCtorEq, evRange, Nat.reduceLT, hE0, hE0r, hE1, hE1r, hE2, hE2r, hE3, hE3r, hE4, hE4r, hE5, hE5r, hE6, hE6r]) (by (try simp -dsimp only [st_put_σ]); repeat (first | exact Agr.rfl' | refine Agr.put ?_ (by omega) | exact Agr.ov (by simp only [geL]; omega))) (Nat.le_refl _), nx + 1, 0, by omega, by omega, rfl, rfl⟩
end Go.Ab
