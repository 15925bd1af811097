/- The error of a ledger. -/
import Derived.Test.YtgcodedanljhpaaDoorLN
set_option linter.unusedSimpArgs false
set_option linter.unusedVariables false
section
set_option maxRecDepth 100000
set_option maxHeartbeats 8000000
namespace Go.Ab
open Go Go.Proofs
theorem bd_LO : type_of% (And.intro @evNext.eq_1 (And.intro @fld (And.intro @nit (And.intro @nxE (And.intro @ovR (And.intro @evBin_seql (And.intro @evBin_sneq (And.intro @str.eq_1 (And.intro @u8.eq_1 (And.intro @encBrs.eq_1 (And.intro @cBr.eq_1 (And.intro @encLdg.eq_1 (And.intro @encKws.eq_1 (And.intro @cKw.eq_1 (And.intro @encEvss.eq_1 (And.intro @encEvs.eq_1 (And.intro @cEv.eq_1 (And.intro @encMks.eq_1 (And.intro @cMk.eq_1 (And.intro @tk2 (And.intro @tk3 (And.intro @List.set_cons_succ.{0} (And.intro @List.getElem?_cons_zero.{0} (And.intro @List.getElem?_cons_succ.{0} (@List.length_set.{0}))))))))))))))))))))))))) := And.intro @evNext.eq_1 (And.intro @fld (And.intro @nit (And.intro @nxE (And.intro @ovR (And.intro @evBin_seql (And.intro @evBin_sneq (And.intro @str.eq_1 (And.intro @u8.eq_1 (And.intro @encBrs.eq_1 (And.intro @cBr.eq_1 (And.intro @encLdg.eq_1 (And.intro @encKws.eq_1 (And.intro @cKw.eq_1 (And.intro @encEvss.eq_1 (And.intro @encEvs.eq_1 (And.intro @cEv.eq_1 (And.intro @encMks.eq_1 (And.intro @cMk.eq_1 (And.intro @tk2 (And.intro @tk3 (And.intro @List.set_cons_succ.{0} (And.intro @List.getElem?_cons_zero.{0} (And.intro @List.getElem?_cons_succ.{0} (@List.length_set.{0}))))))))))))))))))))))))
theorem runB_snoc_false {known : List Kw} {pre own : List Ev} {k : Nat} {x : Ev} (hx : own[k]? = some x) (h : ¬ ((clsOf known x.chg).isSome = true ∧ alw (cls0 known) (pre ++ own.take k) x = 0)) : runB known pre own = false := by
  rw [← Bool.not_eq_true, runB_iff]
  exact fun hr => h (hr k x hx)
theorem preE_known {l : Ldg} (h : POk l) {i : Nat} (hi : i < l.brs.length) (hr : ∀ (j : Nat) own, j < i → l.evs[j]? = some own → runB l.known (preE l j) own = true) : ∀ e ∈ preE l i, (clsOf l.known e.chg).isSome = true := by
  intro e he
  have hb : l.brs[i]? = some l.brs[i] := List.getElem?_eq_getElem hi
  rw [preE, hb] at he
  obtain ⟨m, hm, rfl⟩ := List.mem_map.1 he
  obtain ⟨hlt, c, hc, hc2⟩ := h.vok.take_mem hb m hm
  obtain ⟨own, x, h1, h2, h3, h4⟩ := evAt_get hc hc2
  rw [h3]
  exact (runB_iff.1 (hr m.1 own hlt h1) m.2 x h2).1
theorem flSt {f : Str → Int} {es : List Ev} : (stC f es).all flat = true := by
  rw [List.all_eq_true]; intro p hp; obtain ⟨b, _, rfl⟩ := List.mem_map.1 hp; rfl
theorem d_lCheck (l : Ldg) (hkl : l.known.length ≤ 2^40) (hbl : l.brs.length ≤ 2^40) (hel : l.evs.length ≤ 2^40) (hes : ∀ s ∈ l.evs, s.length ≤ 2^40) : CallSpec cx 22 [encLdg l] (i64 (lchk l)) := by
  refine callSpec_of_vc Tryd.func22 rfl (by decide) (by kernel_rfl) (Nat.le_of_ble_eq_true rfl) ?_
  have e0 : lchk l = lchk l := rfl
  cases h30 : decide ((30 : Int) < l.known.length)
  case true =>
    simp -dsimp (disch := omega) only [↓bp0, bd0, bd_LO, evStore, evRange, retQ, resL, finL, newL, flat, tupOf, List.toList_toArray, Tryd.f22, h30, simprocAttr]
    refine leT_one (int_eq ?_) (by simp)
    have := of_decide_eq_true h30
    rw [lchk, if_pos (by omega)]
  have h30' := of_decide_eq_false h30
  try simp -dsimp (disch := omega) only [↓bp0, bd0, bd_LO, evStore, evRange, Tryd.f22, h30, simprocAttr]
  refine CallQ.inm (d_classes l hkl _ _) (by rfl) ?_
  rintro r σ' nx1 ⟨idm, kvs, ck, hm1, hm2, rfl, rfl, hM⟩
  have hm1' : 1 ≤ idm := hm1
  have hG1 : (idm = 0) = False := by simp; omega
  have hG2 : (0 = idm) = False := by simp; omega
  cases hlt : decide ((kvs.length : Int) < l.known.length)
  case true =>
    simp -dsimp (disch := omega) only [↓bp0, bd0, bd_LO, evStore, evRange, retQ, resL, finL, newL, flat, tupOf, List.toList_toArray, Tryd.f22, hG1, hG2, hlt, simprocAttr]
    refine leT_one (int_eq ?_) (by simp)
    have h1 := of_decide_eq_true hlt
    have h2 : nodupB l.known = false := by
      rw [← Bool.not_eq_true, ← hM.nodup]; omega
    rw [lchk, if_neg (by omega), if_pos h2]
  have hnd : nodupB l.known = true := hM.nodup.1 (by have := of_decide_eq_false hlt; have := hM.le; omega)
  have e1 : lchk l = if l.known.any kwB then 8 else if bchk l.brs ≠ 0 then bchk l.brs
      else if l.evs.length ≠ l.brs.length then 2 else if (l.evs.any fun s => decide (40 < s.length)) = true then 4 else if bfits l.brs (cnts l) ≠ 0 then bfits l.brs (cnts l)
      else if anyI (fun i own => !runB l.known (preE l i) own) l.evs then 8 else 0 := by
    rw [lchk, if_neg (by omega), if_neg (by rw [hnd]; simp)]
  try simp -dsimp (disch := omega) only [↓bp0, bd0, bd_LO, evStore, evRange, hG1, hG2, hlt, simprocAttr]
  refine LoopQ.rule (fun m st => ∃ (i nx : Nat), i ≤ l.known.length ∧ idm < nx ∧ ((l.known.take i).any kwB) = false ∧ m = l.known.length - i ∧
    st = ⟨mkE [(1, .ptr 0 0 0 0), (3, .mp idm), (28, encKws l.known), (29, i64 l.known.length), (30, i64 i)], mkS [(0, .row 0 3 [[encKws l.known, encBrs l.brs, encEvss l.evs]] false), (idm, .map kvs ck false)], nx⟩) _ _ (weak_of ?_)
    ⟨0, nx1, by omega, hm2, by simp, rfl, rfl⟩ ?_
  · first | (simp -dsimp (disch := omega) only [↓bp0, bd0, bd_LO, evStore, evRange, hG1, hG2, simprocAttr]; done) | simp -dsimp [evl, putN, i64, u32, bl, encL, encB, encLL, hG1, hG2]
  rintro m st ⟨i, nx, hi, hnx, hpre, rfl, rfl⟩
  have hE1_0a : (idm = 0) = False := by simp; omega
  have hE1_0b : (0 = idm) = False := by simp; omega
  have hE1_1a : (idm = nx) = False := by simp; omega
  have hE1_1b : (nx = idm) = False := by simp; omega
  have hE1_2a : (idm = nx + 1) = False := by simp; omega
  have hE1_2b : (nx + 1 = idm) = False := by simp; omega
  have hE1_3a : (nx = 0) = False := by simp; omega
  have hE1_3b : (0 = nx) = False := by simp; omega
  try simp -dsimp (disch := omega) only [↓bp0, bd0, bd_LO, evStore, evRange, simprocAttr]
  refine onC_nlt (fun h2 => ?_) (fun h2 => ?_)
  · obtain ⟨k, hx, hxm⟩ := get_of_lt h2
    have htk := take_succ hx
    have hbad : kwB k = true → lchk l = 8 := fun h => by rw [e1, if_pos (List.any_eq_true.2 ⟨k, hxm, h⟩)]
    have hgo : kwB k = false → ((l.known.take (i + 1)).any kwB) = false := fun h => by rw [htk, List.any_append, hpre]; simp [h]
    try simp -dsimp (disch := omega) only [↓bp0, bd0, bd_LO, evStore, evRange, hx, hE1_0a, hE1_0b, hE1_1a, hE1_1b, hE1_2a, hE1_2b, hE1_3a, hE1_3b, simprocAttr]
    refine CallQ.imm (d_lName k.chg) (by rfl) (by first | rfl | (simp -dsimp (disch := omega) only [↓bp0, bd0, bd_LO, evStore, evRange, drcs, drc, flat, simprocAttr]; done) | simp -dsimp [evl, drcs, drc, flat, i64, u32, bl, encL, encB, encLL]) (by first | exact .inl rfl | exact .inr rfl | exact .inr scalB | exact .inr scalI | exact .inr scalT | exact .inr scalM | exact .inr scalMT) ?_
    cases hn : nameB k.chg
    · simp -dsimp (disch := omega) only [↓bp0, bd0, bd_LO, evStore, evRange, retQ, resL, finL, newL, flat, tupOf, List.toList_toArray, Tryd.f22, hn, uUn, Option.bind_some, hE1_0a, hE1_0b, hE1_1a, hE1_1b, hE1_2a, hE1_2b, hE1_3a, hE1_3b, simprocAttr]
      exact leT_one (int_eq (hbad (by simp [kwB, hn])).symm) (by simp)
    cases hc0 : decide (k.cls < 0)
    case true =>
      simp -dsimp (disch := omega) only [↓bp0, bd0, bd_LO, evStore, evRange, retQ, resL, finL, newL, flat, tupOf, List.toList_toArray, Tryd.f22, hn, hc0, uUn, Option.bind_some, hE1_0a, hE1_0b, hE1_1a, hE1_1b, hE1_2a, hE1_2b, hE1_3a, hE1_3b, simprocAttr]
      exact leT_one (int_eq (hbad (by simp [kwB, hn, hc0])).symm) (by simp)
    cases hc1 : decide ((30 : Int) ≤ k.cls)
    case true =>
      simp -dsimp (disch := omega) only [↓bp0, bd0, bd_LO, evStore, evRange, retQ, resL, finL, newL, flat, tupOf, List.toList_toArray, Tryd.f22, hn, hc0, hc1, uUn, Option.bind_some, hE1_0a, hE1_0b, hE1_1a, hE1_1b, hE1_2a, hE1_2b, hE1_3a, hE1_3b, simprocAttr]
      exact leT_one (int_eq (hbad (by simp [kwB, hn, hc0, hc1])).symm) (by simp)
    try simp -dsimp (disch := omega) only [↓bp0, bd0, bd_LO, evStore, evRange, hn, hc0, hc1, uUn, Option.bind_some, hE1_0a, hE1_0b, hE1_1a, hE1_1b, hE1_2a, hE1_2b, hE1_3a, hE1_3b, simprocAttr]
    refine ⟨_, _, ?_, weak_of ?_, i + 1, nx + 1, h2, by omega, hgo (by simp [kwB, hn, hc0, hc1]), rfl, rfl⟩
    · omega
    · first | (simp -dsimp (disch := omega) only [↓bp0, bd0, bd_LO, evStore, evRange, wrapS h2 (show l.known.length ≤ 9223372036854775807 by omega), hE1_0a, hE1_0b, hE1_1a, hE1_1b, hE1_2a, hE1_2b, hE1_3a, hE1_3b, simprocAttr]; done) | simp -dsimp [evl, putN, i64, u32, bl, encL, encB, encLL, wrapS h2 (show l.known.length ≤ 9223372036854775807 by omega), hE1_0a, hE1_0b, hE1_1a, hE1_1b, hE1_2a, hE1_2b, hE1_3a, hE1_3b]
  have hkw : l.known.any kwB = false := by rw [List.take_of_length_le (by omega)] at hpre; exact hpre
  have e2 : lchk l = if bchk l.brs ≠ 0 then bchk l.brs
      else if l.evs.length ≠ l.brs.length then 2 else if (l.evs.any fun s => decide (40 < s.length)) = true then 4 else if bfits l.brs (cnts l) ≠ 0 then bfits l.brs (cnts l)
      else if anyI (fun i own => !runB l.known (preE l i) own) l.evs then 8 else 0 := by rw [e1, if_neg (by rw [hkw]; simp)]
  try simp -dsimp (disch := omega) only [↓bp0, bd0, bd_LO, evStore, evRange, hE1_0a, hE1_0b, hE1_1a, hE1_1b, hE1_2a, hE1_2b, hE1_3a, hE1_3b, simprocAttr]
  refine CallQ.imm (d_Check l.brs (by omega)) (by rfl) (by first | rfl | (simp -dsimp (disch := omega) only [↓bp0, bd0, bd_LO, evStore, evRange, drcs, drc, flat, simprocAttr]; done) | simp -dsimp [evl, drcs, drc, flat, i64, u32, bl, encL, encB, encLL]) (by first | exact .inl rfl | exact .inr rfl | exact .inr scalB | exact .inr scalI | exact .inr scalT | exact .inr scalM | exact .inr scalMT) ?_
  cases hb0 : decide (bchk l.brs = 0)
  · simp -dsimp (disch := omega) only [↓bp0, bd0, bd_LO, evStore, evRange, retQ, resL, finL, newL, flat, tupOf, List.toList_toArray, Tryd.f22, hb0, hE1_0a, hE1_0b, hE1_1a, hE1_1b, hE1_2a, hE1_2b, hE1_3a, hE1_3b, simprocAttr]
    refine leT_one (int_eq ?_) (by simp)
    rw [e2, if_pos (of_decide_eq_false hb0)]
  have hb0' := of_decide_eq_true hb0
  cases hle : decide ((l.evs.length : Int) = l.brs.length)
  · have h1 := of_decide_eq_false hle
    simp -dsimp (disch := omega) only [↓bp0, bd0, bd_LO, evStore, evRange, retQ, resL, finL, newL, flat, tupOf, List.toList_toArray, Tryd.f22, hb0, hle, hE1_0a, hE1_0b, hE1_1a, hE1_1b, hE1_2a, hE1_2b, hE1_3a, hE1_3b, simprocAttr]
    refine leT_one (int_eq ?_) (by simp)
    rw [e2, if_neg (by rw [Decidable.not_not]; exact hb0'), if_pos (by omega)]
  have hle' : l.evs.length = l.brs.length := by have := of_decide_eq_true hle; omega
  have e3 : lchk l = if (l.evs.any fun s => decide (40 < s.length)) = true then 4 else if bfits l.brs (cnts l) ≠ 0 then bfits l.brs (cnts l)
      else if anyI (fun i own => !runB l.known (preE l i) own) l.evs then 8 else 0 := by rw [e2, if_neg (by rw [Decidable.not_not]; exact hb0'), if_neg (by omega)]
  try simp -dsimp (disch := omega) only [↓bp0, bd0, bd_LO, evStore, evRange, hb0, hle, hE1_0a, hE1_0b, hE1_1a, hE1_1b, hE1_2a, hE1_2b, hE1_3a, hE1_3b, simprocAttr]
  refine CallQ.imm (le_contains l.evs (by omega) 53 [] rfl _ fun s _ => d_lCheck1 s) (by rfl) (by first | rfl | (simp -dsimp (disch := omega) only [↓bp0, bd0, bd_LO, evStore, evRange, drcs, drc, flat, simprocAttr]; done) | simp -dsimp [evl, drcs, drc, flat, i64, u32, bl, encL, encB, encLL]) (by first | exact .inl rfl | exact .inr rfl | exact .inr scalB | exact .inr scalI | exact .inr scalT | exact .inr scalM | exact .inr scalMT) ?_
  cases h40 : l.evs.any fun s => decide (40 < s.length)
  case true =>
    simp -dsimp (disch := omega) only [↓bp0, bd0, bd_LO, evStore, evRange, retQ, resL, finL, newL, flat, tupOf, List.toList_toArray, Tryd.f22, h40, hE1_0a, hE1_0b, hE1_1a, hE1_1b, hE1_2a, hE1_2b, hE1_3a, hE1_3b, simprocAttr]
    refine leT_one (int_eq ?_) (by simp)
    rw [e3, if_pos h40]
  have e4 : lchk l = if bfits l.brs (cnts l) ≠ 0 then bfits l.brs (cnts l) else if anyI (fun i own => !runB l.known (preE l i) own) l.evs then 8 else 0 := by rw [e3, if_neg (by rw [h40]; simp)]
  try simp -dsimp (disch := omega) only [↓bp0, bd0, bd_LO, evStore, evRange, h40, hE1_0a, hE1_0b, hE1_1a, hE1_1b, hE1_2a, hE1_2b, hE1_3a, hE1_3b, simprocAttr]
  refine vc_text (by kernel_rfl) ?_
  try simp -dsimp (disch := omega) only [↓bp0, bd0, bd_LO, evStore, evRange, hE1_0a, hE1_0b, hE1_1a, hE1_1b, hE1_2a, hE1_2b, hE1_3a, hE1_3b, simprocAttr]
  refine CallY.imm (d_counts l (by omega) hes) (by rfl) (by first | rfl | (simp -dsimp (disch := omega) only [↓bp0, bd0, bd_LO, evStore, evRange, drcs, drc, flat, simprocAttr]; done) | simp -dsimp [evl, drcs, drc, flat, i64, u32, bl, encL, encB, encLL]) (by first | exact .inl rfl | exact .inr rfl | exact .inr scalB | exact .inr scalI | exact .inr scalT | exact .inr scalM | exact .inr scalMT) ?_
  try simp -dsimp (disch := omega) only [↓bp0, bd0, bd_LO, evStore, evRange, hE1_0a, hE1_0b, hE1_1a, hE1_1b, hE1_2a, hE1_2b, hE1_3a, hE1_3b, simprocAttr]
  refine CallY.imm (d_Fits l.brs (cnts l) (by omega) (by simp [cnts]; omega)) (by rfl) (by first | rfl | (simp -dsimp (disch := omega) only [↓bp0, bd0, bd_LO, evStore, evRange, drcs, drc, flat, newI, encL, simprocAttr]; done) | simp -dsimp [evl, drcs, drc, flat, i64, u32, bl, encL, encB, encLL]) (by first | exact .inl rfl | exact .inr rfl | exact .inr scalB | exact .inr scalI | exact .inr scalT | exact .inr scalM | exact .inr scalMT) ?_
  cases hf0 : decide (bfits l.brs (cnts l) = 0)
  · simp -dsimp (disch := omega) only [↓bp0, bd0, bd_LO, evStore, evRange, retQ, resL, finL, newL, flat, tupOf, List.toList_toArray, Tryd.f22, hf0, hE1_0a, hE1_0b, hE1_1a, hE1_1b, hE1_2a, hE1_2b, hE1_3a, hE1_3b, simprocAttr]
    refine leT_one (int_eq ?_) (by simp)
    rw [e4, if_pos (of_decide_eq_false hf0)]
  have hf0' := of_decide_eq_true hf0
  have e5 : lchk l = if anyI (fun i own => !runB l.known (preE l i) own) l.evs then 8 else 0 := by rw [e4, if_neg (by rw [Decidable.not_not]; exact hf0')]
  have hP : POk l := ⟨by omega, hnd, hkw, hle', fun s hs => by have := List.any_eq_false.1 h40 s hs; simpa using this, hf0'⟩
  try simp -dsimp (disch := omega) only [↓bp0, bd0, bd_LO, evStore, evRange, hf0, hE1_0a, hE1_0b, hE1_1a, hE1_1b, hE1_2a, hE1_2b, hE1_3a, hE1_3b, simprocAttr]
  refine LoopQ.rule (fun m st => ∃ (i nx : Nat), i ≤ l.evs.length ∧ idm < nx ∧ (∀ (j : Nat) own, j < i → l.evs[j]? = some own → runB l.known (preE l j) own = true) ∧ m = l.evs.length - i ∧
    st = ⟨mkE [(1, .ptr 0 0 0 0), (3, .mp idm), (74, encEvss l.evs), (75, i64 l.evs.length), (76, i64 i)], mkS [(0, .row 0 3 [[encKws l.known, encBrs l.brs, encEvss l.evs]] false), (idm, .map kvs ck false)], nx⟩) _ _ (weak_of ?_)
    ⟨0, nx, by omega, by omega, fun _ _ h => by omega, rfl, rfl⟩ ?_
  · first | (simp -dsimp (disch := omega) only [↓bp0, bd0, bd_LO, evStore, evRange, hE1_0a, hE1_0b, hE1_1a, hE1_1b, hE1_2a, hE1_2b, hE1_3a, hE1_3b, simprocAttr]; done) | simp -dsimp [evl, putN, i64, u32, bl, encL, encB, encLL, hE1_0a, hE1_0b, hE1_1a, hE1_1b, hE1_2a, hE1_2b, hE1_3a, hE1_3b]
  clear hpre hi h2 hnx
  rintro m st ⟨i, nx, hi, hnx, hpre, rfl, rfl⟩
  have hE2_0a : (idm = 0) = False := by simp; omega
  have hE2_0b : (0 = idm) = False := by simp; omega
  have hE2_1a : (idm = nx) = False := by simp; omega
  have hE2_1b : (nx = idm) = False := by simp; omega
  have hE2_2a : (idm = nx + 1) = False := by simp; omega
  have hE2_2b : (nx + 1 = idm) = False := by simp; omega
  have hE2_3a : (nx = 0) = False := by simp; omega
  have hE2_3b : (0 = nx) = False := by simp; omega
  try simp -dsimp (disch := omega) only [↓bp0, bd0, bd_LO, evStore, evRange, simprocAttr]
  refine onC_nlt (fun h2 => ?_) (fun h2 => ?_)
  rotate_left
  · simp -dsimp (disch := omega) only [↓bp0, bd0, bd_LO, evStore, evRange, retQ, resL, finL, newL, flat, tupOf, List.toList_toArray, Tryd.f22, hE2_0a, hE2_0b, hE2_1a, hE2_1b, hE2_2a, hE2_2b, hE2_3a, hE2_3b, simprocAttr]
    refine leT_one (int_eq ?_) (by simp)
    rw [e5, if_neg]
    rw [Bool.not_eq_true, anyI_false]
    intro j own hj
    rw [hpre j own (by have := (List.getElem?_eq_some_iff.1 hj).1; omega) hj]; rfl
  obtain ⟨own, hx, hxm⟩ := get_of_lt h2
  have hib : i < l.brs.length := by omega
  have hb : l.brs[i]? = some l.brs[i] := List.getElem?_eq_getElem hib
  have hk := preE_known hP hib hpre
  have ho40 := hP.evs own hxm
  have hbad : runB l.known (preE l i) own = false → lchk l = 8 := fun h => by rw [e5, if_pos (anyI_iff.2 ⟨i, own, hx, by rw [h]; rfl⟩)]
  try simp -dsimp (disch := omega) only [↓bp0, bd0, bd_LO, evStore, evRange, hx, hE2_0a, hE2_0b, hE2_1a, hE2_1b, hE2_2a, hE2_2b, hE2_3a, hE2_3b, simprocAttr]
  refine CallQ.inm (d_begin l hP i _ hb hk kvs hM _ _ idm ck (by simp -dsimp (disch := omega) only [↓bp0, bd0, bd_LO, evStore, evRange, hE2_0a, hE2_0b, hE2_1a, hE2_1b, hE2_2a, hE2_2b, hE2_3a, hE2_3b, simprocAttr])) (by rfl) ?_
  rintro r σ' nx2 ⟨ids, ver, hs1, hs2, rfl, rfl⟩
  have hs1' : nx ≤ ids := hs1
  have hE3_0a : (idm = 0) = False := by simp; omega
  have hE3_0b : (0 = idm) = False := by simp; omega
  have hE3_1a : (ids = 0) = False := by simp; omega
  have hE3_1b : (0 = ids) = False := by simp; omega
  have hE3_2a : (ids = idm) = False := by simp; omega
  have hE3_2b : (idm = ids) = False := by simp; omega
  try simp -dsimp (disch := omega) only [↓bp0, bd0, bd_LO, evStore, evRange, hE3_0a, hE3_0b, hE3_1a, hE3_1b, hE3_2a, hE3_2b, simprocAttr]
  refine LoopQ.rule (fun m st => ∃ (k ver ny : Nat), k ≤ own.length ∧ ids < ny ∧ (∀ (q : Nat) x, q < k → own[q]? = some x → (clsOf l.known x.chg).isSome = true ∧ alw (cls0 l.known) (preE l i ++ own.take q) x = 0) ∧ m = own.length - k ∧
    st = ⟨mkE [(1, .ptr 0 0 0 0), (3, .mp idm), (74, encEvss l.evs), (75, i64 l.evs.length), (76, i64 i), (10, .ptr ids ver 0 0), (85, encEvs own), (86, i64 own.length), (87, i64 k)],
      mkS [(0, .row 0 3 [[encKws l.known, encBrs l.brs, encEvss l.evs]] false), (idm, .map kvs ck false), (ids, .row ver 60 [stC (cls0 l.known) (preE l i ++ own.take k)] false)], ny⟩) _ _ (weak_of ?_)
    ⟨0, ver, nx2, by omega, hs2, fun _ _ h => by omega, rfl, rfl⟩ ?_
  · first | (simp -dsimp (disch := omega) only [↓bp0, bd0, bd_LO, evStore, evRange, hE3_0a, hE3_0b, hE3_1a, hE3_1b, hE3_2a, hE3_2b, List.take_zero, List.append_nil, simprocAttr]; done) | simp -dsimp [evl, putN, i64, u32, bl, encL, encB, encLL, hE3_0a, hE3_0b, hE3_1a, hE3_1b, hE3_2a, hE3_2b, List.take_zero, List.append_nil]
  rintro m st ⟨k, ver, ny, hkl, hny, hrun, rfl, rfl⟩
  have hE4_0a : (idm = 0) = False := by simp; omega
  have hE4_0b : (0 = idm) = False := by simp; omega
  have hE4_1a : (ids = 0) = False := by simp; omega
  have hE4_1b : (0 = ids) = False := by simp; omega
  have hE4_2a : (ids = idm) = False := by simp; omega
  have hE4_2b : (idm = ids) = False := by simp; omega
  have hE4_3a : (ids = ny) = False := by simp; omega
  have hE4_3b : (ny = ids) = False := by simp; omega
  have hE4_4a : (idm = ny) = False := by simp; omega
  have hE4_4b : (ny = idm) = False := by simp; omega
  have hE4_5a : (ny = 0) = False := by simp; omega
  have hE4_5b : (0 = ny) = False := by simp; omega
  try simp -dsimp (disch := omega) only [↓bp0, bd0, bd_LO, evStore, evRange, hE4_0a, hE4_0b, hE4_1a, hE4_1b, hE4_2a, hE4_2b, hE4_3a, hE4_3b, hE4_4a, hE4_4b, hE4_5a, hE4_5b, simprocAttr]
  refine onC_nlt (fun h3 => ?_) (fun h3 => ?_)
  rotate_left
  · have hall : runB l.known (preE l i) own = true := runB_iff.2 fun q x hq => hrun q x (by have := (List.getElem?_eq_some_iff.1 hq).1; omega) hq
    try simp -dsimp (disch := omega) only [↓bp0, bd0, bd_LO, evStore, evRange, hE4_0a, hE4_0b, hE4_1a, hE4_1b, hE4_2a, hE4_2b, hE4_3a, hE4_3b, hE4_4a, hE4_4b, hE4_5a, hE4_5b, simprocAttr]
    refine ⟨_, _, ?_, weak_of ?_, i + 1, ny, h2, by omega, ?_, rfl, rfl⟩
    · omega
    · first | (simp -dsimp (disch := omega) only [↓bp0, bd0, bd_LO, evStore, evRange, hE4_0a, hE4_0b, hE4_1a, hE4_1b, hE4_2a, hE4_2b, hE4_3a, hE4_3b, hE4_4a, hE4_4b, hE4_5a, hE4_5b, wrapS h2 (show l.evs.length ≤ 9223372036854775807 by omega), simprocAttr]; done) | simp -dsimp [evl, putN, i64, u32, bl, encL, encB, encLL, hE4_0a, hE4_0b, hE4_1a, hE4_1b, hE4_2a, hE4_2b, hE4_3a, hE4_3b, hE4_4a, hE4_4b, hE4_5a, hE4_5b, wrapS h2 (show l.evs.length ≤ 9223372036854775807 by omega)]
    · intro j own' hj hj'
      by_cases e : j = i
      · subst e; rw [hx] at hj'; cases hj'; exact hall
      · exact hpre j own' (by omega) hj'
  obtain ⟨x, hxk, hxkm⟩ := get_of_lt h3
  have hfp : findP .string (.string x.chg) kvs = some ((clsLast l.known x.chg).map fun n => .lit (.int .i64 n)) := hM.map x.chg
  rw [cls_nodup hnd] at hfp
  cases hcl : clsOf l.known x.chg with
  | none =>
    rw [hcl] at hfp
    simp -dsimp (disch := omega) only [↓bp0, bd0, bd_LO, evStore, evRange, retQ, resL, finL, newL, flat, tupOf, List.toList_toArray, Tryd.f22, hxk, hE4_0a, hE4_0b, hE4_1a, hE4_1b, hE4_2a, hE4_2b, hE4_3a, hE4_3b, hE4_4a, hE4_4b, hE4_5a, hE4_5b, evLookup, keyS, hfp, Option.map_none, uUn, Option.bind_some, simprocAttr]
    refine leT_one (int_eq (hbad (runB_snoc_false hxk fun h => ?_)).symm) (by simp)
    rw [hcl] at h; cases h.1
  | some n =>
    rw [hcl] at hfp
    obtain ⟨c, hc, hc30⟩ := hP.cls x.chg
    have hn : n = (c : Int) := by rw [← hc, cls0, hcl]; rfl
    subst hn
    try simp -dsimp (disch := omega) only [↓bp0, bd0, bd_LO, evStore, evRange, hxk, hE4_0a, hE4_0b, hE4_1a, hE4_1b, hE4_2a, hE4_2b, hE4_3a, hE4_3b, hE4_4a, hE4_4b, hE4_5a, hE4_5b, evLookup, keyS, hfp, Option.map_some, uUn, Option.bind_some, simprocAttr]
    refine CallQ.imm (d_allow (cls0 l.known) (preE l i ++ own.take k) x.kind c hc30) (by rfl) (by first | rfl | (simp -dsimp (disch := omega) only [↓bp0, bd0, bd_LO, evStore, evRange, drcs, drc, flat, flSt, List.drop_zero, hE4_0a, hE4_0b, hE4_1a, hE4_1b, hE4_2a, hE4_2b, hE4_3a, hE4_3b, hE4_4a, hE4_4b, hE4_5a, hE4_5b, simprocAttr]; done) | simp -dsimp [evl, drcs, drc, flat, i64, u32, bl, encL, encB, encLL]) (by first | exact .inl rfl | exact .inr rfl | exact .inr scalB | exact .inr scalI | exact .inr scalT | exact .inr scalM | exact .inr scalMT) ?_
    have hal : alw (cls0 l.known) (preE l i ++ own.take k) x = alwC (cls0 l.known) (preE l i ++ own.take k) x.kind c := by simp only [alw, hc]
    cases ha : decide (alwC (cls0 l.known) (preE l i ++ own.take k) x.kind c = 0)
    · simp -dsimp (disch := omega) only [↓bp0, bd0, bd_LO, evStore, evRange, retQ, resL, finL, newL, flat, tupOf, List.toList_toArray, Tryd.f22, ha, hE4_0a, hE4_0b, hE4_1a, hE4_1b, hE4_2a, hE4_2b, hE4_3a, hE4_3b, hE4_4a, hE4_4b, hE4_5a, hE4_5b, simprocAttr]
      refine leT_one (int_eq (hbad (runB_snoc_false hxk fun h => ?_)).symm) (by simp)
      exact of_decide_eq_false ha (hal ▸ h.2)
    try simp -dsimp (disch := omega) only [↓bp0, bd0, bd_LO, evStore, evRange, ha, hE4_0a, hE4_0b, hE4_1a, hE4_1b, hE4_2a, hE4_2b, hE4_3a, hE4_3b, hE4_4a, hE4_4b, hE4_5a, hE4_5b, simprocAttr]
    refine CallQ.inm (d_put (cls0 l.known) (preE l i ++ own.take k) x c hc hc30 _ _ ids ver (by simp -dsimp (disch := omega) only [↓bp0, bd0, bd_LO, evStore, evRange, hE4_0a, hE4_0b, hE4_1a, hE4_1b, hE4_2a, hE4_2b, hE4_3a, hE4_3b, hE4_4a, hE4_4b, hE4_5a, hE4_5b, simprocAttr])) (by rfl) ?_
    rintro r σ' nx2 ⟨rfl, rfl, rfl⟩
    rw [List.append_assoc, ← take_succ hxk]
    try simp -dsimp (disch := omega) only [↓bp0, bd0, bd_LO, evStore, evRange, hE4_0a, hE4_0b, hE4_1a, hE4_1b, hE4_2a, hE4_2b, hE4_3a, hE4_3b, hE4_4a, hE4_4b, hE4_5a, hE4_5b, simprocAttr]
    refine ⟨_, _, ?_, weak_of ?_, k + 1, ver, ny + 1, h3, by omega, ?_, rfl, rfl⟩
    · omega
    · first | (simp -dsimp (disch := omega) only [↓bp0, bd0, bd_LO, evStore, evRange, hE4_0a, hE4_0b, hE4_1a, hE4_1b, hE4_2a, hE4_2b, hE4_3a, hE4_3b, hE4_4a, hE4_4b, hE4_5a, hE4_5b, wrapS h3 (show own.length ≤ 9223372036854775807 by omega), simprocAttr]; done) | simp -dsimp [evl, putN, i64, u32, bl, encL, encB, encLL, hE4_0a, hE4_0b, hE4_1a, hE4_1b, hE4_2a, hE4_2b, hE4_3a, hE4_3b, hE4_4a, hE4_4b, hE4_5a, hE4_5b, wrapS h3 (show own.length ≤ 9223372036854775807 by omega)]
    · intro q y hq hy
      by_cases e : q = k
      · subst e; rw [hxk] at hy; cases hy
        exact ⟨by rw [hcl]; rfl, by rw [hal]; exact of_decide_eq_true ha⟩
      · exact hrun q y (by omega) hy
end Go.Ab
end

section
/- What is in effect. -/
set_option maxRecDepth 100000
set_option maxHeartbeats 8000000
namespace Go.Ab
open Go Go.Proofs
theorem bd_LP : type_of% (And.intro @evNext.eq_1 (And.intro @fld (And.intro @nit (And.intro @nxE (And.intro @ovR (And.intro @evBin_seql (And.intro @evBin_sneq (And.intro @str.eq_1 (And.intro @u8.eq_1 (And.intro @encBrs.eq_1 (And.intro @cBr.eq_1 (And.intro @encLdg.eq_1 (And.intro @encKws.eq_1 (And.intro @cKw.eq_1 (And.intro @encEvss.eq_1 (And.intro @encEvs.eq_1 (And.intro @cEv.eq_1 (And.intro @encMks.eq_1 (And.intro @cMk.eq_1 (And.intro @tk2 (And.intro @tk3 (And.intro @List.set_cons_succ.{0} (And.intro @List.getElem?_cons_zero.{0} (And.intro @List.getElem?_cons_succ.{0} (@List.length_set.{0}))))))))))))))))))))))))) := And.intro @evNext.eq_1 (And.intro @fld (And.intro @nit (And.intro @nxE (And.intro @ovR (And.intro @evBin_seql (And.intro @evBin_sneq (And.intro @str.eq_1 (And.intro @u8.eq_1 (And.intro @encBrs.eq_1 (And.intro @cBr.eq_1 (And.intro @encLdg.eq_1 (And.intro @encKws.eq_1 (And.intro @cKw.eq_1 (And.intro @encEvss.eq_1 (And.intro @encEvs.eq_1 (And.intro @cEv.eq_1 (And.intro @encMks.eq_1 (And.intro @cMk.eq_1 (And.intro @tk2 (And.intro @tk3 (And.intro @List.set_cons_succ.{0} (And.intro @List.getElem?_cons_zero.{0} (And.intro @List.getElem?_cons_succ.{0} (@List.length_set.{0}))))))))))))))))))))))))
structure LSz (l : Ldg) : Prop where
  known : l.known.length ≤ 2^40
  brs : l.brs.length ≤ 2^40
  evs : l.evs.length ≤ 2^40
  ev : ∀ s ∈ l.evs, s.length ≤ 2^40
theorem LOk.pok {l : Ldg} (h : LOk l) : POk l := ⟨h.known, h.nodup, h.kw, h.len, h.evs, h.fits⟩
theorem cnts_len (l : Ldg) : (cnts l).length = l.evs.length := by simp [cnts]
theorem flMk {l : List (Nat × Nat)} {n : Nat} (h : n = l.length) : List.take n (l.map cMk) = l.map cMk := List.take_of_length_le (by simp [h])
theorem d_lview (l : Ldg) (n : Str) (hz : LSz l) : CallSpec cx 63 [encLdg l, str n] (.tup [newMks (lview l n).1, i64 (lview l n).2]) := by
  refine callSpec_of_vc Tryd.func63 rfl (by decide) (by kernel_rfl) (Nat.le_of_ble_eq_true rfl) ?_
  try simp -dsimp (disch := omega) only [↓bp0, bd0, bd_LP, evStore, evRange, Tryd.f63, simprocAttr]
  refine CallQ.imm (d_lCheck l hz.known hz.brs hz.evs hz.ev) (by rfl) (by rfl) (by first | exact .inl rfl | exact .inr rfl | exact .inr scalB | exact .inr scalI | exact .inr scalT | exact .inr scalM | exact .inr scalMT) ?_
  cases h0 : decide (lchk l = 0)
  · simp -dsimp (disch := omega) only [↓bp0, bd0, bd_LP, evStore, evRange, retQ, resL, finL, newL, flat, tupOf, List.toList_toArray, Tryd.f63, h0, simprocAttr]
    rw [lview, if_pos (of_decide_eq_false h0)]
    exact ⟨.inr ⟨rfl, 2, rfl⟩, .rfl', trivial⟩
  have e1 : lview l n = bview l.brs (cnts l) n := by rw [lview, if_neg (by rw [Decidable.not_not]; exact of_decide_eq_true h0)]
  rw [e1]
  try simp -dsimp (disch := omega) only [↓bp0, bd0, bd_LP, evStore, evRange, h0, simprocAttr]
  refine vc_text (by kernel_rfl) ?_
  try simp -dsimp (disch := omega) only [↓bp0, bd0, bd_LP, evStore, evRange, simprocAttr]
  refine CallY.imm (d_counts l hz.evs hz.ev) (by rfl) (by rfl) (by first | exact .inl rfl | exact .inr rfl | exact .inr scalB | exact .inr scalI | exact .inr scalT | exact .inr scalM | exact .inr scalMT) ?_
  try simp -dsimp (disch := omega) only [↓bp0, bd0, bd_LP, evStore, evRange, simprocAttr]
  refine CallY.q 5 rfl (by kernel_rfl) ?_
  refine CallQ.thawT (d_View l.brs (cnts l) n (by have := hz.brs; omega) (by rw [cnts_len]; have := hz.evs; omega)) (by rfl) (by first | rfl | (simp -dsimp only [evl, drcs, drc, flat, newI, encL, encBrs, forget]; done)) (.inr (by simp only [List.all_cons, List.all_nil, Bool.and_true, scal1, newMks, i64, litM])) ?_
  simp -dsimp (disch := omega) only [↓bp0, bd0, bd_LP, evStore, evRange, retQ, resL, finL, newL, flat, tupOf, List.toList_toArray, Tryd.f63, thw, newMks, flM, List.length_map, flMk, simprocAttr]
  exact ⟨.rfl', .rfl', trivial⟩
theorem lview_ok {l : Ldg} {n : Str} (h : (lview l n).2 = 0) : LOk l ∧ ∃ i, i < l.brs.length ∧ idx l.brs n = i ∧ (lview l n).1 = vw l.brs (cnts l) i := by
  unfold lview at h ⊢
  by_cases h0 : lchk l = 0
  · have hok := lok_of h0
    rw [if_neg (by rw [Decidable.not_not]; exact h0)] at h ⊢
    unfold bview at h ⊢
    rw [if_neg (by rw [Decidable.not_not]; exact hok.fits)] at h ⊢
    split at h
    · cases h
    · rename_i h1
      obtain ⟨h2, h3⟩ := idx_nat (l := l.brs) (n := n) (by omega)
      rw [if_neg h1]
      exact ⟨hok, _, h3, h2, rfl⟩
  · rw [if_pos h0] at h; exact absurd h h0
theorem fold_pre {l : Ldg} {n : Str} (h : (lview l n).2 = 0) : POk l ∧ (∀ m ∈ (lview l n).1, ∃ c, (cnts l)[m.1]? = some c ∧ (m.2 : Int) < c) ∧ (∀ e ∈ seenE l (lview l n).1, (clsOf l.known e.chg).isSome = true) ∧ (lview l n).1.length ≤ 2^40 := by
  obtain ⟨hok, i, hi, _, e⟩ := lview_ok h
  obtain ⟨b, c, hb, hc, h0, h1⟩ := hok.vok.at hi
  rw [e]
  refine ⟨hok.pok, fun m hm => (hok.vok.mem i hi m hm).2, hok.seen_known hi, ?_⟩
  rw [hok.vok.length i hi hb hc]
  have := hok.vok.at_ i b hb
  omega
theorem d_Effect (l : Ldg) (n : Str) (hz : LSz l) : CallSpec cx 46 [encLdg l, str n] (.tup [newI (leff l n).1, i64 (leff l n).2]) := by
  refine callSpec_of_vc Tryd.func46 rfl (by decide) (by kernel_rfl) (Nat.le_of_ble_eq_true rfl) ?_
  try simp -dsimp (disch := omega) only [↓bp0, bd0, bd_LP, evStore, evRange, Tryd.f46, simprocAttr]
  refine CallQ.imm (d_lview l n hz) (by rfl) (by rfl) (by first | exact .inl rfl | exact .inr rfl | exact .inr scalB | exact .inr scalI | exact .inr scalT | exact .inr scalM | exact .inr scalMT) ?_
  cases h0 : decide ((lview l n).2 = 0)
  · simp -dsimp (disch := omega) only [↓bp0, bd0, bd_LP, evStore, evRange, retQ, resL, finL, newL, flat, tupOf, List.toList_toArray, Tryd.f46, h0, simprocAttr]
    rw [leff, if_pos (of_decide_eq_false h0)]
    exact ⟨.inr ⟨rfl, 1, rfl⟩, .rfl', trivial⟩
  have h0' := of_decide_eq_true h0
  obtain ⟨q1, q2, q3, q4⟩ := fold_pre h0'
  rw [leff, if_neg (by rw [Decidable.not_not]; exact h0')]
  generalize (lview l n).1 = v at q2 q3 q4 ⊢
  try simp -dsimp (disch := omega) only [↓bp0, bd0, bd_LP, evStore, evRange, h0, simprocAttr]
  refine CallQ.inm (d_folded l q1 v q2 q3 q4 _ _) (by rfl) ?_
  rintro r σ' nx1 ⟨id, ver, hs1, hs2, rfl, rfl⟩
  try simp -dsimp (disch := omega) only [↓bp0, bd0, bd_LP, evStore, evRange, simprocAttr]
  refine CallQ.thaw (d_list (cls0 l.known) (seenE l v)) (by rfl) (by first | rfl | (simp -dsimp (disch := omega) only [↓bp0, bd0, bd_LP, evStore, evRange, drcs, drc, flat, flSt, List.drop_zero, simprocAttr]; done)) flLitI ?_
  simp -dsimp (disch := omega) only [↓bp0, bd0, bd_LP, evStore, evRange, retQ, resL, finL, newL, flat, tupOf, List.toList_toArray, Tryd.f46, effE, simprocAttr]
  exact ⟨.rfl', .rfl', trivial⟩
end Go.Ab
end

section
/- The references' names, places and errors of tables. -/
set_option maxRecDepth 100000
set_option maxHeartbeats 8000000
namespace Go.Ab
open Go Go.Proofs
end Go.Ab
end

section
/- The reference's error of a table. -/
set_option maxRecDepth 100000
set_option maxHeartbeats 8000000
namespace Go.Ab
open Go Go.Proofs
end Go.Ab
end

section
/- The reference's views. -/
set_option maxRecDepth 100000
set_option maxHeartbeats 8000000
namespace Go.Ab
open Go Go.Proofs
def cVs (v : List (Nat × Nat)) : List PV := [.imm (v.map cMk) false]
def newVs (V : List (List (Nat × Nat))) : PV := .new 1 (V.map cVs)
end Go.Ab
end

section
/- The references of tables and events. -/
set_option maxRecDepth 100000
set_option maxHeartbeats 8000000
namespace Go.Ab
open Go Go.Proofs
end Go.Ab
end

section
/- The references of events. -/
set_option maxRecDepth 100000
set_option maxHeartbeats 8000000
namespace Go.Ab
open Go Go.Proofs
/-! ### the last event of a class -/
def LI (f : Str → Int) : List Ev → Int → Nat → Option Nat
  | [], _, _ => none
  | e :: r, c, o => match LI f r c (o + 1) with
    | some k => some k
    | none => if f e.chg = c then some o else none
def lastI (f : Str → Int) (es : List Ev) (c : Int) : Int := match LI f es c 0 with
  | some k => (k : Int)
  | none => -1
end Go.Ab
end

section
/- The reference's events of views, and its error of a ledger. -/
set_option maxRecDepth 100000
set_option maxHeartbeats 8000000
namespace Go.Ab
open Go Go.Proofs
def newEvs (es : List Ev) : PV := .new 2 (es.map cEv)
theorem scalE {l : List Ev} : scal (newEvs l) = true := by
  simp only [scal, scal1, newEvs, List.all_map, List.all_eq_true]
  intro x _; rfl
theorem flE {l : List Ev} : ((l.map cEv).all fun e => e.all flat) = true := by
  rw [List.all_eq_true]; intro e he; obtain ⟨b, _, rfl⟩ := List.mem_map.1 he; rfl
end Go.Ab
end
