/- The reference's error of a ledger. -/
import Derived.Test.YtgcodedanljhpaaGreatDoorMA
set_option linter.unusedSimpArgs false
set_option linter.unusedVariables false
section
set_option maxRecDepth 100000
set_option maxHeartbeats 8000000
namespace Go.Ab
open Go Go.Proofs
theorem bd_LW : type_of% (And.intro @evNext.eq_1 (And.intro @fld (And.intro @nit (And.intro @nxE (And.intro @ovR (And.intro @evBin_seql (And.intro @evBin_sneq (And.intro @str.eq_1 (And.intro @u8.eq_1 (And.intro @encBrs.eq_1 (And.intro @cBr.eq_1 (And.intro @encLdg.eq_1 (And.intro @encKws.eq_1 (And.intro @cKw.eq_1 (And.intro @encEvss.eq_1 (And.intro @encEvs.eq_1 (And.intro @cEv.eq_1 (And.intro @encMks.eq_1 (And.intro @cMk.eq_1 (And.intro @tk2 (And.intro @tk3 (And.intro @List.set_cons_succ.{0} (And.intro @List.getElem?_cons_zero.{0} (And.intro @List.getElem?_cons_succ.{0} (@List.length_set.{0}))))))))))))))))))))))))) := And.intro @evNext.eq_1 (And.intro @fld (And.intro @nit (And.intro @nxE (And.intro @ovR (And.intro @evBin_seql (And.intro @evBin_sneq (And.intro @str.eq_1 (And.intro @u8.eq_1 (And.intro @encBrs.eq_1 (And.intro @cBr.eq_1 (And.intro @encLdg.eq_1 (And.intro @encKws.eq_1 (And.intro @cKw.eq_1 (And.intro @encEvss.eq_1 (And.intro @encEvs.eq_1 (And.intro @cEv.eq_1 (And.intro @encMks.eq_1 (And.intro @cMk.eq_1 (And.intro @tk2 (And.intro @tk3 (And.intro @List.set_cons_succ.{0} (And.intro @List.getElem?_cons_zero.{0} (And.intro @List.getElem?_cons_succ.{0} (@List.length_set.{0}))))))))))))))))))))))))
structure LNm (l : Ldg) : Prop where
  brs : ∀ b ∈ l.brs, b.name.size ≤ 2^40
  known : ∀ k ∈ l.known, k.chg.size ≤ 2^40
theorem nodupB_left : ∀ (a b : List Kw), nodupB (a ++ b) = true → nodupB a = true
  | [], _, _ => rfl
  | k :: a, b, h => by
    simp only [List.cons_append, nodupB, Bool.and_eq_true, Bool.not_eq_true', List.any_append, Bool.or_eq_false_iff] at h ⊢
    exact ⟨h.1.1, nodupB_left a b h.2⟩
theorem nodupB_take {l : List Kw} (i : Nat) (h : nodupB l = true) : nodupB (l.take i) = true := nodupB_left _ (l.drop i) (by rw [List.take_append_drop]; exact h)
theorem nodupB_hit {l : List Kw} {k i : Nat} {a b : Kw} (hk : l[k]? = some a) (hi : l[i]? = some b) (hlt : k < i) (he : a.chg = b.chg) : nodupB l = false := by
  rw [← Bool.not_eq_true]
  intro h
  have h1 := nodupB_take (i + 1) h
  rw [take_succ hi, nodupB_snoc, Bool.and_eq_true, Bool.not_eq_true', List.any_eq_false] at h1
  refine h1.2 a (List.mem_of_getElem? (i := k) ?_) (decide_eq_true he)
  rw [List.getElem?_take, if_pos hlt]; exact hk
theorem own_get {i : Nat} {c : Int} {k : Nat} (h : (k : Int) < c) : (own i c)[k]? = some (i, k) := by
  rw [own, List.getElem?_map, List.getElem?_range (by omega)]; rfl
theorem seen_split {l : Ldg} (h : VOk l.brs (cnts l)) {i : Nat} {own : List Ev} (ho : l.evs[i]? = some own) (hi : i < l.brs.length) : seenE l (vw l.brs (cnts l) i) = preE l i ++ own := by
  obtain ⟨b, c, hb, hc, _⟩ := h.at hi
  have hc' : (cnts l)[i]? = some (own.length : Int) := by simp [cnts, ho]
  rw [hc] at hc'; cases hc'
  rw [h.split hb hc, preE, hb]
  simp only [seenE, List.map_append]
  congr 1
  apply List.ext_getElem?
  intro k
  rw [List.getElem?_map]
  rcases Nat.lt_or_ge k own.length with hk | hk
  · rw [own_get (by omega), Option.map_some, evAt, ho, Option.getD_some, List.getElem?_eq_getElem hk]; rfl
  · rw [List.getElem?_eq_none (by simp [Go.Ab.own]; omega), List.getElem?_eq_none hk]; rfl
theorem clsI_neg {known : List Kw} (h : known.any kwB = false) (c : Str) : clsI known c < 0 ↔ clsOf known c = none := by
  unfold clsI
  cases hc : clsOf known c with
  | none => simp
  | some n =>
    obtain ⟨k, h1, _, rfl⟩ := clsOf_mem hc
    have := List.any_eq_false.1 h k h1
    simp only [kwB, Bool.or_eq_true, decide_eq_true_eq, not_or] at this
    simp only [Option.getD_some]
    constructor
    · intro h; omega
    · intro h; cases h
theorem allEv {l : List Ev} : ((l.map cEv).all fun e => e.length == 2) = true := by
  rw [List.all_eq_true]; intro e he; obtain ⟨b, _, rfl⟩ := List.mem_map.1 he; rfl
theorem r_lCheck (l : Ldg) (hz : LSz l) (hn : LNm l) : CallSpec cx 30 [encLdg l] (i64 (lchk l)) := by
  have hkl := hz.known
  have hbl := hz.brs
  have hel := hz.evs
  have hes := hz.ev
  refine callSpec_of_vc Tryz.func30 rfl (by decide) (by kernel_rfl) (Nat.le_of_ble_eq_true rfl) ?_
  cases h30 : decide ((30 : Int) < l.known.length)
  case true =>
    simp -dsimp (disch := omega) only [↓bp0, bd0, bd_LW, evStore, evRange, retQ, resL, finL, newL, flat, tupOf, List.toList_toArray, Tryz.f30, h30, simprocAttr]
    refine leT_one (int_eq ?_) (by simp)
    have := of_decide_eq_true h30
    rw [lchk, if_pos (by omega)]
  have h30' := of_decide_eq_false h30
  try simp -dsimp (disch := omega) only [↓bp0, bd0, bd_LW, evStore, evRange, Tryz.f30, h30, simprocAttr]
  refine LoopQ.rule (fun m st => ∃ i : Nat, i ≤ l.known.length ∧ nodupB (l.known.take i) = true ∧ m = l.known.length - i ∧
    st = ⟨mkE [(1, .ptr 0 0 0 0), (3, i64 i)], mkS [(0, .row 0 3 [[encKws l.known, encBrs l.brs, encEvss l.evs]] false)], 1⟩) _ _ (weak_of ?_)
    ⟨0, by omega, by simp [nodupB], rfl, rfl⟩ ?_
  · first | (simp -dsimp (disch := omega) only [↓bp0, bd0, bd_LW, evStore, evRange, simprocAttr]; done) | simp -dsimp [evl, putN, i64, u32, bl, encL, encB, encLL]
  rintro m st ⟨i, hi, hnd, rfl, rfl⟩
  try simp -dsimp (disch := omega) only [↓bp0, bd0, bd_LW, evStore, evRange, simprocAttr]
  refine onC_nlt (fun h2 => ?_) (fun h2 => ?_)
  · obtain ⟨b, hx, hxm⟩ := get_of_lt h2
    try simp -dsimp (disch := omega) only [↓bp0, bd0, bd_LW, evStore, evRange, simprocAttr]
    refine LoopQ.rule (fun m st => ∃ k : Nat, k ≤ i ∧ ((l.known.take k).any fun q => decide (q.chg = b.chg)) = false ∧ m = i - k ∧
      st = ⟨mkE [(1, .ptr 0 0 0 0), (3, i64 i), (4, i64 k)], mkS [(0, .row 0 3 [[encKws l.known, encBrs l.brs, encEvss l.evs]] false)], 1⟩) _ _ (weak_of ?_)
      ⟨0, by omega, by simp, rfl, rfl⟩ ?_
    · first | (simp -dsimp (disch := omega) only [↓bp0, bd0, bd_LW, evStore, evRange, simprocAttr]; done) | simp -dsimp [evl, putN, i64, u32, bl, encL, encB, encLL]
    rintro m st ⟨k, hk, hany, rfl, rfl⟩
    try simp -dsimp (disch := omega) only [↓bp0, bd0, bd_LW, evStore, evRange, simprocAttr]
    refine onC_nlt (fun h3 => ?_) (fun h3 => ?_)
    · obtain ⟨a, hxk, _⟩ := get_of_lt (l := l.known) (show k < l.known.length by omega)
      try simp -dsimp (disch := omega) only [↓bp0, bd0, bd_LW, evStore, evRange, hx, hxk, simprocAttr]
      first | refine vc_text (by kernel_rfl) ?_ | skip
      cases he : decide (a.chg = b.chg)
      · try simp -dsimp (disch := omega) only [↓bp0, bd0, bd_LW, evStore, evRange, hx, hxk, he, simprocAttr]
        refine ⟨_, _, ?_, weak_of ?_, k + 1, h3, ?_, rfl, rfl⟩
        · omega
        · first | (simp -dsimp (disch := omega) only [↓bp0, bd0, bd_LW, evStore, evRange, wrapS h3 (show i ≤ 9223372036854775807 by omega), simprocAttr]; done) | simp -dsimp [evl, putN, i64, u32, bl, encL, encB, encLL, wrapS h3 (show i ≤ 9223372036854775807 by omega)]
        · rw [take_succ hxk, List.any_append, hany]; simp [of_decide_eq_false he]
      · simp -dsimp (disch := omega) only [↓bp0, bd0, bd_LW, evStore, evRange, retQ, resL, finL, newL, flat, tupOf, List.toList_toArray, Tryz.f30, hx, hxk, he, simprocAttr]
        refine leT_one (int_eq ?_) (by simp)
        rw [lchk, if_neg (by omega), if_pos (nodupB_hit hxk hx h3 (of_decide_eq_true he))]
    · have hki : k = i := by omega
      subst hki
      try simp -dsimp (disch := omega) only [↓bp0, bd0, bd_LW, evStore, evRange, simprocAttr]
      refine ⟨_, _, ?_, weak_of ?_, k + 1, h2, ?_, rfl, rfl⟩
      · omega
      · first | (simp -dsimp (disch := omega) only [↓bp0, bd0, bd_LW, evStore, evRange, wrapS h2 (show l.known.length ≤ 9223372036854775807 by omega), simprocAttr]; done) | simp -dsimp [evl, putN, i64, u32, bl, encL, encB, encLL, wrapS h2 (show l.known.length ≤ 9223372036854775807 by omega)]
      · rw [take_succ hx, nodupB_snoc, hnd, hany]; rfl
  rw [List.take_of_length_le (by omega)] at hnd
  have e1 : lchk l = if l.known.any kwB then 8 else if bchk l.brs ≠ 0 then bchk l.brs
      else if l.evs.length ≠ l.brs.length then 2 else if (l.evs.any fun s => decide (40 < s.length)) = true then 4 else if bfits l.brs (cnts l) ≠ 0 then bfits l.brs (cnts l)
      else if anyI (fun i own => !runB l.known (preE l i) own) l.evs then 8 else 0 := by
    rw [lchk, if_neg (by omega), if_neg (by rw [hnd]; simp)]
  try simp -dsimp (disch := omega) only [↓bp0, bd0, bd_LW, evStore, evRange, simprocAttr]
  refine LoopQ.rule (fun m st => ∃ i : Nat, i ≤ l.known.length ∧ ((l.known.take i).any kwB) = false ∧ m = l.known.length - i ∧
    st = ⟨mkE [(1, .ptr 0 0 0 0), (5, i64 i)], mkS [(0, .row 0 3 [[encKws l.known, encBrs l.brs, encEvss l.evs]] false)], 1⟩) _ _ (weak_of ?_)
    ⟨0, by omega, by simp, rfl, rfl⟩ ?_
  · first | (simp -dsimp (disch := omega) only [↓bp0, bd0, bd_LW, evStore, evRange, simprocAttr]; done) | simp -dsimp [evl, putN, i64, u32, bl, encL, encB, encLL]
  clear hi h2
  rintro m st ⟨i, hi, hpre, rfl, rfl⟩
  try simp -dsimp (disch := omega) only [↓bp0, bd0, bd_LW, evStore, evRange, simprocAttr]
  refine onC_nlt (fun h2 => ?_) (fun h2 => ?_)
  · obtain ⟨k, hx, hxm⟩ := get_of_lt h2
    have htk := take_succ hx
    have hbad : kwB k = true → lchk l = 8 := fun h => by rw [e1, if_pos (List.any_eq_true.2 ⟨k, hxm, h⟩)]
    have hgo : kwB k = false → ((l.known.take (i + 1)).any kwB) = false := fun h => by rw [htk, List.any_append, hpre]; simp [h]
    try simp -dsimp (disch := omega) only [↓bp0, bd0, bd_LW, evStore, evRange, hx, simprocAttr]
    refine CallQ.imm (r_Name k.chg (hn.known k hxm)) (by rfl) (by rfl) (by first | exact .inl rfl | exact .inr rfl | exact .inr scalB | exact .inr scalI | exact .inr scalT | exact .inr scalM | exact .inr scalMT | exact .inr scalE) ?_
    cases hnm : nameB k.chg
    · simp -dsimp (disch := omega) only [↓bp0, bd0, bd_LW, evStore, evRange, retQ, resL, finL, newL, flat, tupOf, List.toList_toArray, Tryz.f30, hnm, uUn, Option.bind_some, simprocAttr]
      exact leT_one (int_eq (hbad (by simp [kwB, hnm])).symm) (by simp)
    cases hc0 : decide (k.cls < 0)
    case true =>
      simp -dsimp (disch := omega) only [↓bp0, bd0, bd_LW, evStore, evRange, retQ, resL, finL, newL, flat, tupOf, List.toList_toArray, Tryz.f30, hnm, hx, hc0, uUn, Option.bind_some, simprocAttr]
      exact leT_one (int_eq (hbad (by simp [kwB, hnm, hc0])).symm) (by simp)
    cases hc1 : decide ((30 : Int) ≤ k.cls)
    case true =>
      simp -dsimp (disch := omega) only [↓bp0, bd0, bd_LW, evStore, evRange, retQ, resL, finL, newL, flat, tupOf, List.toList_toArray, Tryz.f30, hnm, hx, hc0, hc1, uUn, Option.bind_some, simprocAttr]
      exact leT_one (int_eq (hbad (by simp [kwB, hnm, hc0, hc1])).symm) (by simp)
    try simp -dsimp (disch := omega) only [↓bp0, bd0, bd_LW, evStore, evRange, hnm, hx, hc0, hc1, uUn, Option.bind_some, simprocAttr]
    refine ⟨_, _, ?_, weak_of ?_, i + 1, h2, hgo (by simp [kwB, hnm, hc0, hc1]), rfl, rfl⟩
    · omega
    · first | (simp -dsimp (disch := omega) only [↓bp0, bd0, bd_LW, evStore, evRange, wrapS h2 (show l.known.length ≤ 9223372036854775807 by omega), simprocAttr]; done) | simp -dsimp [evl, putN, i64, u32, bl, encL, encB, encLL, wrapS h2 (show l.known.length ≤ 9223372036854775807 by omega)]
  have hkw : l.known.any kwB = false := by rw [List.take_of_length_le (by omega)] at hpre; exact hpre
  have e2 : lchk l = if bchk l.brs ≠ 0 then bchk l.brs
      else if l.evs.length ≠ l.brs.length then 2 else if (l.evs.any fun s => decide (40 < s.length)) = true then 4 else if bfits l.brs (cnts l) ≠ 0 then bfits l.brs (cnts l)
      else if anyI (fun i own => !runB l.known (preE l i) own) l.evs then 8 else 0 := by rw [e1, if_neg (by rw [hkw]; simp)]
  try simp -dsimp (disch := omega) only [↓bp0, bd0, bd_LW, evStore, evRange, simprocAttr]
  refine CallQ.imm (r_Check l.brs (by omega) hn.brs) (by rfl) (by rfl) (by first | exact .inl rfl | exact .inr rfl | exact .inr scalB | exact .inr scalI | exact .inr scalT | exact .inr scalM | exact .inr scalMT | exact .inr scalE) ?_
  cases hb0 : decide (bchk l.brs = 0)
  · simp -dsimp (disch := omega) only [↓bp0, bd0, bd_LW, evStore, evRange, retQ, resL, finL, newL, flat, tupOf, List.toList_toArray, Tryz.f30, hb0, simprocAttr]
    refine leT_one (int_eq ?_) (by simp)
    rw [e2, if_pos (of_decide_eq_false hb0)]
  have hb0' := of_decide_eq_true hb0
  cases hle : decide ((l.evs.length : Int) = l.brs.length)
  · have h1 := of_decide_eq_false hle
    simp -dsimp (disch := omega) only [↓bp0, bd0, bd_LW, evStore, evRange, retQ, resL, finL, newL, flat, tupOf, List.toList_toArray, Tryz.f30, hb0, hle, simprocAttr]
    refine leT_one (int_eq ?_) (by simp)
    rw [e2, if_neg (by rw [Decidable.not_not]; exact hb0'), if_pos (by omega)]
  have hle' : l.evs.length = l.brs.length := by have := of_decide_eq_true hle; omega
  have e3 : lchk l = if (l.evs.any fun s => decide (40 < s.length)) = true then 4 else if bfits l.brs (cnts l) ≠ 0 then bfits l.brs (cnts l)
      else if anyI (fun i own => !runB l.known (preE l i) own) l.evs then 8 else 0 := by rw [e2, if_neg (by rw [Decidable.not_not]; exact hb0'), if_neg (by omega)]
  try simp -dsimp (disch := omega) only [↓bp0, bd0, bd_LW, evStore, evRange, hb0, hle, simprocAttr]
  refine LoopQ.rule (fun m st => ∃ i : Nat, i ≤ l.evs.length ∧ ((l.evs.take i).any fun s => decide (40 < s.length)) = false ∧ m = l.evs.length - i ∧
    st = ⟨mkE [(1, .ptr 0 0 0 0), (7, i64 i)], mkS [(0, .row 0 3 [[encKws l.known, encBrs l.brs, encEvss l.evs]] false)], 1⟩) _ _ (weak_of ?_)
    ⟨0, by omega, by simp, rfl, rfl⟩ ?_
  · first | (simp -dsimp (disch := omega) only [↓bp0, bd0, bd_LW, evStore, evRange, simprocAttr]; done) | simp -dsimp [evl, putN, i64, u32, bl, encL, encB, encLL]
  clear hi h2 hpre
  rintro m st ⟨i, hi, hpre, rfl, rfl⟩
  try simp -dsimp (disch := omega) only [↓bp0, bd0, bd_LW, evStore, evRange, simprocAttr]
  refine onC_nlt (fun h2 => ?_) (fun h2 => ?_)
  · obtain ⟨s, hx, hxm⟩ := get_of_lt h2
    cases h4 : decide ((40 : Int) < s.length)
    · have h4' := of_decide_eq_false h4
      try simp -dsimp (disch := omega) only [↓bp0, bd0, bd_LW, evStore, evRange, hx, h4, simprocAttr]
      refine ⟨_, _, ?_, weak_of ?_, i + 1, h2, ?_, rfl, rfl⟩
      · omega
      · first | (simp -dsimp (disch := omega) only [↓bp0, bd0, bd_LW, evStore, evRange, wrapS h2 (show l.evs.length ≤ 9223372036854775807 by omega), simprocAttr]; done) | simp -dsimp [evl, putN, i64, u32, bl, encL, encB, encLL, wrapS h2 (show l.evs.length ≤ 9223372036854775807 by omega)]
      · rw [take_succ hx, List.any_append, hpre]; simp; omega
    · have h4' := of_decide_eq_true h4
      simp -dsimp (disch := omega) only [↓bp0, bd0, bd_LW, evStore, evRange, retQ, resL, finL, newL, flat, tupOf, List.toList_toArray, Tryz.f30, hx, h4, simprocAttr]
      refine leT_one (int_eq ?_) (by simp)
      rw [e3, if_pos (List.any_eq_true.2 ⟨s, hxm, decide_eq_true (by omega)⟩)]
  have h40 : (l.evs.any fun s => decide (40 < s.length)) = false := by rw [List.take_of_length_le (by omega)] at hpre; exact hpre
  have e4 : lchk l = if bfits l.brs (cnts l) ≠ 0 then bfits l.brs (cnts l) else if anyI (fun i own => !runB l.known (preE l i) own) l.evs then 8 else 0 := by rw [e3, if_neg (by rw [h40]; simp)]
  try simp -dsimp (disch := omega) only [↓bp0, bd0, bd_LW, evStore, evRange, simprocAttr]
  first | refine vc_text (by kernel_rfl) ?_ | skip
  try simp -dsimp (disch := omega) only [↓bp0, bd0, bd_LW, evStore, evRange, simprocAttr]
  refine CallY.imm (r_Counts l (by omega) hes) (by rfl) (by rfl) (by first | exact .inl rfl | exact .inr rfl | exact .inr scalB | exact .inr scalI | exact .inr scalT | exact .inr scalM | exact .inr scalMT | exact .inr scalE) ?_
  try simp -dsimp (disch := omega) only [↓bp0, bd0, bd_LW, evStore, evRange, simprocAttr]
  refine CallY.imm (r_Fits l.brs (cnts l) (by omega) (by rw [cnts_len]; omega) hn.brs) (by rfl) (by rfl) (by first | exact .inl rfl | exact .inr rfl | exact .inr scalB | exact .inr scalI | exact .inr scalT | exact .inr scalM | exact .inr scalMT | exact .inr scalE) ?_
  cases hf0 : decide (bfits l.brs (cnts l) = 0)
  · simp -dsimp (disch := omega) only [↓bp0, bd0, bd_LW, evStore, evRange, retQ, resL, finL, newL, flat, tupOf, List.toList_toArray, Tryz.f30, hf0, simprocAttr]
    refine leT_one (int_eq ?_) (by simp)
    rw [e4, if_pos (of_decide_eq_false hf0)]
  have hf0' := of_decide_eq_true hf0
  have e5 : lchk l = if anyI (fun i own => !runB l.known (preE l i) own) l.evs then 8 else 0 := by rw [e4, if_neg (by rw [Decidable.not_not]; exact hf0')]
  have hP : POk l := ⟨by omega, hnd, hkw, hle', fun s hs => by have := List.any_eq_false.1 h40 s hs; simpa using this, hf0'⟩
  have hV := hP.vok
  try simp -dsimp (disch := omega) only [↓bp0, bd0, bd_LW, evStore, evRange, hf0, simprocAttr]
  refine LoopQ.rule (fun m st => ∃ i : Nat, i ≤ l.brs.length ∧ (∀ (j : Nat) own, j < i → l.evs[j]? = some own → runB l.known (preE l j) own = true) ∧ m = l.brs.length - i ∧
    st = ⟨mkE [(1, .ptr 0 0 0 0), (9, i64 i)], mkS [(0, .row 0 3 [[encKws l.known, encBrs l.brs, encEvss l.evs]] false)], 1⟩) _ _ (weak_of ?_)
    ⟨0, by omega, fun _ _ h => by omega, rfl, rfl⟩ ?_
  · first | (simp -dsimp (disch := omega) only [↓bp0, bd0, bd_LW, evStore, evRange, simprocAttr]; done) | simp -dsimp [evl, putN, i64, u32, bl, encL, encB, encLL]
  clear hi h2 hpre
  rintro m st ⟨i, hi, hpre, rfl, rfl⟩
  try simp -dsimp (disch := omega) only [↓bp0, bd0, bd_LW, evStore, evRange, simprocAttr]
  refine onC_nlt (fun h2 => ?_) (fun h2 => ?_)
  rotate_left
  · simp -dsimp (disch := omega) only [↓bp0, bd0, bd_LW, evStore, evRange, retQ, resL, finL, newL, flat, tupOf, List.toList_toArray, Tryz.f30, simprocAttr]
    refine leT_one (int_eq ?_) (by simp)
    rw [e5, if_neg]
    rw [Bool.not_eq_true, anyI_false]
    intro j own hj
    rw [hpre j own (by have := (List.getElem?_eq_some_iff.1 hj).1; omega) hj]; rfl
  obtain ⟨b, hb, hbm⟩ := get_of_lt h2
  obtain ⟨own, hx, hxm⟩ := get_of_lt (l := l.evs) (show i < l.evs.length by omega)
  have hk := preE_known hP h2 hpre
  have ho40 := hP.evs own hxm
  have hbad : runB l.known (preE l i) own = false → lchk l = 8 := fun h => by rw [e5, if_pos (anyI_iff.2 ⟨i, own, hx, by rw [h]; rfl⟩)]
  have hbn := bview_at hf0' hb
  have hsp := seen_split hV hx h2
  obtain ⟨b', c', hb', hc', hcl, hcu⟩ := hV.at h2
  rw [hb] at hb'; cases hb'
  have hlen := hV.length i h2 hb hc'
  have hat := hV.at_ i b hb
  have hvl : (vw l.brs (cnts l) i).length ≤ 2^30 := by omega
  have hmem : ∀ m ∈ vw l.brs (cnts l) i, ∃ c, (cnts l)[m.1]? = some c ∧ (m.2 : Int) < c := fun m hm => (hV.mem i h2 m hm).2
  have hsl : (seenE l (vw l.brs (cnts l) i)).length = (vw l.brs (cnts l) i).length := by simp [seenE]
  try simp -dsimp (disch := omega) only [↓bp0, bd0, bd_LW, evStore, evRange, hb, simprocAttr]
  first | refine vc_text (by kernel_rfl) ?_ | skip
  try simp -dsimp (disch := omega) only [↓bp0, bd0, bd_LW, evStore, evRange, hb, simprocAttr]
  refine CallY.imm (r_Counts l (by omega) hes) (by rfl) (by rfl) (by first | exact .inl rfl | exact .inr rfl | exact .inr scalB | exact .inr scalI | exact .inr scalT | exact .inr scalM | exact .inr scalMT | exact .inr scalE) ?_
  try simp -dsimp (disch := omega) only [↓bp0, bd0, bd_LW, evStore, evRange, hb, simprocAttr]
  refine CallY.imm (r_View l.brs (cnts l) b.name (by omega) (by rw [cnts_len]; omega) hn.brs) (by rfl) (by rfl) (by first | exact .inl rfl | exact .inr rfl | exact .inr scalB | exact .inr scalI | exact .inr scalT | exact .inr scalM | exact .inr scalMT | exact .inr scalE) ?_
  try simp -dsimp (disch := omega) only [↓bp0, bd0, bd_LW, evStore, evRange, hbn, simprocAttr]
  generalize hvv : vw l.brs (cnts l) i = v at hsp hvl hmem hsl
  refine CallQ.imm (r_Seen l v v.length hmem hvl) (by rfl) (by rfl) (by first | exact .inl rfl | exact .inr rfl | exact .inr scalB | exact .inr scalI | exact .inr scalT | exact .inr scalM | exact .inr scalMT | exact .inr scalE) ?_
  rw [List.take_length, hsp]
  have hvlen : v.length = (preE l i).length + own.length := by rw [← hsl, hsp, List.length_append]
  have hw : IntKind.i64.wrap ((v.length : Int) - own.length) = ((preE l i).length : Int) := by rw [IntWalk.i64_in _ (by omega)]; omega
  try simp -dsimp (disch := omega) only [↓bp0, bd0, bd_LW, evStore, evRange, newEvs, hx, hw, simprocAttr]
  refine LoopQ.rule (fun m st => ∃ q : Nat, q ≤ own.length ∧ (∀ (p : Nat) x, p < q → own[p]? = some x → (clsOf l.known x.chg).isSome = true ∧ alw (cls0 l.known) (preE l i ++ own.take p) x = 0) ∧ m = own.length - q ∧
    st = ⟨mkE [(1, .ptr 0 0 0 0), (9, i64 i), (10, encMks v), (12, encEvs (preE l i ++ own)), (13, i64 ((preE l i).length + q : Nat))],
      mkS [(0, .row 0 3 [[encKws l.known, encBrs l.brs, encEvss l.evs]] false)], 1⟩) _ _ (weak_of ?_)
    ⟨0, by omega, fun _ _ h => by omega, rfl, rfl⟩ ?_
  · first | (simp -dsimp (disch := omega) only [↓bp0, bd0, bd_LW, evStore, evRange, Nat.add_zero, simprocAttr]; done) | simp -dsimp [evl, putN, i64, u32, bl, encL, encB, encLL, Nat.add_zero]
  rintro m st ⟨q, hq, hrun, rfl, rfl⟩
  try simp -dsimp (disch := omega) only [↓bp0, bd0, bd_LW, evStore, evRange, simprocAttr]
  refine onC_nlt (fun h3 => ?_) (fun h3 => ?_)
  rotate_left
  · have hall : runB l.known (preE l i) own = true := runB_iff.2 fun p x hp => hrun p x (by have := (List.getElem?_eq_some_iff.1 hp).1; omega) hp
    try simp -dsimp (disch := omega) only [↓bp0, bd0, bd_LW, evStore, evRange, simprocAttr]
    refine ⟨_, _, ?_, weak_of ?_, i + 1, h2, ?_, rfl, rfl⟩
    · omega
    · first | (simp -dsimp (disch := omega) only [↓bp0, bd0, bd_LW, evStore, evRange, wrapS h2 (show l.brs.length ≤ 9223372036854775807 by omega), simprocAttr]; done) | simp -dsimp [evl, putN, i64, u32, bl, encL, encB, encLL, wrapS h2 (show l.brs.length ≤ 9223372036854775807 by omega)]
    · intro j own' hj hj'
      by_cases e : j = i
      · subst e; rw [hx] at hj'; cases hj'; exact hall
      · exact hpre j own' (by omega) hj'
  have h3' : q < own.length := by omega
  obtain ⟨x, hxq, hxqm⟩ := get_of_lt h3'
  have hget : (preE l i ++ own)[(preE l i).length + q]? = some x := by rw [List.getElem?_append_right (by omega), Nat.add_sub_cancel_left]; exact hxq
  have htake : (preE l i ++ own).take ((preE l i).length + q) = preE l i ++ own.take q := by
    rw [List.take_append, List.take_of_length_le (by omega), Nat.add_sub_cancel_left]
  have hle3 : (preE l i).length + q ≤ (preE l i ++ own).length := by rw [List.length_append]; omega
  have hkn : ∀ e ∈ preE l i ++ own.take q, (clsOf l.known e.chg).isSome = true := fun e he => by
    rcases List.mem_append.1 he with he | he
    · exact hk e he
    · obtain ⟨p, hp, rfl⟩ := List.getElem_of_mem he
      rw [List.length_take] at hp
      exact (hrun p _ (by omega) (by rw [List.getElem_take, List.getElem?_eq_getElem])).1
  generalize hS : preE l i ++ own = S at hget htake hle3
  generalize hN : (preE l i).length + q = N at hget htake hle3 h3
  have hdt : List.drop 0 (List.take N (S.map cEv)) = (S.take N).map cEv := by rw [List.drop_zero, List.map_take]
  have hdt2 : List.take N (S.map cEv) = (S.take N).map cEv := by rw [List.map_take]
  try simp -dsimp (disch := omega) only [↓bp0, bd0, bd_LW, evStore, evRange, hget, simprocAttr]
  first | refine vc_text (by kernel_rfl) ?_ | skip
  try simp -dsimp (disch := omega) only [↓bp0, bd0, bd_LW, evStore, evRange, hget, simprocAttr]
  refine CallY.imm (r_Class l x.chg hkl) (by rfl) (by rfl) (by first | exact .inl rfl | exact .inr rfl | exact .inr scalB | exact .inr scalI | exact .inr scalT | exact .inr scalM | exact .inr scalMT | exact .inr scalE) ?_
  cases hcn : decide (clsI l.known x.chg < 0)
  case true =>
    simp -dsimp (disch := omega) only [↓bp0, bd0, bd_LW, evStore, evRange, retQ, resL, finL, newL, flat, tupOf, List.toList_toArray, Tryz.f30, hcn, simprocAttr]
    refine leT_one (int_eq (hbad (runB_snoc_false hxq fun h => ?_)).symm) (by simp)
    rw [(clsI_neg hkw _).1 (of_decide_eq_true hcn)] at h; cases h.1
  have hsome : (clsOf l.known x.chg).isSome = true := by
    cases hc : clsOf l.known x.chg with
    | none => exact absurd ((clsI_neg hkw _).2 hc) (of_decide_eq_false hcn)
    | some n => rfl
  try simp -dsimp (disch := omega) only [↓bp0, bd0, bd_LW, evStore, evRange, hcn, hget, hle3, evSlice, slc, allEv, Bool.false_and, hdt, hdt2, simprocAttr]
  refine CallY.imm (r_allowed l (S.take N) x hkl (by rw [List.length_take]; omega)) (by rfl) (by rfl) (by first | exact .inl rfl | exact .inr rfl | exact .inr scalB | exact .inr scalI | exact .inr scalT | exact .inr scalM | exact .inr scalMT | exact .inr scalE) ?_
  have hal : alwC (clsI l.known) (S.take N) x.kind (clsI l.known x.chg) = alw (cls0 l.known) (preE l i ++ own.take q) x := by
    rw [htake]
    have h1 : alw (cls0 l.known) (preE l i ++ own.take q) x = alw (clsI l.known) (preE l i ++ own.take q) x := alw_congr (fun e he => cls_eq (hkn e he)) (cls_eq hsome)
    rw [h1]; rfl
  rw [hal]
  cases ha : decide (alw (cls0 l.known) (preE l i ++ own.take q) x = 0)
  · simp -dsimp (disch := omega) only [↓bp0, bd0, bd_LW, evStore, evRange, retQ, resL, finL, newL, flat, tupOf, List.toList_toArray, Tryz.f30, hcn, ha, simprocAttr]
    refine leT_one (int_eq (hbad (runB_snoc_false hxq fun h => ?_)).symm) (by simp)
    exact of_decide_eq_false ha h.2
  try simp -dsimp (disch := omega) only [↓bp0, bd0, bd_LW, evStore, evRange, hcn, ha, simprocAttr]
  refine ⟨_, _, ?_, weak_of ?_, q + 1, h3', ?_, rfl, rfl⟩
  · omega
  · first | (simp -dsimp (disch := omega) only [↓bp0, bd0, bd_LW, evStore, evRange, hS, hN, wrapS h3 (show v.length ≤ 9223372036854775807 by omega), ← Nat.add_assoc, simprocAttr]; done) | simp -dsimp [evl, putN, i64, u32, bl, encL, encB, encLL, hS, hN, wrapS h3 (show v.length ≤ 9223372036854775807 by omega), ← Nat.add_assoc]
  · intro p y hp hy
    by_cases e : p = q
    · subst e; rw [hxq] at hy; cases hy
      exact ⟨hsome, of_decide_eq_true ha⟩
    · exact hrun p y (by omega) hy
end Go.Ab
end

section
/- The reference: what is in effect; what is great. -/
set_option maxRecDepth 100000
set_option maxHeartbeats 8000000
namespace Go.Ab
open Go Go.Proofs
theorem bd_LX : type_of% (And.intro @evNext.eq_1 (And.intro @fld (And.intro @nit (And.intro @nxE (And.intro @ovR (And.intro @evBin_seql (And.intro @evBin_sneq (And.intro @str.eq_1 (And.intro @u8.eq_1 (And.intro @encBrs.eq_1 (And.intro @cBr.eq_1 (And.intro @encLdg.eq_1 (And.intro @encKws.eq_1 (And.intro @cKw.eq_1 (And.intro @encEvss.eq_1 (And.intro @encEvs.eq_1 (And.intro @cEv.eq_1 (And.intro @encMks.eq_1 (And.intro @cMk.eq_1 (And.intro @tk2 (And.intro @tk3 (And.intro @List.set_cons_succ.{0} (And.intro @List.getElem?_cons_zero.{0} (And.intro @List.getElem?_cons_succ.{0} (@List.length_set.{0}))))))))))))))))))))))))) := And.intro @evNext.eq_1 (And.intro @fld (And.intro @nit (And.intro @nxE (And.intro @ovR (And.intro @evBin_seql (And.intro @evBin_sneq (And.intro @str.eq_1 (And.intro @u8.eq_1 (And.intro @encBrs.eq_1 (And.intro @cBr.eq_1 (And.intro @encLdg.eq_1 (And.intro @encKws.eq_1 (And.intro @cKw.eq_1 (And.intro @encEvss.eq_1 (And.intro @encEvs.eq_1 (And.intro @cEv.eq_1 (And.intro @encMks.eq_1 (And.intro @cMk.eq_1 (And.intro @tk2 (And.intro @tk3 (And.intro @List.set_cons_succ.{0} (And.intro @List.getElem?_cons_zero.{0} (And.intro @List.getElem?_cons_succ.{0} (@List.length_set.{0}))))))))))))))))))))))))
theorem r_lView (l : Ldg) (n : Str) (hz : LSz l) (hn : LNm l) : CallSpec cx 42 [encLdg l, str n] (.tup [encEvs (seenE l (lview l n).1), i64 (lview l n).2]) := by
  refine callSpec_of_vc Tryz.func42 rfl (by decide) (by kernel_rfl) (Nat.le_of_ble_eq_true rfl) ?_
  try simp -dsimp (disch := omega) only [↓bp0, bd0, bd_LX, evStore, evRange, Tryz.f42, simprocAttr]
  refine CallQ.imm (r_lCheck l hz hn) (by rfl) (by rfl) (by first | exact .inl rfl | exact .inr rfl | exact .inr scalB | exact .inr scalI | exact .inr scalT | exact .inr scalM | exact .inr scalMT | exact .inr scalE) ?_
  cases h0 : decide (lchk l = 0)
  · try simp -dsimp (disch := omega) only [↓bp0, bd0, bd_LX, evStore, evRange, h0, simprocAttr]
    refine CallQ.imm (r_lCheck l hz hn) (by rfl) (by rfl) (by first | exact .inl rfl | exact .inr rfl | exact .inr scalB | exact .inr scalI | exact .inr scalT | exact .inr scalM | exact .inr scalMT | exact .inr scalE) ?_
    simp -dsimp (disch := omega) only [↓bp0, bd0, bd_LX, evStore, evRange, retQ, resL, finL, newL, flat, tupOf, List.toList_toArray, Tryz.f42, h0, simprocAttr]
    rw [lview, if_pos (of_decide_eq_false h0)]
    exact ⟨.inl (.inr (.inr ⟨rfl, rfl⟩)), .rfl', trivial⟩
  have h0' := of_decide_eq_true h0
  have e1 : lview l n = bview l.brs (cnts l) n := by rw [lview, if_neg (by rw [Decidable.not_not]; exact h0')]
  have hfp : (lview l n).2 = 0 → _ := fun h => fold_pre (l := l) (n := n) h
  rw [e1] at hfp ⊢
  try simp -dsimp (disch := omega) only [↓bp0, bd0, bd_LX, evStore, evRange, h0, simprocAttr]
  first | refine vc_text (by kernel_rfl) ?_ | skip
  try simp -dsimp (disch := omega) only [↓bp0, bd0, bd_LX, evStore, evRange, simprocAttr]
  refine CallY.imm (r_Counts l hz.evs hz.ev) (by rfl) (by rfl) (by first | exact .inl rfl | exact .inr rfl | exact .inr scalB | exact .inr scalI | exact .inr scalT | exact .inr scalM | exact .inr scalMT | exact .inr scalE) ?_
  try simp -dsimp (disch := omega) only [↓bp0, bd0, bd_LX, evStore, evRange, simprocAttr]
  refine CallY.imm (r_View l.brs (cnts l) n (by have := hz.brs; omega) (by rw [cnts_len]; have := hz.evs; omega) hn.brs) (by rfl) (by rfl) (by first | exact .inl rfl | exact .inr rfl | exact .inr scalB | exact .inr scalI | exact .inr scalT | exact .inr scalM | exact .inr scalMT | exact .inr scalE) ?_
  cases h1 : decide ((bview l.brs (cnts l) n).2 = 0)
  · have h1' := of_decide_eq_false h1
    have hnil : (bview l.brs (cnts l) n).1 = [] := by
      unfold bview at h1' ⊢
      split
      · rfl
      · split
        · rfl
        · rename_i q1 q2; rw [if_neg q1, if_neg q2] at h1'; exact absurd rfl h1'
    simp -dsimp (disch := omega) only [↓bp0, bd0, bd_LX, evStore, evRange, retQ, resL, finL, newL, flat, tupOf, List.toList_toArray, Tryz.f42, h1, simprocAttr]
    rw [hnil]
    exact ⟨.inl (.inr (.inr ⟨rfl, rfl⟩)), .rfl', trivial⟩
  obtain ⟨q1, q2, q3, q4⟩ := hfp (of_decide_eq_true h1)
  have hlen : (bview l.brs (cnts l) n).1.length ≤ 2^30 := by
    obtain ⟨hok, i, hi, _, e⟩ := lview_ok (l := l) (n := n) (by rw [e1]; exact of_decide_eq_true h1)
    rw [e1] at e
    obtain ⟨b, c, hb, hc, _, _⟩ := hok.vok.at hi
    have := hok.vok.length i hi hb hc
    have := hok.vok.at_ i b hb
    rw [e]; omega
  have h1' := of_decide_eq_true h1
  rw [h1'] at h1
  rw [h1']
  generalize (bview l.brs (cnts l) n).1 = v at q2 q3 q4 hlen ⊢
  try simp -dsimp (disch := omega) only [↓bp0, bd0, bd_LX, evStore, evRange, h1, simprocAttr]
  refine CallQ.imm (r_Seen l v v.length q2 hlen) (by rfl) (by rfl) (by first | exact .inl rfl | exact .inr rfl | exact .inr scalB | exact .inr scalI | exact .inr scalT | exact .inr scalM | exact .inr scalMT | exact .inr scalE) ?_
  rw [List.take_length]
  simp -dsimp (disch := omega) only [↓bp0, bd0, bd_LX, evStore, evRange, retQ, resL, finL, newL, flat, tupOf, List.toList_toArray, Tryz.f42, h1, newEvs, simprocAttr]
  exact ⟨.rfl', .rfl', trivial⟩
end Go.Ab
end
