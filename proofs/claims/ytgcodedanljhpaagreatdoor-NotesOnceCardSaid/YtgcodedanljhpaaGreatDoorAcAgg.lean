/- What is too great for a law to look at. -/
import Derived.Test.YtgcodedanljhpaaGreatDoorMF
import Derived.Test.YtgcodedanljhpaaGreatDoorLX
import Derived.Test.YtgcodedanljhpaaGreatDoorAcLib
import Derived.Test.YtgcodedanljhpaaGreatDoorAcCall
set_option linter.unusedSimpArgs false
set_option linter.unusedVariables false
section
set_option maxRecDepth 1000000
set_option maxHeartbeats 8000000
namespace Go.Ab
open Go Go.Proofs Go.Sort
theorem bd_MG : type_of% (And.intro @evNext.eq_1 (And.intro @fld (And.intro @nit (And.intro @nxE (And.intro @ghR (And.intro @ovR (And.intro @evBin_seql (And.intro @evBin_sneq (And.intro @str.eq_1 (And.intro @u8.eq_1 (And.intro @encBrs.eq_1 (And.intro @cBr.eq_1 (And.intro @encLdg.eq_1 (And.intro @encKws.eq_1 (And.intro @cKw.eq_1 (And.intro @encEvss.eq_1 (And.intro @encEvs.eq_1 (And.intro @cEv.eq_1 (And.intro @encMks.eq_1 (And.intro @cMk.eq_1 (And.intro @encStrs.eq_1 (And.intro @encFxs.eq_1 (And.intro @cFx.eq_1 (And.intro @cGp.eq_1 (And.intro @tk2 (And.intro @tk3 (And.intro @List.set_cons_succ.{0} (And.intro @List.getElem?_cons_zero.{0} (And.intro @List.getElem?_cons_succ.{0} (@List.length_set.{0})))))))))))))))))))))))))))))) := And.intro @evNext.eq_1 (And.intro @fld (And.intro @nit (And.intro @nxE (And.intro @ghR (And.intro @ovR (And.intro @evBin_seql (And.intro @evBin_sneq (And.intro @str.eq_1 (And.intro @u8.eq_1 (And.intro @encBrs.eq_1 (And.intro @cBr.eq_1 (And.intro @encLdg.eq_1 (And.intro @encKws.eq_1 (And.intro @cKw.eq_1 (And.intro @encEvss.eq_1 (And.intro @encEvs.eq_1 (And.intro @cEv.eq_1 (And.intro @encMks.eq_1 (And.intro @cMk.eq_1 (And.intro @encStrs.eq_1 (And.intro @encFxs.eq_1 (And.intro @cFx.eq_1 (And.intro @cGp.eq_1 (And.intro @tk2 (And.intro @tk3 (And.intro @List.set_cons_succ.{0} (And.intro @List.getElem?_cons_zero.{0} (And.intro @List.getElem?_cons_succ.{0} (@List.length_set.{0})))))))))))))))))))))))))))))
def big (s : Str) : Bool := decide ((100 : Int) < (s.size : Int))
def grt26 (l : List Br) : Bool := (l.any fun b => big b.name || big b.frm) || decide ((20 : Int) < (l.length : Int))
def grtE (own : List Ev) : Bool := (decide ((8 : Int) < (own.length : Int)) && decide ((own.length : Int) ≤ 40)) || decide ((50 : Int) < (own.length : Int)) || own.any fun e => big e.chg
def grt29 (l : Ldg) : Bool := (l.known.any fun k => big k.chg) || l.evs.any grtE || decide ((40 : Int) < (l.known.length : Int)) || grt26 l.brs || decide ((20 : Int) < (l.evs.length : Int))
def grtF (f : Fx) : Bool := decide ((20 : Int) < (f.brs.length : Int)) || f.brs.any big
def grt34 (l : Ldg) (x : List Fx) : Bool := x.any grtF || grt29 l || (decide ((10 : Int) < (x.length : Int)) && decide ((x.length : Int) ≤ 30)) || decide ((40 : Int) < (x.length : Int))
theorem any_snoc {α : Type} {l : List α} {p : α → Bool} {i : Nat} {a : α} (h : l[i]? = some a) (h0 : (l.take i).any p = false) (ha : p a = false) : (l.take (i + 1)).any p = false := by
  rw [take_succ h, List.any_append, h0]; simp [ha]
theorem any_hit {α : Type} {l : List α} {p : α → Bool} {i : Nat} {a : α} (h : l[i]? = some a) (ha : p a = true) : l.any p = true := List.any_eq_true.2 ⟨a, List.mem_of_getElem? h, ha⟩
theorem r_Great26 (l : List Br) (hl : l.length ≤ 9223372036854775807) : CallSpec cx 85 [encBrs l, .lit (.slice none 0 0)] (bl (grt26 l)) := by
  refine callSpec_of_vc Tryz.func85 rfl (by decide) (by kernel_rfl) (Nat.le_of_ble_eq_true rfl) ?_
  try simp -dsimp (disch := omega) only [↓bp0, bd0, bd_MG, evStore, evRange, Tryz.f85, simprocAttr]
  refine LoopQ.rule (fun m st => ∃ i : Nat, i ≤ l.length ∧ ((l.take i).any fun b => big b.name || big b.frm) = false ∧ m = l.length - i ∧
    st = ⟨mkE [(0, encBrs l), (1, .lit (.slice none 0 0)), (5, i64 i)], mkS [], 0⟩) _ _ (weak_of ?_) ⟨0, by omega, by simp, rfl, rfl⟩ ?_
  · first | (simp -dsimp (disch := omega) only [↓bp0, bd0, bd_MG, evStore, evRange, simprocAttr]; done) | simp -dsimp [evl, putN, i64, u32, bl, encL, encB, encLL]
  rintro m st ⟨i, hi, hpre, rfl, rfl⟩
  try simp -dsimp (disch := omega) only [↓bp0, bd0, bd_MG, evStore, evRange, simprocAttr]
  refine onC_nlt (fun h2 => ?_) (fun h2 => ?_)
  · obtain ⟨b, hx, hxm⟩ := get_of_lt h2
    have hbad : (big b.name || big b.frm) = true → grt26 l = true := fun h => by rw [grt26, any_hit hx h]; rfl
    cases c1 : decide ((100 : Int) < (b.name.size : Int))
    · cases c2 : decide ((100 : Int) < (b.frm.size : Int))
      · try simp -dsimp (disch := omega) only [↓bp0, bd0, bd_MG, evStore, evRange, hx, c1, c2, simprocAttr]
        refine ⟨_, _, ?_, weak_of ?_, i + 1, h2, any_snoc hx hpre (by rw [big, big, c1, c2]; rfl), rfl, rfl⟩
        · omega
        · first | (simp -dsimp (disch := omega) only [↓bp0, bd0, bd_MG, evStore, evRange, wrapS h2 hl, simprocAttr]; done) | simp -dsimp [evl, putN, i64, u32, bl, encL, encB, encLL, wrapS h2 hl]
      · simp -dsimp (disch := omega) only [↓bp0, bd0, bd_MG, evStore, evRange, retQ, resL, finL, newL, flat, tupOf, List.toList_toArray, Tryz.f85, hx, c1, c2, simprocAttr]
        exact leT_one (bl_eq (hbad (by rw [big, big, c1, c2]; rfl)).symm) (by simp)
    · simp -dsimp (disch := omega) only [↓bp0, bd0, bd_MG, evStore, evRange, retQ, resL, finL, newL, flat, tupOf, List.toList_toArray, Tryz.f85, hx, c1, simprocAttr]
      exact leT_one (bl_eq (hbad (by rw [big, c1]; rfl)).symm) (by simp)
  · rw [List.take_of_length_le (by omega)] at hpre
    cases c3 : decide ((20 : Int) < (l.length : Int))
    · simp -dsimp (disch := omega) only [↓bp0, bd0, bd_MG, evStore, evRange, retQ, resL, finL, newL, flat, tupOf, List.toList_toArray, Tryz.f85, c3, simprocAttr]
      exact leT_one (bl_eq (by rw [grt26, hpre, c3]; rfl)) (by simp)
    · simp -dsimp (disch := omega) only [↓bp0, bd0, bd_MG, evStore, evRange, retQ, resL, finL, newL, flat, tupOf, List.toList_toArray, Tryz.f85, c3, simprocAttr]
      exact leT_one (bl_eq (by rw [grt26, hpre, c3]; rfl)) (by simp)
end Go.Ab
end

section
/- What is too great for a law to look at: ledgers, fixes. -/
set_option maxRecDepth 1000000
set_option maxHeartbeats 8000000
namespace Go.Ab
open Go Go.Proofs Go.Sort
theorem bd_MH : type_of% (And.intro @evNext.eq_1 (And.intro @fld (And.intro @nit (And.intro @nxE (And.intro @ghR (And.intro @ovR (And.intro @evBin_seql (And.intro @evBin_sneq (And.intro @str.eq_1 (And.intro @u8.eq_1 (And.intro @encBrs.eq_1 (And.intro @cBr.eq_1 (And.intro @encLdg.eq_1 (And.intro @encKws.eq_1 (And.intro @cKw.eq_1 (And.intro @encEvss.eq_1 (And.intro @encEvs.eq_1 (And.intro @cEv.eq_1 (And.intro @encMks.eq_1 (And.intro @cMk.eq_1 (And.intro @encStrs.eq_1 (And.intro @encFxs.eq_1 (And.intro @cFx.eq_1 (And.intro @cGp.eq_1 (And.intro @tk2 (And.intro @tk3 (And.intro @List.set_cons_succ.{0} (And.intro @List.getElem?_cons_zero.{0} (And.intro @List.getElem?_cons_succ.{0} (@List.length_set.{0})))))))))))))))))))))))))))))) := And.intro @evNext.eq_1 (And.intro @fld (And.intro @nit (And.intro @nxE (And.intro @ghR (And.intro @ovR (And.intro @evBin_seql (And.intro @evBin_sneq (And.intro @str.eq_1 (And.intro @u8.eq_1 (And.intro @encBrs.eq_1 (And.intro @cBr.eq_1 (And.intro @encLdg.eq_1 (And.intro @encKws.eq_1 (And.intro @cKw.eq_1 (And.intro @encEvss.eq_1 (And.intro @encEvs.eq_1 (And.intro @cEv.eq_1 (And.intro @encMks.eq_1 (And.intro @cMk.eq_1 (And.intro @encStrs.eq_1 (And.intro @encFxs.eq_1 (And.intro @cFx.eq_1 (And.intro @cGp.eq_1 (And.intro @tk2 (And.intro @tk3 (And.intro @List.set_cons_succ.{0} (And.intro @List.getElem?_cons_zero.{0} (And.intro @List.getElem?_cons_succ.{0} (@List.length_set.{0})))))))))))))))))))))))))))))
theorem r_Great29 (l : Ldg) (hl : l.known.length ≤ 9223372036854775807) (hb : l.brs.length ≤ 9223372036854775807) (hv : l.evs.length ≤ 9223372036854775807) (he : ∀ s ∈ l.evs, s.length ≤ 9223372036854775807) : CallSpec cx 32 [encLdg l] (bl (grt29 l)) := by
  refine callSpec_of_vc Tryz.func32 rfl (by decide) (by kernel_rfl) (Nat.le_of_ble_eq_true rfl) ?_
  try simp -dsimp (disch := omega) only [↓bp0, bd0, bd_MH, evStore, evRange, Tryz.f32, simprocAttr]
  refine LoopQ.rule (fun m st => ∃ i : Nat, i ≤ l.known.length ∧ ((l.known.take i).any fun k => big k.chg) = false ∧ m = l.known.length - i ∧
    st = ⟨mkE [(1, .ptr 0 0 0 0), (3, i64 i)], mkS [(0, .row 0 3 [[encKws l.known, encBrs l.brs, encEvss l.evs]] false)], 1⟩) _ _ (weak_of ?_) ⟨0, by omega, by simp, rfl, rfl⟩ ?_
  · first | (simp -dsimp (disch := omega) only [↓bp0, bd0, bd_MH, evStore, evRange, simprocAttr]; done) | simp -dsimp [evl, putN, i64, u32, bl, encL, encB, encLL]
  rintro m st ⟨i, hi, hpre, rfl, rfl⟩
  try simp -dsimp (disch := omega) only [↓bp0, bd0, bd_MH, evStore, evRange, simprocAttr]
  refine onC_nlt (fun h2 => ?_) (fun h2 => ?_)
  · obtain ⟨b, hx, hxm⟩ := get_of_lt h2
    have hbad : big b.chg = true → grt29 l = true := fun h => by rw [grt29, any_hit hx h]; rfl
    cases c1 : decide ((100 : Int) < (b.chg.size : Int))
    · try simp -dsimp (disch := omega) only [↓bp0, bd0, bd_MH, evStore, evRange, hx, c1, simprocAttr]
      refine ⟨_, _, ?_, weak_of ?_, i + 1, h2, any_snoc hx hpre c1, rfl, rfl⟩
      · omega
      · first | (simp -dsimp (disch := omega) only [↓bp0, bd0, bd_MH, evStore, evRange, wrapS h2 hl, simprocAttr]; done) | simp -dsimp [evl, putN, i64, u32, bl, encL, encB, encLL, wrapS h2 hl]
    · simp -dsimp (disch := omega) only [↓bp0, bd0, bd_MH, evStore, evRange, retQ, resL, finL, newL, flat, tupOf, List.toList_toArray, Tryz.f32, hx, c1, simprocAttr]
      exact leT_one (bl_eq (hbad c1).symm) (by simp)
  rw [List.take_of_length_le (by omega)] at hpre
  have e1 : grt29 l = (l.evs.any grtE || decide ((40 : Int) < (l.known.length : Int)) || grt26 l.brs || decide ((20 : Int) < (l.evs.length : Int))) := by rw [grt29, hpre, Bool.false_or]
  clear hpre
  refine LoopQ.rule (fun m st => ∃ i : Nat, i ≤ l.evs.length ∧ (l.evs.take i).any grtE = false ∧ m = l.evs.length - i ∧
    st = ⟨mkE [(1, .ptr 0 0 0 0), (4, i64 i)], mkS [(0, .row 0 3 [[encKws l.known, encBrs l.brs, encEvss l.evs]] false)], 1⟩) _ _ (weak_of ?_) ⟨0, by omega, by simp, rfl, rfl⟩ ?_
  · first | (simp -dsimp (disch := omega) only [↓bp0, bd0, bd_MH, evStore, evRange, simprocAttr]; done) | simp -dsimp [evl, putN, i64, u32, bl, encL, encB, encLL]
  clear hi h2
  rintro m st ⟨i, hi, hpre, rfl, rfl⟩
  try simp -dsimp (disch := omega) only [↓bp0, bd0, bd_MH, evStore, evRange, simprocAttr]
  refine onC_nlt (fun h2 => ?_) (fun h2 => ?_)
  · obtain ⟨own, hx, hxm⟩ := get_of_lt h2
    have hbad : grtE own = true → grt29 l = true := fun h => by rw [e1, any_hit hx h]; rfl
    have hle := he own hxm
    cases c1 : decide ((8 : Int) < (own.length : Int)) <;> cases c2 : decide ((own.length : Int) ≤ 40) <;> cases c3 : decide ((50 : Int) < (own.length : Int))
    case true.true.false | true.true.true =>
      simp -dsimp (disch := omega) only [↓bp0, bd0, bd_MH, evStore, evRange, retQ, resL, finL, newL, flat, tupOf, List.toList_toArray, Tryz.f32, hx, c1, c2, c3, simprocAttr]
      exact leT_one (bl_eq (hbad (by rw [grtE, c1, c2]; rfl)).symm) (by simp)
    case true.false.true | false.true.true | false.false.true =>
      simp -dsimp (disch := omega) only [↓bp0, bd0, bd_MH, evStore, evRange, retQ, resL, finL, newL, flat, tupOf, List.toList_toArray, Tryz.f32, hx, c1, c2, c3, simprocAttr]
      exact leT_one (bl_eq (hbad (by rw [grtE, c1, c2, c3]; rfl)).symm) (by simp)
    all_goals
      have e2 : grtE own = own.any fun e => big e.chg := by rw [grtE, c1, c2, c3]; rfl
      try simp -dsimp (disch := omega) only [↓bp0, bd0, bd_MH, evStore, evRange, hx, c1, c2, c3, simprocAttr]
      refine LoopQ.rule (fun m st => ∃ k : Nat, k ≤ own.length ∧ ((own.take k).any fun e => big e.chg) = false ∧ m = own.length - k ∧
        st = ⟨mkE [(1, .ptr 0 0 0 0), (4, i64 i), (5, i64 k)], mkS [(0, .row 0 3 [[encKws l.known, encBrs l.brs, encEvss l.evs]] false)], 1⟩) _ _ (weak_of ?_) ⟨0, by omega, by simp, rfl, rfl⟩ ?_
      · first | (simp -dsimp (disch := omega) only [↓bp0, bd0, bd_MH, evStore, evRange, simprocAttr]; done) | simp -dsimp [evl, putN, i64, u32, bl, encL, encB, encLL]
      rintro m st ⟨k, hk, hpk, rfl, rfl⟩
      try simp -dsimp (disch := omega) only [↓bp0, bd0, bd_MH, evStore, evRange, hx, simprocAttr]
      refine onC_nlt (fun h3 => ?_) (fun h3 => ?_)
      · obtain ⟨e, hy, hym⟩ := get_of_lt h3
        cases c4 : decide ((100 : Int) < (e.chg.size : Int))
        · try simp -dsimp (disch := omega) only [↓bp0, bd0, bd_MH, evStore, evRange, hx, hy, c4, simprocAttr]
          refine ⟨_, _, ?_, weak_of ?_, k + 1, h3, any_snoc hy hpk c4, rfl, rfl⟩
          · omega
          · first | (simp -dsimp (disch := omega) only [↓bp0, bd0, bd_MH, evStore, evRange, wrapS h3 hle, simprocAttr]; done) | simp -dsimp [evl, putN, i64, u32, bl, encL, encB, encLL, wrapS h3 hle]
        · simp -dsimp (disch := omega) only [↓bp0, bd0, bd_MH, evStore, evRange, retQ, resL, finL, newL, flat, tupOf, List.toList_toArray, Tryz.f32, hx, hy, c4, simprocAttr]
          exact leT_one (bl_eq (hbad (by rw [e2]; exact any_hit hy c4)).symm) (by simp)
      · rw [List.take_of_length_le (by omega)] at hpk
        try simp -dsimp (disch := omega) only [↓bp0, bd0, bd_MH, evStore, evRange, hx, simprocAttr]
        refine ⟨_, _, ?_, weak_of ?_, i + 1, h2, any_snoc hx hpre (by rw [e2, hpk]), rfl, rfl⟩
        · omega
        · first | (simp -dsimp (disch := omega) only [↓bp0, bd0, bd_MH, evStore, evRange, wrapS h2 hv, simprocAttr]; done) | simp -dsimp [evl, putN, i64, u32, bl, encL, encB, encLL, wrapS h2 hv]
  rw [List.take_of_length_le (by omega)] at hpre
  cases c1 : decide ((40 : Int) < (l.known.length : Int))
  case true =>
    simp -dsimp (disch := omega) only [↓bp0, bd0, bd_MH, evStore, evRange, retQ, resL, finL, newL, flat, tupOf, List.toList_toArray, Tryz.f32, c1, simprocAttr]
    exact leT_one (bl_eq (by rw [e1, hpre, c1]; rfl)) (by simp)
  try simp -dsimp (disch := omega) only [↓bp0, bd0, bd_MH, evStore, evRange, c1, simprocAttr]
  first | refine vc_text (by kernel_rfl) ?_ | skip
  try simp -dsimp (disch := omega) only [↓bp0, bd0, bd_MH, evStore, evRange, c1, simprocAttr]
  refine CallQ.imm (r_Great26 l.brs hb) (by rfl) (by rfl) (by first | exact .inl rfl | exact .inr rfl | exact .inr scalB | exact .inr scalI | exact .inr scalT | exact .inr scalM | exact .inr scalMT) ?_
  cases c2 : grt26 l.brs
  case true =>
    simp -dsimp (disch := omega) only [↓bp0, bd0, bd_MH, evStore, evRange, retQ, resL, finL, newL, flat, tupOf, List.toList_toArray, Tryz.f32, c1, c2, simprocAttr]
    exact leT_one (bl_eq (by rw [e1, hpre, c1, c2]; rfl)) (by simp)
  cases c3 : decide ((20 : Int) < (l.evs.length : Int))
  · simp -dsimp (disch := omega) only [↓bp0, bd0, bd_MH, evStore, evRange, retQ, resL, finL, newL, flat, tupOf, List.toList_toArray, Tryz.f32, c1, c2, c3, simprocAttr]
    exact leT_one (bl_eq (by rw [e1, hpre, c1, c2, c3]; rfl)) (by simp)
  · simp -dsimp (disch := omega) only [↓bp0, bd0, bd_MH, evStore, evRange, retQ, resL, finL, newL, flat, tupOf, List.toList_toArray, Tryz.f32, c1, c2, c3, simprocAttr]
    exact leT_one (bl_eq (by rw [e1, hpre, c1, c2, c3]; rfl)) (by simp)
end Go.Ab
end

section
/- Abstract values: a result of several cells, in its depth. -/
namespace Go.Ab
open Go
end Go.Ab
end
