/- ledger.Last. -/
import Derived.Test.YtgcodedanljhpaaGreatDoorAcNil
import Derived.Test.YtgcodedanljhpaaGreatDoorPH
import Derived.Test.YtgcodedanljhpaaGreatDoorPP
set_option linter.unusedSimpArgs false
set_option linter.unusedVariables false
section
set_option maxRecDepth 1000000
set_option maxHeartbeats 16000000
namespace Go.Ab
open Go Go.Proofs
theorem bd_QD : type_of% (And.intro @evNext.eq_1 (And.intro @fld (And.intro @nit (And.intro @nxE (And.intro @ghR (And.intro @ovR (And.intro @evBin_seql (And.intro @evBin_sneq (And.intro @str.eq_1 (And.intro @u8.eq_1 (And.intro @encBrs.eq_1 (And.intro @cBr.eq_1 (And.intro @encLdg.eq_1 (And.intro @encKws.eq_1 (And.intro @cKw.eq_1 (And.intro @encEvss.eq_1 (And.intro @encEvs.eq_1 (And.intro @cEv.eq_1 (And.intro @encMks.eq_1 (And.intro @cMk.eq_1 (And.intro @encStrs.eq_1 (And.intro @tk2 (And.intro @tk3 (And.intro @List.set_cons_succ.{0} (And.intro @List.getElem?_cons_zero.{0} (And.intro @List.getElem?_cons_succ.{0} (@List.length_set.{0}))))))))))))))))))))))))))) := And.intro @evNext.eq_1 (And.intro @fld (And.intro @nit (And.intro @nxE (And.intro @ghR (And.intro @ovR (And.intro @evBin_seql (And.intro @evBin_sneq (And.intro @str.eq_1 (And.intro @u8.eq_1 (And.intro @encBrs.eq_1 (And.intro @cBr.eq_1 (And.intro @encLdg.eq_1 (And.intro @encKws.eq_1 (And.intro @cKw.eq_1 (And.intro @encEvss.eq_1 (And.intro @encEvs.eq_1 (And.intro @cEv.eq_1 (And.intro @encMks.eq_1 (And.intro @cMk.eq_1 (And.intro @encStrs.eq_1 (And.intro @tk2 (And.intro @tk3 (And.intro @List.set_cons_succ.{0} (And.intro @List.getElem?_cons_zero.{0} (And.intro @List.getElem?_cons_succ.{0} (@List.length_set.{0}))))))))))))))))))))))))))
def lastM (l : Ldg) (n : Str) (c : Int) : Option (Nat × Nat) := (lview l n).1.reverse.find? fun m => decide (cls0 l.known (evAt l m).chg = c)
def lastMk (o : Option (Nat × Nat)) : Nat × Nat := o.getD (0, 0)
def lastKd (l : Ldg) (o : Option (Nat × Nat)) : Int := match o with
  | some m => (evAt l m).kind
  | none => 0
def lastEr (o : Option (Nat × Nat)) : Int := match o with
  | some _ => 0
  | none => 6
theorem d_BackwardMk (v : List (Nat × Nat)) : CallSpec cx 99 [encMks v] (.clo (.func 141) [] [.cptr [encMks v]]) := by
  refine callSpec_of_vc Tryz.func99 rfl (by decide) (by kernel_rfl) (Nat.le_of_ble_eq_true rfl) ?_
  simp -dsimp (disch := omega) only [↓bp0, bd0, bd_QD, evStore, evRange, cNt, tk4, retQ, resL, finL, newL, flat, tupOf, List.toList_toArray, Tryz.f99, drcs, drc, simprocAttr]
  exact leT_refl _
theorem bldMk0 : evBuild cx 91 [] = some (.agg [.lit (.int .i64 0), .lit (.int .i64 0)]) := by kernel_rfl
theorem find_rev {α : Type} {v : List α} {p : α → Bool} {k : Nat} (hk : k < v.length) {m : α} (hm : v[v.length - 1 - k]? = some m) (hpre : ∀ j, j < k → ∀ x, v[v.length - 1 - j]? = some x → p x = false) (h : p m = true) : v.reverse.find? p = some m := by
  have hr : ∀ j, j < v.length → v.reverse[j]? = v[v.length - 1 - j]? := fun j hj => List.getElem?_reverse hj
  have hd : v.reverse = v.reverse.take k ++ m :: v.reverse.drop (k + 1) := by
    have h1 : v.reverse.drop k = m :: v.reverse.drop (k + 1) := by
      have h2 : k < v.reverse.length := by rw [List.length_reverse]; exact hk
      rw [List.drop_eq_getElem_cons h2]
      congr 1
      have := hr k hk
      rw [hm, List.getElem?_eq_getElem h2, Option.some.injEq] at this
      exact this
    rw [← h1, List.take_append_drop]
  rw [hd, List.find?_append]
  have h0 : (v.reverse.take k).find? p = none := by
    rw [List.find?_eq_none]
    intro x hx
    obtain ⟨j, hj⟩ := List.getElem?_of_mem hx
    have hjk : j < k := by have := (List.getElem?_eq_some_iff.1 hj).1; rw [List.length_take] at this; omega
    rw [List.getElem?_take_of_lt hjk, hr j (by omega)] at hj
    rw [hpre j hjk x hj]; simp
  rw [h0, List.find?_cons_of_pos h]; rfl
theorem find_rev0 {α : Type} {v : List α} {p : α → Bool} (hpre : ∀ j, j < v.length → ∀ x, v[v.length - 1 - j]? = some x → p x = false) : v.reverse.find? p = none := by
  rw [List.find?_eq_none]
  intro x hx
  obtain ⟨j, hj⟩ := List.getElem?_of_mem hx
  have hjk : j < v.length := by have := (List.getElem?_eq_some_iff.1 hj).1; rw [List.length_reverse] at this; omega
  rw [List.getElem?_reverse hjk] at hj
  rw [hpre j hjk x hj]; simp
theorem d_Last (l : Ldg) (n : Str) (c : Int) (hz : LSz l) (h : (lview l n).2 = 0) : CallSpec cx 43 [encLdg l, str n, i64 c] (.tup [.agg (cMk (lastMk (lastM l n c))), u8 (lastKd l (lastM l n c)), i64 (lastEr (lastM l n c))]) := by
  obtain ⟨q1, q2, q3, q4⟩ := fold_pre h
  obtain ⟨hok, _⟩ := lview_ok h
  have hv30 : (lview l n).1.length ≤ 2^30 := by
    have := evV_len h
    rw [evV, seenE, List.length_map] at this
    omega
  have cV := d_lview l n hz
  rw [h] at cV
  have h0 : decide ((0 : Int) = 0) = true := rfl
  refine callSpec_of_vc Tryz.func43 rfl (by decide) (by kernel_rfl) (Nat.le_of_ble_eq_true rfl) ?_
  try simp -dsimp (disch := omega) only [↓bp0, bd0, bd_QD, evStore, evRange, cNt, tk4, Tryz.f43, simprocAttr]
  refine CallQ.imm (cV) (by rfl) (by rfl) (by first | exact .inl rfl | exact .inr rfl | exact .inr scalB | exact .inr scalI | exact .inr scalT | exact .inr scalM | exact .inr scalMT | exact .inr scalE | exact .inr scalET) ?_
  unfold lastM
  generalize hv : (lview l n).1 = v at q2 q3 hv30 ⊢
  try simp -dsimp (disch := omega) only [↓bp0, bd0, bd_QD, evStore, evRange, cNt, tk4, h0, newMks, simprocAttr]
  refine CallQ.inm (d_classes l hz.known _ _) (by rfl) ?_
  rintro r σ' nx1 ⟨idm, kvs, ck, hm1, hm2, rfl, rfl, hM⟩
  have hm1' : 5 ≤ idm := hm1
  have hE1_0a : (idm = 0) = False := by simp; omega
  have hE1_0b : (0 = idm) = False := by simp; omega
  have hE1_1a : (idm = 1) = False := by simp; omega
  have hE1_1b : (1 = idm) = False := by simp; omega
  have hE1_2a : (idm = 2) = False := by simp; omega
  have hE1_2b : (2 = idm) = False := by simp; omega
  have hE1_3a : (idm = 3) = False := by simp; omega
  have hE1_3b : (3 = idm) = False := by simp; omega
  have hE1_4a : (idm = 4) = False := by simp; omega
  have hE1_4b : (4 = idm) = False := by simp; omega
  have hE1_5a : (idm = nx1) = False := by simp; omega
  have hE1_5b : (nx1 = idm) = False := by simp; omega
  have hE1_6a : (nx1 = 0) = False := by simp; omega
  have hE1_6b : (0 = nx1) = False := by simp; omega
  have hE1_7a : (nx1 = 1) = False := by simp; omega
  have hE1_7b : (1 = nx1) = False := by simp; omega
  have hE1_8a : (nx1 = 2) = False := by simp; omega
  have hE1_8b : (2 = nx1) = False := by simp; omega
  have hE1_9a : (nx1 = 3) = False := by simp; omega
  have hE1_9b : (3 = nx1) = False := by simp; omega
  have hE1_10a : (nx1 = 4) = False := by simp; omega
  have hE1_10b : (4 = nx1) = False := by simp; omega
  try simp -dsimp (disch := omega) only [↓bp0, bd0, bd_QD, evStore, evRange, cNt, tk4, hE1_0a, hE1_0b, hE1_1a, hE1_1b, hE1_2a, hE1_2b, hE1_3a, hE1_3b, hE1_4a, hE1_4b, hE1_5a, hE1_5b, hE1_6a, hE1_6b, hE1_7a, hE1_7b, hE1_8a, hE1_8b, hE1_9a, hE1_9b, hE1_10a, hE1_10b, simprocAttr]
  refine CallQ.imm (d_BackwardMk v) (by rfl) (by rfl) (by first | exact .inl rfl | exact .inr rfl | exact .inr scalB | exact .inr scalI | exact .inr scalT | exact .inr scalM | exact .inr scalMT | exact .inr scalE | exact .inr scalET) ?_
  try simp -dsimp (disch := omega) only [↓bp0, bd0, bd_QD, evStore, evRange, cNt, tk4, hE1_0a, hE1_0b, hE1_1a, hE1_1b, hE1_2a, hE1_2b, hE1_3a, hE1_3b, hE1_4a, hE1_4b, hE1_5a, hE1_5b, hE1_6a, hE1_6b, hE1_7a, hE1_7b, hE1_8a, hE1_8b, hE1_9a, hE1_9b, hE1_10a, hE1_10b, simprocAttr]
  obtain ⟨S0, hS0⟩ : ∃ S0 : List (Nat × Blk), S0 = [(0, .row 0 3 [[encKws l.known, encBrs l.brs, encEvss l.evs]] false), (1, .row 0 1 [[i64 c]] false), (2, .row 0 2 [[i64 0, i64 0]] false), (3, .row 0 1 [[u8 0]] false), (4, .row 0 1 [[i64 0]] false), (idm, .map kvs ck false), (nx1, .row 0 1 [[.mp idm]] false)] := ⟨_, rfl⟩
  refine RangeQ.weak (st0 := ⟨mkE [(3, .ptr 0 0 0 0), (5, .ptr 1 0 0 0), (6, .ptr 2 0 0 0), (7, .ptr 3 0 0 0), (8, .ptr 4 0 0 0), (11, .ptr nx1 0 0 0), (28, .clo (.func 141) [] [.cptr [encMks v]])],
    mkS S0, nx1 + 1⟩) (weak_of ?_) ?_
  · subst hS0
    first | (simp -dsimp (disch := omega) only [↓bp0, bd0, bd_QD, evStore, evRange, cNt, tk4, ghR, hE1_0a, hE1_0b, hE1_1a, hE1_1b, hE1_2a, hE1_2b, hE1_3a, hE1_3b, hE1_4a, hE1_4b, hE1_5a, hE1_5b, hE1_6a, hE1_6b, hE1_7a, hE1_7b, hE1_8a, hE1_8b, hE1_9a, hE1_9b, hE1_10a, hE1_10b, simprocAttr]; done) | simp -dsimp [evl, putN, i64, u32, bl, encL, encB, encLL, ghR, hE1_0a, hE1_0b, hE1_1a, hE1_1b, hE1_2a, hE1_2b, hE1_3a, hE1_3b, hE1_4a, hE1_4b, hE1_5a, hE1_5b, hE1_6a, hE1_6b, hE1_7a, hE1_7b, hE1_8a, hE1_8b, hE1_9a, hE1_9b, hE1_10a, hE1_10b]
  refine RangeQ.rule (fun k σ nx => nx1 + 1 ≤ nx ∧ (∀ j, j < k → ∀ x, v[v.length - 1 - j]? = some x → decide (cls0 l.known (evAt l x).chg = c) = false) ∧ σ = mkS S0) (by rfl) (it_Mk v hv30) (fun _ => rfl) (by kernel_rfl) _ (.refl _)
      ⟨Nat.le_refl _, fun j hj => by omega, rfl⟩ ?_ ?_
  · rintro k σ nx hk ⟨hnx, hpre, rfl⟩
    have hi : v.length - 1 - k < v.length := by omega
    obtain ⟨m, hx, hxm⟩ := get_of_lt hi
    obtain ⟨j, q⟩ := m
    obtain ⟨c0, hc0, hlt⟩ := q2 _ hxm
    obtain ⟨own, x, hj, he, hev, hxo⟩ := evAt_get hc0 hlt
    simp only at hj he
    have hgd : v.getD (v.length - 1 - k) ((0, 0) : Nat × Nat) = (j, q) := by rw [List.getD_eq_getElem?_getD, hx]; rfl
    have hsome := q3 x (by rw [← hev]; exact List.mem_map.2 ⟨(j, q), hxm, rfl⟩)
    have hfp := hM.find q1.nodup hsome
    simp only [hgd]
    clear hgd
    have hF2_0a : (nx = 0) = False := by simp; omega
    have hF2_0b : (0 = nx) = False := by simp; omega
    have hF2_1a : (nx = 1) = False := by simp; omega
    have hF2_1b : (1 = nx) = False := by simp; omega
    have hF2_2a : (nx = 2) = False := by simp; omega
    have hF2_2b : (2 = nx) = False := by simp; omega
    have hF2_3a : (nx = 3) = False := by simp; omega
    have hF2_3b : (3 = nx) = False := by simp; omega
    have hF2_4a : (nx = 4) = False := by simp; omega
    have hF2_4b : (4 = nx) = False := by simp; omega
    have hF2_5a : (nx = idm) = False := by simp; omega
    have hF2_5b : (idm = nx) = False := by simp; omega
    have hF2_6a : (nx = nx1) = False := by simp; omega
    have hF2_6b : (nx1 = nx) = False := by simp; omega
    have hF2_7a : (nx + 1 = 1) = False := by simp; omega
    have hF2_7b : (1 = nx + 1) = False := by simp; omega
    have hF2_8a : (nx + 1 = 2) = False := by simp; omega
    have hF2_8b : (2 = nx + 1) = False := by simp; omega
    have hF2_9a : (nx + 1 = 3) = False := by simp; omega
    have hF2_9b : (3 = nx + 1) = False := by simp; omega
    have hF2_10a : (nx + 1 = 4) = False := by simp; omega
    have hF2_10b : (4 = nx + 1) = False := by simp; omega
    have hF2_11a : (nx + 1 = idm) = False := by simp; omega
    have hF2_11b : (idm = nx + 1) = False := by simp; omega
    have hF2_12a : (nx + 1 = nx1) = False := by simp; omega
    have hF2_12b : (nx1 = nx + 1) = False := by simp; omega
    have hstep : decide (cls0 l.known x.chg = c) = false → ∀ j, j < k + 1 → ∀ y, v[v.length - 1 - j]? = some y → decide (cls0 l.known (evAt l y).chg = c) = false := fun h0 j' hj' y hy => by
      by_cases e : j' = k
      · subst e; rw [hx] at hy; cases hy; rw [hev]; exact h0
      · exact hpre j' (by omega) y hy
    have hyes : decide (cls0 l.known x.chg = c) = true → (v.reverse.find? fun m => decide (cls0 l.known (evAt l m).chg = c)) = some (j, q) := fun h0 =>
      find_rev (p := fun m => decide (cls0 l.known (evAt l m).chg = c)) hk hx hpre (by rw [hev]; exact h0)
    clear hx hpre
    subst hS0
    try simp -dsimp (disch := omega) only [↓bp0, bd0, bd_QD, evStore, evRange, cNt, tk4, putsE, envPut, hE1_0a, hE1_0b, hE1_1a, hE1_1b, hE1_2a, hE1_2b, hE1_3a, hE1_3b, hE1_4a, hE1_4b, hE1_5a, hE1_5b, hE1_6a, hE1_6b, hE1_7a, hE1_7b, hE1_8a, hE1_8b, hE1_9a, hE1_9b, hE1_10a, hE1_10b, hF2_0a, hF2_0b, hF2_1a, hF2_1b, hF2_2a, hF2_2b, hF2_3a, hF2_3b, hF2_4a, hF2_4b, hF2_5a, hF2_5b, hF2_6a, hF2_6b, hF2_7a, hF2_7b, hF2_8a, hF2_8b, hF2_9a, hF2_9b, hF2_10a, hF2_10b, hF2_11a, hF2_11b, hF2_12a, hF2_12b, simprocAttr]
    refine vc_regJ (fun τ => τ 0 = some (.row 0 3 [[encKws l.known, encBrs l.brs, encEvss l.evs]] false) ∧ τ nx = some (.row 0 2 [cMk (j, q)] false)) [0, 1, 2, 3, 4, 5, 6, 7, 8, 9] [] (by kernel_rfl) (by kernel_rfl) ?_ ?_
    · exact ⟨(by simp -dsimp (disch := omega) only [↓bp0, bd0, bd_QD, evStore, evRange, cNt, tk4, putsE, envPut, hE1_0a, hE1_0b, hE1_1a, hE1_1b, hE1_2a, hE1_2b, hE1_3a, hE1_3b, hE1_4a, hE1_4b, hE1_5a, hE1_5b, hE1_6a, hE1_6b, hE1_7a, hE1_7b, hE1_8a, hE1_8b, hE1_9a, hE1_9b, hE1_10a, hE1_10b, hF2_0a, hF2_0b, hF2_1a, hF2_1b, hF2_2a, hF2_2b, hF2_3a, hF2_3b, hF2_4a, hF2_4b, hF2_5a, hF2_5b, hF2_6a, hF2_6b, hF2_7a, hF2_7b, hF2_8a, hF2_8b, hF2_9a, hF2_9b, hF2_10a, hF2_10b, hF2_11a, hF2_11b, hF2_12a, hF2_12b, simprocAttr]), (by simp -dsimp (disch := omega) only [↓bp0, bd0, bd_QD, evStore, evRange, cNt, tk4, putsE, envPut, hE1_0a, hE1_0b, hE1_1a, hE1_1b, hE1_2a, hE1_2b, hE1_3a, hE1_3b, hE1_4a, hE1_4b, hE1_5a, hE1_5b, hE1_6a, hE1_6b, hE1_7a, hE1_7b, hE1_8a, hE1_8b, hE1_9a, hE1_9b, hE1_10a, hE1_10b, hF2_0a, hF2_0b, hF2_1a, hF2_1b, hF2_2a, hF2_2b, hF2_3a, hF2_3b, hF2_4a, hF2_4b, hF2_5a, hF2_5b, hF2_6a, hF2_6b, hF2_7a, hF2_7b, hF2_8a, hF2_8b, hF2_9a, hF2_9b, hF2_10a, hF2_10b, hF2_11a, hF2_11b, hF2_12a, hF2_12b, simprocAttr])⟩
    try simp -dsimp (disch := omega) only [↓bp0, bd0, bd_QD, evStore, evRange, cNt, tk4, putsE, envPut, vcj, implies_true, hE1_0a, hE1_0b, hE1_1a, hE1_1b, hE1_2a, hE1_2b, hE1_3a, hE1_3b, hE1_4a, hE1_4b, hE1_5a, hE1_5b, hE1_6a, hE1_6b, hE1_7a, hE1_7b, hE1_8a, hE1_8b, hE1_9a, hE1_9b, hE1_10a, hE1_10b, hF2_0a, hF2_0b, hF2_1a, hF2_1b, hF2_2a, hF2_2b, hF2_3a, hF2_3b, hF2_4a, hF2_4b, hF2_5a, hF2_5b, hF2_6a, hF2_6b, hF2_7a, hF2_7b, hF2_8a, hF2_8b, hF2_9a, hF2_9b, hF2_10a, hF2_10b, hF2_11a, hF2_11b, hF2_12a, hF2_12b, simprocAttr]
    refine ⟨fun τ hτ => by simp -dsimp (disch := omega) only [↓bp0, bd0, bd_QD, evStore, evRange, cNt, tk4, hτ.1, simprocAttr], ?_⟩
    try simp -dsimp (disch := omega) only [↓bp0, bd0, bd_QD, evStore, evRange, cNt, tk4, putsE, envPut, vcj, implies_true, hE1_0a, hE1_0b, hE1_1a, hE1_1b, hE1_2a, hE1_2b, hE1_3a, hE1_3b, hE1_4a, hE1_4b, hE1_5a, hE1_5b, hE1_6a, hE1_6b, hE1_7a, hE1_7b, hE1_8a, hE1_8b, hE1_9a, hE1_9b, hE1_10a, hE1_10b, hF2_0a, hF2_0b, hF2_1a, hF2_1b, hF2_2a, hF2_2b, hF2_3a, hF2_3b, hF2_4a, hF2_4b, hF2_5a, hF2_5b, hF2_6a, hF2_6b, hF2_7a, hF2_7b, hF2_8a, hF2_8b, hF2_9a, hF2_9b, hF2_10a, hF2_10b, hF2_11a, hF2_11b, hF2_12a, hF2_12b, simprocAttr]
    refine ⟨fun τ hτ => by simp -dsimp (disch := omega) only [↓bp0, bd0, bd_QD, evStore, evRange, cNt, tk4, hτ.2, simprocAttr], ?_⟩
    try simp -dsimp (disch := omega) only [↓bp0, bd0, bd_QD, evStore, evRange, cNt, tk4, putsE, envPut, vcj, implies_true, hj, hE1_0a, hE1_0b, hE1_1a, hE1_1b, hE1_2a, hE1_2b, hE1_3a, hE1_3b, hE1_4a, hE1_4b, hE1_5a, hE1_5b, hE1_6a, hE1_6b, hE1_7a, hE1_7b, hE1_8a, hE1_8b, hE1_9a, hE1_9b, hE1_10a, hE1_10b, hF2_0a, hF2_0b, hF2_1a, hF2_1b, hF2_2a, hF2_2b, hF2_3a, hF2_3b, hF2_4a, hF2_4b, hF2_5a, hF2_5b, hF2_6a, hF2_6b, hF2_7a, hF2_7b, hF2_8a, hF2_8b, hF2_9a, hF2_9b, hF2_10a, hF2_10b, hF2_11a, hF2_11b, hF2_12a, hF2_12b, simprocAttr]
    refine ⟨fun τ hτ => by simp -dsimp (disch := omega) only [↓bp0, bd0, bd_QD, evStore, evRange, cNt, tk4, hτ.2, simprocAttr], ?_⟩
    try simp -dsimp (disch := omega) only [↓bp0, bd0, bd_QD, evStore, evRange, cNt, tk4, putsE, envPut, vcj, implies_true, hj, he, hE1_0a, hE1_0b, hE1_1a, hE1_1b, hE1_2a, hE1_2b, hE1_3a, hE1_3b, hE1_4a, hE1_4b, hE1_5a, hE1_5b, hE1_6a, hE1_6b, hE1_7a, hE1_7b, hE1_8a, hE1_8b, hE1_9a, hE1_9b, hE1_10a, hE1_10b, hF2_0a, hF2_0b, hF2_1a, hF2_1b, hF2_2a, hF2_2b, hF2_3a, hF2_3b, hF2_4a, hF2_4b, hF2_5a, hF2_5b, hF2_6a, hF2_6b, hF2_7a, hF2_7b, hF2_8a, hF2_8b, hF2_9a, hF2_9b, hF2_10a, hF2_10b, hF2_11a, hF2_11b, hF2_12a, hF2_12b, simprocAttr]
    try simp -dsimp (disch := omega) only [↓bp0, bd0, bd_QD, evStore, evRange, cNt, tk4, putsE, envPut, hj, he, evLookup, keyS, hfp, hE1_0a, hE1_0b, hE1_1a, hE1_1b, hE1_2a, hE1_2b, hE1_3a, hE1_3b, hE1_4a, hE1_4b, hE1_5a, hE1_5b, hE1_6a, hE1_6b, hE1_7a, hE1_7b, hE1_8a, hE1_8b, hE1_9a, hE1_9b, hE1_10a, hE1_10b, hF2_0a, hF2_0b, hF2_1a, hF2_1b, hF2_2a, hF2_2b, hF2_3a, hF2_3b, hF2_4a, hF2_4b, hF2_5a, hF2_5b, hF2_6a, hF2_6b, hF2_7a, hF2_7b, hF2_8a, hF2_8b, hF2_9a, hF2_9b, hF2_10a, hF2_10b, hF2_11a, hF2_11b, hF2_12a, hF2_12b, simprocAttr]
    cases hc : decide (cls0 l.known x.chg = c)
    · try simp -dsimp (disch := omega) only [↓bp0, bd0, bd_QD, evStore, evRange, cNt, tk4, putsE, envPut, hc, rndQ, hE1_0a, hE1_0b, hE1_1a, hE1_1b, hE1_2a, hE1_2b, hE1_3a, hE1_3b, hE1_4a, hE1_4b, hE1_5a, hE1_5b, hE1_6a, hE1_6b, hE1_7a, hE1_7b, hE1_8a, hE1_8b, hE1_9a, hE1_9b, hE1_10a, hE1_10b, hF2_0a, hF2_0b, hF2_1a, hF2_1b, hF2_2a, hF2_2b, hF2_3a, hF2_3b, hF2_4a, hF2_4b, hF2_5a, hF2_5b, hF2_6a, hF2_6b, hF2_7a, hF2_7b, hF2_8a, hF2_8b, hF2_9a, hF2_9b, hF2_10a, hF2_10b, hF2_11a, hF2_11b, hF2_12a, hF2_12b, simprocAttr]
      refine ⟨⟨mkE [], mkS [(0, .row 0 3 [[encKws l.known, encBrs l.brs, encEvss l.evs]] false), (1, .row 0 1 [[i64 c]] false), (2, .row 0 2 [[i64 0, i64 0]] false), (3, .row 0 1 [[u8 0]] false), (4, .row 0 1 [[i64 0]] false), (idm, .map kvs ck false), (nx1, .row 0 1 [[.mp idm]] false)], nx + 2⟩, weak_of ?_, by simp only; omega, hstep hc, rfl⟩
      first | (simp -dsimp (disch := omega) only [↓bp0, bd0, bd_QD, evStore, evRange, cNt, tk4, hE1_0a, hE1_0b, hE1_1a, hE1_1b, hE1_2a, hE1_2b, hE1_3a, hE1_3b, hE1_4a, hE1_4b, hE1_5a, hE1_5b, hE1_6a, hE1_6b, hE1_7a, hE1_7b, hE1_8a, hE1_8b, hE1_9a, hE1_9b, hE1_10a, hE1_10b, hF2_0a, hF2_0b, hF2_1a, hF2_1b, hF2_2a, hF2_2b, hF2_3a, hF2_3b, hF2_4a, hF2_4b, hF2_5a, hF2_5b, hF2_6a, hF2_6b, hF2_7a, hF2_7b, hF2_8a, hF2_8b, hF2_9a, hF2_9b, hF2_10a, hF2_10b, hF2_11a, hF2_11b, hF2_12a, hF2_12b, simprocAttr]; done) | simp -dsimp [evl, putN, i64, u32, bl, encL, encB, encLL, hE1_0a, hE1_0b, hE1_1a, hE1_1b, hE1_2a, hE1_2b, hE1_3a, hE1_3b, hE1_4a, hE1_4b, hE1_5a, hE1_5b, hE1_6a, hE1_6b, hE1_7a, hE1_7b, hE1_8a, hE1_8b, hE1_9a, hE1_9b, hE1_10a, hE1_10b, hF2_0a, hF2_0b, hF2_1a, hF2_1b, hF2_2a, hF2_2b, hF2_3a, hF2_3b, hF2_4a, hF2_4b, hF2_5a, hF2_5b, hF2_6a, hF2_6b, hF2_7a, hF2_7b, hF2_8a, hF2_8b, hF2_9a, hF2_9b, hF2_10a, hF2_10b, hF2_11a, hF2_11b, hF2_12a, hF2_12b]
    · have hf := hyes hc
      rw [hf]
      try simp -dsimp (disch := omega) only [↓bp0, bd0, bd_QD, evStore, evRange, cNt, tk4, putsE, envPut, hc, rndQ, hE1_0a, hE1_0b, hE1_1a, hE1_1b, hE1_2a, hE1_2b, hE1_3a, hE1_3b, hE1_4a, hE1_4b, hE1_5a, hE1_5b, hE1_6a, hE1_6b, hE1_7a, hE1_7b, hE1_8a, hE1_8b, hE1_9a, hE1_9b, hE1_10a, hE1_10b, hF2_0a, hF2_0b, hF2_1a, hF2_1b, hF2_2a, hF2_2b, hF2_3a, hF2_3b, hF2_4a, hF2_4b, hF2_5a, hF2_5b, hF2_6a, hF2_6b, hF2_7a, hF2_7b, hF2_8a, hF2_8b, hF2_9a, hF2_9b, hF2_10a, hF2_10b, hF2_11a, hF2_11b, hF2_12a, hF2_12b, simprocAttr]
      refine vc_regJ (fun τ => τ nx = some (.row 0 2 [cMk (j, q)] false) ∧ τ (nx + 1) = some (.row 0 2 [cEv x] false)) [0, 1, 2] [] (by kernel_rfl) (by kernel_rfl) ?_ ?_
      · exact ⟨(by simp -dsimp (disch := omega) only [↓bp0, bd0, bd_QD, evStore, evRange, cNt, tk4, putsE, envPut, hE1_0a, hE1_0b, hE1_1a, hE1_1b, hE1_2a, hE1_2b, hE1_3a, hE1_3b, hE1_4a, hE1_4b, hE1_5a, hE1_5b, hE1_6a, hE1_6b, hE1_7a, hE1_7b, hE1_8a, hE1_8b, hE1_9a, hE1_9b, hE1_10a, hE1_10b, hF2_0a, hF2_0b, hF2_1a, hF2_1b, hF2_2a, hF2_2b, hF2_3a, hF2_3b, hF2_4a, hF2_4b, hF2_5a, hF2_5b, hF2_6a, hF2_6b, hF2_7a, hF2_7b, hF2_8a, hF2_8b, hF2_9a, hF2_9b, hF2_10a, hF2_10b, hF2_11a, hF2_11b, hF2_12a, hF2_12b, simprocAttr]), (by simp -dsimp (disch := omega) only [↓bp0, bd0, bd_QD, evStore, evRange, cNt, tk4, putsE, envPut, hE1_0a, hE1_0b, hE1_1a, hE1_1b, hE1_2a, hE1_2b, hE1_3a, hE1_3b, hE1_4a, hE1_4b, hE1_5a, hE1_5b, hE1_6a, hE1_6b, hE1_7a, hE1_7b, hE1_8a, hE1_8b, hE1_9a, hE1_9b, hE1_10a, hE1_10b, hF2_0a, hF2_0b, hF2_1a, hF2_1b, hF2_2a, hF2_2b, hF2_3a, hF2_3b, hF2_4a, hF2_4b, hF2_5a, hF2_5b, hF2_6a, hF2_6b, hF2_7a, hF2_7b, hF2_8a, hF2_8b, hF2_9a, hF2_9b, hF2_10a, hF2_10b, hF2_11a, hF2_11b, hF2_12a, hF2_12b, simprocAttr])⟩
      try simp -dsimp (disch := omega) only [↓bp0, bd0, bd_QD, evStore, evRange, cNt, tk4, putsE, envPut, vcj, implies_true, hE1_0a, hE1_0b, hE1_1a, hE1_1b, hE1_2a, hE1_2b, hE1_3a, hE1_3b, hE1_4a, hE1_4b, hE1_5a, hE1_5b, hE1_6a, hE1_6b, hE1_7a, hE1_7b, hE1_8a, hE1_8b, hE1_9a, hE1_9b, hE1_10a, hE1_10b, hF2_0a, hF2_0b, hF2_1a, hF2_1b, hF2_2a, hF2_2b, hF2_3a, hF2_3b, hF2_4a, hF2_4b, hF2_5a, hF2_5b, hF2_6a, hF2_6b, hF2_7a, hF2_7b, hF2_8a, hF2_8b, hF2_9a, hF2_9b, hF2_10a, hF2_10b, hF2_11a, hF2_11b, hF2_12a, hF2_12b, simprocAttr]
      refine ⟨fun τ hτ => by simp -dsimp (disch := omega) only [↓bp0, bd0, bd_QD, evStore, evRange, cNt, tk4, hτ.1, simprocAttr], ?_⟩
      try simp -dsimp (disch := omega) only [↓bp0, bd0, bd_QD, evStore, evRange, cNt, tk4, putsE, envPut, vcj, implies_true, hE1_0a, hE1_0b, hE1_1a, hE1_1b, hE1_2a, hE1_2b, hE1_3a, hE1_3b, hE1_4a, hE1_4b, hE1_5a, hE1_5b, hE1_6a, hE1_6b, hE1_7a, hE1_7b, hE1_8a, hE1_8b, hE1_9a, hE1_9b, hE1_10a, hE1_10b, hF2_0a, hF2_0b, hF2_1a, hF2_1b, hF2_2a, hF2_2b, hF2_3a, hF2_3b, hF2_4a, hF2_4b, hF2_5a, hF2_5b, hF2_6a, hF2_6b, hF2_7a, hF2_7b, hF2_8a, hF2_8b, hF2_9a, hF2_9b, hF2_10a, hF2_10b, hF2_11a, hF2_11b, hF2_12a, hF2_12b, simprocAttr]
      refine ⟨fun τ hτ => by simp -dsimp (disch := omega) only [↓bp0, bd0, bd_QD, evStore, evRange, cNt, tk4, hτ.2, simprocAttr], ?_⟩
      try simp -dsimp (disch := omega) only [↓bp0, bd0, bd_QD, evStore, evRange, cNt, tk4, putsE, envPut, vcj, implies_true, hE1_0a, hE1_0b, hE1_1a, hE1_1b, hE1_2a, hE1_2b, hE1_3a, hE1_3b, hE1_4a, hE1_4b, hE1_5a, hE1_5b, hE1_6a, hE1_6b, hE1_7a, hE1_7b, hE1_8a, hE1_8b, hE1_9a, hE1_9b, hE1_10a, hE1_10b, hF2_0a, hF2_0b, hF2_1a, hF2_1b, hF2_2a, hF2_2b, hF2_3a, hF2_3b, hF2_4a, hF2_4b, hF2_5a, hF2_5b, hF2_6a, hF2_6b, hF2_7a, hF2_7b, hF2_8a, hF2_8b, hF2_9a, hF2_9b, hF2_10a, hF2_10b, hF2_11a, hF2_11b, hF2_12a, hF2_12b, simprocAttr]
      simp -dsimp (disch := omega) only [↓bp0, bd0, bd_QD, evStore, evRange, cNt, tk4, retQ, resL, finL, newL, flat, tupOf, List.toList_toArray, Tryz.f43, rndQ, bldMk0, drcs, drc, dr1, lastMk, lastKd, lastEr, Option.getD_some, hev, hE1_0a, hE1_0b, hE1_1a, hE1_1b, hE1_2a, hE1_2b, hE1_3a, hE1_3b, hE1_4a, hE1_4b, hE1_5a, hE1_5b, hE1_6a, hE1_6b, hE1_7a, hE1_7b, hE1_8a, hE1_8b, hE1_9a, hE1_9b, hE1_10a, hE1_10b, hF2_0a, hF2_0b, hF2_1a, hF2_1b, hF2_2a, hF2_2b, hF2_3a, hF2_3b, hF2_4a, hF2_4b, hF2_5a, hF2_5b, hF2_6a, hF2_6b, hF2_7a, hF2_7b, hF2_8a, hF2_8b, hF2_9a, hF2_9b, hF2_10a, hF2_10b, hF2_11a, hF2_11b, hF2_12a, hF2_12b, simprocAttr]
      exact ⟨.rfl', .rfl', .rfl', trivial⟩
  · rintro σ nx ⟨hnx, hpre, rfl⟩
    have hfind := find_rev0 (p := fun m => decide (cls0 l.known (evAt l m).chg = c)) hpre
    rw [hfind]
    subst hS0
    simp -dsimp (disch := omega) only [↓bp0, bd0, bd_QD, evStore, evRange, cNt, tk4, retQ, resL, finL, newL, flat, tupOf, List.toList_toArray, Tryz.f43, bldMk0, drcs, drc, dr1, lastMk, lastKd, lastEr, Option.getD_none, Int.natCast_zero, hE1_0a, hE1_0b, hE1_1a, hE1_1b, hE1_2a, hE1_2b, hE1_3a, hE1_3b, hE1_4a, hE1_4b, hE1_5a, hE1_5b, hE1_6a, hE1_6b, hE1_7a, hE1_7b, hE1_8a, hE1_8b, hE1_9a, hE1_9b, hE1_10a, hE1_10b, simprocAttr]
    exact ⟨.rfl', .rfl', .rfl', trivial⟩
end Go.Ab
end

section
/- What NotesOnce asks, in plain terms. -/
set_option maxRecDepth 1000000
set_option maxHeartbeats 8000000
namespace Go.Ab
open Go Go.Proofs Go.Sort
theorem lastK_at {f : Str → Int} : ∀ {v : List Ev} {p : Nat} {e : Ev}, v[p]? = some e → (∀ x ∈ v.drop (p + 1), f x.chg ≠ f e.chg) → lastK f v (f e.chg) = some e.kind
  | [], p, e, h, _ => by simp at h
  | a :: r, 0, e, h, hn => by
    simp only [List.getElem?_cons_zero, Option.some.injEq] at h
    subst h
    have h1 : lastK f r (f a.chg) = none := by
      cases hq : lastK f r (f a.chg) with
      | none => rfl
      | some k =>
        obtain ⟨x, hx, e⟩ := lastK_some (f := f) (es := r) (c := f a.chg) (by rw [hq]; rfl)
        exact absurd e (hn x (by simpa using hx))
    rw [lastK, h1]
    simp
  | a :: r, p + 1, e, h, hn => by
    have ih := lastK_at (f := f) (v := r) (p := p) (e := e) (by simpa using h) (fun x hx => hn x (by simpa using hx))
    rw [lastK, ih]
theorem lastsF_at {f : Str → Int} {v : List Ev} {cs : List Int} {t : Nt} (h : t ∈ lastsF f v cs) : ∃ (p : Nat) (e : Ev), t.pl = (p : Int) ∧ v[p]? = some e ∧ t.chg = e.chg ∧ t.kind = e.kind ∧ lastK f v t.cls = some t.kind ∧ t.cls ∈ cs := by
  obtain ⟨i, hi, rfl⟩ := List.mem_map.1 h
  have hs := (List.mem_filter.1 hi).2
  unfold selB at hs
  cases hx : v[i]? with
  | none => rw [hx] at hs; cases hs
  | some e =>
    rw [hx] at hs
    simp only [Bool.and_eq_true, Bool.not_eq_true'] at hs
    obtain ⟨h1, h2⟩ := hs
    obtain ⟨y, hy, e1⟩ := List.any_eq_true.1 h2
    rw [decide_eq_true_iff] at e1
    rw [List.any_eq_false] at h1
    refine ⟨i, e, by rw [ntAt, hx], hx, by rw [ntAt, hx], by rw [ntAt, hx], ?_, by rw [ntAt, hx]; show f e.chg ∈ cs; rw [e1]; exact hy⟩
    rw [ntAt, hx]
    exact lastK_at hx fun x hx' he => h1 x hx' (by simp [he])
theorem lastsF_inc {f : Str → Int} {v : List Ev} {cs : List Int} : (lastsF f v cs).Pairwise fun a b => a.pl < b.pl ∧ 0 ≤ a.pl := by
  rw [lastsF, List.pairwise_map]
  refine List.Pairwise.imp_of_mem ?_ (List.pairwise_lt_range.filter _)
  intro i j hi hj hij
  have h1 := List.mem_range.1 (List.mem_filter.1 hi).1
  have h2 := List.mem_range.1 (List.mem_filter.1 hj).1
  rw [ntAt, ntAt, List.getElem?_eq_getElem h1, List.getElem?_eq_getElem h2]
  simp only
  omega
theorem lastM_K (l : Ldg) (f : Str → Int) (c : Int) : ∀ v : List (Nat × Nat), ((v.reverse.find? fun m => decide (f (evAt l m).chg = c)).map fun m => (evAt l m).kind) = lastK f (v.map (evAt l)) c
  | [] => rfl
  | a :: r => by
    have ih := lastM_K l f c r
    rw [List.reverse_cons, List.find?_append, List.map_cons, lastK, ← ih]
    cases r.reverse.find? fun m => decide (f (evAt l m).chg = c) with
    | some m => rfl
    | none =>
      by_cases h : f (evAt l a).chg = c
      · simp [h]
      · simp [h]
theorem lastM_of {l : Ldg} {b : Str} {c : Int} {o : Option Int} (hb : (lview l b).2 = 0) (h : lastK (clsI l.known) (evV l b) c = o) : (lastM l b c).map (fun m => (evAt l m).kind) = o := by
  have h1 := lastM_K l (cls0 l.known) c (lview l b).1
  rw [lastM, h1]
  have : lastK (cls0 l.known) (evV l b) c = lastK (clsI l.known) (evV l b) c := lastK_congr (fun e he => cls_eq (evV_ok hb he).2) c
  rw [← h, ← this]; rfl
theorem srtN_le (O : List Nt) : (srtN O).Pairwise fun a b => a.cls ≤ b.cls := by
  rw [srtN, List.pairwise_map, srtA]
  refine List.Pairwise.imp ?_ (List.pairwise_mergeSort (le := fun x y => !(ltOf (cfA O)) y x) (fun a b c h1 h2 => ?_) (fun a b => ?_) (List.finRange O.length))
  · intro a b h
    rw [Bool.not_eq_true', ltOf_Af] at h
    omega
  · rw [Bool.not_eq_true', ltOf_Af] at *
    omega
  · rw [Bool.or_eq_true, Bool.not_eq_true', Bool.not_eq_true', ltOf_Af, ltOf_Af]
    omega
theorem onlyL_in {f : Str → Int} {s t : List Ev} {c : Int} (h : c ∈ onlyL f s t) : inB f s c = true ∧ inB f t c = false := by
  obtain ⟨k, h1, h2⟩ := lst_mem _ _ _ h
  have hk : k < 30 := by have := (List.getElem?_eq_some_iff.1 h2).1; rw [onlyP_len] at this; exact this
  rw [onlyP_get hk, Option.some.injEq, Bool.and_eq_true, Bool.not_eq_true'] at h2
  rw [h1, Nat.zero_add]
  exact h2
def XAt (v : List Ev) (n : Nt) : Prop := ∃ (p : Nat) (e : Ev), n.pl = (p : Int) ∧ v[p]? = some e ∧ e.chg = n.chg ∧ e.kind = n.kind ∧ n.kind ≠ 3
def YAt (l : Ldg) (b : Str) (v : List Ev) (n : Nt) : Prop := (n.pl = -1 ∧ lastM l b n.cls = none) ∨ ∃ (p : Nat) (e : Ev) (m : Nat × Nat), n.pl = (p : Int) ∧ v[p]? = some e ∧ e.chg = n.chg ∧ n.kind = 3 ∧ lastM l b n.cls = some m ∧ (evAt l m).kind = 3
def YBf (n m : Nt) : Prop := (n.pl = -1 ∧ m.pl = -1 ∧ n.cls < m.cls) ∨ (n.pl < m.pl ∧ 0 ≤ m.pl)
structure OnceP (l : Ldg) (b : Str) (X Y : List Nt) (A B : List Int) : Prop where
  xl : X.length = B.length
  xi : ∀ n ∈ X, n.cls ∈ B
  xu : X.Pairwise fun a b => a.cls ≠ b.cls
  yl : Y.length = A.length
  yi : ∀ n ∈ Y, n.cls ∈ A
  yu : Y.Pairwise fun a b => a.cls ≠ b.cls
  xa : ∀ n ∈ X, XAt (evV l b) n
  xp : X.Pairwise fun a b => a.pl < b.pl
  ya : ∀ n ∈ Y, YAt l b (evV l b) n
  yp : Y.Pairwise YBf
theorem once_ok {l : Ldg} {a b : Str} (ha : (lview l a).2 = 0) (hb : (lview l b).2 = 0) : OnceP l b (nnews l a b).1 (ngone l a b).1 (ldiff l a b).1 (ldiff l a b).2.1 := by
  have d1 := ldiff_of ha hb
  have e1 : nnews l a b = (lastsF (clsI l.known) (evV l b) (onlyL (cls0 l.known) (evV l b) (evV l a)), 0) := by rw [nnews, d1]; simp
  have e2 : ngone l a b = (srtN (goneO (clsI l.known) (evV l a) (evV l b) (onlyL (cls0 l.known) (evV l a) (evV l b))) ++ lastsF (clsI l.known) (evV l b) (onlyL (cls0 l.known) (evV l a) (evV l b)), 0) := by rw [ngone, d1]; simp
  have hfA : ∀ e ∈ evV l a, cls0 l.known e.chg = clsI l.known e.chg := fun e he => cls_eq (evV_ok ha he).2
  have hfB : ∀ e ∈ evV l b, cls0 l.known e.chg = clsI l.known e.chg := fun e he => cls_eq (evV_ok hb he).2
  have hiB : ∀ c, inB (cls0 l.known) (evV l b) c = inB (clsI l.known) (evV l b) c := fun c => inB_congr hfB c
  obtain ⟨t1, t2⟩ := turn_cls (f := clsI l.known) (f0 := cls0 l.known) (s := evV l b) (t := evV l a) hfA
  have hm : ∀ c, c ∈ onlyL (cls0 l.known) (evV l b) (evV l a) ↔ c ∈ clsN (lastsF (clsI l.known) (evV l b) (onlyL (cls0 l.known) (evV l b) (evV l a))) := fun c => by
    rw [mem_lastsF]
    refine ⟨fun h => ⟨h, ?_⟩, fun h => h.1⟩
    obtain ⟨e, he, h1⟩ := onlyL_mem h
    exact ⟨e, he, by rw [← hfB e he]; exact h1⟩
  have hmA : ∀ c, c ∈ onlyL (cls0 l.known) (evV l a) (evV l b) ↔ c ∈ clsN (lastsF (clsI l.known) (evV l a) (onlyL (cls0 l.known) (evV l a) (evV l b))) := fun c => by
    rw [mem_lastsF]
    refine ⟨fun h => ⟨h, ?_⟩, fun h => h.1⟩
    obtain ⟨e, he, h1⟩ := onlyL_mem h
    exact ⟨e, he, by rw [← hfA e he]; exact h1⟩
  have hYm : ∀ c, c ∈ clsN (ngone l a b).1 ↔ c ∈ onlyL (cls0 l.known) (evV l a) (evV l b) := fun c => by
    rw [e2, t2, ← hmA]
  rw [d1]
  refine ⟨?_, fun n hn => ?_, ?_, ?_, fun n hn => ?_, ?_, fun n hn => ?_, ?_, fun n hn => ?_, ?_⟩
  · rw [e1]
    have := ((List.perm_ext_iff_of_nodup nodup_lastsF onlyL_nodup).2 fun c => (hm c).symm).length_eq
    simpa [clsN] using this
  · rw [e1] at hn; exact (hm n.cls).2 (List.mem_map.2 ⟨n, hn, rfl⟩)
  · rw [e1]; exact lastsF_pw
  · have h3 : (clsN (ngone l a b).1).Nodup := by rw [e2]; exact t1
    have := ((List.perm_ext_iff_of_nodup h3 onlyL_nodup).2 hYm).length_eq
    simpa [clsN] using this
  · exact (hYm n.cls).1 (List.mem_map.2 ⟨n, hn, rfl⟩)
  · rw [e2]
    have := t1
    rw [clsN, List.nodup_iff_pairwise_ne, List.pairwise_map] at this
    exact this
  · rw [e1] at hn
    obtain ⟨p, e, h1, h2, h3, h4, h5, h6⟩ := lastsF_at hn
    refine ⟨p, e, h1, h2, h3.symm, h4.symm, ?_⟩
    have h7 := (onlyL_in h6).1
    rw [hiB, inB, h5] at h7
    simpa using h7
  · rw [e1]; exact lastsF_inc.imp fun h => h.1
  · rw [e2] at hn
    rcases List.mem_append.1 hn with h | h
    · left
      have h' := (srtN_perm _).mem_iff.1 h
      obtain ⟨t, ht, rfl⟩ := List.mem_map.1 h'
      refine ⟨rfl, ?_⟩
      obtain ⟨p, e, _, _, _, _, _, h6⟩ := lastsF_at ht
      obtain ⟨h7, h8⟩ := List.mem_filter.1 h6
      have h9 : lastK (clsI l.known) (evV l b) t.cls = none := by
        cases hq : lastK (clsI l.known) (evV l b) t.cls with
        | none => rfl
        | some k =>
          exfalso
          obtain ⟨x, hx, e⟩ := lastK_some (f := clsI l.known) (es := evV l b) (c := t.cls) (by rw [hq]; rfl)
          have : t.cls ∈ clsN (lastsF (clsI l.known) (evV l b) (onlyL (cls0 l.known) (evV l a) (evV l b))) := (mem_lastsF _).2 ⟨h7, x, hx, e⟩
          obtain ⟨q, hq1, hq2⟩ := List.mem_map.1 this
          have : toldN (lastsF (clsI l.known) (evV l b) (onlyL (cls0 l.known) (evV l a) (evV l b))) t.cls = true := List.any_eq_true.2 ⟨q, hq1, by simpa using hq2⟩
          rw [this] at h8; cases h8
      have := lastM_of hb h9
      exact Option.map_eq_none_iff.1 this
    · right
      obtain ⟨p, e, h1, h2, h3, h4, h5, h6⟩ := lastsF_at h
      have h7 := (onlyL_in h6).2
      rw [hiB, inB, h5] at h7
      have hk : n.kind = 3 := by simpa using h7
      have := lastM_of hb h5
      obtain ⟨m, hm1, hm2⟩ := Option.map_eq_some_iff.1 this
      exact ⟨p, e, m, h1, h2, h3.symm, hk, hm1, by rw [hm2, hk]⟩
  · rw [e2]
    have hneg : ∀ n ∈ srtN (goneO (clsI l.known) (evV l a) (evV l b) (onlyL (cls0 l.known) (evV l a) (evV l b))), n.pl = -1 := fun n hn => by
      have h' := (srtN_perm _).mem_iff.1 hn
      obtain ⟨t, ht, rfl⟩ := List.mem_map.1 h'
      rfl
    have hnd : (srtN (goneO (clsI l.known) (evV l a) (evV l b) (onlyL (cls0 l.known) (evV l a) (evV l b)))).Pairwise fun a b => a.cls ≠ b.cls := by
      have := t1
      rw [clsN, List.map_append, List.nodup_append] at this
      have := this.1
      rw [List.nodup_iff_pairwise_ne, List.pairwise_map] at this
      exact this
    refine List.pairwise_append.2 ⟨?_, lastsF_inc.imp fun h => .inr ⟨h.1, by omega⟩, fun x hx y hy => ?_⟩
    · refine List.Pairwise.imp_of_mem ?_ ((srtN_le _).and hnd)
      intro x y hx hy h
      exact .inl ⟨hneg x hx, hneg y hy, by omega⟩
    · obtain ⟨p, e, h1, _⟩ := lastsF_at hy
      right
      rw [hneg x hx]; omega
end Go.Ab
end
