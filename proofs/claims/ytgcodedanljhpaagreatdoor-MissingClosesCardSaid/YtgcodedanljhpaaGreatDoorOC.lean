/- ledger.Append. -/
import Derived.Test.YtgcodedanljhpaaGreatDoorOB
import Derived.Test.YtgcodedanljhpaaGreatDoorLPa
set_option linter.unusedSimpArgs false
set_option linter.unusedVariables false
set_option maxRecDepth 1000000
set_option maxHeartbeats 16000000
namespace Go.Ab
open Go Go.Proofs
theorem bd_OC : type_of% (And.intro @evNext.eq_1 (And.intro @fld (And.intro @nit (And.intro @nxE (And.intro @ovR (And.intro @evBin_seql (And.intro @evBin_sneq (And.intro @str.eq_1 (And.intro @u8.eq_1 (And.intro @encBrs.eq_1 (And.intro @cBr.eq_1 (And.intro @encLdg.eq_1 (And.intro @encKws.eq_1 (And.intro @cKw.eq_1 (And.intro @encEvss.eq_1 (And.intro @encEvs.eq_1 (And.intro @cEv.eq_1 (And.intro @encMks.eq_1 (And.intro @cMk.eq_1 (And.intro @tk2 (And.intro @tk3 (And.intro @List.set_cons_succ.{0} (And.intro @List.getElem?_cons_zero.{0} (And.intro @List.getElem?_cons_succ.{0} (@List.length_set.{0}))))))))))))))))))))))))) := And.intro @evNext.eq_1 (And.intro @fld (And.intro @nit (And.intro @nxE (And.intro @ovR (And.intro @evBin_seql (And.intro @evBin_sneq (And.intro @str.eq_1 (And.intro @u8.eq_1 (And.intro @encBrs.eq_1 (And.intro @cBr.eq_1 (And.intro @encLdg.eq_1 (And.intro @encKws.eq_1 (And.intro @cKw.eq_1 (And.intro @encEvss.eq_1 (And.intro @encEvs.eq_1 (And.intro @cEv.eq_1 (And.intro @encMks.eq_1 (And.intro @cMk.eq_1 (And.intro @tk2 (And.intro @tk3 (And.intro @List.set_cons_succ.{0} (And.intro @List.getElem?_cons_zero.{0} (And.intro @List.getElem?_cons_succ.{0} (@List.length_set.{0}))))))))))))))))))))))))
theorem ClsM.ex (l : List Kw) : ∃ kvs, ClsM l kvs := by
  have : ∀ n, n ≤ l.length → ∃ kvs, ClsM (l.take n) kvs := by
    intro n
    induction n with
    | zero => intro _; exact ⟨[], by rw [List.take_zero]; exact .nil⟩
    | succ n ih =>
      intro hn
      obtain ⟨kvs, h⟩ := ih (by omega)
      have hx : l[n]? = some l[n] := List.getElem?_eq_getElem (by omega)
      rw [take_succ hx]
      cases hc : clsLast (l.take n) l[n].chg with
      | none => exact ⟨_, h.new 0 hc⟩
      | some m => exact ⟨_, h.old hc⟩
  obtain ⟨kvs, h⟩ := this l.length (Nat.le_refl _)
  rw [List.take_length] at h
  exact ⟨kvs, h⟩
def lappE (l : Ldg) (n : Str) (x : Ev) : Int :=
  if (lview l n).2 ≠ 0 then (lview l n).2 else if clsOf l.known x.chg = none then 6 else if (l.evs.getD (idx l.brs n).toNat []).length = 40 then 4
  else alwC (cls0 l.known) (seenE l (lview l n).1) x.kind (cls0 l.known x.chg)
def lapp (l : Ldg) (n : Str) (x : Ev) : Ldg := { l with evs := l.evs.set (idx l.brs n).toNat (l.evs.getD (idx l.brs n).toNat [] ++ [x]) }
def encApp (l : Ldg) (n : Str) (x : Ev) : PV := if lappE l n x = 0 then encLdg (lapp l n x) else .agg [.lit (.slice none 0 0), .lit (.slice none 0 0), .lit (.slice none 0 0)]
theorem d_Append1 (b : Br) (n : Str) : CallSpec cx 77 [agBr b, .cptr [str n]] (bl (decide (b.name = n))) := by
  refine callSpec_of_vc Tryz.func77 rfl (by decide) (by kernel_rfl) (Nat.le_of_ble_eq_true rfl) ?_
  simp -dsimp (maxSteps := 9^9) (disch := first | omega | decide +kernel) only [↓bp0, bd0, bd_OC, reduceIte, Nat.reduceEqDiff, evStore, Nat.reduceAdd, Nat.reduceMul, Int.reduceEq, Int.reduceLT, Int.reduceLE, Nat.reduceLeDiff, List.reduceReplicate, reduceCtorEq, evRange, Nat.reduceLT, retQ, resL, finL, newL, flat, tupOf, List.toList_toArray, Tryz.f77, agBr, cBr, List.set_cons_succ, List.getElem?_cons_zero, List.getElem?_cons_succ, Nat.reduceLT, List.length_set]
  exact leT_one .rfl' (by simp)
theorem jcLook : ∀ {C N J D E ops k dst a b c e ty pos after g st K}, jcOp C N J D E ops k ⟨dst, .lookup a b c e, ty, pos, after, g⟩ st K = if inD D k = true then onJ J (fun σ => evq C σ st.env (.lookup a b c e)) st.σ (fun p => K (st.put dst p)) else onQ (evq C st.σ st.env (.lookup a b c e)) fun p => K (st.put dst p) := rfl
theorem zLdg : evBuild cx 26 [] = some (.agg [.lit (.slice none 0 0), .lit (.slice none 0 0), .lit (.slice none 0 0)]) := by kernel_rfl
theorem d_Append (l : Ldg) (n : Str) (x : Ev) (hz : LSz l) : CallSpec cx 29 [encLdg l, str n, .agg (cEv x)] (.tup [encApp l n x, i64 (lappE l n x)]) := by
  refine callSpec_of_vc Tryz.func29 rfl (by decide) (by kernel_rfl) (Nat.le_of_ble_eq_true rfl) ?_
  try simp -dsimp (maxSteps := 9^9) (disch := first | omega | decide +kernel) only [↓bp0, bd0, bd_OC, reduceIte, Nat.reduceEqDiff, evStore, Nat.reduceAdd, Nat.reduceMul, Int.reduceEq, Int.reduceLT, Int.reduceLE, Nat.reduceLeDiff, List.reduceReplicate, reduceCtorEq, evRange, Nat.reduceLT, Tryz.f29, zLdg]
  refine CallQ.imm (d_lview l n hz) (by rfl) (by first | rfl | (simp -dsimp (maxSteps := 9^9) (disch := first | omega | decide +kernel) only [↓bp0, bd0, bd_OC, reduceIte, Nat.reduceEqDiff, evStore, Nat.reduceAdd, Nat.reduceMul, Int.reduceEq, Int.reduceLT, Int.reduceLE, Nat.reduceLeDiff, List.reduceReplicate, reduceCtorEq, evRange, Nat.reduceLT, drcs, drc, flat]; done) | simp -dsimp [evl, drcs, drc, flat, i64, u32, bl, encL, encB, encLL]) (by first | exact .inl rfl | exact .inr rfl | exact .inr scalB | exact .inr scalI | exact .inr scalT | exact .inr scalM | exact .inr scalMT) ?_
  cases h0 : decide ((lview l n).2 = 0)
  · have e1 : lappE l n x = (lview l n).2 := by rw [lappE, if_pos (of_decide_eq_false h0)]
    rw [encApp, e1, if_neg (of_decide_eq_false h0)]
    try simp -dsimp (maxSteps := 9^9) (disch := first | omega | decide +kernel) only [↓bp0, bd0, bd_OC, reduceIte, Nat.reduceEqDiff, evStore, Nat.reduceAdd, Nat.reduceMul, Int.reduceEq, Int.reduceLT, Int.reduceLE, Nat.reduceLeDiff, List.reduceReplicate, reduceCtorEq, evRange, Nat.reduceLT, h0, zLdg]
    simp -dsimp (maxSteps := 9^9) (disch := first | omega | decide +kernel) only [↓bp0, bd0, bd_OC, reduceIte, Nat.reduceEqDiff, evStore, Nat.reduceAdd, Nat.reduceMul, Int.reduceEq, Int.reduceLT, Int.reduceLE, Nat.reduceLeDiff, List.reduceReplicate, reduceCtorEq, evRange, Nat.reduceLT, retQ, resL, finL, newL, flat, tupOf, List.toList_toArray, Tryz.f29, h0, zLdg, drcs, drc]
    exact leT_refl _
  have h0' := of_decide_eq_true h0
  obtain ⟨hok, i, hib, hidx, hv⟩ := lview_ok h0'
  obtain ⟨q1, q2, q3, q4⟩ := fold_pre h0'
  have hie : i < l.evs.length := by have := hok.len; omega
  obtain ⟨own, hx, hxm⟩ := get_of_lt hie
  obtain ⟨kvs0, hk0⟩ := ClsM.ex l.known
  try simp -dsimp (maxSteps := 9^9) (disch := first | omega | decide +kernel) only [↓bp0, bd0, bd_OC, reduceIte, Nat.reduceEqDiff, evStore, Nat.reduceAdd, Nat.reduceMul, Int.reduceEq, Int.reduceLT, Int.reduceLE, Nat.reduceLeDiff, List.reduceReplicate, reduceCtorEq, evRange, Nat.reduceLT, h0]
  refine vc_regJ (fun τ => τ 0 = some (.row 0 3 [[encKws l.known, encBrs l.brs, encEvss l.evs]] false) ∧ τ 2 = some (.row 0 2 [cEv x] false)) [0, 2, 3] [1] (by kernel_rfl) (by kernel_rfl) ?_ ?_
  · exact (by simp -dsimp (maxSteps := 9^9) (disch := first | omega | decide +kernel) only [↓bp0, bd0, bd_OC, reduceIte, Nat.reduceEqDiff, evStore, Nat.reduceAdd, Nat.reduceMul, Int.reduceEq, Int.reduceLT, Int.reduceLE, Nat.reduceLeDiff, List.reduceReplicate, reduceCtorEq, evRange, Nat.reduceLT])
  try simp -dsimp (maxSteps := 9^9) (disch := first | omega | decide +kernel) only [↓bp0, bd0, bd_OC, reduceIte, Nat.reduceEqDiff, evStore, Nat.reduceAdd, Nat.reduceMul, Int.reduceEq, Int.reduceLT, Int.reduceLE, Nat.reduceLeDiff, List.reduceReplicate, reduceCtorEq, evRange, Nat.reduceLT, vcj, implies_true]
  refine ⟨fun τ hτ => by simp -dsimp (maxSteps := 9^9) (disch := first | omega | decide +kernel) only [↓bp0, bd0, bd_OC, reduceIte, Nat.reduceEqDiff, evStore, Nat.reduceAdd, Nat.reduceMul, Int.reduceEq, Int.reduceLT, Int.reduceLE, Nat.reduceLeDiff, List.reduceReplicate, reduceCtorEq, evRange, Nat.reduceLT, hτ], ?_⟩
  refine EffQ.inm (d_classes l hz.known _ _) ⟨.mp _, _, _, _, kvs0, 0, Nat.le_refl _, Nat.lt_succ_self _, rfl, rfl, hk0⟩ (by rfl) ?_
  rintro r σ' nx1 ⟨idm, kvs, clock, hm1, hm2, rfl, rfl, hM⟩
  simp only [St.put] at hm1
  have hm0 : 4 ≤ idm := hm1
  have E1 : (idm = 0) = False := eq_false (by omega)
  have E2 : (idm = 1) = False := eq_false (by omega)
  have E3 : (idm = 2) = False := eq_false (by omega)
  have E4 : (idm = 3) = False := eq_false (by omega)
  have E5 : (0 = idm) = False := eq_false (by omega)
  have E6 : (1 = idm) = False := eq_false (by omega)
  have E7 : (2 = idm) = False := eq_false (by omega)
  have E8 : (3 = idm) = False := eq_false (by omega)
  refine ⟨.inr (by simp -dsimp (maxSteps := 9^9) (disch := first | omega | decide +kernel) only [↓bp0, bd0, bd_OC, reduceIte, Nat.reduceEqDiff, evStore, Nat.reduceAdd, Nat.reduceMul, Int.reduceEq, Int.reduceLT, Int.reduceLE, Nat.reduceLeDiff, List.reduceReplicate, reduceCtorEq, evRange, Nat.reduceLT, E1, E2, E3, E4, E5, E6, E7, E8]), ?_⟩
  have hfp : findP .string (.string x.chg) kvs = some ((clsLast l.known x.chg).map fun n => .lit (.int .i64 n)) := hM.map x.chg
  rw [cls_nodup hok.nodup] at hfp
  try simp -dsimp (maxSteps := 9^9) (disch := first | omega | decide +kernel) only [↓bp0, bd0, bd_OC, reduceIte, Nat.reduceEqDiff, evStore, Nat.reduceAdd, Nat.reduceMul, Int.reduceEq, Int.reduceLT, Int.reduceLE, Nat.reduceLeDiff, List.reduceReplicate, reduceCtorEq, evRange, Nat.reduceLT, vcj, jcLook, implies_true, E1, E2, E3, E4, E5, E6, E7, E8]
  refine ⟨fun τ hτ => by simp -dsimp (maxSteps := 9^9) (disch := first | omega | decide +kernel) only [↓bp0, bd0, bd_OC, reduceIte, Nat.reduceEqDiff, evStore, Nat.reduceAdd, Nat.reduceMul, Int.reduceEq, Int.reduceLT, Int.reduceLE, Nat.reduceLeDiff, List.reduceReplicate, reduceCtorEq, evRange, Nat.reduceLT, hτ], ?_⟩
  cases hcl : clsOf l.known x.chg with
  | none =>
    rw [hcl] at hfp
    have e1 : lappE l n x = 6 := by rw [lappE, if_neg (by rw [Decidable.not_not]; exact h0'), if_pos hcl]
    rw [encApp, e1, if_neg (by decide)]
    try simp -dsimp (maxSteps := 9^9) (disch := first | omega | decide +kernel) only [↓bp0, bd0, bd_OC, reduceIte, Nat.reduceEqDiff, evStore, Nat.reduceAdd, Nat.reduceMul, Int.reduceEq, Int.reduceLT, Int.reduceLE, Nat.reduceLeDiff, List.reduceReplicate, reduceCtorEq, evRange, Nat.reduceLT, vcj, jcLook, implies_true, E1, E2, E3, E4, E5, E6, E7, E8, evLookup, keyS, hfp, Option.map_none, uUn, Option.bind_some, zLdg]
    simp -dsimp (maxSteps := 9^9) (disch := first | omega | decide +kernel) only [↓bp0, bd0, bd_OC, reduceIte, Nat.reduceEqDiff, evStore, Nat.reduceAdd, Nat.reduceMul, Int.reduceEq, Int.reduceLT, Int.reduceLE, Nat.reduceLeDiff, List.reduceReplicate, reduceCtorEq, evRange, Nat.reduceLT, retQ, resL, finL, newL, flat, tupOf, List.toList_toArray, Tryz.f29, E1, E2, E3, E4, E5, E6, E7, E8, zLdg, uUn, drcs, drc]
    exact leT_refl _
  | some n0 =>
    rw [hcl] at hfp
    obtain ⟨c, hc, hc30⟩ := hok.pok.cls x.chg
    have hn0 : n0 = (c : Int) := by rw [← hc, cls0, hcl]; rfl
    subst hn0
    try simp -dsimp (maxSteps := 9^9) (disch := first | omega | decide +kernel) only [↓bp0, bd0, bd_OC, reduceIte, Nat.reduceEqDiff, evStore, Nat.reduceAdd, Nat.reduceMul, Int.reduceEq, Int.reduceLT, Int.reduceLE, Nat.reduceLeDiff, List.reduceReplicate, reduceCtorEq, evRange, Nat.reduceLT, vcj, jcLook, implies_true, E1, E2, E3, E4, E5, E6, E7, E8, evLookup, keyS, hfp, Option.map_some, uUn, Option.bind_some]
    refine CallQ.imm (lb_index l.brs (by have := hz.brs; omega) 77 [.cptr [str n]] rfl _ fun b _ => d_Append1 b n) (by rfl) (by first | rfl | (simp -dsimp (maxSteps := 9^9) (disch := first | omega | decide +kernel) only [↓bp0, bd0, bd_OC, reduceIte, Nat.reduceEqDiff, evStore, Nat.reduceAdd, Nat.reduceMul, Int.reduceEq, Int.reduceLT, Int.reduceLE, Nat.reduceLeDiff, List.reduceReplicate, reduceCtorEq, evRange, Nat.reduceLT, drcs, drc, flat, E1, E2, E3, E4, E5, E6, E7, E8]; done) | simp -dsimp [evl, drcs, drc, flat, i64, u32, bl, encL, encB, encLL]) (by first | exact .inl rfl | exact .inr rfl | exact .inr scalB | exact .inr scalI | exact .inr scalT | exact .inr scalM | exact .inr scalMT) ?_
    have hidx' : (idx l.brs n).toNat = i := by rw [hidx]; rfl
    have hfi : fi (fun b : Br => decide (b.name = n)) l.brs = (i : Int) := hidx
    have hgd : l.evs.getD i [] = own := by rw [List.getD_eq_getElem?_getD, hx]; rfl
    cases h40 : decide ((own.length : Int) = 40)
    rotate_left
    · have h40' : own.length = 40 := by have := of_decide_eq_true h40; omega
      have e1 : lappE l n x = 4 := by rw [lappE, if_neg (by rw [Decidable.not_not]; exact h0'), if_neg (by rw [hcl]; exact Option.some_ne_none _), hidx', hgd, if_pos h40']
      rw [encApp, e1, if_neg (by decide)]
      try simp -dsimp (maxSteps := 9^9) (disch := first | omega | decide +kernel) only [↓bp0, bd0, bd_OC, reduceIte, Nat.reduceEqDiff, evStore, Nat.reduceAdd, Nat.reduceMul, Int.reduceEq, Int.reduceLT, Int.reduceLE, Nat.reduceLeDiff, List.reduceReplicate, reduceCtorEq, evRange, Nat.reduceLT, E1, E2, E3, E4, E5, E6, E7, E8, hfi, hx, h40, zLdg]
      simp -dsimp (maxSteps := 9^9) (disch := first | omega | decide +kernel) only [↓bp0, bd0, bd_OC, reduceIte, Nat.reduceEqDiff, evStore, Nat.reduceAdd, Nat.reduceMul, Int.reduceEq, Int.reduceLT, Int.reduceLE, Nat.reduceLeDiff, List.reduceReplicate, reduceCtorEq, evRange, Nat.reduceLT, retQ, resL, finL, newL, flat, tupOf, List.toList_toArray, Tryz.f29, E1, E2, E3, E4, E5, E6, E7, E8, hfi, hx, h40, zLdg, drcs, drc]
      exact leT_refl _
    have h40' : ¬ own.length = 40 := by have := of_decide_eq_false h40; omega
    have eA : lappE l n x = alwC (cls0 l.known) (seenE l (lview l n).1) x.kind c := by rw [lappE, if_neg (by rw [Decidable.not_not]; exact h0'), if_neg (by rw [hcl]; exact Option.some_ne_none _), hidx', hgd, if_neg h40', hc]
    try simp -dsimp (maxSteps := 9^9) (disch := first | omega | decide +kernel) only [↓bp0, bd0, bd_OC, reduceIte, Nat.reduceEqDiff, evStore, Nat.reduceAdd, Nat.reduceMul, Int.reduceEq, Int.reduceLT, Int.reduceLE, Nat.reduceLeDiff, List.reduceReplicate, reduceCtorEq, evRange, Nat.reduceLT, E1, E2, E3, E4, E5, E6, E7, E8, hfi, hx, h40]
    refine vc_regJ (fun τ => τ 0 = some (.row 0 3 [[encKws l.known, encBrs l.brs, encEvss l.evs]] false) ∧ τ 2 = some (.row 0 2 [cEv x] false)) [0, 1, 3, 4, 5] [2] (by kernel_rfl) (by kernel_rfl) ?_ ?_
    · exact (by simp -dsimp (maxSteps := 9^9) (disch := first | omega | decide +kernel) only [↓bp0, bd0, bd_OC, reduceIte, Nat.reduceEqDiff, evStore, Nat.reduceAdd, Nat.reduceMul, Int.reduceEq, Int.reduceLT, Int.reduceLE, Nat.reduceLeDiff, List.reduceReplicate, reduceCtorEq, evRange, Nat.reduceLT, E1, E2, E3, E4, E5, E6, E7, E8])
    try simp -dsimp (maxSteps := 9^9) (disch := first | omega | decide +kernel) only [↓bp0, bd0, bd_OC, reduceIte, Nat.reduceEqDiff, evStore, Nat.reduceAdd, Nat.reduceMul, Int.reduceEq, Int.reduceLT, Int.reduceLE, Nat.reduceLeDiff, List.reduceReplicate, reduceCtorEq, evRange, Nat.reduceLT, vcj, implies_true, E1, E2, E3, E4, E5, E6, E7, E8]
    refine ⟨fun τ hτ => by simp -dsimp (maxSteps := 9^9) (disch := first | omega | decide +kernel) only [↓bp0, bd0, bd_OC, reduceIte, Nat.reduceEqDiff, evStore, Nat.reduceAdd, Nat.reduceMul, Int.reduceEq, Int.reduceLT, Int.reduceLE, Nat.reduceLeDiff, List.reduceReplicate, reduceCtorEq, evRange, Nat.reduceLT, hτ], ?_⟩
    refine EffQ.inm (d_folded l q1 (lview l n).1 q2 q3 q4 _ _) ⟨.ptr _ 0 0 0, _, _, _, 0, Nat.le_refl _, Nat.lt_succ_self _, rfl, rfl⟩ (by rfl) ?_
    rintro r σ' nx2 ⟨ids, ver, hs1, hs2, rfl, rfl⟩
    simp only [St.put] at hs1
    have hs0 : nx1 ≤ ids := hs1
    have D1 : (ids = 0) = False := eq_false (by omega)
    have D2 : (ids = 1) = False := eq_false (by omega)
    have D3 : (ids = 2) = False := eq_false (by omega)
    have D4 : (ids = 3) = False := eq_false (by omega)
    have D5 : (0 = ids) = False := eq_false (by omega)
    have D6 : (1 = ids) = False := eq_false (by omega)
    have D7 : (2 = ids) = False := eq_false (by omega)
    have D8 : (3 = ids) = False := eq_false (by omega)
    have D9 : (ids = idm) = False := eq_false (by omega)
    have Da : (idm = ids) = False := eq_false (by omega)
    refine ⟨.inr (by simp -dsimp (maxSteps := 9^9) (disch := first | omega | decide +kernel) only [↓bp0, bd0, bd_OC, reduceIte, Nat.reduceEqDiff, evStore, Nat.reduceAdd, Nat.reduceMul, Int.reduceEq, Int.reduceLT, Int.reduceLE, Nat.reduceLeDiff, List.reduceReplicate, reduceCtorEq, evRange, Nat.reduceLT, E1, E2, E3, E4, E5, E6, E7, E8, D1, D2, D3, D4, D5, D6, D7, D8, D9, Da]), ?_⟩
    try simp -dsimp (maxSteps := 9^9) (disch := first | omega | decide +kernel) only [↓bp0, bd0, bd_OC, reduceIte, Nat.reduceEqDiff, evStore, Nat.reduceAdd, Nat.reduceMul, Int.reduceEq, Int.reduceLT, Int.reduceLE, Nat.reduceLeDiff, List.reduceReplicate, reduceCtorEq, evRange, Nat.reduceLT, vcj, implies_true, E1, E2, E3, E4, E5, E6, E7, E8, D1, D2, D3, D4, D5, D6, D7, D8, D9, Da]
    refine ⟨fun τ hτ => by simp -dsimp (maxSteps := 9^9) (disch := first | omega | decide +kernel) only [↓bp0, bd0, bd_OC, reduceIte, Nat.reduceEqDiff, evStore, Nat.reduceAdd, Nat.reduceMul, Int.reduceEq, Int.reduceLT, Int.reduceLE, Nat.reduceLeDiff, List.reduceReplicate, reduceCtorEq, evRange, Nat.reduceLT, hτ], ?_⟩
    refine CallY0.imm (d_allow (cls0 l.known) (seenE l (lview l n).1) x.kind c hc30) (by rfl) (by simp -dsimp (maxSteps := 9^9) (disch := first | omega | decide +kernel) only [↓bp0, bd0, bd_OC, reduceIte, Nat.reduceEqDiff, evStore, Nat.reduceAdd, Nat.reduceMul, Int.reduceEq, Int.reduceLT, Int.reduceLE, Nat.reduceLeDiff, List.reduceReplicate, reduceCtorEq, evRange, Nat.reduceLT, drcs, drc, dr1s, dr1, flat, flSt, List.drop_zero, E1, E2, E3, E4, E5, E6, E7, E8, D1, D2, D3, D4, D5, D6, D7, D8, D9, Da]) (by first | exact .inl rfl | exact .inr rfl | exact .inr scalI) ?_
    cases h5 : decide (alwC (cls0 l.known) (seenE l (lview l n).1) x.kind c = 0)
    · rw [encApp, eA, if_neg (of_decide_eq_false h5)]
      try simp -dsimp (maxSteps := 9^9) (disch := first | omega | decide +kernel) only [↓bp0, bd0, bd_OC, reduceIte, Nat.reduceEqDiff, evStore, Nat.reduceAdd, Nat.reduceMul, Int.reduceEq, Int.reduceLT, Int.reduceLE, Nat.reduceLeDiff, List.reduceReplicate, reduceCtorEq, evRange, Nat.reduceLT, E1, E2, E3, E4, E5, E6, E7, E8, D1, D2, D3, D4, D5, D6, D7, D8, D9, Da, h5, zLdg]
      simp -dsimp (maxSteps := 9^9) (disch := first | omega | decide +kernel) only [↓bp0, bd0, bd_OC, reduceIte, Nat.reduceEqDiff, evStore, Nat.reduceAdd, Nat.reduceMul, Int.reduceEq, Int.reduceLT, Int.reduceLE, Nat.reduceLeDiff, List.reduceReplicate, reduceCtorEq, evRange, Nat.reduceLT, retQ, resL, finL, newL, flat, tupOf, List.toList_toArray, Tryz.f29, E1, E2, E3, E4, E5, E6, E7, E8, D1, D2, D3, D4, D5, D6, D7, D8, D9, Da, h5, zLdg, drcs, drc]
      exact leT_refl _
    rw [encApp, eA, if_pos (of_decide_eq_true h5)]
    try simp -dsimp (maxSteps := 9^9) (disch := first | omega | decide +kernel) only [↓bp0, bd0, bd_OC, reduceIte, Nat.reduceEqDiff, evStore, Nat.reduceAdd, Nat.reduceMul, Int.reduceEq, Int.reduceLT, Int.reduceLE, Nat.reduceLeDiff, List.reduceReplicate, reduceCtorEq, evRange, Nat.reduceLT, E1, E2, E3, E4, E5, E6, E7, E8, D1, D2, D3, D4, D5, D6, D7, D8, D9, Da, h5]
    refine CallQ.inm (m_clone l (by have := q1.known; omega) (by have := hz.brs; omega) (by omega) (by have := hz.evs; omega) (fun s hs => by have := q1.evs s hs; omega) _ _) (by rfl) ?_
    rintro r τ nx3 ⟨E, vr, rs, rfl, r2, r3, r4, r5, r6⟩
    simp only [St.put] at r4
    have r4' : nx2 ≤ E := r4
    have a2 : τ 2 = some (.row 0 2 [cEv x] false) := (r6 2 (show 2 < nx2 by omega)).trans (by simp -dsimp (maxSteps := 9^9) (disch := first | omega | decide +kernel) only [↓bp0, bd0, bd_OC, reduceIte, Nat.reduceEqDiff, evStore, Nat.reduceAdd, Nat.reduceMul, Int.reduceEq, Int.reduceLT, Int.reduceLE, Nat.reduceLeDiff, List.reduceReplicate, reduceCtorEq, evRange, Nat.reduceLT, E1, E2, E3, E4, E5, E6, E7, E8, D1, D2, D3, D4, D5, D6, D7, D8, D9, Da])
    have a3 : τ 3 = some (.row 0 3 [[.lit (.slice none 0 0), .lit (.slice none 0 0), .lit (.slice none 0 0)]] false) := (r6 3 (show 3 < nx2 by omega)).trans (by simp -dsimp (maxSteps := 9^9) (disch := first | omega | decide +kernel) only [↓bp0, bd0, bd_OC, reduceIte, Nat.reduceEqDiff, evStore, Nat.reduceAdd, Nat.reduceMul, Int.reduceEq, Int.reduceLT, Int.reduceLE, Nat.reduceLeDiff, List.reduceReplicate, reduceCtorEq, evRange, Nat.reduceLT, E1, E2, E3, E4, E5, E6, E7, E8, D1, D2, D3, D4, D5, D6, D7, D8, D9, Da])
    clear r6
    obtain ⟨ide, ve, b1, b2, b3, b4, b5, b6⟩ := CR.at (show CR τ E nx3 nx2 rs l.evs from r3) hx
    have b3' : nx2 ≤ ide := b3
    have hrl := CR.len r3
    clear r3 r4 hs1 hm1
    have b7 : ∀ τ' : Store, τ' ide = some (.row (ve + 1) 2 (own.map cEv ++ [cEv x]) false) → (∀ j, nx2 ≤ j → j < nx3 → j ≠ E → j ≠ ide → τ' j = τ j) →
        drRows τ' (rs.set i [.own ide (ve + 1) 0 (own.length + 1) false]) = some ((l.evs.set i (own ++ [x])).map fun e => [encEvs e]) := fun τ' k1 k2 => by
      have := CR.read (b6 τ' (ve + 1) (own ++ [x]) (by rw [List.map_append]; exact k1) k2)
      rwa [List.length_append, List.length_singleton] at this
    have hL : lapp l n x = { l with evs := l.evs.set i (own ++ [x]) } := by rw [lapp, hidx', hgd]
    rw [hL, show alwC (cls0 l.known) (seenE l (lview l n).1) x.kind c = 0 from of_decide_eq_true h5]
    try simp -dsimp (maxSteps := 9^9) (disch := first | omega | decide +kernel) only [↓bp0, bd0, bd_OC, reduceIte, Nat.reduceEqDiff, evStore, Nat.reduceAdd, Nat.reduceMul, Int.reduceEq, Int.reduceLT, Int.reduceLE, Nat.reduceLeDiff, List.reduceReplicate, reduceCtorEq, evRange, Nat.reduceLT, E1, E2, E3, E4, E5, E6, E7, E8, D1, D2, D3, D4, D5, D6, D7, D8, D9, Da, h5]
    have r5' : E < nx3 := r5
    have b3'' : ide < nx3 := b4
    have hm3 : idm < nx1 := hm2
    have hs3 : ids < nx2 := hs2
    have F0a : (nx3 = E) = False := eq_false (by omega)
    have F0b : (E = nx3) = False := eq_false (by omega)
    have F1a : (nx3 = ide) = False := eq_false (by omega)
    have F1b : (ide = nx3) = False := eq_false (by omega)
    have F2a : (nx3 = 2) = False := eq_false (by omega)
    have F2b : (2 = nx3) = False := eq_false (by omega)
    have F3a : (nx3 = 3) = False := eq_false (by omega)
    have F3b : (3 = nx3) = False := eq_false (by omega)
    have F4a : (nx3 + 1 = E) = False := eq_false (by omega)
    have F4b : (E = nx3 + 1) = False := eq_false (by omega)
    have F5a : (nx3 + 1 = ide) = False := eq_false (by omega)
    have F5b : (ide = nx3 + 1) = False := eq_false (by omega)
    have F6a : (nx3 + 1 = 2) = False := eq_false (by omega)
    have F6b : (2 = nx3 + 1) = False := eq_false (by omega)
    have F7a : (nx3 + 1 = 3) = False := eq_false (by omega)
    have F7b : (3 = nx3 + 1) = False := eq_false (by omega)
    have F8a : (nx3 + 1 = nx3) = False := eq_false (by omega)
    have F8b : (nx3 = nx3 + 1) = False := eq_false (by omega)
    have F9a : (E = 2) = False := eq_false (by omega)
    have F9b : (2 = E) = False := eq_false (by omega)
    have F10a : (E = 3) = False := eq_false (by omega)
    have F10b : (3 = E) = False := eq_false (by omega)
    have F11a : (ide = 2) = False := eq_false (by omega)
    have F11b : (2 = ide) = False := eq_false (by omega)
    have F12a : (ide = 3) = False := eq_false (by omega)
    have F12b : (3 = ide) = False := eq_false (by omega)
    have F13a : (ide = E) = False := eq_false (by omega)
    have F13b : (E = ide) = False := eq_false (by omega)
    refine vc_regJ (fun τ' => τ' nx3 = some (.row 0 3 [[encKws l.known, encBrs l.brs, .own E vr 0 l.evs.length false]] false) ∧ τ' E = some (.row vr 1 rs false) ∧ τ' 2 = some (.row 0 2 [cEv x] false)) [0, 1, 2, 3, 4, 5, 6, 7, 8, 11] [] (by kernel_rfl) (by kernel_rfl) ?_ ?_
    · exact (by simp -dsimp (maxSteps := 9^9) (disch := first | omega | decide +kernel) only [↓bp0, bd0, bd_OC, reduceIte, Nat.reduceEqDiff, evStore, Nat.reduceAdd, Nat.reduceMul, Int.reduceEq, Int.reduceLT, Int.reduceLE, Nat.reduceLeDiff, List.reduceReplicate, reduceCtorEq, evRange, Nat.reduceLT, F0a, F0b, F1a, F1b, F2a, F2b, F3a, F3b, F4a, F4b, F5a, F5b, F6a, F6b, F7a, F7b, F8a, F8b, F9a, F9b, F10a, F10b, F11a, F11b, F12a, F12b, F13a, F13b, a2, r2])
    have hrd : (i < rs.length) = True := eq_true (by omega)
    have hsz : (l.evs.length ≤ rs.length) = True := eq_true (by omega)
    try simp -dsimp (maxSteps := 9^9) (disch := first | omega | decide +kernel) only [↓bp0, bd0, bd_OC, reduceIte, Nat.reduceEqDiff, evStore, Nat.reduceAdd, Nat.reduceMul, Int.reduceEq, Int.reduceLT, Int.reduceLE, Nat.reduceLeDiff, List.reduceReplicate, reduceCtorEq, evRange, Nat.reduceLT, vcj, implies_true, F0a, F0b, F1a, F1b, F2a, F2b, F3a, F3b, F4a, F4b, F5a, F5b, F6a, F6b, F7a, F7b, F8a, F8b, F9a, F9b, F10a, F10b, F11a, F11b, F12a, F12b, F13a, F13b, a2, a3, r2, b1, b2, hrl]
    refine ⟨fun τ hτ => by simp -dsimp (maxSteps := 9^9) (disch := first | omega | decide +kernel) only [↓bp0, bd0, bd_OC, reduceIte, Nat.reduceEqDiff, evStore, Nat.reduceAdd, Nat.reduceMul, Int.reduceEq, Int.reduceLT, Int.reduceLE, Nat.reduceLeDiff, List.reduceReplicate, reduceCtorEq, evRange, Nat.reduceLT, hτ], fun τ hτ => by simp -dsimp (maxSteps := 9^9) (disch := first | omega | decide +kernel) only [↓bp0, bd0, bd_OC, reduceIte, Nat.reduceEqDiff, evStore, Nat.reduceAdd, Nat.reduceMul, Int.reduceEq, Int.reduceLT, Int.reduceLE, Nat.reduceLeDiff, List.reduceReplicate, reduceCtorEq, evRange, Nat.reduceLT, hτ], ?_⟩
    try simp -dsimp (maxSteps := 9^9) (disch := first | omega | decide +kernel) only [↓bp0, bd0, bd_OC, reduceIte, Nat.reduceEqDiff, evStore, Nat.reduceAdd, Nat.reduceMul, Int.reduceEq, Int.reduceLT, Int.reduceLE, Nat.reduceLeDiff, List.reduceReplicate, reduceCtorEq, evRange, Nat.reduceLT, vcj, implies_true, F0a, F0b, F1a, F1b, F2a, F2b, F3a, F3b, F4a, F4b, F5a, F5b, F6a, F6b, F7a, F7b, F8a, F8b, F9a, F9b, F10a, F10b, F11a, F11b, F12a, F12b, F13a, F13b, a2, a3, r2, b1, b2, hrl, hie]
    have h24 : ((own.length + 1) * 24 ≤ 140737488355328) = True := eq_true (by have := q1.evs own hxm; omega)
    refine ⟨fun τ hτ => by simp -dsimp (maxSteps := 9^9) (disch := first | omega | decide +kernel) only [↓bp0, bd0, bd_OC, reduceIte, Nat.reduceEqDiff, evStore, Nat.reduceAdd, Nat.reduceMul, Int.reduceEq, Int.reduceLT, Int.reduceLE, Nat.reduceLeDiff, List.reduceReplicate, reduceCtorEq, evRange, Nat.reduceLT, hτ], fun τ hτ => by simp -dsimp (maxSteps := 9^9) (disch := first | omega | decide +kernel) only [↓bp0, bd0, bd_OC, reduceIte, Nat.reduceEqDiff, evStore, Nat.reduceAdd, Nat.reduceMul, Int.reduceEq, Int.reduceLT, Int.reduceLE, Nat.reduceLeDiff, List.reduceReplicate, reduceCtorEq, evRange, Nat.reduceLT, hτ, b1], fun τ hτ => by simp -dsimp (maxSteps := 9^9) (disch := first | omega | decide +kernel) only [↓bp0, bd0, bd_OC, reduceIte, Nat.reduceEqDiff, evStore, Nat.reduceAdd, Nat.reduceMul, Int.reduceEq, Int.reduceLT, Int.reduceLE, Nat.reduceLeDiff, List.reduceReplicate, reduceCtorEq, evRange, Nat.reduceLT, hτ], ?_⟩
    try simp -dsimp (maxSteps := 9^9) (disch := first | omega | decide +kernel) only [↓bp0, bd0, bd_OC, reduceIte, Nat.reduceEqDiff, evStore, Nat.reduceAdd, Nat.reduceMul, Int.reduceEq, Int.reduceLT, Int.reduceLE, Nat.reduceLeDiff, List.reduceReplicate, reduceCtorEq, evRange, Nat.reduceLT, vcj, implies_true, F0a, F0b, F1a, F1b, F2a, F2b, F3a, F3b, F4a, F4b, F5a, F5b, F6a, F6b, F7a, F7b, F8a, F8b, F9a, F9b, F10a, F10b, F11a, F11b, F12a, F12b, F13a, F13b, a2, a3, r2, b1, b2, hrl, hie, h24]
    refine ⟨fun τ hτ => by simp -dsimp (maxSteps := 9^9) (disch := first | omega | decide +kernel) only [↓bp0, bd0, bd_OC, reduceIte, Nat.reduceEqDiff, evStore, Nat.reduceAdd, Nat.reduceMul, Int.reduceEq, Int.reduceLT, Int.reduceLE, Nat.reduceLeDiff, List.reduceReplicate, reduceCtorEq, evRange, Nat.reduceLT, hτ], .inl (by kernel_rfl), ?_⟩
    have hfl : ((rs.set i [PV.own ide (ve + 1) 0 (own.length + 1) false]).all fun e => e.all flat) = false := List.all_eq_false.2 ⟨[PV.own ide (ve + 1) 0 (own.length + 1) false], List.mem_iff_getElem?.2 ⟨i, by rw [List.getElem?_set_self (by omega)]⟩, Bool.false_ne_true⟩
    have htk : List.take l.evs.length (rs.set i [PV.own ide (ve + 1) 0 (own.length + 1) false]) = rs.set i [PV.own ide (ve + 1) 0 (own.length + 1) false] := List.take_of_length_le (by rw [List.length_set]; omega)
    simp -dsimp (maxSteps := 9^9) (disch := first | omega | decide +kernel) only [↓bp0, bd0, bd_OC, reduceIte, Nat.reduceEqDiff, evStore, Nat.reduceAdd, Nat.reduceMul, Int.reduceEq, Int.reduceLT, Int.reduceLE, Nat.reduceLeDiff, List.reduceReplicate, reduceCtorEq, evRange, Nat.reduceLT, retQ, resL, finL, newL, flat, tupOf, List.toList_toArray, Tryz.f29, F0a, F0b, F1a, F1b, F2a, F2b, F3a, F3b, F4a, F4b, F5a, F5b, F6a, F6b, F7a, F7b, F8a, F8b, F9a, F9b, F10a, F10b, F11a, F11b, F12a, F12b, F13a, F13b, a2, a3, r2, hrl, hie, h24, hfl, htk, List.length_set, List.drop_zero, Nat.zero_add, Nat.le_refl, drcs, drc, Bool.false_eq_true, and_false, and_true]
    rw [b7]
    · exact leT_refl (PV.tup [PV.agg [PV.imm (l.known.map cKw) false, PV.imm (l.brs.map cBr) false, PV.imm ((l.evs.set i (own ++ [x])).map fun e => [encEvs e]) false], PV.lit (Value.int .i64 0)])
    · exact (putNe (by omega)).trans ((putNe (by omega)).trans putEq)
    · intro j k1 k2 k3 k4
      exact (putNe (by omega)).trans ((putNe (by omega)).trans ((putNe (by omega)).trans ((putNe (by omega)).trans ((putNe (by omega)).trans (putNe (by omega))))))
end Go.Ab
