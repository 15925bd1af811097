/- One event more: the views of the branches. -/
import Derived.Test.YtgcodedanljhpaaGreatDoorLE
import Derived.Test.YtgcodedanljhpaaGreatDoorQH
import Derived.Test.YtgcodedanljhpaaGreatDoorLP
set_option linter.unusedSimpArgs false
set_option linter.unusedVariables false
section
namespace Go.Ab
open Go
def growL (l : Ldg) (i : Nat) (own : List Ev) (x : Ev) : Ldg := { l with evs := l.evs.set i (own ++ [x]) }
end Go.Ab
end

section
/- One branch more: a cut. -/
namespace Go.Ab
open Go
def addB (l : Ldg) (b : Br) : Ldg := { l with brs := l.brs ++ [b], evs := l.evs ++ [[]] }
def lcutE (l : Ldg) (frm nm : Str) (k : Int) : Int := if (lview l frm).2 ≠ 0 then (lview l frm).2 else if k < 0 ∨ ((lview l frm).1.length : Int) < k then 2 else bchk (l.brs ++ [⟨nm, frm, k⟩])
def lcut (l : Ldg) (frm nm : Str) (k : Int) : Ldg := if lcutE l frm nm k ≠ 0 then ⟨[], [], []⟩ else addB l ⟨nm, frm, k⟩
end Go.Ab
end

section
/- What NotesSince asks, in plain terms. -/
set_option maxRecDepth 1000000
set_option maxHeartbeats 8000000
namespace Go.Ab
open Go Go.Proofs Go.Sort
def lsince (l : Ldg) (b : Str) (k : Int) : List Nt × Int := if (laft l b k).2 ≠ 0 then ([], (laft l b k).2) else (lastsF (clsI l.known) (evV l b) (missI (leff l b).1 (laft l b k).1), 0)
theorem laft_ok {l : Ldg} {b : Str} {k : Int} (hv : (lview l b).2 = 0) (h : (laft l b k).2 = 0) : 0 ≤ k ∧ k.toNat ≤ (evV l b).length ∧ (laft l b k).1 = lst 0 (inL (cls0 l.known) ((evV l b).take k.toNat)) := by
  unfold laft at h ⊢
  rw [if_neg (by rw [Decidable.not_not]; exact hv)] at h ⊢
  split at h
  · cases h
  · rename_i h1
    rw [not_or] at h1
    rw [if_neg (by rw [not_or]; exact h1)]
    refine ⟨by omega, by rw [evV, seenE, List.length_map]; omega, ?_⟩
    show effE l.known _ = _
    rw [effE, evV, seenE, seenE, List.map_take]
theorem leff_v {l : Ldg} {b : Str} (hv : (lview l b).2 = 0) : leff l b = (lst 0 (inL (cls0 l.known) (evV l b)), 0) := by
  unfold leff
  rw [if_neg (by rw [Decidable.not_not]; exact hv)]
  rfl
structure SinceP (l : Ldg) (b : Str) (k : Int) (A S : List Nt) (C W : List Int) : Prop where
  al : A.length = C.length
  ai : ∀ n ∈ A, n.cls ∈ C
  au : A.Pairwise fun a b => a.cls ≠ b.cls
  sp : ∀ n ∈ S, k ≤ n.pl
  sw : ∀ n ∈ S, n.cls ∉ W
  sc : ∀ n ∈ S, n.cls ∈ C
end Go.Ab
end

section
/- After. -/
set_option maxRecDepth 100000
set_option maxHeartbeats 8000000
namespace Go.Ab
open Go Go.Proofs
theorem bd_LPa : type_of% (And.intro @evNext.eq_1 (And.intro @fld (And.intro @nit (And.intro @nxE (And.intro @ovR (And.intro @evBin_seql (And.intro @evBin_sneq (And.intro @str.eq_1 (And.intro @u8.eq_1 (And.intro @encBrs.eq_1 (And.intro @cBr.eq_1 (And.intro @encLdg.eq_1 (And.intro @encKws.eq_1 (And.intro @cKw.eq_1 (And.intro @encEvss.eq_1 (And.intro @encEvs.eq_1 (And.intro @cEv.eq_1 (And.intro @encMks.eq_1 (And.intro @cMk.eq_1 (And.intro @tk2 (And.intro @tk3 (And.intro @List.set_cons_succ.{0} (And.intro @List.getElem?_cons_zero.{0} (And.intro @List.getElem?_cons_succ.{0} (@List.length_set.{0}))))))))))))))))))))))))) := And.intro @evNext.eq_1 (And.intro @fld (And.intro @nit (And.intro @nxE (And.intro @ovR (And.intro @evBin_seql (And.intro @evBin_sneq (And.intro @str.eq_1 (And.intro @u8.eq_1 (And.intro @encBrs.eq_1 (And.intro @cBr.eq_1 (And.intro @encLdg.eq_1 (And.intro @encKws.eq_1 (And.intro @cKw.eq_1 (And.intro @encEvss.eq_1 (And.intro @encEvs.eq_1 (And.intro @cEv.eq_1 (And.intro @encMks.eq_1 (And.intro @cMk.eq_1 (And.intro @tk2 (And.intro @tk3 (And.intro @List.set_cons_succ.{0} (And.intro @List.getElem?_cons_zero.{0} (And.intro @List.getElem?_cons_succ.{0} (@List.length_set.{0}))))))))))))))))))))))))
theorem d_After (l : Ldg) (n : Str) (k : Int) (hz : LSz l) : CallSpec cx 53 [encLdg l, str n, i64 k] (.tup [newI (laft l n k).1, i64 (laft l n k).2]) := by
  refine callSpec_of_vc Tryz.func53 rfl (by decide) (by kernel_rfl) (Nat.le_of_ble_eq_true rfl) ?_
  try simp -dsimp (disch := omega) only [↓bp0, bd0, bd_LPa, evStore, evRange, Tryz.f53, simprocAttr]
  refine CallQ.imm (d_lview l n hz) (by rfl) (by rfl) (by first | exact .inl rfl | exact .inr rfl | exact .inr scalB | exact .inr scalI | exact .inr scalT | exact .inr scalM | exact .inr scalMT) ?_
  cases h0 : decide ((lview l n).2 = 0)
  · simp -dsimp (disch := omega) only [↓bp0, bd0, bd_LPa, evStore, evRange, retQ, resL, finL, newL, flat, tupOf, List.toList_toArray, Tryz.f53, h0, simprocAttr]
    rw [laft, if_pos (of_decide_eq_false h0)]
    exact ⟨.inr ⟨rfl, 1, rfl⟩, .rfl', trivial⟩
  have h0' := of_decide_eq_true h0
  obtain ⟨q1, q2, q3, q4⟩ := fold_pre h0'
  rw [laft, if_neg (by rw [Decidable.not_not]; exact h0')]
  generalize (lview l n).1 = v at q2 q3 q4 ⊢
  cases h1 : decide (k < 0)
  case true =>
    simp -dsimp (disch := omega) only [↓bp0, bd0, bd_LPa, evStore, evRange, retQ, resL, finL, newL, flat, tupOf, List.toList_toArray, Tryz.f53, h0, h1, simprocAttr]
    rw [if_pos (.inl (of_decide_eq_true h1))]
    exact ⟨.inr ⟨rfl, 1, rfl⟩, .rfl', trivial⟩
  cases h2 : decide ((v.length : Int) < k)
  case true =>
    simp -dsimp (disch := omega) only [↓bp0, bd0, bd_LPa, evStore, evRange, retQ, resL, finL, newL, flat, tupOf, List.toList_toArray, Tryz.f53, h0, h1, h2, newMks, simprocAttr]
    rw [if_pos (.inr (of_decide_eq_true h2))]
    exact ⟨.inr ⟨rfl, 1, rfl⟩, .rfl', trivial⟩
  have h1' := of_decide_eq_false h1
  have h2' := of_decide_eq_false h2
  rw [if_neg (by rw [not_or]; exact ⟨h1', h2'⟩)]
  obtain ⟨k, rfl⟩ : ∃ m : Nat, k = m := ⟨k.toNat, by omega⟩
  have hkl : k ≤ v.length := by omega
  have hdt : List.drop 0 (List.take k (v.map cMk)) = (v.take k).map cMk := by rw [List.drop_zero, List.map_take]
  have hdt2 : List.take k (v.map cMk) = (v.take k).map cMk := by rw [List.map_take]
  rw [Int.toNat_natCast]
  try simp -dsimp (disch := omega) only [↓bp0, bd0, bd_LPa, evStore, evRange, h0, h1, h2, newMks, simprocAttr]
  first | refine vc_text (by kernel_rfl) ?_ | skip
  try simp -dsimp (disch := omega) only [↓bp0, bd0, bd_LPa, evStore, evRange, hkl, evSlice, slc, allMk, Bool.false_and, hdt, hdt2, simprocAttr]
  refine CallY.q 4 rfl (by kernel_rfl) ?_
  refine CallQ.inm (d_folded l q1 (v.take k) (fun m hm => q2 m (List.mem_of_mem_take hm)) (fun e he => q3 e (by rw [seenE_take] at he; exact List.mem_of_mem_take he)) (by rw [List.length_take]; omega) _ _) (by rfl) ?_
  rintro r σ' nx1 ⟨id, ver, hs1, hs2, rfl, rfl⟩
  try simp -dsimp (disch := omega) only [↓bp0, bd0, bd_LPa, evStore, evRange, simprocAttr]
  refine CallY.q 5 rfl (by kernel_rfl) ?_
  refine CallQ.thaw (d_list (cls0 l.known) (seenE l (v.take k))) (by rfl) (by first | rfl | (simp -dsimp (disch := omega) only [↓bp0, bd0, bd_LPa, evStore, evRange, drcs, drc, flat, flSt, List.drop_zero, simprocAttr]; done)) flLitI ?_
  simp -dsimp (disch := omega) only [↓bp0, bd0, bd_LPa, evStore, evRange, retQ, resL, finL, newL, flat, tupOf, List.toList_toArray, Tryz.f53, effE, simprocAttr]
  exact ⟨.rfl', .rfl', trivial⟩
end Go.Ab
end

section
/- notes.Since. -/
set_option maxRecDepth 1000000
set_option maxHeartbeats 16000000
namespace Go.Ab
open Go Go.Proofs Go.Sort
theorem bd_QO : type_of% (And.intro @evNext.eq_1 (And.intro @fld (And.intro @nit (And.intro @nxE (And.intro @ghR (And.intro @ovR (And.intro @evBin_seql (And.intro @evBin_sneq (And.intro @str.eq_1 (And.intro @u8.eq_1 (And.intro @encBrs.eq_1 (And.intro @cBr.eq_1 (And.intro @encLdg.eq_1 (And.intro @encKws.eq_1 (And.intro @cKw.eq_1 (And.intro @encEvss.eq_1 (And.intro @encEvs.eq_1 (And.intro @cEv.eq_1 (And.intro @encMks.eq_1 (And.intro @cMk.eq_1 (And.intro @encStrs.eq_1 (And.intro @tk2 (And.intro @tk3 (And.intro @List.set_cons_succ.{0} (And.intro @List.getElem?_cons_zero.{0} (And.intro @List.getElem?_cons_succ.{0} (@List.length_set.{0}))))))))))))))))))))))))))) := And.intro @evNext.eq_1 (And.intro @fld (And.intro @nit (And.intro @nxE (And.intro @ghR (And.intro @ovR (And.intro @evBin_seql (And.intro @evBin_sneq (And.intro @str.eq_1 (And.intro @u8.eq_1 (And.intro @encBrs.eq_1 (And.intro @cBr.eq_1 (And.intro @encLdg.eq_1 (And.intro @encKws.eq_1 (And.intro @cKw.eq_1 (And.intro @encEvss.eq_1 (And.intro @encEvs.eq_1 (And.intro @cEv.eq_1 (And.intro @encMks.eq_1 (And.intro @cMk.eq_1 (And.intro @encStrs.eq_1 (And.intro @tk2 (And.intro @tk3 (And.intro @List.set_cons_succ.{0} (And.intro @List.getElem?_cons_zero.{0} (And.intro @List.getElem?_cons_succ.{0} (@List.length_set.{0}))))))))))))))))))))))))))
theorem n_Since1 (W : List Int) (hw : W.length ≤ 2^30) (c : Int) : CallSpec cx 105 ([i64 c] ++ [.cptr [encL W]]) (bl (W.any fun y => decide (c = y))) := by
  refine callSpec_of_vc Tryz.func105 rfl (by decide) (by kernel_rfl) (Nat.le_of_ble_eq_true rfl) ?_
  try simp -dsimp (disch := omega) only [↓bp0, bd0, bd_QO, evStore, evRange, thw, newI, Tryz.f105, List.cons_append, List.nil_append, simprocAttr]
  refine CallQ.imm (ci_con W c (by omega)) (by rfl) (by rfl) (by first | exact .inl rfl | exact .inr rfl | exact .inr scalB | exact .inr scalI | exact .inr scalT | exact .inr scalM | exact .inr scalMT | exact .inr scalE | exact .inr scalET | exact .inr scalN | exact .inr scalNT) ?_
  simp -dsimp (disch := omega) only [↓bp0, bd0, bd_QO, evStore, evRange, thw, newI, retQ, resL, finL, newL, flat, tupOf, List.toList_toArray, Tryz.f105, simprocAttr]
  exact leT_one .rfl' (by simp)
theorem keepP_ex (p : Int → Bool) (L : List Int) : ∃ E : List Int, E.length = L.length ∧ E.take (keepP p L).length = keepP p L := by
  have := List.length_filter_le (fun c => !p c) L
  exact ⟨keepP p L ++ L.drop (keepP p L).length, by rw [List.length_append, List.length_drop]; show (List.filter _ L).length + (L.length - (List.filter _ L).length) = _; omega, List.take_left' rfl⟩
theorem laft_view {l : Ldg} {b : Str} {k : Int} (h : (laft l b k).2 = 0) : (lview l b).2 = 0 := by
  unfold laft at h
  by_cases hv : (lview l b).2 = 0
  · exact hv
  · rw [if_pos hv] at h; exact h
theorem n_Since (l : Ldg) (b : Str) (k : Int) (hz : LSz l) : CallSpec cx 47 [encLdg l, str b, i64 k] (.tup [encNts (lsince l b k).1, i64 (lsince l b k).2]) := by
  refine callSpec_of_vc Tryz.func47 rfl (by decide) (by kernel_rfl) (Nat.le_of_ble_eq_true rfl) ?_
  try simp -dsimp (disch := omega) only [↓bp0, bd0, bd_QO, evStore, evRange, thw, newI, Tryz.f47, simprocAttr]
  refine CallQ.imm (d_After l b k hz) (by rfl) (by rfl) (by first | exact .inl rfl | exact .inr rfl | exact .inr scalB | exact .inr scalI | exact .inr scalT | exact .inr scalM | exact .inr scalMT | exact .inr scalE | exact .inr scalET | exact .inr scalN | exact .inr scalNT) ?_
  cases h0 : decide ((laft l b k).2 = 0)
  · have h0' := of_decide_eq_false h0
    rw [lsince, if_pos h0']
    simp -dsimp (disch := omega) only [↓bp0, bd0, bd_QO, evStore, evRange, thw, newI, retQ, resL, finL, newL, flat, tupOf, List.toList_toArray, Tryz.f47, h0, newI, simprocAttr]
    exact ⟨.inl (.inr (.inr ⟨rfl, rfl⟩)), .rfl', trivial⟩
  have h0' := of_decide_eq_true h0
  have hv := laft_view h0'
  rw [lsince, if_neg (by rw [Decidable.not_not]; exact h0')]
  have hE := d_Effect l b hz
  have hle : (leff l b).2 = 0 := by rw [leff_v hv]
  rw [hle] at hE
  have hwl : (laft l b k).1.length ≤ 30 := by
    rw [(laft_ok hv h0').2.2]
    have := lst_len (inL (cls0 l.known) ((evV l b).take k.toNat)) 0
    rw [inL_len] at this; exact this
  have hel : (leff l b).1.length ≤ 30 := leff_len
  have vB := n_viewOk l b hz hv
  have hlB := evV_len hv
  have cL := fun L h => n_lasts l (evV l b) L hz.known (by omega) h
  have hS := n_Since1 (laft l b k).1 (by omega)
  generalize (laft l b k).1 = W at hwl hS ⊢
  generalize (leff l b).1 = L at hel hE ⊢
  generalize evV l b = v at vB hlB cL ⊢
  try simp -dsimp (disch := omega) only [↓bp0, bd0, bd_QO, evStore, evRange, thw, newI, h0, newI, simprocAttr]
  refine CallQ.thawT (hE) (by rfl) (by first | rfl | (simp -dsimp (disch := omega) only [↓bp0, bd0, bd_QO, evStore, evRange, thw, newI, drcs, drc, flat, encL, simprocAttr]; done)) (by first | exact .inl rfl | exact .inr (by simp [scal1, List.all_map, isLit, newI, newB, i64, bl]; done)) ?_
  try simp -dsimp (disch := omega) only [↓bp0, bd0, bd_QO, evStore, evRange, thw, newI, decide_true, thw, newI, bne_self_eq_false, simprocAttr]
  refine CallQ.imm (vB) (by rfl) (by rfl) (by first | exact .inl rfl | exact .inr rfl | exact .inr scalB | exact .inr scalI | exact .inr scalT | exact .inr scalM | exact .inr scalMT | exact .inr scalE | exact .inr scalET | exact .inr scalN | exact .inr scalNT) ?_
  try simp -dsimp (disch := omega) only [↓bp0, bd0, bd_QO, evStore, evRange, thw, newI, newEvs, simprocAttr]
  refine vc_regJ (fun τ => τ 0 = some (.row 0 3 [[encKws l.known, encBrs l.brs, encEvss l.evs]] false)) [0, 1, 2, 3, 6] [4] (by kernel_rfl) (by kernel_rfl) ?_ ?_
  · exact (by simp -dsimp (disch := omega) only [↓bp0, bd0, bd_QO, evStore, evRange, thw, newI, simprocAttr])
  try simp -dsimp (disch := omega) only [↓bp0, bd0, bd_QO, evStore, evRange, thw, newI, vcj, implies_true, simprocAttr]
  refine ⟨fun τ hτ => by simp -dsimp (disch := omega) only [↓bp0, bd0, bd_QO, evStore, evRange, thw, newI, hτ, simprocAttr], ?_⟩
  try simp -dsimp (disch := omega) only [↓bp0, bd0, bd_QO, evStore, evRange, thw, newI, vcj, implies_true, simprocAttr]
  obtain ⟨E0, hE0, hE1⟩ := keepP_ex (fun c => W.any fun y => decide (c = y)) L
  refine EffQ.inm (d_DelG (fun c => W.any fun y => decide (c = y)) 105 (W.map fun n => [i64 n]) (fun c => hS c) L (by omega) _ _ 2 1 0 ?_ ?_ (by decide)) ⟨_, _, _, Nat.le_refl _, E0, hE0, hE1, rfl, rfl⟩ (by rfl) ?_
  · try simp -dsimp (disch := omega) only [↓bp0, bd0, bd_QO, evStore, evRange, thw, newI, simprocAttr]
  · try simp -dsimp (disch := omega) only [↓bp0, bd0, bd_QO, evStore, evRange, thw, newI, encL, simprocAttr]
  rintro r σ' nx1 ⟨hn1, E, hE, hEk, rfl, rfl⟩
  have hn1' : 3 ≤ nx1 := hn1
  have hK : keepP (fun c => W.any fun y => decide (c = y)) L = missI L W := rfl
  rw [hK] at hEk ⊢
  have hKl : (missI L W).length ≤ L.length := List.length_filter_le _ _
  have hEm : List.take (missI L W).length (E.map fun n => [PV.lit (.int .i64 n)]) = (missI L W).map fun n => [PV.lit (.int .i64 n)] := by rw [← List.map_take, hEk]
  have hKE : (missI L W).length ≤ E.length := by omega
  refine ⟨.inr (by simp -dsimp (disch := omega) only [↓bp0, bd0, bd_QO, evStore, evRange, thw, newI, simprocAttr]), ?_⟩
  have cO := cL (missI L W) (by omega)
  generalize missI L W = M at cO hEm hKE ⊢
  try simp -dsimp (disch := omega) only [↓bp0, bd0, bd_QO, evStore, evRange, thw, newI, vcj, implies_true, simprocAttr]
  refine CallY0.imm cO (by rfl) (by simp -dsimp (disch := omega) only [↓bp0, bd0, bd_QO, evStore, evRange, thw, newI, drcs, drc, dr1s, dr1, flat, encL, hEm, hKE, List.length_map, List.drop_zero, Nat.zero_add, simprocAttr]) (by first | exact .inl rfl | exact .inr scalN) ?_
  try simp -dsimp (disch := omega) only [↓bp0, bd0, bd_QO, evStore, evRange, thw, newI, newNts, simprocAttr]
  simp -dsimp (disch := omega) only [↓bp0, bd0, bd_QO, evStore, evRange, thw, newI, retQ, resL, finL, newL, flat, tupOf, List.toList_toArray, Tryz.f47, newNts, simprocAttr]
  exact ⟨fun _ _ => trivial, leT_refl (PV.tup [PV.imm (List.map cNt (lastsF (clsI l.known) v M)) false, PV.lit (Value.int IntKind.i64 0)])⟩
end Go.Ab
end
