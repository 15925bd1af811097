/- What NotesSince asks, in plain terms. -/
import Derived.Test.YtgcodedanljhpaaDoorQL
import Derived.Test.YtgcodedanljhpaaDoorLV
import Derived.Test.YtgcodedanljhpaaDoorQD
import Derived.Test.YtgcodedanljhpaaDoorAcDeep
import Derived.Test.YtgcodedanljhpaaDoorAcFrz
set_option linter.unusedSimpArgs false
set_option linter.unusedVariables false
section
set_option maxRecDepth 1000000
set_option maxHeartbeats 8000000
namespace Go.Ab
open Go Go.Proofs Go.Sort
def lsince (l : Ldg) (b : Str) (k : Int) : List Nt × Int := if (laft l b k).2 ≠ 0 then ([], (laft l b k).2) else (lastsF (clsI l.known) (evV l b) (missI (leff l b).1 (laft l b k).1), 0)
theorem laft_ok {l : Ldg} {b : Str} {k : Int} (hv : (lview l b).2 = 0) (h : (laft l b k).2 = 0) : 0 ≤ k ∧ k.toNat ≤ (evV l b).length ∧ (laft l b k).1 = lst 0 (inL (cls0 l.known) ((evV l b).take k.toNat)) := by
  unfold laft at h ⊢
  rw [if_neg (by rw [Decidable.not_not]; exact hv)] at h ⊢
  split at h
  · cases h
  · rename_i h1
    rw [not_or] at h1
    rw [if_neg (by rw [not_or]; exact h1)]
    refine ⟨by omega, by rw [evV, seenE, List.length_map]; omega, ?_⟩
    show effE l.known _ = _
    rw [effE, evV, seenE, seenE, List.map_take]
theorem leff_v {l : Ldg} {b : Str} (hv : (lview l b).2 = 0) : leff l b = (lst 0 (inL (cls0 l.known) (evV l b)), 0) := by
  unfold leff
  rw [if_neg (by rw [Decidable.not_not]; exact hv)]
  rfl
structure SinceP (l : Ldg) (b : Str) (k : Int) (A S : List Nt) (C W : List Int) : Prop where
  al : A.length = C.length
  ai : ∀ n ∈ A, n.cls ∈ C
  au : A.Pairwise fun a b => a.cls ≠ b.cls
  sp : ∀ n ∈ S, k ≤ n.pl
  sw : ∀ n ∈ S, n.cls ∉ W
  sc : ∀ n ∈ S, n.cls ∈ C
end Go.Ab
end

section
/- After. -/
set_option maxRecDepth 100000
set_option maxHeartbeats 8000000
namespace Go.Ab
open Go Go.Proofs
theorem bd_LPa : type_of% (And.intro @evNext.eq_1 (And.intro @fld (And.intro @nit (And.intro @nxE (And.intro @ovR (And.intro @evBin_seql (And.intro @evBin_sneq (And.intro @str.eq_1 (And.intro @u8.eq_1 (And.intro @encBrs.eq_1 (And.intro @cBr.eq_1 (And.intro @encLdg.eq_1 (And.intro @encKws.eq_1 (And.intro @cKw.eq_1 (And.intro @encEvss.eq_1 (And.intro @encEvs.eq_1 (And.intro @cEv.eq_1 (And.intro @encMks.eq_1 (And.intro @cMk.eq_1 (And.intro @tk2 (And.intro @tk3 (And.intro @List.set_cons_succ.{0} (And.intro @List.getElem?_cons_zero.{0} (And.intro @List.getElem?_cons_succ.{0} (@List.length_set.{0}))))))))))))))))))))))))) := And.intro @evNext.eq_1 (And.intro @fld (And.intro @nit (And.intro @nxE (And.intro @ovR (And.intro @evBin_seql (And.intro @evBin_sneq (And.intro @str.eq_1 (And.intro @u8.eq_1 (And.intro @encBrs.eq_1 (And.intro @cBr.eq_1 (And.intro @encLdg.eq_1 (And.intro @encKws.eq_1 (And.intro @cKw.eq_1 (And.intro @encEvss.eq_1 (And.intro @encEvs.eq_1 (And.intro @cEv.eq_1 (And.intro @encMks.eq_1 (And.intro @cMk.eq_1 (And.intro @tk2 (And.intro @tk3 (And.intro @List.set_cons_succ.{0} (And.intro @List.getElem?_cons_zero.{0} (And.intro @List.getElem?_cons_succ.{0} (@List.length_set.{0}))))))))))))))))))))))))
theorem d_After (l : Ldg) (n : Str) (k : Int) (hz : LSz l) : CallSpec cx 28 [encLdg l, str n, i64 k] (.tup [newI (laft l n k).1, i64 (laft l n k).2]) := by
  refine callSpec_of_vc Tryd.func28 rfl (by decide) (by kernel_rfl) (Nat.le_of_ble_eq_true rfl) ?_
  try simp -dsimp (disch := omega) only [↓bp0, bd0, bd_LPa, evStore, evRange, Tryd.f28, simprocAttr]
  refine CallQ.imm (d_lview l n hz) (by rfl) (by rfl) (by first | exact .inl rfl | exact .inr rfl | exact .inr scalB | exact .inr scalI | exact .inr scalT | exact .inr scalM | exact .inr scalMT) ?_
  cases h0 : decide ((lview l n).2 = 0)
  · simp -dsimp (disch := omega) only [↓bp0, bd0, bd_LPa, evStore, evRange, retQ, resL, finL, newL, flat, tupOf, List.toList_toArray, Tryd.f28, h0, simprocAttr]
    rw [laft, if_pos (of_decide_eq_false h0)]
    exact ⟨.inr ⟨rfl, 1, rfl⟩, .rfl', trivial⟩
  have h0' := of_decide_eq_true h0
  obtain ⟨q1, q2, q3, q4⟩ := fold_pre h0'
  rw [laft, if_neg (by rw [Decidable.not_not]; exact h0')]
  generalize (lview l n).1 = v at q2 q3 q4 ⊢
  cases h1 : decide (k < 0)
  case true =>
    simp -dsimp (disch := omega) only [↓bp0, bd0, bd_LPa, evStore, evRange, retQ, resL, finL, newL, flat, tupOf, List.toList_toArray, Tryd.f28, h0, h1, simprocAttr]
    rw [if_pos (.inl (of_decide_eq_true h1))]
    exact ⟨.inr ⟨rfl, 1, rfl⟩, .rfl', trivial⟩
  cases h2 : decide ((v.length : Int) < k)
  case true =>
    simp -dsimp (disch := omega) only [↓bp0, bd0, bd_LPa, evStore, evRange, retQ, resL, finL, newL, flat, tupOf, List.toList_toArray, Tryd.f28, h0, h1, h2, newMks, simprocAttr]
    rw [if_pos (.inr (of_decide_eq_true h2))]
    exact ⟨.inr ⟨rfl, 1, rfl⟩, .rfl', trivial⟩
  have h1' := of_decide_eq_false h1
  have h2' := of_decide_eq_false h2
  rw [if_neg (by rw [not_or]; exact ⟨h1', h2'⟩)]
  obtain ⟨k, rfl⟩ : ∃ m : Nat, k = m := ⟨k.toNat, by omega⟩
  have hkl : k ≤ v.length := by omega
  have hdt : List.drop 0 (List.take k (v.map cMk)) = (v.take k).map cMk := by rw [List.drop_zero, List.map_take]
  have hdt2 : List.take k (v.map cMk) = (v.take k).map cMk := by rw [List.map_take]
  rw [Int.toNat_natCast]
  try simp -dsimp (disch := omega) only [↓bp0, bd0, bd_LPa, evStore, evRange, h0, h1, h2, newMks, simprocAttr]
  first | refine vc_text (by kernel_rfl) ?_ | skip
  try simp -dsimp (disch := omega) only [↓bp0, bd0, bd_LPa, evStore, evRange, hkl, evSlice, slc, allMk, Bool.false_and, hdt, hdt2, simprocAttr]
  refine CallY.q 4 rfl (by kernel_rfl) ?_
  refine CallQ.inm (d_folded l q1 (v.take k) (fun m hm => q2 m (List.mem_of_mem_take hm)) (fun e he => q3 e (by rw [seenE_take] at he; exact List.mem_of_mem_take he)) (by rw [List.length_take]; omega) _ _) (by rfl) ?_
  rintro r σ' nx1 ⟨id, ver, hs1, hs2, rfl, rfl⟩
  try simp -dsimp (disch := omega) only [↓bp0, bd0, bd_LPa, evStore, evRange, simprocAttr]
  refine CallY.q 5 rfl (by kernel_rfl) ?_
  refine CallQ.thaw (d_list (cls0 l.known) (seenE l (v.take k))) (by rfl) (by first | rfl | (simp -dsimp (disch := omega) only [↓bp0, bd0, bd_LPa, evStore, evRange, drcs, drc, flat, flSt, List.drop_zero, simprocAttr]; done)) flLitI ?_
  simp -dsimp (disch := omega) only [↓bp0, bd0, bd_LPa, evStore, evRange, retQ, resL, finL, newL, flat, tupOf, List.toList_toArray, Tryd.f28, effE, simprocAttr]
  exact ⟨.rfl', .rfl', trivial⟩
end Go.Ab
end

section
/- notes.Since. -/
set_option maxRecDepth 1000000
set_option maxHeartbeats 16000000
namespace Go.Ab
open Go Go.Proofs Go.Sort
theorem bd_QO : type_of% (And.intro @evNext.eq_1 (And.intro @fld (And.intro @nit (And.intro @nxE (And.intro @ghR (And.intro @ovR (And.intro @evBin_seql (And.intro @evBin_sneq (And.intro @str.eq_1 (And.intro @u8.eq_1 (And.intro @encBrs.eq_1 (And.intro @cBr.eq_1 (And.intro @encLdg.eq_1 (And.intro @encKws.eq_1 (And.intro @cKw.eq_1 (And.intro @encEvss.eq_1 (And.intro @encEvs.eq_1 (And.intro @cEv.eq_1 (And.intro @encMks.eq_1 (And.intro @cMk.eq_1 (And.intro @encStrs.eq_1 (And.intro @tk2 (And.intro @tk3 (And.intro @List.set_cons_succ.{0} (And.intro @List.getElem?_cons_zero.{0} (And.intro @List.getElem?_cons_succ.{0} (@List.length_set.{0}))))))))))))))))))))))))))) := And.intro @evNext.eq_1 (And.intro @fld (And.intro @nit (And.intro @nxE (And.intro @ghR (And.intro @ovR (And.intro @evBin_seql (And.intro @evBin_sneq (And.intro @str.eq_1 (And.intro @u8.eq_1 (And.intro @encBrs.eq_1 (And.intro @cBr.eq_1 (And.intro @encLdg.eq_1 (And.intro @encKws.eq_1 (And.intro @cKw.eq_1 (And.intro @encEvss.eq_1 (And.intro @encEvs.eq_1 (And.intro @cEv.eq_1 (And.intro @encMks.eq_1 (And.intro @cMk.eq_1 (And.intro @encStrs.eq_1 (And.intro @tk2 (And.intro @tk3 (And.intro @List.set_cons_succ.{0} (And.intro @List.getElem?_cons_zero.{0} (And.intro @List.getElem?_cons_succ.{0} (@List.length_set.{0}))))))))))))))))))))))))))
theorem n_Since1 (W : List Int) (hw : W.length ≤ 2^30) (c : Int) : CallSpec cx 47 ([i64 c] ++ [.cptr [encL W]]) (bl (W.any fun y => decide (c = y))) := by
  refine callSpec_of_vc Tryd.func47 rfl (by decide) (by kernel_rfl) (Nat.le_of_ble_eq_true rfl) ?_
  try simp -dsimp (disch := omega) only [↓bp0, bd0, bd_QO, evStore, evRange, thw, newI, Tryd.f47, List.cons_append, List.nil_append, simprocAttr]
  refine CallQ.imm (ci_con W c (by omega)) (by rfl) (by rfl) (by first | exact .inl rfl | exact .inr rfl | exact .inr scalB | exact .inr scalI | exact .inr scalT | exact .inr scalM | exact .inr scalMT | exact .inr scalE | exact .inr scalET | exact .inr scalN | exact .inr scalNT) ?_
  simp -dsimp (disch := omega) only [↓bp0, bd0, bd_QO, evStore, evRange, thw, newI, retQ, resL, finL, newL, flat, tupOf, List.toList_toArray, Tryd.f47, simprocAttr]
  exact leT_one .rfl' (by simp)
theorem keepP_ex (p : Int → Bool) (L : List Int) : ∃ E : List Int, E.length = L.length ∧ E.take (keepP p L).length = keepP p L := by
  have := List.length_filter_le (fun c => !p c) L
  exact ⟨keepP p L ++ L.drop (keepP p L).length, by rw [List.length_append, List.length_drop]; show (List.filter _ L).length + (L.length - (List.filter _ L).length) = _; omega, List.take_left' rfl⟩
theorem laft_view {l : Ldg} {b : Str} {k : Int} (h : (laft l b k).2 = 0) : (lview l b).2 = 0 := by
  unfold laft at h
  by_cases hv : (lview l b).2 = 0
  · exact hv
  · rw [if_pos hv] at h; exact h
theorem n_Since (l : Ldg) (b : Str) (k : Int) (hz : LSz l) : CallSpec cx 18 [encLdg l, str b, i64 k] (.tup [encNts (lsince l b k).1, i64 (lsince l b k).2]) := by
  refine callSpec_of_vc Tryd.func18 rfl (by decide) (by kernel_rfl) (Nat.le_of_ble_eq_true rfl) ?_
  try simp -dsimp (disch := omega) only [↓bp0, bd0, bd_QO, evStore, evRange, thw, newI, Tryd.f18, simprocAttr]
  refine CallQ.imm (d_After l b k hz) (by rfl) (by rfl) (by first | exact .inl rfl | exact .inr rfl | exact .inr scalB | exact .inr scalI | exact .inr scalT | exact .inr scalM | exact .inr scalMT | exact .inr scalE | exact .inr scalET | exact .inr scalN | exact .inr scalNT) ?_
  cases h0 : decide ((laft l b k).2 = 0)
  · have h0' := of_decide_eq_false h0
    rw [lsince, if_pos h0']
    simp -dsimp (disch := omega) only [↓bp0, bd0, bd_QO, evStore, evRange, thw, newI, retQ, resL, finL, newL, flat, tupOf, List.toList_toArray, Tryd.f18, h0, newI, simprocAttr]
    exact ⟨.inl (.inr (.inr ⟨rfl, rfl⟩)), .rfl', trivial⟩
  have h0' := of_decide_eq_true h0
  have hv := laft_view h0'
  rw [lsince, if_neg (by rw [Decidable.not_not]; exact h0')]
  have hE := d_Effect l b hz
  have hle : (leff l b).2 = 0 := by rw [leff_v hv]
  rw [hle] at hE
  have hwl : (laft l b k).1.length ≤ 30 := by
    rw [(laft_ok hv h0').2.2]
    have := lst_len (inL (cls0 l.known) ((evV l b).take k.toNat)) 0
    rw [inL_len] at this; exact this
  have hel : (leff l b).1.length ≤ 30 := leff_len
  have vB := n_viewOk l b hz hv
  have hlB := evV_len hv
  have cL := fun L h => n_lasts l (evV l b) L hz.known (by omega) h
  have hS := n_Since1 (laft l b k).1 (by omega)
  generalize (laft l b k).1 = W at hwl hS ⊢
  generalize (leff l b).1 = L at hel hE ⊢
  generalize evV l b = v at vB hlB cL ⊢
  try simp -dsimp (disch := omega) only [↓bp0, bd0, bd_QO, evStore, evRange, thw, newI, h0, newI, simprocAttr]
  refine CallQ.thawT (hE) (by rfl) (by first | rfl | (simp -dsimp (disch := omega) only [↓bp0, bd0, bd_QO, evStore, evRange, thw, newI, drcs, drc, flat, encL, simprocAttr]; done)) (by first | exact .inl rfl | exact .inr (by simp [scal1, List.all_map, isLit, newI, newB, i64, bl]; done)) ?_
  try simp -dsimp (disch := omega) only [↓bp0, bd0, bd_QO, evStore, evRange, thw, newI, decide_true, thw, newI, bne_self_eq_false, simprocAttr]
  refine CallQ.imm (vB) (by rfl) (by rfl) (by first | exact .inl rfl | exact .inr rfl | exact .inr scalB | exact .inr scalI | exact .inr scalT | exact .inr scalM | exact .inr scalMT | exact .inr scalE | exact .inr scalET | exact .inr scalN | exact .inr scalNT) ?_
  try simp -dsimp (disch := omega) only [↓bp0, bd0, bd_QO, evStore, evRange, thw, newI, newEvs, simprocAttr]
  refine vc_regJ (fun τ => τ 0 = some (.row 0 3 [[encKws l.known, encBrs l.brs, encEvss l.evs]] false)) [0, 1, 2, 3, 6] [4] (by kernel_rfl) (by kernel_rfl) ?_ ?_
  · exact (by simp -dsimp (disch := omega) only [↓bp0, bd0, bd_QO, evStore, evRange, thw, newI, simprocAttr])
  try simp -dsimp (disch := omega) only [↓bp0, bd0, bd_QO, evStore, evRange, thw, newI, vcj, implies_true, simprocAttr]
  refine ⟨fun τ hτ => by simp -dsimp (disch := omega) only [↓bp0, bd0, bd_QO, evStore, evRange, thw, newI, hτ, simprocAttr], ?_⟩
  try simp -dsimp (disch := omega) only [↓bp0, bd0, bd_QO, evStore, evRange, thw, newI, vcj, implies_true, simprocAttr]
  obtain ⟨E0, hE0, hE1⟩ := keepP_ex (fun c => W.any fun y => decide (c = y)) L
  refine EffQ.inm (d_DelG (fun c => W.any fun y => decide (c = y)) 47 (W.map fun n => [i64 n]) (fun c => hS c) L (by omega) _ _ 2 1 0 ?_ ?_ (by decide)) ⟨_, _, _, Nat.le_refl _, E0, hE0, hE1, rfl, rfl⟩ (by rfl) ?_
  · try simp -dsimp (disch := omega) only [↓bp0, bd0, bd_QO, evStore, evRange, thw, newI, simprocAttr]
  · try simp -dsimp (disch := omega) only [↓bp0, bd0, bd_QO, evStore, evRange, thw, newI, encL, simprocAttr]
  rintro r σ' nx1 ⟨hn1, E, hE, hEk, rfl, rfl⟩
  have hn1' : 3 ≤ nx1 := hn1
  have hK : keepP (fun c => W.any fun y => decide (c = y)) L = missI L W := rfl
  rw [hK] at hEk ⊢
  have hKl : (missI L W).length ≤ L.length := List.length_filter_le _ _
  have hEm : List.take (missI L W).length (E.map fun n => [PV.lit (.int .i64 n)]) = (missI L W).map fun n => [PV.lit (.int .i64 n)] := by rw [← List.map_take, hEk]
  have hKE : (missI L W).length ≤ E.length := by omega
  refine ⟨.inr (by simp -dsimp (disch := omega) only [↓bp0, bd0, bd_QO, evStore, evRange, thw, newI, simprocAttr]), ?_⟩
  have cO := cL (missI L W) (by omega)
  generalize missI L W = M at cO hEm hKE ⊢
  try simp -dsimp (disch := omega) only [↓bp0, bd0, bd_QO, evStore, evRange, thw, newI, vcj, implies_true, simprocAttr]
  refine CallY0.imm cO (by rfl) (by simp -dsimp (disch := omega) only [↓bp0, bd0, bd_QO, evStore, evRange, thw, newI, drcs, drc, dr1s, dr1, flat, encL, hEm, hKE, List.length_map, List.drop_zero, Nat.zero_add, simprocAttr]) (by first | exact .inl rfl | exact .inr scalN) ?_
  try simp -dsimp (disch := omega) only [↓bp0, bd0, bd_QO, evStore, evRange, thw, newI, newNts, simprocAttr]
  simp -dsimp (disch := omega) only [↓bp0, bd0, bd_QO, evStore, evRange, thw, newI, retQ, resL, finL, newL, flat, tupOf, List.toList_toArray, Tryd.f18, newNts, simprocAttr]
  exact ⟨fun _ _ => trivial, leT_refl (PV.tup [PV.imm (List.map cNt (lastsF (clsI l.known) v M)) false, PV.lit (Value.int IntKind.i64 0)])⟩
end Go.Ab
end

section
/- NotesNames: the given values. -/
set_option maxRecDepth 1000000
set_option maxHeartbeats 16000000
namespace Go.Ab
open Go Go.Proofs Go.Sort
theorem argAgg {C : Ctx} {f : FuncId} {ps' ps rest : List PV} {r : PV} (h : CallSpec C f (.agg ps :: rest) r) (hl : leDs ps' ps) : CallSpec C f (.agg ps' :: rest) r :=
  ⟨h.1, fun w fz vs h1 h2 h3 => h.2 w fz vs h1 h2 (by
    simp only [RelList] at h3 ⊢
    obtain ⟨v, vs', e, g1, g2⟩ := h3
    refine ⟨v, vs', e, ?_, g2⟩
    simp only [Rel] at g1 ⊢
    obtain ⟨us, e', ho, hr⟩ := g1
    exact ⟨us, e', leDs_all hl ho, hr.deep hl⟩)⟩
def sFix2 : Str := ⟨#[102, 105, 120, 45, 50]⟩
def sR2 : Str := ⟨#[114, 50]⟩
def dvB : List Nt := [⟨3, sFix, 1, 0⟩, ⟨0, sDocs, 1, 1⟩]
def dvB1 : List Nt := [⟨0, sDocs, 1, 1⟩]
def dvG : List Nt := [⟨5, sOther, 1, -1⟩]
def dvM : List Nt := [⟨0, sDocs, 1, -1⟩]
def dvS : List Nt := [⟨5, sOther, 1, 2⟩, ⟨3, sFix, 4, 5⟩]
def mrL : Ldg := ⟨[⟨sFix, 3⟩, ⟨sDocs, 0⟩, ⟨sOther, 5⟩, ⟨sFix2, 3⟩], [⟨sMn, ⟨#[]⟩, 0⟩, ⟨sRo, sMn, 1⟩], [[⟨1, sFix⟩, ⟨1, sDocs⟩], [⟨3, sFix⟩, ⟨1, sOther⟩, ⟨2, sFix2⟩, ⟨3, sFix⟩, ⟨4, sFix⟩]]⟩
def bdL : Ldg := ⟨gvL.known, gvL.brs, []⟩
theorem mr_sz : LSz mrL := ⟨by decide, by decide, by decide, by intro s hs; simp only [mrL, List.mem_cons, List.not_mem_nil, or_false] at hs; rcases hs with rfl | rfl <;> decide⟩
theorem bd_sz : LSz bdL := ⟨by decide, by decide, by decide, by intro s hs; cases hs⟩
theorem mt_sz : LSz ⟨[], [], []⟩ := ⟨by decide, by decide, by decide, by intro s hs; cases hs⟩
theorem ng_one {l : Ldg} {a b : Str} {A B : List Int} {n : Nt} {L : List Nt} (h : ldiff l a b = (A, B, 0)) (h0 : goneO (clsI l.known) (evV l a) (evV l b) A = [n]) (h1 : lastsF (clsI l.known) (evV l b) A = L) : ngone l a b = (n :: L, 0) := by
  rw [ngone, h]
  simp only
  rw [if_neg (by simp), h0, h1, srtN_one]; rfl
theorem ng_no {l : Ldg} {a b : Str} {A B : List Int} (h : ldiff l a b = (A, B, 0)) (h0 : goneO (clsI l.known) (evV l a) (evV l b) A = []) (h1 : lastsF (clsI l.known) (evV l b) A = []) : ngone l a b = ([], 0) := by
  rw [ngone, h]
  simp only
  rw [if_neg (by simp), h0, h1, List.eq_nil_of_length_eq_zero (srtN_len [])]; rfl
theorem e_news {l : Ldg} {a b : Str} {X : List Nt} {e : Int} (hz : LSz l) (h : nnews l a b = (X, e)) : CallSpec cx 14 [encLdg l, str a, str b] (.tup [newNts X, i64 e]) := by
  have := n_News l a b hz
  rw [h] at this; exact this
theorem e_gone {l : Ldg} {a b : Str} {X : List Nt} {e : Int} (hz : LSz l) (h : ngone l a b = (X, e)) : CallSpec cx 16 [encLdg l, str a, str b] (.tup [newNts X, i64 e]) := by
  have := n_Gone l a b hz
  rw [h] at this; exact this
theorem e_text {l : Ldg} {a b : Str} {X : Str} {e : Int} (hz : LSz l) (h : ntext l a b = (X, e)) : CallSpec cx 17 [encLdg l, str a, str b] (.tup [str X, i64 e]) := by
  have := n_Text l a b hz
  rw [h] at this; exact this
theorem e_since {l : Ldg} {b : Str} {k : Int} {X : List Nt} {e : Int} (hz : LSz l) (h : lsince l b k = (X, e)) : CallSpec cx 18 [encLdg l, str b, i64 k] (.tup [encNts X, i64 e]) := by
  have := n_Since l b k hz
  rw [h] at this; exact this
theorem g_d1 : ldiff gvL sRo sMn = ([5], [0, 3], 0) := by kernel_rfl
theorem g_n1 : nnews gvL sRo sMn = (dvB, 0) := by kernel_rfl
theorem g_g1 : ngone gvL sRo sMn = (dvG, 0) := ng_one g_d1 (by kernel_rfl) (by kernel_rfl)
theorem g_d2 : ldiff gvL sRo sRo = ([], [], 0) := by kernel_rfl
theorem g_g2 : ngone gvL sRo sRo = ([], 0) := ng_no g_d2 (by kernel_rfl) (by kernel_rfl)
theorem g_n2 : nnews gvL sRo sRo = ([], 0) := by kernel_rfl
theorem g_t1 : ntext gvL sRo sMn = (⟨#[99, 97, 109, 101, 32, 51, 32, 102, 105, 120, 32, 108, 97, 110, 100, 10, 99, 97, 109, 101, 32, 48, 32, 100, 111, 99, 115, 32, 108, 97, 110, 100, 10, 119, 101, 110, 116, 32, 53, 32, 111, 116, 104, 101, 114, 10]⟩, 0) := by
  rw [ntext, g_d1, g_n1, g_g1]
  simp only
  rw [if_neg (by simp)]
  congr 1
theorem g_t2 : ntext gvL sRo sRo = (⟨#[]⟩, 0) := by
  rw [ntext, g_d2, g_n2, g_g2]
  simp only
  rw [if_neg (by simp)]
  congr 1
theorem g_d3 : ldiff mrL sMn sRo = ([0], [5], 0) := by kernel_rfl
theorem g_g3 : ngone mrL sMn sRo = (dvM, 0) := ng_one g_d3 (by kernel_rfl) (by kernel_rfl)
theorem w_a : CallSpec cx 14 [encLdg gvL, str sRo, str sMn] (.tup [newNts dvB, i64 0]) := e_news gv_sz g_n1
theorem w_b : CallSpec cx 16 [encLdg gvL, str sRo, str sMn] (.tup [newNts dvG, i64 0]) := e_gone gv_sz g_g1
theorem w_c : CallSpec cx 17 [encLdg gvL, str sRo, str sMn] (.tup [str ⟨#[99, 97, 109, 101, 32, 51, 32, 102, 105, 120, 32, 108, 97, 110, 100, 10, 99, 97, 109, 101, 32, 48, 32, 100, 111, 99, 115, 32, 108, 97, 110, 100, 10, 119, 101, 110, 116, 32, 53, 32, 111, 116, 104, 101, 114, 10]⟩, i64 0]) := e_text gv_sz g_t1
theorem w_d : CallSpec cx 17 [encLdg gvL, str sRo, str sRo] (.tup [str ⟨#[]⟩, i64 0]) := e_text gv_sz g_t2
theorem w_e : CallSpec cx 18 [encLdg gvL, str sMn, i64 0] (.tup [encNts dvB, i64 0]) := e_since gv_sz (by kernel_rfl)
theorem w_f : CallSpec cx 18 [encLdg gvL, str sMn, i64 1] (.tup [encNts dvB1, i64 0]) := e_since gv_sz (by kernel_rfl)
theorem w_g : CallSpec cx 18 [encLdg gvL, str sMn, i64 2] (.tup [encNts [], i64 0]) := e_since gv_sz (by kernel_rfl)
theorem w_h : CallSpec cx 18 [encLdg gvL, str sRo, i64 1] (.tup [encNts gvN, i64 0]) := e_since gv_sz (by kernel_rfl)
theorem w_i : CallSpec cx 16 [encLdg mrL, str sMn, str sRo] (.tup [newNts dvM, i64 0]) := e_gone mr_sz g_g3
theorem w_j : CallSpec cx 18 [encLdg mrL, str sRo, i64 2] (.tup [encNts dvS, i64 0]) := e_since mr_sz (by kernel_rfl)
theorem nilD : leD (.lit (.slice none 0 0)) (.imm [] false) := by simp [leD]
theorem w_k : CallSpec cx 14 [.agg [encKws gvL.known, encBrs gvL.brs, .lit (.slice none 0 0)], str sMn, str sRo] (.tup [newNts [], i64 2]) := by
  refine argAgg (e_news bd_sz (by kernel_rfl)) ?_
  simp only [leDs]
  exact ⟨_, _, rfl, leD_refl _, _, _, rfl, leD_refl _, _, _, rfl, nilD, rfl⟩
theorem w_l : CallSpec cx 14 [encLdg gvL, str sMn, str sR2] (.tup [newNts [], i64 6]) := e_news gv_sz (by kernel_rfl)
theorem w_m : CallSpec cx 16 [encLdg gvL, str sR2, str sMn] (.tup [newNts [], i64 6]) := e_gone gv_sz (by kernel_rfl)
theorem w_n : CallSpec cx 18 [encLdg gvL, str sR2, i64 (-1)] (.tup [encNts [], i64 6]) := e_since gv_sz (by kernel_rfl)
theorem w_o : CallSpec cx 18 [encLdg gvL, str sRo, i64 4] (.tup [encNts [], i64 2]) := e_since gv_sz (by kernel_rfl)
theorem w_p : CallSpec cx 18 [encLdg gvL, str sRo, i64 (-1)] (.tup [encNts [], i64 2]) := e_since gv_sz (by kernel_rfl)
theorem w_q : CallSpec cx 17 [encLdg gvL, str ⟨#[]⟩, str sMn] (.tup [str ⟨#[]⟩, i64 6]) := e_text gv_sz (by kernel_rfl)
theorem w_r : CallSpec cx 17 [.agg [.lit (.slice none 0 0), .lit (.slice none 0 0), .lit (.slice none 0 0)], str sMn, str sMn] (.tup [str ⟨#[]⟩, i64 8]) := by
  refine argAgg (e_text mt_sz (by kernel_rfl)) ?_
  simp only [leDs]
  exact ⟨_, _, rfl, nilD, _, _, rfl, nilD, _, _, rfl, nilD, rfl⟩
theorem gvB_eq : CallSpec cx 19 [encNts dvB, encNts dvB] (bl true) := r_SameN dvB (by decide) fun n hn x y => by
  simp only [dvB, List.mem_cons, List.not_mem_nil, or_false] at hn
  rcases hn with rfl | rfl
  · kernel_rfl
  · kernel_rfl
theorem gvB1_eq : CallSpec cx 19 [encNts dvB1, encNts dvB1] (bl true) := r_SameN dvB1 (by decide) fun n hn x y => by
  simp only [dvB1, List.mem_cons, List.not_mem_nil, or_false] at hn
  subst hn
  kernel_rfl
theorem dvG_eq : CallSpec cx 19 [encNts dvG, encNts dvG] (bl true) := r_SameN dvG (by decide) fun n hn x y => by
  simp only [dvG, List.mem_cons, List.not_mem_nil, or_false] at hn
  subst hn
  kernel_rfl
theorem dvM_eq : CallSpec cx 19 [encNts dvM, encNts dvM] (bl true) := r_SameN dvM (by decide) fun n hn x y => by
  simp only [dvM, List.mem_cons, List.not_mem_nil, or_false] at hn
  subst hn
  kernel_rfl
theorem dvS_eq : CallSpec cx 19 [encNts dvS, encNts dvS] (bl true) := r_SameN dvS (by decide) fun n hn x y => by
  simp only [dvS, List.mem_cons, List.not_mem_nil, or_false] at hn
  rcases hn with rfl | rfl
  · kernel_rfl
  · kernel_rfl
def gvS (nx : Nat) : List (Nat × Blk) := [(nx + 1, .row 0 2 (gvL.known.map cKw) false), (nx + 2, .row 0 3 (gvL.brs.map cBr) false),
      (nx + 3, .row 0 2 ([⟨1, sFix⟩, ⟨1, sDocs⟩].map cEv) false), (nx + 4, .row 0 2 ([⟨3, sFix⟩, ⟨1, sOther⟩].map cEv) false), (nx + 5, .row 0 1 [[.own (nx + 3) 0 0 2 false], [.own (nx + 4) 0 0 2 false]] false)]
theorem v_givenS (σ : Store) (nx : Nat) : StSpec cx 15 [] σ nx (fun r σ' nx' => nx' = nx + 6 ∧ r = .agg [.own (nx + 1) 0 0 3 false, .own (nx + 2) 0 0 2 false, .own (nx + 5) 0 0 2 false] ∧ σ' = ovS (gvS nx) σ) := by
  refine StSpec.fresh (by kernel_rfl) fun hfr => ?_
  refine stSpec_of_vc Tryd.func15 rfl (by decide) (by kernel_rfl) (Nat.le_of_ble_eq_true rfl) ?_
  simp -dsimp (maxSteps := 9^9) (disch := first | omega | decide +kernel) only [↓bp0, bd0, reduceIte, Nat.reduceEqDiff, evStore, Nat.reduceAdd, Nat.reduceMul, Int.reduceEq, Int.reduceLT, Int.reduceLE, Nat.reduceLeDiff, List.reduceReplicate, reduceCtorEq, evRange, evNext, fld, nit, nxE, ghR, ovR, evBin_seql, evBin_sneq, str, u8, encBrs, cBr, encLdg, encKws, cKw, encEvss, encEvs, cEv, encMks, cMk, encStrs, cNt, tk4, tk2, tk3, List.set_cons_succ, List.getElem?_cons_zero, List.getElem?_cons_succ, Nat.reduceLT, List.length_set, stQ, resL, tupOf, List.toList_toArray, Tryd.f15, PV.cellsP, bKw, bBr1, bBr3, bEv, bLdg]
  refine ⟨ovS (gvS nx) σ, nx + 6, weakσ_ofV hfr ?_ ?_ (Nat.le_refl _), ?_⟩
  · first | (simp -dsimp (maxSteps := 9^9) (disch := first | omega | decide +kernel) only [↓bp0, bd0, reduceIte, Nat.reduceEqDiff, evStore, Nat.reduceAdd, Nat.reduceMul, Int.reduceEq, Int.reduceLT, Int.reduceLE, Nat.reduceLeDiff, List.reduceReplicate, reduceCtorEq, evRange, evNext, fld, nit, nxE, ghR, ovR, evBin_seql, evBin_sneq, str, u8, encBrs, cBr, encLdg, encKws, cKw, encEvss, encEvs, cEv, encMks, cMk, encStrs, cNt, tk4, tk2, tk3, List.set_cons_succ, List.getElem?_cons_zero, List.getElem?_cons_succ, Nat.reduceLT, List.length_set, gvS, gvL, sMn, sRo, sFix, sDocs, sOther]; done) | simp -dsimp [evl, putN, i64, u32, bl, encL, encB, encLL, gvS, gvL, sMn, sRo, sFix, sDocs, sOther]
  · exact (by (try simp -dsimp only [st_put_σ]); repeat (first | exact Agr.rfl' | refine Agr.put ?_ (by omega) | exact Agr.ov (by simp only [geL]; omega)))
  · first | exact ⟨rfl, rfl, rfl⟩ | exact ⟨rfl, rfl⟩ | exact ⟨trivial, rfl, rfl⟩
end Go.Ab
end

section
/- Abstract values: a body walked in parts, with what is known let go between them. -/
namespace Go.Ab
open Go
variable {C : Ctx}
theorem callSpec_of_abs {f : FuncId} {fn : Func} {c : Code} {args : List PV} {r : PV} (hf : C.P.funcs[f]? = some fn) (hb : fn.body = some c) (hn : (fn.name != "runtime.NumGoroutine") = true)
    (hl : args.length ≤ fn.ntmps)
    (h : AbsW C fn.ntmps c ⟨argEnv args, fun _ => none, 0⟩ (retQ C fn.results.toList r)) : CallSpec C f args r := by
  refine ⟨by simp only [isGo, hf, hb, hn, Option.isSome_some, Bool.and_self], fun w fz vs hfz hg hrel => ?_⟩
  have hlen := relList_length _ _ hrel
  have hsim : Sim C fn.ntmps ⟨fun _ _ => none, fun _ => none, fz⟩ ⟨argEnv args, fun _ => none, 0⟩ { tmps := vs.toArray ++ Array.replicate (fn.ntmps - vs.toArray.size) undef, defers := [] } w := by
    refine ⟨trivial, by simp; omega, fun t p hp => ?_, fun i B h => (by cases h), fun i j B B' b h => (by cases h), fun b ⟨i, B, h, _⟩ => (by cases h), fun i B b h => (by cases h), hfz, fun _ _ _ => ⟨rfl, rfl⟩, fun i ver sz es fz v h => (by cases h), hg⟩
    simp only [argEnv] at hp
    obtain ⟨v, h1, h2⟩ := relList_get _ _ _ _ hrel hp
    have hlt : t < args.length := (List.getElem?_eq_some_iff.1 hp).1
    refine ⟨by omega, ?_⟩
    have : (vs.toArray ++ Array.replicate (fn.ntmps - vs.toArray.size) undef)[t]? = some v := by
      rw [Array.getElem?_append_left (by simp; omega)]; simpa using h1
    rw [Array.getD_eq_getD_getElem?, this]
    exact h2
  refine calls_of_abs hf hb h hsim ?_
  intro e a' w' κ' st' hq s' ev
  have fin : ∀ {X : Exit}, retQ C fn.results.toList r X st' → (X = .normal ∨ X = .ret) → ∃ v, (results fn a'.tmps).run C.P w' = .ok v w' ∧ ∃ v' us, (Ending.returned v = .returned v') ∧ Bel w w' ∧ us.Nodup ∧ (∀ b ∈ us, w.heap.size ≤ b ∧ b < w'.heap.size) ∧ RetTop (retKn fz w w' us) w' r v' us := by
    intro X hX hXX
    have hX' : onL (resL C st' fn.results.toList) fun ps => onL (finL st'.σ ps) fun qs => leT (tupOf qs) r := by
      rcases hXX with rfl | rfl <;> exact hX
    cases h1 : resL C st' fn.results.toList with
    | none => rw [h1] at hX'; exact hX'.elim
    | some ps =>
      rw [h1] at hX'
      simp only [onL] at hX'
      cases h2 : finL st'.σ ps with
      | none => rw [h2] at hX'; exact hX'.elim
      | some qs =>
        rw [h2] at hX'
        obtain ⟨vs', g1, g2⟩ := run_results s' h1
        have hF : ∀ b, κ'.fz b → fz b ∨ (w.heap.size ≤ b ∧ b < w'.heap.size) := fun b hb => by
          rcases ev.fznew b hb with h | h | ⟨i, B, h, _⟩
          · exact .inl h
          · exact .inr ⟨h, s'.fzlt b hb⟩
          · cases h
        have hF' : ∀ i B b, st'.σ i = some B → BlkAt κ' i B b → w.heap.size ≤ b ∧ b < w'.heap.size := fun i B b h3 h4 => by
          rcases ev.blknew i B b h3 h4 with h | ⟨i, B, h, _⟩
          · exact ⟨h, h4.lt (s'.blk i B h3).2⟩
          · cases h
        obtain ⟨us, u1, u2, u3⟩ := finL_sound s' (F := fun b => fz b ∨ (w.heap.size ≤ b ∧ b < w'.heap.size)) hF (fun i B b h3 h4 => .inr (hF' i B b h3 h4)) h2 g1
        have hus : ∀ b ∈ us, w.heap.size ≤ b ∧ b < w'.heap.size := by
          intro b hb
          obtain ⟨i, B, b1, b2⟩ := u2 b hb
          exact hF' i B b b1 b2
        refine ⟨_, g2, _, us, rfl, ⟨ev.os, ev.tape, ev.output, ev.size, fun b hb => (ev.keep b hb (fun ⟨i, B, h, _⟩ => (by cases h))).1⟩, u1, hus, ?_⟩
        exact retTop_le (retTop_of_list u3) hX'
  cases e with
  | normal => exact ⟨.inl rfl, fin hq (.inl rfl)⟩
  | ret => exact ⟨.inr rfl, fin hq (.inr rfl)⟩
  | _ => exact hq.elim
def takeC : Nat → Code → Code
  | 0, _ => .skip
  | n + 1, .seq a b => .seq a (takeC n b)
  | _ + 1, _ => .scope .skip
def dropC : Nat → Code → Code
  | 0, c => c
  | n + 1, .seq _ b => dropC n b
  | _ + 1, _ => .skip
def cutQ (C : Ctx) (N : Nat) (rest : Code) (Q : Exit → St → Prop) : Exit → St → Prop
  | .normal, s => AbsW C N rest s Q
  | e, s => Q e s
theorem AbsW.cut {N : Nat} : ∀ (n : Nat) (c : Code) {st : St} {Q : Exit → St → Prop}, okCode N (takeC n c) = true → vc C N (takeC n c) st (cutQ C N (dropC n c) Q) → AbsW C N c st Q
  | 0, c, st, Q, _, h => by simpa only [takeC, dropC, vc, cutQ] using h
  | n + 1, .seq a b, st, Q, ho, h => by
    simp only [takeC, okCode, Bool.and_eq_true] at ho
    simp only [takeC, dropC, vc] at h
    refine AbsW.seq (AbsW.mono (vc_sound _ _ _ ho.1 h) ?_)
    intro e s hs
    cases e with
    | normal => exact AbsW.cut n b ho.2 hs
    | _ => exact hs
  | n + 1, .skip, st, Q, ho, h => h.elim
  | n + 1, .region _ _ _, st, Q, ho, h => h.elim
  | n + 1, .label _, st, Q, ho, h => h.elim
end Go.Ab
end

section
/- NotesNames, the walk. -/
set_option maxRecDepth 1000000
set_option maxHeartbeats 16000000
namespace Go.Ab
open Go Go.Proofs Go.Sort
def bodyC (f : Func) : Code := match f.body with
  | some c => c
  | none => .skip
noncomputable def nnB : Code := bodyC Tryd.f4
end Go.Ab
end
