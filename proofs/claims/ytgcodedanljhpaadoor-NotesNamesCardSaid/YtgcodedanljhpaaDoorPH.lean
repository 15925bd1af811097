/- notes.News; what Gone asks of slices. -/
import Derived.Test.YtgcodedanljhpaaDoorOA
import Derived.Test.YtgcodedanljhpaaDoorLJ
set_option linter.unusedSimpArgs false
set_option linter.unusedVariables false
section
set_option maxRecDepth 1000000
set_option maxHeartbeats 8000000
namespace Go.Ab
open Go Go.Proofs Go.Shelf Go.RowKit
theorem tk4 : ∀ {α : Type} {a b c d : α}, List.take 4 [a, b, c, d] = [a, b, c, d] := rfl
theorem lview_len {l : Ldg} {n : Str} (h : (lview l n).2 = 0) : (lview l n).1.length ≤ 2^20 := by
  obtain ⟨hok, i, hi, _, e⟩ := lview_ok h
  obtain ⟨b, c, hb, hc, h0, h1⟩ := hok.vok.at hi
  have h2 := hok.vok.length i hi hb hc
  have h3 := hok.vok.at_ i b hb
  rw [e]; omega
theorem lview_b {l : Ldg} {a b : Str} (h : (lview l a).2 = 0) : lview l b = bview l.brs (cnts l) b := by
  rw [lview, if_neg]
  rw [Decidable.not_not]
  unfold lview at h
  split at h
  · rename_i h1; exact absurd h h1
  · rename_i h1; exact Decidable.not_not.1 h1
theorem ldiff_ok {l : Ldg} {a b : Str} (h : (ldiff l a b).2.2 = 0) : (lview l a).2 = 0 ∧ (lview l b).2 = 0 := by
  unfold ldiff at h
  split at h
  · rename_i h1; exact absurd h h1
  · rename_i h1
    split at h
    · rename_i h2; exact absurd h h2
    · rename_i h2; exact ⟨Decidable.not_not.1 h1, Decidable.not_not.1 h2⟩
def evV (l : Ldg) (n : Str) : List Ev := seenE l (lview l n).1
theorem n_viewOk (l : Ldg) (n : Str) (hz : LSz l) (h : (lview l n).2 = 0) : CallSpec cx 35 [encLdg l, str n] (.tup [newEvs (evV l n), i64 0]) := by
  obtain ⟨q1, q2, q3, q4⟩ := fold_pre h
  have hl := lview_len h
  have hb := lview_b (b := n) h
  have := n_view l n hz (by rw [← hb]; exact q2) (by rw [← hb]; omega)
  rw [← hb, h] at this
  exact this
theorem evV_len {l : Ldg} {n : Str} (h : (lview l n).2 = 0) : (evV l n).length ≤ 2^20 := by
  have := lview_len h
  rw [evV, seenE, List.length_map]; omega
theorem onlyL_len {f : Str → Int} {s t : List Ev} : (onlyL f s t).length ≤ 30 := by
  have := lst_len (onlyP f s t) 0
  rw [onlyP_len] at this
  exact this
theorem litNt {g : List Nt} : (g.map cNt).all (fun e => e.all isLit) = true := by
  simp only [List.all_map, List.all_eq_true]; intro x _; rfl
theorem flNt {g : List Nt} : ((g.map cNt).all fun e => e.all flat) = true := by
  simp only [List.all_map, List.all_eq_true]; intro x _; rfl
theorem scalNT {l : List Nt} {n : Int} : scal (.tup [newNts l, i64 n]) = true := by
  simp only [scal, scal1, newNts, List.all_map, List.all_eq_true, List.all_cons, List.all_nil, Bool.and_true, Bool.and_eq_true, i64]
  intro x _; rfl
theorem scalN {l : List Nt} : scal (newNts l) = true := by
  simp only [scal, scal1, newNts, List.all_map, List.all_eq_true]
  intro x _; rfl
def nnews (l : Ldg) (a b : Str) : List Nt × Int := if (ldiff l a b).2.2 ≠ 0 then ([], (ldiff l a b).2.2) else (lastsF (clsI l.known) (evV l b) (ldiff l a b).2.1, 0)
theorem n_News (l : Ldg) (a b : Str) (hz : LSz l) : CallSpec cx 14 [encLdg l, str a, str b] (.tup [newNts (nnews l a b).1, i64 (nnews l a b).2]) := by
  refine callSpec_of_vc Tryd.func14 rfl (by decide) (by kernel_rfl) (Nat.le_of_ble_eq_true rfl) ?_
  try simp -dsimp (disch := omega) only [↓bp0, bd0, evStore, evRange, evNext, fld, nit, nxE, ghR, ovR, evBin_seql, evBin_sneq, str, u8, encBrs, cBr, encLdg, encKws, cKw, encEvss, encEvs, cEv, encMks, cMk, encStrs, tk2, tk3, List.set_cons_succ, List.getElem?_cons_zero, List.getElem?_cons_succ, List.length_set, Tryd.f14, simprocAttr]
  refine CallQ.imm (d_Differ l a b hz) (by rfl) (by rfl) (by first | exact .inl rfl | exact .inr rfl | exact .inr scalB | exact .inr scalI | exact .inr scalT | exact .inr scalM | exact .inr scalMT | exact .inr scalE | exact .inr scalET) ?_
  cases h0 : decide ((ldiff l a b).2.2 = 0)
  · have h0' := of_decide_eq_false h0
    rw [nnews, if_pos h0']
    simp -dsimp (disch := omega) only [↓bp0, bd0, evStore, evRange, evNext, fld, nit, nxE, ghR, ovR, evBin_seql, evBin_sneq, str, u8, encBrs, cBr, encLdg, encKws, cKw, encEvss, encEvs, cEv, encMks, cMk, encStrs, tk2, tk3, List.set_cons_succ, List.getElem?_cons_zero, List.getElem?_cons_succ, List.length_set, retQ, resL, finL, newL, flat, tupOf, List.toList_toArray, Tryd.f14, h0, newI, simprocAttr]
    exact ⟨.inr ⟨rfl, 4, rfl⟩, .rfl', trivial⟩
  have h0' := of_decide_eq_true h0
  obtain ⟨ha, hb⟩ := ldiff_ok h0'
  rw [nnews, if_neg (by rw [Decidable.not_not]; exact h0')]
  have hcl : (ldiff l a b).2.1.length ≤ 30 := by
    rw [ldiff, if_neg (by rw [Decidable.not_not]; exact ha), if_neg (by rw [Decidable.not_not]; exact hb)]
    exact onlyL_len
  try simp -dsimp (disch := omega) only [↓bp0, bd0, evStore, evRange, evNext, fld, nit, nxE, ghR, ovR, evBin_seql, evBin_sneq, str, u8, encBrs, cBr, encLdg, encKws, cKw, encEvss, encEvs, cEv, encMks, cMk, encStrs, tk2, tk3, List.set_cons_succ, List.getElem?_cons_zero, List.getElem?_cons_succ, List.length_set, h0, newI, simprocAttr]
  refine CallQ.imm (n_viewOk l b hz hb) (by rfl) (by rfl) (by first | exact .inl rfl | exact .inr rfl | exact .inr scalB | exact .inr scalI | exact .inr scalT | exact .inr scalM | exact .inr scalMT | exact .inr scalE | exact .inr scalET) ?_
  try simp -dsimp (disch := omega) only [↓bp0, bd0, evStore, evRange, evNext, fld, nit, nxE, ghR, ovR, evBin_seql, evBin_sneq, str, u8, encBrs, cBr, encLdg, encKws, cKw, encEvss, encEvs, cEv, encMks, cMk, encStrs, tk2, tk3, List.set_cons_succ, List.getElem?_cons_zero, List.getElem?_cons_succ, List.length_set, newEvs, simprocAttr]
  have hT : ∀ L : List Nt, List.take L.length (L.map cNt) = L.map cNt := fun L => List.take_of_length_le (by rw [List.length_map]; omega)
  refine CallQ.thaw (n_lasts l (evV l b) (ldiff l a b).2.1 hz.known (by have := evV_len hb; omega) (by omega)) (by rfl) (by first | rfl | (simp -dsimp (disch := omega) only [↓bp0, bd0, evStore, evRange, evNext, fld, nit, nxE, ghR, ovR, evBin_seql, evBin_sneq, str, u8, encBrs, cBr, encLdg, encKws, cKw, encEvss, encEvs, cEv, encMks, cMk, encStrs, tk2, tk3, List.set_cons_succ, List.getElem?_cons_zero, List.getElem?_cons_succ, List.length_set, drcs, drc, flat, encL, simprocAttr]; done)) litNt ?_
  simp -dsimp (disch := omega) only [↓bp0, bd0, evStore, evRange, evNext, fld, nit, nxE, ghR, ovR, evBin_seql, evBin_sneq, str, u8, encBrs, cBr, encLdg, encKws, cKw, encEvss, encEvs, cEv, encMks, cMk, encStrs, tk2, tk3, List.set_cons_succ, List.getElem?_cons_zero, List.getElem?_cons_succ, List.length_set, retQ, resL, finL, newL, flat, tupOf, List.toList_toArray, Tryd.f14, newNts, List.length_map, hT, flNt, List.drop_zero, simprocAttr]
  exact ⟨.rfl', .rfl', trivial⟩
end Go.Ab
end

section
/- What Gone asks of slices: Clone, ContainsFunc, DeleteFunc. -/
set_option maxRecDepth 1000000
set_option maxHeartbeats 8000000
namespace Go.Ab
open Go Go.Proofs Go.Shelf Go.RowKit
theorem bd_PG : type_of% (And.intro @evNext.eq_1 (And.intro @fld (And.intro @nit (And.intro @nxE (And.intro @ghR (And.intro @ovR (And.intro @evBin_seql (And.intro @evBin_sneq (And.intro @str.eq_1 (And.intro @u8.eq_1 (And.intro @encBrs.eq_1 (And.intro @cBr.eq_1 (And.intro @encLdg.eq_1 (And.intro @encKws.eq_1 (And.intro @cKw.eq_1 (And.intro @encEvss.eq_1 (And.intro @encEvs.eq_1 (And.intro @cEv.eq_1 (And.intro @encMks.eq_1 (And.intro @cMk.eq_1 (And.intro @encStrs.eq_1 (And.intro @tk2 (And.intro @tk3 (And.intro @List.set_cons_succ.{0} (And.intro @List.getElem?_cons_zero.{0} (And.intro @List.getElem?_cons_succ.{0} (@List.length_set.{0}))))))))))))))))))))))))))) := And.intro @evNext.eq_1 (And.intro @fld (And.intro @nit (And.intro @nxE (And.intro @ghR (And.intro @ovR (And.intro @evBin_seql (And.intro @evBin_sneq (And.intro @str.eq_1 (And.intro @u8.eq_1 (And.intro @encBrs.eq_1 (And.intro @cBr.eq_1 (And.intro @encLdg.eq_1 (And.intro @encKws.eq_1 (And.intro @cKw.eq_1 (And.intro @encEvss.eq_1 (And.intro @encEvs.eq_1 (And.intro @cEv.eq_1 (And.intro @encMks.eq_1 (And.intro @cMk.eq_1 (And.intro @encStrs.eq_1 (And.intro @tk2 (And.intro @tk3 (And.intro @List.set_cons_succ.{0} (And.intro @List.getElem?_cons_zero.{0} (And.intro @List.getElem?_cons_succ.{0} (@List.length_set.{0}))))))))))))))))))))))))))
theorem cl0_I (A : Option Addr) (cp : Nat) (w : World) : Calls Tryd.prog 38 #[.slice A 0 cp] w fun e w' => ∃ A', e = .returned (.slice A' 0 0) ∧ Bel w w' := by
  have mixed : Tryd.prog.follows .mixedOrders = true := by kernel_rfl
  have q := fun w => Lib.run_eql_slice_nil (P := Tryd.prog) w _ _ A 0 cp 0 0 (Tryd.underlying73)
  cases A <;>
  · go_enter Tryd.func38, Tryd.ntmps38
    go_wp2
    go_ret
    exact ⟨_, rfl, by first | exact ⟨rfl, rfl, ⟨rfl, Nat.le_refl _⟩, Nat.le_refl _, fun _ _ => rfl⟩ | exact bel_alloc _ _⟩
theorem evNil_I : ∀ a b x xs c, evBin cx .eql 73 a b (.imm (x :: xs) c) (.lit (.slice none 0 0)) = some (.lit (.bool false)) := fun _ _ _ _ _ => by kernel_rfl
theorem clN_I (l : List Int) (hl : l.length ≤ 2^40) : CallSpec cx 38 [encL l] (newI l) := by
  cases l with
  | nil => exact CallSpec.clone0 (C := cx) (by kernel_rfl) cl0_I
  | cons e es =>
    have ha : ((es.map fun n : Int => [PV.lit (.int .i64 n)]).all fun e => e.length == 1) = true := List.all_eq_true.2 fun x hx => by obtain ⟨y, _, rfl⟩ := List.mem_map.1 hx; rfl
    have hn : notIntT cx.P 73 = true := by kernel_rfl
    have hl2 : (es.length + 1) * 8 ≤ 140737488355328 := by rw [List.length_cons] at hl; omega
    have hfl : ((es.map fun n : Int => [PV.lit (.int .i64 n)]).all fun e => e.all flat) = true := List.all_eq_true.2 fun x hx => by obtain ⟨y, _, rfl⟩ := List.mem_map.1 hx; rfl
    refine callSpec_of_vc Tryd.func38 rfl (by decide) (by kernel_rfl) (Nat.le_of_ble_eq_true rfl) ?_
    simp -dsimp (disch := omega) only [↓bp0, bd0, bd_PG, evStore, evRange, retQ, resL, finL, newL, flat, tupOf, List.toList_toArray, Tryd.f38, encL, List.map_cons, evNil_I, ha, hn, hl2, beq_self_eq_true, hfl, Bool.and_self, Bool.true_and, simprocAttr]
    exact leT_refl _
abbrev agNt (n : Nt) : PV := .agg (cNt n)
theorem ln_index (l : List (Nt)) (hl : l.length ≤ 9223372036854775807) (f : Nat) (cap : List PV) (hn : nofrs cap = true) (P : Nt → Bool) (h : ∀ k ∈ l, CallSpec cx f ([agNt k] ++ cap) (bl (P k))) :
    CallSpec cx 76 [encNts l, .clo (.func f) [] cap] (i64 (fi P l)) := by
  refine callSpec_of_vc Tryd.func76 rfl (by decide) (by kernel_rfl) (Nat.le_of_ble_eq_true rfl) ?_
  try simp -dsimp (disch := omega) only [↓bp0, bd0, bd_PG, evStore, evRange, Tryd.f76, encNts, cNt, agNt, tk4, simprocAttr]
  refine LoopQ.rule (fun m st => ∃ i : Nat, i ≤ l.length ∧ (∀ j, j < i → ∀ x, l[j]? = some x → P x = false) ∧ m = l.length - i ∧
    st = ⟨mkE [(0, encNts l), (1, .clo (.func f) [] cap), (7, i64 l.length), (8, i64 i)], mkS [], 0⟩) _ _ (weak_of ?_) ⟨0, by omega, by simp, rfl, rfl⟩ ?_
  · first | (simp -dsimp (disch := omega) only [↓bp0, bd0, bd_PG, evStore, evRange, encNts, cNt, agNt, tk4, simprocAttr]; done) | simp -dsimp [evl, putN, i64, u32, bl, encL, encB, encLL, encNts, cNt, agNt, tk4]
  rintro m st ⟨i, hi, hpre, rfl, rfl⟩
  try simp -dsimp (disch := omega) only [↓bp0, bd0, bd_PG, evStore, evRange, encNts, cNt, agNt, tk4, simprocAttr]
  refine onC_nlt (fun h2 => ?_) (fun h2 => ?_)
  · obtain ⟨x, hx, hxm⟩ := get_of_lt h2
    try simp -dsimp (disch := omega) only [↓bp0, bd0, bd_PG, evStore, evRange, hx, encNts, cNt, agNt, tk4, simprocAttr]
    refine CallQ.imm (h x hxm) (by rfl) (drcs_nofr _ _ (by simp [nofrs, nofr, i64, encL, hn, encNts, cNt, agNt, tk4])) (.inr rfl) ?_
    try simp -dsimp (disch := omega) only [↓bp0, bd0, bd_PG, evStore, evRange, simprocAttr]
    refine onC_bool (fun h3 => ?_) (fun h3 => ?_)
    · simp -dsimp (disch := omega) only [↓bp0, bd0, bd_PG, evStore, evRange, retQ, resL, finL, newL, flat, tupOf, List.toList_toArray, Tryd.f76, simprocAttr]
      rw [fi_at _ _ _ _ hx hpre h3]
      exact leT_one .rfl' (by simp)
    try simp -dsimp (disch := omega) only [↓bp0, bd0, bd_PG, evStore, evRange, simprocAttr]
    refine ⟨_, _, ?_, weak_of ?_, i + 1, h2, ?_, rfl, rfl⟩
    · omega
    · first | (simp -dsimp (disch := omega) only [↓bp0, bd0, bd_PG, evStore, evRange, wrapS h2 hl, encNts, cNt, agNt, tk4, simprocAttr]; done) | simp -dsimp [evl, putN, i64, u32, bl, encL, encB, encLL, wrapS h2 hl, encNts, cNt, agNt, tk4]
    · intro j hj y hy
      by_cases hji : j = i
      · subst hji; rw [hx] at hy; cases hy; exact h3
      · exact hpre j (by omega) y hy
  · simp -dsimp (disch := omega) only [↓bp0, bd0, bd_PG, evStore, evRange, retQ, resL, finL, newL, flat, tupOf, List.toList_toArray, Tryd.f76, simprocAttr]
    rw [fi_none _ _ fun j y hy => hpre j (by have := (List.getElem?_eq_some_iff.1 hy).1; omega) y hy]
    exact leT_one .rfl' (by simp)
theorem ln_contains (l : List (Nt)) (hl : l.length ≤ 9223372036854775807) (f : Nat) (cap : List PV) (hn : nofrs cap = true) (P : Nt → Bool) (h : ∀ k ∈ l, CallSpec cx f ([agNt k] ++ cap) (bl (P k))) :
    CallSpec cx 40 [encNts l, .clo (.func f) [] cap] (bl (l.any P)) := by
  refine callSpec_of_vc Tryd.func40 rfl (by decide) (by kernel_rfl) (Nat.le_of_ble_eq_true rfl) ?_
  try simp -dsimp (disch := omega) only [↓bp0, bd0, bd_PG, evStore, evRange, Tryd.f40, encNts, cNt, agNt, tk4, simprocAttr]
  refine CallQ.imm (ln_index l hl f cap hn P h) (by rfl) (drcs_nofr _ _ (by simp [nofrs, nofr, i64, encL, hn, encNts, cNt, agNt, tk4])) (.inr rfl) ?_
  simp -dsimp (disch := omega) only [↓bp0, bd0, bd_PG, evStore, evRange, retQ, resL, finL, newL, flat, tupOf, List.toList_toArray, Tryd.f40, simprocAttr]
  refine leT_one (bl_eq ?_) (by simp)
  rw [Bool.eq_iff_iff, decide_eq_true_iff, ← fi_any]
theorem n_Gone11 (n : Nt) (c : Int) : CallSpec cx 41 ([agNt n] ++ [.cptr [i64 c]]) (bl (decide (n.cls = c))) := by
  refine callSpec_of_vc Tryd.func41 rfl (by decide) (by kernel_rfl) (Nat.le_of_ble_eq_true rfl) ?_
  simp -dsimp (disch := omega) only [↓bp0, bd0, bd_PG, evStore, evRange, retQ, resL, finL, newL, flat, tupOf, List.toList_toArray, Tryd.f41, agNt, cNt, List.cons_append, List.nil_append, simprocAttr]
  exact leT_one .rfl' (by simp)
def toldN (bh : List Nt) (c : Int) : Bool := bh.any fun n => decide (n.cls = c)
theorem n_Gone1 (bh : List Nt) (hb : bh.length ≤ 2^30) (c : Int) : CallSpec cx 39 ([i64 c] ++ [.cptr [encNts bh]]) (bl (toldN bh c)) := by
  refine callSpec_of_vc Tryd.func39 rfl (by decide) (by kernel_rfl) (Nat.le_of_ble_eq_true rfl) ?_
  try simp -dsimp (disch := omega) only [↓bp0, bd0, bd_PG, evStore, evRange, Tryd.f39, encNts, List.cons_append, List.nil_append, simprocAttr]
  refine CallQ.imm (ln_contains bh (by omega) 41 [.cptr [i64 c]] rfl (fun n => decide (n.cls = c)) fun n _ => n_Gone11 n c) (by rfl) (by rfl) (by first | exact .inl rfl | exact .inr rfl | exact .inr scalB | exact .inr scalI | exact .inr scalT | exact .inr scalM | exact .inr scalMT | exact .inr scalE | exact .inr scalET | exact .inr scalN | exact .inr scalNT) ?_
  simp -dsimp (disch := omega) only [↓bp0, bd0, bd_PG, evStore, evRange, retQ, resL, finL, newL, flat, tupOf, List.toList_toArray, Tryd.f39, simprocAttr]
  exact leT_one .rfl' (by simp)
end Go.Ab
end

section
/- slices.DeleteFunc on a row of own memory. -/
set_option maxRecDepth 1000000
set_option maxHeartbeats 8000000
namespace Go.Ab
open Go Go.Proofs
theorem bd_PH : type_of% (And.intro @evNext.eq_1 (And.intro @fld (And.intro @nit (And.intro @nxE (And.intro @ghR (And.intro @ovR (And.intro @evBin_seql (And.intro @evBin_sneq (And.intro @str.eq_1 (And.intro @u8.eq_1 (And.intro @encBrs.eq_1 (And.intro @cBr.eq_1 (And.intro @encLdg.eq_1 (And.intro @encKws.eq_1 (And.intro @cKw.eq_1 (And.intro @encEvss.eq_1 (And.intro @encEvs.eq_1 (And.intro @cEv.eq_1 (And.intro @encMks.eq_1 (And.intro @cMk.eq_1 (And.intro @encStrs.eq_1 (And.intro @tk2 (And.intro @tk3 (And.intro @List.set_cons_succ.{0} (And.intro @List.getElem?_cons_zero.{0} (And.intro @List.getElem?_cons_succ.{0} (@List.length_set.{0}))))))))))))))))))))))))))) := And.intro @evNext.eq_1 (And.intro @fld (And.intro @nit (And.intro @nxE (And.intro @ghR (And.intro @ovR (And.intro @evBin_seql (And.intro @evBin_sneq (And.intro @str.eq_1 (And.intro @u8.eq_1 (And.intro @encBrs.eq_1 (And.intro @cBr.eq_1 (And.intro @encLdg.eq_1 (And.intro @encKws.eq_1 (And.intro @cKw.eq_1 (And.intro @encEvss.eq_1 (And.intro @encEvs.eq_1 (And.intro @cEv.eq_1 (And.intro @encMks.eq_1 (And.intro @cMk.eq_1 (And.intro @encStrs.eq_1 (And.intro @tk2 (And.intro @tk3 (And.intro @List.set_cons_succ.{0} (And.intro @List.getElem?_cons_zero.{0} (And.intro @List.getElem?_cons_succ.{0} (@List.length_set.{0}))))))))))))))))))))))))))
theorem ov_put2 {i : Nat} {B B' : Blk} {r : List (Nat × Blk)} {σ : Store} : (ovS ((i, B) :: r) σ).put i B' = ovS ((i, B') :: r) σ := by
  funext k
  simp only [ovS, Store.put]
  split <;> rfl
def keepN (bh : List Nt) (L : List Int) : List Int := L.filter fun c => !toldN bh c
theorem d_DeleteFunc (bh : List Nt) (hb : bh.length ≤ 2^30) (L : List Int) (hL : L.length ≤ 2^30) (σ0 : Store) (nx id bx vb : Nat) (hσ : σ0 id = some (.row 0 1 (L.map fun n => [i64 n]) false)) (hx0 : σ0 bx = some (.row vb 1 [[encNts bh]] false)) (hne : ¬ bx = id) :
    StSpec cx 37 [.own id 0 0 L.length false, .clo (.func 39) [] [.ptr bx vb 0 0]] σ0 nx
      (fun r σ' nx' => nx ≤ nx' ∧ ∃ E : List Int, E.length = L.length ∧ E.take (keepN bh L).length = keepN bh L ∧ r = .own id 0 0 (keepN bh L).length false ∧ σ' = σ0.put id (.row 0 1 (E.map fun n => [i64 n]) false)) := by
  refine StSpec.fresh (by kernel_rfl) fun hfr0 => ?_
  have hid : id < nx := by
    rcases Nat.lt_or_ge id nx with h1 | h1
    · exact h1
    · rw [hfr0 id h1] at hσ; cases hσ
  have hbx : bx < nx := by
    rcases Nat.lt_or_ge bx nx with h1 | h1
    · exact h1
    · rw [hfr0 bx h1] at hx0; cases hx0
  obtain ⟨σ, hσd⟩ : ∃ σ : Store, σ = (σ0.del id).del bx := ⟨_, rfl⟩
  have hfr : ∀ j, nx ≤ j → σ j = none := fun j hj => by rw [hσd]; simp only [Store.del]; split; rfl; split; rfl; exact hfr0 j hj
  have hd : σ id = none := by rw [hσd]; simp [Store.del]
  have hd2 : σ bx = none := by rw [hσd]; simp [Store.del]
  have hput : ∀ B, σ0.put id B = ovS [(id, B), (bx, .row vb 1 [[encNts bh]] false)] σ := fun B => by
    rw [hσd]
    funext k
    simp only [ovS, Store.put, Store.del]
    by_cases e1 : k = id
    · rw [if_pos e1, if_pos e1]
    · rw [if_neg e1, if_neg e1]
      by_cases e2 : k = bx
      · rw [if_pos e2, e2, hx0]
      · rw [if_neg e2, if_neg e2, if_neg e1]
  have h00 : σ0 = ovS [(id, .row 0 1 (L.map fun n => [i64 n]) false), (bx, .row vb 1 [[encNts bh]] false)] σ := by rw [← hput, put_same hσ]
  simp only [hput]
  rw [h00]
  clear hfr0 hσ hx0 hput h00 hσd
  have E1 : (bx = id) = False := eq_false hne
  have E2 : (id = bx) = False := eq_false (fun e => hne e.symm)
  have E3 : (id = nx) = False := eq_false (by omega)
  have E4 : (nx = id) = False := eq_false (by omega)
  have E5 : (bx = nx) = False := eq_false (by omega)
  have E6 : (nx = bx) = False := eq_false (by omega)
  have hT : List.take L.length (L.map fun n => [PV.lit (.int .i64 n)]) = L.map fun n => [PV.lit (.int .i64 n)] := List.take_of_length_le (by simp)
  have hfs := fi_spec (toldN bh) L
  refine stSpec_of_vc Tryd.func37 rfl (by decide) (by kernel_rfl) (Nat.le_of_ble_eq_true rfl) ?_
  try simp -dsimp (disch := omega) only [↓bp0, bd0, bd_PH, evStore, evRange, Tryd.f37, E1, E2, E3, E4, E5, E6, simprocAttr]
  refine CallQ.imm (li_index L (by omega) 39 [.cptr [encNts bh]] rfl (toldN bh) fun c _ => n_Gone1 bh hb c) (by rfl) (by first | rfl | (simp -dsimp (disch := omega) only [↓bp0, bd0, bd_PH, evStore, evRange, drcs, drc, flat, E1, E2, E3, E4, E5, E6, encNts, hT, List.length_map, List.drop_zero, simprocAttr]; done) | simp -dsimp [evl, drcs, drc, flat, i64, u32, bl, encL, encB, encLL]) (by first | exact .inl rfl | exact .inr rfl | exact .inr scalB | exact .inr scalI | exact .inr scalT | exact .inr scalM | exact .inr scalMT | exact .inr scalE | exact .inr scalET | exact .inr scalN | exact .inr scalNT) ?_
  rcases hfs with ⟨h1, h2⟩ | ⟨i0, x0, h1, h2, h3, h4⟩
  · have hk : keepN bh L = L := by
      rw [keepN, List.filter_eq_self]
      intro c hc; rw [h2 c hc]; rfl
    rw [hk]
    simp -dsimp (disch := omega) only [↓bp0, bd0, bd_PH, evStore, evRange, stQ, resL, tupOf, List.toList_toArray, Tryd.f37, h1, E1, E2, E3, E4, E5, E6, simprocAttr]
    exact ⟨_, _, .refl _, Nat.le_refl _, L, rfl, List.take_length, rfl⟩
  have hi0 : i0 < L.length := (List.getElem?_eq_some_iff.1 h2).1
  have hk0 : keepN bh (L.take i0) = L.take i0 := by
    rw [keepN, List.filter_eq_self]
    intro c hc
    obtain ⟨q, hq⟩ := List.mem_iff_getElem?.1 hc
    have hql : q < i0 := by have := (List.getElem?_eq_some_iff.1 hq).1; rw [List.length_take] at this; omega
    rw [List.getElem?_take, if_pos hql] at hq
    rw [h4 q hql c hq]; rfl
  have hstep : ∀ j x, L[j]? = some x → keepN bh (L.take (j + 1)) = keepN bh (L.take j) ++ if toldN bh x then [] else [x] := fun j x hx => by
    rw [keepN, keepN, take_succ hx, List.filter_append]
    congr 1
    cases e : toldN bh x <;> simp [e]
  have hk1 : keepN bh (L.take (i0 + 1)) = L.take i0 := by rw [hstep i0 x0 h2, h3, hk0]; simp
  have hlk : ∀ j, (keepN bh (L.take j)).length ≤ j := fun j => by
    have := List.length_filter_le (fun c => !toldN bh c) (L.take j)
    rw [List.length_take] at this
    exact Nat.le_trans this (Nat.min_le_left _ _)
  have hw1 : IntKind.i64.wrap ((i0 : Int) + 1) = ((i0 + 1 : Nat) : Int) := by rw [IntWalk.i64_in _ (by omega)]; omega
  try simp -dsimp (disch := omega) only [↓bp0, bd0, bd_PH, evStore, evRange, h1, hw1, E1, E2, E3, E4, E5, E6, simprocAttr]
  refine LoopQ.rule (fun m st => ∃ (i j : Nat) (E : List Int), i < j ∧ j ≤ L.length ∧ E.length = L.length ∧ i = (keepN bh (L.take j)).length ∧ E.take i = keepN bh (L.take j) ∧ (∀ p, j ≤ p → E[p]? = L[p]?) ∧ m = L.length - j ∧
    st = ⟨mkE [(0, .own id 0 0 L.length false), (1, .clo (.func 39) [] [.ptr bx vb 0 0]), (5, i64 i), (6, i64 j)], ovS [(id, .row 0 1 (E.map fun n => [i64 n]) false), (bx, .row vb 1 [[encNts bh]] false)] σ, nx⟩) _ _ ?_
    ⟨i0, i0 + 1, L, by omega, by omega, rfl, by rw [hk1, List.length_take]; omega, by rw [hk1], fun _ _ => rfl, rfl, rfl⟩ ?_
  · refine weak_ofU (by first | (simp -dsimp (disch := omega) only [↓bp0, bd0, bd_PH, evStore, evRange, E1, E2, E3, E4, E5, E6, simprocAttr]; done) | simp -dsimp [evl, putN, i64, u32, bl, encL, encB, encLL, E1, E2, E3, E4, E5, E6]) (by first | (simp -dsimp (disch := omega) only [↓bp0, bd0, bd_PH, evStore, evRange, E1, E2, E3, E4, E5, E6, simprocAttr]; done) | simp -dsimp [evl, putN, i64, u32, bl, encL, encB, encLL, E1, E2, E3, E4, E5, E6]) (by (try simp -dsimp only [st_put_σ]); repeat (first | exact Sub.rfl' | refine Sub.put ?_ (hfr _ (by omega)) | refine Sub.put ?_ hd | exact Sub.ov ⟨hd, hd2, trivial⟩ | exact Sub.ov ⟨hd2, trivial⟩)) (by first | (simp -dsimp (disch := omega) only [↓bp0, bd0, bd_PH, evStore, evRange, simprocAttr]; done) | simp -dsimp [evl, putN, i64, u32, bl, encL, encB, encLL])
  clear hk1 hk0 h1 h2 h3 h4 hw1 hT
  rintro m st ⟨i, j, E, hij, hj, hE, hi, htk, hpe, rfl, rfl⟩
  have hlm : (E.map fun n => [PV.lit (.int .i64 n)]).length = L.length := by rw [List.length_map, hE]
  try simp -dsimp (disch := omega) only [↓bp0, bd0, bd_PH, evStore, evRange, E1, E2, E3, E4, E5, E6, simprocAttr]
  refine onC_nlt (fun h5 => ?_) (fun h5 => ?_)
  · obtain ⟨x, hx, _⟩ := get_of_lt h5
    have hEx : E[j]? = some x := by rw [hpe j (Nat.le_refl _)]; exact hx
    have hs := hstep j x hx
    have hil : i < L.length := by omega
    have hwj : IntKind.i64.wrap ((j : Int) + 1) = ((j + 1 : Nat) : Int) := by rw [IntWalk.i64_in _ (by omega)]; omega
    have hwi : IntKind.i64.wrap ((i : Int) + 1) = ((i + 1 : Nat) : Int) := by rw [IntWalk.i64_in _ (by omega)]; omega
    have hEi : E[i]? = some E[i] := List.getElem?_eq_getElem (by omega)
    try simp -dsimp (disch := omega) only [↓bp0, bd0, bd_PH, evStore, evRange, hEx, h5, hE, E1, E2, E3, E4, E5, E6, simprocAttr]
    refine CallQ.imm (n_Gone1 bh hb x) (by rfl) (by first | rfl | (simp -dsimp (disch := omega) only [↓bp0, bd0, bd_PH, evStore, evRange, drcs, drc, flat, E1, E2, E3, E4, E5, E6, encNts, List.cons_append, List.nil_append, simprocAttr]; done) | simp -dsimp [evl, drcs, drc, flat, i64, u32, bl, encL, encB, encLL]) (by first | exact .inl rfl | exact .inr rfl | exact .inr scalB | exact .inr scalI | exact .inr scalT | exact .inr scalM | exact .inr scalMT | exact .inr scalE | exact .inr scalET | exact .inr scalN | exact .inr scalNT) ?_
    cases e1 : toldN bh x
    · rw [e1] at hs
      simp only [Bool.false_eq_true, if_false] at hs
      try simp -dsimp (disch := omega) only [↓bp0, bd0, bd_PH, evStore, evRange, e1, Bool.not_false, Bool.not_true, uUn, Option.bind_some, hil, hE, hEi, hwi, E1, E2, E3, E4, E5, E6, simprocAttr]
      refine ⟨_, _, ?_, ?_, i + 1, j + 1, E.set i x, by omega, h5, by rw [List.length_set, hE], by rw [hs, List.length_append, ← hi]; rfl, ?_, ?_, rfl, rfl⟩
      · omega
      · refine weak_ofU (by first | (simp -dsimp (disch := omega) only [↓bp0, bd0, bd_PH, evStore, evRange, hwj, List.map_set, E1, E2, E3, E4, E5, E6, simprocAttr]; done) | simp -dsimp [evl, putN, i64, u32, bl, encL, encB, encLL, hwj, List.map_set, E1, E2, E3, E4, E5, E6]) (by first | (simp -dsimp (disch := omega) only [↓bp0, bd0, bd_PH, evStore, evRange, hwj, List.map_set, E1, E2, E3, E4, E5, E6, simprocAttr]; done) | simp -dsimp [evl, putN, i64, u32, bl, encL, encB, encLL, hwj, List.map_set, E1, E2, E3, E4, E5, E6]) (by (try simp -dsimp only [st_put_σ]); repeat (first | exact Sub.rfl' | refine Sub.put ?_ (hfr _ (by omega)) | refine Sub.put ?_ hd | exact Sub.ov ⟨hd, hd2, trivial⟩ | exact Sub.ov ⟨hd2, trivial⟩)) (by first | (simp -dsimp (disch := omega) only [↓bp0, bd0, bd_PH, evStore, evRange, simprocAttr]; done) | simp -dsimp [evl, putN, i64, u32, bl, encL, encB, encLL])
      · have : (E.set i x)[i]? = some x := List.getElem?_set_self (by omega)
        rw [take_succ this, List.take_set_of_le (Nat.le_refl _), htk, hs]
      · intro p hp
        rw [List.getElem?_set_ne (by omega)]
        exact hpe p (by omega)
    · rw [e1] at hs
      simp only [if_true, List.append_nil] at hs
      try simp -dsimp (disch := omega) only [↓bp0, bd0, bd_PH, evStore, evRange, e1, Bool.not_false, Bool.not_true, uUn, Option.bind_some, E1, E2, E3, E4, E5, E6, simprocAttr]
      refine ⟨_, _, ?_, ?_, i, j + 1, E, by omega, h5, hE, by rw [hs]; exact hi, by rw [hs]; exact htk, fun p hp => hpe p (by omega), rfl, rfl⟩
      · omega
      · refine weak_ofU (by first | (simp -dsimp (disch := omega) only [↓bp0, bd0, bd_PH, evStore, evRange, hwj, E1, E2, E3, E4, E5, E6, simprocAttr]; done) | simp -dsimp [evl, putN, i64, u32, bl, encL, encB, encLL, hwj, E1, E2, E3, E4, E5, E6]) (by first | (simp -dsimp (disch := omega) only [↓bp0, bd0, bd_PH, evStore, evRange, hwj, E1, E2, E3, E4, E5, E6, simprocAttr]; done) | simp -dsimp [evl, putN, i64, u32, bl, encL, encB, encLL, hwj, E1, E2, E3, E4, E5, E6]) (by (try simp -dsimp only [st_put_σ]); repeat (first | exact Sub.rfl' | refine Sub.put ?_ (hfr _ (by omega)) | refine Sub.put ?_ hd | exact Sub.ov ⟨hd, hd2, trivial⟩ | exact Sub.ov ⟨hd2, trivial⟩)) (by first | (simp -dsimp (disch := omega) only [↓bp0, bd0, bd_PH, evStore, evRange, simprocAttr]; done) | simp -dsimp [evl, putN, i64, u32, bl, encL, encB, encLL])
  · have hjl : j = L.length := by omega
    subst hjl
    rw [List.take_length] at hi htk
    have hil : i ≤ L.length := by omega
    have hkl : (keepN bh L).length = i := hi.symm
    have hov : (i + (L.length - i) ≤ L.length) = True := eq_true (by omega)
    simp -dsimp (disch := omega) only [↓bp0, bd0, bd_PH, evStore, evRange, stQ, resL, tupOf, List.toList_toArray, Tryd.f37, false_imp_iff, evSlice, slc, hil, evClear, evOver, over, hov, List.length_replicate, hE, Nat.zero_add, E1, E2, E3, E4, E5, E6, simprocAttr]
    refine ⟨_, _, .refl _, Nat.le_refl _, E.take i ++ List.replicate (L.length - i) 0 ++ E.drop (i + (L.length - i)), by simp; omega, ?_, ?_, ?_⟩
    · rw [hkl, List.append_assoc, List.take_append_of_le_length (by rw [List.length_take]; omega), List.take_of_length_le (by rw [List.length_take]; omega), htk]
    · rw [hkl, Nat.sub_zero]
    · rw [ov_put2]; simp [i64]
end Go.Ab
end
