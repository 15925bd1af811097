/- All gaps, in order. -/
import Derived.Test.YtgcodedanljhpaaGreatDoorMD
set_option linter.unusedSimpArgs false
set_option linter.unusedVariables false
section
set_option maxRecDepth 1000000
set_option maxHeartbeats 8000000
namespace Go.Ab
open Go Go.Proofs Go.Sort
theorem m_order (l : Ldg) (h : LOk l) (σ0 : Store) (nx id ver : Nat) (d : List (GA l.brs.length)) (clip : Bool) (hsz : d.length < 4611686018427387904) (hσ : σ0 id = some (.row ver 3 (rowsOf (encG l) d) false)) :
    StSpec cx 57 [encLdg l, .own id ver 0 d.length clip] σ0 nx (fun r σ' nx' => nx ≤ nx' ∧ r = .own id ver 0 d.length clip ∧ σ' = σ0.put id (.row ver 3 (rowsOf (encG l) (srtG d)) false)) := by
  refine StSpec.fresh (by kernel_rfl) fun hfr0 => ?_
  have hid : id < nx := by
    rcases Nat.lt_or_ge id nx with h1 | h1
    · exact h1
    · rw [hfr0 id h1] at hσ; cases hσ
  obtain ⟨σ, hσd⟩ : ∃ σ : Store, σ = σ0.del id := ⟨_, rfl⟩
  have hfr : ∀ j, nx ≤ j → σ j = none := fun j hj => by rw [hσd]; simp only [Store.del]; split; rfl; exact hfr0 j hj
  have hd : σ id = none := by rw [hσd]; simp [Store.del]
  have h00 : σ0 = ovS [(id, .row ver 3 (rowsOf (encG l) d) false)] σ := by rw [hσd, ov_del, put_same hσ]
  have hput : ∀ B, σ0.put id B = ovS [(id, B)] σ := fun B => by rw [hσd, ov_del]
  simp only [hput]
  rw [h00]
  clear hfr0 hσ hput h00 hσd
  have hE1_0a : (id = nx) = False := by simp; omega
  have hE1_0b : (nx = id) = False := by simp; omega
  refine stSpec_of_vc Tryz.func57 rfl (by decide) (by kernel_rfl) (Nat.le_of_ble_eq_true rfl) ?_
  try simp -dsimp (disch := first | omega | decide +kernel) only [↓bp0, bd0, reduceIte, Nat.reduceEqDiff, evStore, Nat.reduceAdd, Nat.reduceMul, Int.reduceEq, Int.reduceLT, Int.reduceLE, Nat.reduceLeDiff, List.reduceReplicate, reduceCtorEq, evRange, evNext, fld, nit, nxE, ovR, evBin_seql, evBin_sneq, str, u8, encBrs, cBr, encLdg, encKws, cKw, encEvss, encEvs, cEv, encMks, cMk, encStrs, encFxs, cFx, cGp, tk2, tk3, List.set_cons_succ, List.getElem?_cons_zero, List.getElem?_cons_succ, Nat.reduceLT, List.length_set, Tryz.f57, hE1_0a, hE1_0b]
  refine CallQ.inm (g_sort l h (ver := ver) (id := id) (d := d) ?_ ?_ hsz) (by rfl) ?_
  · try simp -dsimp (disch := first | omega | decide +kernel) only [↓bp0, bd0, reduceIte, Nat.reduceEqDiff, evStore, Nat.reduceAdd, Nat.reduceMul, Int.reduceEq, Int.reduceLT, Int.reduceLE, Nat.reduceLeDiff, List.reduceReplicate, reduceCtorEq, evRange, evNext, fld, nit, nxE, ovR, evBin_seql, evBin_sneq, str, u8, encBrs, cBr, encLdg, encKws, cKw, encEvss, encEvs, cEv, encMks, cMk, encStrs, encFxs, cFx, cGp, tk2, tk3, List.set_cons_succ, List.getElem?_cons_zero, List.getElem?_cons_succ, Nat.reduceLT, List.length_set, hE1_0a, hE1_0b]
  · try simp -dsimp (disch := first | omega | decide +kernel) only [↓bp0, bd0, reduceIte, Nat.reduceEqDiff, evStore, Nat.reduceAdd, Nat.reduceMul, Int.reduceEq, Int.reduceLT, Int.reduceLE, Nat.reduceLeDiff, List.reduceReplicate, reduceCtorEq, evRange, evNext, fld, nit, nxE, ovR, evBin_seql, evBin_sneq, str, u8, encBrs, cBr, encLdg, encKws, cKw, encEvss, encEvs, cEv, encMks, cMk, encStrs, encFxs, cFx, cGp, tk2, tk3, List.set_cons_succ, List.getElem?_cons_zero, List.getElem?_cons_succ, Nat.reduceLT, List.length_set, rdAs, rdA, rdp, fu4, mlI, ml, Store.del, drc, flat, cLdg, hE1_0a, hE1_0b]
  rintro r σ' nx1 ⟨rfl, rfl, rfl⟩
  simp -dsimp (disch := first | omega | decide +kernel) only [↓bp0, bd0, reduceIte, Nat.reduceEqDiff, evStore, Nat.reduceAdd, Nat.reduceMul, Int.reduceEq, Int.reduceLT, Int.reduceLE, Nat.reduceLeDiff, List.reduceReplicate, reduceCtorEq, evRange, evNext, fld, nit, nxE, ovR, evBin_seql, evBin_sneq, str, u8, encBrs, cBr, encLdg, encKws, cKw, encEvss, encEvs, cEv, encMks, cMk, encStrs, encFxs, cFx, cGp, tk2, tk3, List.set_cons_succ, List.getElem?_cons_zero, List.getElem?_cons_succ, Nat.reduceLT, List.length_set, stQ, resL, tupOf, List.toList_toArray, Tryz.f57, hE1_0a, hE1_0b]
  refine ⟨ovS [(id, .row ver 3 (rowsOf (encG l) (srtG d)) false)] σ, nx + 1, ?_, by omega, rfl⟩
  refine weakσ_ofU (by first | (simp -dsimp (disch := first | omega | decide +kernel) only [↓bp0, bd0, reduceIte, Nat.reduceEqDiff, evStore, Nat.reduceAdd, Nat.reduceMul, Int.reduceEq, Int.reduceLT, Int.reduceLE, Nat.reduceLeDiff, List.reduceReplicate, reduceCtorEq, evRange, evNext, fld, nit, nxE, ovR, evBin_seql, evBin_sneq, str, u8, encBrs, cBr, encLdg, encKws, cKw, encEvss, encEvs, cEv, encMks, cMk, encStrs, encFxs, cFx, cGp, tk2, tk3, List.set_cons_succ, List.getElem?_cons_zero, List.getElem?_cons_succ, Nat.reduceLT, List.length_set, hE1_0a, hE1_0b]; done) | simp -dsimp [evl, putN, i64, u32, bl, encL, encB, encLL, hE1_0a, hE1_0b]) (by (try simp -dsimp only [st_put_σ]); repeat (first | exact Sub.rfl' | refine Sub.put ?_ (hfr _ (by omega)) | refine Sub.put ?_ hd | exact Sub.ov ⟨hd, trivial⟩)) (by first | exact Nat.le_refl _ | (simp -dsimp only [st_put_nx]; omega))
end Go.Ab
end

section
/- The gaps of a ledger. -/
set_option maxRecDepth 1000000
set_option maxHeartbeats 8000000
namespace Go.Ab
open Go Go.Proofs Go.Sort
theorem bd_MF : type_of% (And.intro @evNext.eq_1 (And.intro @fld (And.intro @nit (And.intro @nxE (And.intro @ghR (And.intro @ovR (And.intro @evBin_seql (And.intro @evBin_sneq (And.intro @str.eq_1 (And.intro @u8.eq_1 (And.intro @encBrs.eq_1 (And.intro @cBr.eq_1 (And.intro @encLdg.eq_1 (And.intro @encKws.eq_1 (And.intro @cKw.eq_1 (And.intro @encEvss.eq_1 (And.intro @encEvs.eq_1 (And.intro @cEv.eq_1 (And.intro @encMks.eq_1 (And.intro @cMk.eq_1 (And.intro @encStrs.eq_1 (And.intro @encFxs.eq_1 (And.intro @cFx.eq_1 (And.intro @cGp.eq_1 (And.intro @tk2 (And.intro @tk3 (And.intro @List.set_cons_succ.{0} (And.intro @List.getElem?_cons_zero.{0} (And.intro @List.getElem?_cons_succ.{0} (@List.length_set.{0})))))))))))))))))))))))))))))) := And.intro @evNext.eq_1 (And.intro @fld (And.intro @nit (And.intro @nxE (And.intro @ghR (And.intro @ovR (And.intro @evBin_seql (And.intro @evBin_sneq (And.intro @str.eq_1 (And.intro @u8.eq_1 (And.intro @encBrs.eq_1 (And.intro @cBr.eq_1 (And.intro @encLdg.eq_1 (And.intro @encKws.eq_1 (And.intro @cKw.eq_1 (And.intro @encEvss.eq_1 (And.intro @encEvs.eq_1 (And.intro @cEv.eq_1 (And.intro @encMks.eq_1 (And.intro @cMk.eq_1 (And.intro @encStrs.eq_1 (And.intro @encFxs.eq_1 (And.intro @cFx.eq_1 (And.intro @cGp.eq_1 (And.intro @tk2 (And.intro @tk3 (And.intro @List.set_cons_succ.{0} (And.intro @List.getElem?_cons_zero.{0} (And.intro @List.getElem?_cons_succ.{0} (@List.length_set.{0})))))))))))))))))))))))))))))
theorem fxE_zero {l : Ldg} : ∀ (x pre : List Fx), fxE l pre x = 0 → ∀ (i : Nat) f, x[i]? = some f → oneE l (pre ++ x.take i) f = 0
  | [], _, _, i, f, h => by simp at h
  | g :: r, pre, h, i, f, hf => by
    rw [fxE] at h
    split at h
    · rename_i h1; exact absurd h h1
    · rename_i h1
      rw [Decidable.not_not] at h1
      match i with
      | 0 => simp only [List.getElem?_cons_zero, Option.some.injEq] at hf; subst hf; simpa using h1
      | i + 1 =>
        have := fxE_zero r (pre ++ [g]) h i f (by simpa using hf)
        simpa using this
theorem mchk_zero {l : Ldg} {x : List Fx} (h : mchk l x = 0) : lchk l = 0 ∧ x.length ≤ 30 ∧ fxE l [] x = 0 := by
  unfold mchk at h
  split at h
  · rename_i h1; exact absurd h h1
  · rename_i h1
    split at h
    · cases h
    · exact ⟨Decidable.not_not.1 h1, by omega, h⟩
theorem mchk_fx {l : Ldg} {x : List Fx} (h : mchk l x = 0) {f : Fx} (hf : f ∈ x) : 0 ≤ f.cls ∧ f.cls < 30 ∧ 1 ≤ f.wgt ∧ f.wgt ≤ 9 := by
  obtain ⟨i, hi⟩ := List.mem_iff_getElem?.1 hf
  have := fxE_zero x [] (mchk_zero h).2.2 i f hi
  unfold oneE at this
  split at this
  · cases this
  · omega
def mkA {n : Nat} (i : Fin n) (f : Fx) : GA n := (⟨f.wgt.toNat % 10, by omega⟩, ⟨f.cls.toNat % 30, by omega⟩, i)
def toG (l : Ldg) (a : GA l.brs.length) : Gp := ⟨(l.brs[a.2.2]).name, (a.2.1.val : Int), (a.1.val : Int)⟩
theorem toG_enc (l : Ldg) (d : List (GA l.brs.length)) : rowsOf (encG l) d = (d.map (toG l)).map cGp := by
  rw [List.map_map]; rfl
def allA (l : Ldg) (x : List Fx) : List (GA l.brs.length) := (List.finRange l.brs.length).flatMap fun i => (x.filter (wantB (l.brs[i]).name (leff l (l.brs[i]).name).1)).map (mkA i)
def gapL (l : Ldg) (x : List Fx) : List Gp := (srtG (allA l x)).map (toG l)
def gapR (l : Ldg) (x : List Fx) : List Gp := if mchk l x ≠ 0 then [] else gapL l x
def newGps (g : List Gp) : PV := .new 3 (g.map cGp)
def encGps (g : List Gp) : PV := .imm (g.map cGp) false
theorem litGp {g : List Gp} : (g.map cGp).all (fun e => e.all isLit) = true := by
  simp only [List.all_map, List.all_eq_true]; intro x _; rfl
theorem scalGT {g : List Gp} {n : Int} : scal (.tup [newGps g, i64 n]) = true := by
  simp only [scal, List.all_cons, List.all_nil, Bool.and_true, newGps, scal1, litGp, i64]
theorem allA_gaps {l : Ldg} {x : List Fx} (h : mchk l x = 0) : (l.brs.flatMap fun b => gapsOf x b.name (leff l b.name).1).map cGp = rowsOf (encG l) (allA l x) := by
  rw [toG_enc]
  congr 1
  have e : l.brs = (List.finRange l.brs.length).map fun i => l.brs[i] := by
    apply List.ext_getElem
    · simp
    · intro i h1 h2; simp
  conv => lhs; rw [e]
  rw [List.flatMap_map, allA, List.map_flatMap]
  congr 1
  funext i
  rw [gapsOf, List.map_map]
  apply List.map_congr_left
  intro f hf
  have := mchk_fx h (List.mem_filter.1 hf).1
  simp only [Function.comp, toG, mkA, Gp.mk.injEq, true_and]
  omega
theorem flat_len {α β : Type} {f : α → List β} {m : Nat} : ∀ (l : List α), (∀ a ∈ l, (f a).length ≤ m) → (l.flatMap f).length ≤ l.length * m
  | [], _ => by simp
  | a :: r, h => by
    have h1 := h a (by simp)
    have h2 := flat_len r fun b hb => h b (by simp [hb])
    rw [List.flatMap_cons, List.length_append, List.length_cons, Nat.add_mul]; omega
theorem lst_lenM : ∀ (i : Nat) (l : List Bool), (lst i l).length ≤ l.length
  | _, [] => by simp [lst]
  | i, b :: r => by
    have := lst_lenM (i + 1) r
    rw [lst]
    split <;> simp only [List.length_cons] <;> omega
theorem leff_len {l : Ldg} {n : Str} : (leff l n).1.length ≤ 30 := by
  rw [leff]
  split
  · simp
  · exact Nat.le_trans (lst_lenM _ _) (by simp [inL])
theorem m_Gaps (l : Ldg) (x : List Fx) (hz : LSz l) (hx40 : x.length ≤ 2^40) (hb40 : ∀ f ∈ x, f.brs.length ≤ 2^40) : CallSpec cx 20 [encLdg l, encFxs x] (.tup [newGps (gapR l x), i64 (mchk l x)]) := by
  refine callSpec_of_vc Tryz.func20 rfl (by decide) (by kernel_rfl) (Nat.le_of_ble_eq_true rfl) ?_
  try simp -dsimp (disch := first | omega | decide +kernel) only [↓bp0, bd0, bd_MF, reduceIte, Nat.reduceEqDiff, evStore, Nat.reduceAdd, Nat.reduceMul, Int.reduceEq, Int.reduceLT, Int.reduceLE, Nat.reduceLeDiff, List.reduceReplicate, reduceCtorEq, evRange, Nat.reduceLT, Tryz.f20]
  refine CallQ.imm (m_Check l x hz hx40 hb40) (by rfl) (by rfl) (by first | exact .inl rfl | exact .inr rfl | exact .inr scalB | exact .inr scalI | exact .inr scalT | exact .inr scalM | exact .inr scalMT) ?_
  cases h0 : decide (mchk l x = 0)
  · simp -dsimp (disch := first | omega | decide +kernel) only [↓bp0, bd0, bd_MF, reduceIte, Nat.reduceEqDiff, evStore, Nat.reduceAdd, Nat.reduceMul, Int.reduceEq, Int.reduceLT, Int.reduceLE, Nat.reduceLeDiff, List.reduceReplicate, reduceCtorEq, evRange, Nat.reduceLT, retQ, resL, finL, newL, flat, tupOf, List.toList_toArray, Tryz.f20, h0, newGps]
    rw [gapR, if_pos (of_decide_eq_false h0)]
    exact ⟨.inr ⟨rfl, 3, rfl⟩, .rfl', trivial⟩
  have h0' := of_decide_eq_true h0
  obtain ⟨hl0, hx30, _⟩ := mchk_zero h0'
  have hok := lok_of hl0
  have hle := hok.vok.le8
  try simp -dsimp (disch := first | omega | decide +kernel) only [↓bp0, bd0, bd_MF, reduceIte, Nat.reduceEqDiff, evStore, Nat.reduceAdd, Nat.reduceMul, Int.reduceEq, Int.reduceLT, Int.reduceLE, Nat.reduceLeDiff, List.reduceReplicate, reduceCtorEq, evRange, Nat.reduceLT, h0]
  obtain ⟨F, hF⟩ : ∃ F : Br → List Gp, ∀ b, F b = gapsOf x b.name (leff l b.name).1 := ⟨_, fun _ => rfl⟩
  have hFl : ∀ b, (F b).length ≤ 30 := fun b => by rw [hF]; exact Nat.le_trans gapsOf_len hx30
  obtain ⟨R, hR⟩ : ∃ R : Nat → List (List PV), ∀ i, R i = ((l.brs.take i).flatMap F).map cGp := ⟨_, fun _ => rfl⟩
  have hR0 : R 0 = [] := by rw [hR]; simp
  have hRn : R l.brs.length = rowsOf (encG l) (allA l x) := by
    rw [hR, List.take_length, ← allA_gaps h0', show F = _ from funext hF]
  have hlenR : ∀ i, (R i).length ≤ 2^20 := fun i => by
    have := flat_len (f := F) (l.brs.take i) fun b _ => hFl b
    rw [hR, List.length_map]; rw [List.length_take] at this; omega
  have hstep : ∀ i b, l.brs[i]? = some b → R i ++ (gapsOf x b.name (leff l b.name).1).map cGp = R (i + 1) := fun i b hb => by
    rw [hR, hR, take_succ hb, List.flatMap_append, List.map_append, List.flatMap_cons, List.flatMap_nil, List.append_nil, hF]
  have hRl : (R l.brs.length).length = (allA l x).length := by rw [hRn, rowsOf, List.length_map]
  clear hR
  refine LoopQ.ghost 7 3 (by rfl) ?_
  refine LoopQ.rule (fun m st => ∃ (i id ver nx : Nat), i ≤ l.brs.length ∧ 0 < id ∧ id < nx ∧ m = l.brs.length - i ∧
    st = ⟨mkE [(1, encFxs x), (2, .ptr 0 0 0 0), (7, .own id ver 0 (R i).length false), (19, encBrs l.brs), (20, i64 l.brs.length), (21, i64 i)],
      mkS [(0, .row 0 3 [[encKws l.known, encBrs l.brs, encEvss l.evs]] false), (id, .row ver 3 (R i) false)], nx⟩) _ _ (weak_of ?_)
    ⟨0, 1, 0, 2, by omega, by omega, by omega, rfl, rfl⟩ ?_
  · first | (simp -dsimp (disch := first | omega | decide +kernel) only [↓bp0, bd0, bd_MF, reduceIte, Nat.reduceEqDiff, evStore, Nat.reduceAdd, Nat.reduceMul, Int.reduceEq, Int.reduceLT, Int.reduceLE, Nat.reduceLeDiff, List.reduceReplicate, reduceCtorEq, evRange, Nat.reduceLT, ghR, hR0, List.length_nil]; done) | simp -dsimp [evl, putN, i64, u32, bl, encL, encB, encLL, ghR, hR0, List.length_nil]
  rintro m st ⟨i, id, ver, nx, hi, hid0, hid, rfl, rfl⟩
  have hE1_0a : (id = 0) = False := by simp; omega
  have hE1_0b : (0 = id) = False := by simp; omega
  have hE1_1a : (id = nx) = False := by simp; omega
  have hE1_1b : (nx = id) = False := by simp; omega
  have hE1_2a : (id = nx + 1) = False := by simp; omega
  have hE1_2b : (nx + 1 = id) = False := by simp; omega
  have hE1_3a : (nx = 0) = False := by simp; omega
  have hE1_3b : (0 = nx) = False := by simp; omega
  have hlen := hlenR i
  try simp -dsimp (disch := first | omega | decide +kernel) only [↓bp0, bd0, bd_MF, reduceIte, Nat.reduceEqDiff, evStore, Nat.reduceAdd, Nat.reduceMul, Int.reduceEq, Int.reduceLT, Int.reduceLE, Nat.reduceLeDiff, List.reduceReplicate, reduceCtorEq, evRange, Nat.reduceLT, hE1_0a, hE1_0b, hE1_1a, hE1_1b, hE1_2a, hE1_2b, hE1_3a, hE1_3b]
  refine onC_nlt (fun h2 => ?_) (fun h2 => ?_)
  · obtain ⟨b, hb, hbm⟩ := get_of_lt h2
    try simp -dsimp (disch := first | omega | decide +kernel) only [↓bp0, bd0, bd_MF, reduceIte, Nat.reduceEqDiff, evStore, Nat.reduceAdd, Nat.reduceMul, Int.reduceEq, Int.reduceLT, Int.reduceLE, Nat.reduceLeDiff, List.reduceReplicate, reduceCtorEq, evRange, Nat.reduceLT, hb, hE1_0a, hE1_0b, hE1_1a, hE1_1b, hE1_2a, hE1_2b, hE1_3a, hE1_3b]
    refine CallQ.imm (d_Effect l b.name hz) (by rfl) (by rfl) (by first | exact .inl rfl | exact .inr rfl | exact .inr scalB | exact .inr scalI | exact .inr scalT | exact .inr scalM | exact .inr scalMT) ?_
    try simp -dsimp (disch := first | omega | decide +kernel) only [↓bp0, bd0, bd_MF, reduceIte, Nat.reduceEqDiff, evStore, Nat.reduceAdd, Nat.reduceMul, Int.reduceEq, Int.reduceLT, Int.reduceLE, Nat.reduceLeDiff, List.reduceReplicate, reduceCtorEq, evRange, Nat.reduceLT, hb, hE1_0a, hE1_0b, hE1_1a, hE1_1b, hE1_2a, hE1_2b, hE1_3a, hE1_3b]
    refine CallQ.inm (m_gaps x b.name (leff l b.name).1 (by omega) hb40 ?_ _ _ id ver (R i) (by omega) ?_) (by rfl) ?_
    · exact Nat.le_trans leff_len (by omega)
    · try simp -dsimp (disch := first | omega | decide +kernel) only [↓bp0, bd0, bd_MF, reduceIte, Nat.reduceEqDiff, evStore, Nat.reduceAdd, Nat.reduceMul, Int.reduceEq, Int.reduceLT, Int.reduceLE, Nat.reduceLeDiff, List.reduceReplicate, reduceCtorEq, evRange, Nat.reduceLT, hE1_0a, hE1_0b, hE1_1a, hE1_1b, hE1_2a, hE1_2b, hE1_3a, hE1_3b]
    rintro r σ' nx1 ⟨hn1, ver', rfl, rfl⟩
    have hn1' : nx + 1 ≤ nx1 := hn1
    rw [hstep i b hb]
    try simp -dsimp (disch := first | omega | decide +kernel) only [↓bp0, bd0, bd_MF, reduceIte, Nat.reduceEqDiff, evStore, Nat.reduceAdd, Nat.reduceMul, Int.reduceEq, Int.reduceLT, Int.reduceLE, Nat.reduceLeDiff, List.reduceReplicate, reduceCtorEq, evRange, Nat.reduceLT, hE1_0a, hE1_0b, hE1_1a, hE1_1b, hE1_2a, hE1_2b, hE1_3a, hE1_3b]
    refine ⟨_, _, ?_, weak_of ?_, i + 1, id, ver', nx1, h2, hid0, by omega, rfl, rfl⟩
    · omega
    · first | (simp -dsimp (disch := first | omega | decide +kernel) only [↓bp0, bd0, bd_MF, reduceIte, Nat.reduceEqDiff, evStore, Nat.reduceAdd, Nat.reduceMul, Int.reduceEq, Int.reduceLT, Int.reduceLE, Nat.reduceLeDiff, List.reduceReplicate, reduceCtorEq, evRange, Nat.reduceLT, wrapS h2 (show l.brs.length ≤ 9223372036854775807 by omega), hE1_0a, hE1_0b, hE1_1a, hE1_1b, hE1_2a, hE1_2b, hE1_3a, hE1_3b]; done) | simp -dsimp [evl, putN, i64, u32, bl, encL, encB, encLL, wrapS h2 (show l.brs.length ≤ 9223372036854775807 by omega), hE1_0a, hE1_0b, hE1_1a, hE1_1b, hE1_2a, hE1_2b, hE1_3a, hE1_3b]
  · have hil : i = l.brs.length := by omega
    subst hil
    rw [hRl, hRn]
    try simp -dsimp (disch := first | omega | decide +kernel) only [↓bp0, bd0, bd_MF, reduceIte, Nat.reduceEqDiff, evStore, Nat.reduceAdd, Nat.reduceMul, Int.reduceEq, Int.reduceLT, Int.reduceLE, Nat.reduceLeDiff, List.reduceReplicate, reduceCtorEq, evRange, Nat.reduceLT, hE1_0a, hE1_0b, hE1_1a, hE1_1b, hE1_2a, hE1_2b, hE1_3a, hE1_3b]
    refine CallQ.inm (m_order l hok _ _ id ver (allA l x) false (by omega) ?_) (by rfl) ?_
    · try simp -dsimp (disch := first | omega | decide +kernel) only [↓bp0, bd0, bd_MF, reduceIte, Nat.reduceEqDiff, evStore, Nat.reduceAdd, Nat.reduceMul, Int.reduceEq, Int.reduceLT, Int.reduceLE, Nat.reduceLeDiff, List.reduceReplicate, reduceCtorEq, evRange, Nat.reduceLT, hE1_0a, hE1_0b, hE1_1a, hE1_1b, hE1_2a, hE1_2b, hE1_3a, hE1_3b]
    rintro r σ' nx1 ⟨hn1, rfl, rfl⟩
    have hsl : (srtG (allA l x)).length = (allA l x).length := List.length_mergeSort _
    have hge : gapR l x = gapL l x := by rw [gapR, if_neg (by rw [Decidable.not_not]; exact h0')]
    have hr1 : (rowsOf (encG l) (srtG (allA l x))).length = (srtG (allA l x)).length := by rw [rowsOf, List.length_map]
    have hr2 : ((rowsOf (encG l) (srtG (allA l x))).all fun e => e.all flat) = true := by rw [List.all_eq_true]; intro e he; obtain ⟨b, _, rfl⟩ := List.mem_map.1 he; rfl
    have hr3 : (rowsOf (encG l) (srtG (allA l x))).take (srtG (allA l x)).length = rowsOf (encG l) (srtG (allA l x)) := List.take_of_length_le (by omega)
    rw [hge, h0', gapL, newGps, ← toG_enc, ← hsl]
    simp -dsimp (disch := first | omega | decide +kernel) only [↓bp0, bd0, bd_MF, reduceIte, Nat.reduceEqDiff, evStore, Nat.reduceAdd, Nat.reduceMul, Int.reduceEq, Int.reduceLT, Int.reduceLE, Nat.reduceLeDiff, List.reduceReplicate, reduceCtorEq, evRange, Nat.reduceLT, retQ, resL, finL, newL, flat, tupOf, List.toList_toArray, Tryz.f20, hr1, hr2, hr3, List.drop_zero, hE1_0a, hE1_0b, hE1_1a, hE1_1b, hE1_2a, hE1_2b, hE1_3a, hE1_3b]
    exact ⟨.rfl', .rfl', trivial⟩
end Go.Ab
end
