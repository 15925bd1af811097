/- The reference: After. -/
import Derived.Test.YtgcodedanljhpaaGreatDoorLX
import Derived.Test.YtgcodedanljhpaaGreatDoorQJ
import Derived.Test.YtgcodedanljhpaaGreatDoorQO
set_option linter.unusedSimpArgs false
set_option linter.unusedVariables false
section
set_option maxRecDepth 100000
set_option maxHeartbeats 8000000
namespace Go.Ab
open Go Go.Proofs
theorem bd_LXa : type_of% (And.intro @evNext.eq_1 (And.intro @fld (And.intro @nit (And.intro @nxE (And.intro @ovR (And.intro @evBin_seql (And.intro @evBin_sneq (And.intro @str.eq_1 (And.intro @u8.eq_1 (And.intro @encBrs.eq_1 (And.intro @cBr.eq_1 (And.intro @encLdg.eq_1 (And.intro @encKws.eq_1 (And.intro @cKw.eq_1 (And.intro @encEvss.eq_1 (And.intro @encEvs.eq_1 (And.intro @cEv.eq_1 (And.intro @encMks.eq_1 (And.intro @cMk.eq_1 (And.intro @tk2 (And.intro @tk3 (And.intro @List.set_cons_succ.{0} (And.intro @List.getElem?_cons_zero.{0} (And.intro @List.getElem?_cons_succ.{0} (@List.length_set.{0}))))))))))))))))))))))))) := And.intro @evNext.eq_1 (And.intro @fld (And.intro @nit (And.intro @nxE (And.intro @ovR (And.intro @evBin_seql (And.intro @evBin_sneq (And.intro @str.eq_1 (And.intro @u8.eq_1 (And.intro @encBrs.eq_1 (And.intro @cBr.eq_1 (And.intro @encLdg.eq_1 (And.intro @encKws.eq_1 (And.intro @cKw.eq_1 (And.intro @encEvss.eq_1 (And.intro @encEvs.eq_1 (And.intro @cEv.eq_1 (And.intro @encMks.eq_1 (And.intro @cMk.eq_1 (And.intro @tk2 (And.intro @tk3 (And.intro @List.set_cons_succ.{0} (And.intro @List.getElem?_cons_zero.{0} (And.intro @List.getElem?_cons_succ.{0} (@List.length_set.{0}))))))))))))))))))))))))
theorem r_After (l : Ldg) (n : Str) (k : Int) (hz : LSz l) (hn : LNm l) : CallSpec cx 59 [encLdg l, str n, i64 k] (.tup [newI (laft l n k).1, i64 (laft l n k).2]) := by
  refine callSpec_of_vc Tryz.func59 rfl (by decide) (by kernel_rfl) (Nat.le_of_ble_eq_true rfl) ?_
  try simp -dsimp (disch := omega) only [↓bp0, bd0, bd_LXa, evStore, evRange, Tryz.f59, simprocAttr]
  refine CallQ.imm (r_lView l n hz hn) (by rfl) (by rfl) (by first | exact .inl rfl | exact .inr rfl | exact .inr scalB | exact .inr scalI | exact .inr scalT | exact .inr scalM | exact .inr scalMT | exact .inr scalE) ?_
  cases h0 : decide ((lview l n).2 = 0)
  · simp -dsimp (disch := omega) only [↓bp0, bd0, bd_LXa, evStore, evRange, retQ, resL, finL, newL, flat, tupOf, List.toList_toArray, Tryz.f59, h0, simprocAttr]
    rw [laft, if_pos (of_decide_eq_false h0)]
    exact ⟨.inr ⟨rfl, 1, rfl⟩, .rfl', trivial⟩
  have h0' := of_decide_eq_true h0
  obtain ⟨q1, q2, q3, q4⟩ := fold_pre h0'
  rw [laft, if_neg (by rw [Decidable.not_not]; exact h0')]
  have hsl : (seenE l (lview l n).1).length = (lview l n).1.length := by simp [seenE]
  have htk : ∀ k : Nat, seenE l ((lview l n).1.take k) = (seenE l (lview l n).1).take k := fun k => seenE_take _ _ _
  generalize (lview l n).1.length = len at q4 hsl ⊢
  cases h1 : decide (k < 0)
  case true =>
    simp -dsimp (disch := omega) only [↓bp0, bd0, bd_LXa, evStore, evRange, retQ, resL, finL, newL, flat, tupOf, List.toList_toArray, Tryz.f59, h0, h1, simprocAttr]
    rw [if_pos (.inl (of_decide_eq_true h1))]
    exact ⟨.inr ⟨rfl, 1, rfl⟩, .rfl', trivial⟩
  cases h2 : decide ((len : Int) < k)
  case true =>
    rw [← hsl] at h2
    simp -dsimp (disch := omega) only [↓bp0, bd0, bd_LXa, evStore, evRange, retQ, resL, finL, newL, flat, tupOf, List.toList_toArray, Tryz.f59, h0, h1, h2, simprocAttr]
    rw [hsl] at h2
    rw [if_pos (.inr (of_decide_eq_true h2))]
    exact ⟨.inr ⟨rfl, 1, rfl⟩, .rfl', trivial⟩
  have h1' := of_decide_eq_false h1
  have h2' := of_decide_eq_false h2
  rw [if_neg (by rw [not_or]; exact ⟨h1', h2'⟩)]
  obtain ⟨k, rfl⟩ : ∃ m : Nat, k = m := ⟨k.toNat, by omega⟩
  rw [Int.toNat_natCast, htk]
  rw [← hsl] at h2
  generalize seenE l (lview l n).1 = s at q3 hsl h2 ⊢
  have hkl : k ≤ s.length := by omega
  have hdt : List.drop 0 (List.take k (s.map cEv)) = (s.take k).map cEv := by rw [List.drop_zero, List.map_take]
  have hdt2 : List.take k (s.map cEv) = (s.take k).map cEv := by rw [List.map_take]
  try simp -dsimp (disch := omega) only [↓bp0, bd0, bd_LXa, evStore, evRange, h0, h1, h2, simprocAttr]
  first | refine vc_text (by kernel_rfl) ?_ | skip
  try simp -dsimp (disch := omega) only [↓bp0, bd0, bd_LXa, evStore, evRange, hkl, evSlice, slc, allEv, Bool.false_and, hdt, hdt2, simprocAttr]
  refine CallY.q 4 rfl (by kernel_rfl) ?_
  refine CallQ.thaw (r_effect l (s.take k) hz.known (by rw [List.length_take]; omega)) (by rfl) (by first | rfl | (simp -dsimp (disch := omega) only [↓bp0, bd0, bd_LXa, evStore, evRange, drcs, drc, flat, encEvs, simprocAttr]; done)) flLitI ?_
  rw [effE_clsI fun e he => q3 e (List.mem_of_mem_take he)]
  simp -dsimp (disch := omega) only [↓bp0, bd0, bd_LXa, evStore, evRange, retQ, resL, finL, newL, flat, tupOf, List.toList_toArray, Tryz.f59, simprocAttr]
  exact ⟨.rfl', .rfl', trivial⟩
end Go.Ab
end

section
/- The reference of notes: News, Gone, Since. -/
set_option maxRecDepth 1000000
set_option maxHeartbeats 16000000
namespace Go.Ab
open Go Go.Proofs Go.Sort
theorem bd_QR : type_of% (And.intro @evNext.eq_1 (And.intro @fld (And.intro @nit (And.intro @nxE (And.intro @ghR (And.intro @ovR (And.intro @evBin_seql (And.intro @evBin_sneq (And.intro @str.eq_1 (And.intro @u8.eq_1 (And.intro @encBrs.eq_1 (And.intro @cBr.eq_1 (And.intro @encLdg.eq_1 (And.intro @encKws.eq_1 (And.intro @cKw.eq_1 (And.intro @encEvss.eq_1 (And.intro @encEvs.eq_1 (And.intro @cEv.eq_1 (And.intro @encMks.eq_1 (And.intro @cMk.eq_1 (And.intro @encStrs.eq_1 (And.intro @tk2 (And.intro @tk3 (And.intro @List.set_cons_succ.{0} (And.intro @List.getElem?_cons_zero.{0} (And.intro @List.getElem?_cons_succ.{0} (@List.length_set.{0}))))))))))))))))))))))))))) := And.intro @evNext.eq_1 (And.intro @fld (And.intro @nit (And.intro @nxE (And.intro @ghR (And.intro @ovR (And.intro @evBin_seql (And.intro @evBin_sneq (And.intro @str.eq_1 (And.intro @u8.eq_1 (And.intro @encBrs.eq_1 (And.intro @cBr.eq_1 (And.intro @encLdg.eq_1 (And.intro @encKws.eq_1 (And.intro @cKw.eq_1 (And.intro @encEvss.eq_1 (And.intro @encEvs.eq_1 (And.intro @cEv.eq_1 (And.intro @encMks.eq_1 (And.intro @cMk.eq_1 (And.intro @encStrs.eq_1 (And.intro @tk2 (And.intro @tk3 (And.intro @List.set_cons_succ.{0} (And.intro @List.getElem?_cons_zero.{0} (And.intro @List.getElem?_cons_succ.{0} (@List.length_set.{0}))))))))))))))))))))))))))
theorem view2 {l : Ldg} {n : Str} : (lview l n).2 = if lchk l ≠ 0 then lchk l else if idx l.brs n < 0 then 6 else 0 := by
  unfold lview
  by_cases h0 : lchk l = 0
  · have hl := lok_of h0
    rw [if_neg (by rw [Decidable.not_not]; exact h0), if_neg (by rw [Decidable.not_not]; exact h0)]
    unfold bview
    rw [if_neg (by rw [Decidable.not_not]; exact hl.fits)]
    split <;> rfl
  · rw [if_pos h0, if_pos h0]
theorem diff_both {l : Ldg} {a b : Str} : (ldiff l a b).2.2 = bothE l a b := by
  by_cases h0 : bothE l a b = 0
  · obtain ⟨va, vb, _⟩ := bothE_zero h0
    rw [ldiff_of va vb, h0]
  · by_cases h1 : lchk l = 0
    · have ha : (lview l a).2 = if idx l.brs a < 0 then 6 else 0 := by rw [view2, if_neg (by rw [Decidable.not_not]; exact h1)]
      have hb : (lview l b).2 = if idx l.brs b < 0 then 6 else 0 := by rw [view2, if_neg (by rw [Decidable.not_not]; exact h1)]
      by_cases h2 : idx l.brs a < 0 <;> by_cases h3 : idx l.brs b < 0 <;> simp [ldiff, bothE, h1, ha, hb, h2, h3]
    · have ha : (lview l a).2 = lchk l := by rw [view2, if_pos h1]
      simp [ldiff, bothE, h1, ha]
theorem onlyI_mem {l : Ldg} {a b : Str} (hb : (lview l b).2 = 0) : ∀ c ∈ onlyL (cls0 l.known) (evV l b) (evV l a), ∃ e ∈ evV l b, clsI l.known e.chg = c := fun c hc => by
  obtain ⟨e, he, h1⟩ := onlyL_mem hc
  exact ⟨e, he, by rw [← cls_eq (evV_ok hb he).2]; exact h1⟩
theorem news_ref {l : Ldg} {a b : Str} (ha : (lview l a).2 = 0) (hb : (lview l b).2 = 0) : insAll (newsG (clsI l.known) (evV l b)) (missI (leff l b).1 (leff l a).1) = (nnews l a b).1 ∧ (nnews l a b).2 = 0 := by
  rw [leff_v ha, leff_v hb, nnews, ldiff_of ha hb, miss_only, noted_eq onlyL_lt (onlyI_mem hb)]
  simp
theorem gone_ref {l : Ldg} {a b : Str} (ha : (lview l a).2 = 0) (hb : (lview l b).2 = 0) : insAll (goneG (clsI l.known) (evV l a) (evV l b)) (missI (leff l a).1 (leff l b).1) = (ngone l a b).1 ∧ (ngone l a b).2 = 0 := by
  have hy := (once_ok ha hb).yp
  have e2 : ngone l a b = (srtN (goneO (clsI l.known) (evV l a) (evV l b) (onlyL (cls0 l.known) (evV l a) (evV l b))) ++ lastsF (clsI l.known) (evV l b) (onlyL (cls0 l.known) (evV l a) (evV l b)), 0) := by rw [ngone, ldiff_of ha hb]; simp
  rw [e2] at hy ⊢
  rw [leff_v ha, leff_v hb, miss_only]
  exact ⟨gone_eq (fun e he => cls_eq (evV_ok ha he).2) hy, rfl⟩
theorem since_ref {l : Ldg} {b : Str} {k : Int} (hk : (laft l b k).2 = 0) : insAll (newsG (clsI l.known) (evV l b)) (missI (leff l b).1 (laft l b k).1) = (lsince l b k).1 := by
  have hv := laft_view hk
  obtain ⟨_, _, h2⟩ := laft_ok hv hk
  rw [lsince, if_neg (by rw [Decidable.not_not]; exact hk), leff_v hv, h2, miss_only, noted_eq onlyL_lt]
  intro c hc
  obtain ⟨e, he, h1⟩ := onlyL_mem hc
  exact ⟨e, he, by rw [← cls_eq (evV_ok hv he).2]; exact h1⟩
theorem r_News43 (l : Ldg) (a b : Str) (hz : LSz l) (hn : LNm l) : CallSpec cx 45 [encLdg l, str a, str b] (.tup [encNts (nnews l a b).1, i64 (nnews l a b).2]) := by
  refine callSpec_of_vc Tryz.func45 rfl (by decide) (by kernel_rfl) (Nat.le_of_ble_eq_true rfl) ?_
  try simp -dsimp (disch := omega) only [↓bp0, bd0, bd_QR, evStore, evRange, nilR, tk4, Tryz.f45, simprocAttr]
  refine CallQ.imm (v_Both l a b hz hn) (by rfl) (by rfl) (by first | exact .inl rfl | exact .inr rfl | exact .inr scalB | exact .inr scalI | exact .inr scalT | exact .inr scalM | exact .inr scalMT | exact .inr scalE | exact .inr scalET | exact .inr scalN | exact .inr scalNT | exact .inr scalA) ?_
  cases h0 : decide (bothE l a b = 0)
  · have h0' := of_decide_eq_false h0
    have e : nnews l a b = ([], bothE l a b) := by rw [nnews, diff_both, if_pos h0']
    rw [e]
    simp -dsimp (disch := omega) only [↓bp0, bd0, bd_QR, evStore, evRange, nilR, tk4, retQ, resL, finL, newL, flat, tupOf, List.toList_toArray, Tryz.f45, h0, simprocAttr]
    exact ⟨.inl (.inr (.inr ⟨rfl, rfl⟩)), .rfl', trivial⟩
  obtain ⟨va, vb, _⟩ := bothE_zero (of_decide_eq_true h0)
  have kx := r_Effect l a hz hn
  have ky := r_Effect l b hz hn
  have hxl : (leff l a).1.length ≤ 30 := leff_len
  have hyl : (leff l b).1.length ≤ 30 := leff_len
  have hml : (missI (leff l b).1 (leff l a).1).length ≤ 1000 := by
    have := List.length_filter_le (fun x => !(leff l a).1.any fun y => decide (x = y)) (leff l b).1
    show (List.filter _ _).length ≤ _
    omega
  have kN := r_noted l b (missI (leff l b).1 (leff l a).1) hz hn vb hml
  obtain ⟨e1, e2⟩ := news_ref va vb
  rw [e1] at kN
  rw [e2]
  generalize (leff l a).1 = X at kx hxl kN
  generalize (leff l b).1 = Y at ky hyl kN
  have kM := r_missing Y X (by omega) (by omega)
  generalize missI Y X = M at kN kM
  try simp -dsimp (disch := omega) only [↓bp0, bd0, bd_QR, evStore, evRange, nilR, tk4, h0, simprocAttr]
  refine CallQ.imm (kx) (by rfl) (by rfl) (by first | exact .inl rfl | exact .inr rfl | exact .inr scalB | exact .inr scalI | exact .inr scalT | exact .inr scalM | exact .inr scalMT | exact .inr scalE | exact .inr scalET | exact .inr scalN | exact .inr scalNT | exact .inr scalA) ?_
  try simp -dsimp (disch := omega) only [↓bp0, bd0, bd_QR, evStore, evRange, nilR, tk4, newI, simprocAttr]
  refine CallQ.imm (ky) (by rfl) (by rfl) (by first | exact .inl rfl | exact .inr rfl | exact .inr scalB | exact .inr scalI | exact .inr scalT | exact .inr scalM | exact .inr scalMT | exact .inr scalE | exact .inr scalET | exact .inr scalN | exact .inr scalNT | exact .inr scalA) ?_
  try simp -dsimp (disch := omega) only [↓bp0, bd0, bd_QR, evStore, evRange, nilR, tk4, newI, simprocAttr]
  first | refine vc_text (by kernel_rfl) ?_ | skip
  try simp -dsimp (disch := omega) only [↓bp0, bd0, bd_QR, evStore, evRange, nilR, tk4, newI, simprocAttr]
  refine CallY.imm (kM) (by rfl) (by rfl) (by first | exact .inl rfl | exact .inr rfl | exact .inr scalB | exact .inr scalI | exact .inr scalT | exact .inr scalM | exact .inr scalMT | exact .inr scalE | exact .inr scalET | exact .inr scalN | exact .inr scalNT | exact .inr scalA) ?_
  try simp -dsimp (disch := omega) only [↓bp0, bd0, bd_QR, evStore, evRange, nilR, tk4, newI, simprocAttr]
  refine CallY.imm (kN) (by rfl) (by rfl) (by first | exact .inl rfl | exact .inr rfl | exact .inr scalB | exact .inr scalI | exact .inr scalT | exact .inr scalM | exact .inr scalMT | exact .inr scalE | exact .inr scalET | exact .inr scalN | exact .inr scalNT | exact .inr scalA) ?_
  simp -dsimp (disch := omega) only [↓bp0, bd0, bd_QR, evStore, evRange, nilR, tk4, retQ, resL, finL, newL, flat, tupOf, List.toList_toArray, Tryz.f45, encNts, simprocAttr]
  exact leT_refl _
theorem gn_nt {f : Str → Int} {va vb : List Ev} {c : Int} : goneG f va vb c = if lastB f vb c then (lastN f vb c).getD nt0 else negN ((lastN f va c).getD nt0) := by
  unfold goneG lastB
  cases lastN f vb c <;> rfl
theorem r_Gone43 (l : Ldg) (a b : Str) (hz : LSz l) (hn : LNm l) : CallSpec cx 46 [encLdg l, str a, str b] (.tup [encNts (ngone l a b).1, i64 (ngone l a b).2]) := by
  refine callSpec_of_vc Tryz.func46 rfl (by decide) (by kernel_rfl) (Nat.le_of_ble_eq_true rfl) ?_
  try simp -dsimp (disch := omega) only [↓bp0, bd0, bd_QR, evStore, evRange, nilR, tk4, Tryz.f46, simprocAttr]
  refine CallQ.imm (v_Both l a b hz hn) (by rfl) (by rfl) (by first | exact .inl rfl | exact .inr rfl | exact .inr scalB | exact .inr scalI | exact .inr scalT | exact .inr scalM | exact .inr scalMT | exact .inr scalE | exact .inr scalET | exact .inr scalN | exact .inr scalNT | exact .inr scalA) ?_
  cases h0 : decide (bothE l a b = 0)
  · have h0' := of_decide_eq_false h0
    have e : ngone l a b = ([], bothE l a b) := by rw [ngone, diff_both, if_pos h0']
    rw [e]
    simp -dsimp (disch := omega) only [↓bp0, bd0, bd_QR, evStore, evRange, nilR, tk4, retQ, resL, finL, newL, flat, tupOf, List.toList_toArray, Tryz.f46, h0, simprocAttr]
    exact ⟨.inl (.inr (.inr ⟨rfl, rfl⟩)), .rfl', trivial⟩
  obtain ⟨va, vb, _⟩ := bothE_zero (of_decide_eq_true h0)
  have kx := r_Effect l a hz hn
  have ky := r_Effect l b hz hn
  have hxl : (leff l a).1.length ≤ 30 := leff_len
  have hyl : (leff l b).1.length ≤ 30 := leff_len
  have hml : (missI (leff l a).1 (leff l b).1).length ≤ 30 := by
    have := List.length_filter_le (fun x => !(leff l b).1.any fun y => decide (x = y)) (leff l a).1
    show (List.filter _ _).length ≤ _
    omega
  obtain ⟨e1, e2⟩ := gone_ref va vb
  rw [← e1, e2]
  have kA := fun c => r_last43 l a c hz hn va
  have kB := fun c => r_last43 l b c hz hn vb
  have hgn := fun c => gn_nt (f := clsI l.known) (va := evV l a) (vb := evV l b) (c := c)
  generalize hGA : goneG (clsI l.known) (evV l a) (evV l b) = g at hgn ⊢
  generalize lastB (clsI l.known) (evV l a) = BA at kA
  generalize lastB (clsI l.known) (evV l b) = BB at kB hgn
  obtain ⟨GA, hG1⟩ : ∃ GA : Int → Nt, GA = fun c => (lastN (clsI l.known) (evV l a) c).getD nt0 := ⟨_, rfl⟩
  obtain ⟨GB, hG2⟩ : ∃ GB : Int → Nt, GB = fun c => (lastN (clsI l.known) (evV l b) c).getD nt0 := ⟨_, rfl⟩
  have kA' : ∀ c, CallSpec cx 103 [encLdg l, str a, i64 c] (.tup [agNt (GA c), bl (BA c)]) := fun c => by rw [hG1]; exact kA c
  have kB' : ∀ c, CallSpec cx 103 [encLdg l, str b, i64 c] (.tup [agNt (GB c), bl (BB c)]) := fun c => by rw [hG2]; exact kB c
  have hg' : ∀ c, g c = if BB c then GB c else negN (GA c) := fun c => by rw [hG1, hG2]; exact hgn c
  clear kA kB hgn hG1 hG2 hGA e1 e2
  generalize (leff l a).1 = X at kx hxl hml ⊢
  generalize (leff l b).1 = Y at ky hyl hml ⊢
  have kM := r_missing X Y (by omega) (by omega)
  generalize missI X Y = M at hml kM ⊢
  have hil : ∀ i, (insAll g (M.take i)).length ≤ i := fun i => by rw [insAll, insAll_len, List.length_take]; simp; omega
  try simp -dsimp (disch := omega) only [↓bp0, bd0, bd_QR, evStore, evRange, nilR, tk4, h0, simprocAttr]
  refine CallQ.imm (kx) (by rfl) (by rfl) (by first | exact .inl rfl | exact .inr rfl | exact .inr scalB | exact .inr scalI | exact .inr scalT | exact .inr scalM | exact .inr scalMT | exact .inr scalE | exact .inr scalET | exact .inr scalN | exact .inr scalNT | exact .inr scalA) ?_
  try simp -dsimp (disch := omega) only [↓bp0, bd0, bd_QR, evStore, evRange, nilR, tk4, newI, simprocAttr]
  refine CallQ.imm (ky) (by rfl) (by rfl) (by first | exact .inl rfl | exact .inr rfl | exact .inr scalB | exact .inr scalI | exact .inr scalT | exact .inr scalM | exact .inr scalMT | exact .inr scalE | exact .inr scalET | exact .inr scalN | exact .inr scalNT | exact .inr scalA) ?_
  try simp -dsimp (disch := omega) only [↓bp0, bd0, bd_QR, evStore, evRange, nilR, tk4, newI, simprocAttr]
  refine CallQ.imm (kM) (by rfl) (by rfl) (by first | exact .inl rfl | exact .inr rfl | exact .inr scalB | exact .inr scalI | exact .inr scalT | exact .inr scalM | exact .inr scalMT | exact .inr scalE | exact .inr scalET | exact .inr scalN | exact .inr scalNT | exact .inr scalA) ?_
  try simp -dsimp (disch := omega) only [↓bp0, bd0, bd_QR, evStore, evRange, nilR, tk4, newI, simprocAttr]
  refine LoopQ.nilI 14 (by rfl) ?_
  refine LoopQ.rule (fun m st => ∃ (i nx : Nat), i ≤ M.length ∧ 1 ≤ nx ∧ m = M.length - i ∧
    st = ⟨mkE [(1, str a), (2, str b), (3, .ptr 0 0 0 0), (13, encL M), (14, encNts (insAll g (M.take i))), (15, i64 i)], mkS [(0, .row 0 3 [[encKws l.known, encBrs l.brs, encEvss l.evs]] false)], nx⟩) _ _ (weak_of ?_)
    ⟨0, 1, by omega, by omega, rfl, rfl⟩ ?_
  · first | (simp -dsimp (disch := omega) only [↓bp0, bd0, bd_QR, evStore, evRange, nilR, tk4, nilR, encNts, List.take_zero, insAll, List.foldl_nil, List.map_nil, simprocAttr]; done) | simp -dsimp [evl, putN, i64, u32, bl, encL, encB, encLL, nilR, encNts, List.take_zero, insAll, List.foldl_nil, List.map_nil]
  rintro m st ⟨i, nx, hi, hnx, rfl, rfl⟩
  have hE1_0a : (nx = 0) = False := by simp; omega
  have hE1_0b : (0 = nx) = False := by simp; omega
  have hli := hil i
  try simp -dsimp (disch := omega) only [↓bp0, bd0, bd_QR, evStore, evRange, nilR, tk4, hE1_0a, hE1_0b, simprocAttr]
  refine onC_nlt (fun h2 => ?_) (fun h2 => ?_)
  · obtain ⟨c, hx, hxm⟩ := get_of_lt h2
    have hs : insAll g (M.take (i + 1)) = insN (insAll g (M.take i)) (g c) := by rw [take_succ hx, insAll_snoc]
    have kP := r_put (insAll g (M.take i)) (g c) (by omega)
    rw [← hs] at kP
    generalize insAll g (M.take i) = M0 at kP ⊢
    have hgc := hg' c
    try simp -dsimp (disch := omega) only [↓bp0, bd0, bd_QR, evStore, evRange, nilR, tk4, hx, hE1_0a, hE1_0b, simprocAttr]
    refine vc_regJ (fun τ => τ 0 = some (.row 0 3 [[encKws l.known, encBrs l.brs, encEvss l.evs]] false)) [0, 1, 2, 3, 4, 5, 6, 7, 8, 9] [] (by kernel_rfl) (by kernel_rfl) ?_ ?_
    · exact (by simp -dsimp (disch := omega) only [↓bp0, bd0, bd_QR, evStore, evRange, nilR, tk4, hE1_0a, hE1_0b, simprocAttr])
    try simp -dsimp (disch := omega) only [↓bp0, bd0, bd_QR, evStore, evRange, nilR, tk4, vcj, implies_true, hx, hE1_0a, hE1_0b, simprocAttr]
    refine ⟨fun τ hτ => by simp -dsimp (disch := omega) only [↓bp0, bd0, bd_QR, evStore, evRange, nilR, tk4, hτ, simprocAttr], ?_⟩
    try simp -dsimp (disch := omega) only [↓bp0, bd0, bd_QR, evStore, evRange, nilR, tk4, vcj, implies_true, hx, hE1_0a, hE1_0b, simprocAttr]
    refine CallJ.imm (kB' c) (fun _ _ => by rfl) (fun _ _ => by rfl) (by first | exact .inl rfl | exact .inr rfl | exact .inr scalB | exact .inr scalI | exact .inr scalT | exact .inr scalM | exact .inr scalMT | exact .inr scalE | exact .inr scalET | exact .inr scalN | exact .inr scalNT | exact .inr scalA) ?_
    cases hb : BB c
    · rw [hb] at hgc
      simp only [Bool.false_eq_true, if_false] at hgc
      rw [hgc] at kP
      try simp -dsimp (disch := omega) only [↓bp0, bd0, bd_QR, evStore, evRange, nilR, tk4, vcj, implies_true, or_true, true_and, hx, hb, cNt, uUn, Option.bind_some, Bool.not_false, hE1_0a, hE1_0b, simprocAttr]
      refine vc_regJ (fun τ => τ 0 = some (.row 0 3 [[encKws l.known, encBrs l.brs, encEvss l.evs]] false)) [0, 1, 2, 3, 4, 5, 6, 7, 8, 9] [] (by kernel_rfl) (by kernel_rfl) ?_ ?_
      · exact (by simp -dsimp (disch := omega) only [↓bp0, bd0, bd_QR, evStore, evRange, nilR, tk4, hE1_0a, hE1_0b, simprocAttr])
      try simp -dsimp (disch := omega) only [↓bp0, bd0, bd_QR, evStore, evRange, nilR, tk4, vcj, implies_true, hx, hE1_0a, hE1_0b, simprocAttr]
      refine ⟨fun τ hτ => by simp -dsimp (disch := omega) only [↓bp0, bd0, bd_QR, evStore, evRange, nilR, tk4, hτ, simprocAttr], ?_⟩
      try simp -dsimp (disch := omega) only [↓bp0, bd0, bd_QR, evStore, evRange, nilR, tk4, vcj, implies_true, hx, hE1_0a, hE1_0b, simprocAttr]
      refine CallJ.imm (kA' c) (fun _ _ => by rfl) (fun _ _ => by rfl) (by first | exact .inl rfl | exact .inr rfl | exact .inr scalB | exact .inr scalI | exact .inr scalT | exact .inr scalM | exact .inr scalMT | exact .inr scalE | exact .inr scalET | exact .inr scalN | exact .inr scalNT | exact .inr scalA) ?_
      try simp -dsimp (disch := omega) only [↓bp0, bd0, bd_QR, evStore, evRange, nilR, tk4, vcj, implies_true, or_true, true_and, hx, cNt, hE1_0a, hE1_0b, simprocAttr]
      refine CallQ.imm (kP) (by rfl) (by rfl) (by first | exact .inl rfl | exact .inr rfl | exact .inr scalB | exact .inr scalI | exact .inr scalT | exact .inr scalM | exact .inr scalMT | exact .inr scalE | exact .inr scalET | exact .inr scalN | exact .inr scalNT | exact .inr scalA) ?_
      try simp -dsimp (disch := omega) only [↓bp0, bd0, bd_QR, evStore, evRange, nilR, tk4, newNts, hE1_0a, hE1_0b, simprocAttr]
      refine ⟨_, _, ?_, weak_of ?_, i + 1, nx + 1, h2, by omega, rfl, rfl⟩
      · omega
      · first | (simp -dsimp (disch := omega) only [↓bp0, bd0, bd_QR, evStore, evRange, nilR, tk4, encNts, wrapS h2 (show M.length ≤ 9223372036854775807 by omega), hE1_0a, hE1_0b, simprocAttr]; done) | simp -dsimp [evl, putN, i64, u32, bl, encL, encB, encLL, encNts, wrapS h2 (show M.length ≤ 9223372036854775807 by omega), hE1_0a, hE1_0b]
    · rw [hb] at hgc
      simp only [if_true] at hgc
      rw [hgc] at kP
      try simp -dsimp (disch := omega) only [↓bp0, bd0, bd_QR, evStore, evRange, nilR, tk4, vcj, implies_true, or_true, true_and, hx, hb, cNt, uUn, Option.bind_some, Bool.not_true, hE1_0a, hE1_0b, simprocAttr]
      refine CallQ.imm (kP) (by rfl) (by rfl) (by first | exact .inl rfl | exact .inr rfl | exact .inr scalB | exact .inr scalI | exact .inr scalT | exact .inr scalM | exact .inr scalMT | exact .inr scalE | exact .inr scalET | exact .inr scalN | exact .inr scalNT | exact .inr scalA) ?_
      try simp -dsimp (disch := omega) only [↓bp0, bd0, bd_QR, evStore, evRange, nilR, tk4, newNts, hE1_0a, hE1_0b, simprocAttr]
      refine ⟨_, _, ?_, weak_of ?_, i + 1, nx + 1, h2, by omega, rfl, rfl⟩
      · omega
      · first | (simp -dsimp (disch := omega) only [↓bp0, bd0, bd_QR, evStore, evRange, nilR, tk4, encNts, wrapS h2 (show M.length ≤ 9223372036854775807 by omega), hE1_0a, hE1_0b, simprocAttr]; done) | simp -dsimp [evl, putN, i64, u32, bl, encL, encB, encLL, encNts, wrapS h2 (show M.length ≤ 9223372036854775807 by omega), hE1_0a, hE1_0b]
  · rw [List.take_of_length_le (by omega)]
    simp -dsimp (disch := omega) only [↓bp0, bd0, bd_QR, evStore, evRange, nilR, tk4, retQ, resL, finL, newL, flat, tupOf, List.toList_toArray, Tryz.f46, encNts, simprocAttr]
    exact leT_refl _
theorem r_Since43 (l : Ldg) (b : Str) (k : Int) (hz : LSz l) (hn : LNm l) : CallSpec cx 48 [encLdg l, str b, i64 k] (.tup [encNts (lsince l b k).1, i64 (lsince l b k).2]) := by
  refine callSpec_of_vc Tryz.func48 rfl (by decide) (by kernel_rfl) (Nat.le_of_ble_eq_true rfl) ?_
  try simp -dsimp (disch := omega) only [↓bp0, bd0, bd_QR, evStore, evRange, nilR, tk4, Tryz.f48, simprocAttr]
  refine CallQ.imm (v_Both l b b hz hn) (by rfl) (by rfl) (by first | exact .inl rfl | exact .inr rfl | exact .inr scalB | exact .inr scalI | exact .inr scalT | exact .inr scalM | exact .inr scalMT | exact .inr scalE | exact .inr scalET | exact .inr scalN | exact .inr scalNT | exact .inr scalA) ?_
  have hvw := view2 (l := l) (n := b)
  cases h0 : decide (bothE l b b = 0)
  · have h0' := of_decide_eq_false h0
    have hl2 : (laft l b k).2 = bothE l b b := by
      have : (lview l b).2 = bothE l b b := by rw [hvw, bothE]; simp
      rw [laft, this, if_pos h0']
    have e : lsince l b k = ([], bothE l b b) := by rw [lsince, hl2, if_pos h0']
    rw [e]
    simp -dsimp (disch := omega) only [↓bp0, bd0, bd_QR, evStore, evRange, nilR, tk4, retQ, resL, finL, newL, flat, tupOf, List.toList_toArray, Tryz.f48, h0, simprocAttr]
    exact ⟨.inl (.inr (.inr ⟨rfl, rfl⟩)), .rfl', trivial⟩
  obtain ⟨vb, _, _⟩ := bothE_zero (of_decide_eq_true h0)
  have kx := r_After l b k hz hn
  have ky := r_Effect l b hz hn
  try simp -dsimp (disch := omega) only [↓bp0, bd0, bd_QR, evStore, evRange, nilR, tk4, h0, simprocAttr]
  refine CallQ.imm (kx) (by rfl) (by rfl) (by first | exact .inl rfl | exact .inr rfl | exact .inr scalB | exact .inr scalI | exact .inr scalT | exact .inr scalM | exact .inr scalMT | exact .inr scalE | exact .inr scalET | exact .inr scalN | exact .inr scalNT | exact .inr scalA) ?_
  cases h1 : decide ((laft l b k).2 = 0)
  · have h1' := of_decide_eq_false h1
    have h2 : (laft l b k).2 = 2 := by
      unfold laft at h1' ⊢
      rw [if_neg (by rw [Decidable.not_not]; exact vb)] at h1' ⊢
      split at h1'
      · rename_i h1; rw [if_pos h1]
      · exact absurd rfl h1'
    have e : lsince l b k = ([], 2) := by rw [lsince, if_pos h1', h2]
    rw [e]
    simp -dsimp (disch := omega) only [↓bp0, bd0, bd_QR, evStore, evRange, nilR, tk4, retQ, resL, finL, newL, flat, tupOf, List.toList_toArray, Tryz.f48, h1, newI, simprocAttr]
    exact ⟨.inl (.inr (.inr ⟨rfl, rfl⟩)), .rfl', trivial⟩
  have h1' := of_decide_eq_true h1
  have e2 : (lsince l b k).2 = 0 := by rw [lsince, if_neg (by rw [Decidable.not_not]; exact h1')]
  have hyl : (leff l b).1.length ≤ 30 := leff_len
  have hxl : (laft l b k).1.length ≤ 30 := by
    rw [(laft_ok vb h1').2.2]
    have := lst_len (inL (cls0 l.known) ((evV l b).take k.toNat)) 0
    rw [inL_len] at this; exact this
  have hml : (missI (leff l b).1 (laft l b k).1).length ≤ 1000 := by
    have := List.length_filter_le (fun x => !(laft l b k).1.any fun y => decide (x = y)) (leff l b).1
    show (List.filter _ _).length ≤ _
    omega
  have kN := r_noted l b (missI (leff l b).1 (laft l b k).1) hz hn vb hml
  rw [since_ref h1'] at kN
  rw [e2]
  clear kx
  generalize (laft l b k).1 = X at hxl kN ⊢
  generalize (leff l b).1 = Y at ky hyl kN ⊢
  have kM := r_missing Y X (by omega) (by omega)
  generalize missI Y X = M at kN kM
  try simp -dsimp (disch := omega) only [↓bp0, bd0, bd_QR, evStore, evRange, nilR, tk4, h1, newI, simprocAttr]
  refine CallQ.imm (ky) (by rfl) (by rfl) (by first | exact .inl rfl | exact .inr rfl | exact .inr scalB | exact .inr scalI | exact .inr scalT | exact .inr scalM | exact .inr scalMT | exact .inr scalE | exact .inr scalET | exact .inr scalN | exact .inr scalNT | exact .inr scalA) ?_
  try simp -dsimp (disch := omega) only [↓bp0, bd0, bd_QR, evStore, evRange, nilR, tk4, newI, simprocAttr]
  first | refine vc_text (by kernel_rfl) ?_ | skip
  try simp -dsimp (disch := omega) only [↓bp0, bd0, bd_QR, evStore, evRange, nilR, tk4, newI, simprocAttr]
  refine CallY.imm (kM) (by rfl) (by rfl) (by first | exact .inl rfl | exact .inr rfl | exact .inr scalB | exact .inr scalI | exact .inr scalT | exact .inr scalM | exact .inr scalMT | exact .inr scalE | exact .inr scalET | exact .inr scalN | exact .inr scalNT | exact .inr scalA) ?_
  try simp -dsimp (disch := omega) only [↓bp0, bd0, bd_QR, evStore, evRange, nilR, tk4, newI, simprocAttr]
  refine CallY.imm (kN) (by rfl) (by rfl) (by first | exact .inl rfl | exact .inr rfl | exact .inr scalB | exact .inr scalI | exact .inr scalT | exact .inr scalM | exact .inr scalMT | exact .inr scalE | exact .inr scalET | exact .inr scalN | exact .inr scalNT | exact .inr scalA) ?_
  simp -dsimp (disch := omega) only [↓bp0, bd0, bd_QR, evStore, evRange, nilR, tk4, retQ, resL, finL, newL, flat, tupOf, List.toList_toArray, Tryz.f48, encNts, simprocAttr]
  exact leT_refl _
end Go.Ab
end
