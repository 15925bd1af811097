/- MissingScores. -/
import Derived.Test.YtgcodedanljhpaaGreatDoorNH
set_option linter.unusedSimpArgs false
set_option linter.unusedVariables false
set_option maxRecDepth 1000000
set_option maxHeartbeats 8000000
namespace Go.Ab
open Go Go.Proofs Go.Sort
theorem bd_NI : type_of% (And.intro @evNext.eq_1 (And.intro @fld (And.intro @nit (And.intro @nxE (And.intro @ghR (And.intro @ovR (And.intro @evBin_seql (And.intro @evBin_sneq (And.intro @str.eq_1 (And.intro @u8.eq_1 (And.intro @encBrs.eq_1 (And.intro @cBr.eq_1 (And.intro @encLdg.eq_1 (And.intro @encKws.eq_1 (And.intro @cKw.eq_1 (And.intro @encEvss.eq_1 (And.intro @encEvs.eq_1 (And.intro @cEv.eq_1 (And.intro @encMks.eq_1 (And.intro @cMk.eq_1 (And.intro @encStrs.eq_1 (And.intro @encFxs.eq_1 (And.intro @cFx.eq_1 (And.intro @cGp.eq_1 (And.intro @tk2 (And.intro @tk3 (And.intro @List.set_cons_succ.{0} (And.intro @List.getElem?_cons_zero.{0} (And.intro @List.getElem?_cons_succ.{0} (@List.length_set.{0})))))))))))))))))))))))))))))) := And.intro @evNext.eq_1 (And.intro @fld (And.intro @nit (And.intro @nxE (And.intro @ghR (And.intro @ovR (And.intro @evBin_seql (And.intro @evBin_sneq (And.intro @str.eq_1 (And.intro @u8.eq_1 (And.intro @encBrs.eq_1 (And.intro @cBr.eq_1 (And.intro @encLdg.eq_1 (And.intro @encKws.eq_1 (And.intro @cKw.eq_1 (And.intro @encEvss.eq_1 (And.intro @encEvs.eq_1 (And.intro @cEv.eq_1 (And.intro @encMks.eq_1 (And.intro @cMk.eq_1 (And.intro @encStrs.eq_1 (And.intro @encFxs.eq_1 (And.intro @cFx.eq_1 (And.intro @cGp.eq_1 (And.intro @tk2 (And.intro @tk3 (And.intro @List.set_cons_succ.{0} (And.intro @List.getElem?_cons_zero.{0} (And.intro @List.getElem?_cons_succ.{0} (@List.length_set.{0})))))))))))))))))))))))))))))
def tot : List Gp → Int
  | [] => 0
  | g :: r => g.wgt + tot r
theorem tot_snoc {g : Gp} : ∀ G : List Gp, tot (G ++ [g]) = tot G + g.wgt
  | [] => by simp [tot]
  | h :: r => by rw [List.cons_append, tot, tot, tot_snoc r]; omega
theorem tot_bd : ∀ G : List Gp, (∀ g ∈ G, GpOk g) → 0 ≤ tot G ∧ tot G ≤ 9 * (G.length : Int)
  | [], _ => by simp [tot]
  | g :: r, h => by
    have h1 := (h g (by simp)).wgt
    have h2 := tot_bd r fun q hq => h q (by simp [hq])
    rw [tot, List.length_cons]; omega
def sumS (G : List Gp) : List Br → Int
  | [] => 0
  | b :: r => scr G b.name + sumS G r
theorem sumS_snoc {G : List Gp} {b : Br} : ∀ L : List Br, sumS G (L ++ [b]) = sumS G L + scr G b.name
  | [] => by simp [sumS]
  | h :: r => by rw [List.cons_append, sumS, sumS, sumS_snoc r]; omega
def hit (s : Str) (w : Int) : List Br → Int
  | [] => 0
  | b :: r => (if b.name = s then w else 0) + hit s w r
theorem hit_no {s : Str} {w : Int} : ∀ L : List Br, (∀ b ∈ L, b.name ≠ s) → hit s w L = 0
  | [], _ => rfl
  | b :: r, h => by rw [hit, if_neg (h b (by simp)), hit_no r fun c hc => h c (by simp [hc])]; rfl
theorem hit_one {s : Str} {w : Int} : ∀ L : List Br, (L.map (·.name)).Nodup → (∃ b ∈ L, b.name = s) → hit s w L = w
  | [], _, h => by obtain ⟨b, hb, _⟩ := h; simp at hb
  | b :: r, hn, h => by
    rw [List.map_cons, List.nodup_cons] at hn
    rw [hit]
    by_cases e : b.name = s
    · rw [if_pos e, hit_no r fun c hc e2 => hn.1 (List.mem_map.2 ⟨c, hc, by rw [e2, e]⟩)]; omega
    · rw [if_neg e, hit_one r hn.2 (by
        obtain ⟨c, hc, he⟩ := h
        rcases List.mem_cons.1 hc with rfl | hc
        · exact absurd he e
        · exact ⟨c, hc, he⟩)]; omega
theorem sumS_cons {g : Gp} {G : List Gp} : ∀ L : List Br, sumS (g :: G) L = hit g.br g.wgt L + sumS G L
  | [] => rfl
  | b :: r => by rw [sumS, sumS, hit, sumS_cons r, scr]; omega
theorem sumS_nil : ∀ L : List Br, sumS [] L = 0
  | [] => rfl
  | b :: r => by rw [sumS, sumS_nil r]; rfl
theorem sumS_tot {L : List Br} (hn : (L.map (·.name)).Nodup) : ∀ G : List Gp, (∀ g ∈ G, ∃ b ∈ L, b.name = g.br) → sumS G L = tot G
  | [], _ => sumS_nil L
  | g :: r, h => by rw [sumS_cons, hit_one L hn (h g (by simp)), tot, sumS_tot hn r fun q hq => h q (by simp [hq])]
theorem names_nodup {l : Ldg} (h : LOk l) : (l.brs.map (·.name)).Nodup := by
  rw [List.nodup_iff_pairwise_ne, List.pairwise_iff_getElem]
  intro i j hi hj hij e
  simp only [List.getElem_map] at e
  rw [List.length_map] at hi hj
  have h1 := (tok_fits h.fits).uniq (List.getElem?_eq_getElem hi)
  have h2 := (tok_fits h.fits).uniq (List.getElem?_eq_getElem hj)
  rw [e] at h1
  omega
def fstF (G : List Gp) (M : Int) (w : Str) (b : Br) : Str := if scr G b.name = M ∧ w = ⟨#[]⟩ then b.name else w
def fstN (G : List Gp) (M : Int) (L : List Br) : Str := L.foldl (fstF G M) ⟨#[]⟩
theorem fstN_snoc {G : List Gp} {M : Int} {L : List Br} {b : Br} : fstN G M (L ++ [b]) = fstF G M (fstN G M L) b := by rw [fstN, List.foldl_append]; rfl
theorem fst_wst {G : List Gp} {M : Int} (h0 : scr G ⟨#[]⟩ = 0) (hM : 0 < M) (B : List Br) (hB : ∀ b ∈ B, scr G b.name ≤ M) : ∀ n, scr G (wst G (B.take n)) ≤ M ∧ fstN G M (B.take n) = if scr G (wst G (B.take n)) = M then wst G (B.take n) else ⟨#[]⟩
  | 0 => by
    have e : wst G (B.take 0) = ⟨#[]⟩ := rfl
    rw [e, h0, if_neg (by omega)]
    exact ⟨by omega, rfl⟩
  | n + 1 => by
    obtain ⟨h1, h2⟩ := fst_wst h0 hM B hB n
    by_cases hn : n < B.length
    · have hx : B[n]? = some B[n] := List.getElem?_eq_getElem hn
      have hb := hB _ (List.getElem_mem hn)
      rw [take_succ hx, fstN_snoc, wst_snoc, h2]
      by_cases hm : scr G (wst G (B.take n)) = M
      · have hne : wst G (B.take n) ≠ ⟨#[]⟩ := fun e => by rw [e, h0] at hm; omega
        have hw : wstF G (wst G (B.take n)) B[n] = wst G (B.take n) := by unfold wstF; rw [if_neg (by omega)]
        rw [if_pos hm, hw, if_pos hm]
        refine ⟨by omega, ?_⟩
        unfold fstF; rw [if_neg (by intro h; exact hne h.2)]
      · rw [if_neg hm]
        by_cases hs : scr G B[n].name = M
        · have hw : wstF G (wst G (B.take n)) B[n] = B[n].name := by unfold wstF; rw [if_pos (by omega)]
          rw [hw, if_pos hs]
          exact ⟨by omega, by unfold fstF; rw [if_pos ⟨hs, rfl⟩]⟩
        · have hw : scr G (wstF G (wst G (B.take n)) B[n]) < M := by unfold wstF; split <;> omega
          rw [if_neg (by omega)]
          exact ⟨by omega, by unfold fstF; rw [if_neg (by intro h; exact hs h.1)]⟩
    · rw [List.take_of_length_le (by omega), ← List.take_of_length_le (l := B) (i := n) (by omega)]
      exact ⟨h1, h2⟩
theorem wst_max {G : List Gp} {L : List Br} : ∀ b ∈ L, scr G b.name ≤ scr G (wst G L) := (wst_max0 L ⟨#[]⟩).2
theorem bneq : (∀ {x y : Operand}, evBin cx .neq 4 x y (.lit (.bool false)) (.lit (.bool false)) = some (.lit (.bool false))) ∧ (∀ {x y : Operand}, evBin cx .neq 4 x y (.lit (.bool true)) (.lit (.bool true)) = some (.lit (.bool false))) :=
  ⟨by intros; rfl, by intros; rfl⟩
theorem l_Scores (l : Ldg) (x : List Fx) (hl : l.known.length ≤ 9223372036854775807) (hb : l.brs.length ≤ 9223372036854775807) (hv : l.evs.length ≤ 9223372036854775807) (he : ∀ s ∈ l.evs, s.length ≤ 9223372036854775807)
    (hx : x.length ≤ 9223372036854775807) (hxb : ∀ f ∈ x, f.brs.length ≤ 9223372036854775807) : CallSpec cx 4 [encLdg l, encFxs x] (bl true) := by
  refine callSpec_of_vc Tryz.func4 rfl (by decide) (by kernel_rfl) (Nat.le_of_ble_eq_true rfl) ?_
  try simp -dsimp (maxSteps := 9^9) (disch := first | omega | decide +kernel) only [↓bp0, bd0, bd_NI, reduceIte, Nat.reduceEqDiff, evStore, Nat.reduceAdd, Nat.reduceMul, Int.reduceEq, Int.reduceLT, Int.reduceLE, Nat.reduceLeDiff, List.reduceReplicate, reduceCtorEq, evRange, Nat.reduceLT, Tryz.f4]
  refine CallQ.imm (l_alive) (by rfl) (by first | rfl | (simp -dsimp (maxSteps := 9^9) (disch := first | omega | decide +kernel) only [↓bp0, bd0, bd_NI, reduceIte, Nat.reduceEqDiff, evStore, Nat.reduceAdd, Nat.reduceMul, Int.reduceEq, Int.reduceLT, Int.reduceLE, Nat.reduceLeDiff, List.reduceReplicate, reduceCtorEq, evRange, Nat.reduceLT, drcs, drc, flat]; done) | simp -dsimp [evl, drcs, drc, flat, i64, u32, bl, encL, encB, encLL]) (by first | exact .inl rfl | exact .inr rfl | exact .inr scalB | exact .inr scalI | exact .inr scalT | exact .inr scalM | exact .inr scalMT | exact .inr scalGT) ?_
  try simp -dsimp (maxSteps := 9^9) (disch := first | omega | decide +kernel) only [↓bp0, bd0, bd_NI, reduceIte, Nat.reduceEqDiff, evStore, Nat.reduceAdd, Nat.reduceMul, Int.reduceEq, Int.reduceLT, Int.reduceLE, Nat.reduceLeDiff, List.reduceReplicate, reduceCtorEq, evRange, Nat.reduceLT]
  refine CallQ.imm (r_Great34 l x hl hb hv he hx hxb) (by rfl) (by first | rfl | (simp -dsimp (maxSteps := 9^9) (disch := first | omega | decide +kernel) only [↓bp0, bd0, bd_NI, reduceIte, Nat.reduceEqDiff, evStore, Nat.reduceAdd, Nat.reduceMul, Int.reduceEq, Int.reduceLT, Int.reduceLE, Nat.reduceLeDiff, List.reduceReplicate, reduceCtorEq, evRange, Nat.reduceLT, drcs, drc, flat]; done) | simp -dsimp [evl, drcs, drc, flat, i64, u32, bl, encL, encB, encLL]) (by first | exact .inl rfl | exact .inr rfl | exact .inr scalB | exact .inr scalI | exact .inr scalT | exact .inr scalM | exact .inr scalMT | exact .inr scalGT) ?_
  cases hg : grt34 l x
  case true =>
    simp -dsimp (maxSteps := 9^9) (disch := first | omega | decide +kernel) only [↓bp0, bd0, bd_NI, reduceIte, Nat.reduceEqDiff, evStore, Nat.reduceAdd, Nat.reduceMul, Int.reduceEq, Int.reduceLT, Int.reduceLE, Nat.reduceLeDiff, List.reduceReplicate, reduceCtorEq, evRange, Nat.reduceLT, retQ, resL, finL, newL, flat, tupOf, List.toList_toArray, Tryz.f4, hg]
    exact leT_one .rfl' (by simp)
  obtain ⟨hz, hn, hx40, hb40⟩ := grt34_no hg
  try simp -dsimp (maxSteps := 9^9) (disch := first | omega | decide +kernel) only [↓bp0, bd0, bd_NI, reduceIte, Nat.reduceEqDiff, evStore, Nat.reduceAdd, Nat.reduceMul, Int.reduceEq, Int.reduceLT, Int.reduceLE, Nat.reduceLeDiff, List.reduceReplicate, reduceCtorEq, evRange, Nat.reduceLT, hg]
  refine CallQ.imm (r_mCheck l x hz hn hx40 hb40) (by rfl) (by first | rfl | (simp -dsimp (maxSteps := 9^9) (disch := first | omega | decide +kernel) only [↓bp0, bd0, bd_NI, reduceIte, Nat.reduceEqDiff, evStore, Nat.reduceAdd, Nat.reduceMul, Int.reduceEq, Int.reduceLT, Int.reduceLE, Nat.reduceLeDiff, List.reduceReplicate, reduceCtorEq, evRange, Nat.reduceLT, drcs, drc, flat]; done) | simp -dsimp [evl, drcs, drc, flat, i64, u32, bl, encL, encB, encLL]) (by first | exact .inl rfl | exact .inr rfl | exact .inr scalB | exact .inr scalI | exact .inr scalT | exact .inr scalM | exact .inr scalMT | exact .inr scalGT) ?_
  cases h0 : decide (mchk l x = 0)
  · simp -dsimp (maxSteps := 9^9) (disch := first | omega | decide +kernel) only [↓bp0, bd0, bd_NI, reduceIte, Nat.reduceEqDiff, evStore, Nat.reduceAdd, Nat.reduceMul, Int.reduceEq, Int.reduceLT, Int.reduceLE, Nat.reduceLeDiff, List.reduceReplicate, reduceCtorEq, evRange, Nat.reduceLT, retQ, resL, finL, newL, flat, tupOf, List.toList_toArray, Tryz.f4, h0]
    exact leT_one .rfl' (by simp)
  have h0' := of_decide_eq_true h0
  have hok := lok_of (mchk_zero h0').1
  have hGe : gapR l x = gapL l x := by rw [gapR, if_neg (by rw [Decidable.not_not]; exact h0')]
  have hGl : (gapL l x).length ≤ 2^20 := gapL_len h0'
  have hGo : ∀ g ∈ gapL l x, GpOk g := fun g hg => gapL_ok h0' hg
  have hsum := sumS_tot (names_nodup hok) (gapL l x) fun g hg => (gapL_wgt h0' hg).2
  have hse := scr_empty h0'
  have hz0 := wst_zero h0'
  have hle := hok.vok.le8
  have hms : ∀ (i : Nat) b, l.brs[i]? = some b → mscore l x b.name = (scr (gapL l x) b.name, 0) := fun i b hb => by
    rw [mscore, if_neg (by rw [Decidable.not_not]; exact h0'), if_neg]
    rw [(tok_fits hok.fits).uniq hb]; omega
  have hwo : mworst l x = if gapL l x = [] then (⟨#[]⟩, 0, 6) else (wst (gapL l x) l.brs, scr (gapL l x) (wst (gapL l x) l.brs), 0) := by
    rw [mworst, if_neg (by rw [Decidable.not_not]; exact h0')]
  have c1 := m_Gaps l x hz hx40 hb40
  have c2 := m_Worst l x hz hx40 hb40
  have c3 := fun b => m_Score l x b hz hx40 hb40
  rw [hGe] at c1
  rw [hwo] at c2
  revert hGl hGo hsum hse hz0 hms c1 c2
  generalize gapL l x = G
  intro hGl hGo hsum hse hz0 hms c1 c2
  have htb := tot_bd G hGo
  obtain ⟨W, M, F, hW, hM, hF⟩ : ∃ (W : Str) (M F : Int), (if G = [] then ((⟨#[]⟩ : Str), (0 : Int), (6 : Int)) else (wst G l.brs, scr G (wst G l.brs), 0)) = (W, M, F) ∧ (∀ b ∈ l.brs, F = 0 → scr G b.name ≤ M) ∧ ((G ≠ [] ∧ F = 0 ∧ fstN G M l.brs = W) ∨ (G = [] ∧ F = 6)) := by
    by_cases e : G = []
    · exact ⟨_, _, _, if_pos e, ⟨fun _ _ h => absurd h (by decide), .inr ⟨e, rfl⟩⟩⟩
    · refine ⟨_, _, _, if_neg e, ⟨fun b hb _ => wst_max b hb, .inl ⟨e, rfl, ?_⟩⟩⟩
      have hp : scr G (wst G l.brs) ≠ 0 := fun h => e (hz0.1 h)
      have h1 := (wst_max0 (G := G) l.brs ⟨#[]⟩).1
      rw [hse] at h1
      have h2 : 0 ≤ scr G (wst G l.brs) := h1
      have := (fst_wst hse (M := scr G (wst G l.brs)) (by omega) l.brs (fun b hb => wst_max b hb) l.brs.length).2
      rw [List.take_length, if_pos rfl] at this
      exact this
  rw [hW] at c2
  simp only at c2
  try simp -dsimp (maxSteps := 9^9) (disch := first | omega | decide +kernel) only [↓bp0, bd0, bd_NI, reduceIte, Nat.reduceEqDiff, evStore, Nat.reduceAdd, Nat.reduceMul, Int.reduceEq, Int.reduceLT, Int.reduceLE, Nat.reduceLeDiff, List.reduceReplicate, reduceCtorEq, evRange, Nat.reduceLT, h0]
  refine CallQ.imm (c1) (by rfl) (by first | rfl | (simp -dsimp (maxSteps := 9^9) (disch := first | omega | decide +kernel) only [↓bp0, bd0, bd_NI, reduceIte, Nat.reduceEqDiff, evStore, Nat.reduceAdd, Nat.reduceMul, Int.reduceEq, Int.reduceLT, Int.reduceLE, Nat.reduceLeDiff, List.reduceReplicate, reduceCtorEq, evRange, Nat.reduceLT, drcs, drc, flat]; done) | simp -dsimp [evl, drcs, drc, flat, i64, u32, bl, encL, encB, encLL]) (by first | exact .inl rfl | exact .inr rfl | exact .inr scalB | exact .inr scalI | exact .inr scalT | exact .inr scalM | exact .inr scalMT | exact .inr scalGT) ?_
  try simp -dsimp (maxSteps := 9^9) (disch := first | omega | decide +kernel) only [↓bp0, bd0, bd_NI, reduceIte, Nat.reduceEqDiff, evStore, Nat.reduceAdd, Nat.reduceMul, Int.reduceEq, Int.reduceLT, Int.reduceLE, Nat.reduceLeDiff, List.reduceReplicate, reduceCtorEq, evRange, Nat.reduceLT, newGps, h0']
  refine CallQ.imm (c2) (by rfl) (by first | rfl | (simp -dsimp (maxSteps := 9^9) (disch := first | omega | decide +kernel) only [↓bp0, bd0, bd_NI, reduceIte, Nat.reduceEqDiff, evStore, Nat.reduceAdd, Nat.reduceMul, Int.reduceEq, Int.reduceLT, Int.reduceLE, Nat.reduceLeDiff, List.reduceReplicate, reduceCtorEq, evRange, Nat.reduceLT, drcs, drc, flat]; done) | simp -dsimp [evl, drcs, drc, flat, i64, u32, bl, encL, encB, encLL]) (by first | exact .inl rfl | exact .inr rfl | exact .inr scalB | exact .inr scalI | exact .inr scalT | exact .inr scalM | exact .inr scalMT | exact .inr scalGT) ?_
  have hGn : decide ((0 : Int) < (G.length : Int)) = decide (F = 0) := by
    rcases hF with ⟨h1, h2, _⟩ | ⟨h1, h2⟩
    · have := List.length_pos_iff.2 h1
      rw [h2]; simp; omega
    · rw [h1, h2]; rfl
  have hF06 : F = 0 ∨ F = 6 := by rcases hF with ⟨_, h, _⟩ | ⟨_, h⟩ <;> omega
  have hlast : F = 0 → fstN G M l.brs = W := fun h => by rcases hF with ⟨_, _, h2⟩ | ⟨_, h2⟩; exact h2; omega
  have hwr1 : ∀ i g, G[i]? = some g → IntKind.i64.wrap (tot (G.take i) + g.wgt) = tot (G.take (i + 1)) := fun i g hg => by
    rw [take_succ hg, tot_snoc]
    refine IntWalk.i64_in _ ?_
    have h1 := tot_bd (G.take i) fun q hq => hGo q (List.mem_of_mem_take hq)
    have h2 := (hGo g (List.mem_of_getElem? hg)).wgt
    rw [List.length_take] at h1
    have : (9 : Int) * ((min i G.length : Nat) : Int) ≤ 9 * 2^20 := by
      have : min i G.length ≤ 2^20 := by omega
      omega
    omega
  have hsb : ∀ s : Str, 0 ≤ scr G s ∧ scr G s ≤ 9 * 2^20 := fun s => by
    have := scr_bd (s := s) G fun q hq => (hGo q hq).wgt
    omega
  have hub : ∀ (i : Nat), i ≤ 8 → 0 ≤ sumS G (l.brs.take i) ∧ sumS G (l.brs.take i) ≤ 9 * 2^20 * (i : Int) := fun i => by
    induction i with
    | zero => intro _; simp [sumS]
    | succ n ih =>
      intro hn
      have h1 := ih (by omega)
      by_cases h2 : n < l.brs.length
      · rw [take_succ (List.getElem?_eq_getElem h2), sumS_snoc]
        have := hsb (l.brs[n]).name
        omega
      · rw [List.take_of_length_le (by omega)]
        rw [List.take_of_length_le (by omega)] at h1
        omega
  have hwr2 : ∀ i b, l.brs[i]? = some b → IntKind.i64.wrap (sumS G (l.brs.take i) + scr G b.name) = sumS G (l.brs.take (i + 1)) := fun i b hb => by
    have hi : i < l.brs.length := (List.getElem?_eq_some_iff.1 hb).1
    have h1 := hub (i + 1) (by omega)
    rw [take_succ hb, sumS_snoc] at h1 ⊢
    exact IntWalk.i64_in _ (by omega)
  have hbm : l.brs.length ≤ 9223372036854775807 := by omega
  cases hF0 : decide (F = 0)
  all_goals
    rw [hF0] at hGn
    have hF6 : decide (F = 6) = !(decide (F = 0)) := by rcases hF06 with h | h <;> rw [h] <;> rfl
    rw [hF0] at hF6
    simp only [Bool.not_true, Bool.not_false] at hF6
    try simp -dsimp (maxSteps := 9^9) (disch := first | omega | decide +kernel) only [↓bp0, bd0, bd_NI, reduceIte, Nat.reduceEqDiff, evStore, Nat.reduceAdd, Nat.reduceMul, Int.reduceEq, Int.reduceLT, Int.reduceLE, Nat.reduceLeDiff, List.reduceReplicate, reduceCtorEq, evRange, Nat.reduceLT, hF0, hF6, hGn, h0', decide_true, List.length_map, newGps, bneq]
    refine LoopQ.rule (fun m st => ∃ (i : Nat), i ≤ G.length ∧ m = G.length - i ∧
      st = ⟨mkE [(1, encFxs x), (2, .ptr 0 0 0 0), (5, bl true), (6, encGps G), (8, str W), (9, i64 M), (10, i64 F), (11, i64 (tot (G.take i))), (12, i64 0), (13, str ⟨#[]⟩), (14, i64 i)],
        mkS [(0, .row 0 3 [[encKws l.known, encBrs l.brs, encEvss l.evs]] false)], 1⟩) _ _ (weak_of ?_)
      ⟨0, by omega, rfl, rfl⟩ ?_
    · first | (simp -dsimp (maxSteps := 9^9) (disch := first | omega | decide +kernel) only [↓bp0, bd0, bd_NI, reduceIte, Nat.reduceEqDiff, evStore, Nat.reduceAdd, Nat.reduceMul, Int.reduceEq, Int.reduceLT, Int.reduceLE, Nat.reduceLeDiff, List.reduceReplicate, reduceCtorEq, evRange, Nat.reduceLT, encGps, tot]; done) | simp -dsimp [evl, putN, i64, u32, bl, encL, encB, encLL, encGps, tot]
    rintro m st ⟨i, hi, rfl, rfl⟩
    try simp -dsimp (maxSteps := 9^9) (disch := first | omega | decide +kernel) only [↓bp0, bd0, bd_NI, reduceIte, Nat.reduceEqDiff, evStore, Nat.reduceAdd, Nat.reduceMul, Int.reduceEq, Int.reduceLT, Int.reduceLE, Nat.reduceLeDiff, List.reduceReplicate, reduceCtorEq, evRange, Nat.reduceLT, encGps, List.length_map]
    refine onC_nlt (fun h2 => ?_) (fun h2 => ?_)
    · obtain ⟨g, hg, hgm⟩ := get_of_lt h2
      have hw := hwr1 i g hg
      try simp -dsimp (maxSteps := 9^9) (disch := first | omega | decide +kernel) only [↓bp0, bd0, bd_NI, reduceIte, Nat.reduceEqDiff, evStore, Nat.reduceAdd, Nat.reduceMul, Int.reduceEq, Int.reduceLT, Int.reduceLE, Nat.reduceLeDiff, List.reduceReplicate, reduceCtorEq, evRange, Nat.reduceLT, hg, hw, encGps]
      refine ⟨_, _, ?_, weak_of ?_, i + 1, h2, rfl, rfl⟩
      · omega
      · first | (simp -dsimp (maxSteps := 9^9) (disch := first | omega | decide +kernel) only [↓bp0, bd0, bd_NI, reduceIte, Nat.reduceEqDiff, evStore, Nat.reduceAdd, Nat.reduceMul, Int.reduceEq, Int.reduceLT, Int.reduceLE, Nat.reduceLeDiff, List.reduceReplicate, reduceCtorEq, evRange, Nat.reduceLT, wrapS h2 (show G.length ≤ 9223372036854775807 by omega), encGps]; done) | simp -dsimp [evl, putN, i64, u32, bl, encL, encB, encLL, wrapS h2 (show G.length ≤ 9223372036854775807 by omega), encGps]
    rw [List.take_of_length_le (by omega)]
    try simp -dsimp (maxSteps := 9^9) (disch := first | omega | decide +kernel) only [↓bp0, bd0, bd_NI, reduceIte, Nat.reduceEqDiff, evStore, Nat.reduceAdd, Nat.reduceMul, Int.reduceEq, Int.reduceLT, Int.reduceLE, Nat.reduceLeDiff, List.reduceReplicate, reduceCtorEq, evRange, Nat.reduceLT]
    refine LoopQ.rule (fun m st => ∃ (i : Nat), i ≤ l.brs.length ∧ m = l.brs.length - i ∧
      st = ⟨mkE [(1, encFxs x), (2, .ptr 0 0 0 0), (5, bl true), (8, str W), (9, i64 M), (10, i64 F), (11, i64 (tot G)), (12, i64 (sumS G (l.brs.take i))), (13, str (fstN G M (l.brs.take i))), (15, i64 i)],
        mkS [(0, .row 0 3 [[encKws l.known, encBrs l.brs, encEvss l.evs]] false)], 1⟩) _ _ (weak_of ?_)
      ⟨0, by omega, rfl, rfl⟩ ?_
    · first | (simp -dsimp (maxSteps := 9^9) (disch := first | omega | decide +kernel) only [↓bp0, bd0, bd_NI, reduceIte, Nat.reduceEqDiff, evStore, Nat.reduceAdd, Nat.reduceMul, Int.reduceEq, Int.reduceLT, Int.reduceLE, Nat.reduceLeDiff, List.reduceReplicate, reduceCtorEq, evRange, Nat.reduceLT, sumS, fstN, List.take_zero, List.foldl_nil]; done) | simp -dsimp [evl, putN, i64, u32, bl, encL, encB, encLL, sumS, fstN, List.take_zero, List.foldl_nil]
    rintro m st ⟨i, hi, rfl, rfl⟩
    try simp -dsimp (maxSteps := 9^9) (disch := first | omega | decide +kernel) only [↓bp0, bd0, bd_NI, reduceIte, Nat.reduceEqDiff, evStore, Nat.reduceAdd, Nat.reduceMul, Int.reduceEq, Int.reduceLT, Int.reduceLE, Nat.reduceLeDiff, List.reduceReplicate, reduceCtorEq, evRange, Nat.reduceLT]
    refine onC_nlt (fun h2 => ?_) (fun h2 => ?_)
    · obtain ⟨b, hbx, hbmm⟩ := get_of_lt h2
      have hsc := c3 b.name
      rw [hms i b hbx] at hsc
      simp only at hsc
      have hw := hwr2 i b hbx
      have hn0 : decide (scr G b.name < 0) = false := decide_eq_false (by have := hsb b.name; omega)
      have hfs : fstN G M (l.brs.take (i + 1)) = fstF G M (fstN G M (l.brs.take i)) b := by rw [take_succ hbx, fstN_snoc]
      have hm1 : decide (F = 0) = true → decide (M < scr G b.name) = false := fun h => decide_eq_false (by have := hM b hbmm (of_decide_eq_true h); omega)
      first | have hm2 := hm1 hF0 | have hm2 : (0 : Nat) = 0 := rfl
      try simp -dsimp (maxSteps := 9^9) (disch := first | omega | decide +kernel) only [↓bp0, bd0, bd_NI, reduceIte, Nat.reduceEqDiff, evStore, Nat.reduceAdd, Nat.reduceMul, Int.reduceEq, Int.reduceLT, Int.reduceLE, Nat.reduceLeDiff, List.reduceReplicate, reduceCtorEq, evRange, Nat.reduceLT, hbx]
      first | refine vc_text (by kernel_rfl) ?_ | skip
      try simp -dsimp (maxSteps := 9^9) (disch := first | omega | decide +kernel) only [↓bp0, bd0, bd_NI, reduceIte, Nat.reduceEqDiff, evStore, Nat.reduceAdd, Nat.reduceMul, Int.reduceEq, Int.reduceLT, Int.reduceLE, Nat.reduceLeDiff, List.reduceReplicate, reduceCtorEq, evRange, Nat.reduceLT, hbx]
      refine CallY.imm (hsc) (by rfl) (by first | rfl | (simp -dsimp (maxSteps := 9^9) (disch := first | omega | decide +kernel) only [↓bp0, bd0, bd_NI, reduceIte, Nat.reduceEqDiff, evStore, Nat.reduceAdd, Nat.reduceMul, Int.reduceEq, Int.reduceLT, Int.reduceLE, Nat.reduceLeDiff, List.reduceReplicate, reduceCtorEq, evRange, Nat.reduceLT, drcs, drc, flat]; done) | simp -dsimp [evl, drcs, drc, flat, i64, u32, bl, encL, encB, encLL]) (by first | exact .inl rfl | exact .inr rfl | exact .inr scalB | exact .inr scalI | exact .inr scalT | exact .inr scalM | exact .inr scalMT | exact .inr scalGT) ?_
      generalize fstN G M (l.brs.take i) = w at hfs ⊢
      cases k1 : decide (scr G b.name = M)
      · have e1 : fstN G M (l.brs.take (i + 1)) = w := by rw [hfs, fstF, if_neg (fun h => of_decide_eq_false k1 h.1)]
        try simp -dsimp (maxSteps := 9^9) (disch := first | omega | decide +kernel) only [↓bp0, bd0, bd_NI, reduceIte, Nat.reduceEqDiff, evStore, Nat.reduceAdd, Nat.reduceMul, Int.reduceEq, Int.reduceLT, Int.reduceLE, Nat.reduceLeDiff, List.reduceReplicate, reduceCtorEq, evRange, Nat.reduceLT, hbx, hw, hn0, hF0, hm2, k1]
        refine ⟨_, _, ?_, weak_of ?_, i + 1, h2, rfl, rfl⟩
        · omega
        · first | (simp -dsimp (maxSteps := 9^9) (disch := first | omega | decide +kernel) only [↓bp0, bd0, bd_NI, reduceIte, Nat.reduceEqDiff, evStore, Nat.reduceAdd, Nat.reduceMul, Int.reduceEq, Int.reduceLT, Int.reduceLE, Nat.reduceLeDiff, List.reduceReplicate, reduceCtorEq, evRange, Nat.reduceLT, wrapS h2 hbm, e1]; done) | simp -dsimp [evl, putN, i64, u32, bl, encL, encB, encLL, wrapS h2 hbm, e1]
      · cases k2 : decide (w = ⟨#[]⟩)
        · have e1 : fstN G M (l.brs.take (i + 1)) = w := by rw [hfs, fstF, if_neg (fun h => of_decide_eq_false k2 h.2)]
          try simp -dsimp (maxSteps := 9^9) (disch := first | omega | decide +kernel) only [↓bp0, bd0, bd_NI, reduceIte, Nat.reduceEqDiff, evStore, Nat.reduceAdd, Nat.reduceMul, Int.reduceEq, Int.reduceLT, Int.reduceLE, Nat.reduceLeDiff, List.reduceReplicate, reduceCtorEq, evRange, Nat.reduceLT, hbx, hw, hn0, hF0, hm2, k1, k2]
          refine ⟨_, _, ?_, weak_of ?_, i + 1, h2, rfl, rfl⟩
          · omega
          · first | (simp -dsimp (maxSteps := 9^9) (disch := first | omega | decide +kernel) only [↓bp0, bd0, bd_NI, reduceIte, Nat.reduceEqDiff, evStore, Nat.reduceAdd, Nat.reduceMul, Int.reduceEq, Int.reduceLT, Int.reduceLE, Nat.reduceLeDiff, List.reduceReplicate, reduceCtorEq, evRange, Nat.reduceLT, wrapS h2 hbm, e1]; done) | simp -dsimp [evl, putN, i64, u32, bl, encL, encB, encLL, wrapS h2 hbm, e1]
        · have e1 : fstN G M (l.brs.take (i + 1)) = b.name := by rw [hfs, fstF, if_pos ⟨of_decide_eq_true k1, of_decide_eq_true k2⟩]
          try simp -dsimp (maxSteps := 9^9) (disch := first | omega | decide +kernel) only [↓bp0, bd0, bd_NI, reduceIte, Nat.reduceEqDiff, evStore, Nat.reduceAdd, Nat.reduceMul, Int.reduceEq, Int.reduceLT, Int.reduceLE, Nat.reduceLeDiff, List.reduceReplicate, reduceCtorEq, evRange, Nat.reduceLT, hbx, hw, hn0, hF0, hm2, k1, k2]
          refine ⟨_, _, ?_, weak_of ?_, i + 1, h2, rfl, rfl⟩
          · omega
          · first | (simp -dsimp (maxSteps := 9^9) (disch := first | omega | decide +kernel) only [↓bp0, bd0, bd_NI, reduceIte, Nat.reduceEqDiff, evStore, Nat.reduceAdd, Nat.reduceMul, Int.reduceEq, Int.reduceLT, Int.reduceLE, Nat.reduceLeDiff, List.reduceReplicate, reduceCtorEq, evRange, Nat.reduceLT, hbx, wrapS h2 hbm, e1]; done) | simp -dsimp [evl, putN, i64, u32, bl, encL, encB, encLL, hbx, wrapS h2 hbm, e1]
    · rw [List.take_of_length_le (by omega), hsum]
      first | (have hl2 := hlast (of_decide_eq_true hF0); rw [hl2]) | skip
      simp -dsimp (maxSteps := 9^9) (disch := first | omega | decide +kernel) only [↓bp0, bd0, bd_NI, reduceIte, Nat.reduceEqDiff, evStore, Nat.reduceAdd, Nat.reduceMul, Int.reduceEq, Int.reduceLT, Int.reduceLE, Nat.reduceLeDiff, List.reduceReplicate, reduceCtorEq, evRange, Nat.reduceLT, retQ, resL, finL, newL, flat, tupOf, List.toList_toArray, Tryz.f4, hF0, decide_true]
      exact leT_one .rfl' (by simp)
end Go.Ab
