/- Scores. -/
import Derived.Test.YtgcodedanljhpaaGreatDoorML
set_option linter.unusedSimpArgs false
set_option linter.unusedVariables false
section
set_option maxRecDepth 1000000
set_option maxHeartbeats 8000000
namespace Go.Ab
open Go Go.Proofs Go.Sort
theorem bd_MN : type_of% (And.intro @evNext.eq_1 (And.intro @fld (And.intro @nit (And.intro @nxE (And.intro @ghR (And.intro @ovR (And.intro @evBin_seql (And.intro @evBin_sneq (And.intro @str.eq_1 (And.intro @u8.eq_1 (And.intro @encBrs.eq_1 (And.intro @cBr.eq_1 (And.intro @encLdg.eq_1 (And.intro @encKws.eq_1 (And.intro @cKw.eq_1 (And.intro @encEvss.eq_1 (And.intro @encEvs.eq_1 (And.intro @cEv.eq_1 (And.intro @encMks.eq_1 (And.intro @cMk.eq_1 (And.intro @encStrs.eq_1 (And.intro @encFxs.eq_1 (And.intro @cFx.eq_1 (And.intro @cGp.eq_1 (And.intro @tk2 (And.intro @tk3 (And.intro @List.set_cons_succ.{0} (And.intro @List.getElem?_cons_zero.{0} (And.intro @List.getElem?_cons_succ.{0} (@List.length_set.{0})))))))))))))))))))))))))))))) := And.intro @evNext.eq_1 (And.intro @fld (And.intro @nit (And.intro @nxE (And.intro @ghR (And.intro @ovR (And.intro @evBin_seql (And.intro @evBin_sneq (And.intro @str.eq_1 (And.intro @u8.eq_1 (And.intro @encBrs.eq_1 (And.intro @cBr.eq_1 (And.intro @encLdg.eq_1 (And.intro @encKws.eq_1 (And.intro @cKw.eq_1 (And.intro @encEvss.eq_1 (And.intro @encEvs.eq_1 (And.intro @cEv.eq_1 (And.intro @encMks.eq_1 (And.intro @cMk.eq_1 (And.intro @encStrs.eq_1 (And.intro @encFxs.eq_1 (And.intro @cFx.eq_1 (And.intro @cGp.eq_1 (And.intro @tk2 (And.intro @tk3 (And.intro @List.set_cons_succ.{0} (And.intro @List.getElem?_cons_zero.{0} (And.intro @List.getElem?_cons_succ.{0} (@List.length_set.{0})))))))))))))))))))))))))))))
def scr : List Gp → Str → Int
  | [], _ => 0
  | g :: r, s => (if s = g.br then g.wgt else 0) + scr r s
theorem scr_snoc {g : Gp} {s : Str} : ∀ G : List Gp, scr (G ++ [g]) s = scr G s + if s = g.br then g.wgt else 0
  | [] => by simp [scr]
  | h :: r => by rw [List.cons_append, scr, scr, scr_snoc r]; omega
def hasG (G : List Gp) (s : Str) : Bool := G.any fun g => decide (s = g.br)
theorem scr_no {s : Str} : ∀ G : List Gp, hasG G s = false → scr G s = 0
  | [], _ => rfl
  | g :: r, h => by
    simp only [hasG, List.any_cons, Bool.or_eq_false_iff, decide_eq_false_iff_not] at h
    rw [scr, if_neg h.1, scr_no r h.2]; rfl
theorem scr_bd {s : Str} : ∀ G : List Gp, (∀ g ∈ G, 1 ≤ g.wgt ∧ g.wgt ≤ 9) → 0 ≤ scr G s ∧ scr G s ≤ 9 * (G.length : Int)
  | [], _ => by simp [scr]
  | g :: r, h => by
    have h1 := h g (by simp)
    have h2 := scr_bd (s := s) r fun q hq => h q (by simp [hq])
    rw [scr, List.length_cons]
    split <;> omega
theorem hasG_snoc {G : List Gp} {g : Gp} {s : Str} : hasG (G ++ [g]) s = (hasG G s || decide (s = g.br)) := by simp [hasG, List.any_append]
structure ScM (G : List Gp) (kvs : List (Value × PV × Nat)) : Prop where
  map : MapI kvs fun s => if hasG G s then some (.lit (.int .i64 (scr G s))) else none
  len : kvs.length = 0 ↔ G = []
theorem ScM.nil : ScM [] [] := ⟨fun _ => rfl, by simp⟩
theorem ScM.new {G : List Gp} {kvs : List (Value × PV × Nat)} (h : ScM G kvs) {g : Gp} (n : Nat) (hn : hasG G g.br = false) : ScM (G ++ [g]) (kvs ++ [(.string g.br, .lit (.int .i64 g.wgt), n)]) := by
  refine ⟨fun s => ?_, by simp⟩
  have := (h.map.push (k := g.br) (x := .lit (.int .i64 g.wgt)) (n := n) (by simp [hn])) s
  rw [this]
  simp only [hasG_snoc, scr_snoc]
  by_cases e : s = g.br
  · subst e; simp [hn, scr_no _ hn]
  · simp [e]
theorem ScM.old {G : List Gp} {kvs : List (Value × PV × Nat)} (h : ScM G kvs) {g : Gp} (hn : hasG G g.br = true) : ScM (G ++ [g]) (updP .string (.string g.br) (.lit (.int .i64 (scr G g.br + g.wgt))) kvs) := by
  have hl := updP_len (d := .string) (k := .string g.br) (x := .lit (.int .i64 (scr G g.br + g.wgt))) kvs
  refine ⟨fun s => ?_, ?_⟩
  · have := (h.map.upd (k := g.br) (x := .lit (.int .i64 (scr G g.br + g.wgt))) (p0 := .lit (.int .i64 (scr G g.br))) (by simp [hn])) s
    rw [this]
    simp only [hasG_snoc, scr_snoc]
    by_cases e : s = g.br
    · subst e; simp
    · simp [e]
  · rw [hl, h.len]
    constructor
    · rintro rfl; simp [hasG] at hn
    · intro e; simp at e
theorem gapL_wgt {l : Ldg} {x : List Fx} (h : mchk l x = 0) {g : Gp} (hg : g ∈ gapL l x) : (1 ≤ g.wgt ∧ g.wgt ≤ 9) ∧ ∃ b ∈ l.brs, b.name = g.br := by
  obtain ⟨a, ha, rfl⟩ := List.mem_map.1 hg
  rw [srtG, List.mem_mergeSort, mem_allA] at ha
  obtain ⟨f, hf, _, e⟩ := ha
  have := mchk_fx h hf
  refine ⟨?_, l.brs[a.2.2], List.getElem_mem _, rfl⟩
  rw [e]; simp only [toG, mkA]; omega
theorem gapL_len {l : Ldg} {x : List Fx} (h : mchk l x = 0) : (gapL l x).length ≤ 2^20 := by
  have h1 := (lok_of (mchk_zero h).1).vok.le8
  have h2 := (mchk_zero h).2.1
  rw [gapL, List.length_map, srtG, List.length_mergeSort, allA]
  refine Nat.le_trans (flat_len (m := 30) _ fun i _ => ?_) (by rw [List.length_finRange]; omega)
  rw [List.length_map]
  exact Nat.le_trans (List.length_filter_le _ _) h2
def ScQ (l : Ldg) (x : List Fx) (σ : Store) (nx : Nat) (r : PV) (σ' : Store) (nx' : Nat) : Prop :=
  (mchk l x ≠ 0 ∧ nx ≤ nx' ∧ σ' = σ ∧ r = .tup [.lit (.map none), i64 (mchk l x)]) ∨
  (mchk l x = 0 ∧ ∃ id kvs ck, nx ≤ id ∧ id < nx' ∧ r = .tup [.mp id, i64 0] ∧ σ' = σ.put id (.map kvs ck false) ∧ ScM (gapL l x) kvs)
theorem m_scores (l : Ldg) (x : List Fx) (hz : LSz l) (hx40 : x.length ≤ 2^40) (hb40 : ∀ f ∈ x, f.brs.length ≤ 2^40) (σ : Store) (nx : Nat) : StSpec cx 69 [encLdg l, encFxs x] σ nx (ScQ l x σ nx) := by
  refine StSpec.fresh (by kernel_rfl) fun hfr => ?_
  refine stSpec_of_vc Tryz.func69 rfl (by decide) (by kernel_rfl) (Nat.le_of_ble_eq_true rfl) ?_
  try simp -dsimp (disch := first | omega | decide +kernel) only [↓bp0, bd0, bd_MN, reduceIte, Nat.reduceEqDiff, evStore, Nat.reduceAdd, Nat.reduceMul, Int.reduceEq, Int.reduceLT, Int.reduceLE, Nat.reduceLeDiff, List.reduceReplicate, reduceCtorEq, evRange, Nat.reduceLT, Tryz.f69]
  refine CallQ.imm (m_Gaps l x hz hx40 hb40) (by rfl) (by rfl) (by first | exact .inl rfl | exact .inr rfl | exact .inr scalB | exact .inr scalI | exact .inr scalT | exact .inr scalM | exact .inr scalMT | exact .inr scalGT) ?_
  cases h0 : decide (mchk l x = 0)
  · have h0' := of_decide_eq_false h0
    simp -dsimp (disch := first | omega | decide +kernel) only [↓bp0, bd0, bd_MN, reduceIte, Nat.reduceEqDiff, evStore, Nat.reduceAdd, Nat.reduceMul, Int.reduceEq, Int.reduceLT, Int.reduceLE, Nat.reduceLeDiff, List.reduceReplicate, reduceCtorEq, evRange, Nat.reduceLT, stQ, resL, tupOf, List.toList_toArray, Tryz.f69, newGps, h0]
    exact ⟨σ, nx + 1, weakσ_old hfr (by (try simp -dsimp only [st_put_σ]); repeat (first | exact Agr.rfl' | refine Agr.put ?_ (by omega) | exact Agr.ov (by simp only [geL]; omega))) (by first | exact Nat.le_refl _ | omega), .inl ⟨h0', by omega, rfl, rfl⟩⟩
  have h0' := of_decide_eq_true h0
  have hGe : gapR l x = gapL l x := by rw [gapR, if_neg (by rw [Decidable.not_not]; exact h0')]
  have hGw : ∀ g ∈ gapR l x, 1 ≤ g.wgt ∧ g.wgt ≤ 9 := fun g hg => (gapL_wgt h0' (by rw [← hGe]; exact hg)).1
  have hGl : (gapR l x).length ≤ 2^20 := by rw [hGe]; exact gapL_len h0'
  have hQ : ∀ σ' nx' id kvs ck, nx ≤ id → id < nx' → σ' = σ.put id (.map kvs ck false) → ScM (gapR l x) kvs → ScQ l x σ nx (.tup [.mp id, i64 0]) σ' nx' := fun σ' nx' id kvs ck q1 q2 q3 q4 => .inr ⟨h0', id, kvs, ck, q1, q2, rfl, q3, by rw [← hGe]; exact q4⟩
  revert hGw hGl hQ
  generalize gapR l x = G
  intro hGw hGl hQ
  try simp -dsimp (disch := first | omega | decide +kernel) only [↓bp0, bd0, bd_MN, reduceIte, Nat.reduceEqDiff, evStore, Nat.reduceAdd, Nat.reduceMul, Int.reduceEq, Int.reduceLT, Int.reduceLE, Nat.reduceLeDiff, List.reduceReplicate, reduceCtorEq, evRange, Nat.reduceLT, newGps, h0, evMakeMap]
  refine LoopQ.rule (fun m st => ∃ (i id nx' clock : Nat) (kvs : List (Value × PV × Nat)), i ≤ G.length ∧ nx ≤ id ∧ id < nx' ∧ ScM (G.take i) kvs ∧ m = G.length - i ∧
    st = ⟨mkE [(8, .mp id), (21, encGps G), (22, i64 G.length), (23, i64 i)], σ.put id (.map kvs clock false), nx'⟩) _ _ ?_
    ⟨0, nx + 1, nx + 2, 0, [], by omega, by omega, by omega, .nil, rfl, rfl⟩ ?_
  · refine weak_ofP hfr (by first | (simp -dsimp (disch := first | omega | decide +kernel) only [↓bp0, bd0, bd_MN, reduceIte, Nat.reduceEqDiff, evStore, Nat.reduceAdd, Nat.reduceMul, Int.reduceEq, Int.reduceLT, Int.reduceLE, Nat.reduceLeDiff, List.reduceReplicate, reduceCtorEq, evRange, Nat.reduceLT, encGps, List.length_map]; done) | simp -dsimp [evl, putN, i64, u32, bl, encL, encB, encLL, encGps, List.length_map]) (by first | (simp -dsimp (disch := first | omega | decide +kernel) only [↓bp0, bd0, bd_MN, reduceIte, Nat.reduceEqDiff, evStore, Nat.reduceAdd, Nat.reduceMul, Int.reduceEq, Int.reduceLT, Int.reduceLE, Nat.reduceLeDiff, List.reduceReplicate, reduceCtorEq, evRange, Nat.reduceLT, encGps, List.length_map]; done) | simp -dsimp [evl, putN, i64, u32, bl, encL, encB, encLL, encGps, List.length_map]) (by (try simp -dsimp only [st_put_σ]); repeat (first | exact Agr.rfl' | refine Agr.put ?_ (by omega) | exact Agr.ov (by simp only [geL]; omega))) (by first | (simp -dsimp (disch := first | omega | decide +kernel) only [↓bp0, bd0, bd_MN, reduceIte, Nat.reduceEqDiff, evStore, Nat.reduceAdd, Nat.reduceMul, Int.reduceEq, Int.reduceLT, Int.reduceLE, Nat.reduceLeDiff, List.reduceReplicate, reduceCtorEq, evRange, Nat.reduceLT, encGps, List.length_map]; done) | simp -dsimp [evl, putN, i64, u32, bl, encL, encB, encLL, encGps, List.length_map])
  rintro m st ⟨i, id, nx', clock, kvs, hi, hid, hid2, hM, rfl, rfl⟩
  have hE1_0a : (id = nx') = False := by simp; omega
  have hE1_0b : (nx' = id) = False := by simp; omega
  try simp -dsimp (disch := first | omega | decide +kernel) only [↓bp0, bd0, bd_MN, reduceIte, Nat.reduceEqDiff, evStore, Nat.reduceAdd, Nat.reduceMul, Int.reduceEq, Int.reduceLT, Int.reduceLE, Nat.reduceLeDiff, List.reduceReplicate, reduceCtorEq, evRange, Nat.reduceLT, hE1_0a, hE1_0b]
  refine onC_nlt (fun h2 => ?_) (fun h2 => ?_)
  · obtain ⟨g, hx, hxm⟩ := get_of_lt h2
    have htk := take_succ hx
    have hw := hGw g hxm
    have hfp : findP .string (.string g.br) kvs = some (if hasG (G.take i) g.br then some (.lit (.int .i64 (scr (G.take i) g.br))) else none) := hM.map g.br
    have hsb := scr_bd (s := g.br) (G.take i) fun q hq => hGw q (List.mem_of_mem_take hq)
    rw [List.length_take] at hsb
    have hwr : IntKind.i64.wrap (scr (G.take i) g.br + g.wgt) = scr (G.take i) g.br + g.wgt := IntWalk.i64_in _ (by omega)
    have hwr0 : IntKind.i64.wrap (0 + g.wgt) = g.wgt := by rw [Int.zero_add]; exact IntWalk.i64_in _ (by omega)
    cases hc : hasG (G.take i) g.br
    · rw [hc] at hfp
      simp only [Bool.false_eq_true, if_false] at hfp
      have hM2 := hM.new clock hc
      rw [← htk] at hM2
      try simp -dsimp (disch := first | omega | decide +kernel) only [↓bp0, bd0, bd_MN, reduceIte, Nat.reduceEqDiff, evStore, Nat.reduceAdd, Nat.reduceMul, Int.reduceEq, Int.reduceLT, Int.reduceLE, Nat.reduceLeDiff, List.reduceReplicate, reduceCtorEq, evRange, Nat.reduceLT, hx, encGps, evLookup, evMapPut, keyS, hfp, hwr0, hE1_0a, hE1_0b]
      refine ⟨_, _, ?_, ?_, i + 1, id, nx' + 1, clock + 1, _, h2, hid, by omega, hM2, rfl, rfl⟩
      · omega
      · refine weak_ofP hfr (by first | (simp -dsimp (disch := first | omega | decide +kernel) only [↓bp0, bd0, bd_MN, reduceIte, Nat.reduceEqDiff, evStore, Nat.reduceAdd, Nat.reduceMul, Int.reduceEq, Int.reduceLT, Int.reduceLE, Nat.reduceLeDiff, List.reduceReplicate, reduceCtorEq, evRange, Nat.reduceLT, wrapS h2 (show G.length ≤ 9223372036854775807 by omega), encGps, hE1_0a, hE1_0b]; done) | simp -dsimp [evl, putN, i64, u32, bl, encL, encB, encLL, wrapS h2 (show G.length ≤ 9223372036854775807 by omega), encGps, hE1_0a, hE1_0b]) (by first | (simp -dsimp (disch := first | omega | decide +kernel) only [↓bp0, bd0, bd_MN, reduceIte, Nat.reduceEqDiff, evStore, Nat.reduceAdd, Nat.reduceMul, Int.reduceEq, Int.reduceLT, Int.reduceLE, Nat.reduceLeDiff, List.reduceReplicate, reduceCtorEq, evRange, Nat.reduceLT, wrapS h2 (show G.length ≤ 9223372036854775807 by omega), encGps, hE1_0a, hE1_0b]; done) | simp -dsimp [evl, putN, i64, u32, bl, encL, encB, encLL, wrapS h2 (show G.length ≤ 9223372036854775807 by omega), encGps, hE1_0a, hE1_0b]) (by (try simp -dsimp only [st_put_σ]); repeat (first | exact Agr.rfl' | refine Agr.put ?_ (by omega) | exact Agr.ov (by simp only [geL]; omega))) (by first | (simp -dsimp (disch := first | omega | decide +kernel) only [↓bp0, bd0, bd_MN, reduceIte, Nat.reduceEqDiff, evStore, Nat.reduceAdd, Nat.reduceMul, Int.reduceEq, Int.reduceLT, Int.reduceLE, Nat.reduceLeDiff, List.reduceReplicate, reduceCtorEq, evRange, Nat.reduceLT, wrapS h2 (show G.length ≤ 9223372036854775807 by omega), encGps, hE1_0a, hE1_0b]; done) | simp -dsimp [evl, putN, i64, u32, bl, encL, encB, encLL, wrapS h2 (show G.length ≤ 9223372036854775807 by omega), encGps, hE1_0a, hE1_0b])
    · rw [hc] at hfp
      simp only [if_true] at hfp
      have hM2 := hM.old hc
      rw [← htk] at hM2
      try simp -dsimp (disch := first | omega | decide +kernel) only [↓bp0, bd0, bd_MN, reduceIte, Nat.reduceEqDiff, evStore, Nat.reduceAdd, Nat.reduceMul, Int.reduceEq, Int.reduceLT, Int.reduceLE, Nat.reduceLeDiff, List.reduceReplicate, reduceCtorEq, evRange, Nat.reduceLT, hx, encGps, evLookup, evMapPut, keyS, hfp, hwr, hE1_0a, hE1_0b]
      refine ⟨_, _, ?_, ?_, i + 1, id, nx' + 1, clock, _, h2, hid, by omega, hM2, rfl, rfl⟩
      · omega
      · refine weak_ofP hfr (by first | (simp -dsimp (disch := first | omega | decide +kernel) only [↓bp0, bd0, bd_MN, reduceIte, Nat.reduceEqDiff, evStore, Nat.reduceAdd, Nat.reduceMul, Int.reduceEq, Int.reduceLT, Int.reduceLE, Nat.reduceLeDiff, List.reduceReplicate, reduceCtorEq, evRange, Nat.reduceLT, wrapS h2 (show G.length ≤ 9223372036854775807 by omega), encGps, hE1_0a, hE1_0b]; done) | simp -dsimp [evl, putN, i64, u32, bl, encL, encB, encLL, wrapS h2 (show G.length ≤ 9223372036854775807 by omega), encGps, hE1_0a, hE1_0b]) (by first | (simp -dsimp (disch := first | omega | decide +kernel) only [↓bp0, bd0, bd_MN, reduceIte, Nat.reduceEqDiff, evStore, Nat.reduceAdd, Nat.reduceMul, Int.reduceEq, Int.reduceLT, Int.reduceLE, Nat.reduceLeDiff, List.reduceReplicate, reduceCtorEq, evRange, Nat.reduceLT, wrapS h2 (show G.length ≤ 9223372036854775807 by omega), encGps, hE1_0a, hE1_0b]; done) | simp -dsimp [evl, putN, i64, u32, bl, encL, encB, encLL, wrapS h2 (show G.length ≤ 9223372036854775807 by omega), encGps, hE1_0a, hE1_0b]) (by (try simp -dsimp only [st_put_σ]); repeat (first | exact Agr.rfl' | refine Agr.put ?_ (by omega) | exact Agr.ov (by simp only [geL]; omega))) (by first | (simp -dsimp (disch := first | omega | decide +kernel) only [↓bp0, bd0, bd_MN, reduceIte, Nat.reduceEqDiff, evStore, Nat.reduceAdd, Nat.reduceMul, Int.reduceEq, Int.reduceLT, Int.reduceLE, Nat.reduceLeDiff, List.reduceReplicate, reduceCtorEq, evRange, Nat.reduceLT, wrapS h2 (show G.length ≤ 9223372036854775807 by omega), encGps, hE1_0a, hE1_0b]; done) | simp -dsimp [evl, putN, i64, u32, bl, encL, encB, encLL, wrapS h2 (show G.length ≤ 9223372036854775807 by omega), encGps, hE1_0a, hE1_0b])
  · rw [List.take_of_length_le (by omega)] at hM
    simp -dsimp (disch := first | omega | decide +kernel) only [↓bp0, bd0, bd_MN, reduceIte, Nat.reduceEqDiff, evStore, Nat.reduceAdd, Nat.reduceMul, Int.reduceEq, Int.reduceLT, Int.reduceLE, Nat.reduceLeDiff, List.reduceReplicate, reduceCtorEq, evRange, Nat.reduceLT, stQ, resL, tupOf, List.toList_toArray, Tryz.f69]
    exact ⟨_, _, .refl _, hQ _ _ id kvs clock hid hid2 rfl hM⟩
end Go.Ab
end

section
/- A score, the worst score, in both. -/
set_option maxRecDepth 1000000
set_option maxHeartbeats 8000000
namespace Go.Ab
open Go Go.Proofs Go.Sort
def mscore (l : Ldg) (x : List Fx) (b : Str) : Int × Int := if mchk l x ≠ 0 then (0, mchk l x) else if idx l.brs b < 0 then (0, 6) else (scr (gapL l x) b, 0)
abbrev wstF (G : List Gp) (w : Str) (b : Br) : Str := if scr G w < scr G b.name then b.name else w
def wst (G : List Gp) (bs : List Br) : Str := bs.foldl (wstF G) ⟨#[]⟩
def mworst (l : Ldg) (x : List Fx) : Str × Int × Int := if mchk l x ≠ 0 then (⟨#[]⟩, 0, mchk l x) else if gapL l x = [] then (⟨#[]⟩, 0, 6) else (wst (gapL l x) l.brs, scr (gapL l x) (wst (gapL l x) l.brs), 0)
theorem wst_snoc {G : List Gp} {bs : List Br} {b : Br} : wst G (bs ++ [b]) = wstF G (wst G bs) b := by rw [wst, List.foldl_append]; rfl
end Go.Ab
end
