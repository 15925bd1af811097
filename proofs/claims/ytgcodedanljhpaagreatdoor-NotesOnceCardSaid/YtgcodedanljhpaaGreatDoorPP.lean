/- Classes told once; what is gone one way is news the other way. -/
import Derived.Test.YtgcodedanljhpaaGreatDoorPN
set_option linter.unusedSimpArgs false
set_option linter.unusedVariables false
section
set_option maxRecDepth 1000000
set_option maxHeartbeats 8000000
namespace Go.Ab
open Go Go.Proofs Go.Sort
theorem bd_PO : type_of% (And.intro @evNext.eq_1 (And.intro @fld (And.intro @nit (And.intro @nxE (And.intro @ghR (And.intro @ovR (And.intro @evBin_seql (And.intro @evBin_sneq (And.intro @str.eq_1 (And.intro @u8.eq_1 (And.intro @encBrs.eq_1 (And.intro @cBr.eq_1 (And.intro @encLdg.eq_1 (And.intro @encKws.eq_1 (And.intro @cKw.eq_1 (And.intro @encEvss.eq_1 (And.intro @encEvs.eq_1 (And.intro @cEv.eq_1 (And.intro @encMks.eq_1 (And.intro @cMk.eq_1 (And.intro @encStrs.eq_1 (And.intro @tk2 (And.intro @tk3 (And.intro @List.set_cons_succ.{0} (And.intro @List.getElem?_cons_zero.{0} (And.intro @List.getElem?_cons_succ.{0} (@List.length_set.{0}))))))))))))))))))))))))))) := And.intro @evNext.eq_1 (And.intro @fld (And.intro @nit (And.intro @nxE (And.intro @ghR (And.intro @ovR (And.intro @evBin_seql (And.intro @evBin_sneq (And.intro @str.eq_1 (And.intro @u8.eq_1 (And.intro @encBrs.eq_1 (And.intro @cBr.eq_1 (And.intro @encLdg.eq_1 (And.intro @encKws.eq_1 (And.intro @cKw.eq_1 (And.intro @encEvss.eq_1 (And.intro @encEvs.eq_1 (And.intro @cEv.eq_1 (And.intro @encMks.eq_1 (And.intro @cMk.eq_1 (And.intro @encStrs.eq_1 (And.intro @tk2 (And.intro @tk3 (And.intro @List.set_cons_succ.{0} (And.intro @List.getElem?_cons_zero.{0} (And.intro @List.getElem?_cons_succ.{0} (@List.length_set.{0}))))))))))))))))))))))))))
theorem v_once (L : List Nt) (cs : List Int) (hl : L.length ≤ 2^30) (hlen : L.length = cs.length) (hin : ∀ n ∈ L, n.cls ∈ cs) (hu : L.Pairwise fun a b => a.cls ≠ b.cls) : CallSpec cx 38 [encNts L, encL cs] (bl true) := by
  have hne : decide (((L.length : Nat) : Int) = ((cs.length : Nat) : Int)) = true := decide_eq_true (by rw [hlen])
  rw [List.pairwise_iff_getElem] at hu
  refine callSpec_of_vc Tryz.func38 rfl (by decide) (by kernel_rfl) (Nat.le_of_ble_eq_true rfl) ?_
  try simp -dsimp (maxSteps := 9^9) (disch := first | omega | decide +kernel) only [↓bp0, bd0, bd_PO, reduceIte, Nat.reduceEqDiff, evStore, Nat.reduceAdd, Nat.reduceMul, Int.reduceEq, Int.reduceLT, Int.reduceLE, Nat.reduceLeDiff, List.reduceReplicate, reduceCtorEq, evRange, cNt, tk4, Nat.reduceLT, Tryz.f38, encNts, encL, List.length_map, hne]
  refine LoopQ.rule (fun m st => ∃ (i : Nat), i ≤ L.length ∧ m = L.length - i ∧
    st = ⟨mkE [(0, encNts L), (1, encL cs), (5, i64 i)], mkS [], 0⟩) _ _ (weak_of ?_)
    ⟨0, by omega, rfl, rfl⟩ ?_
  · first | (simp -dsimp (maxSteps := 9^9) (disch := first | omega | decide +kernel) only [↓bp0, bd0, bd_PO, reduceIte, Nat.reduceEqDiff, evStore, Nat.reduceAdd, Nat.reduceMul, Int.reduceEq, Int.reduceLT, Int.reduceLE, Nat.reduceLeDiff, List.reduceReplicate, reduceCtorEq, evRange, cNt, tk4, Nat.reduceLT, encNts, encL]; done) | simp -dsimp [evl, putN, i64, u32, bl, encL, encB, encLL, encNts, encL]
  rintro m st ⟨i, hi, rfl, rfl⟩
  try simp -dsimp (maxSteps := 9^9) (disch := first | omega | decide +kernel) only [↓bp0, bd0, bd_PO, reduceIte, Nat.reduceEqDiff, evStore, Nat.reduceAdd, Nat.reduceMul, Int.reduceEq, Int.reduceLT, Int.reduceLE, Nat.reduceLeDiff, List.reduceReplicate, reduceCtorEq, evRange, cNt, tk4, Nat.reduceLT, encNts, encL, List.length_map]
  refine onC_nlt (fun h2 => ?_) (fun h2 => ?_)
  · obtain ⟨n, hx, hxm⟩ := get_of_lt h2
    have hd : decide (n.cls ∈ cs) = true := decide_eq_true (hin n hxm)
    have cH := v_has cs n.cls (by omega)
    rw [hd] at cH
    try simp -dsimp (maxSteps := 9^9) (disch := first | omega | decide +kernel) only [↓bp0, bd0, bd_PO, reduceIte, Nat.reduceEqDiff, evStore, Nat.reduceAdd, Nat.reduceMul, Int.reduceEq, Int.reduceLT, Int.reduceLE, Nat.reduceLeDiff, List.reduceReplicate, reduceCtorEq, evRange, cNt, tk4, Nat.reduceLT, hx, encNts, encL]
    refine CallQ.imm (cH) (by rfl) (by first | rfl | (simp -dsimp (maxSteps := 9^9) (disch := first | omega | decide +kernel) only [↓bp0, bd0, bd_PO, reduceIte, Nat.reduceEqDiff, evStore, Nat.reduceAdd, Nat.reduceMul, Int.reduceEq, Int.reduceLT, Int.reduceLE, Nat.reduceLeDiff, List.reduceReplicate, reduceCtorEq, evRange, cNt, tk4, Nat.reduceLT, drcs, drc, flat, encL]; done) | simp -dsimp [evl, drcs, drc, flat, i64, u32, bl, encL, encB, encLL]) (by first | exact .inl rfl | exact .inr rfl | exact .inr scalB | exact .inr scalI | exact .inr scalT | exact .inr scalM | exact .inr scalMT | exact .inr scalE | exact .inr scalET | exact .inr scalN | exact .inr scalNT) ?_
    try simp -dsimp (maxSteps := 9^9) (disch := first | omega | decide +kernel) only [↓bp0, bd0, bd_PO, reduceIte, Nat.reduceEqDiff, evStore, Nat.reduceAdd, Nat.reduceMul, Int.reduceEq, Int.reduceLT, Int.reduceLE, Nat.reduceLeDiff, List.reduceReplicate, reduceCtorEq, evRange, cNt, tk4, Nat.reduceLT, uUn, Option.bind_some, Bool.not_true]
    refine LoopQ.rule (fun m st => ∃ (k : Nat), k ≤ i ∧ m = i - k ∧
      st = ⟨mkE [(0, encNts L), (1, encL cs), (5, i64 i), (6, i64 k)], mkS [], 0⟩) _ _ (weak_of ?_)
      ⟨0, by omega, rfl, rfl⟩ ?_
    · first | (simp -dsimp (maxSteps := 9^9) (disch := first | omega | decide +kernel) only [↓bp0, bd0, bd_PO, reduceIte, Nat.reduceEqDiff, evStore, Nat.reduceAdd, Nat.reduceMul, Int.reduceEq, Int.reduceLT, Int.reduceLE, Nat.reduceLeDiff, List.reduceReplicate, reduceCtorEq, evRange, cNt, tk4, Nat.reduceLT, encNts, encL]; done) | simp -dsimp [evl, putN, i64, u32, bl, encL, encB, encLL, encNts, encL]
    rintro m st ⟨k, hk, rfl, rfl⟩
    try simp -dsimp (maxSteps := 9^9) (disch := first | omega | decide +kernel) only [↓bp0, bd0, bd_PO, reduceIte, Nat.reduceEqDiff, evStore, Nat.reduceAdd, Nat.reduceMul, Int.reduceEq, Int.reduceLT, Int.reduceLE, Nat.reduceLeDiff, List.reduceReplicate, reduceCtorEq, evRange, cNt, tk4, Nat.reduceLT, encNts, encL, List.length_map]
    refine onC_nlt (fun h3 => ?_) (fun h3 => ?_)
    · obtain ⟨q, hq, hqm⟩ := get_of_lt (show k < L.length by omega)
      have hne2 : decide (q.cls = n.cls) = false := decide_eq_false (by
        have := hu k i (by omega) h2 h3
        rw [List.getElem?_eq_getElem (by omega)] at hq hx
        cases hq; cases hx
        exact this)
      try simp -dsimp (maxSteps := 9^9) (disch := first | omega | decide +kernel) only [↓bp0, bd0, bd_PO, reduceIte, Nat.reduceEqDiff, evStore, Nat.reduceAdd, Nat.reduceMul, Int.reduceEq, Int.reduceLT, Int.reduceLE, Nat.reduceLeDiff, List.reduceReplicate, reduceCtorEq, evRange, cNt, tk4, Nat.reduceLT, hx, hq, encNts, hne2]
      refine ⟨_, _, ?_, weak_of ?_, k + 1, h3, rfl, rfl⟩
      · omega
      · first | (simp -dsimp (maxSteps := 9^9) (disch := first | omega | decide +kernel) only [↓bp0, bd0, bd_PO, reduceIte, Nat.reduceEqDiff, evStore, Nat.reduceAdd, Nat.reduceMul, Int.reduceEq, Int.reduceLT, Int.reduceLE, Nat.reduceLeDiff, List.reduceReplicate, reduceCtorEq, evRange, cNt, tk4, Nat.reduceLT, wrapS h3 (show i ≤ 9223372036854775807 by omega), encNts, encL]; done) | simp -dsimp [evl, putN, i64, u32, bl, encL, encB, encLL, wrapS h3 (show i ≤ 9223372036854775807 by omega), encNts, encL]
    · try simp -dsimp (maxSteps := 9^9) (disch := first | omega | decide +kernel) only [↓bp0, bd0, bd_PO, reduceIte, Nat.reduceEqDiff, evStore, Nat.reduceAdd, Nat.reduceMul, Int.reduceEq, Int.reduceLT, Int.reduceLE, Nat.reduceLeDiff, List.reduceReplicate, reduceCtorEq, evRange, cNt, tk4, Nat.reduceLT]
      refine ⟨_, _, ?_, weak_of ?_, i + 1, h2, rfl, rfl⟩
      · omega
      · first | (simp -dsimp (maxSteps := 9^9) (disch := first | omega | decide +kernel) only [↓bp0, bd0, bd_PO, reduceIte, Nat.reduceEqDiff, evStore, Nat.reduceAdd, Nat.reduceMul, Int.reduceEq, Int.reduceLT, Int.reduceLE, Nat.reduceLeDiff, List.reduceReplicate, reduceCtorEq, evRange, cNt, tk4, Nat.reduceLT, wrapS h2 (show L.length ≤ 9223372036854775807 by omega), encNts, encL]; done) | simp -dsimp [evl, putN, i64, u32, bl, encL, encB, encLL, wrapS h2 (show L.length ≤ 9223372036854775807 by omega), encNts, encL]
  · simp -dsimp (maxSteps := 9^9) (disch := first | omega | decide +kernel) only [↓bp0, bd0, bd_PO, reduceIte, Nat.reduceEqDiff, evStore, Nat.reduceAdd, Nat.reduceMul, Int.reduceEq, Int.reduceLT, Int.reduceLE, Nat.reduceLeDiff, List.reduceReplicate, reduceCtorEq, evRange, cNt, tk4, Nat.reduceLT, retQ, resL, finL, newL, flat, tupOf, List.toList_toArray, Tryz.f38]
    exact leT_one .rfl' (by simp)
/-! ### classes -/
def clsN (L : List Nt) : List Int := L.map (·.cls)
theorem mem_lastsF {f : Str → Int} {v : List Ev} {cs : List Int} (c : Int) : c ∈ clsN (lastsF f v cs) ↔ c ∈ cs ∧ ∃ e ∈ v, f e.chg = c := by
  unfold clsN
  constructor
  · intro h
    obtain ⟨t, ht, rfl⟩ := List.mem_map.1 h
    obtain ⟨i, hi, rfl⟩ := List.mem_map.1 ht
    have hs := (List.mem_filter.1 hi).2
    unfold selB at hs
    cases hx : v[i]? with
    | none => rw [hx] at hs; cases hs
    | some e =>
      rw [hx] at hs
      simp only [Bool.and_eq_true] at hs
      obtain ⟨y, hy, e1⟩ := List.any_eq_true.1 hs.2
      rw [decide_eq_true_iff] at e1
      rw [ntAt, hx]
      exact ⟨by show f e.chg ∈ cs; rw [e1]; exact hy, e, List.mem_of_getElem? hx, rfl⟩
  · rintro ⟨hc, e, he, rfl⟩
    have : ∀ v : List Ev, (∃ e' ∈ v, f e'.chg = f e.chg) → ∃ (i : Nat) (x : Ev), v[i]? = some x ∧ f x.chg = f e.chg ∧ ((v.drop (i + 1)).any fun y => decide (f y.chg = f x.chg)) = false := by
      intro v
      induction v with
      | nil => rintro ⟨_, h, _⟩; simp at h
      | cons a r ih =>
        rintro ⟨e', he', h'⟩
        by_cases hr : ∃ e' ∈ r, f e'.chg = f e.chg
        · obtain ⟨i, x, h1, h2, h3⟩ := ih hr
          exact ⟨i + 1, x, by simpa using h1, h2, by simpa using h3⟩
        · have ha : f a.chg = f e.chg := by
            rcases List.mem_cons.1 he' with rfl | h
            · exact h'
            · exact absurd ⟨e', h, h'⟩ hr
          refine ⟨0, a, rfl, ha, ?_⟩
          rw [List.any_eq_false]
          intro y hy
          rw [decide_eq_true_eq]
          intro h
          exact hr ⟨y, by simpa using hy, by rw [h, ha]⟩
    obtain ⟨i, x, h1, h2, h3⟩ := this v ⟨e, he, rfl⟩
    refine List.mem_map.2 ⟨ntAt f v i, List.mem_map.2 ⟨i, List.mem_filter.2 ⟨List.mem_range.2 (List.getElem?_eq_some_iff.1 h1).1, ?_⟩, rfl⟩, by rw [ntAt, h1]; exact h2⟩
    rw [selB, h1]
    simp only [h3, Bool.not_false, Bool.true_and]
    rw [h2]
    exact List.any_eq_true.2 ⟨f e.chg, hc, by simp⟩
theorem nodup_lastsF {f : Str → Int} {v : List Ev} {cs : List Int} : (clsN (lastsF f v cs)).Nodup := by
  rw [clsN, List.nodup_iff_pairwise_ne, List.pairwise_map]
  exact lastsF_pw
theorem lst_lt : ∀ (L : List Bool) (i : Nat), (∀ y ∈ lst i L, (i : Int) ≤ y) ∧ (lst i L).Pairwise fun a b => a < b
  | [], i => by simp [lst]
  | b :: r, i => by
    obtain ⟨h1, h2⟩ := lst_lt r (i + 1)
    have h3 : ∀ y ∈ lst (i + 1) r, (i : Int) ≤ y := fun y hy => by have := h1 y hy; omega
    rw [lst]
    split
    · refine ⟨fun y hy => ?_, List.pairwise_cons.2 ⟨fun y hy => by have := h1 y hy; omega, h2⟩⟩
      rcases List.mem_cons.1 hy with rfl | hy
      · exact Int.le_refl _
      · exact h3 y hy
    · exact ⟨h3, h2⟩
theorem lst_mem : ∀ (L : List Bool) (i : Nat) (y : Int), y ∈ lst i L → ∃ k : Nat, y = (i + k : Nat) ∧ L[k]? = some true
  | [], i, y, h => by simp [lst] at h
  | b :: r, i, y, h => by
    rw [lst] at h
    split at h
    · rename_i hb
      rcases List.mem_cons.1 h with rfl | h
      · exact ⟨0, by simp, by simp [hb]⟩
      · obtain ⟨k, h1, h2⟩ := lst_mem r (i + 1) y h
        exact ⟨k + 1, by rw [h1]; congr 1; omega, by simpa using h2⟩
    · obtain ⟨k, h1, h2⟩ := lst_mem r (i + 1) y h
      exact ⟨k + 1, by rw [h1]; congr 1; omega, by simpa using h2⟩
theorem onlyL_nodup {f : Str → Int} {s t : List Ev} : (onlyL f s t).Nodup := by
  rw [List.nodup_iff_pairwise_ne]
  exact ((lst_lt (onlyP f s t) 0).2).imp fun h => by omega
theorem lastK_some {f : Str → Int} : ∀ {es : List Ev} {c : Int}, (lastK f es c).isSome = true → ∃ e ∈ es, f e.chg = c
  | [], c, h => by simp [lastK] at h
  | e :: r, c, h => by
    rw [lastK] at h
    cases hr : lastK f r c with
    | some k =>
      obtain ⟨x, hx, h1⟩ := lastK_some (by rw [hr]; rfl)
      exact ⟨x, by simp [hx], h1⟩
    | none =>
      rw [hr] at h
      simp only at h
      split at h
      · rename_i h1; exact ⟨e, by simp, h1⟩
      · cases h
theorem onlyL_mem {f : Str → Int} {s t : List Ev} {c : Int} (h : c ∈ onlyL f s t) : ∃ e ∈ s, f e.chg = c := by
  obtain ⟨k, h1, h2⟩ := lst_mem _ _ _ h
  have hk : k < 30 := by have := (List.getElem?_eq_some_iff.1 h2).1; rw [onlyP_len] at this; exact this
  rw [onlyP_get hk, Option.some.injEq, Bool.and_eq_true] at h2
  have h3 := h2.1
  unfold inB at h3
  have h4 : (lastK f s (k : Int)).isSome = true := by
    cases hq : lastK f s (k : Int) with
    | none => rw [hq] at h3; cases h3
    | some _ => rfl
  rw [h1, Nat.zero_add]
  exact lastK_some h4
theorem srtN_perm (O : List Nt) : (srtN O).Perm O := by
  have h1 : (srtA O (List.finRange O.length)).Perm (List.finRange O.length) := List.mergeSort_perm _ _
  have := h1.map fun a => O[a]
  rw [fin_A] at this
  exact this
theorem turn_cls {f f0 : Str → Int} {s t : List Ev} (hf : ∀ e ∈ t, f0 e.chg = f e.chg) : 
    (clsN (srtN (goneO f t s (onlyL f0 t s)) ++ lastsF f s (onlyL f0 t s))).Nodup ∧ ∀ c, c ∈ clsN (srtN (goneO f t s (onlyL f0 t s)) ++ lastsF f s (onlyL f0 t s)) ↔ c ∈ clsN (lastsF f t (onlyL f0 t s)) := by
  obtain ⟨C, hC⟩ : ∃ C, C = onlyL f0 t s := ⟨_, rfl⟩
  have hCt : ∀ c ∈ C, ∃ e ∈ t, f e.chg = c := fun c hc => by
    rw [hC] at hc
    obtain ⟨e, he, h⟩ := onlyL_mem hc
    exact ⟨e, he, by rw [← hf e he]; exact h⟩
  rw [← hC]
  clear hC
  have hg : clsN (goneO f t s C) = clsN (lastsF f t (keepN (lastsF f s C) C)) := by
    rw [clsN, clsN, goneO, List.map_map]; rfl
  have hp : (clsN (srtN (goneO f t s C))).Perm (clsN (goneO f t s C)) := (srtN_perm _).map _
  have htold : ∀ c, toldN (lastsF f s C) c = true ↔ c ∈ clsN (lastsF f s C) := fun c => by
    unfold toldN clsN
    rw [List.any_eq_true, List.mem_map]
    constructor
    · rintro ⟨n, h1, h2⟩; exact ⟨n, h1, by simpa using h2⟩
    · rintro ⟨n, h1, h2⟩; exact ⟨n, h1, by simpa using h2⟩
  have hk : ∀ c, c ∈ keepN (lastsF f s C) C ↔ c ∈ C ∧ ¬ c ∈ clsN (lastsF f s C) := fun c => by
    unfold keepN
    rw [List.mem_filter, ← htold c]
    cases toldN (lastsF f s C) c <;> simp
  have e1 : clsN (srtN (goneO f t s C) ++ lastsF f s C) = clsN (srtN (goneO f t s C)) ++ clsN (lastsF f s C) := by rw [clsN, List.map_append]; rfl
  rw [e1]
  have m1 : ∀ c, c ∈ clsN (srtN (goneO f t s C)) ↔ c ∈ C ∧ ¬ c ∈ clsN (lastsF f s C) := fun c => by
    rw [hp.mem_iff, hg, mem_lastsF, hk]
    exact ⟨fun h => h.1, fun h => ⟨h, hCt c h.1⟩⟩
  constructor
  · refine List.nodup_append.2 ⟨?_, nodup_lastsF, fun a ha b hb e => ?_⟩
    · rw [hp.nodup_iff, hg]; exact nodup_lastsF
    · subst e
      exact ((m1 a).1 ha).2 hb
  · intro c
    rw [List.mem_append, m1, mem_lastsF (f := f) (v := t)]
    constructor
    · rintro (h | h)
      · exact ⟨h.1, hCt c h.1⟩
      · have := (mem_lastsF c).1 h
        exact ⟨this.1, hCt c this.1⟩
    · rintro ⟨h, _⟩
      by_cases hm : c ∈ clsN (lastsF f s C)
      · exact .inr hm
      · exact .inl ⟨h, hm⟩
end Go.Ab
end

section
/- NotesTurn. -/
set_option maxRecDepth 1000000
set_option maxHeartbeats 16000000
namespace Go.Ab
open Go Go.Proofs Go.Sort
theorem any_falseP {α : Type} {l : List α} {p : α → Bool} (h : l.any p = false) : ∀ a ∈ l, p a = false := fun a ha => by
  have := List.any_eq_false.1 h a ha; simpa using this
theorem big_noP {s : Str} (h : big s = false) : s.size ≤ 100 := by
  have := of_decide_eq_false h; omega
theorem grt26_noP {l : List Br} (h : grt26 l = false) : l.length ≤ 20 ∧ ∀ b ∈ l, b.name.size ≤ 100 := by
  rw [grt26, Bool.or_eq_false_iff] at h
  refine ⟨by have := of_decide_eq_false h.2; omega, fun b hb => ?_⟩
  have := any_falseP h.1 b hb
  rw [Bool.or_eq_false_iff] at this
  exact big_noP this.1
theorem grt29_noP {l : Ldg} (h : grt29 l = false) : LSz l ∧ LNm l := by
  unfold grt29 at h
  simp only [Bool.or_eq_false_iff] at h
  obtain ⟨⟨⟨⟨h1, h2⟩, h3⟩, h4⟩, h5⟩ := h
  have h6 := grt26_noP h4
  have h3' := of_decide_eq_false h3
  have h5' := of_decide_eq_false h5
  refine ⟨⟨by omega, by omega, by omega, fun s hs => ?_⟩, ⟨fun b hb => by have := h6.2 b hb; omega, fun k hk => by have := big_noP (any_falseP h1 k hk); omega⟩⟩
  have := any_falseP h2 s hs
  unfold grtE at this
  simp only [Bool.or_eq_false_iff] at this
  have := of_decide_eq_false this.1.2
  omega
theorem lview_of {l : Ldg} {n : Str} (h : lchk l = 0) (hi : 0 ≤ idx l.brs n) : (lview l n).2 = 0 := by
  have hok := lok_of h
  rw [lview, if_neg (by rw [Decidable.not_not]; exact h), bview, if_neg (by rw [Decidable.not_not]; exact hok.fits), if_neg (by omega)]
theorem ldiff_of {l : Ldg} {a b : Str} (ha : (lview l a).2 = 0) (hb : (lview l b).2 = 0) : ldiff l a b = (onlyL (cls0 l.known) (evV l a) (evV l b), onlyL (cls0 l.known) (evV l b) (evV l a), 0) := by
  rw [ldiff, if_neg (by rw [Decidable.not_not]; exact ha), if_neg (by rw [Decidable.not_not]; exact hb)]; rfl
theorem bothE_zero {l : Ldg} {a b : Str} (h : bothE l a b = 0) : (lview l a).2 = 0 ∧ (lview l b).2 = 0 ∧ lchk l = 0 := by
  unfold bothE at h
  split at h
  · rename_i h1; exact absurd h h1
  · rename_i h1
    rw [Decidable.not_not] at h1
    split at h
    · cases h
    · rename_i h2
      exact ⟨lview_of h1 (by omega), lview_of h1 (by omega), h1⟩
end Go.Ab
end
