/- The text of gaps, and its reference. -/
import Derived.Test.YtgcodedanljhpaaGreatDoorNB
import Derived.Test.YtgcodedanljhpaaGreatDoorMO
import Derived.Test.YtgcodedanljhpaaGreatDoorML
set_option linter.unusedSimpArgs false
set_option linter.unusedVariables false
set_option maxRecDepth 1000000
set_option maxHeartbeats 8000000
namespace Go.Ab
open Go Go.Proofs Go.Sort
theorem bd_NC : type_of% (And.intro @evNext.eq_1 (And.intro @fld (And.intro @nit (And.intro @nxE (And.intro @ghR (And.intro @ovR (And.intro @evBin_seql (And.intro @evBin_sneq (And.intro @str.eq_1 (And.intro @u8.eq_1 (And.intro @encBrs.eq_1 (And.intro @cBr.eq_1 (And.intro @encLdg.eq_1 (And.intro @encKws.eq_1 (And.intro @cKw.eq_1 (And.intro @encEvss.eq_1 (And.intro @encEvs.eq_1 (And.intro @cEv.eq_1 (And.intro @encMks.eq_1 (And.intro @cMk.eq_1 (And.intro @encStrs.eq_1 (And.intro @encFxs.eq_1 (And.intro @cFx.eq_1 (And.intro @cGp.eq_1 (And.intro @tk2 (And.intro @tk3 (And.intro @List.set_cons_succ.{0} (And.intro @List.getElem?_cons_zero.{0} (And.intro @List.getElem?_cons_succ.{0} (@List.length_set.{0})))))))))))))))))))))))))))))) := And.intro @evNext.eq_1 (And.intro @fld (And.intro @nit (And.intro @nxE (And.intro @ghR (And.intro @ovR (And.intro @evBin_seql (And.intro @evBin_sneq (And.intro @str.eq_1 (And.intro @u8.eq_1 (And.intro @encBrs.eq_1 (And.intro @cBr.eq_1 (And.intro @encLdg.eq_1 (And.intro @encKws.eq_1 (And.intro @cKw.eq_1 (And.intro @encEvss.eq_1 (And.intro @encEvs.eq_1 (And.intro @cEv.eq_1 (And.intro @encMks.eq_1 (And.intro @cMk.eq_1 (And.intro @encStrs.eq_1 (And.intro @encFxs.eq_1 (And.intro @cFx.eq_1 (And.intro @cGp.eq_1 (And.intro @tk2 (And.intro @tk3 (And.intro @List.set_cons_succ.{0} (And.intro @List.getElem?_cons_zero.{0} (And.intro @List.getElem?_cons_succ.{0} (@List.length_set.{0})))))))))))))))))))))))))))))
def mline (g : Gp) : Str := dec g.wgt.toNat ++ ⟨#[32]⟩ ++ dec g.cls.toNat ++ ⟨#[32]⟩ ++ g.br ++ ⟨#[10]⟩
def mlines : List Gp → Str
  | [] => ⟨#[]⟩
  | g :: r => mline g ++ mlines r
theorem mlines_snoc {g : Gp} : ∀ G : List Gp, mlines (G ++ [g]) = mlines G ++ mline g
  | [] => by
    rw [List.nil_append, mlines, mlines, mlines]
    apply ByteArray.ext; simp
  | h :: r => by rw [List.cons_append, mlines, mlines, mlines_snoc r, ByteArray.append_assoc]
def mtext (l : Ldg) (x : List Fx) : Str × Int := if mchk l x ≠ 0 then (⟨#[]⟩, mchk l x) else (mlines (gapL l x), 0)
theorem dec_size (n : Nat) (h : n < 100) : (dec n).size ≤ 2 := (by decide +kernel : ∀ n : Fin 100, (dec n.val).size ≤ 2) ⟨n, h⟩
structure GpOk (g : Gp) : Prop where
  wgt : 1 ≤ g.wgt ∧ g.wgt ≤ 9
  cls : 0 ≤ g.cls ∧ g.cls < 30
  br : g.br.size ≤ 40
theorem gapL_ok {l : Ldg} {x : List Fx} (h : mchk l x = 0) {g : Gp} (hg : g ∈ gapL l x) : GpOk g := by
  obtain ⟨h1, b, hb, e⟩ := gapL_wgt h hg
  obtain ⟨a, ha, rfl⟩ := List.mem_map.1 hg
  have hok := lok_of (mchk_zero h).1
  obtain ⟨i, hi⟩ := List.mem_iff_getElem?.1 hb
  have := nameB_iff.1 ((tok_fits hok.fits).b hi).1
  exact ⟨h1, ⟨by simp only [toG]; omega, by have := a.2.1.isLt; simp only [toG]; omega⟩, by rw [← e]; exact this.1⟩
theorem mline_size {g : Gp} (h : GpOk g) : (mline g).size ≤ 50 := by
  have h1 := dec_size g.wgt.toNat (by have := h.wgt; omega)
  have h2 := dec_size g.cls.toNat (by have := h.cls; omega)
  have h3 := h.br
  have e1 : (⟨#[32]⟩ : ByteArray).size = 1 := rfl
  have e2 : (⟨#[10]⟩ : ByteArray).size = 1 := rfl
  simp only [mline, ByteArray.size_append, e1, e2]
  omega
theorem mlines_size : ∀ G : List Gp, (∀ g ∈ G, GpOk g) → (mlines G).size ≤ 50 * G.length
  | [], _ => by simp [mlines, ByteArray.size]
  | g :: r, h => by
    have h1 := mline_size (h g (by simp))
    have h2 := mlines_size r fun q hq => h q (by simp [hq])
    rw [mlines, ByteArray.size_append, List.length_cons]; omega
theorem m_Text (l : Ldg) (x : List Fx) (hz : LSz l) (hx40 : x.length ≤ 2^40) (hb40 : ∀ f ∈ x, f.brs.length ≤ 2^40) : CallSpec cx 15 [encLdg l, encFxs x] (.tup [str (mtext l x).1, i64 (mtext l x).2]) := by
  refine callSpec_of_vc Tryz.func15 rfl (by decide) (by kernel_rfl) (Nat.le_of_ble_eq_true rfl) ?_
  try simp -dsimp (disch := first | omega | decide +kernel) only [↓bp0, bd0, bd_NC, reduceIte, Nat.reduceEqDiff, evStore, Nat.reduceAdd, Nat.reduceMul, Int.reduceEq, Int.reduceLT, Int.reduceLE, Nat.reduceLeDiff, List.reduceReplicate, reduceCtorEq, evRange, Nat.reduceLT, Tryz.f15]
  refine CallQ.imm (m_Gaps l x hz hx40 hb40) (by rfl) (by rfl) (by first | exact .inl rfl | exact .inr rfl | exact .inr scalB | exact .inr scalI | exact .inr scalT | exact .inr scalM | exact .inr scalMT | exact .inr scalGT) ?_
  cases h0 : decide (mchk l x = 0)
  · have h0' := of_decide_eq_false h0
    simp -dsimp (disch := first | omega | decide +kernel) only [↓bp0, bd0, bd_NC, reduceIte, Nat.reduceEqDiff, evStore, Nat.reduceAdd, Nat.reduceMul, Int.reduceEq, Int.reduceLT, Int.reduceLE, Nat.reduceLeDiff, List.reduceReplicate, reduceCtorEq, evRange, Nat.reduceLT, retQ, resL, finL, newL, flat, tupOf, List.toList_toArray, Tryz.f15, newGps, h0]
    rw [mtext, if_pos h0']
    exact ⟨.rfl', .rfl', trivial⟩
  have h0' := of_decide_eq_true h0
  have hGe : gapR l x = gapL l x := by rw [gapR, if_neg (by rw [Decidable.not_not]; exact h0')]
  have hGl : (gapL l x).length ≤ 2^20 := gapL_len h0'
  have hGo : ∀ g ∈ gapL l x, GpOk g := fun g hg => gapL_ok h0' hg
  rw [mtext, if_neg (by rw [Decidable.not_not]; exact h0'), hGe]
  revert hGl hGo
  generalize gapL l x = G
  intro hGl hGo
  try simp -dsimp (disch := first | omega | decide +kernel) only [↓bp0, bd0, bd_NC, reduceIte, Nat.reduceEqDiff, evStore, Nat.reduceAdd, Nat.reduceMul, Int.reduceEq, Int.reduceLT, Int.reduceLE, Nat.reduceLeDiff, List.reduceReplicate, reduceCtorEq, evRange, Nat.reduceLT, newGps, h0]
  refine LoopQ.rule (fun m st => ∃ (i r nx : Nat), i ≤ G.length ∧ 2 ≤ nx ∧ m = G.length - i ∧
    st = ⟨mkE [(8, .ptr 1 0 0 0), (20, encGps G), (21, i64 G.length), (22, i64 i)], mkS [(1, .bld r 119 5 (mlines (G.take i)))], nx⟩) _ _ (weak_of ?_)
    ⟨0, 1, 2, by omega, by omega, rfl, rfl⟩ ?_
  · first | (simp -dsimp (disch := first | omega | decide +kernel) only [↓bp0, bd0, bd_NC, reduceIte, Nat.reduceEqDiff, evStore, Nat.reduceAdd, Nat.reduceMul, Int.reduceEq, Int.reduceLT, Int.reduceLE, Nat.reduceLeDiff, List.reduceReplicate, reduceCtorEq, evRange, Nat.reduceLT, encGps, mlines]; done) | simp -dsimp [evl, putN, i64, u32, bl, encL, encB, encLL, encGps, mlines]
  rintro m st ⟨i, r, nx, hi, hnx, rfl, rfl⟩
  have hE1_0a : (1 = nx) = False := by simp; omega
  have hE1_0b : (nx = 1) = False := by simp; omega
  try simp -dsimp (disch := first | omega | decide +kernel) only [↓bp0, bd0, bd_NC, reduceIte, Nat.reduceEqDiff, evStore, Nat.reduceAdd, Nat.reduceMul, Int.reduceEq, Int.reduceLT, Int.reduceLE, Nat.reduceLeDiff, List.reduceReplicate, reduceCtorEq, evRange, Nat.reduceLT, hE1_0a, hE1_0b]
  refine onC_nlt (fun h2 => ?_) (fun h2 => ?_)
  · obtain ⟨g, hx, hxm⟩ := get_of_lt h2
    have hg := hGo g hxm
    have htk : mlines (G.take (i + 1)) = mlines (G.take i) ++ mline g := by rw [take_succ hx, mlines_snoc]
    have hs := mlines_size (G.take i) fun q hq => hGo q (List.mem_of_mem_take hq)
    rw [List.length_take] at hs
    have hl := mline_size hg
    obtain ⟨n1, hn1⟩ : ∃ n : Nat, g.wgt = n := ⟨g.wgt.toNat, by have := hg.wgt; omega⟩
    obtain ⟨n2, hn2⟩ : ∃ n : Nat, g.cls = n := ⟨g.cls.toNat, by have := hg.cls; omega⟩
    have hb1 : n1 < 100 := by have := hg.wgt; omega
    have hb2 : n2 < 100 := by have := hg.cls; omega
    have hd1 := dec_size n1 hb1
    have hd2 := dec_size n2 hb2
    have hbr := hg.br
    have e1 : (⟨#[32]⟩ : ByteArray).size = 1 := rfl
    have e2 : (⟨#[10]⟩ : ByteArray).size = 1 := rfl
    have hsz : (mlines (G.take i)).size + (mline g).size ≤ 140737488355328 := by
      have : 50 * min i G.length ≤ 50 * 2^20 := Nat.mul_le_mul_left _ (by omega)
      omega
    have hml : mline g = dec n1 ++ ⟨#[32]⟩ ++ dec n2 ++ ⟨#[32]⟩ ++ g.br ++ ⟨#[10]⟩ := by rw [mline, hn1, hn2]; rfl
    try simp -dsimp (disch := first | omega | decide +kernel) only [↓bp0, bd0, bd_NC, reduceIte, Nat.reduceEqDiff, evStore, Nat.reduceAdd, Nat.reduceMul, Int.reduceEq, Int.reduceLT, Int.reduceLE, Nat.reduceLeDiff, List.reduceReplicate, reduceCtorEq, evRange, Nat.reduceLT, hx, encGps, hE1_0a, hE1_0b]
    refine vc_regJ (fun τ => τ nx = some (.row 0 3 [cGp g] false)) [0, 1, 2, 3, 4, 5, 6, 7, 8, 9, 10, 11, 12] [13] (by kernel_rfl) (by kernel_rfl) ?_ ?_
    · exact (by simp -dsimp (disch := first | omega | decide +kernel) only [↓bp0, bd0, bd_NC, reduceIte, Nat.reduceEqDiff, evStore, Nat.reduceAdd, Nat.reduceMul, Int.reduceEq, Int.reduceLT, Int.reduceLE, Nat.reduceLeDiff, List.reduceReplicate, reduceCtorEq, evRange, Nat.reduceLT, hE1_0a, hE1_0b, cGp])
    have sA : ∀ {C : Ctx} {t : TypeId} {x y : Operand}, evBin C .add t x y (.lit (.string (dec n1))) (.lit (.string ⟨#[32]⟩)) = some (.lit (.string (dec n1 ++ ⟨#[32]⟩))) := evBin_sadd (by omega)
    have sB : ∀ {C : Ctx} {t : TypeId} {x y : Operand}, evBin C .add t x y (.lit (.string (dec n1 ++ ⟨#[32]⟩))) (.lit (.string (dec n2))) = some (.lit (.string (dec n1 ++ ⟨#[32]⟩ ++ dec n2))) := evBin_sadd (by rw [ByteArray.size_append]; omega)
    have sC : ∀ {C : Ctx} {t : TypeId} {x y : Operand}, evBin C .add t x y (.lit (.string (dec n1 ++ ⟨#[32]⟩ ++ dec n2))) (.lit (.string ⟨#[32]⟩)) = some (.lit (.string (dec n1 ++ ⟨#[32]⟩ ++ dec n2 ++ ⟨#[32]⟩))) := evBin_sadd (by simp only [ByteArray.size_append]; omega)
    have sD : ∀ {C : Ctx} {t : TypeId} {x y : Operand}, evBin C .add t x y (.lit (.string (dec n1 ++ ⟨#[32]⟩ ++ dec n2 ++ ⟨#[32]⟩))) (.lit (.string g.br)) = some (.lit (.string (dec n1 ++ ⟨#[32]⟩ ++ dec n2 ++ ⟨#[32]⟩ ++ g.br))) := evBin_sadd (by simp only [ByteArray.size_append]; omega)
    have sE : ∀ {C : Ctx} {t : TypeId} {x y : Operand}, evBin C .add t x y (.lit (.string (dec n1 ++ ⟨#[32]⟩ ++ dec n2 ++ ⟨#[32]⟩ ++ g.br))) (.lit (.string ⟨#[10]⟩)) = some (.lit (.string (mline g))) := by rw [hml]; exact evBin_sadd (by simp only [ByteArray.size_append]; omega)
    try simp -dsimp (disch := first | omega | decide +kernel) only [↓bp0, bd0, bd_NC, reduceIte, Nat.reduceEqDiff, evStore, Nat.reduceAdd, Nat.reduceMul, Int.reduceEq, Int.reduceLT, Int.reduceLE, Nat.reduceLeDiff, List.reduceReplicate, reduceCtorEq, evRange, Nat.reduceLT, vcj, implies_true, hn1, hn2, hE1_0a, hE1_0b]
    refine ⟨fun τ hτ => by simp -dsimp (disch := first | omega | decide +kernel) only [↓bp0, bd0, bd_NC, reduceIte, Nat.reduceEqDiff, evStore, Nat.reduceAdd, Nat.reduceMul, Int.reduceEq, Int.reduceLT, Int.reduceLE, Nat.reduceLeDiff, List.reduceReplicate, reduceCtorEq, evRange, Nat.reduceLT, hτ], ?_⟩
    refine CallJ.imm (m_Itoa n1 hb1) (fun _ _ => by rfl) (fun _ _ => by rfl) (by first | exact .inl rfl | exact .inr rfl | exact .inr scalB | exact .inr scalI | exact .inr scalT | exact .inr scalM | exact .inr scalMT | exact .inr scalGT) ?_
    try simp -dsimp (disch := first | omega | decide +kernel) only [↓bp0, bd0, bd_NC, reduceIte, Nat.reduceEqDiff, evStore, Nat.reduceAdd, Nat.reduceMul, Int.reduceEq, Int.reduceLT, Int.reduceLE, Nat.reduceLeDiff, List.reduceReplicate, reduceCtorEq, evRange, Nat.reduceLT, vcj, implies_true, hn1, hn2, sA, hE1_0a, hE1_0b]
    refine ⟨fun τ hτ => by simp -dsimp (disch := first | omega | decide +kernel) only [↓bp0, bd0, bd_NC, reduceIte, Nat.reduceEqDiff, evStore, Nat.reduceAdd, Nat.reduceMul, Int.reduceEq, Int.reduceLT, Int.reduceLE, Nat.reduceLeDiff, List.reduceReplicate, reduceCtorEq, evRange, Nat.reduceLT, hτ], ?_⟩
    refine CallJ.imm (m_Itoa n2 hb2) (fun _ _ => by rfl) (fun _ _ => by rfl) (by first | exact .inl rfl | exact .inr rfl | exact .inr scalB | exact .inr scalI | exact .inr scalT | exact .inr scalM | exact .inr scalMT | exact .inr scalGT) ?_
    try simp -dsimp (disch := first | omega | decide +kernel) only [↓bp0, bd0, bd_NC, reduceIte, Nat.reduceEqDiff, evStore, Nat.reduceAdd, Nat.reduceMul, Int.reduceEq, Int.reduceLT, Int.reduceLE, Nat.reduceLeDiff, List.reduceReplicate, reduceCtorEq, evRange, Nat.reduceLT, vcj, implies_true, hn1, hn2, sA, sB, sC, hE1_0a, hE1_0b]
    refine ⟨fun τ hτ => by simp -dsimp (disch := first | omega | decide +kernel) only [↓bp0, bd0, bd_NC, reduceIte, Nat.reduceEqDiff, evStore, Nat.reduceAdd, Nat.reduceMul, Int.reduceEq, Int.reduceLT, Int.reduceLE, Nat.reduceLeDiff, List.reduceReplicate, reduceCtorEq, evRange, Nat.reduceLT, hτ], ?_⟩
    try simp -dsimp (disch := first | omega | decide +kernel) only [↓bp0, bd0, bd_NC, reduceIte, Nat.reduceEqDiff, evStore, Nat.reduceAdd, Nat.reduceMul, Int.reduceEq, Int.reduceLT, Int.reduceLE, Nat.reduceLeDiff, List.reduceReplicate, reduceCtorEq, evRange, Nat.reduceLT, vcj, implies_true, hn1, hn2, sD, sE, hE1_0a, hE1_0b]
    refine EffQ.inm (m_WriteString (id := 1) (r := r) (s := mlines (G.take i)) (t := mline g) (by simp -dsimp (disch := first | omega | decide +kernel) only [↓bp0, bd0, bd_NC, reduceIte, Nat.reduceEqDiff, evStore, Nat.reduceAdd, Nat.reduceMul, Int.reduceEq, Int.reduceLT, Int.reduceLE, Nat.reduceLeDiff, List.reduceReplicate, reduceCtorEq, evRange, Nat.reduceLT, hE1_0a, hE1_0b]) hsz) ⟨_, _, _, rfl, r, Nat.le_refl _, rfl⟩ (by rfl) ?_
    rintro q σ' nx' ⟨rfl, r', hnx', rfl⟩
    have hnx2 : nx + 1 ≤ nx' := hnx'
    refine ⟨.inl (by kernel_rfl), ?_⟩
    try simp -dsimp (disch := first | omega | decide +kernel) only [↓bp0, bd0, bd_NC, reduceIte, Nat.reduceEqDiff, evStore, Nat.reduceAdd, Nat.reduceMul, Int.reduceEq, Int.reduceLT, Int.reduceLE, Nat.reduceLeDiff, List.reduceReplicate, reduceCtorEq, evRange, Nat.reduceLT, hE1_0a, hE1_0b]
    refine ⟨_, _, ?_, weak_of ?_, i + 1, r', nx', h2, by omega, rfl, rfl⟩
    · omega
    · first | (simp -dsimp (disch := first | omega | decide +kernel) only [↓bp0, bd0, bd_NC, reduceIte, Nat.reduceEqDiff, evStore, Nat.reduceAdd, Nat.reduceMul, Int.reduceEq, Int.reduceLT, Int.reduceLE, Nat.reduceLeDiff, List.reduceReplicate, reduceCtorEq, evRange, Nat.reduceLT, htk, wrapS h2 (show G.length ≤ 9223372036854775807 by omega), encGps, hE1_0a, hE1_0b]; done) | simp -dsimp [evl, putN, i64, u32, bl, encL, encB, encLL, htk, wrapS h2 (show G.length ≤ 9223372036854775807 by omega), encGps, hE1_0a, hE1_0b]
  · rw [List.take_of_length_le (by omega)]
    try simp -dsimp (disch := first | omega | decide +kernel) only [↓bp0, bd0, bd_NC, reduceIte, Nat.reduceEqDiff, evStore, Nat.reduceAdd, Nat.reduceMul, Int.reduceEq, Int.reduceLT, Int.reduceLE, Nat.reduceLeDiff, List.reduceReplicate, reduceCtorEq, evRange, Nat.reduceLT]
    refine CallQ.inm (m_String (id := 1) (r := r) (s := mlines G) (by simp -dsimp (disch := first | omega | decide +kernel) only [↓bp0, bd0, bd_NC, reduceIte, Nat.reduceEqDiff, evStore, Nat.reduceAdd, Nat.reduceMul, Int.reduceEq, Int.reduceLT, Int.reduceLE, Nat.reduceLeDiff, List.reduceReplicate, reduceCtorEq, evRange, Nat.reduceLT])) (by rfl) ?_
    rintro q σ' nx' ⟨rfl, rfl, rfl⟩
    simp -dsimp (disch := first | omega | decide +kernel) only [↓bp0, bd0, bd_NC, reduceIte, Nat.reduceEqDiff, evStore, Nat.reduceAdd, Nat.reduceMul, Int.reduceEq, Int.reduceLT, Int.reduceLE, Nat.reduceLeDiff, List.reduceReplicate, reduceCtorEq, evRange, Nat.reduceLT, retQ, resL, finL, newL, flat, tupOf, List.toList_toArray, Tryz.f15]
    exact ⟨.rfl', .rfl', trivial⟩
end Go.Ab
