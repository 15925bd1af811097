/- Gaps compared. -/
import Derived.Test.YtgcodedanljhpaaGreatDoorMA
import Derived.Test.YtgcodedanljhpaaGreatDoorMF
import Derived.Test.YtgcodedanljhpaaGreatDoorLXa
set_option linter.unusedSimpArgs false
set_option linter.unusedVariables false
section
set_option maxRecDepth 100000
namespace Go.Ab
open Go Go.Proofs
theorem purely_bind {α β : Type} {P : Program} : ∀ {s : Sem α} {f : α → Sem β}, purely P (s >>= f) = (purely P s).bind fun a => purely P (f a) := by
  intro s
  induction s with
  | pure a => intro f; rfl
  | program k ih => intro f; exact ih P
  | mark m k ih => intro f; exact ih
  | _ => intro f; rfl
theorem pu_int {d : Nat} {k : IntKind} {a b : Int} {t : TypeId} {q : IntKind} (h : purely cx.P (underlying t) = some (.int q)) : purely cx.P (Op.equalIn (d + 1) t (.int k a) (.int k b)) = some (a == b) := by
  unfold Op.equalIn
  rw [purely_bind, h]
  simp [purely, pure]
theorem pu_str {d : Nat} {a b : ByteArray} {t : TypeId} (h : purely cx.P (underlying t) = some .string) : purely cx.P (Op.equalIn (d + 1) t (.string a) (.string b)) = some (a == b) := by
  unfold Op.equalIn
  rw [purely_bind, h]
  rfl
theorem uGap : purely cx.P (underlying 47) = some (.struct (sfOf 47)) := by kernel_rfl
theorem uStr : purely cx.P (underlying 9) = some .string := by kernel_rfl
theorem uInt : purely cx.P (underlying 3) = some (.int .i64) := by kernel_rfl
theorem pu_gap {s : ByteArray} {c w : Int} : purely cx.P (Op.equalIn 10000 47 (.agg #[.string s, .int .i64 c, .int .i64 w]) (.agg #[.string s, .int .i64 c, .int .i64 w])) = some true := by
  rw [show (10000 : Nat) = 9999 + 1 from rfl]
  unfold Op.equalIn
  rw [purely_bind, uGap]
  simp only [Option.bind_some]
  rw [purely_bind]
  have h1 : purely cx.P (program : Sem Program) = some cx.P := rfl
  rw [h1]
  simp only [Option.bind_some]
  rw [show cx.P.stoodInHeld 47 = false by kernel_rfl]
  simp only [Bool.false_eq_true, if_false]
  have p0 : purely cx.P (part 9 #[Value.string s, Value.int IntKind.i64 c, Value.int IntKind.i64 w] 0) = some (.string s) := by kernel_rfl
  have p1 : purely cx.P (part 3 #[Value.string s, Value.int IntKind.i64 c, Value.int IntKind.i64 w] 1) = some (.int .i64 c) := by kernel_rfl
  have p2 : purely cx.P (part 3 #[Value.string s, Value.int IntKind.i64 c, Value.int IntKind.i64 w] 2) = some (.int .i64 w) := by kernel_rfl
  have q0 := pu_str (d := 9998) (a := s) (b := s) uStr
  have q1 := pu_int (d := 9998) (k := .i64) (a := c) (b := c) uInt
  have q2 := pu_int (d := 9998) (k := .i64) (a := w) (b := w) uInt
  have hss : (s == s) = true := by rw [beq_bytes]; simp
  rw [hss] at q0
  rw [beq_self_eq_true] at q1 q2
  obtain ⟨f0, f1, f2, hfs, n0, n1, n2, t0, t1, t2, o0, o1, o2⟩ : ∃ f0 f1 f2 : Field, sfOf 47 = [f0, f1, f2].toArray ∧ f0.name ≠ "_" ∧ f1.name ≠ "_" ∧ f2.name ≠ "_" ∧ f0.type = 9 ∧ f1.type = 3 ∧ f2.type = 3 ∧ f0.offset = 0 ∧ f1.offset = 1 ∧ f2.offset = 2 :=
    ⟨(sfOf 47)[0]!, (sfOf 47)[1]!, (sfOf 47)[2]!, by kernel_rfl, by have : ((sfOf 47)[0]!).name ≠ "_" := (of_decide_eq_true (by kernel_rfl)); exact this, (of_decide_eq_true (by kernel_rfl)), (of_decide_eq_true (by kernel_rfl)), by kernel_rfl, by kernel_rfl, by kernel_rfl, by kernel_rfl, by kernel_rfl, by kernel_rfl⟩
  rw [hfs]
  simp only [List.forIn_toArray, List.forIn_cons, List.forIn_nil, n0, n1, n2, ne_eq, not_false_eq_true, if_true, t0, t1, t2, o0, o1, o2, purely_bind, p0, p1, p2, Option.bind_some, show (9999 : Nat) = 9998 + 1 from rfl, q0, q1, q2, beq_self_eq_true, Bool.not_true, Bool.false_eq_true, if_false, bind_assoc, pure_bind]
  simp [purely_bind, p0, p1, p2, q0, q1, q2, purely, pure, show (9999 : Nat) = 9998 + 1 from rfl]
  try rfl
theorem ev_neq_gap {s : ByteArray} {c w : Int} {x y : Operand} : evBin cx .neq 47 x y (.agg [.lit (.string s), .lit (.int .i64 c), .lit (.int .i64 w)]) (.agg [.lit (.string s), .lit (.int .i64 c), .lit (.int .i64 w)]) = some (.lit (.bool false)) := by
  have hg : cx.P.eqGuardType cx.P.depth 47 = false := by kernel_rfl
  have hq := pu_gap (s := s) (c := c) (w := w)
  simp only [evBin, conc, lits, Option.map_some]
  have e : purely cx.P (do eqGuard .neq 47 x y (.agg #[.string s, .int .i64 c, .int .i64 w]) (.agg #[.string s, .int .i64 c, .int .i64 w]); binOp .neq 47 (.agg #[.string s, .int .i64 c, .int .i64 w]) (.agg #[.string s, .int .i64 c, .int .i64 w])) = some (.bool false) := by
    rw [purely_bind]
    have h1 : purely cx.P (eqGuard .neq 47 x y (.agg #[.string s, .int .i64 c, .int .i64 w]) (.agg #[.string s, .int .i64 c, .int .i64 w])) = some () := by
      unfold eqGuard
      simp only [Bool.not_true, Bool.false_eq_true, if_false]
      rw [purely_bind, show purely cx.P (program : Sem Program) = some cx.P from rfl]
      simp only [Option.bind_some]
      rw [purely_bind, show purely cx.P (program : Sem Program) = some cx.P from rfl]
      simp only [Option.bind_some, hg, Bool.not_false, if_true]
      rfl
    rw [h1]
    simp only [Option.bind_some]
    have e2 : binOp .neq 47 (.agg #[.string s, .int .i64 c, .int .i64 w]) (.agg #[.string s, .int .i64 c, .int .i64 w]) = (Op.equal 47 (.agg #[.string s, .int .i64 c, .int .i64 w]) (.agg #[.string s, .int .i64 c, .int .i64 w]) >>= fun b => pure (Value.bool (!b))) := rfl
    rw [e2, purely_bind]
    unfold Op.equal Op.maxDepth
    rw [hq]
    rfl
  rw [e]
  rfl
end Go.Ab
end

section
/- What is too great for a law to look at. -/
set_option maxRecDepth 1000000
set_option maxHeartbeats 8000000
namespace Go.Ab
open Go Go.Proofs Go.Sort
theorem bd_MG : type_of% (And.intro @evNext.eq_1 (And.intro @fld (And.intro @nit (And.intro @nxE (And.intro @ghR (And.intro @ovR (And.intro @evBin_seql (And.intro @evBin_sneq (And.intro @str.eq_1 (And.intro @u8.eq_1 (And.intro @encBrs.eq_1 (And.intro @cBr.eq_1 (And.intro @encLdg.eq_1 (And.intro @encKws.eq_1 (And.intro @cKw.eq_1 (And.intro @encEvss.eq_1 (And.intro @encEvs.eq_1 (And.intro @cEv.eq_1 (And.intro @encMks.eq_1 (And.intro @cMk.eq_1 (And.intro @encStrs.eq_1 (And.intro @encFxs.eq_1 (And.intro @cFx.eq_1 (And.intro @cGp.eq_1 (And.intro @tk2 (And.intro @tk3 (And.intro @List.set_cons_succ.{0} (And.intro @List.getElem?_cons_zero.{0} (And.intro @List.getElem?_cons_succ.{0} (@List.length_set.{0})))))))))))))))))))))))))))))) := And.intro @evNext.eq_1 (And.intro @fld (And.intro @nit (And.intro @nxE (And.intro @ghR (And.intro @ovR (And.intro @evBin_seql (And.intro @evBin_sneq (And.intro @str.eq_1 (And.intro @u8.eq_1 (And.intro @encBrs.eq_1 (And.intro @cBr.eq_1 (And.intro @encLdg.eq_1 (And.intro @encKws.eq_1 (And.intro @cKw.eq_1 (And.intro @encEvss.eq_1 (And.intro @encEvs.eq_1 (And.intro @cEv.eq_1 (And.intro @encMks.eq_1 (And.intro @cMk.eq_1 (And.intro @encStrs.eq_1 (And.intro @encFxs.eq_1 (And.intro @cFx.eq_1 (And.intro @cGp.eq_1 (And.intro @tk2 (And.intro @tk3 (And.intro @List.set_cons_succ.{0} (And.intro @List.getElem?_cons_zero.{0} (And.intro @List.getElem?_cons_succ.{0} (@List.length_set.{0})))))))))))))))))))))))))))))
def big (s : Str) : Bool := decide ((100 : Int) < (s.size : Int))
def grt26 (l : List Br) : Bool := (l.any fun b => big b.name || big b.frm) || decide ((20 : Int) < (l.length : Int))
def grtE (own : List Ev) : Bool := (decide ((8 : Int) < (own.length : Int)) && decide ((own.length : Int) ≤ 40)) || decide ((50 : Int) < (own.length : Int)) || own.any fun e => big e.chg
def grt29 (l : Ldg) : Bool := (l.known.any fun k => big k.chg) || l.evs.any grtE || decide ((40 : Int) < (l.known.length : Int)) || grt26 l.brs || decide ((20 : Int) < (l.evs.length : Int))
def grtF (f : Fx) : Bool := decide ((20 : Int) < (f.brs.length : Int)) || f.brs.any big
def grt34 (l : Ldg) (x : List Fx) : Bool := x.any grtF || grt29 l || (decide ((10 : Int) < (x.length : Int)) && decide ((x.length : Int) ≤ 30)) || decide ((40 : Int) < (x.length : Int))
theorem any_snoc {α : Type} {l : List α} {p : α → Bool} {i : Nat} {a : α} (h : l[i]? = some a) (h0 : (l.take i).any p = false) (ha : p a = false) : (l.take (i + 1)).any p = false := by
  rw [take_succ h, List.any_append, h0]; simp [ha]
theorem any_hit {α : Type} {l : List α} {p : α → Bool} {i : Nat} {a : α} (h : l[i]? = some a) (ha : p a = true) : l.any p = true := List.any_eq_true.2 ⟨a, List.mem_of_getElem? h, ha⟩
theorem r_Great26 (l : List Br) (hl : l.length ≤ 9223372036854775807) : CallSpec cx 85 [encBrs l, .lit (.slice none 0 0)] (bl (grt26 l)) := by
  refine callSpec_of_vc Tryz.func85 rfl (by decide) (by kernel_rfl) (Nat.le_of_ble_eq_true rfl) ?_
  try simp -dsimp (disch := first | omega | decide +kernel) only [↓bp0, bd0, bd_MG, reduceIte, Nat.reduceEqDiff, evStore, Nat.reduceAdd, Nat.reduceMul, Int.reduceEq, Int.reduceLT, Int.reduceLE, Nat.reduceLeDiff, List.reduceReplicate, reduceCtorEq, evRange, Nat.reduceLT, Tryz.f85]
  refine LoopQ.rule (fun m st => ∃ i : Nat, i ≤ l.length ∧ ((l.take i).any fun b => big b.name || big b.frm) = false ∧ m = l.length - i ∧
    st = ⟨mkE [(0, encBrs l), (1, .lit (.slice none 0 0)), (5, i64 i)], mkS [], 0⟩) _ _ (weak_of ?_) ⟨0, by omega, by simp, rfl, rfl⟩ ?_
  · first | (simp -dsimp (disch := first | omega | decide +kernel) only [↓bp0, bd0, bd_MG, reduceIte, Nat.reduceEqDiff, evStore, Nat.reduceAdd, Nat.reduceMul, Int.reduceEq, Int.reduceLT, Int.reduceLE, Nat.reduceLeDiff, List.reduceReplicate, reduceCtorEq, evRange, Nat.reduceLT]; done) | simp -dsimp [evl, putN, i64, u32, bl, encL, encB, encLL]
  rintro m st ⟨i, hi, hpre, rfl, rfl⟩
  try simp -dsimp (disch := first | omega | decide +kernel) only [↓bp0, bd0, bd_MG, reduceIte, Nat.reduceEqDiff, evStore, Nat.reduceAdd, Nat.reduceMul, Int.reduceEq, Int.reduceLT, Int.reduceLE, Nat.reduceLeDiff, List.reduceReplicate, reduceCtorEq, evRange, Nat.reduceLT]
  refine onC_nlt (fun h2 => ?_) (fun h2 => ?_)
  · obtain ⟨b, hx, hxm⟩ := get_of_lt h2
    have hbad : (big b.name || big b.frm) = true → grt26 l = true := fun h => by rw [grt26, any_hit hx h]; rfl
    cases c1 : decide ((100 : Int) < (b.name.size : Int))
    · cases c2 : decide ((100 : Int) < (b.frm.size : Int))
      · try simp -dsimp (disch := first | omega | decide +kernel) only [↓bp0, bd0, bd_MG, reduceIte, Nat.reduceEqDiff, evStore, Nat.reduceAdd, Nat.reduceMul, Int.reduceEq, Int.reduceLT, Int.reduceLE, Nat.reduceLeDiff, List.reduceReplicate, reduceCtorEq, evRange, Nat.reduceLT, hx, c1, c2]
        refine ⟨_, _, ?_, weak_of ?_, i + 1, h2, any_snoc hx hpre (by rw [big, big, c1, c2]; rfl), rfl, rfl⟩
        · omega
        · first | (simp -dsimp (disch := first | omega | decide +kernel) only [↓bp0, bd0, bd_MG, reduceIte, Nat.reduceEqDiff, evStore, Nat.reduceAdd, Nat.reduceMul, Int.reduceEq, Int.reduceLT, Int.reduceLE, Nat.reduceLeDiff, List.reduceReplicate, reduceCtorEq, evRange, Nat.reduceLT, wrapS h2 hl]; done) | simp -dsimp [evl, putN, i64, u32, bl, encL, encB, encLL, wrapS h2 hl]
      · simp -dsimp (disch := first | omega | decide +kernel) only [↓bp0, bd0, bd_MG, reduceIte, Nat.reduceEqDiff, evStore, Nat.reduceAdd, Nat.reduceMul, Int.reduceEq, Int.reduceLT, Int.reduceLE, Nat.reduceLeDiff, List.reduceReplicate, reduceCtorEq, evRange, Nat.reduceLT, retQ, resL, finL, newL, flat, tupOf, List.toList_toArray, Tryz.f85, hx, c1, c2]
        exact leT_one (bl_eq (hbad (by rw [big, big, c1, c2]; rfl)).symm) (by simp)
    · simp -dsimp (disch := first | omega | decide +kernel) only [↓bp0, bd0, bd_MG, reduceIte, Nat.reduceEqDiff, evStore, Nat.reduceAdd, Nat.reduceMul, Int.reduceEq, Int.reduceLT, Int.reduceLE, Nat.reduceLeDiff, List.reduceReplicate, reduceCtorEq, evRange, Nat.reduceLT, retQ, resL, finL, newL, flat, tupOf, List.toList_toArray, Tryz.f85, hx, c1]
      exact leT_one (bl_eq (hbad (by rw [big, c1]; rfl)).symm) (by simp)
  · rw [List.take_of_length_le (by omega)] at hpre
    cases c3 : decide ((20 : Int) < (l.length : Int))
    · simp -dsimp (disch := first | omega | decide +kernel) only [↓bp0, bd0, bd_MG, reduceIte, Nat.reduceEqDiff, evStore, Nat.reduceAdd, Nat.reduceMul, Int.reduceEq, Int.reduceLT, Int.reduceLE, Nat.reduceLeDiff, List.reduceReplicate, reduceCtorEq, evRange, Nat.reduceLT, retQ, resL, finL, newL, flat, tupOf, List.toList_toArray, Tryz.f85, c3]
      exact leT_one (bl_eq (by rw [grt26, hpre, c3]; rfl)) (by simp)
    · simp -dsimp (disch := first | omega | decide +kernel) only [↓bp0, bd0, bd_MG, reduceIte, Nat.reduceEqDiff, evStore, Nat.reduceAdd, Nat.reduceMul, Int.reduceEq, Int.reduceLT, Int.reduceLE, Nat.reduceLeDiff, List.reduceReplicate, reduceCtorEq, evRange, Nat.reduceLT, retQ, resL, finL, newL, flat, tupOf, List.toList_toArray, Tryz.f85, c3]
      exact leT_one (bl_eq (by rw [grt26, hpre, c3]; rfl)) (by simp)
end Go.Ab
end

section
/- What is too great for a law to look at: ledgers, fixes. -/
set_option maxRecDepth 1000000
set_option maxHeartbeats 8000000
namespace Go.Ab
open Go Go.Proofs Go.Sort
theorem bd_MH : type_of% (And.intro @evNext.eq_1 (And.intro @fld (And.intro @nit (And.intro @nxE (And.intro @ghR (And.intro @ovR (And.intro @evBin_seql (And.intro @evBin_sneq (And.intro @str.eq_1 (And.intro @u8.eq_1 (And.intro @encBrs.eq_1 (And.intro @cBr.eq_1 (And.intro @encLdg.eq_1 (And.intro @encKws.eq_1 (And.intro @cKw.eq_1 (And.intro @encEvss.eq_1 (And.intro @encEvs.eq_1 (And.intro @cEv.eq_1 (And.intro @encMks.eq_1 (And.intro @cMk.eq_1 (And.intro @encStrs.eq_1 (And.intro @encFxs.eq_1 (And.intro @cFx.eq_1 (And.intro @cGp.eq_1 (And.intro @tk2 (And.intro @tk3 (And.intro @List.set_cons_succ.{0} (And.intro @List.getElem?_cons_zero.{0} (And.intro @List.getElem?_cons_succ.{0} (@List.length_set.{0})))))))))))))))))))))))))))))) := And.intro @evNext.eq_1 (And.intro @fld (And.intro @nit (And.intro @nxE (And.intro @ghR (And.intro @ovR (And.intro @evBin_seql (And.intro @evBin_sneq (And.intro @str.eq_1 (And.intro @u8.eq_1 (And.intro @encBrs.eq_1 (And.intro @cBr.eq_1 (And.intro @encLdg.eq_1 (And.intro @encKws.eq_1 (And.intro @cKw.eq_1 (And.intro @encEvss.eq_1 (And.intro @encEvs.eq_1 (And.intro @cEv.eq_1 (And.intro @encMks.eq_1 (And.intro @cMk.eq_1 (And.intro @encStrs.eq_1 (And.intro @encFxs.eq_1 (And.intro @cFx.eq_1 (And.intro @cGp.eq_1 (And.intro @tk2 (And.intro @tk3 (And.intro @List.set_cons_succ.{0} (And.intro @List.getElem?_cons_zero.{0} (And.intro @List.getElem?_cons_succ.{0} (@List.length_set.{0})))))))))))))))))))))))))))))
theorem r_Great29 (l : Ldg) (hl : l.known.length ≤ 9223372036854775807) (hb : l.brs.length ≤ 9223372036854775807) (hv : l.evs.length ≤ 9223372036854775807) (he : ∀ s ∈ l.evs, s.length ≤ 9223372036854775807) : CallSpec cx 32 [encLdg l] (bl (grt29 l)) := by
  refine callSpec_of_vc Tryz.func32 rfl (by decide) (by kernel_rfl) (Nat.le_of_ble_eq_true rfl) ?_
  try simp -dsimp (maxSteps := 9^9) (disch := first | omega | decide +kernel) only [↓bp0, bd0, bd_MH, reduceIte, Nat.reduceEqDiff, evStore, Nat.reduceAdd, Nat.reduceMul, Int.reduceEq, Int.reduceLT, Int.reduceLE, Nat.reduceLeDiff, List.reduceReplicate, reduceCtorEq, evRange, Nat.reduceLT, Tryz.f32]
  refine LoopQ.rule (fun m st => ∃ i : Nat, i ≤ l.known.length ∧ ((l.known.take i).any fun k => big k.chg) = false ∧ m = l.known.length - i ∧
    st = ⟨mkE [(1, .ptr 0 0 0 0), (3, i64 i)], mkS [(0, .row 0 3 [[encKws l.known, encBrs l.brs, encEvss l.evs]] false)], 1⟩) _ _ (weak_of ?_) ⟨0, by omega, by simp, rfl, rfl⟩ ?_
  · first | (simp -dsimp (maxSteps := 9^9) (disch := first | omega | decide +kernel) only [↓bp0, bd0, bd_MH, reduceIte, Nat.reduceEqDiff, evStore, Nat.reduceAdd, Nat.reduceMul, Int.reduceEq, Int.reduceLT, Int.reduceLE, Nat.reduceLeDiff, List.reduceReplicate, reduceCtorEq, evRange, Nat.reduceLT]; done) | simp -dsimp [evl, putN, i64, u32, bl, encL, encB, encLL]
  rintro m st ⟨i, hi, hpre, rfl, rfl⟩
  try simp -dsimp (maxSteps := 9^9) (disch := first | omega | decide +kernel) only [↓bp0, bd0, bd_MH, reduceIte, Nat.reduceEqDiff, evStore, Nat.reduceAdd, Nat.reduceMul, Int.reduceEq, Int.reduceLT, Int.reduceLE, Nat.reduceLeDiff, List.reduceReplicate, reduceCtorEq, evRange, Nat.reduceLT]
  refine onC_nlt (fun h2 => ?_) (fun h2 => ?_)
  · obtain ⟨b, hx, hxm⟩ := get_of_lt h2
    have hbad : big b.chg = true → grt29 l = true := fun h => by rw [grt29, any_hit hx h]; rfl
    cases c1 : decide ((100 : Int) < (b.chg.size : Int))
    · try simp -dsimp (maxSteps := 9^9) (disch := first | omega | decide +kernel) only [↓bp0, bd0, bd_MH, reduceIte, Nat.reduceEqDiff, evStore, Nat.reduceAdd, Nat.reduceMul, Int.reduceEq, Int.reduceLT, Int.reduceLE, Nat.reduceLeDiff, List.reduceReplicate, reduceCtorEq, evRange, Nat.reduceLT, hx, c1]
      refine ⟨_, _, ?_, weak_of ?_, i + 1, h2, any_snoc hx hpre c1, rfl, rfl⟩
      · omega
      · first | (simp -dsimp (maxSteps := 9^9) (disch := first | omega | decide +kernel) only [↓bp0, bd0, bd_MH, reduceIte, Nat.reduceEqDiff, evStore, Nat.reduceAdd, Nat.reduceMul, Int.reduceEq, Int.reduceLT, Int.reduceLE, Nat.reduceLeDiff, List.reduceReplicate, reduceCtorEq, evRange, Nat.reduceLT, wrapS h2 hl]; done) | simp -dsimp [evl, putN, i64, u32, bl, encL, encB, encLL, wrapS h2 hl]
    · simp -dsimp (maxSteps := 9^9) (disch := first | omega | decide +kernel) only [↓bp0, bd0, bd_MH, reduceIte, Nat.reduceEqDiff, evStore, Nat.reduceAdd, Nat.reduceMul, Int.reduceEq, Int.reduceLT, Int.reduceLE, Nat.reduceLeDiff, List.reduceReplicate, reduceCtorEq, evRange, Nat.reduceLT, retQ, resL, finL, newL, flat, tupOf, List.toList_toArray, Tryz.f32, hx, c1]
      exact leT_one (bl_eq (hbad c1).symm) (by simp)
  rw [List.take_of_length_le (by omega)] at hpre
  have e1 : grt29 l = (l.evs.any grtE || decide ((40 : Int) < (l.known.length : Int)) || grt26 l.brs || decide ((20 : Int) < (l.evs.length : Int))) := by rw [grt29, hpre, Bool.false_or]
  clear hpre
  refine LoopQ.rule (fun m st => ∃ i : Nat, i ≤ l.evs.length ∧ (l.evs.take i).any grtE = false ∧ m = l.evs.length - i ∧
    st = ⟨mkE [(1, .ptr 0 0 0 0), (4, i64 i)], mkS [(0, .row 0 3 [[encKws l.known, encBrs l.brs, encEvss l.evs]] false)], 1⟩) _ _ (weak_of ?_) ⟨0, by omega, by simp, rfl, rfl⟩ ?_
  · first | (simp -dsimp (maxSteps := 9^9) (disch := first | omega | decide +kernel) only [↓bp0, bd0, bd_MH, reduceIte, Nat.reduceEqDiff, evStore, Nat.reduceAdd, Nat.reduceMul, Int.reduceEq, Int.reduceLT, Int.reduceLE, Nat.reduceLeDiff, List.reduceReplicate, reduceCtorEq, evRange, Nat.reduceLT]; done) | simp -dsimp [evl, putN, i64, u32, bl, encL, encB, encLL]
  clear hi h2
  rintro m st ⟨i, hi, hpre, rfl, rfl⟩
  try simp -dsimp (maxSteps := 9^9) (disch := first | omega | decide +kernel) only [↓bp0, bd0, bd_MH, reduceIte, Nat.reduceEqDiff, evStore, Nat.reduceAdd, Nat.reduceMul, Int.reduceEq, Int.reduceLT, Int.reduceLE, Nat.reduceLeDiff, List.reduceReplicate, reduceCtorEq, evRange, Nat.reduceLT]
  refine onC_nlt (fun h2 => ?_) (fun h2 => ?_)
  · obtain ⟨own, hx, hxm⟩ := get_of_lt h2
    have hbad : grtE own = true → grt29 l = true := fun h => by rw [e1, any_hit hx h]; rfl
    have hle := he own hxm
    cases c1 : decide ((8 : Int) < (own.length : Int)) <;> cases c2 : decide ((own.length : Int) ≤ 40) <;> cases c3 : decide ((50 : Int) < (own.length : Int))
    case true.true.false | true.true.true =>
      simp -dsimp (maxSteps := 9^9) (disch := first | omega | decide +kernel) only [↓bp0, bd0, bd_MH, reduceIte, Nat.reduceEqDiff, evStore, Nat.reduceAdd, Nat.reduceMul, Int.reduceEq, Int.reduceLT, Int.reduceLE, Nat.reduceLeDiff, List.reduceReplicate, reduceCtorEq, evRange, Nat.reduceLT, retQ, resL, finL, newL, flat, tupOf, List.toList_toArray, Tryz.f32, hx, c1, c2, c3]
      exact leT_one (bl_eq (hbad (by rw [grtE, c1, c2]; rfl)).symm) (by simp)
    case true.false.true | false.true.true | false.false.true =>
      simp -dsimp (maxSteps := 9^9) (disch := first | omega | decide +kernel) only [↓bp0, bd0, bd_MH, reduceIte, Nat.reduceEqDiff, evStore, Nat.reduceAdd, Nat.reduceMul, Int.reduceEq, Int.reduceLT, Int.reduceLE, Nat.reduceLeDiff, List.reduceReplicate, reduceCtorEq, evRange, Nat.reduceLT, retQ, resL, finL, newL, flat, tupOf, List.toList_toArray, Tryz.f32, hx, c1, c2, c3]
      exact leT_one (bl_eq (hbad (by rw [grtE, c1, c2, c3]; rfl)).symm) (by simp)
    all_goals
      have e2 : grtE own = own.any fun e => big e.chg := by rw [grtE, c1, c2, c3]; rfl
      try simp -dsimp (maxSteps := 9^9) (disch := first | omega | decide +kernel) only [↓bp0, bd0, bd_MH, reduceIte, Nat.reduceEqDiff, evStore, Nat.reduceAdd, Nat.reduceMul, Int.reduceEq, Int.reduceLT, Int.reduceLE, Nat.reduceLeDiff, List.reduceReplicate, reduceCtorEq, evRange, Nat.reduceLT, hx, c1, c2, c3]
      refine LoopQ.rule (fun m st => ∃ k : Nat, k ≤ own.length ∧ ((own.take k).any fun e => big e.chg) = false ∧ m = own.length - k ∧
        st = ⟨mkE [(1, .ptr 0 0 0 0), (4, i64 i), (5, i64 k)], mkS [(0, .row 0 3 [[encKws l.known, encBrs l.brs, encEvss l.evs]] false)], 1⟩) _ _ (weak_of ?_) ⟨0, by omega, by simp, rfl, rfl⟩ ?_
      · first | (simp -dsimp (maxSteps := 9^9) (disch := first | omega | decide +kernel) only [↓bp0, bd0, bd_MH, reduceIte, Nat.reduceEqDiff, evStore, Nat.reduceAdd, Nat.reduceMul, Int.reduceEq, Int.reduceLT, Int.reduceLE, Nat.reduceLeDiff, List.reduceReplicate, reduceCtorEq, evRange, Nat.reduceLT]; done) | simp -dsimp [evl, putN, i64, u32, bl, encL, encB, encLL]
      rintro m st ⟨k, hk, hpk, rfl, rfl⟩
      try simp -dsimp (maxSteps := 9^9) (disch := first | omega | decide +kernel) only [↓bp0, bd0, bd_MH, reduceIte, Nat.reduceEqDiff, evStore, Nat.reduceAdd, Nat.reduceMul, Int.reduceEq, Int.reduceLT, Int.reduceLE, Nat.reduceLeDiff, List.reduceReplicate, reduceCtorEq, evRange, Nat.reduceLT, hx]
      refine onC_nlt (fun h3 => ?_) (fun h3 => ?_)
      · obtain ⟨e, hy, hym⟩ := get_of_lt h3
        cases c4 : decide ((100 : Int) < (e.chg.size : Int))
        · try simp -dsimp (maxSteps := 9^9) (disch := first | omega | decide +kernel) only [↓bp0, bd0, bd_MH, reduceIte, Nat.reduceEqDiff, evStore, Nat.reduceAdd, Nat.reduceMul, Int.reduceEq, Int.reduceLT, Int.reduceLE, Nat.reduceLeDiff, List.reduceReplicate, reduceCtorEq, evRange, Nat.reduceLT, hx, hy, c4]
          refine ⟨_, _, ?_, weak_of ?_, k + 1, h3, any_snoc hy hpk c4, rfl, rfl⟩
          · omega
          · first | (simp -dsimp (maxSteps := 9^9) (disch := first | omega | decide +kernel) only [↓bp0, bd0, bd_MH, reduceIte, Nat.reduceEqDiff, evStore, Nat.reduceAdd, Nat.reduceMul, Int.reduceEq, Int.reduceLT, Int.reduceLE, Nat.reduceLeDiff, List.reduceReplicate, reduceCtorEq, evRange, Nat.reduceLT, wrapS h3 hle]; done) | simp -dsimp [evl, putN, i64, u32, bl, encL, encB, encLL, wrapS h3 hle]
        · simp -dsimp (maxSteps := 9^9) (disch := first | omega | decide +kernel) only [↓bp0, bd0, bd_MH, reduceIte, Nat.reduceEqDiff, evStore, Nat.reduceAdd, Nat.reduceMul, Int.reduceEq, Int.reduceLT, Int.reduceLE, Nat.reduceLeDiff, List.reduceReplicate, reduceCtorEq, evRange, Nat.reduceLT, retQ, resL, finL, newL, flat, tupOf, List.toList_toArray, Tryz.f32, hx, hy, c4]
          exact leT_one (bl_eq (hbad (by rw [e2]; exact any_hit hy c4)).symm) (by simp)
      · rw [List.take_of_length_le (by omega)] at hpk
        try simp -dsimp (maxSteps := 9^9) (disch := first | omega | decide +kernel) only [↓bp0, bd0, bd_MH, reduceIte, Nat.reduceEqDiff, evStore, Nat.reduceAdd, Nat.reduceMul, Int.reduceEq, Int.reduceLT, Int.reduceLE, Nat.reduceLeDiff, List.reduceReplicate, reduceCtorEq, evRange, Nat.reduceLT, hx]
        refine ⟨_, _, ?_, weak_of ?_, i + 1, h2, any_snoc hx hpre (by rw [e2, hpk]), rfl, rfl⟩
        · omega
        · first | (simp -dsimp (maxSteps := 9^9) (disch := first | omega | decide +kernel) only [↓bp0, bd0, bd_MH, reduceIte, Nat.reduceEqDiff, evStore, Nat.reduceAdd, Nat.reduceMul, Int.reduceEq, Int.reduceLT, Int.reduceLE, Nat.reduceLeDiff, List.reduceReplicate, reduceCtorEq, evRange, Nat.reduceLT, wrapS h2 hv]; done) | simp -dsimp [evl, putN, i64, u32, bl, encL, encB, encLL, wrapS h2 hv]
  rw [List.take_of_length_le (by omega)] at hpre
  cases c1 : decide ((40 : Int) < (l.known.length : Int))
  case true =>
    simp -dsimp (maxSteps := 9^9) (disch := first | omega | decide +kernel) only [↓bp0, bd0, bd_MH, reduceIte, Nat.reduceEqDiff, evStore, Nat.reduceAdd, Nat.reduceMul, Int.reduceEq, Int.reduceLT, Int.reduceLE, Nat.reduceLeDiff, List.reduceReplicate, reduceCtorEq, evRange, Nat.reduceLT, retQ, resL, finL, newL, flat, tupOf, List.toList_toArray, Tryz.f32, c1]
    exact leT_one (bl_eq (by rw [e1, hpre, c1]; rfl)) (by simp)
  try simp -dsimp (maxSteps := 9^9) (disch := first | omega | decide +kernel) only [↓bp0, bd0, bd_MH, reduceIte, Nat.reduceEqDiff, evStore, Nat.reduceAdd, Nat.reduceMul, Int.reduceEq, Int.reduceLT, Int.reduceLE, Nat.reduceLeDiff, List.reduceReplicate, reduceCtorEq, evRange, Nat.reduceLT, c1]
  first | refine vc_text (by kernel_rfl) ?_ | skip
  try simp -dsimp (maxSteps := 9^9) (disch := first | omega | decide +kernel) only [↓bp0, bd0, bd_MH, reduceIte, Nat.reduceEqDiff, evStore, Nat.reduceAdd, Nat.reduceMul, Int.reduceEq, Int.reduceLT, Int.reduceLE, Nat.reduceLeDiff, List.reduceReplicate, reduceCtorEq, evRange, Nat.reduceLT, c1]
  refine CallQ.imm (r_Great26 l.brs hb) (by rfl) (by first | rfl | (simp -dsimp (maxSteps := 9^9) (disch := first | omega | decide +kernel) only [↓bp0, bd0, bd_MH, reduceIte, Nat.reduceEqDiff, evStore, Nat.reduceAdd, Nat.reduceMul, Int.reduceEq, Int.reduceLT, Int.reduceLE, Nat.reduceLeDiff, List.reduceReplicate, reduceCtorEq, evRange, Nat.reduceLT, drcs, drc, flat]; done) | simp -dsimp [evl, drcs, drc, flat, i64, u32, bl, encL, encB, encLL]) (by first | exact .inl rfl | exact .inr rfl | exact .inr scalB | exact .inr scalI | exact .inr scalT | exact .inr scalM | exact .inr scalMT) ?_
  cases c2 : grt26 l.brs
  case true =>
    simp -dsimp (maxSteps := 9^9) (disch := first | omega | decide +kernel) only [↓bp0, bd0, bd_MH, reduceIte, Nat.reduceEqDiff, evStore, Nat.reduceAdd, Nat.reduceMul, Int.reduceEq, Int.reduceLT, Int.reduceLE, Nat.reduceLeDiff, List.reduceReplicate, reduceCtorEq, evRange, Nat.reduceLT, retQ, resL, finL, newL, flat, tupOf, List.toList_toArray, Tryz.f32, c1, c2]
    exact leT_one (bl_eq (by rw [e1, hpre, c1, c2]; rfl)) (by simp)
  cases c3 : decide ((20 : Int) < (l.evs.length : Int))
  · simp -dsimp (maxSteps := 9^9) (disch := first | omega | decide +kernel) only [↓bp0, bd0, bd_MH, reduceIte, Nat.reduceEqDiff, evStore, Nat.reduceAdd, Nat.reduceMul, Int.reduceEq, Int.reduceLT, Int.reduceLE, Nat.reduceLeDiff, List.reduceReplicate, reduceCtorEq, evRange, Nat.reduceLT, retQ, resL, finL, newL, flat, tupOf, List.toList_toArray, Tryz.f32, c1, c2, c3]
    exact leT_one (bl_eq (by rw [e1, hpre, c1, c2, c3]; rfl)) (by simp)
  · simp -dsimp (maxSteps := 9^9) (disch := first | omega | decide +kernel) only [↓bp0, bd0, bd_MH, reduceIte, Nat.reduceEqDiff, evStore, Nat.reduceAdd, Nat.reduceMul, Int.reduceEq, Int.reduceLT, Int.reduceLE, Nat.reduceLeDiff, List.reduceReplicate, reduceCtorEq, evRange, Nat.reduceLT, retQ, resL, finL, newL, flat, tupOf, List.toList_toArray, Tryz.f32, c1, c2, c3]
    exact leT_one (bl_eq (by rw [e1, hpre, c1, c2, c3]; rfl)) (by simp)
theorem r_Great34 (l : Ldg) (x : List Fx) (hl : l.known.length ≤ 9223372036854775807) (hb : l.brs.length ≤ 9223372036854775807) (hv : l.evs.length ≤ 9223372036854775807) (he : ∀ s ∈ l.evs, s.length ≤ 9223372036854775807)
    (hx : x.length ≤ 9223372036854775807) (hxb : ∀ f ∈ x, f.brs.length ≤ 9223372036854775807) : CallSpec cx 12 [encLdg l, encFxs x] (bl (grt34 l x)) := by
  refine callSpec_of_vc Tryz.func12 rfl (by decide) (by kernel_rfl) (Nat.le_of_ble_eq_true rfl) ?_
  try simp -dsimp (disch := first | omega | decide +kernel) only [↓bp0, bd0, bd_MH, reduceIte, Nat.reduceEqDiff, evStore, Nat.reduceAdd, Nat.reduceMul, Int.reduceEq, Int.reduceLT, Int.reduceLE, Nat.reduceLeDiff, List.reduceReplicate, reduceCtorEq, evRange, Nat.reduceLT, Tryz.f12]
  refine LoopQ.rule (fun m st => ∃ i : Nat, i ≤ x.length ∧ (x.take i).any grtF = false ∧ m = x.length - i ∧
    st = ⟨mkE [(1, encFxs x), (2, .ptr 0 0 0 0), (5, i64 i)], mkS [(0, .row 0 3 [[encKws l.known, encBrs l.brs, encEvss l.evs]] false)], 1⟩) _ _ (weak_of ?_) ⟨0, by omega, by simp, rfl, rfl⟩ ?_
  · first | (simp -dsimp (disch := first | omega | decide +kernel) only [↓bp0, bd0, bd_MH, reduceIte, Nat.reduceEqDiff, evStore, Nat.reduceAdd, Nat.reduceMul, Int.reduceEq, Int.reduceLT, Int.reduceLE, Nat.reduceLeDiff, List.reduceReplicate, reduceCtorEq, evRange, Nat.reduceLT]; done) | simp -dsimp [evl, putN, i64, u32, bl, encL, encB, encLL]
  rintro m st ⟨i, hi, hpre, rfl, rfl⟩
  try simp -dsimp (disch := first | omega | decide +kernel) only [↓bp0, bd0, bd_MH, reduceIte, Nat.reduceEqDiff, evStore, Nat.reduceAdd, Nat.reduceMul, Int.reduceEq, Int.reduceLT, Int.reduceLE, Nat.reduceLeDiff, List.reduceReplicate, reduceCtorEq, evRange, Nat.reduceLT]
  refine onC_nlt (fun h2 => ?_) (fun h2 => ?_)
  · obtain ⟨f, hf, hfm⟩ := get_of_lt h2
    have hbad : grtF f = true → grt34 l x = true := fun h => by rw [grt34, any_hit hf h]; rfl
    have hle := hxb f hfm
    cases c1 : decide ((20 : Int) < (f.brs.length : Int))
    case true =>
      simp -dsimp (disch := first | omega | decide +kernel) only [↓bp0, bd0, bd_MH, reduceIte, Nat.reduceEqDiff, evStore, Nat.reduceAdd, Nat.reduceMul, Int.reduceEq, Int.reduceLT, Int.reduceLE, Nat.reduceLeDiff, List.reduceReplicate, reduceCtorEq, evRange, Nat.reduceLT, retQ, resL, finL, newL, flat, tupOf, List.toList_toArray, Tryz.f12, hf, c1]
      exact leT_one (bl_eq (hbad (by rw [grtF, c1]; rfl)).symm) (by simp)
    have e2 : grtF f = f.brs.any big := by rw [grtF, c1]; rfl
    try simp -dsimp (disch := first | omega | decide +kernel) only [↓bp0, bd0, bd_MH, reduceIte, Nat.reduceEqDiff, evStore, Nat.reduceAdd, Nat.reduceMul, Int.reduceEq, Int.reduceLT, Int.reduceLE, Nat.reduceLeDiff, List.reduceReplicate, reduceCtorEq, evRange, Nat.reduceLT, hf, c1]
    refine LoopQ.rule (fun m st => ∃ k : Nat, k ≤ f.brs.length ∧ (f.brs.take k).any big = false ∧ m = f.brs.length - k ∧
      st = ⟨mkE [(1, encFxs x), (2, .ptr 0 0 0 0), (5, i64 i), (6, i64 k)], mkS [(0, .row 0 3 [[encKws l.known, encBrs l.brs, encEvss l.evs]] false)], 1⟩) _ _ (weak_of ?_) ⟨0, by omega, by simp, rfl, rfl⟩ ?_
    · first | (simp -dsimp (disch := first | omega | decide +kernel) only [↓bp0, bd0, bd_MH, reduceIte, Nat.reduceEqDiff, evStore, Nat.reduceAdd, Nat.reduceMul, Int.reduceEq, Int.reduceLT, Int.reduceLE, Nat.reduceLeDiff, List.reduceReplicate, reduceCtorEq, evRange, Nat.reduceLT]; done) | simp -dsimp [evl, putN, i64, u32, bl, encL, encB, encLL]
    rintro m st ⟨k, hk, hpk, rfl, rfl⟩
    try simp -dsimp (disch := first | omega | decide +kernel) only [↓bp0, bd0, bd_MH, reduceIte, Nat.reduceEqDiff, evStore, Nat.reduceAdd, Nat.reduceMul, Int.reduceEq, Int.reduceLT, Int.reduceLE, Nat.reduceLeDiff, List.reduceReplicate, reduceCtorEq, evRange, Nat.reduceLT, hf]
    refine onC_nlt (fun h3 => ?_) (fun h3 => ?_)
    · obtain ⟨e, hy, hym⟩ := get_of_lt h3
      cases c4 : decide ((100 : Int) < (e.size : Int))
      · try simp -dsimp (disch := first | omega | decide +kernel) only [↓bp0, bd0, bd_MH, reduceIte, Nat.reduceEqDiff, evStore, Nat.reduceAdd, Nat.reduceMul, Int.reduceEq, Int.reduceLT, Int.reduceLE, Nat.reduceLeDiff, List.reduceReplicate, reduceCtorEq, evRange, Nat.reduceLT, hf, hy, c4]
        refine ⟨_, _, ?_, weak_of ?_, k + 1, h3, any_snoc hy hpk c4, rfl, rfl⟩
        · omega
        · first | (simp -dsimp (disch := first | omega | decide +kernel) only [↓bp0, bd0, bd_MH, reduceIte, Nat.reduceEqDiff, evStore, Nat.reduceAdd, Nat.reduceMul, Int.reduceEq, Int.reduceLT, Int.reduceLE, Nat.reduceLeDiff, List.reduceReplicate, reduceCtorEq, evRange, Nat.reduceLT, wrapS h3 hle]; done) | simp -dsimp [evl, putN, i64, u32, bl, encL, encB, encLL, wrapS h3 hle]
      · simp -dsimp (disch := first | omega | decide +kernel) only [↓bp0, bd0, bd_MH, reduceIte, Nat.reduceEqDiff, evStore, Nat.reduceAdd, Nat.reduceMul, Int.reduceEq, Int.reduceLT, Int.reduceLE, Nat.reduceLeDiff, List.reduceReplicate, reduceCtorEq, evRange, Nat.reduceLT, retQ, resL, finL, newL, flat, tupOf, List.toList_toArray, Tryz.f12, hf, hy, c4]
        exact leT_one (bl_eq (hbad (by rw [e2]; exact any_hit hy c4)).symm) (by simp)
    · rw [List.take_of_length_le (by omega)] at hpk
      try simp -dsimp (disch := first | omega | decide +kernel) only [↓bp0, bd0, bd_MH, reduceIte, Nat.reduceEqDiff, evStore, Nat.reduceAdd, Nat.reduceMul, Int.reduceEq, Int.reduceLT, Int.reduceLE, Nat.reduceLeDiff, List.reduceReplicate, reduceCtorEq, evRange, Nat.reduceLT, hf]
      refine ⟨_, _, ?_, weak_of ?_, i + 1, h2, any_snoc hf hpre (by rw [e2, hpk]), rfl, rfl⟩
      · omega
      · first | (simp -dsimp (disch := first | omega | decide +kernel) only [↓bp0, bd0, bd_MH, reduceIte, Nat.reduceEqDiff, evStore, Nat.reduceAdd, Nat.reduceMul, Int.reduceEq, Int.reduceLT, Int.reduceLE, Nat.reduceLeDiff, List.reduceReplicate, reduceCtorEq, evRange, Nat.reduceLT, wrapS h2 hx]; done) | simp -dsimp [evl, putN, i64, u32, bl, encL, encB, encLL, wrapS h2 hx]
  rw [List.take_of_length_le (by omega)] at hpre
  have e1 : grt34 l x = (grt29 l || (decide ((10 : Int) < (x.length : Int)) && decide ((x.length : Int) ≤ 30)) || decide ((40 : Int) < (x.length : Int))) := by rw [grt34, hpre, Bool.false_or]
  try simp -dsimp (disch := first | omega | decide +kernel) only [↓bp0, bd0, bd_MH, reduceIte, Nat.reduceEqDiff, evStore, Nat.reduceAdd, Nat.reduceMul, Int.reduceEq, Int.reduceLT, Int.reduceLE, Nat.reduceLeDiff, List.reduceReplicate, reduceCtorEq, evRange, Nat.reduceLT]
  refine CallQ.imm (r_Great29 l hl hb hv he) (by rfl) (by rfl) (by first | exact .inl rfl | exact .inr rfl | exact .inr scalB | exact .inr scalI | exact .inr scalT | exact .inr scalM | exact .inr scalMT) ?_
  cases c1 : grt29 l
  case true =>
    cases c4 : decide ((40 : Int) < (x.length : Int)) <;> cases c2 : decide ((10 : Int) < (x.length : Int)) <;> cases c3 : decide ((x.length : Int) ≤ 30)
    all_goals
      simp -dsimp (disch := first | omega | decide +kernel) only [↓bp0, bd0, bd_MH, reduceIte, Nat.reduceEqDiff, evStore, Nat.reduceAdd, Nat.reduceMul, Int.reduceEq, Int.reduceLT, Int.reduceLE, Nat.reduceLeDiff, List.reduceReplicate, reduceCtorEq, evRange, Nat.reduceLT, retQ, resL, finL, newL, flat, tupOf, List.toList_toArray, Tryz.f12, c1, c2, c3, c4]
      exact leT_one (bl_eq (by rw [e1, c1]; rfl)) (by simp)
  cases c4 : decide ((40 : Int) < (x.length : Int)) <;> cases c2 : decide ((10 : Int) < (x.length : Int)) <;> cases c3 : decide ((x.length : Int) ≤ 30)
  all_goals
    simp -dsimp (disch := first | omega | decide +kernel) only [↓bp0, bd0, bd_MH, reduceIte, Nat.reduceEqDiff, evStore, Nat.reduceAdd, Nat.reduceMul, Int.reduceEq, Int.reduceLT, Int.reduceLE, Nat.reduceLeDiff, List.reduceReplicate, reduceCtorEq, evRange, Nat.reduceLT, retQ, resL, finL, newL, flat, tupOf, List.toList_toArray, Tryz.f12, c1, c2, c3, c4]
    exact leT_one (bl_eq (by rw [e1, c1, c2, c3, c4]; rfl)) (by simp)
end Go.Ab
end
