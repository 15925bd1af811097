/- NotesOnce: the pieces of its loops. -/
import Derived.Test.YtgcodedanljhpaaGreatDoorQE
set_option linter.unusedSimpArgs false
set_option linter.unusedVariables false
section
set_option maxRecDepth 1000000
set_option maxHeartbeats 40000000
namespace Go.Ab
open Go Go.Proofs Go.Sort
theorem bd_QFh : type_of% (And.intro @evNext.eq_1 (And.intro @fld (And.intro @nit (And.intro @nxE (And.intro @ghR (And.intro @ovR (And.intro @evBin_seql (And.intro @evBin_sneq (And.intro @str.eq_1 (And.intro @u8.eq_1 (And.intro @encBrs.eq_1 (And.intro @cBr.eq_1 (And.intro @encLdg.eq_1 (And.intro @encKws.eq_1 (And.intro @cKw.eq_1 (And.intro @encEvss.eq_1 (And.intro @encEvs.eq_1 (And.intro @cEv.eq_1 (And.intro @encMks.eq_1 (And.intro @cMk.eq_1 (And.intro @encStrs.eq_1 (And.intro @tk2 (And.intro @tk3 (And.intro @List.set_cons_succ.{0} (And.intro @List.getElem?_cons_zero.{0} (And.intro @List.getElem?_cons_succ.{0} (@List.length_set.{0}))))))))))))))))))))))))))) := And.intro @evNext.eq_1 (And.intro @fld (And.intro @nit (And.intro @nxE (And.intro @ghR (And.intro @ovR (And.intro @evBin_seql (And.intro @evBin_sneq (And.intro @str.eq_1 (And.intro @u8.eq_1 (And.intro @encBrs.eq_1 (And.intro @cBr.eq_1 (And.intro @encLdg.eq_1 (And.intro @encKws.eq_1 (And.intro @cKw.eq_1 (And.intro @encEvss.eq_1 (And.intro @encEvs.eq_1 (And.intro @cEv.eq_1 (And.intro @encMks.eq_1 (And.intro @cMk.eq_1 (And.intro @encStrs.eq_1 (And.intro @tk2 (And.intro @tk3 (And.intro @List.set_cons_succ.{0} (And.intro @List.getElem?_cons_zero.{0} (And.intro @List.getElem?_cons_succ.{0} (@List.length_set.{0}))))))))))))))))))))))))))
theorem evBnb {x y : Operand} {a b : Bool} : evBin cx .neq 4 x y (.lit (.bool a)) (.lit (.bool b)) = some (.lit (.bool (a != b))) := by
  cases a <;> cases b <;> kernel_rfl
theorem scalLs {m : Nat × Nat} {a b : Int} : scal (.tup [.agg (cMk m), u8 a, i64 b]) = true := by rfl
theorem scalDf {a b : List Int} {n : Int} : scal (.tup [newI a, newI b, i64 n]) = true := by
  simp only [scal, scal1, newI, List.all_map, List.all_eq_true, List.all_cons, List.all_nil, Bool.and_true, Bool.and_eq_true, i64]
  first | exact ⟨fun x _ => rfl, fun x _ => rfl, rfl⟩ | exact ⟨fun x _ => rfl, fun x _ => rfl⟩ | exact fun x _ => rfl
def loopsC : Code → List Code
  | .loop c => c :: loopsC c
  | .seq a b => loopsC a ++ loopsC b
  | .block _ c => loopsC c
  | .cond _ a b => loopsC a ++ loopsC b
  | _ => []
def bodyOf (f : Func) (k : Nat) : Code := match f.body with
  | some c => (loopsC c).getD k .skip
  | none => .skip
def codeH1 : Code → Code
  | .seq _ (.seq (.block _ h) _) => h
  | _ => .skip
def codeH2 : Code → Code
  | .seq _ (.seq (.block _ (.seq h _)) _) => h
  | _ => .skip
def codeT2 : Code → Code
  | .seq _ (.seq (.block _ (.seq _ t)) _) => t
  | _ => .skip
noncomputable def onceH1 : Code := codeH1 (bodyOf Tryz.f9 0)
noncomputable def onceH2 : Code := codeH2 (bodyOf Tryz.f9 1)
noncomputable def onceT2 : Code := codeT2 (bodyOf Tryz.f9 1)
def onS1 (l : Ldg) (b : Str) (X Y : List Nt) (V : List Ev) (i : Nat) (nx : Nat) : St := ⟨mkE [(2, str b), (3, .ptr 0 0 0 0), (7, bl true), (11, encNts X), (13, encNts Y), (15, encEvs V), (17, i64 i)], mkS [(0, .row 0 3 [[encKws l.known, encBrs l.brs, encEvss l.evs]] false)], nx⟩
def onS2 (l : Ldg) (b : Str) (Y : List Nt) (V : List Ev) (i : Nat) (nx : Nat) : St := ⟨mkE [(2, str b), (3, .ptr 0 0 0 0), (7, bl true), (13, encNts Y), (15, encEvs V), (18, i64 i)], mkS [(0, .row 0 3 [[encKws l.known, encBrs l.brs, encEvss l.evs]] false)], nx⟩
theorem on_T2 (l : Ldg) (b : Str) (Y : List Nt) (V : List Ev) (i nx : Nat) (hz : LSz l) (hvb : (lview l b).2 = 0) (n : Nt) (hx : Y[i]? = some n) (hnx : 1 ≤ nx) (k : Int) (je : Int) (mk : Nat × Nat)
    (k6 : CallSpec cx 43 [encLdg l, str b, i64 n.cls] (.tup [.agg (cMk mk), u8 k, i64 je]))
    (hj : (je = 6 ∧ decide (n.pl < 0) = true) ∨ (je = 0 ∧ decide (n.pl < 0) = false ∧ k = n.kind)) :
    AbsW cx Tryz.f9.ntmps onceT2 (onS2 l b Y V i nx) fun e s => e = .normal ∧ Weak s (onS2 l b Y V i (nx + 1)) := by
  have hE1_0a : (nx = 0) = False := by simp; omega
  have hE1_0b : (0 = nx) = False := by simp; omega
  refine vc_sound _ _ _ (by kernel_rfl) ?_
  try simp -dsimp (maxSteps := 60000000) (disch := first | omega | decide +kernel) only [↓bp0, bd0, bd_QFh, reduceIte, Nat.reduceEqDiff, evStore, Nat.reduceAdd, Nat.reduceMul, Int.reduceEq, Int.reduceLT, Int.reduceLE, Nat.reduceLeDiff, List.reduceReplicate, reduceCtorEq, evRange, cNt, tk4, Nat.reduceLT, onceT2, codeT2, bodyOf, Tryz.f9, loopsC, onS2, List.nil_append, List.cons_append, List.append_nil, List.getD_cons_succ, List.getD_cons_zero]
  refine vc_regJ (fun τ => τ 0 = some (.row 0 3 [[encKws l.known, encBrs l.brs, encEvss l.evs]] false)) [0, 1, 2, 3, 4, 5, 6, 7, 8, 9, 10, 11] [] (by kernel_rfl) (by kernel_rfl) ?_ ?_
  · exact (by simp -dsimp (maxSteps := 60000000) (disch := first | omega | decide +kernel) only [↓bp0, bd0, bd_QFh, reduceIte, Nat.reduceEqDiff, evStore, Nat.reduceAdd, Nat.reduceMul, Int.reduceEq, Int.reduceLT, Int.reduceLE, Nat.reduceLeDiff, List.reduceReplicate, reduceCtorEq, evRange, cNt, tk4, Nat.reduceLT, hE1_0a, hE1_0b])
  try simp -dsimp (maxSteps := 60000000) (disch := first | omega | decide +kernel) only [↓bp0, bd0, bd_QFh, reduceIte, Nat.reduceEqDiff, evStore, Nat.reduceAdd, Nat.reduceMul, Int.reduceEq, Int.reduceLT, Int.reduceLE, Nat.reduceLeDiff, List.reduceReplicate, reduceCtorEq, evRange, cNt, tk4, Nat.reduceLT, vcj, implies_true, hx, encNts, hE1_0a, hE1_0b]
  refine ⟨fun τ hτ => by simp -dsimp (maxSteps := 60000000) (disch := first | omega | decide +kernel) only [↓bp0, bd0, bd_QFh, reduceIte, Nat.reduceEqDiff, evStore, Nat.reduceAdd, Nat.reduceMul, Int.reduceEq, Int.reduceLT, Int.reduceLE, Nat.reduceLeDiff, List.reduceReplicate, reduceCtorEq, evRange, cNt, tk4, Nat.reduceLT, hτ], ?_⟩
  try simp -dsimp (maxSteps := 60000000) (disch := first | omega | decide +kernel) only [↓bp0, bd0, bd_QFh, reduceIte, Nat.reduceEqDiff, evStore, Nat.reduceAdd, Nat.reduceMul, Int.reduceEq, Int.reduceLT, Int.reduceLE, Nat.reduceLeDiff, List.reduceReplicate, reduceCtorEq, evRange, cNt, tk4, Nat.reduceLT, vcj, implies_true, hx, encNts, hE1_0a, hE1_0b]
  refine CallJ.imm (k6) (fun _ _ => by rfl) (fun _ _ => by rfl) (by first | exact .inl rfl | exact .inr rfl | exact .inr scalB | exact .inr scalI | exact .inr scalT | exact .inr scalM | exact .inr scalMT | exact .inr scalE | exact .inr scalET | exact .inr scalN | exact .inr scalNT | exact .inr scalLs | exact .inr scalDf) ?_
  rcases hj with ⟨rfl, h1⟩ | ⟨rfl, h1, rfl⟩
  · try simp -dsimp (maxSteps := 60000000) (disch := first | omega | decide +kernel) only [↓bp0, bd0, bd_QFh, reduceIte, Nat.reduceEqDiff, evStore, Nat.reduceAdd, Nat.reduceMul, Int.reduceEq, Int.reduceLT, Int.reduceLE, Nat.reduceLeDiff, List.reduceReplicate, reduceCtorEq, evRange, cNt, tk4, Nat.reduceLT, vcj, implies_true, or_true, true_and, hx, h1, encNts, decide_true, decide_false, Bool.not_true, Bool.not_false, evBnb, bne_self_eq_false, hE1_0a, hE1_0b]
    first | refine vc_text (by kernel_rfl) ?_ | skip
    try simp -dsimp (maxSteps := 60000000) (disch := first | omega | decide +kernel) only [↓bp0, bd0, bd_QFh, reduceIte, Nat.reduceEqDiff, evStore, Nat.reduceAdd, Nat.reduceMul, Int.reduceEq, Int.reduceLT, Int.reduceLE, Nat.reduceLeDiff, List.reduceReplicate, reduceCtorEq, evRange, cNt, tk4, Nat.reduceLT, hx, h1, encNts, decide_true, decide_false, Bool.not_true, Bool.not_false, evBnb, bne_self_eq_false, hE1_0a, hE1_0b]
    refine weak_of ?_
    first | (simp -dsimp (maxSteps := 60000000) (disch := first | omega | decide +kernel) only [↓bp0, bd0, bd_QFh, reduceIte, Nat.reduceEqDiff, evStore, Nat.reduceAdd, Nat.reduceMul, Int.reduceEq, Int.reduceLT, Int.reduceLE, Nat.reduceLeDiff, List.reduceReplicate, reduceCtorEq, evRange, cNt, tk4, Nat.reduceLT, encNts, hE1_0a, hE1_0b]; done) | simp -dsimp [evl, putN, i64, u32, bl, encL, encB, encLL, encNts, hE1_0a, hE1_0b]
  · try simp -dsimp (maxSteps := 60000000) (disch := first | omega | decide +kernel) only [↓bp0, bd0, bd_QFh, reduceIte, Nat.reduceEqDiff, evStore, Nat.reduceAdd, Nat.reduceMul, Int.reduceEq, Int.reduceLT, Int.reduceLE, Nat.reduceLeDiff, List.reduceReplicate, reduceCtorEq, evRange, cNt, tk4, Nat.reduceLT, vcj, implies_true, or_true, true_and, hx, h1, encNts, decide_true, decide_false, Bool.not_true, Bool.not_false, evBnb, bne_self_eq_false, hE1_0a, hE1_0b]
    refine weak_of ?_
    first | (simp -dsimp (maxSteps := 60000000) (disch := first | omega | decide +kernel) only [↓bp0, bd0, bd_QFh, reduceIte, Nat.reduceEqDiff, evStore, Nat.reduceAdd, Nat.reduceMul, Int.reduceEq, Int.reduceLT, Int.reduceLE, Nat.reduceLeDiff, List.reduceReplicate, reduceCtorEq, evRange, cNt, tk4, Nat.reduceLT, encNts, hE1_0a, hE1_0b]; done) | simp -dsimp [evl, putN, i64, u32, bl, encL, encB, encLL, encNts, hE1_0a, hE1_0b]
end Go.Ab
end

section
/- NotesOnce: rounds of its second loop, notes without a place. -/
set_option maxRecDepth 1000000
set_option maxHeartbeats 40000000
namespace Go.Ab
open Go Go.Proofs Go.Sort
theorem on_HA0 (l : Ldg) (b : Str) (Y : List Nt) (V : List Ev) (i nx : Nat) (n : Nt) (hx : Y[i]? = some n) (e1 : decide (n.pl < -1) = false) (e2 : decide ((V.length : Int) ≤ n.pl) = false) (e3 : decide ((0 : Int) ≤ n.pl) = false) (d0 : decide ((0 : Int) < (i : Int)) = false) :
    AbsW cx Tryz.f9.ntmps onceH2 (onS2 l b Y V i nx) fun e s => e = .normal ∧ Weak s (onS2 l b Y V i nx) := by
  refine vc_sound _ _ _ (by kernel_rfl) ?_
  try simp -dsimp (maxSteps := 60000000) (disch := first | omega | decide +kernel) only [↓bp0, bd0, reduceIte, Nat.reduceEqDiff, evStore, Nat.reduceAdd, Nat.reduceMul, Int.reduceEq, Int.reduceLT, Int.reduceLE, Nat.reduceLeDiff, List.reduceReplicate, reduceCtorEq, evRange, evNext, fld, nit, nxE, ghR, ovR, evBin_seql, evBin_sneq, str, u8, encBrs, cBr, encLdg, encKws, cKw, encEvss, encEvs, cEv, encMks, cMk, encStrs, cNt, tk4, tk2, tk3, List.set_cons_succ, List.getElem?_cons_zero, List.getElem?_cons_succ, Nat.reduceLT, List.length_set, onceH2, codeH2, bodyOf, Tryz.f9, loopsC, onS2, List.nil_append, List.cons_append, List.append_nil, List.getD_cons_succ, List.getD_cons_zero, hx, e1, e2, e3, d0, encNts, List.length_map, decide_true, decide_false, Bool.not_true, Int.reduceNeg, List.append_eq, List.append]
  first | refine ⟨rfl, weak_of ?_⟩ | refine weak_of ?_
  first | (simp -dsimp (maxSteps := 60000000) (disch := first | omega | decide +kernel) only [↓bp0, bd0, reduceIte, Nat.reduceEqDiff, evStore, Nat.reduceAdd, Nat.reduceMul, Int.reduceEq, Int.reduceLT, Int.reduceLE, Nat.reduceLeDiff, List.reduceReplicate, reduceCtorEq, evRange, evNext, fld, nit, nxE, ghR, ovR, evBin_seql, evBin_sneq, str, u8, encBrs, cBr, encLdg, encKws, cKw, encEvss, encEvs, cEv, encMks, cMk, encStrs, cNt, tk4, tk2, tk3, List.set_cons_succ, List.getElem?_cons_zero, List.getElem?_cons_succ, Nat.reduceLT, List.length_set, encNts]; done) | simp -dsimp [evl, putN, i64, u32, bl, encL, encB, encLL, encNts]
theorem on_HAi (l : Ldg) (b : Str) (Y : List Nt) (V : List Ev) (i nx : Nat) (n : Nt) (hx : Y[i]? = some n) (e1 : decide (n.pl < -1) = false) (e2 : decide ((V.length : Int) ≤ n.pl) = false) (e3 : decide ((0 : Int) ≤ n.pl) = false) (d0 : decide ((0 : Int) < (i : Int)) = true) (hw : IntKind.i64.wrap ((i : Int) - 1) = ((i - 1 : Nat) : Int)) (q : Nt) (hq : Y[i - 1]? = some q) (e4 : decide (n.pl ≤ q.pl) = true) (e5 : decide ((0 : Int) ≤ q.pl) = false) (e6 : decide (n.cls ≤ q.cls) = false) :
    AbsW cx Tryz.f9.ntmps onceH2 (onS2 l b Y V i nx) fun e s => e = .normal ∧ Weak s (onS2 l b Y V i nx) := by
  refine vc_sound _ _ _ (by kernel_rfl) ?_
  try simp -dsimp (maxSteps := 60000000) (disch := first | omega | decide +kernel) only [↓bp0, bd0, reduceIte, Nat.reduceEqDiff, evStore, Nat.reduceAdd, Nat.reduceMul, Int.reduceEq, Int.reduceLT, Int.reduceLE, Nat.reduceLeDiff, List.reduceReplicate, reduceCtorEq, evRange, evNext, fld, nit, nxE, ghR, ovR, evBin_seql, evBin_sneq, str, u8, encBrs, cBr, encLdg, encKws, cKw, encEvss, encEvs, cEv, encMks, cMk, encStrs, cNt, tk4, tk2, tk3, List.set_cons_succ, List.getElem?_cons_zero, List.getElem?_cons_succ, Nat.reduceLT, List.length_set, onceH2, codeH2, bodyOf, Tryz.f9, loopsC, onS2, List.nil_append, List.cons_append, List.append_nil, List.getD_cons_succ, List.getD_cons_zero, hx, e1, e2, e3, d0, hw, hq, e4, e5, e6, encNts, List.length_map, decide_true, decide_false, Bool.not_true, Int.reduceNeg, List.append_eq, List.append]
  first | refine ⟨rfl, weak_of ?_⟩ | refine weak_of ?_
  first | (simp -dsimp (maxSteps := 60000000) (disch := first | omega | decide +kernel) only [↓bp0, bd0, reduceIte, Nat.reduceEqDiff, evStore, Nat.reduceAdd, Nat.reduceMul, Int.reduceEq, Int.reduceLT, Int.reduceLE, Nat.reduceLeDiff, List.reduceReplicate, reduceCtorEq, evRange, evNext, fld, nit, nxE, ghR, ovR, evBin_seql, evBin_sneq, str, u8, encBrs, cBr, encLdg, encKws, cKw, encEvss, encEvs, cEv, encMks, cMk, encStrs, cNt, tk4, tk2, tk3, List.set_cons_succ, List.getElem?_cons_zero, List.getElem?_cons_succ, Nat.reduceLT, List.length_set, encNts]; done) | simp -dsimp [evl, putN, i64, u32, bl, encL, encB, encLL, encNts]
end Go.Ab
end

section
/- NotesOnce: rounds of its second loop, notes with a place. -/
set_option maxRecDepth 1000000
set_option maxHeartbeats 40000000
namespace Go.Ab
open Go Go.Proofs Go.Sort
theorem on_HB0 (l : Ldg) (b : Str) (Y : List Nt) (V : List Ev) (i nx : Nat) (n : Nt) (hx : Y[i]? = some n) (p : Nat) (e : Ev) (hp : n.pl = (p : Int)) (hv : V[p]? = some e) (hec : e.chg = n.chg) (hk3 : n.kind = 3) (e1 : decide ((p : Int) < -1) = false) (e2 : decide ((V.length : Int) ≤ (p : Int)) = false) (e3 : decide ((0 : Int) ≤ (p : Int)) = true) (d0 : decide ((0 : Int) < (i : Int)) = false) :
    AbsW cx Tryz.f9.ntmps onceH2 (onS2 l b Y V i nx) fun e s => e = .normal ∧ Weak s (onS2 l b Y V i nx) := by
  refine vc_sound _ _ _ (by kernel_rfl) ?_
  try simp -dsimp (maxSteps := 60000000) (disch := first | omega | decide +kernel) only [↓bp0, bd0, reduceIte, Nat.reduceEqDiff, evStore, Nat.reduceAdd, Nat.reduceMul, Int.reduceEq, Int.reduceLT, Int.reduceLE, Nat.reduceLeDiff, List.reduceReplicate, reduceCtorEq, evRange, evNext, fld, nit, nxE, ghR, ovR, evBin_seql, evBin_sneq, str, u8, encBrs, cBr, encLdg, encKws, cKw, encEvss, encEvs, cEv, encMks, cMk, encStrs, cNt, tk4, tk2, tk3, List.set_cons_succ, List.getElem?_cons_zero, List.getElem?_cons_succ, Nat.reduceLT, List.length_set, onceH2, codeH2, bodyOf, Tryz.f9, loopsC, onS2, List.nil_append, List.cons_append, List.append_nil, List.getD_cons_succ, List.getD_cons_zero, hx, hp, hv, hec, hk3, e1, e2, e3, d0, encNts, List.length_map, decide_true, decide_false, Bool.not_true, Int.reduceNeg, List.append_eq, List.append]
  first | refine ⟨rfl, weak_of ?_⟩ | refine weak_of ?_
  first | (simp -dsimp (maxSteps := 60000000) (disch := first | omega | decide +kernel) only [↓bp0, bd0, reduceIte, Nat.reduceEqDiff, evStore, Nat.reduceAdd, Nat.reduceMul, Int.reduceEq, Int.reduceLT, Int.reduceLE, Nat.reduceLeDiff, List.reduceReplicate, reduceCtorEq, evRange, evNext, fld, nit, nxE, ghR, ovR, evBin_seql, evBin_sneq, str, u8, encBrs, cBr, encLdg, encKws, cKw, encEvss, encEvs, cEv, encMks, cMk, encStrs, cNt, tk4, tk2, tk3, List.set_cons_succ, List.getElem?_cons_zero, List.getElem?_cons_succ, Nat.reduceLT, List.length_set, encNts]; done) | simp -dsimp [evl, putN, i64, u32, bl, encL, encB, encLL, encNts]
theorem on_HBi (l : Ldg) (b : Str) (Y : List Nt) (V : List Ev) (i nx : Nat) (n : Nt) (hx : Y[i]? = some n) (p : Nat) (e : Ev) (hp : n.pl = (p : Int)) (hv : V[p]? = some e) (hec : e.chg = n.chg) (hk3 : n.kind = 3) (e1 : decide ((p : Int) < -1) = false) (e2 : decide ((V.length : Int) ≤ (p : Int)) = false) (e3 : decide ((0 : Int) ≤ (p : Int)) = true) (d0 : decide ((0 : Int) < (i : Int)) = true) (hw : IntKind.i64.wrap ((i : Int) - 1) = ((i - 1 : Nat) : Int)) (q : Nt) (hq : Y[i - 1]? = some q) (e4 : decide ((p : Int) ≤ q.pl) = false) :
    AbsW cx Tryz.f9.ntmps onceH2 (onS2 l b Y V i nx) fun e s => e = .normal ∧ Weak s (onS2 l b Y V i nx) := by
  refine vc_sound _ _ _ (by kernel_rfl) ?_
  try simp -dsimp (maxSteps := 60000000) (disch := first | omega | decide +kernel) only [↓bp0, bd0, reduceIte, Nat.reduceEqDiff, evStore, Nat.reduceAdd, Nat.reduceMul, Int.reduceEq, Int.reduceLT, Int.reduceLE, Nat.reduceLeDiff, List.reduceReplicate, reduceCtorEq, evRange, evNext, fld, nit, nxE, ghR, ovR, evBin_seql, evBin_sneq, str, u8, encBrs, cBr, encLdg, encKws, cKw, encEvss, encEvs, cEv, encMks, cMk, encStrs, cNt, tk4, tk2, tk3, List.set_cons_succ, List.getElem?_cons_zero, List.getElem?_cons_succ, Nat.reduceLT, List.length_set, onceH2, codeH2, bodyOf, Tryz.f9, loopsC, onS2, List.nil_append, List.cons_append, List.append_nil, List.getD_cons_succ, List.getD_cons_zero, hx, hp, hv, hec, hk3, e1, e2, e3, d0, hw, hq, e4, encNts, List.length_map, decide_true, decide_false, Bool.not_true, Int.reduceNeg, List.append_eq, List.append]
  first | refine ⟨rfl, weak_of ?_⟩ | refine weak_of ?_
  first | (simp -dsimp (maxSteps := 60000000) (disch := first | omega | decide +kernel) only [↓bp0, bd0, reduceIte, Nat.reduceEqDiff, evStore, Nat.reduceAdd, Nat.reduceMul, Int.reduceEq, Int.reduceLT, Int.reduceLE, Nat.reduceLeDiff, List.reduceReplicate, reduceCtorEq, evRange, evNext, fld, nit, nxE, ghR, ovR, evBin_seql, evBin_sneq, str, u8, encBrs, cBr, encLdg, encKws, cKw, encEvss, encEvs, cEv, encMks, cMk, encStrs, cNt, tk4, tk2, tk3, List.set_cons_succ, List.getElem?_cons_zero, List.getElem?_cons_succ, Nat.reduceLT, List.length_set, encNts]; done) | simp -dsimp [evl, putN, i64, u32, bl, encL, encB, encLL, encNts]
end Go.Ab
end

section
/- NotesOnce: rounds of its first loop. -/
set_option maxRecDepth 1000000
set_option maxHeartbeats 40000000
namespace Go.Ab
open Go Go.Proofs Go.Sort
theorem on_H10 (l : Ldg) (b : Str) (X Y : List Nt) (V : List Ev) (i nx : Nat) (n : Nt) (hx : X[i]? = some n) (p : Nat) (e : Ev) (hp : n.pl = (p : Int)) (hv : V[p]? = some e) (hec : e.chg = n.chg) (hek : e.kind = n.kind) (d1 : decide ((p : Int) < 0) = false) (d2 : decide ((V.length : Int) ≤ (p : Int)) = false) (d4 : decide (n.kind = 3) = false) (d0 : decide ((0 : Int) < (i : Int)) = false) :
    AbsW cx Tryz.f9.ntmps onceH1 (onS1 l b X Y V i nx) fun e s => e = .normal ∧ Weak s (onS1 l b X Y V i nx) := by
  refine vc_sound _ _ _ (by kernel_rfl) ?_
  try simp -dsimp (maxSteps := 60000000) (disch := first | omega | decide +kernel) only [↓bp0, bd0, reduceIte, Nat.reduceEqDiff, evStore, Nat.reduceAdd, Nat.reduceMul, Int.reduceEq, Int.reduceLT, Int.reduceLE, Nat.reduceLeDiff, List.reduceReplicate, reduceCtorEq, evRange, evNext, fld, nit, nxE, ghR, ovR, evBin_seql, evBin_sneq, str, u8, encBrs, cBr, encLdg, encKws, cKw, encEvss, encEvs, cEv, encMks, cMk, encStrs, cNt, tk4, tk2, tk3, List.set_cons_succ, List.getElem?_cons_zero, List.getElem?_cons_succ, Nat.reduceLT, List.length_set, onceH1, codeH1, bodyOf, Tryz.f9, loopsC, onS1, List.nil_append, List.cons_append, List.append_nil, List.getD_cons_succ, List.getD_cons_zero, hx, hp, hv, hec, hek, d1, d2, d4, d0, encNts, List.length_map, decide_true, decide_false, Bool.not_true, Int.reduceNeg, List.append_eq, List.append]
  first | refine ⟨rfl, weak_of ?_⟩ | refine weak_of ?_
  first | (simp -dsimp (maxSteps := 60000000) (disch := first | omega | decide +kernel) only [↓bp0, bd0, reduceIte, Nat.reduceEqDiff, evStore, Nat.reduceAdd, Nat.reduceMul, Int.reduceEq, Int.reduceLT, Int.reduceLE, Nat.reduceLeDiff, List.reduceReplicate, reduceCtorEq, evRange, evNext, fld, nit, nxE, ghR, ovR, evBin_seql, evBin_sneq, str, u8, encBrs, cBr, encLdg, encKws, cKw, encEvss, encEvs, cEv, encMks, cMk, encStrs, cNt, tk4, tk2, tk3, List.set_cons_succ, List.getElem?_cons_zero, List.getElem?_cons_succ, Nat.reduceLT, List.length_set, encNts]; done) | simp -dsimp [evl, putN, i64, u32, bl, encL, encB, encLL, encNts]
theorem on_H1i (l : Ldg) (b : Str) (X Y : List Nt) (V : List Ev) (i nx : Nat) (n : Nt) (hx : X[i]? = some n) (p : Nat) (e : Ev) (hp : n.pl = (p : Int)) (hv : V[p]? = some e) (hec : e.chg = n.chg) (hek : e.kind = n.kind) (d1 : decide ((p : Int) < 0) = false) (d2 : decide ((V.length : Int) ≤ (p : Int)) = false) (d4 : decide (n.kind = 3) = false) (d0 : decide ((0 : Int) < (i : Int)) = true) (hw : IntKind.i64.wrap ((i : Int) - 1) = ((i - 1 : Nat) : Int)) (q : Nt) (hq : X[i - 1]? = some q) (e4 : decide ((p : Int) ≤ q.pl) = false) :
    AbsW cx Tryz.f9.ntmps onceH1 (onS1 l b X Y V i nx) fun e s => e = .normal ∧ Weak s (onS1 l b X Y V i nx) := by
  refine vc_sound _ _ _ (by kernel_rfl) ?_
  try simp -dsimp (maxSteps := 60000000) (disch := first | omega | decide +kernel) only [↓bp0, bd0, reduceIte, Nat.reduceEqDiff, evStore, Nat.reduceAdd, Nat.reduceMul, Int.reduceEq, Int.reduceLT, Int.reduceLE, Nat.reduceLeDiff, List.reduceReplicate, reduceCtorEq, evRange, evNext, fld, nit, nxE, ghR, ovR, evBin_seql, evBin_sneq, str, u8, encBrs, cBr, encLdg, encKws, cKw, encEvss, encEvs, cEv, encMks, cMk, encStrs, cNt, tk4, tk2, tk3, List.set_cons_succ, List.getElem?_cons_zero, List.getElem?_cons_succ, Nat.reduceLT, List.length_set, onceH1, codeH1, bodyOf, Tryz.f9, loopsC, onS1, List.nil_append, List.cons_append, List.append_nil, List.getD_cons_succ, List.getD_cons_zero, hx, hp, hv, hec, hek, d1, d2, d4, d0, hw, hq, e4, encNts, List.length_map, decide_true, decide_false, Bool.not_true, Int.reduceNeg, List.append_eq, List.append]
  first | refine ⟨rfl, weak_of ?_⟩ | refine weak_of ?_
  first | (simp -dsimp (maxSteps := 60000000) (disch := first | omega | decide +kernel) only [↓bp0, bd0, reduceIte, Nat.reduceEqDiff, evStore, Nat.reduceAdd, Nat.reduceMul, Int.reduceEq, Int.reduceLT, Int.reduceLE, Nat.reduceLeDiff, List.reduceReplicate, reduceCtorEq, evRange, evNext, fld, nit, nxE, ghR, ovR, evBin_seql, evBin_sneq, str, u8, encBrs, cBr, encLdg, encKws, cKw, encEvss, encEvs, cEv, encMks, cMk, encStrs, cNt, tk4, tk2, tk3, List.set_cons_succ, List.getElem?_cons_zero, List.getElem?_cons_succ, Nat.reduceLT, List.length_set, encNts]; done) | simp -dsimp [evl, putN, i64, u32, bl, encL, encB, encLL, encNts]
end Go.Ab
end
