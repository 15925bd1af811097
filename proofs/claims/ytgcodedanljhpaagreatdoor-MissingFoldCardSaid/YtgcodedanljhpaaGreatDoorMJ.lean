/- The reference: gaps in order. -/
import Derived.Test.YtgcodedanljhpaaGreatDoorMI
set_option linter.unusedSimpArgs false
set_option linter.unusedVariables false
set_option maxRecDepth 1000000
set_option maxHeartbeats 8000000
namespace Go.Ab
open Go Go.Proofs Go.Sort
theorem bd_MJ : type_of% (And.intro @evNext.eq_1 (And.intro @fld (And.intro @nit (And.intro @nxE (And.intro @ghR (And.intro @ovR (And.intro @evBin_seql (And.intro @evBin_sneq (And.intro @str.eq_1 (And.intro @u8.eq_1 (And.intro @encBrs.eq_1 (And.intro @cBr.eq_1 (And.intro @encLdg.eq_1 (And.intro @encKws.eq_1 (And.intro @cKw.eq_1 (And.intro @encEvss.eq_1 (And.intro @encEvs.eq_1 (And.intro @cEv.eq_1 (And.intro @encMks.eq_1 (And.intro @cMk.eq_1 (And.intro @encStrs.eq_1 (And.intro @encFxs.eq_1 (And.intro @cFx.eq_1 (And.intro @cGp.eq_1 (And.intro @tk2 (And.intro @tk3 (And.intro @List.set_cons_succ.{0} (And.intro @List.getElem?_cons_zero.{0} (And.intro @List.getElem?_cons_succ.{0} (@List.length_set.{0})))))))))))))))))))))))))))))) := And.intro @evNext.eq_1 (And.intro @fld (And.intro @nit (And.intro @nxE (And.intro @ghR (And.intro @ovR (And.intro @evBin_seql (And.intro @evBin_sneq (And.intro @str.eq_1 (And.intro @u8.eq_1 (And.intro @encBrs.eq_1 (And.intro @cBr.eq_1 (And.intro @encLdg.eq_1 (And.intro @encKws.eq_1 (And.intro @cKw.eq_1 (And.intro @encEvss.eq_1 (And.intro @encEvs.eq_1 (And.intro @cEv.eq_1 (And.intro @encMks.eq_1 (And.intro @cMk.eq_1 (And.intro @encStrs.eq_1 (And.intro @encFxs.eq_1 (And.intro @cFx.eq_1 (And.intro @cGp.eq_1 (And.intro @tk2 (And.intro @tk3 (And.intro @List.set_cons_succ.{0} (And.intro @List.getElem?_cons_zero.{0} (And.intro @List.getElem?_cons_succ.{0} (@List.length_set.{0})))))))))))))))))))))))))))))
abbrev Pr := Str × List Int
def cnd (w c : Int) (p : Pr) (f : Fx) : Bool := decide (f.wgt = w) && decide (f.cls = c) && (f.brs.any fun y => decide (p.1 = y)) && !(p.2.any fun y => decide (c = y))
def o4 (w c : Int) (p : Pr) (x : List Fx) : List Gp := (x.filter (cnd w c p)).map fun _ => ⟨p.1, c, w⟩
def o3 (x : List Fx) (w c : Int) (ps : List Pr) : List Gp := ps.flatMap fun p => o4 w c p x
def o2 (x : List Fx) (ps : List Pr) (w : Int) (n : Nat) : List Gp := (List.range n).flatMap fun (c : Nat) => o3 x w (c : Int) ps
def o1 (x : List Fx) (ps : List Pr) (n : Nat) : List Gp := (List.range n).flatMap fun (i : Nat) => o2 x ps (9 - (i : Int)) 30
def encPs (ps : List Pr) : PV := .imm (ps.map fun p => [encL p.2]) false
theorem o4_snoc {w c : Int} {p : Pr} {x : List Fx} {f : Fx} : o4 w c p (x ++ [f]) = o4 w c p x ++ if cnd w c p f then [⟨p.1, c, w⟩] else [] := by
  unfold o4
  rw [List.filter_append, List.map_append]
  congr 1
  cases h : cnd w c p f <;> simp [h]
theorem o3_snoc {x : List Fx} {w c : Int} {ps : List Pr} {p : Pr} : o3 x w c (ps ++ [p]) = o3 x w c ps ++ o4 w c p x := by
  unfold o3; rw [List.flatMap_append]; simp
theorem o2_succ {x : List Fx} {w : Int} {ps : List Pr} {n : Nat} : o2 x ps w (n + 1) = o2 x ps w n ++ o3 x w n ps := by
  unfold o2; rw [List.range_succ, List.flatMap_append]; simp
theorem o1_succ {x : List Fx} {ps : List Pr} {n : Nat} : o1 x ps (n + 1) = o1 x ps n ++ o2 x ps (9 - (n : Int)) 30 := by
  unfold o1; rw [List.range_succ, List.flatMap_append]; simp
theorem r_ordered (l : Ldg) (x : List Fx) (ps : List Pr) (hx : x.length ≤ 30) (hp : ps.length ≤ 8) (hb40 : ∀ f ∈ x, f.brs.length ≤ 2^40) (hi40 : ∀ p ∈ ps, p.2.length ≤ 2^40) :
    CallSpec cx 60 [encLdg l, encFxs x, encStrs (ps.map (·.1)), encPs ps] (newGps (o1 x ps 9)) := by
  refine callSpec_of_vc Tryz.func60 rfl (by decide) (by kernel_rfl) (Nat.le_of_ble_eq_true rfl) ?_
  try simp -dsimp (maxSteps := 9^9) (disch := first | omega | decide +kernel) only [↓bp0, bd0, bd_MJ, reduceIte, Nat.reduceEqDiff, evStore, Nat.reduceAdd, Nat.reduceMul, Int.reduceEq, Int.reduceLT, Int.reduceLE, Nat.reduceLeDiff, List.reduceReplicate, reduceCtorEq, evRange, Nat.reduceLT, Tryz.f60, encPs, List.map_map]
  refine LoopQ.ghost 9 3 (by rfl) ?_
  refine LoopQ.rule (fun m st => ∃ (i id ver nx : Nat) (G : List Gp), i ≤ 9 ∧ 0 < id ∧ id < nx ∧ G = o1 x ps i ∧ G.length ≤ i * 7200 ∧ m = 9 - i ∧
    st = ⟨mkE [(1, encFxs x), (2, encStrs (ps.map (·.1))), (3, encPs ps), (9, .own id ver 0 G.length false), (10, i64 (9 - (i : Int)))], mkS [(id, .row ver 3 (G.map cGp) false)], nx⟩) _ _ (weak_of ?_)
    ⟨0, 1, 0, 2, [], by omega, by omega, by omega, by simp [o1], by simp, rfl, rfl⟩ ?_
  · first | (simp -dsimp (maxSteps := 9^9) (disch := first | omega | decide +kernel) only [↓bp0, bd0, bd_MJ, reduceIte, Nat.reduceEqDiff, evStore, Nat.reduceAdd, Nat.reduceMul, Int.reduceEq, Int.reduceLT, Int.reduceLE, Nat.reduceLeDiff, List.reduceReplicate, reduceCtorEq, evRange, Nat.reduceLT, encPs, List.map_map, List.length_nil, List.map_nil, Int.reduceSub, Int.sub_zero]; done) | simp -dsimp [evl, putN, i64, u32, bl, encL, encB, encLL, encPs, List.map_map, List.length_nil, List.map_nil, Int.reduceSub, Int.sub_zero]
  rintro m st ⟨i, id, ver, nx, G, hi, hid0, hid, hG, hGl, rfl, rfl⟩
  try simp -dsimp (maxSteps := 9^9) (disch := first | omega | decide +kernel) only [↓bp0, bd0, bd_MJ, reduceIte, Nat.reduceEqDiff, evStore, Nat.reduceAdd, Nat.reduceMul, Int.reduceEq, Int.reduceLT, Int.reduceLE, Nat.reduceLeDiff, List.reduceReplicate, reduceCtorEq, evRange, Nat.reduceLT]
  cases w1 : decide ((1 : Int) ≤ 9 - (i : Int))
  · have hi9 : i = 9 := by have := of_decide_eq_false w1; omega
    subst hi9
    have hgl : ((G.map cGp).all fun e => e.all flat) = true := by rw [List.all_eq_true]; intro e he; obtain ⟨b, _, rfl⟩ := List.mem_map.1 he; rfl
    have hgt : (G.map cGp).take G.length = G.map cGp := List.take_of_length_le (by simp)
    simp -dsimp (maxSteps := 9^9) (disch := first | omega | decide +kernel) only [↓bp0, bd0, bd_MJ, reduceIte, Nat.reduceEqDiff, evStore, Nat.reduceAdd, Nat.reduceMul, Int.reduceEq, Int.reduceLT, Int.reduceLE, Nat.reduceLeDiff, List.reduceReplicate, reduceCtorEq, evRange, Nat.reduceLT, retQ, resL, finL, newL, flat, tupOf, List.toList_toArray, Tryz.f60, w1, List.length_map, hgl, hgt, List.drop_zero]
    rw [newGps, ← hG]
    exact leT_one .rfl' (by simp)
  have w1' := of_decide_eq_true w1
  have hwr : IntKind.i64.wrap (9 - (i : Int) - 1) = 9 - ((i + 1 : Nat) : Int) := by rw [IntWalk.i64_in _ (by omega)]; omega
  try simp -dsimp (maxSteps := 9^9) (disch := first | omega | decide +kernel) only [↓bp0, bd0, bd_MJ, reduceIte, Nat.reduceEqDiff, evStore, Nat.reduceAdd, Nat.reduceMul, Int.reduceEq, Int.reduceLT, Int.reduceLE, Nat.reduceLeDiff, List.reduceReplicate, reduceCtorEq, evRange, Nat.reduceLT, w1]
  have hG0 := hG
  refine LoopQ.rule (fun m st => ∃ (c id ver nx : Nat) (G : List Gp), c ≤ 30 ∧ 0 < id ∧ id < nx ∧ G = o1 x ps i ++ o2 x ps (9 - (i : Int)) c ∧ G.length ≤ i * 7200 + c * 240 ∧ m = 30 - c ∧
    st = ⟨mkE [(1, encFxs x), (2, encStrs (ps.map (·.1))), (3, encPs ps), (9, .own id ver 0 G.length false), (10, i64 (9 - (i : Int))), (11, i64 c)], mkS [(id, .row ver 3 (G.map cGp) false)], nx⟩) _ _ (weak_of ?_)
    ⟨0, id, ver, nx, G, by omega, by omega, by omega, by rw [hG]; simp [o2], by omega, rfl, rfl⟩ ?_
  · first | (simp -dsimp (maxSteps := 9^9) (disch := first | omega | decide +kernel) only [↓bp0, bd0, bd_MJ, reduceIte, Nat.reduceEqDiff, evStore, Nat.reduceAdd, Nat.reduceMul, Int.reduceEq, Int.reduceLT, Int.reduceLE, Nat.reduceLeDiff, List.reduceReplicate, reduceCtorEq, evRange, Nat.reduceLT, encPs, List.map_map]; done) | simp -dsimp [evl, putN, i64, u32, bl, encL, encB, encLL, encPs, List.map_map]
  clear hG hG0 hGl hid hid0
  rintro m st ⟨c, id, ver, nx, G, hc, hid0, hid, hG, hGl, rfl, rfl⟩
  try simp -dsimp (maxSteps := 9^9) (disch := first | omega | decide +kernel) only [↓bp0, bd0, bd_MJ, reduceIte, Nat.reduceEqDiff, evStore, Nat.reduceAdd, Nat.reduceMul, Int.reduceEq, Int.reduceLT, Int.reduceLE, Nat.reduceLeDiff, List.reduceReplicate, reduceCtorEq, evRange, Nat.reduceLT]
  cases w2 : decide ((c : Int) < 30)
  · have hc30 : c = 30 := by have := of_decide_eq_false w2; omega
    subst hc30
    try simp -dsimp (maxSteps := 9^9) (disch := first | omega | decide +kernel) only [↓bp0, bd0, bd_MJ, reduceIte, Nat.reduceEqDiff, evStore, Nat.reduceAdd, Nat.reduceMul, Int.reduceEq, Int.reduceLT, Int.reduceLE, Nat.reduceLeDiff, List.reduceReplicate, reduceCtorEq, evRange, Nat.reduceLT, w2]
    refine ⟨_, _, ?_, weak_of ?_, i + 1, id, ver, nx, G, by omega, hid0, hid, by rw [hG, o1_succ], by omega, rfl, rfl⟩
    · omega
    · first | (simp -dsimp (maxSteps := 9^9) (disch := first | omega | decide +kernel) only [↓bp0, bd0, bd_MJ, reduceIte, Nat.reduceEqDiff, evStore, Nat.reduceAdd, Nat.reduceMul, Int.reduceEq, Int.reduceLT, Int.reduceLE, Nat.reduceLeDiff, List.reduceReplicate, reduceCtorEq, evRange, Nat.reduceLT, hwr, encPs, List.map_map]; done) | simp -dsimp [evl, putN, i64, u32, bl, encL, encB, encLL, hwr, encPs, List.map_map]
  have w2' := of_decide_eq_true w2
  try simp -dsimp (maxSteps := 9^9) (disch := first | omega | decide +kernel) only [↓bp0, bd0, bd_MJ, reduceIte, Nat.reduceEqDiff, evStore, Nat.reduceAdd, Nat.reduceMul, Int.reduceEq, Int.reduceLT, Int.reduceLE, Nat.reduceLeDiff, List.reduceReplicate, reduceCtorEq, evRange, Nat.reduceLT, w2]
  refine LoopQ.rule (fun m st => ∃ (b id ver nx : Nat) (G : List Gp), b ≤ ps.length ∧ 0 < id ∧ id < nx ∧ G = o1 x ps i ++ o2 x ps (9 - (i : Int)) c ++ o3 x (9 - (i : Int)) c (ps.take b) ∧ G.length ≤ i * 7200 + c * 240 + b * 30 ∧ m = ps.length - b ∧
    st = ⟨mkE [(1, encFxs x), (2, encStrs (ps.map (·.1))), (3, encPs ps), (9, .own id ver 0 G.length false), (10, i64 (9 - (i : Int))), (11, i64 c), (12, i64 b)], mkS [(id, .row ver 3 (G.map cGp) false)], nx⟩) _ _ (weak_of ?_)
    ⟨0, id, ver, nx, G, by omega, by omega, by omega, by rw [hG]; simp [o3], by omega, rfl, rfl⟩ ?_
  · first | (simp -dsimp (maxSteps := 9^9) (disch := first | omega | decide +kernel) only [↓bp0, bd0, bd_MJ, reduceIte, Nat.reduceEqDiff, evStore, Nat.reduceAdd, Nat.reduceMul, Int.reduceEq, Int.reduceLT, Int.reduceLE, Nat.reduceLeDiff, List.reduceReplicate, reduceCtorEq, evRange, Nat.reduceLT, encPs, List.map_map]; done) | simp -dsimp [evl, putN, i64, u32, bl, encL, encB, encLL, encPs, List.map_map]
  clear hG hGl hid hid0
  rintro m st ⟨b, id, ver, nx, G, hb, hid0, hid, hG, hGl, rfl, rfl⟩
  try simp -dsimp (maxSteps := 9^9) (disch := first | omega | decide +kernel) only [↓bp0, bd0, bd_MJ, reduceIte, Nat.reduceEqDiff, evStore, Nat.reduceAdd, Nat.reduceMul, Int.reduceEq, Int.reduceLT, Int.reduceLE, Nat.reduceLeDiff, List.reduceReplicate, reduceCtorEq, evRange, Nat.reduceLT, List.length_map]
  refine onC_nlt (fun h2 => ?_) (fun h2 => ?_)
  rotate_left
  · have hbl : b = ps.length := by omega
    subst hbl
    rw [List.take_length] at hG
    try simp -dsimp (maxSteps := 9^9) (disch := first | omega | decide +kernel) only [↓bp0, bd0, bd_MJ, reduceIte, Nat.reduceEqDiff, evStore, Nat.reduceAdd, Nat.reduceMul, Int.reduceEq, Int.reduceLT, Int.reduceLE, Nat.reduceLeDiff, List.reduceReplicate, reduceCtorEq, evRange, Nat.reduceLT]
    refine ⟨_, _, ?_, weak_of ?_, c + 1, id, ver, nx, G, by omega, hid0, hid, by rw [hG, o2_succ, List.append_assoc], by omega, rfl, rfl⟩
    · omega
    · first | (simp -dsimp (maxSteps := 9^9) (disch := first | omega | decide +kernel) only [↓bp0, bd0, bd_MJ, reduceIte, Nat.reduceEqDiff, evStore, Nat.reduceAdd, Nat.reduceMul, Int.reduceEq, Int.reduceLT, Int.reduceLE, Nat.reduceLeDiff, List.reduceReplicate, reduceCtorEq, evRange, Nat.reduceLT, wrapS (show c < 30 by omega) (show 30 ≤ 9223372036854775807 by omega), encPs, List.map_map]; done) | simp -dsimp [evl, putN, i64, u32, bl, encL, encB, encLL, wrapS (show c < 30 by omega) (show 30 ≤ 9223372036854775807 by omega), encPs, List.map_map]
  obtain ⟨p, hpb, hpm⟩ := get_of_lt h2
  try simp -dsimp (maxSteps := 9^9) (disch := first | omega | decide +kernel) only [↓bp0, bd0, bd_MJ, reduceIte, Nat.reduceEqDiff, evStore, Nat.reduceAdd, Nat.reduceMul, Int.reduceEq, Int.reduceLT, Int.reduceLE, Nat.reduceLeDiff, List.reduceReplicate, reduceCtorEq, evRange, Nat.reduceLT]
  refine LoopQ.rule (fun m st => ∃ (j id ver nx : Nat) (G : List Gp), j ≤ x.length ∧ 0 < id ∧ id < nx ∧ G = o1 x ps i ++ o2 x ps (9 - (i : Int)) c ++ o3 x (9 - (i : Int)) c (ps.take b) ++ o4 (9 - (i : Int)) c p (x.take j) ∧ G.length ≤ i * 7200 + c * 240 + b * 30 + j ∧ m = x.length - j ∧
    st = ⟨mkE [(1, encFxs x), (2, encStrs (ps.map (·.1))), (3, encPs ps), (9, .own id ver 0 G.length false), (10, i64 (9 - (i : Int))), (11, i64 c), (12, i64 b), (13, i64 j)], mkS [(id, .row ver 3 (G.map cGp) false)], nx⟩) _ _ (weak_of ?_)
    ⟨0, id, ver, nx, G, by omega, by omega, by omega, by rw [hG]; simp [o4], by omega, rfl, rfl⟩ ?_
  · first | (simp -dsimp (maxSteps := 9^9) (disch := first | omega | decide +kernel) only [↓bp0, bd0, bd_MJ, reduceIte, Nat.reduceEqDiff, evStore, Nat.reduceAdd, Nat.reduceMul, Int.reduceEq, Int.reduceLT, Int.reduceLE, Nat.reduceLeDiff, List.reduceReplicate, reduceCtorEq, evRange, Nat.reduceLT, encPs, List.map_map]; done) | simp -dsimp [evl, putN, i64, u32, bl, encL, encB, encLL, encPs, List.map_map]
  clear hG hGl hid hid0
  rintro m st ⟨j, id, ver, nx, G, hj, hid0, hid, hG, hGl, rfl, rfl⟩
  have hE1_0a : (id = nx) = False := by simp; omega
  have hE1_0b : (nx = id) = False := by simp; omega
  try simp -dsimp (maxSteps := 9^9) (disch := first | omega | decide +kernel) only [↓bp0, bd0, bd_MJ, reduceIte, Nat.reduceEqDiff, evStore, Nat.reduceAdd, Nat.reduceMul, Int.reduceEq, Int.reduceLT, Int.reduceLE, Nat.reduceLeDiff, List.reduceReplicate, reduceCtorEq, evRange, Nat.reduceLT]
  refine onC_nlt (fun h3 => ?_) (fun h3 => ?_)
  rotate_left
  · have hjx : j = x.length := by omega
    subst hjx
    rw [List.take_length] at hG
    try simp -dsimp (maxSteps := 9^9) (disch := first | omega | decide +kernel) only [↓bp0, bd0, bd_MJ, reduceIte, Nat.reduceEqDiff, evStore, Nat.reduceAdd, Nat.reduceMul, Int.reduceEq, Int.reduceLT, Int.reduceLE, Nat.reduceLeDiff, List.reduceReplicate, reduceCtorEq, evRange, Nat.reduceLT]
    refine ⟨_, _, ?_, weak_of ?_, b + 1, id, ver, nx, G, by omega, hid0, hid, by rw [hG, take_succ hpb, o3_snoc, List.append_assoc _ (o3 _ _ _ _)], by omega, rfl, rfl⟩
    · omega
    · first | (simp -dsimp (maxSteps := 9^9) (disch := first | omega | decide +kernel) only [↓bp0, bd0, bd_MJ, reduceIte, Nat.reduceEqDiff, evStore, Nat.reduceAdd, Nat.reduceMul, Int.reduceEq, Int.reduceLT, Int.reduceLE, Nat.reduceLeDiff, List.reduceReplicate, reduceCtorEq, evRange, Nat.reduceLT, wrapS h2 (show ps.length ≤ 9223372036854775807 by omega), encPs, List.map_map]; done) | simp -dsimp [evl, putN, i64, u32, bl, encL, encB, encLL, wrapS h2 (show ps.length ≤ 9223372036854775807 by omega), encPs, List.map_map]
  obtain ⟨f, hf, hfm⟩ := get_of_lt h3
  have hfb := hb40 f hfm
  have hib := hi40 p hpm
  have hs : o4 (9 - (i : Int)) c p (x.take (j + 1)) = o4 (9 - (i : Int)) c p (x.take j) ++ if cnd (9 - (i : Int)) c p f then [⟨p.1, c, 9 - (i : Int)⟩] else [] := by rw [take_succ hf]; exact o4_snoc
  have hno : cnd (9 - (i : Int)) c p f = false → G = o1 x ps i ++ o2 x ps (9 - (i : Int)) c ++ o3 x (9 - (i : Int)) c (ps.take b) ++ o4 (9 - (i : Int)) c p (x.take (j + 1)) := fun h => by
    rw [hs, h, hG]; simp
  have hyes : cnd (9 - (i : Int)) c p f = true → G ++ [⟨p.1, c, 9 - (i : Int)⟩] = o1 x ps i ++ o2 x ps (9 - (i : Int)) c ++ o3 x (9 - (i : Int)) c (ps.take b) ++ o4 (9 - (i : Int)) c p (x.take (j + 1)) := fun h => by
    rw [hs, h, hG]; simp
  clear hs
  cases c1 : decide (f.wgt = 9 - (i : Int))
  · try simp -dsimp (maxSteps := 9^9) (disch := first | omega | decide +kernel) only [↓bp0, bd0, bd_MJ, reduceIte, Nat.reduceEqDiff, evStore, Nat.reduceAdd, Nat.reduceMul, Int.reduceEq, Int.reduceLT, Int.reduceLE, Nat.reduceLeDiff, List.reduceReplicate, reduceCtorEq, evRange, Nat.reduceLT, hf, c1]
    refine ⟨_, _, ?_, weak_of ?_, j + 1, id, ver, nx, G, h3, hid0, hid, hno (by rw [cnd, c1]; rfl), by omega, rfl, rfl⟩
    · omega
    · first | (simp -dsimp (maxSteps := 9^9) (disch := first | omega | decide +kernel) only [↓bp0, bd0, bd_MJ, reduceIte, Nat.reduceEqDiff, evStore, Nat.reduceAdd, Nat.reduceMul, Int.reduceEq, Int.reduceLT, Int.reduceLE, Nat.reduceLeDiff, List.reduceReplicate, reduceCtorEq, evRange, Nat.reduceLT, wrapS h3 (show x.length ≤ 9223372036854775807 by omega), encPs, List.map_map]; done) | simp -dsimp [evl, putN, i64, u32, bl, encL, encB, encLL, wrapS h3 (show x.length ≤ 9223372036854775807 by omega), encPs, List.map_map]
  cases c2 : decide (f.cls = (c : Int))
  · try simp -dsimp (maxSteps := 9^9) (disch := first | omega | decide +kernel) only [↓bp0, bd0, bd_MJ, reduceIte, Nat.reduceEqDiff, evStore, Nat.reduceAdd, Nat.reduceMul, Int.reduceEq, Int.reduceLT, Int.reduceLE, Nat.reduceLeDiff, List.reduceReplicate, reduceCtorEq, evRange, Nat.reduceLT, hf, c1, c2]
    refine ⟨_, _, ?_, weak_of ?_, j + 1, id, ver, nx, G, h3, hid0, hid, hno (by rw [cnd, c1, c2]; rfl), by omega, rfl, rfl⟩
    · omega
    · first | (simp -dsimp (maxSteps := 9^9) (disch := first | omega | decide +kernel) only [↓bp0, bd0, bd_MJ, reduceIte, Nat.reduceEqDiff, evStore, Nat.reduceAdd, Nat.reduceMul, Int.reduceEq, Int.reduceLT, Int.reduceLE, Nat.reduceLeDiff, List.reduceReplicate, reduceCtorEq, evRange, Nat.reduceLT, wrapS h3 (show x.length ≤ 9223372036854775807 by omega), encPs, List.map_map]; done) | simp -dsimp [evl, putN, i64, u32, bl, encL, encB, encLL, wrapS h3 (show x.length ≤ 9223372036854775807 by omega), encPs, List.map_map]
  try simp -dsimp (maxSteps := 9^9) (disch := first | omega | decide +kernel) only [↓bp0, bd0, bd_MJ, reduceIte, Nat.reduceEqDiff, evStore, Nat.reduceAdd, Nat.reduceMul, Int.reduceEq, Int.reduceLT, Int.reduceLE, Nat.reduceLeDiff, List.reduceReplicate, reduceCtorEq, evRange, Nat.reduceLT, hf, c1, c2, hpb]
  first | refine vc_text (by kernel_rfl) ?_ | skip
  try simp -dsimp (maxSteps := 9^9) (disch := first | omega | decide +kernel) only [↓bp0, bd0, bd_MJ, reduceIte, Nat.reduceEqDiff, evStore, Nat.reduceAdd, Nat.reduceMul, Int.reduceEq, Int.reduceLT, Int.reduceLE, Nat.reduceLeDiff, List.reduceReplicate, reduceCtorEq, evRange, Nat.reduceLT, hf, c1, c2, hpb]
  refine CallY.imm (r_Wanted f p.1 (by omega)) (by rfl) (by first | rfl | (simp -dsimp (maxSteps := 9^9) (disch := first | omega | decide +kernel) only [↓bp0, bd0, bd_MJ, reduceIte, Nat.reduceEqDiff, evStore, Nat.reduceAdd, Nat.reduceMul, Int.reduceEq, Int.reduceLT, Int.reduceLE, Nat.reduceLeDiff, List.reduceReplicate, reduceCtorEq, evRange, Nat.reduceLT, drcs, drc, flat, encStrs]; done) | simp -dsimp [evl, drcs, drc, flat, i64, u32, bl, encL, encB, encLL]) (by first | exact .inl rfl | exact .inr rfl | exact .inr scalB | exact .inr scalI | exact .inr scalT | exact .inr scalM | exact .inr scalMT) ?_
  cases c3 : f.brs.any fun y => decide (p.1 = y)
  · try simp -dsimp (maxSteps := 9^9) (disch := first | omega | decide +kernel) only [↓bp0, bd0, bd_MJ, reduceIte, Nat.reduceEqDiff, evStore, Nat.reduceAdd, Nat.reduceMul, Int.reduceEq, Int.reduceLT, Int.reduceLE, Nat.reduceLeDiff, List.reduceReplicate, reduceCtorEq, evRange, Nat.reduceLT, hf, c1, c2, c3, hpb]
    refine ⟨_, _, ?_, weak_of ?_, j + 1, id, ver, nx, G, h3, hid0, hid, hno (by rw [cnd, c1, c2, c3]; rfl), by omega, rfl, rfl⟩
    · omega
    · first | (simp -dsimp (maxSteps := 9^9) (disch := first | omega | decide +kernel) only [↓bp0, bd0, bd_MJ, reduceIte, Nat.reduceEqDiff, evStore, Nat.reduceAdd, Nat.reduceMul, Int.reduceEq, Int.reduceLT, Int.reduceLE, Nat.reduceLeDiff, List.reduceReplicate, reduceCtorEq, evRange, Nat.reduceLT, wrapS h3 (show x.length ≤ 9223372036854775807 by omega), encPs, List.map_map]; done) | simp -dsimp [evl, putN, i64, u32, bl, encL, encB, encLL, wrapS h3 (show x.length ≤ 9223372036854775807 by omega), encPs, List.map_map]
  try simp -dsimp (maxSteps := 9^9) (disch := first | omega | decide +kernel) only [↓bp0, bd0, bd_MJ, reduceIte, Nat.reduceEqDiff, evStore, Nat.reduceAdd, Nat.reduceMul, Int.reduceEq, Int.reduceLT, Int.reduceLE, Nat.reduceLeDiff, List.reduceReplicate, reduceCtorEq, evRange, Nat.reduceLT, hf, c1, c2, c3, hpb, encPs]
  refine CallY.imm (r_has p.2 c (by omega)) (by rfl) (by first | rfl | (simp -dsimp (maxSteps := 9^9) (disch := first | omega | decide +kernel) only [↓bp0, bd0, bd_MJ, reduceIte, Nat.reduceEqDiff, evStore, Nat.reduceAdd, Nat.reduceMul, Int.reduceEq, Int.reduceLT, Int.reduceLE, Nat.reduceLeDiff, List.reduceReplicate, reduceCtorEq, evRange, Nat.reduceLT, drcs, drc, flat, encL]; done) | simp -dsimp [evl, drcs, drc, flat, i64, u32, bl, encL, encB, encLL]) (by first | exact .inl rfl | exact .inr rfl | exact .inr scalB | exact .inr scalI | exact .inr scalT | exact .inr scalM | exact .inr scalMT) ?_
  cases c4 : p.2.any fun y => decide ((c : Int) = y)
  case true =>
    try simp -dsimp (maxSteps := 9^9) (disch := first | omega | decide +kernel) only [↓bp0, bd0, bd_MJ, reduceIte, Nat.reduceEqDiff, evStore, Nat.reduceAdd, Nat.reduceMul, Int.reduceEq, Int.reduceLT, Int.reduceLE, Nat.reduceLeDiff, List.reduceReplicate, reduceCtorEq, evRange, Nat.reduceLT, hf, c1, c2, c3, c4, encPs, uUn, Option.bind_some, hpb]
    refine ⟨_, _, ?_, weak_of ?_, j + 1, id, ver, nx, G, h3, hid0, hid, hno (by rw [cnd, c1, c2, c3, c4]; rfl), by omega, rfl, rfl⟩
    · omega
    · first | (simp -dsimp (maxSteps := 9^9) (disch := first | omega | decide +kernel) only [↓bp0, bd0, bd_MJ, reduceIte, Nat.reduceEqDiff, evStore, Nat.reduceAdd, Nat.reduceMul, Int.reduceEq, Int.reduceLT, Int.reduceLE, Nat.reduceLeDiff, List.reduceReplicate, reduceCtorEq, evRange, Nat.reduceLT, wrapS h3 (show x.length ≤ 9223372036854775807 by omega), encPs, List.map_map]; done) | simp -dsimp [evl, putN, i64, u32, bl, encL, encB, encLL, wrapS h3 (show x.length ≤ 9223372036854775807 by omega), encPs, List.map_map]
  have hbd : (G.length + 1) * 32 ≤ 140737488355328 := by omega
  try simp -dsimp (maxSteps := 9^9) (disch := first | omega | decide +kernel) only [↓bp0, bd0, bd_MJ, reduceIte, Nat.reduceEqDiff, evStore, Nat.reduceAdd, Nat.reduceMul, Int.reduceEq, Int.reduceLT, Int.reduceLE, Nat.reduceLeDiff, List.reduceReplicate, reduceCtorEq, evRange, Nat.reduceLT, hf, c1, c2, c3, c4, encPs, uUn, Option.bind_some, hpb, bldGp, List.length_map, hbd, hE1_0a, hE1_0b]
  refine ⟨_, _, ?_, weak_of ?_, j + 1, id, ver + 1, nx + 1, G ++ [⟨p.1, c, 9 - (i : Int)⟩], h3, hid0, by omega, hyes (by rw [cnd, c1, c2, c3, c4]; rfl), by rw [List.length_append]; simp only [List.length_cons, List.length_nil]; omega, rfl, rfl⟩
  · omega
  · first | (simp -dsimp (maxSteps := 9^9) (disch := first | omega | decide +kernel) only [↓bp0, bd0, bd_MJ, reduceIte, Nat.reduceEqDiff, evStore, Nat.reduceAdd, Nat.reduceMul, Int.reduceEq, Int.reduceLT, Int.reduceLE, Nat.reduceLeDiff, List.reduceReplicate, reduceCtorEq, evRange, Nat.reduceLT, wrapS h3 (show x.length ≤ 9223372036854775807 by omega), List.length_append, List.length_cons, List.length_nil, List.map_append, List.map_cons, List.map_nil, encPs, List.map_map, hE1_0a, hE1_0b]; done) | simp -dsimp [evl, putN, i64, u32, bl, encL, encB, encLL, wrapS h3 (show x.length ≤ 9223372036854775807 by omega), List.length_append, List.length_cons, List.length_nil, List.map_append, List.map_cons, List.map_nil, encPs, List.map_map, hE1_0a, hE1_0b]
end Go.Ab
