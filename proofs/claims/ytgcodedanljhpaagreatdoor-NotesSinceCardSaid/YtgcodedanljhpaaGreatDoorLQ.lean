/- slices.Backward: its iterator. -/
import Derived.Test.YtgcodedanljhpaaGreatDoorLA
import Derived.Test.YtgcodedanljhpaaGreatDoorAcRng
import Derived.RangeFuncBox
import Derived.Shelf.Abstract
import Derived.WalkKit
import Derived.OwnWalkIn
import Derived.TacticsInMore
import Derived.LoopNIn
import Derived.LoopIn
import Derived.Test.YtgcodedanljhpaaGreatDoorLP
set_option linter.unusedSimpArgs false
set_option linter.unusedVariables false
section
set_option maxRecDepth 100000
set_option maxHeartbeats 4000000
namespace Go.Ab
open Go Go.Proofs Go.RowKit
attribute [local go_sem] Oper.semAt_some
def ElemsAt (W : World) (Bs o : Nat) (b off len cap : Nat) (z : Nat → Value × Value) : Prop :=
  W.cell? ⟨Bs, o, none⟩ = some (.slice (some ⟨b, off, none⟩) len cap) ∧ ∀ j, j < len → W.cell? ⟨b, off + j * 2, none⟩ = some (z j).1 ∧ W.cell? ⟨b, off + j * 2 + 1, none⟩ = some (z j).2
theorem roundIn_wd {r : Option Nat} {n m : Nat} {P : Program} {l : Nat} {f : FuncId} {tmps : Array Value} {assign body : Code} {w : World} {R : Ending → World → Prop} (h : RoundIn (wd r) n P l f tmps assign body w R) : RoundIn (wd r) m P l f tmps assign body w R :=
  ⟨h.1, fun c cs _ => h.2 c cs (wd_room _)⟩
theorem yieldAt_wd {r : Option Nat} {n m : Nat} {P : Program} {l : Nat} {args : Array Value} {W : World} {R : Ending → World → Prop} (h : YieldAt (wd r) n P l args W R) : YieldAt (wd r) m P l args W R := by
  obtain ⟨fn, tmps, assign, body, h1, h2⟩ := h
  exact ⟨fn, tmps, assign, body, h1, roundIn_wd h2⟩
theorem rowAt2 {κ : Kn} {w : World} : ∀ (es : List (List PV)) (b off j : Nat) {e : List PV}, RelRows κ w b off 2 es → es[j]? = some e → RelCells κ w b (off + j * 2) e
  | [], _, _, _, _, _, h => by simp at h
  | a :: r, b, off, 0, e, hr, h => by
    simp only [RelRows] at hr
    simp only [List.getElem?_cons_zero, Option.some.injEq] at h
    subst h
    simpa using hr.2.1
  | a :: r, b, off, j + 1, e, hr, h => by
    simp only [RelRows] at hr
    have := rowAt2 r b (off + 2) j hr.2.2 (by simpa using h)
    rwa [show off + 2 + j * 2 = off + (j + 1) * 2 from by omega] at this
theorem bk_Ev (F : Fence) (n : Nat) (hF : F.fn 153) (hro : F.round = none) (hn : 1 ≤ n) (l Bs o b off len cap : Nat) (z : Nat → Value × Value) (hlen : len ≤ 2^30) (J : Nat → World → Prop) (Jx : World → Prop) (W : World) (hE : ∀ k W1, J k W1 → ElemsAt W1 Bs o b off len cap z)
    (hY : ∀ k W1, J k W1 → k < len → YieldAt F (n - 1) Tryz.prog l #[.int .i64 (((len : Nat) : Int) - 1 - (k : Int)), .agg #[(z (len - 1 - k)).1, (z (len - 1 - k)).2]] W1 fun e W' => (e = .returned (.bool true) ∧ J (k + 1) W') ∨ (e = .returned (.bool false) ∧ Jx W'))
    (h0 : J 0 W) : CallsIn F n Tryz.prog 153 #[.func (.yield l) #[] #[], .pointer (some ⟨Bs, o, none⟩)] W fun e W' => (∃ v, e = .returned v) ∧ (J len W' ∨ Jx W') := by
  refine callsIn_of_wp Tryz.func153 rfl hF ?_ hro
  simp only [Tryz.ntmps153, List.size_toArray, List.length_cons, List.length_nil, Nat.reduceAdd, Nat.reduceSub, Array.replicate_succ, Array.replicate_zero, List.push_toArray, List.append_toArray, List.nil_append, List.cons_append]
  obtain ⟨hs, hc⟩ := hE 0 W h0
  gi_wp2
  gi_loopw [3] (fun i wr => ∃ k : Nat, k ≤ len ∧ i = .int .i64 (((len : Nat) : Int) - 1 - (k : Int)) ∧ J k wr)
    (fun i _ => (intOf i + 1).toNat)
  case atStart => exact ⟨0, Nat.zero_le _, by simp, h0⟩
  case round =>
    obtain ⟨k, hk, rfl, hJs⟩ := hrel
    obtain ⟨hs, hc⟩ := hE k wr hJs
    by_cases hlt : k < len
    · obtain ⟨fn, tmps, assign, body, hy, hR⟩ := hY k wr hJs hlt
      obtain ⟨c1, c2⟩ := hc (len - 1 - k) (by omega)
      gi_wp2
      refine hR.mono ?_
      rintro e W3 (⟨rfl, hJ3⟩ | ⟨rfl, hJx3⟩)
      · gi_wp2
        go_roundw
        case rel => exact ⟨k + 1, by omega, by first | rfl | (congr 1; omega), hJ3⟩
        case measure => simp [intOf]; omega
      · gi_wp2
        refine bodyPost_ret (results_none rfl _ _ _) rfl ?_
        exact ⟨⟨_, rfl⟩, .inr hJx3⟩
    · obtain rfl : k = len := by omega
      gi_wp2
      go_end0
      exact ⟨⟨_, rfl⟩, .inl hJs⟩
theorem bkn_Ev (F : Fence) (n : Nat) (hF : F.fn 153) (hro : F.round = none) (l Bs o : Nat) (A : Option Addr) (cap : Nat) (J : Nat → World → Prop) (Jx : World → Prop) (W : World) (hs : W.cell? ⟨Bs, o, none⟩ = some (.slice A 0 cap)) (h0 : J 0 W) :
    CallsIn F n Tryz.prog 153 #[.func (.yield l) #[] #[], .pointer (some ⟨Bs, o, none⟩)] W fun e W' => (∃ v, e = .returned v) ∧ (J 0 W' ∨ Jx W') := by
  refine callsIn_of_wp Tryz.func153 rfl hF ?_ hro
  simp only [Tryz.ntmps153, List.size_toArray, List.length_cons, List.length_nil, Nat.reduceAdd, Nat.reduceSub, Array.replicate_succ, Array.replicate_zero, List.push_toArray, List.append_toArray, List.nil_append, List.cons_append]
  gi_wp2
  gi_loopw [3] (fun i wr => i = .int .i64 (-1) ∧ J 0 wr) (fun _ _ => 0)
  case atStart => exact ⟨rfl, h0⟩
  case round =>
    obtain ⟨rfl, hJs⟩ := hrel
    gi_wp2
    go_end0
    exact ⟨⟨_, rfl⟩, .inl hJs⟩
theorem it_Ev (v : List Ev) (hv : v.length ≤ 2^30) : IterSpec cx 153 [.cptr [.imm (v.map cEv) false]] (fun k => [i64 (((v.length : Nat) : Int) - 1 - (k : Int)), .agg (cEv (v.getD (v.length - 1 - k) (⟨0, ⟨#[]⟩⟩ : Ev)))]) v.length := by
  refine ⟨enters_of Tryz.func153 (by kernel_rfl) rfl, fun κ w lb hfz hrel => ?_⟩
  simp only [RelList, Rel, RelCells] at hrel
  obtain ⟨v0, vs', hlb, ⟨Bs, o, rfl, hB, ⟨sv, hsv, _, A, len, cap, rfl, hlen, hcap, _, hrows⟩, _⟩, rfl⟩ := hrel
  obtain rfl : lb = #[.pointer (some ⟨Bs, o, none⟩)] := Array.toList_inj.1 hlb
  have hlen' : len = v.length := by rw [hlen, List.length_map]
  subst hlen'
  obtain ⟨z, hz⟩ : ∃ z : Nat → Value × Value, ∀ j, z j = ((fun e : Ev => Value.int .u8 e.kind) (v.getD j (⟨0, ⟨#[]⟩⟩ : Ev)), (fun e : Ev => Value.string e.chg) (v.getD j (⟨0, ⟨#[]⟩⟩ : Ev))) := ⟨_, fun _ => rfl⟩
  refine ⟨fun k => #[.int .i64 (((v.length : Nat) : Int) - 1 - (k : Int)), .agg #[(z (v.length - 1 - k)).1, (z (v.length - 1 - k)).2]], fun k hk => ?_, fun n l J Jx W hKp hY h0 => ?_⟩
  · simp only [RelList, Rel, hz, cEv, i64, u8, str]
    exact ⟨_, _, rfl, by simp [ground], _, _, rfl, ⟨_, rfl, rfl, _, _, rfl, by simp [ground], _, _, rfl, by simp [ground], rfl⟩, rfl⟩
  have hcell : ∀ {W1 : World}, (∀ b, κ.fz b → W1.heap[b]? = w.heap[b]?) → W1.cell? ⟨Bs, o, none⟩ = some (.slice A v.length cap) := fun h => (cell_congr (h Bs hB)).trans hsv
  rcases Nat.eq_zero_or_pos v.length with h00 | h00
  · rw [h00] at hcell hY ⊢
    have := bkn_Ev (wd none) (n + 1) trivial rfl l Bs o A cap J Jx W (hcell hKp) h0
    exact callsIn_wd.2 (callsIn_wd.1 this)
  have hne : (v.map cEv) ≠ [] := fun e => by
    rw [List.map_eq_nil_iff] at e
    rw [e] at h00
    simp at h00
  obtain ⟨b, off, s, rfl, hb, hr⟩ := hrows.resolve_left hne
  have hs2 : s = 2 := by
    cases hv0 : v with
    | nil => rw [hv0] at h00; simp at h00
    | cons a r => rw [hv0, List.map_cons] at hr; simp only [RelRows] at hr; exact hr.1.symm
  subst hs2
  have hEl : ∀ {W1 : World}, (∀ b, κ.fz b → W1.heap[b]? = w.heap[b]?) → ElemsAt W1 Bs o b off v.length cap z := fun {W1} h => by
    refine ⟨hcell h, fun j hj => ?_⟩
    have hx : (v.map cEv)[j]? = some (cEv v[j]) := by rw [List.getElem?_map, List.getElem?_eq_getElem hj]; rfl
    have := rowAt2 (v.map cEv) b off j hr hx
    have hg : v.getD j (⟨0, ⟨#[]⟩⟩ : Ev) = v[j] := by rw [List.getD_eq_getElem?_getD, List.getElem?_eq_getElem hj]; rfl
    simp only [RelCells, cEv, Rel, i64, u8, str] at this
    obtain ⟨⟨c1, g1, _, rfl, _⟩, ⟨c2, g2, _, rfl, _⟩, _⟩ := this
    rw [hz, hg]
    exact ⟨(cell_congr (h b hb)).trans g1, (cell_congr (h b hb)).trans g2⟩
  have := bk_Ev (wd none) (n + 1) trivial rfl (by omega) l Bs o b off v.length cap z hv (fun k W1 => J k W1 ∧ ∀ b, κ.fz b → W1.heap[b]? = w.heap[b]?) Jx W (fun k W1 h => hEl h.2) (fun k W1 h hk => ?_) ⟨h0, hKp⟩
  · exact callsIn_wd.2 ((callsIn_wd.1 this).mono fun e W' ⟨h1, h2⟩ => ⟨h1, h2.imp (fun h => h.1) id⟩)
  · obtain ⟨fn, tmps, assign, body, y1, y2⟩ := hY k W1 h.1 hk
    refine yieldAt_wd ⟨fn, tmps, assign, body, y1, y2.mono ?_⟩
    rintro e W' (⟨e1, e2, e3⟩ | ⟨e1, e2⟩)
    · exact .inl ⟨e1, e2, fun b hb => (e3 b hb).trans (h.2 b hb)⟩
    · exact .inr ⟨e1, e2⟩
end Go.Ab
end

section
/- The references' names, places and errors of tables. -/
set_option maxRecDepth 100000
set_option maxHeartbeats 8000000
namespace Go.Ab
open Go Go.Proofs
theorem bd_LQ : type_of% (And.intro @evNext.eq_1 (And.intro @fld (And.intro @nit (And.intro @nxE (And.intro @ovR (And.intro @evBin_seql (And.intro @evBin_sneq (And.intro @str.eq_1 (And.intro @u8.eq_1 (And.intro @encBrs.eq_1 (And.intro @cBr.eq_1 (And.intro @List.set_cons_succ.{0} (And.intro @List.getElem?_cons_zero.{0} (And.intro @List.getElem?_cons_succ.{0} (@List.length_set.{0}))))))))))))))) := And.intro @evNext.eq_1 (And.intro @fld (And.intro @nit (And.intro @nxE (And.intro @ovR (And.intro @evBin_seql (And.intro @evBin_sneq (And.intro @str.eq_1 (And.intro @u8.eq_1 (And.intro @encBrs.eq_1 (And.intro @cBr.eq_1 (And.intro @List.set_cons_succ.{0} (And.intro @List.getElem?_cons_zero.{0} (And.intro @List.getElem?_cons_succ.{0} (@List.length_set.{0}))))))))))))))
theorem evIdx_si {s : Str} {i : Nat} (h : i < s.size) : evIdx cx 9 (.lit (.string s)) (.lit (.int .i64 (i : Int))) = some (.lit (.int .u8 ((s[i]'h).toNat : Int))) := by
  simp only [evIdx, tis, natOf_cast, dif_pos h]
theorem byte_bad {c : UInt8} (hn : nameC c = false) : c.toNat ≠ 45 ∧ (c.toNat < 48 ∨ (57 < c.toNat ∧ c.toNat < 97) ∨ 122 < c.toNat) := by
  simp only [nameC, lowB, Bool.or_eq_false_iff, Bool.and_eq_false_iff, decide_eq_false_iff_not] at hn
  omega
theorem r_Name (s : Str) (hs : s.size ≤ 2^40) : CallSpec cx 81 [str s] (bl (nameB s)) := by
  refine callSpec_of_vc Tryz.func81 rfl (by decide) (by kernel_rfl) (Nat.le_of_ble_eq_true rfl) ?_
  have hno : ∀ (b : Bool), (b = true → nameB s = true) → (b = false → nameB s = false) → le1 (.lit (.bool b)) (bl (nameB s)) := fun b h1 h2 => bl_eq (by cases b; exact (h2 rfl).symm; exact (h1 rfl).symm)
  have hF : ¬ nameB s = true → nameB s = false := fun h => by simpa using h
  cases h0 : decide ((s.size : Int) < 1)
  case true =>
    have h0' := of_decide_eq_true h0
    simp -dsimp (disch := omega) only [↓bp0, bd0, bd_LQ, evStore, evRange, retQ, resL, finL, newL, flat, tupOf, List.toList_toArray, Tryz.f81, h0, simprocAttr]
    refine leT_one (hno false (by simp) fun _ => hF fun h => ?_) (by simp)
    obtain ⟨_, h1, _⟩ := nameB_iff.1 h; omega
  have hp : 0 < s.size := by have := of_decide_eq_false h0; omega
  cases h40 : decide ((40 : Int) < (s.size : Int))
  case true =>
    have h1 := of_decide_eq_true h40
    simp -dsimp (disch := omega) only [↓bp0, bd0, bd_LQ, evStore, evRange, retQ, resL, finL, newL, flat, tupOf, List.toList_toArray, Tryz.f81, h0, h40, simprocAttr]
    refine leT_one (hno false (by simp) fun _ => hF fun h => ?_) (by simp)
    have := (nameB_iff.1 h).1; omega
  have hle : s.size ≤ 40 := by have := of_decide_eq_false h40; omega
  have hidx := evIdx_s0 hp
  cases ha : decide (((s[0]'hp).toNat : Int) < 97)
  case true =>
    have h1 := of_decide_eq_true ha
    simp -dsimp (disch := omega) only [↓bp0, bd0, bd_LQ, evStore, evRange, retQ, resL, finL, newL, flat, tupOf, List.toList_toArray, Tryz.f81, h0, h40, hidx, ha, simprocAttr]
    refine leT_one (hno false (by simp) fun _ => hF fun h => ?_) (by simp)
    obtain ⟨_, _, h2, _⟩ := nameB_iff.1 h
    simp only [lowB, Bool.and_eq_true, decide_eq_true_eq] at h2; omega
  cases hz : decide ((122 : Int) < ((s[0]'hp).toNat : Int))
  case true =>
    have h1 := of_decide_eq_true hz
    simp -dsimp (disch := omega) only [↓bp0, bd0, bd_LQ, evStore, evRange, retQ, resL, finL, newL, flat, tupOf, List.toList_toArray, Tryz.f81, h0, h40, hidx, ha, hz, simprocAttr]
    refine leT_one (hno false (by simp) fun _ => hF fun h => ?_) (by simp)
    obtain ⟨_, _, h2, _⟩ := nameB_iff.1 h
    simp only [lowB, Bool.and_eq_true, decide_eq_true_eq] at h2; omega
  have hlow : lowB (s[0]'hp) = true := by
    have h1 := of_decide_eq_false ha
    have h2 := of_decide_eq_false hz
    simp only [lowB, Bool.and_eq_true, decide_eq_true_eq]; omega
  try simp -dsimp (disch := omega) only [↓bp0, bd0, bd_LQ, evStore, evRange, Tryz.f81, h0, h40, hidx, ha, hz, simprocAttr]
  refine LoopQ.rule (fun m st => ∃ pos : Nat, pos ≤ s.size ∧ (∀ (i : Nat) (hi : i < s.size), i < pos → nameC (s[i]'hi) = true) ∧ m = s.size - pos ∧
    st = ⟨mkE [(0, str s), (3, i64 pos)], mkS [], 0⟩) _ _ (weak_of ?_) ⟨0, by omega, fun _ _ h => by omega, rfl, rfl⟩ ?_
  · first | (simp -dsimp (disch := omega) only [↓bp0, bd0, bd_LQ, evStore, evRange, simprocAttr]; done) | simp -dsimp [evl, putN, i64, u32, bl, encL, encB, encLL]
  rintro m st ⟨pos, hpl, hpre, rfl, rfl⟩
  try simp -dsimp (disch := omega) only [↓bp0, bd0, bd_LQ, evStore, evRange, simprocAttr]
  refine onC_nlt (fun hlt => ?_) (fun hlt => ?_)
  rotate_left
  · simp -dsimp (disch := omega) only [↓bp0, bd0, bd_LQ, evStore, evRange, retQ, resL, finL, newL, flat, tupOf, List.toList_toArray, simprocAttr]
    refine leT_one (hno true (fun _ => nameB_iff.2 ⟨hle, hp, hlow, fun i hi => hpre i hi (by omega)⟩) (by simp)) (by simp)
  have hx := evIdx_si hlt
  cases hn : nameC (s[pos]'hlt)
  · have hbad : nameB s = false := hF fun h => by
      obtain ⟨_, _, _, h2⟩ := nameB_iff.1 h
      rw [h2 pos hlt] at hn; cases hn
    obtain ⟨h0, h1 | ⟨h1, h2⟩ | h1⟩ := byte_bad hn
    · have e0 : decide (((s[pos]'hlt).toNat : Int) = 45) = false := decide_eq_false (by omega)
      have e1 : decide (((s[pos]'hlt).toNat : Int) < 97) = true := decide_eq_true (by omega)
      have e2 : decide (((s[pos]'hlt).toNat : Int) < 48) = true := decide_eq_true (by omega)
      simp -dsimp (disch := omega) only [↓bp0, bd0, bd_LQ, evStore, evRange, retQ, resL, finL, newL, flat, tupOf, List.toList_toArray, hx, e0, e1, e2, simprocAttr]
      exact leT_one (hno false (by simp) fun _ => hbad) (by simp)
    · have e0 : decide (((s[pos]'hlt).toNat : Int) = 45) = false := decide_eq_false (by omega)
      have e1 : decide (((s[pos]'hlt).toNat : Int) < 97) = true := decide_eq_true (by omega)
      have e2 : decide (((s[pos]'hlt).toNat : Int) < 48) = false := decide_eq_false (by omega)
      have e3 : decide ((57 : Int) < ((s[pos]'hlt).toNat : Int)) = true := decide_eq_true (by omega)
      simp -dsimp (disch := omega) only [↓bp0, bd0, bd_LQ, evStore, evRange, retQ, resL, finL, newL, flat, tupOf, List.toList_toArray, hx, e0, e1, e2, e3, simprocAttr]
      exact leT_one (hno false (by simp) fun _ => hbad) (by simp)
    · have e0 : decide (((s[pos]'hlt).toNat : Int) = 45) = false := decide_eq_false (by omega)
      have e1 : decide (((s[pos]'hlt).toNat : Int) < 97) = false := decide_eq_false (by omega)
      have e5 : decide ((122 : Int) < ((s[pos]'hlt).toNat : Int)) = true := decide_eq_true (by omega)
      have e2 : decide (((s[pos]'hlt).toNat : Int) < 48) = false := decide_eq_false (by omega)
      have e3 : decide ((57 : Int) < ((s[pos]'hlt).toNat : Int)) = true := decide_eq_true (by omega)
      simp -dsimp (disch := omega) only [↓bp0, bd0, bd_LQ, evStore, evRange, retQ, resL, finL, newL, flat, tupOf, List.toList_toArray, hx, e0, e1, e2, e3, e5, simprocAttr]
      exact leT_one (hno false (by simp) fun _ => hbad) (by simp)
  have hgo : ∀ (i : Nat) (hi : i < s.size), i < pos + 1 → nameC (s[i]'hi) = true := fun i hi h => by
    by_cases e : i = pos
    · subst e; exact hn
    · exact hpre i hi (by omega)
  have hn' := hn
  simp only [nameC, lowB, Bool.or_eq_true, Bool.and_eq_true, decide_eq_true_eq] at hn'
  rcases hn' with (⟨h1, h2⟩ | ⟨h1, h2⟩) | h1
  · have e0 : decide (((s[pos]'hlt).toNat : Int) = 45) = false := decide_eq_false (by omega)
    have e1 : decide (((s[pos]'hlt).toNat : Int) < 97) = false := decide_eq_false (by omega)
    have e2 : decide ((122 : Int) < ((s[pos]'hlt).toNat : Int)) = false := decide_eq_false (by omega)
    try simp -dsimp (disch := omega) only [↓bp0, bd0, bd_LQ, evStore, evRange, hx, e0, e1, e2, simprocAttr]
    refine ⟨_, _, ?_, weak_of ?_, pos + 1, hlt, hgo, rfl, rfl⟩
    · omega
    · first | (simp -dsimp (disch := omega) only [↓bp0, bd0, bd_LQ, evStore, evRange, wrapS hlt (show s.size ≤ 9223372036854775807 by omega), simprocAttr]; done) | simp -dsimp [evl, putN, i64, u32, bl, encL, encB, encLL, wrapS hlt (show s.size ≤ 9223372036854775807 by omega)]
  · have e0 : decide (((s[pos]'hlt).toNat : Int) = 45) = false := decide_eq_false (by omega)
    have e1 : decide (((s[pos]'hlt).toNat : Int) < 97) = true := decide_eq_true (by omega)
    have e2 : decide (((s[pos]'hlt).toNat : Int) < 48) = false := decide_eq_false (by omega)
    have e3 : decide ((57 : Int) < ((s[pos]'hlt).toNat : Int)) = false := decide_eq_false (by omega)
    try simp -dsimp (disch := omega) only [↓bp0, bd0, bd_LQ, evStore, evRange, hx, e0, e1, e2, e3, simprocAttr]
    refine ⟨_, _, ?_, weak_of ?_, pos + 1, hlt, hgo, rfl, rfl⟩
    · omega
    · first | (simp -dsimp (disch := omega) only [↓bp0, bd0, bd_LQ, evStore, evRange, wrapS hlt (show s.size ≤ 9223372036854775807 by omega), simprocAttr]; done) | simp -dsimp [evl, putN, i64, u32, bl, encL, encB, encLL, wrapS hlt (show s.size ≤ 9223372036854775807 by omega)]
  · have e0 : decide (((s[pos]'hlt).toNat : Int) = 45) = true := decide_eq_true (by omega)
    try simp -dsimp (disch := omega) only [↓bp0, bd0, bd_LQ, evStore, evRange, hx, e0, simprocAttr]
    refine ⟨_, _, ?_, weak_of ?_, pos + 1, hlt, hgo, rfl, rfl⟩
    · omega
    · first | (simp -dsimp (disch := omega) only [↓bp0, bd0, bd_LQ, evStore, evRange, wrapS hlt (show s.size ≤ 9223372036854775807 by omega), simprocAttr]; done) | simp -dsimp [evl, putN, i64, u32, bl, encL, encB, encLL, wrapS hlt (show s.size ≤ 9223372036854775807 by omega)]
theorem r_Index (l : List Br) (n : Str) (hl : l.length ≤ 9223372036854775807) : CallSpec cx 72 [encBrs l, str n] (i64 (idx l n)) := by
  refine callSpec_of_vc Tryz.func72 rfl (by decide) (by kernel_rfl) (Nat.le_of_ble_eq_true rfl) ?_
  try simp -dsimp (disch := omega) only [↓bp0, bd0, bd_LQ, evStore, evRange, Tryz.f72, simprocAttr]
  refine LoopQ.rule (fun m st => ∃ i : Nat, i ≤ l.length ∧ (∀ (j : Nat), j < i → ∀ b, l[j]? = some b → decide (b.name = n) = false) ∧ m = l.length - i ∧
    st = ⟨mkE [(0, encBrs l), (1, str n), (5, i64 i)], mkS [], 0⟩) _ _ (weak_of ?_) ⟨0, by omega, fun _ h => by omega, rfl, rfl⟩ ?_
  · first | (simp -dsimp (disch := omega) only [↓bp0, bd0, bd_LQ, evStore, evRange, simprocAttr]; done) | simp -dsimp [evl, putN, i64, u32, bl, encL, encB, encLL]
  rintro m st ⟨i, hi, hpre, rfl, rfl⟩
  try simp -dsimp (disch := omega) only [↓bp0, bd0, bd_LQ, evStore, evRange, simprocAttr]
  refine onC_nlt (fun h2 => ?_) (fun h2 => ?_)
  · obtain ⟨b, hx, hxm⟩ := get_of_lt h2
    cases he : decide (b.name = n)
    · try simp -dsimp (disch := omega) only [↓bp0, bd0, bd_LQ, evStore, evRange, hx, he, simprocAttr]
      refine ⟨_, _, ?_, weak_of ?_, i + 1, h2, ?_, rfl, rfl⟩
      · omega
      · first | (simp -dsimp (disch := omega) only [↓bp0, bd0, bd_LQ, evStore, evRange, wrapS h2 hl, simprocAttr]; done) | simp -dsimp [evl, putN, i64, u32, bl, encL, encB, encLL, wrapS h2 hl]
      · intro j hj b' hb'
        by_cases e : j = i
        · subst e; rw [hx] at hb'; cases hb'; exact he
        · exact hpre j (by omega) b' hb'
    · simp -dsimp (disch := omega) only [↓bp0, bd0, bd_LQ, evStore, evRange, retQ, resL, finL, newL, flat, tupOf, List.toList_toArray, Tryz.f72, hx, he, simprocAttr]
      refine leT_one (int_eq ?_) (by simp)
      rw [idx, fi_at _ l i b hx (fun j hj y hy => hpre j hj y hy) he]
  · simp -dsimp (disch := omega) only [↓bp0, bd0, bd_LQ, evStore, evRange, retQ, resL, finL, newL, flat, tupOf, List.toList_toArray, Tryz.f72, simprocAttr]
    refine leT_one (int_eq ?_) (by simp)
    rw [idx, fi_none _ l fun j y hy => hpre j (by have := (List.getElem?_eq_some_iff.1 hy).1; omega) y hy]
end Go.Ab
end
