/- The error of fixes. -/
import Derived.Test.YtgcodedanljhpaaDoorPB
set_option linter.unusedSimpArgs false
set_option linter.unusedVariables false
section
set_option maxRecDepth 100000
set_option maxHeartbeats 8000000
namespace Go.Ab
open Go Go.Proofs
def MapB (kvs : List (Value × PV × Nat)) (p : Int → Bool) : Prop := ∀ n, findP (.int .i64) (.int .i64 n) kvs = some (if p n then some (.lit (.bool true)) else none)
theorem MapB.push {kvs : List (Value × PV × Nat)} {p : Int → Bool} (h : MapB kvs p) {k : Int} {c : Nat} (hk : p k = false) : MapB (kvs ++ [(.int .i64 k, .lit (.bool true), c)]) fun n => p n || decide (n = k) := fun n => by
  rw [findP_snoc, h n]
  by_cases e : n = k
  · subst e; simp [hk, Instr.sameNow]
  · have hb : (n == k) = false := by simpa using e
    cases hp : p n
    · simp [Instr.sameNow, e, hb, hp]
    · simp [hp]
theorem keyI {n : Int} : keyB (.int .i64) (.int .i64 n) = true := rfl
end Go.Ab
end

section
/- Gaps of a branch. -/
set_option maxRecDepth 100000
set_option maxHeartbeats 8000000
namespace Go.Ab
open Go Go.Proofs
def Sub (σ τ : Store) : Prop := ∀ j B, σ j = some B → τ j = some B
theorem Sub.rfl' {σ : Store} : Sub σ σ := fun _ _ h => h
theorem Sub.put {σ τ : Store} {k : Nat} {B : Blk} (h : Sub σ τ) (hk : σ k = none) : Sub σ (τ.put k B) := fun j B' hj => by
  simp only [Store.put]
  rw [if_neg (fun e => by subst e; rw [hk] at hj; cases hj)]
  exact h j B' hj
def nonL (σ : Store) : List (Nat × Blk) → Prop
  | [] => True
  | (i, _) :: r => σ i = none ∧ nonL σ r
theorem Sub.ov {σ : Store} : ∀ {ls : List (Nat × Blk)}, nonL σ ls → Sub σ (ovS ls σ)
  | [], _ => .rfl'
  | (i, B) :: r, h => fun j B' hj => by
    simp only [ovS]
    rw [if_neg (fun e => by subst e; rw [h.1] at hj; cases hj)]
    exact Sub.ov h.2 j B' hj
theorem weak_ofU {st : St} {le : List (Nat × PV)} {ls : List (Nat × Blk)} {σ : Store} {nx : Nat} (h1 : allE st.env le) (h2 : allS st.σ ls) (h3 : Sub σ st.σ) (h4 : st.nx ≤ nx) : Weak st ⟨mkE le, ovS ls σ, nx⟩ := by
  refine ⟨allE_spec le h1, fun j B' h => ?_, h4⟩
  rcases ovS_at h with h | h
  · exact allS_spec ls h2 j B' h
  · exact h3 j B' h
theorem ov_del {σ : Store} {i : Nat} {B : Blk} : ovS [(i, B)] (σ.del i) = σ.put i B := by
  funext j
  simp only [ovS, Store.del, Store.put]
  split <;> rfl
end Go.Ab
end

section
/- Notes in plain terms; slices.Reverse. -/
set_option maxRecDepth 100000
set_option maxHeartbeats 8000000
namespace Go.Ab
open Go Go.Proofs
theorem bd_PC : type_of% (And.intro @evNext.eq_1 (And.intro @fld (And.intro @nit (And.intro @nxE (And.intro @ghR (And.intro @ovR (And.intro @evBin_seql (And.intro @evBin_sneq (And.intro @str.eq_1 (And.intro @u8.eq_1 (And.intro @encBrs.eq_1 (And.intro @cBr.eq_1 (And.intro @encLdg.eq_1 (And.intro @encKws.eq_1 (And.intro @cKw.eq_1 (And.intro @encEvss.eq_1 (And.intro @encEvs.eq_1 (And.intro @cEv.eq_1 (And.intro @encMks.eq_1 (And.intro @cMk.eq_1 (And.intro @encStrs.eq_1 (And.intro @tk2 (And.intro @tk3 (And.intro @List.set_cons_succ.{0} (And.intro @List.getElem?_cons_zero.{0} (And.intro @List.getElem?_cons_succ.{0} (@List.length_set.{0}))))))))))))))))))))))))))) := And.intro @evNext.eq_1 (And.intro @fld (And.intro @nit (And.intro @nxE (And.intro @ghR (And.intro @ovR (And.intro @evBin_seql (And.intro @evBin_sneq (And.intro @str.eq_1 (And.intro @u8.eq_1 (And.intro @encBrs.eq_1 (And.intro @cBr.eq_1 (And.intro @encLdg.eq_1 (And.intro @encKws.eq_1 (And.intro @cKw.eq_1 (And.intro @encEvss.eq_1 (And.intro @encEvs.eq_1 (And.intro @cEv.eq_1 (And.intro @encMks.eq_1 (And.intro @cMk.eq_1 (And.intro @encStrs.eq_1 (And.intro @tk2 (And.intro @tk3 (And.intro @List.set_cons_succ.{0} (And.intro @List.getElem?_cons_zero.{0} (And.intro @List.getElem?_cons_succ.{0} (@List.length_set.{0}))))))))))))))))))))))))))
structure Nt where
  cls : Int
  chg : Str
  kind : Int
  pl : Int
def cNt (n : Nt) : List PV := [.lit (.int .i64 n.cls), str n.chg, u8 n.kind, .lit (.int .i64 n.pl)]
def newNts (l : List Nt) : PV := .new 4 (l.map cNt)
def encNts (l : List Nt) : PV := .imm (l.map cNt) false
instance : Inhabited Nt := ⟨⟨0, ⟨#[]⟩, 0, 0⟩⟩
def swp (L : List Nt) (m : Nat) : List Nt := (List.range L.length).map fun p => if p < m ∨ L.length - m ≤ p then L.getD (L.length - 1 - p) default else L.getD p default
theorem swp_len {L : List Nt} {m : Nat} : (swp L m).length = L.length := by simp [swp]
theorem swp_at {L : List Nt} {m p : Nat} (h : p < L.length) : (swp L m)[p]? = some (if p < m ∨ L.length - m ≤ p then L.getD (L.length - 1 - p) default else L.getD p default) := by
  rw [swp, List.getElem?_map, List.getElem?_range h]; rfl
theorem swp_zero {L : List Nt} : swp L 0 = L := by
  apply List.ext_getElem?
  intro p
  by_cases h : p < L.length
  · rw [swp_at h, if_neg (by omega), List.getD_eq_getElem?_getD, List.getElem?_eq_getElem h]; rfl
  · rw [List.getElem?_eq_none (by rw [swp_len]; omega), List.getElem?_eq_none (by omega)]
theorem swp_end {L : List Nt} {m : Nat} (h : L.length ≤ 2 * m + 1) : swp L m = L.reverse := by
  apply List.ext_getElem?
  intro p
  by_cases hp : p < L.length
  · rw [swp_at hp, List.getElem?_reverse hp, List.getD_eq_getElem?_getD, List.getD_eq_getElem?_getD]
    have h1 : L.length - 1 - p < L.length := by omega
    rw [List.getElem?_eq_getElem h1, List.getElem?_eq_getElem hp, Option.getD_some, Option.getD_some]
    by_cases hc : p < m ∨ L.length - m ≤ p
    · rw [if_pos hc]
    · rw [if_neg hc]
      have : p = L.length - 1 - p := by omega
      simp only [← this]
  · rw [List.getElem?_eq_none (by rw [swp_len]; omega), List.getElem?_eq_none (by rw [List.length_reverse]; omega)]
theorem swp_step {L : List Nt} {m : Nat} (h : 2 * m + 1 < L.length) : ((swp L m).set m (L.getD (L.length - 1 - m) default)).set (L.length - 1 - m) (L.getD m default) = swp L (m + 1) := by
  apply List.ext_getElem?
  intro p
  by_cases hp : p < L.length
  · rw [swp_at hp]
    by_cases h1 : p = L.length - 1 - m
    · subst h1
      rw [List.getElem?_set_self (by rw [List.length_set, swp_len]; exact hp), if_pos (by omega), show L.length - 1 - (L.length - 1 - m) = m from by omega]
    · rw [List.getElem?_set_ne (Ne.symm h1)]
      by_cases h2 : p = m
      · subst h2
        rw [List.getElem?_set_self (by rw [swp_len]; exact hp), if_pos (by omega)]
      · rw [List.getElem?_set_ne (Ne.symm h2), swp_at hp]
        by_cases hc : p < m ∨ L.length - m ≤ p
        · rw [if_pos hc, if_pos (by omega)]
        · rw [if_neg hc, if_neg (by omega)]
  · rw [List.getElem?_eq_none (by rw [List.length_set, List.length_set, swp_len]; omega), List.getElem?_eq_none (by rw [swp_len]; omega)]
theorem d_Reverse (L : List Nt) (hL : L.length ≤ 2^30) (σ0 : Store) (nx id ver : Nat) (hσ : σ0 id = some (.row ver 4 (L.map cNt) false)) :
    StSpec cx 74 [.own id ver 0 L.length false] σ0 nx (fun r σ' nx' => nx ≤ nx' ∧ σ' = σ0.put id (.row ver 4 (L.reverse.map cNt) false)) := by
  refine StSpec.fresh (by kernel_rfl) fun hfr0 => ?_
  have hid : id < nx := by
    rcases Nat.lt_or_ge id nx with h1 | h1
    · exact h1
    · rw [hfr0 id h1] at hσ; cases hσ
  obtain ⟨σ, hσd⟩ : ∃ σ : Store, σ = σ0.del id := ⟨_, rfl⟩
  have hfr : ∀ j, nx ≤ j → σ j = none := fun j hj => by rw [hσd]; simp only [Store.del]; split; rfl; exact hfr0 j hj
  have hd : σ id = none := by rw [hσd]; simp [Store.del]
  have h00 : σ0 = ovS [(id, .row ver 4 (L.map cNt) false)] σ := by rw [hσd, ov_del, put_same hσ]
  have hput : ∀ B, σ0.put id B = ovS [(id, B)] σ := fun B => by rw [hσd, ov_del]
  simp only [hput]
  rw [h00]
  clear hfr0 hσ hput h00 hσd
  have hw1 : IntKind.i64.wrap (((L.length : Nat) : Int) - 1) = ((L.length : Nat) : Int) - 1 := IntWalk.i64_in _ (by omega)
  refine stSpec_of_vc Tryd.func74 rfl (by decide) (by kernel_rfl) (Nat.le_of_ble_eq_true rfl) ?_
  try simp -dsimp (disch := omega) only [↓bp0, bd0, bd_PC, evStore, evRange, Tryd.f74, hw1, simprocAttr]
  refine LoopQ.rule (fun mm st => ∃ (m : Nat), 2 * m ≤ L.length + 1 ∧ mm = L.length + 1 - 2 * m ∧
    st = ⟨mkE [(0, .own id ver 0 L.length false), (2, i64 m), (3, i64 (((L.length : Nat) : Int) - 1 - (m : Int)))],
      ovS [(id, .row ver 4 ((swp L m).map cNt) false)] σ, nx⟩) _ _ ?_
    ⟨0, by omega, rfl, rfl⟩ ?_
  · refine weak_ofU (by first | (simp -dsimp (disch := omega) only [↓bp0, bd0, bd_PC, evStore, evRange, swp_zero, Int.sub_zero, simprocAttr]; done) | simp -dsimp [evl, putN, i64, u32, bl, encL, encB, encLL, swp_zero, Int.sub_zero]) (by first | (simp -dsimp (disch := omega) only [↓bp0, bd0, bd_PC, evStore, evRange, swp_zero, Int.sub_zero, simprocAttr]; done) | simp -dsimp [evl, putN, i64, u32, bl, encL, encB, encLL, swp_zero, Int.sub_zero]) (by (try simp -dsimp only [st_put_σ]); repeat (first | exact Sub.rfl' | refine Sub.put ?_ (hfr _ (by omega)) | refine Sub.put ?_ hd | exact Sub.ov ⟨hd, trivial⟩)) (by first | (simp -dsimp (disch := omega) only [↓bp0, bd0, bd_PC, evStore, evRange, swp_zero, Int.sub_zero, simprocAttr]; done) | simp -dsimp [evl, putN, i64, u32, bl, encL, encB, encLL, swp_zero, Int.sub_zero])
  rintro mm st ⟨m, hm, rfl, rfl⟩
  have hE1_0a : (id = nx) = False := by simp; omega
  have hE1_0b : (nx = id) = False := by simp; omega
  cases h2 : decide ((m : Int) < ((L.length : Nat) : Int) - 1 - (m : Int))
  · have h2' := of_decide_eq_false h2
    rw [swp_end (by omega)]
    simp -dsimp (disch := omega) only [↓bp0, bd0, bd_PC, evStore, evRange, stQ, resL, tupOf, List.toList_toArray, Tryd.f74, h2, hE1_0a, hE1_0b, simprocAttr]
    exact ⟨_, _, .refl _, Nat.le_refl _, rfl⟩
  · have h2' := of_decide_eq_true h2
    have hi : m < L.length := by omega
    have hj : L.length - 1 - m < L.length := by omega
    have hje : ((L.length : Nat) : Int) - 1 - (m : Int) = ((L.length - 1 - m : Nat) : Int) := by omega
    have x1 : (swp L m)[m]? = some (L.getD m default) := by rw [swp_at hi, if_neg (by omega)]
    have x2 : (swp L m)[L.length - 1 - m]? = some (L.getD (L.length - 1 - m) default) := by rw [swp_at hj, if_neg (by omega)]
    have hst := swp_step (L := L) (m := m) (by omega)
    have hsl := swp_len (L := L) (m := m)
    have hwa : IntKind.i64.wrap ((m : Int) + 1) = ((m + 1 : Nat) : Int) := by rw [IntWalk.i64_in _ (by omega)]; omega
    have hwb : IntKind.i64.wrap (((L.length - 1 - m : Nat) : Int) - 1) = ((L.length : Nat) : Int) - 1 - ((m + 1 : Nat) : Int) := by rw [IntWalk.i64_in _ (by omega)]; omega
    rw [hje] at h2 ⊢
    generalize hjn : L.length - 1 - m = j at *
    have hmj : ¬ m = j := by omega
    have x3 : ∀ X : List PV, ((List.map cNt (swp L m)).set m X)[j]? = some (cNt (L.getD j default)) := fun X => by rw [List.getElem?_set_ne hmj, List.getElem?_map, x2]; rfl
    try simp -dsimp (disch := omega) only [↓bp0, bd0, bd_PC, evStore, evRange, h2, hE1_0a, hE1_0b, simprocAttr]
    refine vc_regJ (fun _ => True) [2, 3] [] (by kernel_rfl) (by kernel_rfl) ?_ ?_
    · trivial
    try simp -dsimp (disch := omega) only [↓bp0, bd0, bd_PC, evStore, evRange, vcj, implies_true, or_true, true_and, hE1_0a, hE1_0b, x1, x2, x3, hi, hj, hsl, cNt, simprocAttr]
    refine ⟨_, _, ?_, ?_, m + 1, by omega, rfl, rfl⟩
    · omega
    · have hst' : ((List.map cNt (swp L m)).set m (cNt (L.getD j default))).set j (cNt (L.getD m default)) = List.map cNt (swp L (m + 1)) := by rw [← hst, List.map_set, List.map_set]
      simp only [cNt] at hst'
      refine weak_ofU (by first | (simp -dsimp (disch := omega) only [↓bp0, bd0, bd_PC, evStore, evRange, hwa, hwb, hst', cNt, simprocAttr]; done) | simp -dsimp [evl, putN, i64, u32, bl, encL, encB, encLL, hwa, hwb, hst', cNt]) (by first | (simp -dsimp (disch := omega) only [↓bp0, bd0, bd_PC, evStore, evRange, hwa, hwb, hst', cNt, simprocAttr]; done) | simp -dsimp [evl, putN, i64, u32, bl, encL, encB, encLL, hwa, hwb, hst', cNt]) (by (try simp -dsimp only [st_put_σ]); repeat (first | exact Sub.rfl' | refine Sub.put ?_ (hfr _ (by omega)) | refine Sub.put ?_ hd | exact Sub.ov ⟨hd, trivial⟩)) (by first | (simp -dsimp (disch := omega) only [↓bp0, bd0, bd_PC, evStore, evRange, hwa, hwb, hst', cNt, simprocAttr]; done) | simp -dsimp [evl, putN, i64, u32, bl, encL, encB, encLL, hwa, hwb, hst', cNt])
end Go.Ab
end
