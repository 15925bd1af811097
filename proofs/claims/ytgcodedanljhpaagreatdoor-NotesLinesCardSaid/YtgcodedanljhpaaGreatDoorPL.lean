/- The text of notes: terms, words. -/
import Derived.Test.YtgcodedanljhpaaGreatDoorPK
import Derived.Test.YtgcodedanljhpaaGreatDoorNB
set_option linter.unusedSimpArgs false
set_option linter.unusedVariables false
set_option maxRecDepth 1000000
set_option maxHeartbeats 8000000
namespace Go.Ab
open Go Go.Proofs Go.Sort
def wordS (k : Int) : Str := if k = 1 then ⟨#[108, 97, 110, 100]⟩ else if k = 2 then ⟨#[112, 105, 99, 107]⟩ else if k = 3 then ⟨#[114, 101, 118, 101, 114, 116]⟩ else ⟨#[114, 101, 108, 97, 110, 100]⟩
theorem wordS_size (k : Int) : (wordS k).size ≤ 6 := by
  unfold wordS
  repeat' split
  all_goals decide
theorem n_word (k : Int) (h : 1 ≤ k ∧ k ≤ 4) : CallSpec cx 96 [u8 k] (str (wordS k)) := by
  have hk : k = 1 ∨ k = 2 ∨ k = 3 ∨ k = 4 := by omega
  rcases hk with rfl | rfl | rfl | rfl
  all_goals
    refine callSpec_of_vc Tryz.func96 rfl (by decide) (by kernel_rfl) (Nat.le_of_ble_eq_true rfl) ?_
    simp -dsimp (maxSteps := 9^9) (disch := first | omega | decide +kernel) only [↓bp0, bd0, reduceIte, Nat.reduceEqDiff, evStore, Nat.reduceAdd, Nat.reduceMul, Int.reduceEq, Int.reduceLT, Int.reduceLE, Nat.reduceLeDiff, List.reduceReplicate, reduceCtorEq, evRange, evNext, fld, nit, nxE, ghR, ovR, evBin_seql, evBin_sneq, str, u8, encBrs, cBr, encLdg, encKws, cKw, encEvss, encEvs, cEv, encMks, cMk, encStrs, tk2, tk3, List.set_cons_succ, List.getElem?_cons_zero, List.getElem?_cons_succ, Nat.reduceLT, List.length_set, retQ, resL, finL, newL, flat, tupOf, List.toList_toArray, Tryz.f96, wordS]
    exact leT_one (le1.rfl' (p := str _)) (fun _ h => by cases h)
structure NtOk (n : Nt) : Prop where
  cls : 0 ≤ n.cls ∧ n.cls < 30
  chg : n.chg.size ≤ 40
  kind : 1 ≤ n.kind ∧ n.kind ≤ 4
  pl : -1 ≤ n.pl ∧ n.pl ≤ 2^20
def bCame : Str := ⟨#[99, 97, 109, 101, 32]⟩
def bWent : Str := ⟨#[119, 101, 110, 116, 32]⟩
def bSp : Str := ⟨#[32]⟩
def bNl : Str := ⟨#[10]⟩
def cline (n : Nt) : Str := bCame ++ dec n.cls.toNat ++ bSp ++ n.chg ++ bSp ++ wordS n.kind ++ bNl
def whead (n : Nt) : Str := bWent ++ dec n.cls.toNat ++ bSp ++ n.chg
def wmid (n : Nt) : Str := if 0 ≤ n.pl then bSp ++ wordS n.kind else ⟨#[]⟩
def wline (n : Nt) : Str := whead n ++ wmid n ++ bNl
def catS : List Str → Str
  | [] => ⟨#[]⟩
  | a :: r => a ++ catS r
theorem catS_snoc {a : Str} : ∀ L : List Str, catS (L ++ [a]) = catS L ++ a
  | [] => by
    rw [List.nil_append, catS, catS, catS]
    apply ByteArray.ext; simp
  | b :: r => by rw [List.cons_append, catS, catS, catS_snoc r, ByteArray.append_assoc]
theorem catS_size {m : Nat} : ∀ L : List Str, (∀ a ∈ L, a.size ≤ m) → (catS L).size ≤ m * L.length
  | [], _ => by simp [catS, ByteArray.size]
  | a :: r, h => by
    have h1 := h a (by simp)
    have h2 := catS_size r fun b hb => h b (by simp [hb])
    rw [catS, ByteArray.size_append, List.length_cons, Nat.mul_add]; omega
theorem catS_app : ∀ (L M : List Str), catS (L ++ M) = catS L ++ catS M
  | [], M => by
    rw [List.nil_append, catS]
    apply ByteArray.ext; simp
  | b :: r, M => by rw [List.cons_append, catS, catS, catS_app r, ByteArray.append_assoc]
theorem decS (n : Nat) (h : n < 100) : (dec n).size ≤ 2 := (by decide +kernel : ∀ n : Fin 100, (dec n.val).size ≤ 2) ⟨n, h⟩
theorem cline_size {n : Nt} (h : NtOk n) : (cline n).size ≤ 60 := by
  have h1 := decS n.cls.toNat (by have := h.cls; omega)
  have h2 := h.chg
  have h3 := wordS_size n.kind
  have e1 : bCame.size = 5 := rfl
  have e2 : bSp.size = 1 := rfl
  have e3 : bNl.size = 1 := rfl
  simp only [cline, ByteArray.size_append, e1, e2, e3]
  omega
theorem whead_size {n : Nt} (h : NtOk n) : (whead n).size ≤ 48 := by
  have h1 := decS n.cls.toNat (by have := h.cls; omega)
  have h2 := h.chg
  have e1 : bWent.size = 5 := rfl
  have e2 : bSp.size = 1 := rfl
  simp only [whead, ByteArray.size_append, e1, e2]
  omega
theorem wline_size {n : Nt} (h : NtOk n) : (wline n).size ≤ 60 := by
  have h1 := whead_size h
  have h3 := wordS_size n.kind
  have e2 : bSp.size = 1 := rfl
  have e3 : bNl.size = 1 := rfl
  have e4 : (⟨#[]⟩ : ByteArray).size = 0 := rfl
  simp only [wline, wmid, ByteArray.size_append, e3]
  split <;> simp only [ByteArray.size_append, e2, e4] <;> omega
def ntext (l : Ldg) (a b : Str) : Str × Int := if (ldiff l a b).2.2 ≠ 0 then (⟨#[]⟩, (ldiff l a b).2.2) else (catS ((nnews l a b).1.map cline ++ (ngone l a b).1.map wline), 0)
/-! ### notes are as they should be -/
theorem evV_ok {l : Ldg} {n : Str} (h : (lview l n).2 = 0) {e : Ev} (he : e ∈ evV l n) : (1 ≤ e.kind ∧ e.kind ≤ 4) ∧ (clsOf l.known e.chg).isSome = true := by
  obtain ⟨q1, q2, q3, q4⟩ := fold_pre h
  obtain ⟨hok, _⟩ := lview_ok h
  refine ⟨?_, q3 e he⟩
  obtain ⟨m, hm, rfl⟩ := List.mem_map.1 he
  obtain ⟨c0, hc0, hlt⟩ := q2 m hm
  obtain ⟨j, k⟩ := m
  obtain ⟨own, x, hj, he1, hev, hxo⟩ := evAt_get hc0 hlt
  simp only at hj he1
  rw [hev]
  have := (runB_iff.1 (hok.run j own hj) k x he1).2
  unfold alw alwC at this
  split at this
  · cases this
  · omega
theorem lastsF_ok {l : Ldg} {n : Str} (h : (lview l n).2 = 0) {cs : List Int} {t : Nt} (ht : t ∈ lastsF (clsI l.known) (evV l n) cs) : NtOk t := by
  obtain ⟨hok, _⟩ := lview_ok h
  have hl := evV_len h
  obtain ⟨i, hi, rfl⟩ := List.mem_map.1 ht
  have hil := List.mem_range.1 (List.mem_filter.1 hi).1
  obtain ⟨e, hx, hxm⟩ := get_of_lt hil
  obtain ⟨h1, h2⟩ := evV_ok h hxm
  have h3 := cls0_range hok.kw e.chg
  rw [cls_eq h2] at h3
  obtain ⟨v, hv⟩ := Option.isSome_iff_exists.1 h2
  obtain ⟨k, k1, k2, _⟩ := clsOf_mem hv
  have k3 := List.any_eq_false.1 hok.kw k k1
  unfold kwB at k3
  simp only [Bool.or_eq_true, Bool.not_eq_true', decide_eq_true_eq, not_or, Bool.not_eq_false] at k3
  have k4 := (nameB_iff.1 k3.1.1).1
  rw [k2] at k4
  rw [ntAt, hx]
  exact ⟨h3, k4, h1, by simp only; omega, by simp only; omega⟩
theorem neg_ok {t : Nt} (h : NtOk t) : NtOk (negN t) := ⟨h.cls, h.chg, h.kind, by simp [negN], by simp [negN]⟩
end Go.Ab
