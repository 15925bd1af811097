/- notes.Gone, walked. -/
import Derived.Test.YtgcodedanljhpaaDoorPJ
import Derived.Test.YtgcodedanljhpaaDoorLA
import Derived.Test.YtgcodedanljhpaaDoorLE
set_option linter.unusedSimpArgs false
set_option linter.unusedVariables false
section
set_option maxRecDepth 1000000
set_option maxHeartbeats 16000000
namespace Go.Ab
open Go Go.Proofs Go.Sort
theorem bd_PK : type_of% (And.intro @evNext.eq_1 (And.intro @fld (And.intro @nit (And.intro @nxE (And.intro @ghR (And.intro @ovR (And.intro @evBin_seql (And.intro @evBin_sneq (And.intro @str.eq_1 (And.intro @u8.eq_1 (And.intro @encBrs.eq_1 (And.intro @cBr.eq_1 (And.intro @encLdg.eq_1 (And.intro @encKws.eq_1 (And.intro @cKw.eq_1 (And.intro @encEvss.eq_1 (And.intro @encEvs.eq_1 (And.intro @cEv.eq_1 (And.intro @encMks.eq_1 (And.intro @cMk.eq_1 (And.intro @encStrs.eq_1 (And.intro @tk2 (And.intro @tk3 (And.intro @List.set_cons_succ.{0} (And.intro @List.getElem?_cons_zero.{0} (And.intro @List.getElem?_cons_succ.{0} (@List.length_set.{0}))))))))))))))))))))))))))) := And.intro @evNext.eq_1 (And.intro @fld (And.intro @nit (And.intro @nxE (And.intro @ghR (And.intro @ovR (And.intro @evBin_seql (And.intro @evBin_sneq (And.intro @str.eq_1 (And.intro @u8.eq_1 (And.intro @encBrs.eq_1 (And.intro @cBr.eq_1 (And.intro @encLdg.eq_1 (And.intro @encKws.eq_1 (And.intro @cKw.eq_1 (And.intro @encEvss.eq_1 (And.intro @encEvs.eq_1 (And.intro @cEv.eq_1 (And.intro @encMks.eq_1 (And.intro @cMk.eq_1 (And.intro @encStrs.eq_1 (And.intro @tk2 (And.intro @tk3 (And.intro @List.set_cons_succ.{0} (And.intro @List.getElem?_cons_zero.{0} (And.intro @List.getElem?_cons_succ.{0} (@List.length_set.{0}))))))))))))))))))))))))))
theorem d_DeleteFuncN (bh : List Nt) (hb : bh.length ≤ 2^30) (L : List Int) (hL : L.length ≤ 2^30) (n : Nat) (hn : n = L.length) (σ0 : Store) (nx id bx vb : Nat) (hσ : σ0 id = some (.row 0 1 (L.map fun n => [i64 n]) false)) (hx0 : σ0 bx = some (.row vb 1 [[encNts bh]] false)) (hne : ¬ bx = id) :
    StSpec cx 37 [.own id 0 0 n false, .clo (.func 39) [] [.ptr bx vb 0 0]] σ0 nx
      (fun r σ' nx' => nx ≤ nx' ∧ ∃ E : List Int, E.length = L.length ∧ E.take (keepN bh L).length = keepN bh L ∧ r = .own id 0 0 (keepN bh L).length false ∧ σ' = σ0.put id (.row 0 1 (E.map fun n => [i64 n]) false)) := by
  subst hn; exact d_DeleteFunc bh hb L hL σ0 nx id bx vb hσ hx0 hne
theorem n_sortN (O : List Nt) (hu : ClsU O) (n : Nat) (hn : n = O.length) {σ : Store} {nx id ver : Nat} {clip : Bool} (hσ : σ id = some (.row ver 4 (O.map cNt) false)) (hsz : O.length < 4611686018427387904) :
    StSpec cx 42 [.own id ver 0 n clip, .clo (.func 43) [] []] σ nx (fun r σ' nx' => r = .tup [] ∧ nx' = nx ∧ σ' = σ.put id (.row ver 4 ((srtN O).map cNt) false)) := by
  subst hn; exact n_sortA O hu hσ hsz
theorem allNt {l : List Nt} : ((l.map cNt).all fun e => e.length == 4) = true := by
  rw [List.all_map, List.all_eq_true]; intro x _; rfl
theorem n_Gone (l : Ldg) (a b : Str) (hz : LSz l) : CallSpec cx 16 [encLdg l, str a, str b] (.tup [newNts (ngone l a b).1, i64 (ngone l a b).2]) := by
  refine callSpec_of_vc Tryd.func16 rfl (by decide) (by kernel_rfl) (Nat.le_of_ble_eq_true rfl) ?_
  try simp -dsimp (disch := omega) only [↓bp0, bd0, bd_PK, evStore, evRange, Tryd.f16, simprocAttr]
  refine CallQ.imm (d_Differ l a b hz) (by rfl) (by rfl) (by first | exact .inl rfl | exact .inr rfl | exact .inr scalB | exact .inr scalI | exact .inr scalT | exact .inr scalM | exact .inr scalMT | exact .inr scalE | exact .inr scalET | exact .inr scalN | exact .inr scalNT) ?_
  cases h0 : decide ((ldiff l a b).2.2 = 0)
  · have h0' := of_decide_eq_false h0
    rw [ngone, if_pos h0']
    simp -dsimp (disch := omega) only [↓bp0, bd0, bd_PK, evStore, evRange, retQ, resL, finL, newL, flat, tupOf, List.toList_toArray, Tryd.f16, h0, newI, simprocAttr]
    exact ⟨.inr ⟨rfl, 4, rfl⟩, .rfl', trivial⟩
  have h0' := of_decide_eq_true h0
  obtain ⟨ha, hb⟩ := ldiff_ok h0'
  rw [ngone, if_neg (by rw [Decidable.not_not]; exact h0')]
  have hcl : (ldiff l a b).1.length ≤ 30 := by
    rw [ldiff, if_neg (by rw [Decidable.not_not]; exact ha), if_neg (by rw [Decidable.not_not]; exact hb)]
    exact onlyL_len
  have hlA := evV_len ha
  have hlB := evV_len hb
  have vA := n_viewOk l a hz ha
  have vB := n_viewOk l b hz hb
  generalize (ldiff l a b).1 = W at hcl ⊢
  generalize evV l a = eA at hlA vA ⊢
  generalize evV l b = eB at hlB vB ⊢
  try simp -dsimp (disch := omega) only [↓bp0, bd0, bd_PK, evStore, evRange, h0, newI, simprocAttr]
  refine CallQ.imm (vB) (by rfl) (by rfl) (by first | exact .inl rfl | exact .inr rfl | exact .inr scalB | exact .inr scalI | exact .inr scalT | exact .inr scalM | exact .inr scalMT | exact .inr scalE | exact .inr scalET | exact .inr scalN | exact .inr scalNT) ?_
  try simp -dsimp (disch := omega) only [↓bp0, bd0, bd_PK, evStore, evRange, newEvs, simprocAttr]
  refine CallQ.imm (vA) (by rfl) (by rfl) (by first | exact .inl rfl | exact .inr rfl | exact .inr scalB | exact .inr scalI | exact .inr scalT | exact .inr scalM | exact .inr scalMT | exact .inr scalE | exact .inr scalET | exact .inr scalN | exact .inr scalNT) ?_
  have cB := n_lasts l eB W hz.known (by omega) (by omega)
  obtain ⟨f, hf⟩ : ∃ f, f = clsI l.known := ⟨_, rfl⟩
  have hBl : (lastsF f eB W).length ≤ 2^20 := Nat.le_trans lastsF_len hlB
  rw [← hf] at cB ⊢
  have cO := fun L h => n_lasts l eA L hz.known (by omega) h
  rw [← hf] at cO
  generalize hBH : lastsF f eB W = BH at cB hBl ⊢
  try simp -dsimp (disch := omega) only [↓bp0, bd0, bd_PK, evStore, evRange, newEvs, simprocAttr]
  refine CallQ.imm (cB) (by rfl) (by rfl) (by first | exact .inl rfl | exact .inr rfl | exact .inr scalB | exact .inr scalI | exact .inr scalT | exact .inr scalM | exact .inr scalMT | exact .inr scalE | exact .inr scalET | exact .inr scalN | exact .inr scalNT) ?_
  try simp -dsimp (disch := omega) only [↓bp0, bd0, bd_PK, evStore, evRange, newNts, simprocAttr]
  refine CallQ.thaw (clN_I W (by omega)) (by rfl) (by first | rfl | (simp -dsimp (disch := omega) only [↓bp0, bd0, bd_PK, evStore, evRange, drcs, drc, flat, encL, simprocAttr]; done)) flLitI ?_
  try simp -dsimp (disch := omega) only [↓bp0, bd0, bd_PK, evStore, evRange, simprocAttr]
  refine CallQ.inm (d_DeleteFuncN BH (by omega) W (by omega) ((W.map fun n => [i64 n]).length) (by rw [List.length_map]) _ _ 2 1 0 ?_ ?_ (by decide)) (by rfl) ?_
  · try simp -dsimp (disch := omega) only [↓bp0, bd0, bd_PK, evStore, evRange, simprocAttr]
  · try simp -dsimp (disch := omega) only [↓bp0, bd0, bd_PK, evStore, evRange, encNts, simprocAttr]
  rintro r σ' nx1 ⟨hn1, E, hE, hEk, rfl, rfl⟩
  have hn1' : 3 ≤ nx1 := hn1
  have hKl : (keepN BH W).length ≤ W.length := List.length_filter_le _ _
  have hEm : List.take (keepN BH W).length (E.map fun n => [PV.lit (.int .i64 n)]) = (keepN BH W).map fun n => [PV.lit (.int .i64 n)] := by rw [← List.map_take, hEk]
  have hKE : (keepN BH W).length ≤ E.length := by omega
  have cO1 := cO (keepN BH W) (by omega)
  have hOl : (lastsF f eA (keepN BH W)).length ≤ 2^20 := Nat.le_trans lastsF_len hlA
  have hpw := lastsF_pw (f := f) (v := eA) (cs := keepN BH W)
  have hgo : goneO f eA eB W = (lastsF f eA (keepN BH W)).map negN := by rw [goneO, hBH]
  rw [hgo]
  generalize lastsF f eA (keepN BH W) = O at cO1 hOl hpw ⊢
  have E1 : (nx1 = 0) = False := eq_false (by omega)
  have E2 : (nx1 = 1) = False := eq_false (by omega)
  have E3 : (nx1 = 2) = False := eq_false (by omega)
  have F1 : (0 = nx1) = False := eq_false (by omega)
  have F2 : (1 = nx1) = False := eq_false (by omega)
  have F3 : (2 = nx1) = False := eq_false (by omega)
  try simp -dsimp (disch := omega) only [↓bp0, bd0, bd_PK, evStore, evRange, E1, E2, E3, F1, F2, F3, simprocAttr]
  refine CallQ.thaw (cO1) (by rfl) (by first | rfl | (simp -dsimp (disch := omega) only [↓bp0, bd0, bd_PK, evStore, evRange, drcs, drc, flat, encL, hEm, hKE, List.length_map, List.drop_zero, Nat.zero_add, E1, E2, E3, F1, F2, F3, simprocAttr]; done)) litNt ?_
  try simp -dsimp (disch := omega) only [↓bp0, bd0, bd_PK, evStore, evRange, E1, E2, E3, F1, F2, F3, simprocAttr]
  have hpw' := neg_pw hpw
  refine LoopQ.rule (fun m st => ∃ i : Nat, i ≤ O.length ∧ m = O.length - i ∧
    st = ⟨mkE [(13, .ptr 1 0 0 0), (15, .own nx1 0 0 O.length false), (59, i64 O.length), (60, i64 i)], mkS [(1, .row 0 1 [[encNts BH]] false), (nx1, .row 0 4 ((negK O i).map cNt) false)], nx1 + 1⟩) _ _ (weak_of ?_)
    ⟨0, by omega, rfl, rfl⟩ ?_
  · first | (simp -dsimp (disch := omega) only [↓bp0, bd0, bd_PK, evStore, evRange, negK_zero, encNts, List.length_map, E1, E2, E3, F1, F2, F3, simprocAttr]; done) | simp -dsimp [evl, putN, i64, u32, bl, encL, encB, encLL, negK_zero, encNts, List.length_map, E1, E2, E3, F1, F2, F3]
  rintro m st ⟨i, hi, rfl, rfl⟩
  try simp -dsimp (disch := omega) only [↓bp0, bd0, bd_PK, evStore, evRange, E1, E2, E3, F1, F2, F3, simprocAttr]
  refine onC_nlt (fun h2 => ?_) (fun h2 => ?_)
  · obtain ⟨n, hx, _⟩ := get_of_lt h2
    have hx1 := negK_at hx
    have hst := negK_step hx
    have hnl := negK_len (O := O) (i := i)
    have hst' : ((negK O i).map cNt).set i [.lit (.int .i64 n.cls), .lit (.string n.chg), .lit (.int .u8 n.kind), .lit (.int .i64 (-1))] = (negK O (i + 1)).map cNt := by rw [← hst, List.map_set]; rfl
    try simp -dsimp (disch := omega) only [↓bp0, bd0, bd_PK, evStore, evRange, hx1, h2, hnl, cNt, E1, E2, E3, F1, F2, F3, simprocAttr]
    refine ⟨_, _, ?_, weak_of ?_, i + 1, h2, rfl, rfl⟩
    · omega
    · first | (simp -dsimp (disch := omega) only [↓bp0, bd0, bd_PK, evStore, evRange, wrapS h2 (show O.length ≤ 9223372036854775807 by omega), hst', cNt, E1, E2, E3, F1, F2, F3, simprocAttr]; done) | simp -dsimp [evl, putN, i64, u32, bl, encL, encB, encLL, wrapS h2 (show O.length ≤ 9223372036854775807 by omega), hst', cNt, E1, E2, E3, F1, F2, F3]
  · have hil : i = O.length := by omega
    subst hil
    rw [negK_end]
    have hol : (O.map negN).length = O.length := List.length_map _
    try simp -dsimp (disch := omega) only [↓bp0, bd0, bd_PK, evStore, evRange, E1, E2, E3, F1, F2, F3, simprocAttr]
    refine CallQ.inm (n_sortN (O.map negN) (clsU_of hpw') O.length hol.symm (ver := 0) (id := nx1) ?_ (by omega)) (by rfl) ?_
    · try simp -dsimp (disch := omega) only [↓bp0, bd0, bd_PK, evStore, evRange, E1, E2, E3, F1, F2, F3, simprocAttr]
    rintro r σ' nx2 ⟨rfl, rfl, rfl⟩
    have hsl := srtN_len (O.map negN)
    rw [hol] at hsl
    have hbd : (O.length + BH.length) * 40 ≤ 140737488355328 := by omega
    generalize srtN (O.map negN) = SO at hsl ⊢
    have hT : List.take (O.length + BH.length) (SO.map cNt ++ BH.map cNt) = SO.map cNt ++ BH.map cNt := List.take_of_length_le (by simp; omega)
    have hfl : ((SO.map cNt ++ BH.map cNt).all fun e => e.all flat) = true := by rw [List.all_append, flNt, flNt]; rfl
    simp -dsimp (disch := omega) only [↓bp0, bd0, bd_PK, evStore, evRange, retQ, resL, finL, newL, flat, tupOf, List.toList_toArray, Tryd.f16, encNts, allNt, hbd, hsl, hT, hfl, List.length_append, List.length_map, List.map_append, newNts, E1, E2, E3, F1, F2, F3, simprocAttr]
    exact ⟨.rfl', .rfl', trivial⟩
end Go.Ab
end

section
/- Numbers in decimal. -/
set_option maxRecDepth 1000000
set_option maxHeartbeats 8000000
namespace Go.Ab
open Go Go.Proofs
theorem bd_NA : type_of% (And.intro @str.eq_1 (And.intro @u8.eq_1 (And.intro @List.set_cons_succ.{0} (And.intro @List.getElem?_cons_zero.{0} (And.intro @List.getElem?_cons_succ.{0} (@List.length_set.{0})))))) := And.intro @str.eq_1 (And.intro @u8.eq_1 (And.intro @List.set_cons_succ.{0} (And.intro @List.getElem?_cons_zero.{0} (And.intro @List.getElem?_cons_succ.{0} (@List.length_set.{0})))))
def dig (n : Nat) : Str := ⟨#[UInt8.ofNat (48 + n)]⟩
def decF : Nat → Nat → Str
  | 0, _ => ⟨#[]⟩
  | f + 1, n => if n < 10 then dig n else decF f (n / 10) ++ dig (n % 10)
def dec (n : Nat) : Str := decF 20 n
def dig10 : Str := ⟨#[48, 49, 50, 51, 52, 53, 54, 55, 56, 57, 97, 98, 99, 100, 101, 102, 103, 104, 105, 106, 107, 108, 109, 110, 111, 112, 113, 114, 115, 116, 117, 118, 119, 120, 121, 122]⟩
theorem dig10_at : ∀ n : Fin 10, dig10.extract n.val (n.val + 1) = dec n.val := by decide +kernel
def sml : Str := ⟨List.toArray (List.append (List.append [48, 48, 48, 49, 48, 50, 48, 51, 48, 52, 48, 53, 48, 54, 48, 55, 48, 56, 48, 57, 49, 48, 49, 49, 49, 50, 49, 51, 49, 52, 49, 53, 49, 54, 49, 55, 49, 56, 49, 57, 50, 48, 50, 49, 50, 50, 50, 51, 50, 52] [50, 53, 50, 54, 50, 55, 50, 56, 50, 57, 51, 48, 51, 49, 51, 50, 51, 51, 51, 52, 51, 53, 51, 54, 51, 55, 51, 56, 51, 57, 52, 48, 52, 49, 52, 50, 52, 51, 52, 52, 52, 53, 52, 54, 52, 55, 52, 56, 52, 57]) (List.append [53, 48, 53, 49, 53, 50, 53, 51, 53, 52, 53, 53, 53, 54, 53, 55, 53, 56, 53, 57, 54, 48, 54, 49, 54, 50, 54, 51, 54, 52, 54, 53, 54, 54, 54, 55, 54, 56, 54, 57, 55, 48, 55, 49, 55, 50, 55, 51, 55, 52] [55, 53, 55, 54, 55, 55, 55, 56, 55, 57, 56, 48, 56, 49, 56, 50, 56, 51, 56, 52, 56, 53, 56, 54, 56, 55, 56, 56, 56, 57, 57, 48, 57, 49, 57, 50, 57, 51, 57, 52, 57, 53, 57, 54, 57, 55, 57, 56, 57, 57]))⟩
theorem sml_at : ∀ n : Fin 100, n.val < 10 ∨ sml.extract (2 * n.val) (2 * n.val + 2) = dec n.val := by decide +kernel
theorem m_small (n : Nat) (h : n < 100) : CallSpec cx 112 [i64 n] (str (dec n)) := by
  have hw1 : IntKind.i64.wrap ((n : Int) * 2) = ((2 * n : Nat) : Int) := by rw [IntWalk.i64_in _ (by omega)]; omega
  have hw2 : IntKind.i64.wrap (((2 * n : Nat) : Int) + 2) = ((2 * n + 2 : Nat) : Int) := by rw [IntWalk.i64_in _ (by omega)]; omega
  have hw3 : IntKind.i64.wrap ((n : Int) + 1) = ((n + 1 : Nat) : Int) := by rw [IntWalk.i64_in _ (by omega)]; omega
  have hS : (⟨List.toArray (List.append (List.append [48, 48, 48, 49, 48, 50, 48, 51, 48, 52, 48, 53, 48, 54, 48, 55, 48, 56, 48, 57, 49, 48, 49, 49, 49, 50, 49, 51, 49, 52, 49, 53, 49, 54, 49, 55, 49, 56, 49, 57, 50, 48, 50, 49, 50, 50, 50, 51, 50, 52] [50, 53, 50, 54, 50, 55, 50, 56, 50, 57, 51, 48, 51, 49, 51, 50, 51, 51, 51, 52, 51, 53, 51, 54, 51, 55, 51, 56, 51, 57, 52, 48, 52, 49, 52, 50, 52, 51, 52, 52, 52, 53, 52, 54, 52, 55, 52, 56, 52, 57]) (List.append [53, 48, 53, 49, 53, 50, 53, 51, 53, 52, 53, 53, 53, 54, 53, 55, 53, 56, 53, 57, 54, 48, 54, 49, 54, 50, 54, 51, 54, 52, 54, 53, 54, 54, 54, 55, 54, 56, 54, 57, 55, 48, 55, 49, 55, 50, 55, 51, 55, 52] [55, 53, 55, 54, 55, 55, 55, 56, 55, 57, 56, 48, 56, 49, 56, 50, 56, 51, 56, 52, 56, 53, 56, 54, 56, 55, 56, 56, 56, 57, 57, 48, 57, 49, 57, 50, 57, 51, 57, 52, 57, 53, 57, 54, 57, 55, 57, 56, 57, 57]))⟩ : ByteArray) = sml := rfl
  have hS2 : (⟨#[48, 49, 50, 51, 52, 53, 54, 55, 56, 57, 97, 98, 99, 100, 101, 102, 103, 104, 105, 106, 107, 108, 109, 110, 111, 112, 113, 114, 115, 116, 117, 118, 119, 120, 121, 122]⟩ : ByteArray) = dig10 := rfl
  have hz : sml.size = 200 := by decide +kernel
  have hz2 : dig10.size = 36 := by decide +kernel
  refine callSpec_of_vc Tryd.func112 rfl (by decide) (by kernel_rfl) (Nat.le_of_ble_eq_true rfl) ?_
  try simp -dsimp (disch := omega) only [↓bp0, bd0, bd_NA, evStore, Tryd.f112, simprocAttr]
  cases h1 : decide ((n : Int) < 10)
  · have h1' := of_decide_eq_false h1
    have h4 : (2 * n ≤ 2 * n + 2) = True := by simp
    have h5 : (2 * n ≤ 198) = True := by simp; omega
    have hE : sml.extract (2 * n) (2 * n + 2) = dec n := (sml_at ⟨n, h⟩).resolve_left (by simp only; omega)
    simp -dsimp (disch := omega) only [↓bp0, bd0, bd_NA, evStore, retQ, resL, finL, newL, flat, tupOf, List.toList_toArray, h1, evSlice, slc, hw1, hw2, hS, hz, h4, h5, hE, simprocAttr]
    exact leT_one (le1.rfl' (p := str _)) (fun _ h => by cases h)
  · have h1' := of_decide_eq_true h1
    have h4 : (n ≤ n + 1) = True := by simp
    have h5 : (n ≤ 35) = True := by simp; omega
    have hE : dig10.extract n (n + 1) = dec n := dig10_at ⟨n, by omega⟩
    simp -dsimp (disch := omega) only [↓bp0, bd0, bd_NA, evStore, retQ, resL, finL, newL, flat, tupOf, List.toList_toArray, h1, evSlice, slc, hw3, hS2, hz2, h4, h5, hE, simprocAttr]
    exact leT_one (le1.rfl' (p := str _)) (fun _ h => by cases h)
theorem m_fmtInt (n : Nat) (h : n < 100) : CallSpec cx 89 [i64 n, i64 10] (str (dec n)) := by
  have h1 : decide ((n : Int) < 0) = false := decide_eq_false (by omega)
  have h2 : decide ((n : Int) < 100) = true := decide_eq_true (by omega)
  have h3 : decide ((0 : Int) ≤ n) = true := decide_eq_true (by omega)
  refine callSpec_of_vc Tryd.func89 rfl (by decide) (by kernel_rfl) (Nat.le_of_ble_eq_true rfl) ?_
  try simp -dsimp (disch := omega) only [↓bp0, bd0, bd_NA, evStore, Tryd.f89, h1, h2, h3, simprocAttr]
  refine CallQ.imm (m_small n h) (by rfl) (by rfl) (by first | exact .inl rfl | exact .inr rfl | exact .inr scalB | exact .inr scalI | exact .inr scalT) ?_
  simp -dsimp (disch := omega) only [↓bp0, bd0, bd_NA, evStore, retQ, resL, finL, newL, flat, tupOf, List.toList_toArray, Tryd.f89, simprocAttr]
  exact leT_one (le1.rfl' (p := str _)) (fun _ h => by cases h)
theorem m_itoa0 (n : Nat) (h : n < 100) : CallSpec cx 70 [i64 n] (str (dec n)) := by
  refine callSpec_of_vc Tryd.func70 rfl (by decide) (by kernel_rfl) (Nat.le_of_ble_eq_true rfl) ?_
  try simp -dsimp (disch := omega) only [↓bp0, bd0, bd_NA, evStore, Tryd.f70, simprocAttr]
  refine CallQ.imm (m_fmtInt n h) (by rfl) (by rfl) (by first | exact .inl rfl | exact .inr rfl | exact .inr scalB | exact .inr scalI | exact .inr scalT) ?_
  simp -dsimp (disch := omega) only [↓bp0, bd0, bd_NA, evStore, retQ, resL, finL, newL, flat, tupOf, List.toList_toArray, Tryd.f70, simprocAttr]
  exact leT_one (le1.rfl' (p := str _)) (fun _ h => by cases h)
theorem m_Itoa (n : Nat) (h : n < 100) : CallSpec cx 32 [i64 n] (str (dec n)) := by
  refine callSpec_of_vc Tryd.func32 rfl (by decide) (by kernel_rfl) (Nat.le_of_ble_eq_true rfl) ?_
  try simp -dsimp (disch := omega) only [↓bp0, bd0, bd_NA, evStore, Tryd.f32, simprocAttr]
  refine CallQ.imm (m_itoa0 n h) (by rfl) (by rfl) (by first | exact .inl rfl | exact .inr rfl | exact .inr scalB | exact .inr scalI | exact .inr scalT) ?_
  simp -dsimp (disch := omega) only [↓bp0, bd0, bd_NA, evStore, retQ, resL, finL, newL, flat, tupOf, List.toList_toArray, Tryd.f32, simprocAttr]
  exact leT_one (le1.rfl' (p := str _)) (fun _ h => by cases h)
end Go.Ab
end
