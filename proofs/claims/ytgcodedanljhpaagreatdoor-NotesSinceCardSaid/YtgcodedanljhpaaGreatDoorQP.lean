/- After. -/
import Derived.Test.YtgcodedanljhpaaGreatDoorLP
import Derived.Test.YtgcodedanljhpaaGreatDoorQM
import Derived.Test.YtgcodedanljhpaaGreatDoorLA
import Derived.Test.YtgcodedanljhpaaGreatDoorAcRng
import Derived.Test.YtgcodedanljhpaaGreatDoorPP
set_option linter.unusedSimpArgs false
set_option linter.unusedVariables false
section
set_option maxRecDepth 100000
set_option maxHeartbeats 8000000
namespace Go.Ab
open Go Go.Proofs
theorem bd_LPa : type_of% (And.intro @evNext.eq_1 (And.intro @fld (And.intro @nit (And.intro @nxE (And.intro @ovR (And.intro @evBin_seql (And.intro @evBin_sneq (And.intro @str.eq_1 (And.intro @u8.eq_1 (And.intro @encBrs.eq_1 (And.intro @cBr.eq_1 (And.intro @encLdg.eq_1 (And.intro @encKws.eq_1 (And.intro @cKw.eq_1 (And.intro @encEvss.eq_1 (And.intro @encEvs.eq_1 (And.intro @cEv.eq_1 (And.intro @encMks.eq_1 (And.intro @cMk.eq_1 (And.intro @tk2 (And.intro @tk3 (And.intro @List.set_cons_succ.{0} (And.intro @List.getElem?_cons_zero.{0} (And.intro @List.getElem?_cons_succ.{0} (@List.length_set.{0}))))))))))))))))))))))))) := And.intro @evNext.eq_1 (And.intro @fld (And.intro @nit (And.intro @nxE (And.intro @ovR (And.intro @evBin_seql (And.intro @evBin_sneq (And.intro @str.eq_1 (And.intro @u8.eq_1 (And.intro @encBrs.eq_1 (And.intro @cBr.eq_1 (And.intro @encLdg.eq_1 (And.intro @encKws.eq_1 (And.intro @cKw.eq_1 (And.intro @encEvss.eq_1 (And.intro @encEvs.eq_1 (And.intro @cEv.eq_1 (And.intro @encMks.eq_1 (And.intro @cMk.eq_1 (And.intro @tk2 (And.intro @tk3 (And.intro @List.set_cons_succ.{0} (And.intro @List.getElem?_cons_zero.{0} (And.intro @List.getElem?_cons_succ.{0} (@List.length_set.{0}))))))))))))))))))))))))
theorem d_After (l : Ldg) (n : Str) (k : Int) (hz : LSz l) : CallSpec cx 53 [encLdg l, str n, i64 k] (.tup [newI (laft l n k).1, i64 (laft l n k).2]) := by
  refine callSpec_of_vc Tryz.func53 rfl (by decide) (by kernel_rfl) (Nat.le_of_ble_eq_true rfl) ?_
  try simp -dsimp (disch := omega) only [↓bp0, bd0, bd_LPa, evStore, evRange, Tryz.f53, simprocAttr]
  refine CallQ.imm (d_lview l n hz) (by rfl) (by rfl) (by first | exact .inl rfl | exact .inr rfl | exact .inr scalB | exact .inr scalI | exact .inr scalT | exact .inr scalM | exact .inr scalMT) ?_
  cases h0 : decide ((lview l n).2 = 0)
  · simp -dsimp (disch := omega) only [↓bp0, bd0, bd_LPa, evStore, evRange, retQ, resL, finL, newL, flat, tupOf, List.toList_toArray, Tryz.f53, h0, simprocAttr]
    rw [laft, if_pos (of_decide_eq_false h0)]
    exact ⟨.inr ⟨rfl, 1, rfl⟩, .rfl', trivial⟩
  have h0' := of_decide_eq_true h0
  obtain ⟨q1, q2, q3, q4⟩ := fold_pre h0'
  rw [laft, if_neg (by rw [Decidable.not_not]; exact h0')]
  generalize (lview l n).1 = v at q2 q3 q4 ⊢
  cases h1 : decide (k < 0)
  case true =>
    simp -dsimp (disch := omega) only [↓bp0, bd0, bd_LPa, evStore, evRange, retQ, resL, finL, newL, flat, tupOf, List.toList_toArray, Tryz.f53, h0, h1, simprocAttr]
    rw [if_pos (.inl (of_decide_eq_true h1))]
    exact ⟨.inr ⟨rfl, 1, rfl⟩, .rfl', trivial⟩
  cases h2 : decide ((v.length : Int) < k)
  case true =>
    simp -dsimp (disch := omega) only [↓bp0, bd0, bd_LPa, evStore, evRange, retQ, resL, finL, newL, flat, tupOf, List.toList_toArray, Tryz.f53, h0, h1, h2, newMks, simprocAttr]
    rw [if_pos (.inr (of_decide_eq_true h2))]
    exact ⟨.inr ⟨rfl, 1, rfl⟩, .rfl', trivial⟩
  have h1' := of_decide_eq_false h1
  have h2' := of_decide_eq_false h2
  rw [if_neg (by rw [not_or]; exact ⟨h1', h2'⟩)]
  obtain ⟨k, rfl⟩ : ∃ m : Nat, k = m := ⟨k.toNat, by omega⟩
  have hkl : k ≤ v.length := by omega
  have hdt : List.drop 0 (List.take k (v.map cMk)) = (v.take k).map cMk := by rw [List.drop_zero, List.map_take]
  have hdt2 : List.take k (v.map cMk) = (v.take k).map cMk := by rw [List.map_take]
  rw [Int.toNat_natCast]
  try simp -dsimp (disch := omega) only [↓bp0, bd0, bd_LPa, evStore, evRange, h0, h1, h2, newMks, simprocAttr]
  first | refine vc_text (by kernel_rfl) ?_ | skip
  try simp -dsimp (disch := omega) only [↓bp0, bd0, bd_LPa, evStore, evRange, hkl, evSlice, slc, allMk, Bool.false_and, hdt, hdt2, simprocAttr]
  refine CallY.q 4 rfl (by kernel_rfl) ?_
  refine CallQ.inm (d_folded l q1 (v.take k) (fun m hm => q2 m (List.mem_of_mem_take hm)) (fun e he => q3 e (by rw [seenE_take] at he; exact List.mem_of_mem_take he)) (by rw [List.length_take]; omega) _ _) (by rfl) ?_
  rintro r σ' nx1 ⟨id, ver, hs1, hs2, rfl, rfl⟩
  try simp -dsimp (disch := omega) only [↓bp0, bd0, bd_LPa, evStore, evRange, simprocAttr]
  refine CallY.q 5 rfl (by kernel_rfl) ?_
  refine CallQ.thaw (d_list (cls0 l.known) (seenE l (v.take k))) (by rfl) (by first | rfl | (simp -dsimp (disch := omega) only [↓bp0, bd0, bd_LPa, evStore, evRange, drcs, drc, flat, flSt, List.drop_zero, simprocAttr]; done)) flLitI ?_
  simp -dsimp (disch := omega) only [↓bp0, bd0, bd_LPa, evStore, evRange, retQ, resL, finL, newL, flat, tupOf, List.toList_toArray, Tryz.f53, effE, simprocAttr]
  exact ⟨.rfl', .rfl', trivial⟩
end Go.Ab
end

section
/- notes.Since. -/
set_option maxRecDepth 1000000
set_option maxHeartbeats 16000000
namespace Go.Ab
open Go Go.Proofs Go.Sort
theorem bd_QO : type_of% (And.intro @evNext.eq_1 (And.intro @fld (And.intro @nit (And.intro @nxE (And.intro @ghR (And.intro @ovR (And.intro @evBin_seql (And.intro @evBin_sneq (And.intro @str.eq_1 (And.intro @u8.eq_1 (And.intro @encBrs.eq_1 (And.intro @cBr.eq_1 (And.intro @encLdg.eq_1 (And.intro @encKws.eq_1 (And.intro @cKw.eq_1 (And.intro @encEvss.eq_1 (And.intro @encEvs.eq_1 (And.intro @cEv.eq_1 (And.intro @encMks.eq_1 (And.intro @cMk.eq_1 (And.intro @encStrs.eq_1 (And.intro @tk2 (And.intro @tk3 (And.intro @List.set_cons_succ.{0} (And.intro @List.getElem?_cons_zero.{0} (And.intro @List.getElem?_cons_succ.{0} (@List.length_set.{0}))))))))))))))))))))))))))) := And.intro @evNext.eq_1 (And.intro @fld (And.intro @nit (And.intro @nxE (And.intro @ghR (And.intro @ovR (And.intro @evBin_seql (And.intro @evBin_sneq (And.intro @str.eq_1 (And.intro @u8.eq_1 (And.intro @encBrs.eq_1 (And.intro @cBr.eq_1 (And.intro @encLdg.eq_1 (And.intro @encKws.eq_1 (And.intro @cKw.eq_1 (And.intro @encEvss.eq_1 (And.intro @encEvs.eq_1 (And.intro @cEv.eq_1 (And.intro @encMks.eq_1 (And.intro @cMk.eq_1 (And.intro @encStrs.eq_1 (And.intro @tk2 (And.intro @tk3 (And.intro @List.set_cons_succ.{0} (And.intro @List.getElem?_cons_zero.{0} (And.intro @List.getElem?_cons_succ.{0} (@List.length_set.{0}))))))))))))))))))))))))))
theorem n_Since1 (W : List Int) (hw : W.length ≤ 2^30) (c : Int) : CallSpec cx 105 ([i64 c] ++ [.cptr [encL W]]) (bl (W.any fun y => decide (c = y))) := by
  refine callSpec_of_vc Tryz.func105 rfl (by decide) (by kernel_rfl) (Nat.le_of_ble_eq_true rfl) ?_
  try simp -dsimp (disch := omega) only [↓bp0, bd0, bd_QO, evStore, evRange, thw, newI, Tryz.f105, List.cons_append, List.nil_append, simprocAttr]
  refine CallQ.imm (ci_con W c (by omega)) (by rfl) (by rfl) (by first | exact .inl rfl | exact .inr rfl | exact .inr scalB | exact .inr scalI | exact .inr scalT | exact .inr scalM | exact .inr scalMT | exact .inr scalE | exact .inr scalET | exact .inr scalN | exact .inr scalNT) ?_
  simp -dsimp (disch := omega) only [↓bp0, bd0, bd_QO, evStore, evRange, thw, newI, retQ, resL, finL, newL, flat, tupOf, List.toList_toArray, Tryz.f105, simprocAttr]
  exact leT_one .rfl' (by simp)
theorem keepP_ex (p : Int → Bool) (L : List Int) : ∃ E : List Int, E.length = L.length ∧ E.take (keepP p L).length = keepP p L := by
  have := List.length_filter_le (fun c => !p c) L
  exact ⟨keepP p L ++ L.drop (keepP p L).length, by rw [List.length_append, List.length_drop]; show (List.filter _ L).length + (L.length - (List.filter _ L).length) = _; omega, List.take_left' rfl⟩
theorem laft_view {l : Ldg} {b : Str} {k : Int} (h : (laft l b k).2 = 0) : (lview l b).2 = 0 := by
  unfold laft at h
  by_cases hv : (lview l b).2 = 0
  · exact hv
  · rw [if_pos hv] at h; exact h
theorem n_Since (l : Ldg) (b : Str) (k : Int) (hz : LSz l) : CallSpec cx 47 [encLdg l, str b, i64 k] (.tup [encNts (lsince l b k).1, i64 (lsince l b k).2]) := by
  refine callSpec_of_vc Tryz.func47 rfl (by decide) (by kernel_rfl) (Nat.le_of_ble_eq_true rfl) ?_
  try simp -dsimp (disch := omega) only [↓bp0, bd0, bd_QO, evStore, evRange, thw, newI, Tryz.f47, simprocAttr]
  refine CallQ.imm (d_After l b k hz) (by rfl) (by rfl) (by first | exact .inl rfl | exact .inr rfl | exact .inr scalB | exact .inr scalI | exact .inr scalT | exact .inr scalM | exact .inr scalMT | exact .inr scalE | exact .inr scalET | exact .inr scalN | exact .inr scalNT) ?_
  cases h0 : decide ((laft l b k).2 = 0)
  · have h0' := of_decide_eq_false h0
    rw [lsince, if_pos h0']
    simp -dsimp (disch := omega) only [↓bp0, bd0, bd_QO, evStore, evRange, thw, newI, retQ, resL, finL, newL, flat, tupOf, List.toList_toArray, Tryz.f47, h0, newI, simprocAttr]
    exact ⟨.inl (.inr (.inr ⟨rfl, rfl⟩)), .rfl', trivial⟩
  have h0' := of_decide_eq_true h0
  have hv := laft_view h0'
  rw [lsince, if_neg (by rw [Decidable.not_not]; exact h0')]
  have hE := d_Effect l b hz
  have hle : (leff l b).2 = 0 := by rw [leff_v hv]
  rw [hle] at hE
  have hwl : (laft l b k).1.length ≤ 30 := by
    rw [(laft_ok hv h0').2.2]
    have := lst_len (inL (cls0 l.known) ((evV l b).take k.toNat)) 0
    rw [inL_len] at this; exact this
  have hel : (leff l b).1.length ≤ 30 := leff_len
  have vB := n_viewOk l b hz hv
  have hlB := evV_len hv
  have cL := fun L h => n_lasts l (evV l b) L hz.known (by omega) h
  have hS := n_Since1 (laft l b k).1 (by omega)
  generalize (laft l b k).1 = W at hwl hS ⊢
  generalize (leff l b).1 = L at hel hE ⊢
  generalize evV l b = v at vB hlB cL ⊢
  try simp -dsimp (disch := omega) only [↓bp0, bd0, bd_QO, evStore, evRange, thw, newI, h0, newI, simprocAttr]
  refine CallQ.thawT (hE) (by rfl) (by first | rfl | (simp -dsimp (disch := omega) only [↓bp0, bd0, bd_QO, evStore, evRange, thw, newI, drcs, drc, flat, encL, simprocAttr]; done)) (by first | exact .inl rfl | exact .inr (by simp [scal1, List.all_map, isLit, newI, newB, i64, bl]; done)) ?_
  try simp -dsimp (disch := omega) only [↓bp0, bd0, bd_QO, evStore, evRange, thw, newI, decide_true, thw, newI, bne_self_eq_false, simprocAttr]
  refine CallQ.imm (vB) (by rfl) (by rfl) (by first | exact .inl rfl | exact .inr rfl | exact .inr scalB | exact .inr scalI | exact .inr scalT | exact .inr scalM | exact .inr scalMT | exact .inr scalE | exact .inr scalET | exact .inr scalN | exact .inr scalNT) ?_
  try simp -dsimp (disch := omega) only [↓bp0, bd0, bd_QO, evStore, evRange, thw, newI, newEvs, simprocAttr]
  refine vc_regJ (fun τ => τ 0 = some (.row 0 3 [[encKws l.known, encBrs l.brs, encEvss l.evs]] false)) [0, 1, 2, 3, 6] [4] (by kernel_rfl) (by kernel_rfl) ?_ ?_
  · exact (by simp -dsimp (disch := omega) only [↓bp0, bd0, bd_QO, evStore, evRange, thw, newI, simprocAttr])
  try simp -dsimp (disch := omega) only [↓bp0, bd0, bd_QO, evStore, evRange, thw, newI, vcj, implies_true, simprocAttr]
  refine ⟨fun τ hτ => by simp -dsimp (disch := omega) only [↓bp0, bd0, bd_QO, evStore, evRange, thw, newI, hτ, simprocAttr], ?_⟩
  try simp -dsimp (disch := omega) only [↓bp0, bd0, bd_QO, evStore, evRange, thw, newI, vcj, implies_true, simprocAttr]
  obtain ⟨E0, hE0, hE1⟩ := keepP_ex (fun c => W.any fun y => decide (c = y)) L
  refine EffQ.inm (d_DelG (fun c => W.any fun y => decide (c = y)) 105 (W.map fun n => [i64 n]) (fun c => hS c) L (by omega) _ _ 2 1 0 ?_ ?_ (by decide)) ⟨_, _, _, Nat.le_refl _, E0, hE0, hE1, rfl, rfl⟩ (by rfl) ?_
  · try simp -dsimp (disch := omega) only [↓bp0, bd0, bd_QO, evStore, evRange, thw, newI, simprocAttr]
  · try simp -dsimp (disch := omega) only [↓bp0, bd0, bd_QO, evStore, evRange, thw, newI, encL, simprocAttr]
  rintro r σ' nx1 ⟨hn1, E, hE, hEk, rfl, rfl⟩
  have hn1' : 3 ≤ nx1 := hn1
  have hK : keepP (fun c => W.any fun y => decide (c = y)) L = missI L W := rfl
  rw [hK] at hEk ⊢
  have hKl : (missI L W).length ≤ L.length := List.length_filter_le _ _
  have hEm : List.take (missI L W).length (E.map fun n => [PV.lit (.int .i64 n)]) = (missI L W).map fun n => [PV.lit (.int .i64 n)] := by rw [← List.map_take, hEk]
  have hKE : (missI L W).length ≤ E.length := by omega
  refine ⟨.inr (by simp -dsimp (disch := omega) only [↓bp0, bd0, bd_QO, evStore, evRange, thw, newI, simprocAttr]), ?_⟩
  have cO := cL (missI L W) (by omega)
  generalize missI L W = M at cO hEm hKE ⊢
  try simp -dsimp (disch := omega) only [↓bp0, bd0, bd_QO, evStore, evRange, thw, newI, vcj, implies_true, simprocAttr]
  refine CallY0.imm cO (by rfl) (by simp -dsimp (disch := omega) only [↓bp0, bd0, bd_QO, evStore, evRange, thw, newI, drcs, drc, dr1s, dr1, flat, encL, hEm, hKE, List.length_map, List.drop_zero, Nat.zero_add, simprocAttr]) (by first | exact .inl rfl | exact .inr scalN) ?_
  try simp -dsimp (disch := omega) only [↓bp0, bd0, bd_QO, evStore, evRange, thw, newI, newNts, simprocAttr]
  simp -dsimp (disch := omega) only [↓bp0, bd0, bd_QO, evStore, evRange, thw, newI, retQ, resL, finL, newL, flat, tupOf, List.toList_toArray, Tryz.f47, newNts, simprocAttr]
  exact ⟨fun _ _ => trivial, leT_refl (PV.tup [PV.imm (List.map cNt (lastsF (clsI l.known) v M)) false, PV.lit (Value.int IntKind.i64 0)])⟩
end Go.Ab
end

section
/- Abstract values: structs and arrays of plain parts compared. -/
namespace Go.Ab
open Go
theorem pubind {α β : Type} {P : Program} : ∀ {s : Sem α} {f : α → Sem β}, purely P (s >>= f) = (purely P s).bind fun a => purely P (f a) := by
  intro s
  induction s with
  | pure a => intro f; rfl
  | program k ih => intro f; exact ih P
  | mark m k ih => intro f; exact ih
  | _ => intro f; rfl
inductive FEq (P : Program) (xs ys : Array Value) : List Field → Bool → Prop
  | nil : FEq P xs ys [] true
  | cons {f : Field} {r : List Field} {a b : Value} {e e' : Bool} (hn : f.name ≠ "_") (ha : purely P (part f.type xs f.offset) = some a) (hb : purely P (part f.type ys f.offset) = some b)
      (he : ∀ d, purely P (Op.equalIn (d + 1) f.type a b) = some e) (hr : FEq P xs ys r e') : FEq P xs ys (f :: r) (e && e')
theorem pu_struct {P : Program} {t : TypeId} {fs : Array Field} {xs ys : Array Value} {e : Bool} (hu : purely P (underlying t) = some (.struct fs)) (hh : P.stoodInHeld t = false) (h : FEq P xs ys fs.toList e) (d : Nat) :
    purely P (Op.equalIn (d + 2) t (.agg xs) (.agg ys)) = some e := by
  unfold Op.equalIn
  rw [pubind, hu]
  simp only [Option.bind_some]
  rw [pubind]
  have h1 : purely P (program : Sem Program) = some P := rfl
  rw [h1]
  simp only [Option.bind_some, hh, Bool.false_eq_true, if_false]
  rw [← Array.forIn_toList]
  generalize fs.toList = l at h
  induction h with
  | nil => simp only [List.forIn_nil, pure_bind]; rfl
  | cons hn ha hb he hr ih =>
    rename_i f r a b e1 e2
    rw [List.forIn_cons]
    simp only [ne_eq, hn, not_false_eq_true, if_true, bind_assoc]
    rw [pubind, ha, Option.bind_some, pubind, hb, Option.bind_some, pubind, he d, Option.bind_some]
    cases e1 with
    | false => simp only [Bool.not_false, if_true, pure_bind]; rfl
    | true =>
      simp only [Bool.not_true, Bool.false_eq_true, if_false, pure_bind, Bool.true_and]
      exact ih
theorem pu_int {P : Program} {d : Nat} {k q : IntKind} {a b : Int} {t : TypeId} (h : purely P (underlying t) = some (.int q)) : purely P (Op.equalIn (d + 1) t (.int k a) (.int k b)) = some (decide (a = b)) := by
  unfold Op.equalIn
  rw [pubind, h]
  simp only [Option.bind_some, if_true]
  exact congrArg some (by rw [Bool.eq_iff_iff, beq_iff_eq, decide_eq_true_iff])
theorem pu_str {P : Program} {d : Nat} {a b : ByteArray} {t : TypeId} (h : purely P (underlying t) = some .string) : purely P (Op.equalIn (d + 1) t (.string a) (.string b)) = some (decide (a = b)) := by
  unfold Op.equalIn
  rw [pubind, h, ← beq_bytes]
  rfl
theorem pu_eql {C : Ctx} {t : TypeId} {x y : Operand} {xs ys : List Value} {e : Bool} (hg : C.P.eqGuardType C.P.depth t = false) (h : ∀ d, purely C.P (Op.equalIn (d + 2) t (.agg xs.toArray) (.agg ys.toArray)) = some e) :
    evBin C .eql t x y (.agg (xs.map .lit)) (.agg (ys.map .lit)) = some (.lit (.bool e)) ∧ evBin C .neq t x y (.agg (xs.map .lit)) (.agg (ys.map .lit)) = some (.lit (.bool !e)) := by
  have hl : ∀ zs : List Value, lits (zs.map .lit) = some zs := fun zs => by
    induction zs with
    | nil => rfl
    | cons z r ih => simp only [List.map_cons, lits, ih, Option.map_some]
  have hq : purely C.P (Op.equal t (.agg xs.toArray) (.agg ys.toArray)) = some e := h 9998
  have h0 : purely C.P (do
      let p ← program
      let q ← program
      if (!p.eqGuardType q.depth t) = true then pure ()
      else do
        let b ← Op.eqGuardIn Op.maxDepth t (.agg xs.toArray) (.agg ys.toArray)
        if b = true then unsupported (.noEntry "binop/eql: two nil values of an interface type with methods, in a part of a struct or an array") else pure () : Sem Unit) = some () := by
    rw [pubind, show purely C.P (program : Sem Program) = some C.P from rfl]
    simp only [Option.bind_some]
    rw [pubind, show purely C.P (program : Sem Program) = some C.P from rfl]
    simp only [Option.bind_some, hg, Bool.not_false, if_true]
    rfl
  have h1 : ∀ op, purely C.P (eqGuard op t x y (.agg xs.toArray) (.agg ys.toArray)) = some () := fun op => by
    cases op <;> first | exact h0 | rfl
  have hE : ∀ op, evBin C op t x y (.agg (xs.map .lit)) (.agg (ys.map .lit)) = (purely C.P (do eqGuard op t x y (.agg xs.toArray) (.agg ys.toArray); binOp op t (.agg xs.toArray) (.agg ys.toArray))).bind ofV := fun op => by
    simp only [evBin, conc, hl, Option.map_some]
  constructor
  · rw [hE, pubind, h1]
    simp only [Option.bind_some]
    have e2 : binOp .eql t (.agg xs.toArray) (.agg ys.toArray) = (Op.equal t (.agg xs.toArray) (.agg ys.toArray) >>= fun b => pure (Value.bool b)) := rfl
    rw [e2, pubind, hq]
    rfl
  · rw [hE, pubind, h1]
    simp only [Option.bind_some]
    have e2 : binOp .neq t (.agg xs.toArray) (.agg ys.toArray) = (Op.equal t (.agg xs.toArray) (.agg ys.toArray) >>= fun b => pure (Value.bool (!b))) := rfl
    rw [e2, pubind, hq]
    rfl
end Go.Ab
end

section
/- NotesSince. -/
set_option maxRecDepth 1000000
set_option maxHeartbeats 16000000
namespace Go.Ab
open Go Go.Proofs Go.Sort
theorem bd_QP : type_of% (And.intro @evNext.eq_1 (And.intro @fld (And.intro @nit (And.intro @nxE (And.intro @ghR (And.intro @ovR (And.intro @evBin_seql (And.intro @evBin_sneq (And.intro @str.eq_1 (And.intro @u8.eq_1 (And.intro @encBrs.eq_1 (And.intro @cBr.eq_1 (And.intro @encLdg.eq_1 (And.intro @encKws.eq_1 (And.intro @cKw.eq_1 (And.intro @encEvss.eq_1 (And.intro @encEvs.eq_1 (And.intro @cEv.eq_1 (And.intro @encMks.eq_1 (And.intro @cMk.eq_1 (And.intro @encStrs.eq_1 (And.intro @tk2 (And.intro @tk3 (And.intro @List.set_cons_succ.{0} (And.intro @List.getElem?_cons_zero.{0} (And.intro @List.getElem?_cons_succ.{0} (@List.length_set.{0}))))))))))))))))))))))))))) := And.intro @evNext.eq_1 (And.intro @fld (And.intro @nit (And.intro @nxE (And.intro @ghR (And.intro @ovR (And.intro @evBin_seql (And.intro @evBin_sneq (And.intro @str.eq_1 (And.intro @u8.eq_1 (And.intro @encBrs.eq_1 (And.intro @cBr.eq_1 (And.intro @encLdg.eq_1 (And.intro @encKws.eq_1 (And.intro @cKw.eq_1 (And.intro @encEvss.eq_1 (And.intro @encEvs.eq_1 (And.intro @cEv.eq_1 (And.intro @encMks.eq_1 (And.intro @cMk.eq_1 (And.intro @encStrs.eq_1 (And.intro @tk2 (And.intro @tk3 (And.intro @List.set_cons_succ.{0} (And.intro @List.getElem?_cons_zero.{0} (And.intro @List.getElem?_cons_succ.{0} (@List.length_set.{0}))))))))))))))))))))))))))
theorem eqNt {x0 y0 : Int} {x1 y1 : ByteArray} {x2 y2 : Int} {x3 y3 : Int} {ox oy : Operand} : evBin cx .eql 81 ox oy (.agg [PV.lit (Value.int .i64 x0), PV.lit (Value.string x1), PV.lit (Value.int .u8 x2), PV.lit (Value.int .i64 x3)]) (.agg [PV.lit (Value.int .i64 y0), PV.lit (Value.string y1), PV.lit (Value.int .u8 y2), PV.lit (Value.int .i64 y3)]) = some (.lit (.bool (decide (x0 = y0) && (decide (x1 = y1) && (decide (x2 = y2) && (decide (x3 = y3) && true)))))) ∧ evBin cx .neq 81 ox oy (.agg [PV.lit (Value.int .i64 x0), PV.lit (Value.string x1), PV.lit (Value.int .u8 x2), PV.lit (Value.int .i64 x3)]) (.agg [PV.lit (Value.int .i64 y0), PV.lit (Value.string y1), PV.lit (Value.int .u8 y2), PV.lit (Value.int .i64 y3)]) = some (.lit (.bool !(decide (x0 = y0) && (decide (x1 = y1) && (decide (x2 = y2) && (decide (x3 = y3) && true)))))) :=
  pu_eql (xs := [Value.int .i64 x0, Value.string x1, Value.int .u8 x2, Value.int .i64 x3]) (ys := [Value.int .i64 y0, Value.string y1, Value.int .u8 y2, Value.int .i64 y3]) (by kernel_rfl) (pu_struct (fs := sfOf 81) (by kernel_rfl) (by kernel_rfl) (by
    rw [show (sfOf 81).toList = [(sfOf 81)[0]!, (sfOf 81)[1]!, (sfOf 81)[2]!, (sfOf 81)[3]!] by kernel_rfl]
    exact .cons (of_decide_eq_true (by kernel_rfl)) (by kernel_rfl) (by kernel_rfl) (fun _ => pu_int (k := .i64) (q := .i64) (by kernel_rfl)) (.cons (of_decide_eq_true (by kernel_rfl)) (by kernel_rfl) (by kernel_rfl) (fun _ => pu_str (by kernel_rfl)) (.cons (of_decide_eq_true (by kernel_rfl)) (by kernel_rfl) (by kernel_rfl) (fun _ => pu_int (k := .u8) (q := .u8) (by kernel_rfl)) (.cons (of_decide_eq_true (by kernel_rfl)) (by kernel_rfl) (by kernel_rfl) (fun _ => pu_int (k := .i64) (q := .i64) (by kernel_rfl)) (.nil))))))
theorem r_SameNt (g : List Nt) (hg : g.length ≤ 9223372036854775807) : CallSpec cx 50 [encNts g, encNts g] (bl true) := r_SameN g hg fun n _ x y => by
  rw [eqNt.2]; simp
theorem LOk.sz {l : Ldg} (h : LOk l) : LSz l := ⟨by have := h.known; omega, by have := h.vok.le8; omega, by have := h.vok.le8; have := h.len; omega, fun s hs => by have := h.evs s hs; omega⟩
theorem laft_arg {l : Ldg} {b : Str} {k : Int} (hv : (lview l b).2 = 0) (h : (laft l b k).2 ≠ 0) : (laft l b k).2 = 2 := by
  unfold laft at h ⊢
  rw [if_neg (by rw [Decidable.not_not]; exact hv)] at h ⊢
  split at h
  · rename_i h1; rw [if_pos h1]
  · exact absurd rfl h
theorem lsince2 {l : Ldg} {b : Str} {k : Int} : (lsince l b k).2 = (laft l b k).2 := by
  unfold lsince
  split
  · rfl
  · rename_i h; rw [Decidable.not_not] at h; exact h.symm
theorem lsince_len {l : Ldg} {b : Str} {k : Int} (hv : (lview l b).2 = 0) : (lsince l b k).1.length ≤ 2^20 := by
  unfold lsince
  split
  · simp
  · have := lastsF_len (f := clsI l.known) (v := evV l b) (cs := missI (leff l b).1 (laft l b k).1)
    have := evV_len hv
    simp only
    omega
def sST : Str := ⟨#[115, 105, 110, 99, 101, 45, 116, 104, 101, 110]⟩
theorem l_Since (l : Ldg) (b : Str) (k : Int) (hl : l.known.length ≤ 9223372036854775807) (hb : l.brs.length ≤ 9223372036854775807) (hv : l.evs.length ≤ 9223372036854775807) (he : ∀ s ∈ l.evs, s.length ≤ 9223372036854775807) :
    CallSpec cx 11 [encLdg l, str b, i64 k] (bl true) := by
  refine callSpec_of_vc Tryz.func11 rfl (by decide) (by kernel_rfl) (Nat.le_of_ble_eq_true rfl) ?_
  try simp -dsimp (disch := omega) only [↓bp0, bd0, bd_QP, evStore, evRange, cNt, tk4, Tryz.f11, simprocAttr]
  refine CallQ.imm (v_alive) (by rfl) (by rfl) (by first | exact .inl rfl | exact .inr rfl | exact .inr scalB | exact .inr scalI | exact .inr scalT | exact .inr scalM | exact .inr scalMT | exact .inr scalE | exact .inr scalET | exact .inr scalN | exact .inr scalNT) ?_
  try simp -dsimp (disch := omega) only [↓bp0, bd0, bd_QP, evStore, evRange, cNt, tk4, simprocAttr]
  refine CallQ.imm (r_Great29 l hl hb hv he) (by rfl) (by rfl) (by first | exact .inl rfl | exact .inr rfl | exact .inr scalB | exact .inr scalI | exact .inr scalT | exact .inr scalM | exact .inr scalMT | exact .inr scalE | exact .inr scalET | exact .inr scalN | exact .inr scalNT) ?_
  cases hg : grt29 l
  case true =>
    simp -dsimp (disch := omega) only [↓bp0, bd0, bd_QP, evStore, evRange, cNt, tk4, retQ, resL, finL, newL, flat, tupOf, List.toList_toArray, Tryz.f11, hg, simprocAttr]
    exact leT_one .rfl' (by simp)
  obtain ⟨hz, hn⟩ := grt29_noP hg
  try simp -dsimp (disch := omega) only [↓bp0, bd0, bd_QP, evStore, evRange, cNt, tk4, hg, simprocAttr]
  refine CallQ.imm (v_long b ⟨#[]⟩) (by rfl) (by rfl) (by first | exact .inl rfl | exact .inr rfl | exact .inr scalB | exact .inr scalI | exact .inr scalT | exact .inr scalM | exact .inr scalMT | exact .inr scalE | exact .inr scalET | exact .inr scalN | exact .inr scalNT) ?_
  cases c1 : decide ((100 : Int) < (b.size : Int))
  case true =>
    simp -dsimp (disch := omega) only [↓bp0, bd0, bd_QP, evStore, evRange, cNt, tk4, retQ, resL, finL, newL, flat, tupOf, List.toList_toArray, Tryz.f11, c1, Bool.true_or, simprocAttr]
    exact leT_one .rfl' (by simp)
  have c2 : decide ((100 : Int) < (((⟨#[]⟩ : Str).size : Nat) : Int)) = false := by decide
  try simp -dsimp (disch := omega) only [↓bp0, bd0, bd_QP, evStore, evRange, cNt, tk4, c1, c2, Bool.or_false, simprocAttr]
  refine CallQ.imm (v_Both l b b hz hn) (by rfl) (by rfl) (by first | exact .inl rfl | exact .inr rfl | exact .inr scalB | exact .inr scalI | exact .inr scalT | exact .inr scalM | exact .inr scalMT | exact .inr scalE | exact .inr scalET | exact .inr scalN | exact .inr scalNT) ?_
  cases h0 : decide (bothE l b b = 0)
  · simp -dsimp (disch := omega) only [↓bp0, bd0, bd_QP, evStore, evRange, cNt, tk4, retQ, resL, finL, newL, flat, tupOf, List.toList_toArray, Tryz.f11, h0, simprocAttr]
    exact leT_one .rfl' (by simp)
  obtain ⟨vb, _, hlc⟩ := bothE_zero (of_decide_eq_true h0)
  have k1 := d_Effect l b hz
  have k2 := n_Since l b 0 hz
  have k3 := n_Since l b k hz
  have k4 := d_After l b k hz
  have hl1 := lsince_len (k := 0) vb
  have hl2 := lsince_len (k := k) vb
  have hl3 : (leff l b).1.length ≤ 30 := leff_len
  have h00 : (laft l b 0).2 = 0 := by
    unfold laft
    rw [if_neg (by rw [Decidable.not_not]; exact vb), if_neg (by omega)]
  have hle : (leff l b).2 = 0 := by rw [leff_v vb]
  rw [hle] at k1
  rw [lsince2, h00] at k2
  rw [lsince2] at k3
  have P0 := since_ok vb h00
  have cO := v_once (lsince l b 0).1 (leff l b).1 (by omega) P0.al P0.ai P0.au
  clear P0
  cases hk : decide ((laft l b k).2 = 0)
  · have hk' := of_decide_eq_false hk
    have hk2 := laft_arg vb hk'
    have e1 : (lsince l b k).1 = [] := by rw [lsince, if_pos hk']
    rw [hk2] at k3 k4
    rw [e1] at k3
    generalize (lsince l b 0).1 = A at k2 cO
    generalize (leff l b).1 = C at k1 cO
    generalize (laft l b k).1 = W at k4
    try simp -dsimp (disch := omega) only [↓bp0, bd0, bd_QP, evStore, evRange, cNt, tk4, h0, simprocAttr]
    refine CallQ.imm (k1) (by rfl) (by rfl) (by first | exact .inl rfl | exact .inr rfl | exact .inr scalB | exact .inr scalI | exact .inr scalT | exact .inr scalM | exact .inr scalMT | exact .inr scalE | exact .inr scalET | exact .inr scalN | exact .inr scalNT) ?_
    try simp -dsimp (disch := omega) only [↓bp0, bd0, bd_QP, evStore, evRange, cNt, tk4, newI, simprocAttr]
    refine CallQ.imm (k2) (by rfl) (by rfl) (by first | exact .inl rfl | exact .inr rfl | exact .inr scalB | exact .inr scalI | exact .inr scalT | exact .inr scalM | exact .inr scalMT | exact .inr scalE | exact .inr scalET | exact .inr scalN | exact .inr scalNT) ?_
    try simp -dsimp (disch := omega) only [↓bp0, bd0, bd_QP, evStore, evRange, cNt, tk4, encNts, simprocAttr]
    refine CallQ.imm (k3) (by rfl) (by rfl) (by first | exact .inl rfl | exact .inr rfl | exact .inr scalB | exact .inr scalI | exact .inr scalT | exact .inr scalM | exact .inr scalMT | exact .inr scalE | exact .inr scalET | exact .inr scalN | exact .inr scalNT) ?_
    try simp -dsimp (disch := omega) only [↓bp0, bd0, bd_QP, evStore, evRange, cNt, tk4, encNts, simprocAttr]
    refine CallQ.imm (k4) (by rfl) (by rfl) (by first | exact .inl rfl | exact .inr rfl | exact .inr scalB | exact .inr scalI | exact .inr scalT | exact .inr scalM | exact .inr scalMT | exact .inr scalE | exact .inr scalET | exact .inr scalN | exact .inr scalNT) ?_
    try simp -dsimp (disch := omega) only [↓bp0, bd0, bd_QP, evStore, evRange, cNt, tk4, newI, encNts, decide_true, simprocAttr]
    refine CallQ.imm (cO) (by rfl) (by rfl) (by first | exact .inl rfl | exact .inr rfl | exact .inr scalB | exact .inr scalI | exact .inr scalT | exact .inr scalM | exact .inr scalMT | exact .inr scalE | exact .inr scalET | exact .inr scalN | exact .inr scalNT) ?_
    simp -dsimp (disch := omega) only [↓bp0, bd0, bd_QP, evStore, evRange, cNt, tk4, retQ, resL, finL, newL, flat, tupOf, List.toList_toArray, Tryz.f11, newI, encNts, decide_true, List.map_nil, List.length_nil, uUn, Option.bind_some, simprocAttr]
    exact leT_one .rfl' (by simp)
  have hk' := of_decide_eq_true hk
  have P := since_ok vb hk'
  have hwl : (laft l b k).1.length ≤ 30 := by
    rw [(laft_ok vb hk').2.2]
    have := lst_len (inL (cls0 l.known) ((evV l b).take k.toNat)) 0
    rw [inL_len] at this; exact this
  have hcut := cut_news (nm := sST) vb hk'
  have kC := d_lCut l b sST k hz
  have hS2 : (lsince l b k).2 = 0 := by rw [lsince2, hk']
  rw [hk'] at k3 k4
  obtain ⟨_, _, _, p4, p5, p6⟩ := P
  generalize (lsince l b 0).1 = A at k2 cO
  generalize (lsince l b k) = SS at k3 hl2 p4 p5 p6 hcut hS2
  generalize (leff l b).1 = C at k1 cO hl3 p6
  generalize (laft l b k).1 = W at k4 hwl p5
  try simp -dsimp (disch := omega) only [↓bp0, bd0, bd_QP, evStore, evRange, cNt, tk4, h0, simprocAttr]
  refine CallQ.imm (k1) (by rfl) (by rfl) (by first | exact .inl rfl | exact .inr rfl | exact .inr scalB | exact .inr scalI | exact .inr scalT | exact .inr scalM | exact .inr scalMT | exact .inr scalE | exact .inr scalET | exact .inr scalN | exact .inr scalNT) ?_
  try simp -dsimp (disch := omega) only [↓bp0, bd0, bd_QP, evStore, evRange, cNt, tk4, newI, simprocAttr]
  refine CallQ.imm (k2) (by rfl) (by rfl) (by first | exact .inl rfl | exact .inr rfl | exact .inr scalB | exact .inr scalI | exact .inr scalT | exact .inr scalM | exact .inr scalMT | exact .inr scalE | exact .inr scalET | exact .inr scalN | exact .inr scalNT) ?_
  try simp -dsimp (disch := omega) only [↓bp0, bd0, bd_QP, evStore, evRange, cNt, tk4, encNts, simprocAttr]
  refine CallQ.imm (k3) (by rfl) (by rfl) (by first | exact .inl rfl | exact .inr rfl | exact .inr scalB | exact .inr scalI | exact .inr scalT | exact .inr scalM | exact .inr scalMT | exact .inr scalE | exact .inr scalET | exact .inr scalN | exact .inr scalNT) ?_
  try simp -dsimp (disch := omega) only [↓bp0, bd0, bd_QP, evStore, evRange, cNt, tk4, encNts, simprocAttr]
  refine CallQ.imm (k4) (by rfl) (by rfl) (by first | exact .inl rfl | exact .inr rfl | exact .inr scalB | exact .inr scalI | exact .inr scalT | exact .inr scalM | exact .inr scalMT | exact .inr scalE | exact .inr scalET | exact .inr scalN | exact .inr scalNT) ?_
  try simp -dsimp (disch := omega) only [↓bp0, bd0, bd_QP, evStore, evRange, cNt, tk4, newI, encNts, decide_true, simprocAttr]
  refine CallQ.imm (cO) (by rfl) (by rfl) (by first | exact .inl rfl | exact .inr rfl | exact .inr scalB | exact .inr scalI | exact .inr scalT | exact .inr scalM | exact .inr scalMT | exact .inr scalE | exact .inr scalET | exact .inr scalN | exact .inr scalNT) ?_
  try simp -dsimp (disch := omega) only [↓bp0, bd0, bd_QP, evStore, evRange, cNt, tk4, newI, encNts, decide_true, uUn, Option.bind_some, Bool.not_true, simprocAttr]
  obtain ⟨SS, S2⟩ := SS
  simp only at k3 hl2 p4 p5 p6 hcut hS2
  subst hS2
  refine LoopQ.rule (fun m st => ∃ (i : Nat), i ≤ SS.length ∧ m = SS.length - i ∧
    st = ⟨mkE [(1, str b), (2, i64 k), (3, .ptr 0 0 0 0), (7, bl true), (8, encL C), (12, encNts SS), (14, encL W), (16, i64 i)], mkS [(0, .row 0 3 [[encKws l.known, encBrs l.brs, encEvss l.evs]] false)], 1⟩) _ _ (weak_of ?_)
    ⟨0, by omega, rfl, rfl⟩ ?_
  · first | (simp -dsimp (disch := omega) only [↓bp0, bd0, bd_QP, evStore, evRange, cNt, tk4, encNts, newI, simprocAttr]; done) | simp -dsimp [evl, putN, i64, u32, bl, encL, encB, encLL, encNts, newI]
  rintro m st ⟨i, hi, rfl, rfl⟩
  try simp -dsimp (disch := omega) only [↓bp0, bd0, bd_QP, evStore, evRange, cNt, tk4, encNts, List.length_map, simprocAttr]
  refine onC_nlt (fun h2 => ?_) (fun h2 => ?_)
  · obtain ⟨n, hx, hxm⟩ := get_of_lt h2
    have d1 : decide (n.pl < k) = false := decide_eq_false (by have := p4 n hxm; omega)
    have d2 : decide (n.cls ∈ W) = false := decide_eq_false (p5 n hxm)
    have d3 : decide (n.cls ∈ C) = true := decide_eq_true (p6 n hxm)
    try simp -dsimp (disch := omega) only [↓bp0, bd0, bd_QP, evStore, evRange, cNt, tk4, hx, d1, encNts, simprocAttr]
    refine CallQ.imm (v_has W n.cls (by omega)) (by rfl) (by rfl) (by first | exact .inl rfl | exact .inr rfl | exact .inr scalB | exact .inr scalI | exact .inr scalT | exact .inr scalM | exact .inr scalMT | exact .inr scalE | exact .inr scalET | exact .inr scalN | exact .inr scalNT) ?_
    try simp -dsimp (disch := omega) only [↓bp0, bd0, bd_QP, evStore, evRange, cNt, tk4, hx, d1, d2, encNts, simprocAttr]
    refine CallQ.imm (v_has C n.cls (by omega)) (by rfl) (by rfl) (by first | exact .inl rfl | exact .inr rfl | exact .inr scalB | exact .inr scalI | exact .inr scalT | exact .inr scalM | exact .inr scalMT | exact .inr scalE | exact .inr scalET | exact .inr scalN | exact .inr scalNT) ?_
    try simp -dsimp (disch := omega) only [↓bp0, bd0, bd_QP, evStore, evRange, cNt, tk4, hx, d3, uUn, Option.bind_some, Bool.not_true, encNts, simprocAttr]
    refine ⟨_, _, ?_, weak_of ?_, i + 1, h2, rfl, rfl⟩
    · omega
    · first | (simp -dsimp (disch := omega) only [↓bp0, bd0, bd_QP, evStore, evRange, cNt, tk4, wrapS h2 (show SS.length ≤ 9223372036854775807 by omega), encNts, simprocAttr]; done) | simp -dsimp [evl, putN, i64, u32, bl, encL, encB, encLL, wrapS h2 (show SS.length ≤ 9223372036854775807 by omega), encNts]
  have hss : (⟨#[115, 105, 110, 99, 101, 45, 116, 104, 101, 110]⟩ : ByteArray) = sST := rfl
  try simp -dsimp (disch := omega) only [↓bp0, bd0, bd_QP, evStore, evRange, cNt, tk4, encNts, hss, simprocAttr]
  refine CallQ.imm (kC) (by rfl) (by rfl) (by first | exact .inl rfl | exact .inr rfl | exact .inr scalB | exact .inr scalI | exact .inr scalT | exact .inr scalM | exact .inr scalMT | exact .inr scalE | exact .inr scalET | exact .inr scalN | exact .inr scalNT) ?_
  cases hc : decide (lcutE l b sST k = 0)
  · rw [encCut, if_neg (of_decide_eq_false hc)]
    simp -dsimp (disch := omega) only [↓bp0, bd0, bd_QP, evStore, evRange, cNt, tk4, retQ, resL, finL, newL, flat, tupOf, List.toList_toArray, Tryz.f11, hc, simprocAttr]
    exact leT_one .rfl' (by simp)
  have hc' := of_decide_eq_true hc
  have hok := (lcut_ok hc').2.2.2.2.2.1
  have kN := n_News (addB l ⟨sST, b, k⟩) sST b hok.sz
  rw [hcut hc'] at kN
  simp only at kN
  rw [encCut, if_pos hc']
  try simp -dsimp (disch := omega) only [↓bp0, bd0, bd_QP, evStore, evRange, cNt, tk4, hc, encNts, hss, simprocAttr]
  refine CallQ.imm (kN) (by rfl) (by rfl) (by first | exact .inl rfl | exact .inr rfl | exact .inr scalB | exact .inr scalI | exact .inr scalT | exact .inr scalM | exact .inr scalMT | exact .inr scalE | exact .inr scalET | exact .inr scalN | exact .inr scalNT) ?_
  try simp -dsimp (disch := omega) only [↓bp0, bd0, bd_QP, evStore, evRange, cNt, tk4, newNts, simprocAttr]
  refine CallQ.imm (r_SameNt SS (by omega)) (by rfl) (by rfl) (by first | exact .inl rfl | exact .inr rfl | exact .inr scalB | exact .inr scalI | exact .inr scalT | exact .inr scalM | exact .inr scalMT | exact .inr scalE | exact .inr scalET | exact .inr scalN | exact .inr scalNT) ?_
  simp -dsimp (disch := omega) only [↓bp0, bd0, bd_QP, evStore, evRange, cNt, tk4, retQ, resL, finL, newL, flat, tupOf, List.toList_toArray, Tryz.f11, simprocAttr]
  exact leT_one .rfl' (by simp)
end Go.Ab
end
