/- The reference's decimals and cuts of words. -/
import Derived.Test.YtgcodedanljhpaaGreatDoorLR
import Derived.Test.YtgcodedanljhpaaGreatDoorNA
import Derived.Test.YtgcodedanljhpaaGreatDoorLA
import Derived.Test.YtgcodedanljhpaaGreatDoorQR
import Derived.Test.YtgcodedanljhpaaGreatDoorPM
set_option linter.unusedSimpArgs false
set_option linter.unusedVariables false
section
set_option maxRecDepth 1000000
set_option maxHeartbeats 8000000
namespace Go.Ab
open Go Go.Proofs
theorem bd_QA : type_of% (And.intro @evNext.eq_1 (And.intro @fld (And.intro @nit (And.intro @nxE (And.intro @ghR (And.intro @ovR (And.intro @evBin_seql (And.intro @evBin_sneq (And.intro @str.eq_1 (And.intro @u8.eq_1 (And.intro @encStrs.eq_1 (And.intro @tk2 (And.intro @tk3 (And.intro @List.set_cons_succ.{0} (And.intro @List.getElem?_cons_zero.{0} (And.intro @List.getElem?_cons_succ.{0} (@List.length_set.{0}))))))))))))))))) := And.intro @evNext.eq_1 (And.intro @fld (And.intro @nit (And.intro @nxE (And.intro @ghR (And.intro @ovR (And.intro @evBin_seql (And.intro @evBin_sneq (And.intro @str.eq_1 (And.intro @u8.eq_1 (And.intro @encStrs.eq_1 (And.intro @tk2 (And.intro @tk3 (And.intro @List.set_cons_succ.{0} (And.intro @List.getElem?_cons_zero.{0} (And.intro @List.getElem?_cons_succ.{0} (@List.length_set.{0}))))))))))))))))
theorem cvI8w {σ : Store} {n : Int} : evConv cx σ 3 5 (.lit (.int .i64 n)) = some (.lit (.int .u8 (IntKind.u8.wrap n))) := by rfl
theorem cvBw {σ : Store} {id ver off len : Nat} {c : Bool} : evConv cx σ 117 9 (.own id ver off len c) = match σ id with
    | some (.row ver' _ es _) => if ver = ver' ∧ off + len ≤ es.length then (match byteL ((es.drop off).take len) with
      | some ns => some (.lit (.string (bstr ns)))
      | none => none) else none
    | _ => none := by
  have h : bytesT cx 117 9 = true := by kernel_rfl
  simp only [evConv, h, and_true]
  first | rfl | (split <;> rfl)
theorem evR10 {C : Ctx} {t : TypeId} {x y : Operand} {a : Int} : evBin C .rem t x y (.lit (.int .i64 a)) (.lit (.int .i64 10)) = some (.lit (.int .i64 (a.tmod 10))) := by rfl
theorem evQ10 {C : Ctx} {t : TypeId} {x y : Operand} {a : Int} : evBin C .quo t x y (.lit (.int .i64 a)) (.lit (.int .i64 10)) = some (.lit (.int .i64 (IntKind.i64.wrap (a.tdiv 10)))) := by rfl
theorem dig_one : ∀ n : Fin 10, bstr [((48 + n.val : Nat) : Int)] = dig n.val := by decide +kernel
theorem dig_sz (n : Nat) : (dig n).size = 1 := rfl
theorem decF_sz : ∀ (f n : Nat), (decF f n).size ≤ f
  | 0, _ => Nat.le_refl _
  | f + 1, n => by
    have := decF_sz f (n / 10)
    rw [decF]
    split
    · rw [dig_sz]; omega
    · rw [ByteArray.size_append, dig_sz]; omega
theorem decF_st : ∀ (f n : Nat), n < 10 ^ (f + 1) → decF (f + 2) n = decF (f + 1) n
  | 0, n, h => by
    have h : n < 10 := h
    show (if n < 10 then dig n else _) = (if n < 10 then dig n else _)
    rw [if_pos h, if_pos h]
  | f + 1, n, h => by
    have ih := decF_st f (n / 10) (by rw [Nat.div_lt_iff_lt_mul (by omega)]; rw [Nat.pow_succ] at h; exact h)
    rw [decF, ih, ← decF]
theorem dec_lt10 {n : Nat} (h : n < 10) : dec n = dig n := by rw [dec, decF, if_pos h]
theorem dec_step {n : Nat} (h : 10 ≤ n) (hn : n < 10 ^ 19) : dec n = dec (n / 10) ++ dig (n % 10) := by
  have : dec (n / 10) = decF 19 (n / 10) := decF_st 18 (n / 10) (by omega)
  rw [this, dec, decF, if_neg (by omega)]
theorem r_dec36 (n : Nat) (h : n < 9223372036854775808) : CallSpec cx 40 [i64 n] (str (dec n)) := by
  have hd : ∀ m : Nat, m < 9223372036854775808 → IntKind.i64.wrap ((m : Int).tdiv 10) = ((m / 10 : Nat) : Int) ∧ IntKind.i64.wrap ((m : Int) / 10) = ((m / 10 : Nat) : Int) ∧ IntKind.i64.wrap ((m : Int).tmod 10) = ((m % 10 : Nat) : Int) ∧ (m : Int).tmod 10 = ((m % 10 : Nat) : Int) := fun m hm => by
    have e1 : (m : Int).tdiv 10 = ((m / 10 : Nat) : Int) := by rw [Int.tdiv_eq_ediv_of_nonneg (by omega)]; omega
    have e2 : (m : Int) / 10 = ((m / 10 : Nat) : Int) := by omega
    have e3 : (m : Int).tmod 10 = ((m % 10 : Nat) : Int) := by rw [Int.tmod_eq_emod_of_nonneg (by omega)]; omega
    have e4 : (m : Int) % 10 = ((m % 10 : Nat) : Int) := by omega
    have w1 : IntKind.i64.wrap ((m / 10 : Nat) : Int) = ((m / 10 : Nat) : Int) := IntWalk.i64_in _ (by omega)
    have w2 : IntKind.i64.wrap ((m % 10 : Nat) : Int) = ((m % 10 : Nat) : Int) := IntWalk.i64_in _ (by omega)
    rw [e1, e2, e3, w1, w2]; exact ⟨rfl, rfl, rfl, rfl⟩
  have hw1 : ∀ m : Nat, m < 10 → IntKind.i64.wrap (48 + (m : Int)) = ((48 + m : Nat) : Int) := fun m hm => by rw [IntWalk.i64_in _ (by omega)]; omega
  have hw2 : ∀ m : Nat, m < 10 → IntKind.u8.wrap ((48 + m : Nat) : Int) = ((48 + m : Nat) : Int) := fun m hm => IntWalk.u8_in _ (by omega)
  have hE : ∀ m : Nat, m < 10 → bstr [((48 + m : Nat) : Int)] = dig m := fun m hm => dig_one ⟨m, hm⟩
  obtain ⟨a1, a2, a3, a4⟩ := hd n h
  have b := Nat.mod_lt n (show 10 > 0 by omega)
  refine callSpec_of_vc Tryz.func40 rfl (by decide) (by kernel_rfl) (Nat.le_of_ble_eq_true rfl) ?_
  try simp -dsimp (disch := omega) only [↓bp0, bd0, bd_QA, evStore, evRange, Tryz.f40, evR10, evQ10, a1, a2, a3, a4, hw1 _ b, cvI8w, cvBw, byteL, List.drop_zero, hw2 _ b, hE _ b, PV.cellsP, simprocAttr]
  refine LoopQ.rule (fun m st => ∃ (k nx : Nat) (s : Str), k ≤ n ∧ s.size ≤ 20 ∧ ((k = 0 ∧ s = dec n) ∨ (0 < k ∧ dec k ++ s = dec n)) ∧ m = k ∧
    st = ⟨mkE [(0, i64 k), (3, str s)], mkS [], nx⟩) _ _ (weak_of ?_)
    ⟨n / 10, 1, dig (n % 10), Nat.div_le_self _ _, by rw [dig_sz]; omega, ?_, rfl, rfl⟩ ?_
  · first | (simp -dsimp (disch := omega) only [↓bp0, bd0, bd_QA, evStore, evRange, a1, a2, a3, a4, hw1 _ b, cvI8w, cvBw, byteL, List.drop_zero, hw2 _ b, hE _ b, PV.cellsP, simprocAttr]; done) | simp -dsimp [evl, putN, i64, u32, bl, encL, encB, encLL, a1, a2, a3, a4, hw1 _ b, cvI8w, cvBw, byteL, List.drop_zero, hw2 _ b, hE _ b, PV.cellsP]
  · by_cases h10 : n < 10
    · exact .inl ⟨by omega, by rw [dec_lt10 h10, Nat.mod_eq_of_lt h10]⟩
    · exact .inr ⟨by omega, (dec_step (by omega) (by omega)).symm⟩
  rintro m st ⟨k, nx, s, hk, hs, hinv, hmk, rfl⟩
  obtain ⟨a1, a2, a3, a4⟩ := hd k (by omega)
  have b := Nat.mod_lt k (show 10 > 0 by omega)
  cases h0 : decide ((0 : Int) < (k : Int))
  · have h0' := of_decide_eq_false h0
    have hsn : s = dec n := by
      rcases hinv with ⟨_, h⟩ | ⟨h, _⟩
      · exact h
      · omega
    simp -dsimp (disch := omega) only [↓bp0, bd0, bd_QA, evStore, evRange, retQ, resL, finL, newL, flat, tupOf, List.toList_toArray, Tryz.f40, h0, simprocAttr]
    rw [hsn]
    exact leT_one (le1.rfl' (p := str _)) (fun _ h => by cases h)
  · have h0' := of_decide_eq_true h0
    obtain ⟨hk0, hkd⟩ := hinv.resolve_left (fun h => by omega)
    have sA : ∀ {C : Ctx} {t : TypeId} {x y : Operand}, evBin C .add t x y (.lit (.string (dig (k % 10)))) (.lit (.string s)) = some (.lit (.string (dig (k % 10) ++ s))) := evBin_sadd (by rw [dig_sz]; omega)
    try simp -dsimp (disch := omega) only [↓bp0, bd0, bd_QA, evStore, evRange, h0, a1, a2, a3, a4, hw1 _ b, cvI8w, cvBw, byteL, List.drop_zero, hw2 _ b, hE _ b, PV.cellsP, sA, evR10, evQ10, simprocAttr]
    have hsz : (dig (k % 10) ++ s).size ≤ 20 := by
      have h1 : (dec n).size ≤ 20 := decF_sz 20 n
      have h2 : (dec k).size = (decF 19 (k / 10)).size + 1 ∨ (dec k).size = 1 := by
        by_cases h10 : k < 10
        · rw [dec_lt10 h10]; exact .inr (dig_sz _)
        · rw [dec, decF, if_neg h10, ByteArray.size_append, dig_sz]; exact .inl rfl
      rw [← hkd, ByteArray.size_append] at h1
      rw [ByteArray.size_append, dig_sz]
      omega
    refine ⟨_, _, ?_, weak_of ?_, k / 10, nx + 1, dig (k % 10) ++ s, by omega, hsz, ?_, rfl, rfl⟩
    · omega
    · first | (simp -dsimp (disch := omega) only [↓bp0, bd0, bd_QA, evStore, evRange, a1, a2, a3, a4, hw1 _ b, cvI8w, cvBw, byteL, List.drop_zero, hw2 _ b, hE _ b, PV.cellsP, sA, simprocAttr]; done) | simp -dsimp [evl, putN, i64, u32, bl, encL, encB, encLL, a1, a2, a3, a4, hw1 _ b, cvI8w, cvBw, byteL, List.drop_zero, hw2 _ b, hE _ b, PV.cellsP, sA]
    · by_cases h10 : k < 10
      · refine .inl ⟨by omega, ?_⟩
        rw [← hkd, dec_lt10 h10, Nat.mod_eq_of_lt h10]
      · refine .inr ⟨by omega, ?_⟩
        have e := dec_step (n := k) (by omega) (by omega)
        rw [← hkd, e, ByteArray.append_assoc]
/-! ### cutting at a byte -/
def newStrs (l : List Str) : PV := .new 1 (l.map fun s => [str s])
def isAt (s : Str) (c : UInt8) (i : Nat) : Bool := if h : i < s.size then s[i]'h == c else true
def cutGo (s : Str) (c : UInt8) : Nat → List Str × Nat
  | 0 => ([], 0)
  | i + 1 => if isAt s c i then ((cutGo s c i).1 ++ [s.extract (cutGo s c i).2 i], i + 1) else cutGo s c i
def cutS (s : Str) (c : UInt8) : List Str := (cutGo s c (s.size + 1)).1
end Go.Ab
end

section
/- Abstract values: structs and arrays of plain parts compared. -/
namespace Go.Ab
open Go
theorem pubind {α β : Type} {P : Program} : ∀ {s : Sem α} {f : α → Sem β}, purely P (s >>= f) = (purely P s).bind fun a => purely P (f a) := by
  intro s
  induction s with
  | pure a => intro f; rfl
  | program k ih => intro f; exact ih P
  | mark m k ih => intro f; exact ih
  | _ => intro f; rfl
inductive FEq (P : Program) (xs ys : Array Value) : List Field → Bool → Prop
  | nil : FEq P xs ys [] true
  | cons {f : Field} {r : List Field} {a b : Value} {e e' : Bool} (hn : f.name ≠ "_") (ha : purely P (part f.type xs f.offset) = some a) (hb : purely P (part f.type ys f.offset) = some b)
      (he : ∀ d, purely P (Op.equalIn (d + 1) f.type a b) = some e) (hr : FEq P xs ys r e') : FEq P xs ys (f :: r) (e && e')
theorem pu_struct {P : Program} {t : TypeId} {fs : Array Field} {xs ys : Array Value} {e : Bool} (hu : purely P (underlying t) = some (.struct fs)) (hh : P.stoodInHeld t = false) (h : FEq P xs ys fs.toList e) (d : Nat) :
    purely P (Op.equalIn (d + 2) t (.agg xs) (.agg ys)) = some e := by
  unfold Op.equalIn
  rw [pubind, hu]
  simp only [Option.bind_some]
  rw [pubind]
  have h1 : purely P (program : Sem Program) = some P := rfl
  rw [h1]
  simp only [Option.bind_some, hh, Bool.false_eq_true, if_false]
  rw [← Array.forIn_toList]
  generalize fs.toList = l at h
  induction h with
  | nil => simp only [List.forIn_nil, pure_bind]; rfl
  | cons hn ha hb he hr ih =>
    rename_i f r a b e1 e2
    rw [List.forIn_cons]
    simp only [ne_eq, hn, not_false_eq_true, if_true, bind_assoc]
    rw [pubind, ha, Option.bind_some, pubind, hb, Option.bind_some, pubind, he d, Option.bind_some]
    cases e1 with
    | false => simp only [Bool.not_false, if_true, pure_bind]; rfl
    | true =>
      simp only [Bool.not_true, Bool.false_eq_true, if_false, pure_bind, Bool.true_and]
      exact ih
theorem pu_int {P : Program} {d : Nat} {k q : IntKind} {a b : Int} {t : TypeId} (h : purely P (underlying t) = some (.int q)) : purely P (Op.equalIn (d + 1) t (.int k a) (.int k b)) = some (decide (a = b)) := by
  unfold Op.equalIn
  rw [pubind, h]
  simp only [Option.bind_some, if_true]
  exact congrArg some (by rw [Bool.eq_iff_iff, beq_iff_eq, decide_eq_true_iff])
theorem pu_str {P : Program} {d : Nat} {a b : ByteArray} {t : TypeId} (h : purely P (underlying t) = some .string) : purely P (Op.equalIn (d + 1) t (.string a) (.string b)) = some (decide (a = b)) := by
  unfold Op.equalIn
  rw [pubind, h, ← beq_bytes]
  rfl
theorem pu_eql {C : Ctx} {t : TypeId} {x y : Operand} {xs ys : List Value} {e : Bool} (hg : C.P.eqGuardType C.P.depth t = false) (h : ∀ d, purely C.P (Op.equalIn (d + 2) t (.agg xs.toArray) (.agg ys.toArray)) = some e) :
    evBin C .eql t x y (.agg (xs.map .lit)) (.agg (ys.map .lit)) = some (.lit (.bool e)) ∧ evBin C .neq t x y (.agg (xs.map .lit)) (.agg (ys.map .lit)) = some (.lit (.bool !e)) := by
  have hl : ∀ zs : List Value, lits (zs.map .lit) = some zs := fun zs => by
    induction zs with
    | nil => rfl
    | cons z r ih => simp only [List.map_cons, lits, ih, Option.map_some]
  have hq : purely C.P (Op.equal t (.agg xs.toArray) (.agg ys.toArray)) = some e := h 9998
  have h0 : purely C.P (do
      let p ← program
      let q ← program
      if (!p.eqGuardType q.depth t) = true then pure ()
      else do
        let b ← Op.eqGuardIn Op.maxDepth t (.agg xs.toArray) (.agg ys.toArray)
        if b = true then unsupported (.noEntry "binop/eql: two nil values of an interface type with methods, in a part of a struct or an array") else pure () : Sem Unit) = some () := by
    rw [pubind, show purely C.P (program : Sem Program) = some C.P from rfl]
    simp only [Option.bind_some]
    rw [pubind, show purely C.P (program : Sem Program) = some C.P from rfl]
    simp only [Option.bind_some, hg, Bool.not_false, if_true]
    rfl
  have h1 : ∀ op, purely C.P (eqGuard op t x y (.agg xs.toArray) (.agg ys.toArray)) = some () := fun op => by
    cases op <;> first | exact h0 | rfl
  have hE : ∀ op, evBin C op t x y (.agg (xs.map .lit)) (.agg (ys.map .lit)) = (purely C.P (do eqGuard op t x y (.agg xs.toArray) (.agg ys.toArray); binOp op t (.agg xs.toArray) (.agg ys.toArray))).bind ofV := fun op => by
    simp only [evBin, conc, hl, Option.map_some]
  constructor
  · rw [hE, pubind, h1]
    simp only [Option.bind_some]
    have e2 : binOp .eql t (.agg xs.toArray) (.agg ys.toArray) = (Op.equal t (.agg xs.toArray) (.agg ys.toArray) >>= fun b => pure (Value.bool b)) := rfl
    rw [e2, pubind, hq]
    rfl
  · rw [hE, pubind, h1]
    simp only [Option.bind_some]
    have e2 : binOp .neq t (.agg xs.toArray) (.agg ys.toArray) = (Op.equal t (.agg xs.toArray) (.agg ys.toArray) >>= fun b => pure (Value.bool (!b))) := rfl
    rw [e2, pubind, hq]
    rfl
end Go.Ab
end

section
/- The reference's text of notes; NotesTells. -/
set_option maxRecDepth 1000000
set_option maxHeartbeats 16000000
namespace Go.Ab
open Go Go.Proofs Go.Sort
theorem bd_QS : type_of% (And.intro @evNext.eq_1 (And.intro @fld (And.intro @nit (And.intro @nxE (And.intro @ghR (And.intro @ovR (And.intro @evBin_seql (And.intro @evBin_sneq (And.intro @str.eq_1 (And.intro @u8.eq_1 (And.intro @encBrs.eq_1 (And.intro @cBr.eq_1 (And.intro @encLdg.eq_1 (And.intro @encKws.eq_1 (And.intro @cKw.eq_1 (And.intro @encEvss.eq_1 (And.intro @encEvs.eq_1 (And.intro @cEv.eq_1 (And.intro @encMks.eq_1 (And.intro @cMk.eq_1 (And.intro @encStrs.eq_1 (And.intro @tk2 (And.intro @tk3 (And.intro @List.set_cons_succ.{0} (And.intro @List.getElem?_cons_zero.{0} (And.intro @List.getElem?_cons_succ.{0} (@List.length_set.{0}))))))))))))))))))))))))))) := And.intro @evNext.eq_1 (And.intro @fld (And.intro @nit (And.intro @nxE (And.intro @ghR (And.intro @ovR (And.intro @evBin_seql (And.intro @evBin_sneq (And.intro @str.eq_1 (And.intro @u8.eq_1 (And.intro @encBrs.eq_1 (And.intro @cBr.eq_1 (And.intro @encLdg.eq_1 (And.intro @encKws.eq_1 (And.intro @cKw.eq_1 (And.intro @encEvss.eq_1 (And.intro @encEvs.eq_1 (And.intro @cEv.eq_1 (And.intro @encMks.eq_1 (And.intro @cMk.eq_1 (And.intro @encStrs.eq_1 (And.intro @tk2 (And.intro @tk3 (And.intro @List.set_cons_succ.{0} (And.intro @List.getElem?_cons_zero.{0} (And.intro @List.getElem?_cons_succ.{0} (@List.length_set.{0}))))))))))))))))))))))))))
theorem r_word (k : Int) : CallSpec cx 107 [u8 k] (str (wordS k)) := by
  refine callSpec_of_vc Tryz.func107 rfl (by decide) (by kernel_rfl) (Nat.le_of_ble_eq_true rfl) ?_
  unfold wordS
  cases h1 : decide (k = 1)
  case true =>
    rw [if_pos (of_decide_eq_true h1)]
    simp -dsimp (disch := omega) only [↓bp0, bd0, bd_QS, evStore, evRange, nilR, tk4, retQ, resL, finL, newL, flat, tupOf, List.toList_toArray, Tryz.f107, h1, simprocAttr]
    exact leT_one .rfl' (by simp)
  rw [if_neg (of_decide_eq_false h1)]
  cases h2 : decide (k = 2)
  case true =>
    rw [if_pos (of_decide_eq_true h2)]
    simp -dsimp (disch := omega) only [↓bp0, bd0, bd_QS, evStore, evRange, nilR, tk4, retQ, resL, finL, newL, flat, tupOf, List.toList_toArray, Tryz.f107, h1, h2, simprocAttr]
    exact leT_one .rfl' (by simp)
  rw [if_neg (of_decide_eq_false h2)]
  cases h3 : decide (k = 3)
  case true =>
    rw [if_pos (of_decide_eq_true h3)]
    simp -dsimp (disch := omega) only [↓bp0, bd0, bd_QS, evStore, evRange, nilR, tk4, retQ, resL, finL, newL, flat, tupOf, List.toList_toArray, Tryz.f107, h1, h2, h3, simprocAttr]
    exact leT_one .rfl' (by simp)
  rw [if_neg (of_decide_eq_false h3)]
  simp -dsimp (disch := omega) only [↓bp0, bd0, bd_QS, evStore, evRange, nilR, tk4, retQ, resL, finL, newL, flat, tupOf, List.toList_toArray, Tryz.f107, h1, h2, h3, simprocAttr]
  exact leT_one .rfl' (by simp)
theorem sad {C : Ctx} {t : TypeId} {x y : Operand} {a b : ByteArray} (h : a.size + b.size ≤ 100000000000) : evBin C .add t x y (.lit (.string a)) (.lit (.string b)) = some (.lit (.string (a ++ b))) := evBin_sadd (by omega)
theorem r_TextG (l : Ldg) (a b : Str) (NW GN : List Nt)
    (c1 : CallSpec cx 45 [encLdg l, str a, str b] (.tup [encNts NW, i64 0])) (c2 : CallSpec cx 46 [encLdg l, str a, str b] (.tup [encNts GN, i64 0]))
    (hN : ∀ n ∈ NW, NtOk n) (hG : ∀ n ∈ GN, NtOk n) (hNl : NW.length ≤ 2^24) (hGl : GN.length ≤ 2^24) :
    CallSpec cx 49 [encLdg l, str a, str b] (.tup [str (catS (NW.map cline ++ GN.map wline)), i64 0]) := by
  have s1 : bCame.size = 5 := rfl
  have s2 : bSp.size = 1 := rfl
  have s3 : bNl.size = 1 := rfl
  have s4 : bWent.size = 5 := rfl
  have q1 : (⟨#[99, 97, 109, 101, 32]⟩ : ByteArray) = bCame := rfl
  have q2 : (⟨#[32]⟩ : ByteArray) = bSp := rfl
  have q3 : (⟨#[10]⟩ : ByteArray) = bNl := rfl
  have q4 : (⟨#[119, 101, 110, 116, 32]⟩ : ByteArray) = bWent := rfl
  have q5 : catS [] = ⟨#[]⟩ := rfl
  have q6 : ∀ S : ByteArray, S ++ ⟨#[]⟩ = S := fun S => ByteArray.append_empty
  refine callSpec_of_vc Tryz.func49 rfl (by decide) (by kernel_rfl) (Nat.le_of_ble_eq_true rfl) ?_
  try simp -dsimp (disch := omega) only [↓bp0, bd0, bd_QS, evStore, evRange, nilR, tk4, Tryz.f49, simprocAttr]
  refine CallQ.imm (c1) (by rfl) (by rfl) (by first | exact .inl rfl | exact .inr rfl | exact .inr scalB | exact .inr scalI | exact .inr scalT | exact .inr scalM | exact .inr scalMT | exact .inr scalE | exact .inr scalET | exact .inr scalN | exact .inr scalNT | exact .inr scalA) ?_
  try simp -dsimp (disch := omega) only [↓bp0, bd0, bd_QS, evStore, evRange, nilR, tk4, encNts, decide_true, simprocAttr]
  refine CallQ.imm (c2) (by rfl) (by rfl) (by first | exact .inl rfl | exact .inr rfl | exact .inr scalB | exact .inr scalI | exact .inr scalT | exact .inr scalM | exact .inr scalMT | exact .inr scalE | exact .inr scalET | exact .inr scalN | exact .inr scalNT | exact .inr scalA) ?_
  try simp -dsimp (disch := omega) only [↓bp0, bd0, bd_QS, evStore, evRange, nilR, tk4, encNts, simprocAttr]
  refine LoopQ.rule (fun m st => ∃ (i : Nat), i ≤ NW.length ∧ m = NW.length - i ∧
    st = ⟨mkE [(8, encNts NW), (10, encNts GN), (12, str (catS ((NW.take i).map cline))), (13, i64 i)], mkS [], 1⟩) _ _ (weak_of ?_)
    ⟨0, by omega, rfl, rfl⟩ ?_
  · first | (simp -dsimp (disch := omega) only [↓bp0, bd0, bd_QS, evStore, evRange, nilR, tk4, encNts, List.take_zero, List.map_nil, q5, simprocAttr]; done) | simp -dsimp [evl, putN, i64, u32, bl, encL, encB, encLL, encNts, List.take_zero, List.map_nil, q5]
  rintro m st ⟨i, hi, rfl, rfl⟩
  try simp -dsimp (disch := omega) only [↓bp0, bd0, bd_QS, evStore, evRange, nilR, tk4, encNts, List.length_map, simprocAttr]
  refine onC_nlt (fun h2 => ?_) (fun h2 => ?_)
  · obtain ⟨n, hx, hxm⟩ := get_of_lt h2
    have hn := hN n hxm
    have htk : catS ((NW.take (i + 1)).map cline) = catS ((NW.take i).map cline) ++ cline n := by rw [take_succ hx, List.map_append, List.map_cons, List.map_nil, catS_snoc]
    have hs := catS_size (m := 60) ((NW.take i).map cline) fun s hs => by
      obtain ⟨q, hq, rfl⟩ := List.mem_map.1 hs
      exact cline_size (hN q (List.mem_of_mem_take hq))
    rw [List.length_map, List.length_take] at hs
    have hl := cline_size hn
    obtain ⟨c, hc⟩ : ∃ c : Nat, n.cls = c := ⟨n.cls.toNat, by have := hn.cls; omega⟩
    have hb1 : c < 100 := by have := hn.cls; omega
    have hd1 := decS c hb1
    have hcs := hn.chg
    have hws := wordS_size n.kind
    have hsz : (catS ((NW.take i).map cline)).size ≤ 10000000000 := by
      have : 60 * min i NW.length ≤ 60 * 2^24 := Nat.mul_le_mul_left _ (by omega)
      omega
    have hml : bCame ++ dec c ++ bSp ++ n.chg ++ bSp ++ wordS n.kind ++ bNl = cline n := by rw [cline, hc]; rfl
    have kD := r_dec36 c (by omega)
    have kW := r_word n.kind
    generalize catS ((NW.take i).map cline) = S at htk hsz ⊢
    generalize dec c = D at hd1 hml kD
    generalize wordS n.kind = W at hws hml kW
    have sA : ∀ {C : Ctx} {t : TypeId} {x y : Operand}, evBin C .add t x y (.lit (.string bCame)) (.lit (.string D)) = some (.lit (.string (bCame ++ D))) := sad (by omega)
    have sB : ∀ {C : Ctx} {t : TypeId} {x y : Operand}, evBin C .add t x y (.lit (.string (bCame ++ D))) (.lit (.string bSp)) = some (.lit (.string (bCame ++ D ++ bSp))) := sad (by rw [ByteArray.size_append]; omega)
    have sC : ∀ {C : Ctx} {t : TypeId} {x y : Operand}, evBin C .add t x y (.lit (.string (bCame ++ D ++ bSp))) (.lit (.string n.chg)) = some (.lit (.string (bCame ++ D ++ bSp ++ n.chg))) := sad (by simp only [ByteArray.size_append]; omega)
    have sD : ∀ {C : Ctx} {t : TypeId} {x y : Operand}, evBin C .add t x y (.lit (.string (bCame ++ D ++ bSp ++ n.chg))) (.lit (.string bSp)) = some (.lit (.string (bCame ++ D ++ bSp ++ n.chg ++ bSp))) := sad (by simp only [ByteArray.size_append]; omega)
    have sE : ∀ {C : Ctx} {t : TypeId} {x y : Operand}, evBin C .add t x y (.lit (.string (bCame ++ D ++ bSp ++ n.chg ++ bSp))) (.lit (.string W)) = some (.lit (.string (bCame ++ D ++ bSp ++ n.chg ++ bSp ++ W))) := sad (by simp only [ByteArray.size_append]; omega)
    have sF : ∀ {C : Ctx} {t : TypeId} {x y : Operand}, evBin C .add t x y (.lit (.string (bCame ++ D ++ bSp ++ n.chg ++ bSp ++ W))) (.lit (.string bNl)) = some (.lit (.string (cline n))) := by rw [← hml]; exact sad (by simp only [ByteArray.size_append]; omega)
    have sG : ∀ {C : Ctx} {t : TypeId} {x y : Operand}, evBin C .add t x y (.lit (.string S)) (.lit (.string (cline n))) = some (.lit (.string (catS ((NW.take (i + 1)).map cline)))) := by rw [htk]; exact sad (by omega)
    try simp -dsimp (disch := omega) only [↓bp0, bd0, bd_QS, evStore, evRange, nilR, tk4, hx, encNts, q1, q2, q3, simprocAttr]
    first | refine vc_text (by kernel_rfl) ?_ | skip
    try simp -dsimp (disch := omega) only [↓bp0, bd0, bd_QS, evStore, evRange, nilR, tk4, hx, hc, encNts, cNt, q1, q2, q3, simprocAttr]
    refine CallY.imm (kD) (by rfl) (by rfl) (by first | exact .inl rfl | exact .inr rfl | exact .inr scalB | exact .inr scalI | exact .inr scalT | exact .inr scalM | exact .inr scalMT | exact .inr scalE | exact .inr scalET | exact .inr scalN | exact .inr scalNT | exact .inr scalA) ?_
    try simp -dsimp (disch := omega) only [↓bp0, bd0, bd_QS, evStore, evRange, nilR, tk4, hx, hc, sA, sB, sC, sD, encNts, cNt, q1, q2, q3, simprocAttr]
    refine CallY.imm (kW) (by rfl) (by rfl) (by first | exact .inl rfl | exact .inr rfl | exact .inr scalB | exact .inr scalI | exact .inr scalT | exact .inr scalM | exact .inr scalMT | exact .inr scalE | exact .inr scalET | exact .inr scalN | exact .inr scalNT | exact .inr scalA) ?_
    try simp -dsimp (disch := omega) only [↓bp0, bd0, bd_QS, evStore, evRange, nilR, tk4, hx, sE, sF, sG, encNts, cNt, q1, q2, q3, simprocAttr]
    refine ⟨_, _, ?_, weak_of ?_, i + 1, h2, rfl, rfl⟩
    · omega
    · first | (simp -dsimp (disch := omega) only [↓bp0, bd0, bd_QS, evStore, evRange, nilR, tk4, wrapS h2 (show NW.length ≤ 9223372036854775807 by omega), encNts, simprocAttr]; done) | simp -dsimp [evl, putN, i64, u32, bl, encL, encB, encLL, wrapS h2 (show NW.length ≤ 9223372036854775807 by omega), encNts]
  rw [List.take_of_length_le (by omega), catS_app]
  have hS0 := catS_size (m := 60) (NW.map cline) fun s hs => by
    obtain ⟨q, hq, rfl⟩ := List.mem_map.1 hs
    exact cline_size (hN q hq)
  rw [List.length_map] at hS0
  have hS0' : (catS (NW.map cline)).size ≤ 10000000000 := by
    have : 60 * NW.length ≤ 60 * 2^24 := Nat.mul_le_mul_left _ hNl
    omega
  generalize catS (NW.map cline) = S0 at hS0' ⊢
  clear hS0 c1 hi h2
  try simp -dsimp (disch := omega) only [↓bp0, bd0, bd_QS, evStore, evRange, nilR, tk4, simprocAttr]
  refine LoopQ.rule (fun m st => ∃ (i : Nat), i ≤ GN.length ∧ m = GN.length - i ∧
    st = ⟨mkE [(10, encNts GN), (12, str (S0 ++ catS ((GN.take i).map wline))), (14, i64 i)], mkS [], 1⟩) _ _ (weak_of ?_)
    ⟨0, by omega, rfl, rfl⟩ ?_
  · first | (simp -dsimp (disch := omega) only [↓bp0, bd0, bd_QS, evStore, evRange, nilR, tk4, encNts, List.take_zero, List.map_nil, q5, q6, simprocAttr]; done) | simp -dsimp [evl, putN, i64, u32, bl, encL, encB, encLL, encNts, List.take_zero, List.map_nil, q5, q6]
  rintro m st ⟨i, hi, rfl, rfl⟩
  try simp -dsimp (disch := omega) only [↓bp0, bd0, bd_QS, evStore, evRange, nilR, tk4, encNts, List.length_map, simprocAttr]
  refine onC_nlt (fun h2 => ?_) (fun h2 => ?_)
  · obtain ⟨n, hx, hxm⟩ := get_of_lt h2
    have hn := hG n hxm
    have htk : S0 ++ catS ((GN.take (i + 1)).map wline) = S0 ++ catS ((GN.take i).map wline) ++ (whead n ++ wmid n ++ bNl) := by rw [take_succ hx, List.map_append, List.map_cons, List.map_nil, catS_snoc, ByteArray.append_assoc]; rfl
    have hs := catS_size (m := 60) ((GN.take i).map wline) fun s hs => by
      obtain ⟨q, hq, rfl⟩ := List.mem_map.1 hs
      exact wline_size (hG q (List.mem_of_mem_take hq))
    rw [List.length_map, List.length_take] at hs
    have hl := whead_size hn
    obtain ⟨c, hc⟩ : ∃ c : Nat, n.cls = c := ⟨n.cls.toNat, by have := hn.cls; omega⟩
    have hb1 : c < 100 := by have := hn.cls; omega
    have hd1 := decS c hb1
    have hcs := hn.chg
    have hws := wordS_size n.kind
    have hsz : (S0 ++ catS ((GN.take i).map wline)).size ≤ 20000000000 := by
      have : 60 * min i GN.length ≤ 60 * 2^24 := Nat.mul_le_mul_left _ (by omega)
      rw [ByteArray.size_append]
      omega
    have hml : bWent ++ dec c ++ bSp ++ n.chg = whead n := by rw [whead, hc]; rfl
    have hmid : wmid n = if 0 ≤ n.pl then bSp ++ wordS n.kind else ⟨#[]⟩ := rfl
    have kD := r_dec36 c (by omega)
    have kW := r_word n.kind
    generalize S0 ++ catS ((GN.take i).map wline) = S at htk hsz ⊢
    generalize dec c = D at hd1 hml kD
    generalize wordS n.kind = W at hws hmid kW
    have sA : ∀ {C : Ctx} {t : TypeId} {x y : Operand}, evBin C .add t x y (.lit (.string bWent)) (.lit (.string D)) = some (.lit (.string (bWent ++ D))) := sad (by omega)
    have sB : ∀ {C : Ctx} {t : TypeId} {x y : Operand}, evBin C .add t x y (.lit (.string (bWent ++ D))) (.lit (.string bSp)) = some (.lit (.string (bWent ++ D ++ bSp))) := sad (by rw [ByteArray.size_append]; omega)
    have sC : ∀ {C : Ctx} {t : TypeId} {x y : Operand}, evBin C .add t x y (.lit (.string (bWent ++ D ++ bSp))) (.lit (.string n.chg)) = some (.lit (.string (whead n))) := by rw [← hml]; exact sad (by simp only [ByteArray.size_append]; omega)
    have sD : ∀ {C : Ctx} {t : TypeId} {x y : Operand}, evBin C .add t x y (.lit (.string S)) (.lit (.string (whead n))) = some (.lit (.string (S ++ whead n))) := sad (by omega)
    have sE : ∀ {C : Ctx} {t : TypeId} {x y : Operand}, evBin C .add t x y (.lit (.string bSp)) (.lit (.string W)) = some (.lit (.string (bSp ++ W))) := sad (by omega)
    try simp -dsimp (disch := omega) only [↓bp0, bd0, bd_QS, evStore, evRange, nilR, tk4, hx, encNts, q1, q2, q3, q4, simprocAttr]
    first | refine vc_text (by kernel_rfl) ?_ | skip
    try simp -dsimp (disch := omega) only [↓bp0, bd0, bd_QS, evStore, evRange, nilR, tk4, hx, hc, encNts, cNt, q1, q2, q3, q4, simprocAttr]
    refine CallY.imm (kD) (by rfl) (by rfl) (by first | exact .inl rfl | exact .inr rfl | exact .inr scalB | exact .inr scalI | exact .inr scalT | exact .inr scalM | exact .inr scalMT | exact .inr scalE | exact .inr scalET | exact .inr scalN | exact .inr scalNT | exact .inr scalA) ?_
    cases hp : decide ((0 : Int) ≤ n.pl)
    · rw [if_neg (of_decide_eq_false hp)] at hmid
      have sF : ∀ {C : Ctx} {t : TypeId} {x y : Operand}, evBin C .add t x y (.lit (.string (S ++ whead n))) (.lit (.string bNl)) = some (.lit (.string (S0 ++ catS ((GN.take (i + 1)).map wline)))) := by
        rw [htk, hmid]
        have : S ++ (whead n ++ ⟨#[]⟩ ++ bNl) = S ++ whead n ++ bNl := by rw [show (⟨#[]⟩ : ByteArray) = ByteArray.empty from rfl, ByteArray.append_empty, ByteArray.append_assoc]
        rw [this]
        intro C t x y
        refine sad ?_
        repeat rw [ByteArray.size_append]
        omega
      try simp -dsimp (disch := omega) only [↓bp0, bd0, bd_QS, evStore, evRange, nilR, tk4, hx, hc, hp, sA, sB, sC, sD, sF, encNts, cNt, q1, q2, q3, q4, simprocAttr]
      refine ⟨_, _, ?_, weak_of ?_, i + 1, h2, rfl, rfl⟩
      · omega
      · first | (simp -dsimp (disch := omega) only [↓bp0, bd0, bd_QS, evStore, evRange, nilR, tk4, wrapS h2 (show GN.length ≤ 9223372036854775807 by omega), encNts, simprocAttr]; done) | simp -dsimp [evl, putN, i64, u32, bl, encL, encB, encLL, wrapS h2 (show GN.length ≤ 9223372036854775807 by omega), encNts]
    · rw [if_pos (of_decide_eq_true hp)] at hmid
      have sF : ∀ {C : Ctx} {t : TypeId} {x y : Operand}, evBin C .add t x y (.lit (.string (S ++ whead n))) (.lit (.string (bSp ++ W))) = some (.lit (.string (S ++ whead n ++ (bSp ++ W)))) := sad (by simp only [ByteArray.size_append]; omega)
      have sH : ∀ {C : Ctx} {t : TypeId} {x y : Operand}, evBin C .add t x y (.lit (.string (S ++ whead n ++ (bSp ++ W)))) (.lit (.string bNl)) = some (.lit (.string (S0 ++ catS ((GN.take (i + 1)).map wline)))) := by
        rw [htk, hmid]
        have : S ++ (whead n ++ (bSp ++ W) ++ bNl) = S ++ whead n ++ (bSp ++ W) ++ bNl := by simp only [ByteArray.append_assoc]
        rw [this]
        intro C t x y
        refine sad ?_
        repeat rw [ByteArray.size_append]
        omega
      try simp -dsimp (disch := omega) only [↓bp0, bd0, bd_QS, evStore, evRange, nilR, tk4, hx, hc, hp, sA, sB, sC, sD, encNts, cNt, q1, q2, q3, q4, simprocAttr]
      refine CallQ.imm (kW) (by rfl) (by rfl) (by first | exact .inl rfl | exact .inr rfl | exact .inr scalB | exact .inr scalI | exact .inr scalT | exact .inr scalM | exact .inr scalMT | exact .inr scalE | exact .inr scalET | exact .inr scalN | exact .inr scalNT | exact .inr scalA) ?_
      try simp -dsimp (disch := omega) only [↓bp0, bd0, bd_QS, evStore, evRange, nilR, tk4, hx, sE, sF, sH, encNts, cNt, q1, q2, q3, q4, simprocAttr]
      refine ⟨_, _, ?_, weak_of ?_, i + 1, h2, rfl, rfl⟩
      · omega
      · first | (simp -dsimp (disch := omega) only [↓bp0, bd0, bd_QS, evStore, evRange, nilR, tk4, wrapS h2 (show GN.length ≤ 9223372036854775807 by omega), encNts, simprocAttr]; done) | simp -dsimp [evl, putN, i64, u32, bl, encL, encB, encLL, wrapS h2 (show GN.length ≤ 9223372036854775807 by omega), encNts]
  · rw [List.take_of_length_le (by omega)]
    simp -dsimp (disch := omega) only [↓bp0, bd0, bd_QS, evStore, evRange, nilR, tk4, retQ, resL, finL, newL, flat, tupOf, List.toList_toArray, Tryz.f49, simprocAttr]
    exact leT_refl _
end Go.Ab
end
