/- The text of notes: terms, words. -/
import Derived.Test.YtgcodedanljhpaaDoorNA
import Derived.Test.YtgcodedanljhpaaDoorNB
set_option linter.unusedSimpArgs false
set_option linter.unusedVariables false
section
set_option maxRecDepth 1000000
set_option maxHeartbeats 8000000
namespace Go.Ab
open Go Go.Proofs Go.Sort
def wordS (k : Int) : Str := if k = 1 then ⟨#[108, 97, 110, 100]⟩ else if k = 2 then ⟨#[112, 105, 99, 107]⟩ else if k = 3 then ⟨#[114, 101, 118, 101, 114, 116]⟩ else ⟨#[114, 101, 108, 97, 110, 100]⟩
theorem wordS_size (k : Int) : (wordS k).size ≤ 6 := by
  unfold wordS
  repeat' split
  all_goals decide
theorem n_word (k : Int) (h : 1 ≤ k ∧ k ≤ 4) : CallSpec cx 45 [u8 k] (str (wordS k)) := by
  have hk : k = 1 ∨ k = 2 ∨ k = 3 ∨ k = 4 := by omega
  rcases hk with rfl | rfl | rfl | rfl
  all_goals
    refine callSpec_of_vc Tryd.func45 rfl (by decide) (by kernel_rfl) (Nat.le_of_ble_eq_true rfl) ?_
    simp -dsimp (disch := omega) only [↓bp0, bd0, evStore, evRange, evNext, fld, nit, nxE, ghR, ovR, evBin_seql, evBin_sneq, str, u8, encBrs, cBr, encLdg, encKws, cKw, encEvss, encEvs, cEv, encMks, cMk, encStrs, tk2, tk3, List.set_cons_succ, List.getElem?_cons_zero, List.getElem?_cons_succ, List.length_set, retQ, resL, finL, newL, flat, tupOf, List.toList_toArray, Tryd.f45, wordS, simprocAttr]
    exact leT_one (le1.rfl' (p := str _)) (fun _ h => by cases h)
structure NtOk (n : Nt) : Prop where
  cls : 0 ≤ n.cls ∧ n.cls < 30
  chg : n.chg.size ≤ 40
  kind : 1 ≤ n.kind ∧ n.kind ≤ 4
  pl : -1 ≤ n.pl ∧ n.pl ≤ 2^20
def bCame : Str := ⟨#[99, 97, 109, 101, 32]⟩
def bWent : Str := ⟨#[119, 101, 110, 116, 32]⟩
def bSp : Str := ⟨#[32]⟩
def bNl : Str := ⟨#[10]⟩
def cline (n : Nt) : Str := bCame ++ dec n.cls.toNat ++ bSp ++ n.chg ++ bSp ++ wordS n.kind ++ bNl
def whead (n : Nt) : Str := bWent ++ dec n.cls.toNat ++ bSp ++ n.chg
def wmid (n : Nt) : Str := if 0 ≤ n.pl then bSp ++ wordS n.kind else ⟨#[]⟩
def wline (n : Nt) : Str := whead n ++ wmid n ++ bNl
def catS : List Str → Str
  | [] => ⟨#[]⟩
  | a :: r => a ++ catS r
theorem catS_snoc {a : Str} : ∀ L : List Str, catS (L ++ [a]) = catS L ++ a
  | [] => by
    rw [List.nil_append, catS, catS, catS]
    apply ByteArray.ext; simp
  | b :: r => by rw [List.cons_append, catS, catS, catS_snoc r, ByteArray.append_assoc]
theorem catS_size {m : Nat} : ∀ L : List Str, (∀ a ∈ L, a.size ≤ m) → (catS L).size ≤ m * L.length
  | [], _ => by simp [catS, ByteArray.size]
  | a :: r, h => by
    have h1 := h a (by simp)
    have h2 := catS_size r fun b hb => h b (by simp [hb])
    rw [catS, ByteArray.size_append, List.length_cons, Nat.mul_add]; omega
theorem catS_app : ∀ (L M : List Str), catS (L ++ M) = catS L ++ catS M
  | [], M => by
    rw [List.nil_append, catS]
    apply ByteArray.ext; simp
  | b :: r, M => by rw [List.cons_append, catS, catS, catS_app r, ByteArray.append_assoc]
theorem decS (n : Nat) (h : n < 100) : (dec n).size ≤ 2 := (by decide +kernel : ∀ n : Fin 100, (dec n.val).size ≤ 2) ⟨n, h⟩
theorem cline_size {n : Nt} (h : NtOk n) : (cline n).size ≤ 60 := by
  have h1 := decS n.cls.toNat (by have := h.cls; omega)
  have h2 := h.chg
  have h3 := wordS_size n.kind
  have e1 : bCame.size = 5 := rfl
  have e2 : bSp.size = 1 := rfl
  have e3 : bNl.size = 1 := rfl
  simp only [cline, ByteArray.size_append, e1, e2, e3]
  omega
theorem whead_size {n : Nt} (h : NtOk n) : (whead n).size ≤ 48 := by
  have h1 := decS n.cls.toNat (by have := h.cls; omega)
  have h2 := h.chg
  have e1 : bWent.size = 5 := rfl
  have e2 : bSp.size = 1 := rfl
  simp only [whead, ByteArray.size_append, e1, e2]
  omega
theorem wline_size {n : Nt} (h : NtOk n) : (wline n).size ≤ 60 := by
  have h1 := whead_size h
  have h3 := wordS_size n.kind
  have e2 : bSp.size = 1 := rfl
  have e3 : bNl.size = 1 := rfl
  have e4 : (⟨#[]⟩ : ByteArray).size = 0 := rfl
  simp only [wline, wmid, ByteArray.size_append, e3]
  split <;> simp only [ByteArray.size_append, e2, e4] <;> omega
def ntext (l : Ldg) (a b : Str) : Str × Int := if (ldiff l a b).2.2 ≠ 0 then (⟨#[]⟩, (ldiff l a b).2.2) else (catS ((nnews l a b).1.map cline ++ (ngone l a b).1.map wline), 0)
/-! ### notes are as they should be -/
theorem evV_ok {l : Ldg} {n : Str} (h : (lview l n).2 = 0) {e : Ev} (he : e ∈ evV l n) : (1 ≤ e.kind ∧ e.kind ≤ 4) ∧ (clsOf l.known e.chg).isSome = true := by
  obtain ⟨q1, q2, q3, q4⟩ := fold_pre h
  obtain ⟨hok, _⟩ := lview_ok h
  refine ⟨?_, q3 e he⟩
  obtain ⟨m, hm, rfl⟩ := List.mem_map.1 he
  obtain ⟨c0, hc0, hlt⟩ := q2 m hm
  obtain ⟨j, k⟩ := m
  obtain ⟨own, x, hj, he1, hev, hxo⟩ := evAt_get hc0 hlt
  simp only at hj he1
  rw [hev]
  have := (runB_iff.1 (hok.run j own hj) k x he1).2
  unfold alw alwC at this
  split at this
  · cases this
  · omega
theorem lastsF_ok {l : Ldg} {n : Str} (h : (lview l n).2 = 0) {cs : List Int} {t : Nt} (ht : t ∈ lastsF (clsI l.known) (evV l n) cs) : NtOk t := by
  obtain ⟨hok, _⟩ := lview_ok h
  have hl := evV_len h
  obtain ⟨i, hi, rfl⟩ := List.mem_map.1 ht
  have hil := List.mem_range.1 (List.mem_filter.1 hi).1
  obtain ⟨e, hx, hxm⟩ := get_of_lt hil
  obtain ⟨h1, h2⟩ := evV_ok h hxm
  have h3 := cls0_range hok.kw e.chg
  rw [cls_eq h2] at h3
  obtain ⟨v, hv⟩ := Option.isSome_iff_exists.1 h2
  obtain ⟨k, k1, k2, _⟩ := clsOf_mem hv
  have k3 := List.any_eq_false.1 hok.kw k k1
  unfold kwB at k3
  simp only [Bool.or_eq_true, Bool.not_eq_true', decide_eq_true_eq, not_or, Bool.not_eq_false] at k3
  have k4 := (nameB_iff.1 k3.1.1).1
  rw [k2] at k4
  rw [ntAt, hx]
  exact ⟨h3, k4, h1, by simp only; omega, by simp only; omega⟩
theorem neg_ok {t : Nt} (h : NtOk t) : NtOk (negN t) := ⟨h.cls, h.chg, h.kind, by simp [negN], by simp [negN]⟩
end Go.Ab
end

section
/- notes.Text. -/
set_option maxRecDepth 1000000
set_option maxHeartbeats 16000000
namespace Go.Ab
open Go Go.Proofs Go.Sort
theorem bd_PM : type_of% (And.intro @evNext.eq_1 (And.intro @fld (And.intro @nit (And.intro @nxE (And.intro @ghR (And.intro @ovR (And.intro @evBin_seql (And.intro @evBin_sneq (And.intro @str.eq_1 (And.intro @u8.eq_1 (And.intro @encBrs.eq_1 (And.intro @cBr.eq_1 (And.intro @encLdg.eq_1 (And.intro @encKws.eq_1 (And.intro @cKw.eq_1 (And.intro @encEvss.eq_1 (And.intro @encEvs.eq_1 (And.intro @cEv.eq_1 (And.intro @encMks.eq_1 (And.intro @cMk.eq_1 (And.intro @encStrs.eq_1 (And.intro @tk2 (And.intro @tk3 (And.intro @List.set_cons_succ.{0} (And.intro @List.getElem?_cons_zero.{0} (And.intro @List.getElem?_cons_succ.{0} (@List.length_set.{0}))))))))))))))))))))))))))) := And.intro @evNext.eq_1 (And.intro @fld (And.intro @nit (And.intro @nxE (And.intro @ghR (And.intro @ovR (And.intro @evBin_seql (And.intro @evBin_sneq (And.intro @str.eq_1 (And.intro @u8.eq_1 (And.intro @encBrs.eq_1 (And.intro @cBr.eq_1 (And.intro @encLdg.eq_1 (And.intro @encKws.eq_1 (And.intro @cKw.eq_1 (And.intro @encEvss.eq_1 (And.intro @encEvs.eq_1 (And.intro @cEv.eq_1 (And.intro @encMks.eq_1 (And.intro @cMk.eq_1 (And.intro @encStrs.eq_1 (And.intro @tk2 (And.intro @tk3 (And.intro @List.set_cons_succ.{0} (And.intro @List.getElem?_cons_zero.{0} (And.intro @List.getElem?_cons_succ.{0} (@List.length_set.{0}))))))))))))))))))))))))))
theorem sadd' {C : Ctx} {t : TypeId} {x y : Operand} {a b : ByteArray} (h : a.size + b.size ≤ 1000) : evBin C .add t x y (.lit (.string a)) (.lit (.string b)) = some (.lit (.string (a ++ b))) := evBin_sadd (by omega)
theorem n_TextG (l : Ldg) (a b : Str) (hz : LSz l) (NW GN : List Nt) (e1 : (ldiff l a b).2.2 = 0) (h1 : (nnews l a b).1 = NW) (h2 : (ngone l a b).1 = GN) (hN : ∀ n ∈ NW, NtOk n) (hG : ∀ n ∈ GN, NtOk n) (hNl : NW.length ≤ 2^24) (hGl : GN.length ≤ 2^24) :
    CallSpec cx 17 [encLdg l, str a, str b] (.tup [str (catS (NW.map cline ++ GN.map wline)), i64 0]) := by
  have c1 := n_News l a b hz
  have c2 := n_Gone l a b hz
  have z1 : (nnews l a b).2 = 0 := by rw [nnews, if_neg (by rw [Decidable.not_not]; exact e1)]
  have z2 : (ngone l a b).2 = 0 := by rw [ngone, if_neg (by rw [Decidable.not_not]; exact e1)]
  rw [h1, z1] at c1
  rw [h2, z2] at c2
  refine callSpec_of_vc Tryd.func17 rfl (by decide) (by kernel_rfl) (Nat.le_of_ble_eq_true rfl) ?_
  try simp -dsimp (disch := omega) only [↓bp0, bd0, bd_PM, evStore, evRange, cNt, tk4, Tryd.f17, simprocAttr]
  refine CallQ.imm (c1) (by rfl) (by rfl) (by first | exact .inl rfl | exact .inr rfl | exact .inr scalB | exact .inr scalI | exact .inr scalT | exact .inr scalM | exact .inr scalMT | exact .inr scalE | exact .inr scalET | exact .inr scalN | exact .inr scalNT) ?_
  try simp -dsimp (disch := omega) only [↓bp0, bd0, bd_PM, evStore, evRange, cNt, tk4, newNts, simprocAttr]
  refine CallQ.imm (c2) (by rfl) (by rfl) (by first | exact .inl rfl | exact .inr rfl | exact .inr scalB | exact .inr scalI | exact .inr scalT | exact .inr scalM | exact .inr scalMT | exact .inr scalE | exact .inr scalET | exact .inr scalN | exact .inr scalNT) ?_
  try simp -dsimp (disch := omega) only [↓bp0, bd0, bd_PM, evStore, evRange, cNt, tk4, newNts, simprocAttr]
  refine LoopQ.rule (fun m st => ∃ (i r nx : Nat), i ≤ NW.length ∧ 2 ≤ nx ∧ m = NW.length - i ∧
    st = ⟨mkE [(10, encNts GN), (11, .ptr 1 0 0 0), (36, encNts NW), (37, i64 NW.length), (38, i64 i)], mkS [(1, .bld r 81 5 (catS ((NW.take i).map cline)))], nx⟩) _ _ (weak_of ?_)
    ⟨0, 1, 2, by omega, by omega, rfl, rfl⟩ ?_
  · first | (simp -dsimp (disch := omega) only [↓bp0, bd0, bd_PM, evStore, evRange, cNt, tk4, encNts, List.take_zero, List.map_nil, catS, simprocAttr]; done) | simp -dsimp [evl, putN, i64, u32, bl, encL, encB, encLL, encNts, List.take_zero, List.map_nil, catS]
  rintro m st ⟨i, r, nx, hi, hnx, rfl, rfl⟩
  have hE1_0a : (1 = nx) = False := by simp; omega
  have hE1_0b : (nx = 1) = False := by simp; omega
  try simp -dsimp (disch := omega) only [↓bp0, bd0, bd_PM, evStore, evRange, cNt, tk4, hE1_0a, hE1_0b, simprocAttr]
  refine onC_nlt (fun h2 => ?_) (fun h2 => ?_)
  · obtain ⟨n, hx, hxm⟩ := get_of_lt h2
    have hn := hN n hxm
    have htk : catS ((NW.take (i + 1)).map cline) = catS ((NW.take i).map cline) ++ cline n := by rw [take_succ hx, List.map_append, List.map_cons, List.map_nil, catS_snoc]
    have hs := catS_size (m := 60) ((NW.take i).map cline) fun s hs => by
      obtain ⟨q, hq, rfl⟩ := List.mem_map.1 hs
      exact cline_size (hN q (List.mem_of_mem_take hq))
    rw [List.length_map, List.length_take] at hs
    have hl := cline_size hn
    obtain ⟨c, hc⟩ : ∃ c : Nat, n.cls = c := ⟨n.cls.toNat, by have := hn.cls; omega⟩
    have hb1 : c < 100 := by have := hn.cls; omega
    have hd1 := decS c hb1
    have hcs := hn.chg
    have hws := wordS_size n.kind
    have s1 : bCame.size = 5 := rfl
    have s2 : bSp.size = 1 := rfl
    have s3 : bNl.size = 1 := rfl
    have hsz : (catS ((NW.take i).map cline)).size + (cline n).size ≤ 140737488355328 := by
      have : 60 * min i NW.length ≤ 60 * 2^24 := Nat.mul_le_mul_left _ (by omega)
      omega
    have hml : cline n = bCame ++ dec c ++ bSp ++ n.chg ++ bSp ++ wordS n.kind ++ bNl := by rw [cline, hc]; rfl
    try simp -dsimp (disch := omega) only [↓bp0, bd0, bd_PM, evStore, evRange, cNt, tk4, hx, encNts, hE1_0a, hE1_0b, simprocAttr]
    refine vc_regJ (fun τ => τ nx = some (.row 0 4 [cNt n] false)) [0, 1, 2, 3, 4, 5, 6, 7, 8, 9, 10, 11, 12, 13] [14] (by kernel_rfl) (by kernel_rfl) ?_ ?_
    · exact (by simp -dsimp (disch := omega) only [↓bp0, bd0, bd_PM, evStore, evRange, cNt, tk4, hE1_0a, hE1_0b, cNt, simprocAttr])
    have sA : ∀ {C : Ctx} {t : TypeId} {x y : Operand}, evBin C .add t x y (.lit (.string ⟨#[99, 97, 109, 101, 32]⟩)) (.lit (.string (dec c))) = some (.lit (.string (bCame ++ dec c))) := sadd' (a := bCame) (by omega)
    have sB : ∀ {C : Ctx} {t : TypeId} {x y : Operand}, evBin C .add t x y (.lit (.string (bCame ++ dec c))) (.lit (.string ⟨#[32]⟩)) = some (.lit (.string (bCame ++ dec c ++ bSp))) := sadd' (b := bSp) (by rw [ByteArray.size_append]; omega)
    have sC : ∀ {C : Ctx} {t : TypeId} {x y : Operand}, evBin C .add t x y (.lit (.string (bCame ++ dec c ++ bSp))) (.lit (.string n.chg)) = some (.lit (.string (bCame ++ dec c ++ bSp ++ n.chg))) := sadd' (by simp only [ByteArray.size_append]; omega)
    have sD : ∀ {C : Ctx} {t : TypeId} {x y : Operand}, evBin C .add t x y (.lit (.string (bCame ++ dec c ++ bSp ++ n.chg))) (.lit (.string ⟨#[32]⟩)) = some (.lit (.string (bCame ++ dec c ++ bSp ++ n.chg ++ bSp))) := sadd' (b := bSp) (by simp only [ByteArray.size_append]; omega)
    have sE : ∀ {C : Ctx} {t : TypeId} {x y : Operand}, evBin C .add t x y (.lit (.string (bCame ++ dec c ++ bSp ++ n.chg ++ bSp))) (.lit (.string (wordS n.kind))) = some (.lit (.string (bCame ++ dec c ++ bSp ++ n.chg ++ bSp ++ wordS n.kind))) := sadd' (by simp only [ByteArray.size_append]; omega)
    have sF : ∀ {C : Ctx} {t : TypeId} {x y : Operand}, evBin C .add t x y (.lit (.string (bCame ++ dec c ++ bSp ++ n.chg ++ bSp ++ wordS n.kind))) (.lit (.string ⟨#[10]⟩)) = some (.lit (.string (cline n))) := by rw [hml]; exact sadd' (b := bNl) (by simp only [ByteArray.size_append]; omega)
    try simp -dsimp (disch := omega) only [↓bp0, bd0, bd_PM, evStore, evRange, cNt, tk4, vcj, implies_true, hc, hE1_0a, hE1_0b, simprocAttr]
    refine ⟨fun τ hτ => by simp -dsimp (disch := omega) only [↓bp0, bd0, bd_PM, evStore, evRange, cNt, tk4, hτ, cNt, simprocAttr], ?_⟩
    refine CallJ.imm (m_Itoa c hb1) (fun _ _ => by rfl) (fun _ _ => by rfl) (by first | exact .inl rfl | exact .inr rfl | exact .inr scalB | exact .inr scalI | exact .inr scalT | exact .inr scalM | exact .inr scalMT | exact .inr scalE | exact .inr scalET | exact .inr scalN | exact .inr scalNT) ?_
    try simp -dsimp (disch := omega) only [↓bp0, bd0, bd_PM, evStore, evRange, cNt, tk4, vcj, implies_true, hc, sA, sB, cNt, hE1_0a, hE1_0b, simprocAttr]
    refine ⟨fun τ hτ => by simp -dsimp (disch := omega) only [↓bp0, bd0, bd_PM, evStore, evRange, cNt, tk4, hτ, cNt, simprocAttr], ?_⟩
    try simp -dsimp (disch := omega) only [↓bp0, bd0, bd_PM, evStore, evRange, cNt, tk4, vcj, implies_true, hc, sC, sD, cNt, hE1_0a, hE1_0b, simprocAttr]
    refine ⟨fun τ hτ => by simp -dsimp (disch := omega) only [↓bp0, bd0, bd_PM, evStore, evRange, cNt, tk4, hτ, cNt, simprocAttr], ?_⟩
    refine CallJ.imm (n_word n.kind hn.kind) (fun _ _ => by rfl) (fun _ _ => by rfl) (by first | exact .inl rfl | exact .inr rfl | exact .inr scalB | exact .inr scalI | exact .inr scalT | exact .inr scalM | exact .inr scalMT | exact .inr scalE | exact .inr scalET | exact .inr scalN | exact .inr scalNT) ?_
    try simp -dsimp (disch := omega) only [↓bp0, bd0, bd_PM, evStore, evRange, cNt, tk4, vcj, implies_true, hc, sE, sF, cNt, hE1_0a, hE1_0b, simprocAttr]
    refine EffQ.inm (m_WriteString (id := 1) (r := r) (s := catS ((NW.take i).map cline)) (t := cline n) (by simp -dsimp (disch := omega) only [↓bp0, bd0, bd_PM, evStore, evRange, cNt, tk4, hE1_0a, hE1_0b, simprocAttr]) hsz) ⟨_, _, _, rfl, r, Nat.le_refl _, rfl⟩ (by rfl) ?_
    rintro q σ' nx' ⟨rfl, r', hnx', rfl⟩
    have hnx2 : nx + 1 ≤ nx' := hnx'
    refine ⟨.inl (by kernel_rfl), ?_⟩
    try simp -dsimp (disch := omega) only [↓bp0, bd0, bd_PM, evStore, evRange, cNt, tk4, hE1_0a, hE1_0b, simprocAttr]
    refine ⟨_, _, ?_, weak_of ?_, i + 1, r', nx', h2, by omega, rfl, rfl⟩
    · omega
    · first | (simp -dsimp (disch := omega) only [↓bp0, bd0, bd_PM, evStore, evRange, cNt, tk4, htk, wrapS h2 (show NW.length ≤ 9223372036854775807 by omega), encNts, hE1_0a, hE1_0b, simprocAttr]; done) | simp -dsimp [evl, putN, i64, u32, bl, encL, encB, encLL, htk, wrapS h2 (show NW.length ≤ 9223372036854775807 by omega), encNts, hE1_0a, hE1_0b]
  rw [List.take_of_length_le (by omega)]
  have hCs := catS_size (m := 60) (NW.map cline) fun s hs => by
    obtain ⟨q, hq, rfl⟩ := List.mem_map.1 hs
    exact cline_size (hN q hq)
  rw [List.length_map] at hCs
  rw [catS_app]
  generalize catS (NW.map cline) = CS at hCs ⊢
  try simp -dsimp (disch := omega) only [↓bp0, bd0, bd_PM, evStore, evRange, cNt, tk4, hE1_0a, hE1_0b, simprocAttr]
  refine LoopQ.rule (fun m st => ∃ (i r nx : Nat), i ≤ GN.length ∧ 2 ≤ nx ∧ m = GN.length - i ∧
    st = ⟨mkE [(11, .ptr 1 0 0 0), (58, encNts GN), (59, i64 GN.length), (60, i64 i)], mkS [(1, .bld r 81 5 (CS ++ catS ((GN.take i).map wline)))], nx⟩) _ _ (weak_of ?_)
    ⟨0, r, nx, by omega, by omega, rfl, rfl⟩ ?_
  · have h0 : CS ++ (⟨#[]⟩ : ByteArray) = CS := by apply ByteArray.ext; simp
    first | (simp -dsimp (disch := omega) only [↓bp0, bd0, bd_PM, evStore, evRange, cNt, tk4, encNts, List.take_zero, List.map_nil, catS, h0, simprocAttr]; done) | simp -dsimp [evl, putN, i64, u32, bl, encL, encB, encLL, encNts, List.take_zero, List.map_nil, catS, h0]
  clear hi hnx
  rintro m st ⟨i, r, nx, hi, hnx, rfl, rfl⟩
  have hE2_0a : (1 = nx) = False := by simp; omega
  have hE2_0b : (nx = 1) = False := by simp; omega
  try simp -dsimp (disch := omega) only [↓bp0, bd0, bd_PM, evStore, evRange, cNt, tk4, hE2_0a, hE2_0b, simprocAttr]
  refine onC_nlt (fun h2 => ?_) (fun h2 => ?_)
  · obtain ⟨n, hx, hxm⟩ := get_of_lt h2
    have hn := hG n hxm
    have htk : CS ++ catS ((GN.take (i + 1)).map wline) = CS ++ catS ((GN.take i).map wline) ++ whead n ++ wmid n ++ bNl := by rw [take_succ hx, List.map_append, List.map_cons, List.map_nil, catS_snoc, wline]; simp only [ByteArray.append_assoc]
    have hs := catS_size (m := 60) ((GN.take i).map wline) fun s hs => by
      obtain ⟨q, hq, rfl⟩ := List.mem_map.1 hs
      exact wline_size (hG q (List.mem_of_mem_take hq))
    rw [List.length_map, List.length_take] at hs
    have hl := whead_size hn
    obtain ⟨c, hc⟩ : ∃ c : Nat, n.cls = c := ⟨n.cls.toNat, by have := hn.cls; omega⟩
    have hb1 : c < 100 := by have := hn.cls; omega
    have hd1 := decS c hb1
    have hcs := hn.chg
    have hws := wordS_size n.kind
    have s1 : bWent.size = 5 := rfl
    have s2 : bSp.size = 1 := rfl
    have s3 : bNl.size = 1 := rfl
    have s4 : (⟨#[]⟩ : ByteArray).size = 0 := rfl
    have hlw : (wmid n).size ≤ 7 := by
      unfold wmid
      split
      · rw [ByteArray.size_append]; omega
      · omega
    have hsz : (CS ++ catS ((GN.take i).map wline)).size ≤ 70368744177664 := by
      have h1 : 60 * min i GN.length ≤ 60 * 2^24 := Nat.mul_le_mul_left _ (by omega)
      have h2 : 60 * NW.length ≤ 60 * 2^24 := Nat.mul_le_mul_left _ hNl
      rw [ByteArray.size_append]; omega
    generalize CS ++ catS ((GN.take i).map wline) = T at hsz htk ⊢
    have hml : whead n = bWent ++ dec c ++ bSp ++ n.chg := by rw [whead, hc]; rfl
    try simp -dsimp (disch := omega) only [↓bp0, bd0, bd_PM, evStore, evRange, cNt, tk4, hx, encNts, hE2_0a, hE2_0b, simprocAttr]
    refine vc_regJ (fun τ => τ nx = some (.row 0 4 [cNt n] false)) [0, 1, 2, 3, 4, 5, 6, 7] [8] (by kernel_rfl) (by kernel_rfl) ?_ ?_
    · exact (by simp -dsimp (disch := omega) only [↓bp0, bd0, bd_PM, evStore, evRange, cNt, tk4, hE2_0a, hE2_0b, cNt, simprocAttr])
    have sA : ∀ {C : Ctx} {t : TypeId} {x y : Operand}, evBin C .add t x y (.lit (.string ⟨#[119, 101, 110, 116, 32]⟩)) (.lit (.string (dec c))) = some (.lit (.string (bWent ++ dec c))) := sadd' (a := bWent) (by omega)
    have sB : ∀ {C : Ctx} {t : TypeId} {x y : Operand}, evBin C .add t x y (.lit (.string (bWent ++ dec c))) (.lit (.string ⟨#[32]⟩)) = some (.lit (.string (bWent ++ dec c ++ bSp))) := sadd' (b := bSp) (by rw [ByteArray.size_append]; omega)
    have sC : ∀ {C : Ctx} {t : TypeId} {x y : Operand}, evBin C .add t x y (.lit (.string (bWent ++ dec c ++ bSp))) (.lit (.string n.chg)) = some (.lit (.string (whead n))) := by rw [hml]; exact sadd' (by simp only [ByteArray.size_append]; omega)
    try simp -dsimp (disch := omega) only [↓bp0, bd0, bd_PM, evStore, evRange, cNt, tk4, vcj, implies_true, hc, hE2_0a, hE2_0b, simprocAttr]
    refine ⟨fun τ hτ => by simp -dsimp (disch := omega) only [↓bp0, bd0, bd_PM, evStore, evRange, cNt, tk4, hτ, cNt, simprocAttr], ?_⟩
    refine CallJ.imm (m_Itoa c hb1) (fun _ _ => by rfl) (fun _ _ => by rfl) (by first | exact .inl rfl | exact .inr rfl | exact .inr scalB | exact .inr scalI | exact .inr scalT | exact .inr scalM | exact .inr scalMT | exact .inr scalE | exact .inr scalET | exact .inr scalN | exact .inr scalNT) ?_
    try simp -dsimp (disch := omega) only [↓bp0, bd0, bd_PM, evStore, evRange, cNt, tk4, vcj, implies_true, hc, sA, sB, cNt, hE2_0a, hE2_0b, simprocAttr]
    refine ⟨fun τ hτ => by simp -dsimp (disch := omega) only [↓bp0, bd0, bd_PM, evStore, evRange, cNt, tk4, hτ, cNt, simprocAttr], ?_⟩
    try simp -dsimp (disch := omega) only [↓bp0, bd0, bd_PM, evStore, evRange, cNt, tk4, vcj, implies_true, hc, sC, cNt, hE2_0a, hE2_0b, simprocAttr]
    refine EffQ.inm (m_WriteString (id := 1) (r := r) (s := T) (t := whead n) (by simp -dsimp (disch := omega) only [↓bp0, bd0, bd_PM, evStore, evRange, cNt, tk4, hE2_0a, hE2_0b, simprocAttr]) (by omega)) ⟨_, _, _, rfl, r, Nat.le_refl _, rfl⟩ (by rfl) ?_
    rintro q σ' nx1 ⟨rfl, r1, hnx1, rfl⟩
    have hnx2 : nx + 1 ≤ nx1 := hnx1
    refine ⟨.inl (by kernel_rfl), ?_⟩
    have hT1 : (T ++ whead n).size ≤ 70368744177664 + 48 := by rw [ByteArray.size_append]; omega
    generalize hT1e : T ++ whead n = T1 at hT1 htk ⊢
    cases h3 : decide (0 ≤ n.pl)
    · have h3' := of_decide_eq_false h3
      have hw0 : wmid n = ⟨#[]⟩ := by rw [wmid, if_neg h3']
      have htk' : CS ++ catS ((GN.take (i + 1)).map wline) = T1 ++ bNl := by
        rw [htk, hw0]
        congr 1
        apply ByteArray.ext; simp
      try simp -dsimp (disch := omega) only [↓bp0, bd0, bd_PM, evStore, evRange, cNt, tk4, h3, hE2_0a, hE2_0b, simprocAttr]
      refine CallQ.inm (m_WriteString (id := 1) (r := r1) (s := T1) (t := bNl) (by simp -dsimp (disch := omega) only [↓bp0, bd0, bd_PM, evStore, evRange, cNt, tk4, hE2_0a, hE2_0b, simprocAttr]) (by omega)) (by rfl) ?_
      rintro q σ' nx3 ⟨rfl, r3, hnx3, rfl⟩
      have hnx4 : nx1 ≤ nx3 := hnx3
      try simp -dsimp (disch := omega) only [↓bp0, bd0, bd_PM, evStore, evRange, cNt, tk4, hE2_0a, hE2_0b, simprocAttr]
      refine ⟨_, _, ?_, weak_of ?_, i + 1, r3, nx3, h2, by omega, rfl, rfl⟩
      · omega
      · first | (simp -dsimp (disch := omega) only [↓bp0, bd0, bd_PM, evStore, evRange, cNt, tk4, htk', wrapS h2 (show GN.length ≤ 9223372036854775807 by omega), encNts, hE2_0a, hE2_0b, simprocAttr]; done) | simp -dsimp [evl, putN, i64, u32, bl, encL, encB, encLL, htk', wrapS h2 (show GN.length ≤ 9223372036854775807 by omega), encNts, hE2_0a, hE2_0b]
    · have h3' := of_decide_eq_true h3
      have hw0 : wmid n = bSp ++ wordS n.kind := by rw [wmid, if_pos h3']
      have htk' : CS ++ catS ((GN.take (i + 1)).map wline) = T1 ++ (bSp ++ wordS n.kind) ++ bNl := by rw [htk, hw0]
      have sD : ∀ {C : Ctx} {t : TypeId} {x y : Operand}, evBin C .add t x y (.lit (.string ⟨#[32]⟩)) (.lit (.string (wordS n.kind))) = some (.lit (.string (bSp ++ wordS n.kind))) := sadd' (a := bSp) (by omega)
      try simp -dsimp (disch := omega) only [↓bp0, bd0, bd_PM, evStore, evRange, cNt, tk4, h3, hE2_0a, hE2_0b, simprocAttr]
      refine CallQ.imm (n_word n.kind hn.kind) (by rfl) (by rfl) (by first | exact .inl rfl | exact .inr rfl | exact .inr scalB | exact .inr scalI | exact .inr scalT | exact .inr scalM | exact .inr scalMT | exact .inr scalE | exact .inr scalET | exact .inr scalN | exact .inr scalNT) ?_
      try simp -dsimp (disch := omega) only [↓bp0, bd0, bd_PM, evStore, evRange, cNt, tk4, sD, hE2_0a, hE2_0b, simprocAttr]
      refine CallQ.inm (m_WriteString (id := 1) (r := r1) (s := T1) (t := bSp ++ wordS n.kind) (by simp -dsimp (disch := omega) only [↓bp0, bd0, bd_PM, evStore, evRange, cNt, tk4, hE2_0a, hE2_0b, simprocAttr]) (by rw [ByteArray.size_append]; omega)) (by rfl) ?_
      rintro q σ' nx2 ⟨rfl, r2, hnx3, rfl⟩
      have hnx4 : nx1 ≤ nx2 := hnx3
      try simp -dsimp (disch := omega) only [↓bp0, bd0, bd_PM, evStore, evRange, cNt, tk4, hE2_0a, hE2_0b, simprocAttr]
      refine CallQ.inm (m_WriteString (id := 1) (r := r2) (s := T1 ++ (bSp ++ wordS n.kind)) (t := bNl) (by simp -dsimp (disch := omega) only [↓bp0, bd0, bd_PM, evStore, evRange, cNt, tk4, hE2_0a, hE2_0b, simprocAttr]) (by simp only [ByteArray.size_append]; omega)) (by rfl) ?_
      rintro q σ' nx3 ⟨rfl, r3, hnx5, rfl⟩
      have hnx6 : nx2 ≤ nx3 := hnx5
      try simp -dsimp (disch := omega) only [↓bp0, bd0, bd_PM, evStore, evRange, cNt, tk4, hE2_0a, hE2_0b, simprocAttr]
      refine ⟨_, _, ?_, weak_of ?_, i + 1, r3, nx3, h2, by omega, rfl, rfl⟩
      · omega
      · first | (simp -dsimp (disch := omega) only [↓bp0, bd0, bd_PM, evStore, evRange, cNt, tk4, htk', wrapS h2 (show GN.length ≤ 9223372036854775807 by omega), encNts, hE2_0a, hE2_0b, simprocAttr]; done) | simp -dsimp [evl, putN, i64, u32, bl, encL, encB, encLL, htk', wrapS h2 (show GN.length ≤ 9223372036854775807 by omega), encNts, hE2_0a, hE2_0b]
  · rw [List.take_of_length_le (by omega)]
    try simp -dsimp (disch := omega) only [↓bp0, bd0, bd_PM, evStore, evRange, cNt, tk4, hE2_0a, hE2_0b, simprocAttr]
    refine CallQ.inm (m_String (id := 1) (r := r) (s := CS ++ catS (GN.map wline)) (by simp -dsimp (disch := omega) only [↓bp0, bd0, bd_PM, evStore, evRange, cNt, tk4, hE2_0a, hE2_0b, simprocAttr])) (by rfl) ?_
    rintro q σ' nx' ⟨rfl, rfl, rfl⟩
    simp -dsimp (disch := omega) only [↓bp0, bd0, bd_PM, evStore, evRange, cNt, tk4, retQ, resL, finL, newL, flat, tupOf, List.toList_toArray, Tryd.f17, hE2_0a, hE2_0b, simprocAttr]
    exact ⟨.rfl', .rfl', trivial⟩
theorem n_Text (l : Ldg) (a b : Str) (hz : LSz l) : CallSpec cx 17 [encLdg l, str a, str b] (.tup [str (ntext l a b).1, i64 (ntext l a b).2]) := by
  by_cases e1 : (ldiff l a b).2.2 = 0
  · rw [ntext, if_neg (by rw [Decidable.not_not]; exact e1)]
    obtain ⟨ha, hb⟩ := ldiff_ok e1
    have hNe : (nnews l a b).1 = lastsF (clsI l.known) (evV l b) (ldiff l a b).2.1 := by rw [nnews, if_neg (by rw [Decidable.not_not]; exact e1)]
    have hGe : (ngone l a b).1 = srtN (goneO (clsI l.known) (evV l a) (evV l b) (ldiff l a b).1) ++ lastsF (clsI l.known) (evV l b) (ldiff l a b).1 := by rw [ngone, if_neg (by rw [Decidable.not_not]; exact e1)]
    have hlA := evV_len ha
    have hlB := evV_len hb
    refine n_TextG l a b hz _ _ e1 rfl rfl (fun n hn => ?_) (fun n hn => ?_) ?_ ?_
    · rw [hNe] at hn; exact lastsF_ok hb hn
    · rw [hGe] at hn
      rcases List.mem_append.1 hn with h | h
      · obtain ⟨q, _, rfl⟩ := List.mem_map.1 h
        have hq : (goneO (clsI l.known) (evV l a) (evV l b) (ldiff l a b).1)[q] ∈ goneO (clsI l.known) (evV l a) (evV l b) (ldiff l a b).1 := List.getElem_mem q.isLt
        obtain ⟨t, ht, e⟩ := List.mem_map.1 hq
        rw [← e]
        exact neg_ok (lastsF_ok ha ht)
      · exact lastsF_ok hb h
    · rw [hNe]; have := lastsF_len (f := clsI l.known) (v := evV l b) (cs := (ldiff l a b).2.1); omega
    · rw [hGe, List.length_append, srtN_len, goneO, List.length_map]
      have h1 := lastsF_len (f := clsI l.known) (v := evV l b) (cs := (ldiff l a b).1)
      have h2 := lastsF_len (f := clsI l.known) (v := evV l a) (cs := keepN (lastsF (clsI l.known) (evV l b) (ldiff l a b).1) (ldiff l a b).1)
      omega
  · rw [ntext, if_pos e1]
    have c1 := n_News l a b hz
    rw [nnews, if_pos e1] at c1
    have h1 : decide ((ldiff l a b).2.2 = 0) = false := decide_eq_false e1
    refine callSpec_of_vc Tryd.func17 rfl (by decide) (by kernel_rfl) (Nat.le_of_ble_eq_true rfl) ?_
    try simp -dsimp (disch := omega) only [↓bp0, bd0, bd_PM, evStore, evRange, cNt, tk4, Tryd.f17, simprocAttr]
    refine CallQ.imm (c1) (by rfl) (by rfl) (by first | exact .inl rfl | exact .inr rfl | exact .inr scalB | exact .inr scalI | exact .inr scalT | exact .inr scalM | exact .inr scalMT | exact .inr scalE | exact .inr scalET | exact .inr scalN | exact .inr scalNT) ?_
    simp -dsimp (disch := omega) only [↓bp0, bd0, bd_PM, evStore, evRange, cNt, tk4, retQ, resL, finL, newL, flat, tupOf, List.toList_toArray, Tryd.f17, newNts, h1, simprocAttr]
    exact ⟨.rfl', .rfl', trivial⟩
end Go.Ab
end
