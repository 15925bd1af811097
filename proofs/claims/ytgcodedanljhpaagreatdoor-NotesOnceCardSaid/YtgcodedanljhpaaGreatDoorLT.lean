/- The reference's views. -/
import Derived.Test.YtgcodedanljhpaaGreatDoorLR
set_option linter.unusedSimpArgs false
set_option linter.unusedVariables false
section
set_option maxRecDepth 100000
set_option maxHeartbeats 8000000
namespace Go.Ab
open Go Go.Proofs
theorem bd_LS : type_of% (And.intro @evNext.eq_1 (And.intro @fld (And.intro @nit (And.intro @nxE (And.intro @ovR (And.intro @evBin_seql (And.intro @evBin_sneq (And.intro @str.eq_1 (And.intro @u8.eq_1 (And.intro @encBrs.eq_1 (And.intro @cBr.eq_1 (And.intro @encMks.eq_1 (And.intro @List.set_cons_succ.{0} (And.intro @List.getElem?_cons_zero.{0} (And.intro @List.getElem?_cons_succ.{0} (@List.length_set.{0})))))))))))))))) := And.intro @evNext.eq_1 (And.intro @fld (And.intro @nit (And.intro @nxE (And.intro @ovR (And.intro @evBin_seql (And.intro @evBin_sneq (And.intro @str.eq_1 (And.intro @u8.eq_1 (And.intro @encBrs.eq_1 (And.intro @cBr.eq_1 (And.intro @encMks.eq_1 (And.intro @List.set_cons_succ.{0} (And.intro @List.getElem?_cons_zero.{0} (And.intro @List.getElem?_cons_succ.{0} (@List.length_set.{0})))))))))))))))
theorem frzR : (∀ {st : St} {i ver : Nat} {es : List (List PV)} {t : Nat}, (st.freeze i ver es).env t = (st.env t).map (fzV i ver es)) ∧ (∀ {st : St} {i ver : Nat} {es : List (List PV)} {j : Nat}, (st.freeze i ver es).σ j = if j = i then none else (st.σ j).map (fzB i ver es)) ∧
    (∀ {st : St} {i ver : Nat} {es : List (List PV)}, (st.freeze i ver es).nx = st.nx) := ⟨rfl, rfl, rfl⟩
def cVs (v : List (Nat × Nat)) : List PV := [.imm (v.map cMk) false]
def newVs (V : List (List (Nat × Nat))) : PV := .new 1 (V.map cVs)
theorem fzM {a b : Nat} {c : List (List PV)} {L : List (List (Nat × Nat))} : ((L.map cVs).map fun r => r.map (fzV a b c)) = L.map cVs := by
  rw [List.map_map]; rfl
theorem flVs {L : List (List (Nat × Nat))} : ((L.map cVs).all fun e => e.all flat) = true := by
  rw [List.all_eq_true]; intro e he; obtain ⟨b, _, rfl⟩ := List.mem_map.1 he; rfl
theorem vlen {l : List Br} {cs : List Int} (h : TOk l cs) : ∀ i, i ≤ l.length → (∀ (j : Nat) b, j < i → l[j]? = some b → fitI l cs j b = true) → ∀ (j : Nat) b c, j < i → l[j]? = some b → cs[j]? = some c → ∃ v, (vws l cs i)[j]? = some v ∧ (v.length : Int) = b.pos + c := by
  intro i
  induction i with
  | zero => intro _ _ j b c hj; omega
  | succ i ih =>
    intro hi hf j b c hj hb hc
    have ih' := ih (by omega) fun j b hj hb => hf j b (by omega) hb
    by_cases e : j < i
    · obtain ⟨v, h1, h2⟩ := ih' j b c e hb hc
      refine ⟨v, ?_, h2⟩
      rw [vws, List.getElem?_append_left (by rw [vws_len]; exact e)]; exact h1
    · obtain rfl : j = i := by omega
      refine ⟨vw1 l cs (vws l cs j) j, ?_, ?_⟩
      · rw [vws, List.getElem?_append_right (by rw [vws_len]; omega), vws_len, Nat.sub_self]; rfl
      · obtain ⟨_, hp0, hp1, hfrm⟩ := h.b hb
        have hc40 := h.cnt j c hc
        have ho : (own j c).length = c.toNat := by simp [own]
        rw [vw1, hb, hc]
        simp only [List.length_append, ho]
        by_cases h0 : j = 0
        · subst h0
          obtain ⟨b0, q1, _, q3⟩ := (bchk_ok h.chk).2.2.1
          rw [hb] at q1; cases q1
          simp; omega
        · have hit := idx_take (hfrm (by omega))
          have hft := hf j b (by omega) hb
          obtain ⟨b', hb'⟩ : ∃ b', l[(idx l b.frm).toNat]? = some b' := ⟨_, List.getElem?_eq_getElem (by omega)⟩
          obtain ⟨c', hc'⟩ : ∃ c', cs[(idx l b.frm).toNat]? = some c' := ⟨_, List.getElem?_eq_getElem (by rw [h.len]; omega)⟩
          obtain ⟨v, h1, h2⟩ := ih' _ b' c' hit.2 hb' hc'
          simp only [fitI, endOf, hb', hc', Bool.or_eq_true, decide_eq_true_eq] at hft
          rw [if_neg h0, h1]
          simp only [Option.getD_some, List.length_take]
          omega
theorem r_views (l : List Br) (cs : List Int) (h : TOk l cs) : CallSpec cx 73 [encBrs l, encL cs] (.tup [newVs (if fitsB l cs then vws l cs l.length else []), bl (fitsB l cs)]) := by
  have hl8 : l.length ≤ 8 := (bchk_ok h.chk).1
  refine callSpec_of_vc Tryz.func73 rfl (by decide) (by kernel_rfl) (Nat.le_of_ble_eq_true rfl) ?_
  try simp -dsimp (disch := omega) only [↓bp0, bd0, bd_LS, evStore, evRange, Tryz.f73, simprocAttr]
  refine LoopQ.ghost 6 1 (by rfl) ?_
  refine LoopQ.ruleC (fun m st => ∃ (i ido ver nx : Nat), i ≤ l.length ∧ ido < nx ∧ (∀ (j : Nat) b, j < i → l[j]? = some b → fitI l cs j b = true) ∧ m = l.length - i ∧
    st = ⟨mkE [(0, encBrs l), (1, encL cs), (6, .own ido ver 0 i false), (7, i64 i)], mkS [(ido, .row ver 1 ((vws l cs i).map cVs) false)], nx⟩) _ _ (.weak (weak_of ?_))
    ⟨0, 0, 0, 1, by omega, by omega, fun _ _ h => by omega, rfl, rfl⟩ ?_
  · first | (simp -dsimp (disch := omega) only [↓bp0, bd0, bd_LS, evStore, evRange, ghR, vws, List.map_nil, simprocAttr]; done) | simp -dsimp [evl, putN, i64, u32, bl, encL, encB, encLL, ghR, vws, List.map_nil]
  rintro m st ⟨i, ido, ver, nx, hi, hid, hpre, rfl, rfl⟩
  have hE1_0a : (ido = nx) = False := by simp; omega
  have hE1_0b : (nx = ido) = False := by simp; omega
  have hE1_1a : (ido = nx + 1) = False := by simp; omega
  have hE1_1b : (nx + 1 = ido) = False := by simp; omega
  have hE1_2a : (ido = nx + 2) = False := by simp; omega
  have hE1_2b : (nx + 2 = ido) = False := by simp; omega
  try simp -dsimp (disch := omega) only [↓bp0, bd0, bd_LS, evStore, evRange, simprocAttr]
  refine onC_nlt (fun h2 => ?_) (fun h2 => ?_)
  rotate_left
  · have hil : i = l.length := by omega
    subst hil
    have hF : fitsB l cs = true := by
      rw [fitsB, Bool.not_eq_true', anyI_false]
      intro j b hb
      rw [hpre j b (List.getElem?_eq_some_iff.1 hb).1 hb]; rfl
    have hT : List.take l.length ((vws l cs l.length).map cVs) = (vws l cs l.length).map cVs := List.take_of_length_le (by rw [List.length_map, vws_len]; omega)
    have hL : ((vws l cs l.length).map cVs).length = l.length := by rw [List.length_map, vws_len]
    simp -dsimp (disch := omega) only [↓bp0, bd0, bd_LS, evStore, evRange, retQ, resL, finL, newL, flat, tupOf, List.toList_toArray, Tryz.f73, hF, hT, vws_len, flVs, simprocAttr]
    exact ⟨.rfl', .rfl', trivial⟩
  obtain ⟨b, hx, hxm⟩ := get_of_lt h2
  obtain ⟨c, hc, hcm⟩ := get_of_lt (show i < cs.length by rw [h.len]; exact h2)
  obtain ⟨_, hp0, hp1, hfrm⟩ := h.b hx
  have hc40 := h.cnt i c hc
  obtain ⟨c, rfl⟩ : ∃ k : Nat, c = k := ⟨c.toNat, by omega⟩
  obtain ⟨p, hp⟩ : ∃ k : Nat, b.pos = k := ⟨b.pos.toNat, by omega⟩
  have hvl := vlen h i (by omega) hpre
  have hbd : (i + 1) * 24 ≤ 140737488355328 := by omega
  have hgo : fitI l cs i b = true → ∀ (j : Nat) b, j < i + 1 → l[j]? = some b → fitI l cs j b = true := fun hf j b' hj hb' => by
    by_cases hji : j = i
    · subst hji; rw [hx] at hb'; cases hb'; exact hf
    · exact hpre j b' (by omega) hb'
  have hi0 : decide ((0 : Int) < i) = false → i = 0 := fun h4 => by have := of_decide_eq_false h4; omega
  have hi1 : decide ((0 : Int) < i) = true → 0 < i := fun h4 => by have := of_decide_eq_true h4; omega
  have hvw : vw1 l cs (vws l cs i) i = (if i = 0 then [] else (((vws l cs i)[(idx l b.frm).toNat]?).getD []).take p) ++ own i (c : Int) := by
    rw [vw1, hx, hc]; simp only [hp, Int.toNat_natCast]
  have hpl : (if i = 0 then [] else (((vws l cs i)[(idx l b.frm).toNat]?).getD []).take p).length ≤ 320 := by
    split
    · simp
    · rw [List.length_take]; omega
  have hfit0 : i = 0 → fitI l cs i b = true := fun h => by simp [fitI, h]
  have hpre0 : i = 0 → (if i = 0 then [] else (((vws l cs i)[(idx l b.frm).toNat]?).getD []).take p) = [] := fun h => if_pos h
  have hfrom : 0 < i → ∃ jj b' c' v, idx l b.frm = ((jj : Nat) : Int) ∧ jj < i ∧ l[jj]? = some b' ∧ cs[jj]? = some c' ∧ (vws l cs i)[jj]? = some v ∧ (v.length : Int) = b'.pos + c' ∧ (fitI l cs i b = true ↔ (p : Int) ≤ v.length) := fun h0 => by
    have hit := idx_take (hfrm h0)
    have hf := hfrm h0
    obtain ⟨b', hb'⟩ : ∃ b', l[(idx l b.frm).toNat]? = some b' := ⟨_, List.getElem?_eq_getElem (by omega)⟩
    obtain ⟨c', hc'⟩ : ∃ c', cs[(idx l b.frm).toNat]? = some c' := ⟨_, List.getElem?_eq_getElem (by rw [h.len]; omega)⟩
    obtain ⟨v, h1, h3⟩ := hvl _ b' c' hit.2 hb' hc'
    refine ⟨(idx l b.frm).toNat, b', c', v, by omega, hit.2, hb', hc', h1, h3, ?_⟩
    simp only [fitI, endOf, hb', hc', Bool.or_eq_true, decide_eq_true_eq, hp]
    omega
  generalize hP : (if i = 0 then [] else (((vws l cs i)[(idx l b.frm).toNat]?).getD []).take p) = P at hvw hpl hpre0
  obtain ⟨w, hw⟩ : ∃ w : Nat → List (Nat × Nat), ∀ k : Nat, w k = P ++ own i (k : Int) := ⟨_, fun _ => rfl⟩
  have hvn : vws l cs (i + 1) = vws l cs i ++ [w c] := by rw [vws, hvw, hw]
  have hw0 : w 0 = P := by rw [hw]; simp [own]
  have hwS : ∀ k, w (k + 1) = w k ++ [(i, k)] := fun k => by rw [hw, hw, own_succ, List.append_assoc]
  have hwlen : ∀ k, (w k).length ≤ 320 + k := fun k => by rw [hw, List.length_append, own_len]; omega
  clear hw
  apply share
  case h =>
    intro hbody
    cases h4 : decide ((0 : Int) < i)
    case false =>
      have h0 := hi0 h4
      have hP0 := hpre0 h0
      have hft := hfit0 h0
      try simp -dsimp (disch := omega) only [↓bp0, bd0, bd_LS, evStore, evRange, hx, h4, hE1_0a, hE1_0b, hE1_1a, hE1_1b, hE1_2a, hE1_2b, simprocAttr]
      refine LoopQ.ghost 8 2 (by rfl) ?_
      refine LoopQ.rule (fun mm st => fitI l cs i b = true ∧ ∃ (k idv ver2 nx' : Nat), k ≤ c ∧ nx ≤ idv ∧ idv < nx' ∧ mm = c - k ∧
        st = ⟨mkE [(0, encBrs l), (1, encL cs), (6, .own ido ver 0 i false), (7, i64 i), (8, .own idv ver2 0 (w k).length false), (10, i64 k)],
          mkS [(ido, .row ver 1 ((vws l cs i).map cVs) false), (idv, .row ver2 2 ((w k).map cMk) false)], nx'⟩) _ _ (weak_of ?_)
        ⟨hft, 0, nx, 0, nx + 1, Nat.zero_le _, Nat.le_refl _, Nat.lt_succ_self _, rfl, rfl⟩ hbody
      first | (simp -dsimp (disch := omega) only [↓bp0, bd0, bd_LS, evStore, evRange, ghR, hw0, hP0, hE1_0a, hE1_0b, hE1_1a, hE1_1b, hE1_2a, hE1_2b, List.map_nil, simprocAttr]; done) | simp -dsimp [evl, putN, i64, u32, bl, encL, encB, encLL, ghR, hw0, hP0, hE1_0a, hE1_0b, hE1_1a, hE1_1b, hE1_2a, hE1_2b, List.map_nil]
      try exact ⟨rfl, rfl⟩
    · have h0 := hi1 h4
      obtain ⟨jj, b', c', v, hjj, hjl, hb', hc', hv, hvlen, hfiff⟩ := hfrom h0
      have hPv : P = v.take p := by
        rw [← hP, if_neg (Nat.pos_iff_ne_zero.1 h0), hjj, Int.toNat_natCast, hv]; rfl
      try simp -dsimp (disch := omega) only [↓bp0, bd0, bd_LS, evStore, evRange, hx, h4, hE1_0a, hE1_0b, hE1_1a, hE1_1b, hE1_2a, hE1_2b, simprocAttr]
      refine CallQ.imm (r_Index l b.frm (Nat.le_trans hl8 (by decide))) (by rfl) (by rfl) (by first | exact .inl rfl | exact .inr rfl | exact .inr scalB | exact .inr scalI | exact .inr scalT) ?_
      try simp -dsimp (disch := omega) only [↓bp0, bd0, bd_LS, evStore, evRange, hjj, hjl, hv, hE1_0a, hE1_0b, hE1_1a, hE1_1b, hE1_2a, hE1_2b, hx, hp, cVs, simprocAttr]
      cases h5 : decide ((v.length : Int) < p)
      case true =>
        have hF : fitsB l cs = false := by
          rw [fitsB, Bool.not_eq_false', anyI_iff]
          refine ⟨i, b, hx, ?_⟩
          rw [Bool.not_eq_true', ← Bool.not_eq_true, hfiff]
          exact Int.not_le.2 (of_decide_eq_true h5)
        simp -dsimp (disch := omega) only [↓bp0, bd0, bd_LS, evStore, evRange, retQ, resL, finL, newL, flat, tupOf, List.toList_toArray, Tryz.f73, h5, hF, simprocAttr]
        exact ⟨.inr ⟨rfl, 1, rfl⟩, .rfl', trivial⟩
      have hpv : p ≤ v.length := Int.ofNat_le.1 (Int.not_lt.1 (of_decide_eq_false h5))
      have hft := hfiff.2 (Int.ofNat_le.2 hpv)
      have hdt : List.drop 0 (List.take p (v.map cMk)) = (v.take p).map cMk := by rw [List.drop_zero, List.map_take]
      have hdt2 : List.take p (v.map cMk) = (v.take p).map cMk := by rw [List.map_take]
      have hbd2 : (v.take p).length * 16 ≤ 140737488355328 := by rw [← hPv]; exact Nat.le_trans (Nat.mul_le_mul_right 16 hpl) (by decide)
      try simp -dsimp (disch := omega) only [↓bp0, bd0, bd_LS, evStore, evRange, h5, hx, hp, hpv, evSlice, slc, allMk, Bool.false_and, hdt, hdt2, hE1_0a, hE1_0b, hE1_1a, hE1_1b, hE1_2a, hE1_2b, List.length_map, hbd2, true_or, Nat.zero_add, List.nil_append, simprocAttr]
      refine LoopQ.rule (fun mm st => fitI l cs i b = true ∧ ∃ (k idv ver2 nx' : Nat), k ≤ c ∧ nx ≤ idv ∧ idv < nx' ∧ mm = c - k ∧
        st = ⟨mkE [(0, encBrs l), (1, encL cs), (6, .own ido ver 0 i false), (7, i64 i), (8, .own idv ver2 0 (w k).length false), (10, i64 k)],
          mkS [(ido, .row ver 1 ((vws l cs i).map cVs) false), (idv, .row ver2 2 ((w k).map cMk) false)], nx'⟩) _ _ (weak_of ?_)
        ⟨hft, 0, nx, 0, nx + 1, Nat.zero_le _, Nat.le_refl _, Nat.lt_succ_self _, rfl, rfl⟩ hbody
      first | (simp -dsimp (disch := omega) only [↓bp0, bd0, bd_LS, evStore, evRange, hw0, hPv, hE1_0a, hE1_0b, hE1_1a, hE1_1b, hE1_2a, hE1_2b, simprocAttr]; done) | simp -dsimp [evl, putN, i64, u32, bl, encL, encB, encLL, hw0, hPv, hE1_0a, hE1_0b, hE1_1a, hE1_1b, hE1_2a, hE1_2b]
  rintro mm st ⟨hft, k, idv, ver2, nx', hkc, hv1, hv2, rfl, rfl⟩
  have hE2_0a : (ido = nx) = False := by simp; omega
  have hE2_0b : (nx = ido) = False := by simp; omega
  have hE2_1a : (ido = idv) = False := by simp; omega
  have hE2_1b : (idv = ido) = False := by simp; omega
  have hE2_2a : (idv = nx') = False := by simp; omega
  have hE2_2b : (nx' = idv) = False := by simp; omega
  have hE2_3a : (ido = nx') = False := by simp; omega
  have hE2_3b : (nx' = ido) = False := by simp; omega
  have hE2_4a : (ido = nx' + 1) = False := by simp; omega
  have hE2_4b : (nx' + 1 = ido) = False := by simp; omega
  have hE2_5a : (idv = nx' + 1) = False := by simp; omega
  have hE2_5b : (nx' + 1 = idv) = False := by simp; omega
  have hbd2 : ((w k).length + 1) * 16 ≤ 140737488355328 := by have := hwlen k; omega
  have hlenV : (vws l cs i).length = i := vws_len l cs i
  cases h5 : decide ((k : Int) < c)
  · have hk : k = c := by have := of_decide_eq_false h5; omega
    subst hk
    have hT : List.take (w k).length ((w k).map cMk) = (w k).map cMk := List.take_of_length_le (by simp)
    have hfl : ((w k).map cMk).all (fun e => e.all flat) = true := flM
    try simp -dsimp (disch := omega) only [↓bp0, bd0, bd_LS, evStore, evRange, hc, h5, hE2_0a, hE2_0b, hE2_1a, hE2_1b, hE2_2a, hE2_2b, hE2_3a, hE2_3b, hE2_4a, hE2_4b, hE2_5a, hE2_5b, hlenV, hbd, simprocAttr]
    refine ⟨_, _, ?_, (freeze_cvt (i := idv) (ver := ver2) (sz := 2) (es := (w k).map cMk) (f := false) (by simp -dsimp (disch := omega) only [↓bp0, bd0, bd_LS, evStore, evRange, hE2_0a, hE2_0b, hE2_1a, hE2_1b, hE2_2a, hE2_2b, hE2_3a, hE2_3b, hE2_4a, hE2_4b, hE2_5a, hE2_5b, simprocAttr]) hfl).trans (.weak (weak_of ?_)), i + 1, ido, ver + 1, nx' + 1, by omega, by omega, hgo hft, rfl, rfl⟩
    · omega
    · first | (simp -dsimp (disch := omega) only [↓bp0, bd0, bd_LS, evStore, evRange, frzR, fzB, fzV, hE2_0a, hE2_0b, hE2_1a, hE2_1b, hE2_2a, hE2_2b, hE2_3a, hE2_3b, hE2_4a, hE2_4b, hE2_5a, hE2_5b, wrapS h2 (show l.length ≤ 9223372036854775807 by omega), fzM, hvn, hT, List.map_append, List.map_cons, List.map_nil, cVs, List.length_map, Nat.le_refl, simprocAttr]; done) | simp -dsimp [evl, putN, i64, u32, bl, encL, encB, encLL, frzR, fzB, fzV, hE2_0a, hE2_0b, hE2_1a, hE2_1b, hE2_2a, hE2_2b, hE2_3a, hE2_3b, hE2_4a, hE2_4b, hE2_5a, hE2_5b, wrapS h2 (show l.length ≤ 9223372036854775807 by omega), fzM, hvn, hT, List.map_append, List.map_cons, List.map_nil, cVs, List.length_map, Nat.le_refl]
  · have h5' := of_decide_eq_true h5
    have hos := hwS k
    try simp -dsimp (disch := omega) only [↓bp0, bd0, bd_LS, evStore, evRange, hc, h5, bldMk, hE2_0a, hE2_0b, hE2_1a, hE2_1b, hE2_2a, hE2_2b, hE2_3a, hE2_3b, hE2_4a, hE2_4b, hE2_5a, hE2_5b, hbd2, simprocAttr]
    refine ⟨_, _, ?_, weak_of ?_, hft, k + 1, idv, ver2 + 1, nx' + 1, by omega, hv1, by omega, rfl, rfl⟩
    · omega
    · first | (simp -dsimp (disch := omega) only [↓bp0, bd0, bd_LS, evStore, evRange, hE2_0a, hE2_0b, hE2_1a, hE2_1b, hE2_2a, hE2_2b, hE2_3a, hE2_3b, hE2_4a, hE2_4b, hE2_5a, hE2_5b, wrapS (show k < c by omega) (show c ≤ 9223372036854775807 by omega), hos, List.map_append, List.map_cons, List.map_nil, cMk, List.length_append, List.length_cons, List.length_nil, simprocAttr]; done) | simp -dsimp [evl, putN, i64, u32, bl, encL, encB, encLL, hE2_0a, hE2_0b, hE2_1a, hE2_1b, hE2_2a, hE2_2b, hE2_3a, hE2_3b, hE2_4a, hE2_4b, hE2_5a, hE2_5b, wrapS (show k < c by omega) (show c ≤ 9223372036854775807 by omega), hos, List.map_append, List.map_cons, List.map_nil, cMk, List.length_append, List.length_cons, List.length_nil]
end Go.Ab
end

section
/- The references of tables and events. -/
set_option maxRecDepth 100000
set_option maxHeartbeats 8000000
namespace Go.Ab
open Go Go.Proofs
theorem bd_LT : type_of% (And.intro @evNext.eq_1 (And.intro @fld (And.intro @nit (And.intro @nxE (And.intro @ovR (And.intro @evBin_seql (And.intro @evBin_sneq (And.intro @str.eq_1 (And.intro @u8.eq_1 (And.intro @encBrs.eq_1 (And.intro @cBr.eq_1 (And.intro @encLdg.eq_1 (And.intro @encKws.eq_1 (And.intro @cKw.eq_1 (And.intro @encEvss.eq_1 (And.intro @encEvs.eq_1 (And.intro @cEv.eq_1 (And.intro @encMks.eq_1 (And.intro @cMk.eq_1 (And.intro @tk2 (And.intro @tk3 (And.intro @List.set_cons_succ.{0} (And.intro @List.getElem?_cons_zero.{0} (And.intro @List.getElem?_cons_succ.{0} (@List.length_set.{0}))))))))))))))))))))))))) := And.intro @evNext.eq_1 (And.intro @fld (And.intro @nit (And.intro @nxE (And.intro @ovR (And.intro @evBin_seql (And.intro @evBin_sneq (And.intro @str.eq_1 (And.intro @u8.eq_1 (And.intro @encBrs.eq_1 (And.intro @cBr.eq_1 (And.intro @encLdg.eq_1 (And.intro @encKws.eq_1 (And.intro @cKw.eq_1 (And.intro @encEvss.eq_1 (And.intro @encEvs.eq_1 (And.intro @cEv.eq_1 (And.intro @encMks.eq_1 (And.intro @cMk.eq_1 (And.intro @tk2 (And.intro @tk3 (And.intro @List.set_cons_succ.{0} (And.intro @List.getElem?_cons_zero.{0} (And.intro @List.getElem?_cons_succ.{0} (@List.length_set.{0}))))))))))))))))))))))))
theorem r_Fits (l : List Br) (cs : List Int) (hl : l.length ≤ 9223372036854775807) (hcl : cs.length ≤ 9223372036854775807) (hn : ∀ b ∈ l, b.name.size ≤ 2^40) : CallSpec cx 71 [encBrs l, encL cs] (i64 (bfits l cs)) := by
  refine callSpec_of_vc Tryz.func71 rfl (by decide) (by kernel_rfl) (Nat.le_of_ble_eq_true rfl) ?_
  try simp -dsimp (disch := omega) only [↓bp0, bd0, bd_LT, evStore, evRange, Tryz.f71, simprocAttr]
  refine CallQ.imm (r_Check l hl hn) (by rfl) (by rfl) (by first | exact .inl rfl | exact .inr rfl | exact .inr scalB | exact .inr scalI | exact .inr scalT | exact .inr scalM | exact .inr scalMT) ?_
  cases h0 : decide (bchk l = 0)
  · try simp -dsimp (disch := omega) only [↓bp0, bd0, bd_LT, evStore, evRange, h0, simprocAttr]
    refine CallQ.imm (r_Check l hl hn) (by rfl) (by rfl) (by first | exact .inl rfl | exact .inr rfl | exact .inr scalB | exact .inr scalI | exact .inr scalT | exact .inr scalM | exact .inr scalMT) ?_
    simp -dsimp (disch := omega) only [↓bp0, bd0, bd_LT, evStore, evRange, retQ, resL, finL, newL, flat, tupOf, List.toList_toArray, Tryz.f71, h0, simprocAttr]
    refine leT_one (int_eq ?_) (by simp)
    rw [bfits, if_pos (of_decide_eq_false h0)]
  have h0' := of_decide_eq_true h0
  have e1 : bfits l cs = if cs.length ≠ l.length ∨ (cs.any fun n => decide (n < 0) || decide (40 < n)) = true then 2
    else if anyI (fun i b => !fitI l cs i b) l then 16 else 0 := by rw [bfits, if_neg (by rw [Decidable.not_not]; exact h0')]
  cases h1 : decide ((cs.length : Int) = (l.length : Int))
  · have h1' := of_decide_eq_false h1
    simp -dsimp (disch := omega) only [↓bp0, bd0, bd_LT, evStore, evRange, retQ, resL, finL, newL, flat, tupOf, List.toList_toArray, Tryz.f71, h0, h1, simprocAttr]
    refine leT_one (int_eq ?_) (by simp)
    rw [e1, if_pos (.inl (by omega))]
  have h1' : cs.length = l.length := by have := of_decide_eq_true h1; omega
  try simp -dsimp (disch := omega) only [↓bp0, bd0, bd_LT, evStore, evRange, h0, h1, simprocAttr]
  refine LoopQ.rule (fun m st => ∃ i : Nat, i ≤ cs.length ∧ ((cs.take i).any fun n => decide (n < 0) || decide (40 < n)) = false ∧ m = cs.length - i ∧
    st = ⟨mkE [(0, encBrs l), (1, encL cs), (5, i64 i)], mkS [], 0⟩) _ _ (weak_of ?_) ⟨0, by omega, by simp, rfl, rfl⟩ ?_
  · first | (simp -dsimp (disch := omega) only [↓bp0, bd0, bd_LT, evStore, evRange, simprocAttr]; done) | simp -dsimp [evl, putN, i64, u32, bl, encL, encB, encLL]
  rintro m st ⟨i, hi, hpre, rfl, rfl⟩
  try simp -dsimp (disch := omega) only [↓bp0, bd0, bd_LT, evStore, evRange, simprocAttr]
  refine onC_nlt (fun h2 => ?_) (fun h2 => ?_)
  · obtain ⟨n, hx, hxm⟩ := get_of_lt h2
    have hbad : (decide (n < 0) || decide (40 < n)) = true → bfits l cs = 2 := fun h => by
      rw [e1, if_pos (.inr (List.any_eq_true.2 ⟨n, hxm, h⟩))]
    cases h3 : decide (n < 0)
    case true =>
      simp -dsimp (disch := omega) only [↓bp0, bd0, bd_LT, evStore, evRange, retQ, resL, finL, newL, flat, tupOf, List.toList_toArray, Tryz.f71, hx, h3, simprocAttr]
      exact leT_one (int_eq (hbad (by rw [h3]; rfl)).symm) (by simp)
    cases h4 : decide (40 < n)
    case true =>
      simp -dsimp (disch := omega) only [↓bp0, bd0, bd_LT, evStore, evRange, retQ, resL, finL, newL, flat, tupOf, List.toList_toArray, Tryz.f71, hx, h3, h4, simprocAttr]
      exact leT_one (int_eq (hbad (by rw [h4]; simp)).symm) (by simp)
    try simp -dsimp (disch := omega) only [↓bp0, bd0, bd_LT, evStore, evRange, hx, h3, h4, simprocAttr]
    refine ⟨_, _, ?_, weak_of ?_, i + 1, h2, ?_, rfl, rfl⟩
    · omega
    · first | (simp -dsimp (disch := omega) only [↓bp0, bd0, bd_LT, evStore, evRange, wrapS h2 hcl, simprocAttr]; done) | simp -dsimp [evl, putN, i64, u32, bl, encL, encB, encLL, wrapS h2 hcl]
    · rw [take_succ hx, List.any_append, hpre]; simp [of_decide_eq_false h3, of_decide_eq_false h4]
  have hany : (cs.any fun n => decide (n < 0) || decide (40 < n)) = false := by rw [List.take_of_length_le (by omega)] at hpre; exact hpre
  have e2 : bfits l cs = if fitsB l cs then 0 else 16 := by
    rw [e1, if_neg (by rw [not_or, hany]; simp [h1']), fitsB]
    cases anyI (fun i b => !fitI l cs i b) l <;> rfl
  try simp -dsimp (disch := omega) only [↓bp0, bd0, bd_LT, evStore, evRange, simprocAttr]
  refine CallQ.imm (r_views l cs (tok_of h0' h1' hany)) (by rfl) (by rfl) (by first | exact .inl rfl | exact .inr rfl | exact .inr scalB | exact .inr scalI | exact .inr scalT | exact .inr scalM | exact .inr scalMT) ?_
  cases h3 : fitsB l cs
  · simp -dsimp (disch := omega) only [↓bp0, bd0, bd_LT, evStore, evRange, retQ, resL, finL, newL, flat, tupOf, List.toList_toArray, Tryz.f71, h3, uUn, Option.bind_some, simprocAttr]
    refine leT_one (int_eq ?_) (by simp)
    rw [e2, h3]; rfl
  · simp -dsimp (disch := omega) only [↓bp0, bd0, bd_LT, evStore, evRange, retQ, resL, finL, newL, flat, tupOf, List.toList_toArray, Tryz.f71, h3, uUn, Option.bind_some, simprocAttr]
    refine leT_one (int_eq ?_) (by simp)
    rw [e2, h3]; rfl
theorem r_View (l : List Br) (cs : List Int) (n : Str) (hl : l.length ≤ 9223372036854775807) (hcl : cs.length ≤ 9223372036854775807) (hn : ∀ b ∈ l, b.name.size ≤ 2^40) : CallSpec cx 23 [encBrs l, encL cs, str n] (.tup [encMks (bview l cs n).1, i64 (bview l cs n).2]) := by
  refine callSpec_of_vc Tryz.func23 rfl (by decide) (by kernel_rfl) (Nat.le_of_ble_eq_true rfl) ?_
  try simp -dsimp (disch := omega) only [↓bp0, bd0, bd_LT, evStore, evRange, Tryz.f23, simprocAttr]
  refine CallQ.imm (r_Fits l cs hl hcl hn) (by rfl) (by rfl) (by first | exact .inl rfl | exact .inr rfl | exact .inr scalB | exact .inr scalI | exact .inr scalT | exact .inr scalM | exact .inr scalMT) ?_
  cases h0 : decide (bfits l cs = 0)
  · try simp -dsimp (disch := omega) only [↓bp0, bd0, bd_LT, evStore, evRange, h0, simprocAttr]
    refine CallQ.imm (r_Fits l cs hl hcl hn) (by rfl) (by rfl) (by first | exact .inl rfl | exact .inr rfl | exact .inr scalB | exact .inr scalI | exact .inr scalT | exact .inr scalM | exact .inr scalMT) ?_
    simp -dsimp (disch := omega) only [↓bp0, bd0, bd_LT, evStore, evRange, retQ, resL, finL, newL, flat, tupOf, List.toList_toArray, Tryz.f23, h0, simprocAttr]
    rw [bview, if_pos (of_decide_eq_false h0)]
    exact ⟨.inl (.inr (.inr ⟨rfl, rfl⟩)), .rfl', trivial⟩
  have h0' := of_decide_eq_true h0
  have e1 : bview l cs n = if idx l n < 0 then ([], 6) else (vw l cs (idx l n).toNat, 0) := by rw [bview, if_neg (by rw [Decidable.not_not]; exact h0')]
  try simp -dsimp (disch := omega) only [↓bp0, bd0, bd_LT, evStore, evRange, h0, simprocAttr]
  refine CallQ.imm (r_Index l n hl) (by rfl) (by rfl) (by first | exact .inl rfl | exact .inr rfl | exact .inr scalB | exact .inr scalI | exact .inr scalT | exact .inr scalM | exact .inr scalMT) ?_
  cases h1 : decide (idx l n < 0)
  case true =>
    simp -dsimp (disch := omega) only [↓bp0, bd0, bd_LT, evStore, evRange, retQ, resL, finL, newL, flat, tupOf, List.toList_toArray, Tryz.f23, h1, simprocAttr]
    rw [e1, if_pos (of_decide_eq_true h1)]
    exact ⟨.inl (.inr (.inr ⟨rfl, rfl⟩)), .rfl', trivial⟩
  have h1' := of_decide_eq_false h1
  obtain ⟨hi1, hi2⟩ := idx_nat (l := l) (n := n) (by omega)
  have hF : fitsB l cs = true := by
    rw [fitsB, Bool.not_eq_true', anyI_false]
    intro j b hb
    have hv := vok_of h0'
    simp only [fitI, Bool.not_eq_false', Bool.or_eq_true, decide_eq_true_eq]
    by_cases hj : j = 0
    · exact .inl hj
    · exact .inr (hv.fit j b hb (by omega))
  try simp -dsimp (disch := omega) only [↓bp0, bd0, bd_LT, evStore, evRange, h1, simprocAttr]
  refine CallQ.imm (r_views l cs (tok_fits h0')) (by rfl) (by rfl) (by first | exact .inl rfl | exact .inr rfl | exact .inr scalB | exact .inr scalI | exact .inr scalT | exact .inr scalM | exact .inr scalMT) ?_
  have hg : (vws l cs l.length)[(idx l n).toNat]? = some (vw l cs (idx l n).toNat) := vws_vw hi2 (Nat.le_refl _)
  rw [e1, if_neg h1']
  generalize (idx l n).toNat = ii at hi1 hg ⊢
  rw [hi1]
  simp -dsimp (disch := omega) only [↓bp0, bd0, bd_LT, evStore, evRange, retQ, resL, finL, newL, flat, tupOf, List.toList_toArray, Tryz.f23, hF, newVs, hg, cVs, simprocAttr]
  exact ⟨.rfl', .rfl', trivial⟩
theorem r_Class (l : Ldg) (c : Str) (hl : l.known.length ≤ 2^40) : CallSpec cx 26 [encLdg l, str c] (i64 (clsI l.known c)) := by
  refine callSpec_of_vc Tryz.func26 rfl (by decide) (by kernel_rfl) (Nat.le_of_ble_eq_true rfl) ?_
  try simp -dsimp (disch := omega) only [↓bp0, bd0, bd_LT, evStore, evRange, Tryz.f26, simprocAttr]
  refine LoopQ.rule (fun m st => ∃ i : Nat, i ≤ l.known.length ∧ clsOf (l.known.take i) c = none ∧ m = l.known.length - i ∧
    st = ⟨mkE [(1, str c), (2, .ptr 0 0 0 0), (5, i64 i)], mkS [(0, .row 0 3 [[encKws l.known, encBrs l.brs, encEvss l.evs]] false)], 1⟩) _ _ (weak_of ?_) ⟨0, by omega, rfl, rfl, rfl⟩ ?_
  · first | (simp -dsimp (disch := omega) only [↓bp0, bd0, bd_LT, evStore, evRange, simprocAttr]; done) | simp -dsimp [evl, putN, i64, u32, bl, encL, encB, encLL]
  rintro m st ⟨i, hi, hpre, rfl, rfl⟩
  try simp -dsimp (disch := omega) only [↓bp0, bd0, bd_LT, evStore, evRange, simprocAttr]
  refine onC_nlt (fun h2 => ?_) (fun h2 => ?_)
  · obtain ⟨k, hx, hxm⟩ := get_of_lt h2
    have htk := take_succ hx
    have hsn : clsOf (l.known.take (i + 1)) c = if k.chg = c then some k.cls else none := by rw [htk, clsOf_snoc, hpre]
    cases he : decide (k.chg = c)
    · have he' := of_decide_eq_false he
      try simp -dsimp (disch := omega) only [↓bp0, bd0, bd_LT, evStore, evRange, hx, he, simprocAttr]
      refine ⟨_, _, ?_, weak_of ?_, i + 1, h2, by rw [hsn, if_neg he'], rfl, rfl⟩
      · omega
      · first | (simp -dsimp (disch := omega) only [↓bp0, bd0, bd_LT, evStore, evRange, wrapS h2 (show l.known.length ≤ 9223372036854775807 by omega), simprocAttr]; done) | simp -dsimp [evl, putN, i64, u32, bl, encL, encB, encLL, wrapS h2 (show l.known.length ≤ 9223372036854775807 by omega)]
    · have he' := of_decide_eq_true he
      simp -dsimp (disch := omega) only [↓bp0, bd0, bd_LT, evStore, evRange, retQ, resL, finL, newL, flat, tupOf, List.toList_toArray, Tryz.f26, hx, he, simprocAttr]
      refine leT_one (int_eq ?_) (by simp)
      have : clsOf l.known c = some k.cls := by
        rw [if_pos he'] at hsn
        unfold clsOf at hsn ⊢
        rw [← List.take_append_drop (i + 1) l.known, List.find?_append]
        obtain ⟨q, h1, h3⟩ := Option.map_eq_some_iff.1 hsn
        rw [h1]; simp [h3]
      rw [clsI, this]; rfl
  · rw [List.take_of_length_le (by omega)] at hpre
    simp -dsimp (disch := omega) only [↓bp0, bd0, bd_LT, evStore, evRange, retQ, resL, finL, newL, flat, tupOf, List.toList_toArray, Tryz.f26, simprocAttr]
    refine leT_one (int_eq ?_) (by simp)
    rw [clsI, hpre]; rfl
theorem r_Counts (l : Ldg) (hl : l.evs.length ≤ 2^40) (he : ∀ s ∈ l.evs, s.length ≤ 2^40) : CallSpec cx 24 [encLdg l] (newI (cnts l)) := by
  refine callSpec_of_vc Tryz.func24 rfl (by decide) (by kernel_rfl) (Nat.le_of_ble_eq_true rfl) ?_
  try simp -dsimp (disch := omega) only [↓bp0, bd0, bd_LT, evStore, evRange, Tryz.f24, simprocAttr]
  refine LoopQ.ghost 3 1 (by rfl) ?_
  refine LoopQ.rule (fun m st => ∃ (i id ver nx : Nat), i ≤ l.evs.length ∧ 1 ≤ id ∧ id < nx ∧ m = l.evs.length - i ∧
    st = ⟨mkE [(1, .ptr 0 0 0 0), (3, .own id ver 0 i false), (4, i64 i)], mkS [(0, .row 0 3 [[encKws l.known, encBrs l.brs, encEvss l.evs]] false), (id, .row ver 1 (((cnts l).take i).map fun n => [i64 n]) false)], nx⟩) _ _ (weak_of ?_)
    ⟨0, 1, 0, 2, by omega, by omega, by omega, rfl, rfl⟩ ?_
  · first | (simp -dsimp (disch := omega) only [↓bp0, bd0, bd_LT, evStore, evRange, ghR, List.take_zero, List.map_nil, simprocAttr]; done) | simp -dsimp [evl, putN, i64, u32, bl, encL, encB, encLL, ghR, List.take_zero, List.map_nil]
  rintro m st ⟨i, id, ver, nx, hi, hid1, hid, rfl, rfl⟩
  have hE1_0a : (id = 0) = False := by simp; omega
  have hE1_0b : (0 = id) = False := by simp; omega
  have hE1_1a : (id = nx) = False := by simp; omega
  have hE1_1b : (nx = id) = False := by simp; omega
  have hE1_2a : (nx = 0) = False := by simp; omega
  have hE1_2b : (0 = nx) = False := by simp; omega
  try simp -dsimp (disch := omega) only [↓bp0, bd0, bd_LT, evStore, evRange, hE1_0a, hE1_0b, hE1_1a, hE1_1b, hE1_2a, hE1_2b, simprocAttr]
  refine onC_nlt (fun h2 => ?_) (fun h2 => ?_)
  · obtain ⟨x, hx, hxm⟩ := get_of_lt h2
    have hc : (cnts l)[i]? = some (x.length : Int) := by simp [cnts, hx]
    have hts := take_succ hc
    have hbd : (i + 1) * 8 ≤ 140737488355328 := by omega
    have hlt : ((cnts l).take i).length = i := by rw [List.length_take, cnts_len]; omega
    try simp -dsimp (disch := omega) only [↓bp0, bd0, bd_LT, evStore, evRange, hx, hE1_0a, hE1_0b, hE1_1a, hE1_1b, hE1_2a, hE1_2b, hbd, hlt, simprocAttr]
    refine ⟨_, _, ?_, weak_of ?_, i + 1, id, ver + 1, nx + 1, h2, hid1, by omega, rfl, rfl⟩
    · omega
    · first | (simp -dsimp (disch := omega) only [↓bp0, bd0, bd_LT, evStore, evRange, hE1_0a, hE1_0b, hE1_1a, hE1_1b, hE1_2a, hE1_2b, wrapS h2 (show l.evs.length ≤ 9223372036854775807 by omega), hts, List.map_append, List.map_cons, List.map_nil, simprocAttr]; done) | simp -dsimp [evl, putN, i64, u32, bl, encL, encB, encLL, hE1_0a, hE1_0b, hE1_1a, hE1_1b, hE1_2a, hE1_2b, wrapS h2 (show l.evs.length ≤ 9223372036854775807 by omega), hts, List.map_append, List.map_cons, List.map_nil]
  · have hil : i = l.evs.length := by omega
    subst hil
    have htl : (cnts l).take l.evs.length = cnts l := List.take_of_length_le (by rw [cnts_len]; omega)
    have hT : List.take l.evs.length ((cnts l).map fun n => [PV.lit (.int .i64 n)]) = (cnts l).map fun n => [PV.lit (.int .i64 n)] := List.take_of_length_le (by simp [cnts])
    rw [htl]
    have hcl := cnts_len l
    simp -dsimp (disch := omega) only [↓bp0, bd0, bd_LT, evStore, evRange, retQ, resL, finL, newL, flat, tupOf, List.toList_toArray, Tryz.f24, hT, hcl, hE1_0a, hE1_0b, hE1_1a, hE1_1b, hE1_2a, hE1_2b, simprocAttr]
    exact leT_one .rfl' (by simp)
end Go.Ab
end
