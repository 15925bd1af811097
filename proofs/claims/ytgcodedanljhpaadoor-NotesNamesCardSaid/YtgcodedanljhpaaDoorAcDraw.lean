/- Abstract values: regions whose order is open, where some reads hold under all stores that may come up. -/
import Derived.Test.YtgcodedanljhpaaDoorAcNof
set_option linter.unusedSimpArgs false
set_option linter.unusedVariables false
namespace Go.Ab
open Go
theorem eve_congr {C : Ctx} {σ : Store} {nx : Nat} {e e' : Env} {op : Op} (h : ∀ x ∈ op.operands, rd C e x = rd C e' x) : eve C ⟨e, σ, nx⟩ op = eve C ⟨e', σ, nx⟩ op := by
  cases op <;> simp only [Op.operands] at h <;> unfold eve
  case store t a x => simp only [h a (by simp), h x (by simp)]; rfl
  case box t x => simp only [h x (by simp)]; rfl
  case alloc t => rfl
  case buildSlice t len parts =>
    have hx := rdParts_congr (C := C) (e := e) (e' := e') parts.toList fun x hx => h x (by simpa using hx)
    simp only [hx]; rfl
  case makeSlice t l c => simp only [h l (by simp), h c (by simp)]; rfl
  case insert t m k x => simp only [h m (by simp), h k (by simp), h x (by simp)]; rfl
  case range t x => simp only [h x (by simp)]; rfl
  case next x b => simp only [h x (by simp)]; rfl
  case mapUpdate t m k x => simp only [h m (by simp), h k (by simp), h x (by simp)]; rfl
  case makeMap t r => cases r <;> rfl
  case call c =>
    obtain ⟨callee, args, argTypes⟩ := c
    cases callee <;> try rfl
    rename_i b
    cases b <;> try rfl
    all_goals have hx := fun x (hx : x ∈ args) => h x (by simp [Call.operands, hx])
    · simp only
      split
      · rename_i x y t xt ha ht
        obtain rfl : args = #[x, y] := Array.ext' ha
        simp only [hx x (by simp), hx y (by simp)]; rfl
      · rfl
    · simp only
      split
      · rename_i x t ha ht
        obtain rfl : args = #[x] := Array.ext' ha
        simp only [hx x (by simp)]; rfl
      · rfl
  all_goals rfl
def inD : List Nat → Nat → Bool
  | [], _ => false
  | d :: D, k => if d = k then true else inD D k
def lastE (ops : Array Oper) (D : List Nat) (j : Nat) : Bool := (List.range ops.size).all fun d => !inD D d || reachF ops ops.size j d
section
variable {C : Ctx} {N : Nat} {κ : Kn} {st : St} {a : Act} {w : World} {ops : Array Oper} {J : Store → Prop} {D E : List Nat}
theorem eve_put {o : Oper} {d : Option Nat} {p : PV} (h : ∀ t, d = some t → t ∉ o.looksAt ops) : eve C (st.put d p) o.op = eve C st o.op := by
  have : (st.put d p) = ⟨(st.put d p).env, st.σ, st.nx⟩ := by cases d <;> rfl
  rw [this]
  refine eve_congr fun x hx => ?_
  cases x with
  | tmp t =>
    simp only [rd]
    rw [put_env_ne]
    intro e
    exact h t e (List.mem_append_left _ (List.mem_filterMap.2 ⟨.tmp t, Array.mem_toList_iff.2 hx, rfl⟩))
  | _ => rfl
theorem rd_put {o : Oper} {d : Option Nat} {p : PV} (h : ∀ t, d = some t → t ∉ o.looksAt ops) : ∀ x ∈ o.op.operands, rd C (st.put d p).env x = rd C st.env x := fun x hx => by
  cases x with
  | tmp t =>
    simp only [rd]
    rw [put_env_ne]
    intro e
    exact h t e (List.mem_append_left _ (List.mem_filterMap.2 ⟨.tmp t, Array.mem_toList_iff.2 hx, rfl⟩))
  | _ => rfl
theorem evqB_put {o : Oper} {d : Option Nat} {p : PV} {σ : Store} (h : ∀ t, d = some t → t ∉ o.looksAt ops) : evqB C σ (st.put d p).env o.op = evqB C σ st.env o.op := evqB_congr (rd_put h)
theorem effQ_put {o : Oper} {d : Option Nat} {p : PV} {Q : PV → Store → Nat → Prop} (h : ∀ t, d = some t → t ∉ o.looksAt ops) (hq : effQ C (st.put d p) o Q) : effQ C st o Q := by
  rw [effQ_iff] at *
  rcases hq with ⟨fo, as, ts, f, ps, h0, h1, h2, h3⟩ | ⟨h0, q, σ', nx', h1, h2⟩
  · refine .inl ⟨fo, as, ts, f, ps, h0, ?_, by rw [put_rest.1, put_rest.2] at h2; exact h2, h3⟩
    rw [← h1, show st.put d p = ⟨(st.put d p).env, st.σ, st.nx⟩ from by cases d <;> rfl]
    exact (callArgs_congr h0 (rd_put h)).symm
  · exact .inr ⟨h0, q, σ', nx', by rw [← h1, eve_put h], h2⟩
theorem effQ_put' {o : Oper} {d : Option Nat} {p : PV} {Q : PV → Store → Nat → Prop} (h : ∀ t, d = some t → t ∉ o.looksAt ops) (hq : effQ C st o Q) : effQ C (st.put d p) o Q := by
  rw [effQ_iff] at *
  rcases hq with ⟨fo, as, ts, f, ps, h0, h1, h2, h3⟩ | ⟨h0, q, σ', nx', h1, h2⟩
  · refine .inl ⟨fo, as, ts, f, ps, h0, ?_, by rw [put_rest.1, put_rest.2]; exact h2, h3⟩
    rw [← h1, show st.put d p = ⟨(st.put d p).env, st.σ, st.nx⟩ from by cases d <;> rfl]
    exact callArgs_congr h0 (rd_put h)
  · exact .inr ⟨h0, q, σ', nx', by rw [← h1, eve_put h], h2⟩
def bldB (o : Oper) : Bool := match o.op with
  | .buildSlice .. => true
  | .call { callee := .builtin .append, .. } => true
  | _ => false
def isE (E : List Nat) (i : Nat) (o : Oper) : Bool := (isEff o && !(bldB o && inD E (1000 + i))) || inD E i
def isCallV (o : Oper) : Bool := match opKind o.op with | .c => true | _ => false
def RobQ (C : Ctx) (N : Nat) (J : Store → Prop) (ops : Array Oper) (o : Oper) (env : Env) (p : PV) : Prop :=
  if isCallV o = true then ∀ σ nx, J σ → OpY C N ops o ⟨env, σ, nx⟩ p else ∀ σ, J σ → evqB C σ env o.op = some p
theorem RobQ.opY {o : Oper} {p : PV} (h : RobQ C N J ops o st.env p) (hJ : J st.σ) : OpY C N ops o st p := by
  unfold RobQ at h
  split at h
  · exact h st.σ st.nx hJ
  · exact opY_of_qB (h st.σ hJ)
theorem opY_put' {o : Oper} {d : Option Nat} {p q : PV} {σ : Store} {nx : Nat} (h : ∀ t, d = some t → t ∉ o.looksAt ops) : OpY C N ops o ⟨(st.put d p).env, σ, nx⟩ q ↔ OpY C N ops o ⟨st.env, σ, nx⟩ q := by
  unfold OpY
  simp only
  rw [only_put h]
theorem RobQ.put {o : Oper} {d : Option Nat} {p q : PV} (h : ∀ t, d = some t → t ∉ o.looksAt ops) : RobQ C N J ops o (st.put d q).env p ↔ RobQ C N J ops o st.env p := by
  unfold RobQ
  split
  · exact ⟨fun g σ nx hJ => (opY_put' h).1 (g σ nx hJ), fun g σ nx hJ => (opY_put' h).2 (g σ nx hJ)⟩
  · exact ⟨fun g σ hJ => (evqB_put h).symm.trans (g σ hJ), fun g σ hJ => (evqB_put h).trans (g σ hJ)⟩
def jOp (C : Ctx) (N : Nat) (J : Store → Prop) (D E : List Nat) (ops : Array Oper) (i : Nat) (K : St → Prop) (st : St) : Prop :=
  match ops[i]? with
  | none => K st
  | some o => pB (wantd ops st.env o)
      (if isE E i o then effQ C st o fun p σ' nx' => (lastE ops D i = true ∨ J σ') ∧ K (St.put ⟨st.env, σ', nx'⟩ o.dst p)
       else if inD D i then ∃ p, RobQ C N J ops o st.env p ∧ K (st.put o.dst p)
       else ∃ p, OpY C N ops o st p ∧ K (st.put o.dst p))
      (K (st.put o.dst (.tup [])))
theorem jOp_mono {i : Nat} {K K' : St → Prop} (hk : ∀ s, K s → K' s) (h : jOp C N J D E ops i K st) : jOp C N J D E ops i K' st := by
  unfold jOp at *
  split
  · rename_i ho; simp only [ho] at h; exact hk _ h
  · rename_i o ho
    simp only [ho] at h
    refine pB_mono (fun h => ?_) (fun h => hk _ h) h
    by_cases he : isE E i o = true
    · rw [if_pos he] at h ⊢
      exact effQ_mono h fun p σ' nx' h => ⟨h.1, hk _ h.2⟩
    · rw [if_neg he] at h ⊢
      by_cases hi : inD D i = true
      · rw [if_pos hi] at h ⊢; exact h.imp fun p hp => ⟨hp.1, hk _ hp.2⟩
      · rw [if_neg hi] at h ⊢; exact h.imp fun p hp => ⟨hp.1, hk _ hp.2⟩
def anyJ (C : Ctx) (N : Nat) (J : Store → Prop) (D E : List Nat) (ops : Array Oper) (Q : St → Prop) : Nat → Array Bool → St → Prop
  | 0, listed, st => Region.ready .any ops listed = [] ∧ Q st
  | f + 1, listed, st => (Region.ready .any ops listed = [] → Q st) ∧ ∀ i ∈ Region.ready .any ops listed, jOp C N J D E ops i (anyJ C N J D E ops Q f (listed.setIfInBounds i true)) st
def Pend (J : Store → Prop) (D : List Nat) (ops : Array Oper) (listed : Array Bool) (σ : Store) : Prop := J σ ∨ ∀ d, inD D d = true → d < ops.size → listed.getD d false = true
theorem Pend.add {listed : Array Bool} {σ : Store} {j : Nat} (h : Pend J D ops listed σ) : Pend J D ops (listed.setIfInBounds j true) σ := h.imp id fun h d hd hl => getD_set_true (h d hd hl)
theorem unlisted_false {listed : Array Bool} {i : Nat} (h0 : listed.getD i true = false) : listed.getD i false = false := by
  rcases Nat.lt_or_ge i listed.size with h' | h'
  · simp [h'] at h0 ⊢; exact h0
  · simp [Array.getElem?_eq_none h'] at h0
theorem anyJ_sound {rd : Option Nat} {mm : Nat} {Q : St → Prop} {Q' : Exit → Act → World → Prop} (hd : ∀ (i : Nat) o, ops[i]? = some o → ∀ t, o.dst = some t → t < N) (hnd : ∀ (i : Nat) o, ops[i]? = some o → noDef o = true) : ∀ (f : Nat) (listed : Array Bool) (st : St) (κ : Kn) (a : Act) (w : World),
    Cl ops listed → Pend J D ops listed st.σ → anyJ C N J D E ops Q f listed st → Sim C N κ st a w → (∀ κ' st' a' w', Q st' → Sim C N κ' st' a' w' → Evo κ st.σ w κ' st'.σ w' → a'.defers = a.defers → Q' .normal a' w') → wpAnyIn (wd rd) mm C.P .any ops Q' f listed a w
  | 0, listed, st, κ, a, w, hc, hJ, h, s, hQ => ⟨h.1, hQ κ st a w h.2 s (.refl _ _ _) rfl⟩
  | f + 1, listed, st, κ, a, w, hc, hJ, h, s, hQ => by
    refine ⟨fun h0 => hQ κ st a w (h.1 h0) s (.refl _ _ _) rfl, fun i hi => ?_⟩
    have h1 := h.2 i hi
    have hc' := hc.add hi
    unfold jOp at h1
    unfold wpOpIn
    cases ho : ops[i]? with
    | none => simp only [ho] at h1; exact anyJ_sound hd hnd f _ st κ a w hc' hJ.add h1 s hQ
    | some o =>
      simp only [ho] at h1 ⊢
      cases hw : wantd ops st.env o with
      | none => rw [hw] at h1; exact h1.elim
      | some b =>
        rw [hw] at h1
        rw [wantd_sound s hw]
        have hps : ∀ p, (st.put o.dst p).σ = st.σ := fun p => by cases hdst : o.dst <;> rfl
        cases b with
        | false =>
          simp only [pB] at h1
          simp only [Bool.false_eq_true, if_false]
          exact ⟨fun _ _ => trivial, anyJ_sound hd hnd f _ _ κ _ w hc' (by rw [hps]; exact hJ.add) h1 (s.put (hd i o ho) rel_undef) fun κ2 st2 a2 w2 h2 s2 e2 d2 => hQ κ2 st2 a2 w2 h2 s2 (by rw [hps] at e2; exact e2) (d2.trans put_dfs)⟩
        | true =>
          simp only [pB] at h1
          simp only [if_true]
          have hT : OpT C N o st (fun s => Pend J D ops (listed.setIfInBounds i true) s.σ ∧ anyJ C N J D E ops Q f (listed.setIfInBounds i true) s) := by
            by_cases he : isE E i o = true
            · rw [if_pos he] at h1
              refine opT_of_eff (hd i o ho) (effQ_mono h1 fun p σ' nx' ⟨g2, g3⟩ => ⟨?_, g3⟩)
              rw [put_rest.1]
              rcases g2 with g2 | g2
              · refine .inr fun d hd' hl => getD_set_true ?_
                have := List.all_eq_true.1 g2 d (by simpa using hl)
                simp only [hd', Bool.not_true, Bool.false_or] at this
                obtain ⟨_, oi, hoi, hall⟩ := mem_ready.1 hi
                exact reachF_listed hc _ _ _ this fun o' ho' e he' hb => by rw [hoi] at ho'; cases ho'; exact hall e he' hb
              · exact .inl g2
            · rw [if_neg he] at h1
              by_cases hi' : inD D i = true
              · rw [if_pos hi'] at h1
                obtain ⟨p, hp, hk⟩ := h1
                have hJs : J st.σ := by
                  rcases hJ with h2 | h2
                  · exact h2
                  · have h3 := unlisted_false (mem_ready.1 hi).1
                    rw [h2 i hi' (Array.getElem?_eq_some_iff.1 ho).1] at h3; cases h3
                exact opT_of_y (ops := ops) (hd i o ho) (RobQ.opY hp hJs) ⟨by rw [hps]; exact hJ.add, hk⟩
              · rw [if_neg hi'] at h1
                obtain ⟨p, hp, hk⟩ := h1
                exact opT_of_y (hd i o ho) hp ⟨by rw [hps]; exact hJ.add, hk⟩
          exact wpIn_of_wp _ _ (hnd i o ho) (hT κ a w s _ _ fun κ1 st1 a1 w1 h2 s1 e1 d1 => anyJ_sound hd hnd f _ st1 κ1 a1 w1 hc' h2.1 h2.2 s1 fun κ2 st2 a2 w2 h3 s2 e2 d2 => hQ κ2 st2 a2 w2 h3 s2 (e1.trans e2) (d2.trans d1))
def JY (C : Ctx) (N : Nat) (J : Store → Prop) (rob : Bool) (ops : Array Oper) (o : Oper) (p : PV) (st : St) : Prop :=
  (wantd ops st.env o = some true ∧ if rob then RobQ C N J ops o st.env p else OpY C N ops o st p) ∨ (wantd ops st.env o = some false ∧ p = .tup [])
theorem JY.jOp {i : Nat} {o : Oper} {p : PV} {K : St → Prop} (hi : ops[i]? = some o) (he : isE E i o = false) (h : JY C N J (inD D i) ops o p st) (hK : K (st.put o.dst p)) : jOp C N J D E ops i K st := by
  unfold Go.Ab.jOp
  simp only [hi, he, Bool.false_eq_true, if_false]
  rcases h with ⟨h1, h2⟩ | ⟨h1, rfl⟩
  · rw [h1]
    show (if inD D i = true then _ else _)
    by_cases hr : inD D i = true
    · rw [if_pos hr] at h2 ⊢; exact ⟨p, h2, hK⟩
    · rw [if_neg hr] at h2 ⊢; exact ⟨p, h2, hK⟩
  · rw [h1]; exact hK
theorem JY.put {rob : Bool} {o : Oper} {d : Option Nat} {p q : PV} (h : ∀ t, d = some t → t ∉ o.looksAt ops) (ha : JY C N J rob ops o p st) : JY C N J rob ops o p (st.put d q) := by
  unfold JY at *
  rw [wantd_put h]
  rcases ha with ⟨h1, h2⟩ | h1
  · refine .inl ⟨h1, ?_⟩
    cases rob with
    | true =>
      rw [if_pos rfl] at h2 ⊢
      exact (RobQ.put h).2 h2
    | false =>
      rw [if_neg (by simp)] at h2 ⊢
      exact (opY_put h).2 h2
  · exact .inr h1
theorem JY.eff {o : Oper} {d : Option Nat} {p q : PV} {σ' : Store} {nx' : Nat} (h : ∀ t, d = some t → t ∉ o.looksAt ops) (ha : JY C N J true ops o p st) : JY C N J true ops o p (St.put ⟨st.env, σ', nx'⟩ d q) := by
  have : JY C N J true ops o p ⟨st.env, σ', nx'⟩ := by
    unfold JY at *
    exact ha
  exact this.put h
theorem mk_put {d : Option Nat} {p : PV} {σ' : Store} {nx' : Nat} : (⟨(st.put d p).env, σ', nx'⟩ : St) = St.put ⟨st.env, σ', nx'⟩ d p := by cases d <;> rfl
theorem jOp_putY {Y : St → Prop} {j : Nat} {oi oj : Oper} {p : PV} (hj : ops[j]? = some oj) (hap : oi.apart ops oj = true) (hYp : ∀ s q, Y s → Y (s.put oj.dst q))
    (hYe : isE E j oj = true → ∀ (s : St) σ nx q, Y s → Y (St.put ⟨s.env, σ, nx⟩ oj.dst q)) {K : St → Prop}
    (hy : Y st) (h : jOp C N J D E ops j K (st.put oi.dst p)) : jOp C N J D E ops j (fun s => Y s ∧ K (s.put oi.dst p)) st := by
  obtain ⟨h1, h2, h3⟩ := Oper.apart_spec hap
  unfold jOp at *
  simp only [hj] at *
  rw [wantd_put h1] at h
  refine pB_mono ?_ ?_ h
  · by_cases he : isE E j oj = true
    · rw [if_pos he, if_pos he]
      intro g
      refine effQ_mono (effQ_put h1 g) ?_
      rintro q σ' nx' ⟨g2, g3⟩
      refine ⟨g2, hYe he _ _ _ _ hy, ?_⟩
      rw [mk_put] at g3
      rw [← put_comm (fun t ht => h2 t ht)]; exact g3
    · rw [if_neg he, if_neg he]
      by_cases hr : inD D j = true
      · rw [if_pos hr, if_pos hr]
        rintro ⟨q, g1, g2⟩
        refine ⟨q, (RobQ.put h1).1 g1, hYp _ _ hy, ?_⟩
        rw [← put_comm (fun t ht => h2 t ht)]; exact g2
      · rw [if_neg hr, if_neg hr]
        rintro ⟨q, g1, g2⟩
        refine ⟨q, (opY_put h1).1 g1, hYp _ _ hy, ?_⟩
        rw [← put_comm (fun t ht => h2 t ht)]; exact g2
  · intro g
    refine ⟨hYp _ _ hy, ?_⟩
    rw [← put_comm (fun t ht => h2 t ht)]; exact g
theorem reach_direct {j i : Nat} {o : Oper} (ho : ops[j]? = some o) (h : ∃ e ∈ o.after, Region.binds .any e = true ∧ e.on = i) : reachF ops ops.size j i = true := by
  have : 0 < ops.size := Nat.lt_of_le_of_lt (Nat.zero_le _) (Array.getElem?_eq_some_iff.1 ho).1
  obtain ⟨n, hn⟩ : ∃ n, ops.size = n + 1 := ⟨ops.size - 1, by omega⟩
  rw [hn]
  simp only [reachF, ho]
  obtain ⟨e, he, hb, hon⟩ := h
  exact Array.any_eq_true'.2 ⟨e, he, by simp [hb, hon]⟩
theorem anyJ_first {Q : St → Prop} {i : Nat} {oi : Oper} {p : PV} {Y : St → Prop} {U : Nat → Prop} (hi : ops[i]? = some oi) (y1 : ∀ (st : St) (K : St → Prop), Y st → K (st.put oi.dst p) → jOp C N J D E ops i K st)
    (y2 : ∀ (j : Nat) oj (st : St) (K : St → Prop), U j → ops[j]? = some oj → reachF ops ops.size j i = false → oi.apart ops oj = true → Y st → jOp C N J D E ops j K (st.put oi.dst p) → jOp C N J D E ops j (fun s => Y s ∧ K (s.put oi.dst p)) st) : ∀ (f : Nat) (listed : Array Bool) (st : St),
    Cl ops listed → (∀ j, j ≠ i → listed.getD j true = false → U j) →
    (∀ j oj, ops[j]? = some oj → j ≠ i → listed.getD j true = false → reachF ops ops.size j i = false → oi.apart ops oj = true) →
    i ∈ Region.ready .any ops listed → Y st → anyJ C N J D E ops Q f (listed.setIfInBounds i true) (st.put oi.dst p) → anyJ C N J D E ops Q (f + 1) listed st := by
  intro f
  induction f with
  | zero =>
    intro listed st _ _ _ hr hy H
    refine ⟨fun h => (by rw [h] at hr; cases hr), fun j hj => ?_⟩
    by_cases hji : j = i
    · subst hji; exact y1 _ _ hy H
    · have := ready_mono hj hji
      rw [H.1] at this
      cases this
  | succ f ih =>
    intro listed st hc hU hfree hr hy H
    refine ⟨fun h => (by rw [h] at hr; cases hr), fun j hj => ?_⟩
    by_cases hji : j = i
    · subst hji; exact y1 _ _ hy H
    · have h1 := H.2 j (ready_mono hj hji)
      obtain ⟨hjun, oj, hoj, hall⟩ := mem_ready.1 hj
      have hif := unlisted_false (mem_ready.1 hr).1
      have hnr : reachF ops ops.size j i = false := by
        rw [Bool.eq_false_iff]; intro h2
        have := reachF_listed hc _ _ _ h2 fun o ho e he' hb => by rw [hoj] at ho; cases ho; exact hall e he' hb
        rw [hif] at this; cases this
      have h2 := y2 j oj st _ (hU j hji hjun) hoj hnr (hfree j oj hoj hji hjun hnr) hy h1
      have sub : ∀ k, k ≠ i → (listed.setIfInBounds j true).getD k true = false → listed.getD k true = false := fun k hki hun => by
        by_cases hjk : j = k
        · subst hjk; exact hjun
        · rw [getD_set_ne true hjk] at hun; exact hun
      refine jOp_mono (fun s h3 => ih (listed.setIfInBounds j true) s (hc.add hj) (fun k hki hun => hU k hki (sub k hki hun)) (fun k ok hk hki hun => hfree k ok hk hki (sub k hki hun)) (ready_mono hr (Ne.symm hji)) h3.1 ?_) h2
      rw [Array.setIfInBounds_comm _ _ hji]
      exact h3.2
theorem anyJ_firstE {Q : St → Prop} {i : Nat} {oi : Oper} (hi : ops[i]? = some oi) (hei : isE E i oi = true) {σ0 : Store} (hJ0 : J σ0) {B : Nat → Prop} : ∀ (f : Nat) (listed : Array Bool) (st : St),
    Cl ops listed → (∀ m, B m → listed.getD m false = true) → (∀ (listed' : Array Bool) j, Cl ops listed' → (∀ m, B m → listed'.getD m false = true) → listed'.getD i false = false → j ∈ Region.ready .any ops listed' → j ≠ i → ∀ oj, ops[j]? = some oj → isE E j oj = false ∧ inD D j = true ∧ isCallV oj = false ∧ oi.apart ops oj = true) →
    i ∈ Region.ready .any ops listed → wantd ops st.env oi = some true →
    effQ C st oi (fun p σ' nx' => (lastE ops D i = true ∨ J σ') ∧ anyJ C N J D E ops Q f (listed.setIfInBounds i true) (St.put ⟨st.env, σ', nx'⟩ oi.dst p)) → anyJ C N J D E ops Q (f + 1) listed st := by
  intro f
  have done : ∀ (st : St) (K : St → Prop), wantd ops st.env oi = some true → effQ C st oi (fun p σ' nx' => (lastE ops D i = true ∨ J σ') ∧ K (St.put ⟨st.env, σ', nx'⟩ oi.dst p)) → jOp C N J D E ops i K st := fun st K hw hK => by
    unfold jOp
    simp only [hi, hw, hei, if_true]
    exact hK
  induction f with
  | zero =>
    intro listed st _ _ _ hr hw H
    refine ⟨fun h => (by rw [h] at hr; cases hr), fun j hj => ?_⟩
    by_cases hji : j = i
    · subst hji; exact done st _ hw H
    · obtain ⟨_, _, _, _, H⟩ := effQ_sat H
      have := ready_mono hj hji
      rw [H.1] at this
      cases this
  | succ f ih =>
    intro listed st hcl hB hall' hr hw H
    refine ⟨fun h => (by rw [h] at hr; cases hr), fun j hj => ?_⟩
    by_cases hji : j = i
    · subst hji; exact done st _ hw H
    · obtain ⟨hjun, oj, hoj, _⟩ := mem_ready.1 hj
      have hif := unlisted_false (mem_ready.1 hr).1
      obtain ⟨e1, e2, ec, e3⟩ := hall' listed j hcl hB hif hj hji oj hoj
      obtain ⟨a1, a2, a3⟩ := Oper.apart_spec e3
      have H2 : effQ C st oi (fun p σ' nx' => (lastE ops D i = true ∨ J σ') ∧ jOp C N J D E ops j (anyJ C N J D E ops Q f ((listed.setIfInBounds i true).setIfInBounds j true)) (St.put ⟨st.env, σ', nx'⟩ oi.dst p)) :=
        effQ_mono H fun p σ' nx' h => ⟨h.1, h.2.2 j (ready_mono hj hji)⟩
      have keep : ∀ q, effQ C st oi (fun p σ' nx' => (lastE ops D i = true ∨ J σ') ∧ anyJ C N J D E ops Q f ((listed.setIfInBounds i true).setIfInBounds j true) ((St.put ⟨st.env, σ', nx'⟩ oi.dst p).put oj.dst q)) → anyJ C N J D E ops Q (f + 1) (listed.setIfInBounds j true) (st.put oj.dst q) := fun q hK => by
        refine ih (listed.setIfInBounds j true) (st.put oj.dst q) (hcl.add hj) (fun m hm => getD_set_true (hB m hm)) hall' (ready_mono hr (Ne.symm hji)) (by rw [wantd_put a3]; exact hw) (effQ_put' a3 (effQ_mono hK ?_))
        rintro p σ' nx' ⟨h1, h2⟩
        refine ⟨h1, ?_⟩
        rw [Array.setIfInBounds_comm _ _ hji, mk_put, ← put_comm (fun t ht => a2 t ht)]
        exact h2
      have hwj : ∀ p σ' nx', wantd ops (St.put ⟨st.env, σ', nx'⟩ oi.dst p).env oj = wantd ops st.env oj := fun p σ' nx' => wantd_put (st := ⟨st.env, σ', nx'⟩) a1
      have hev : ∀ p σ' nx' σ, evqB C σ (St.put ⟨st.env, σ', nx'⟩ oi.dst p).env oj.op = evqB C σ st.env oj.op := fun p σ' nx' σ => evqB_put (st := ⟨st.env, σ', nx'⟩) a1
      unfold jOp at H2 ⊢
      simp only [hoj, e1, e2, RobQ, ec, Bool.false_eq_true, if_false, if_true, hwj, hev] at H2 ⊢
      cases hwv : wantd ops st.env oj with
      | none =>
        obtain ⟨_, _, _, h⟩ := effQ_sat H2
        rw [hwv] at h; exact h.2.elim
      | some b =>
        cases b with
        | false =>
          simp only [hwv, pB] at H2 ⊢
          exact keep _ H2
        | true =>
          simp only [hwv, pB] at H2 ⊢
          obtain ⟨_, _, _, _, q, hq, _⟩ := effQ_sat H2
          refine ⟨q, hq, keep q (effQ_mono H2 ?_)⟩
          rintro p σ' nx' ⟨h1, q', hq', h2⟩
          have : q' = q := by
            have h3 := hq σ0 hJ0; rw [hq' σ0 hJ0] at h3; exact Option.some.inj h3
          subst this
          exact ⟨h1, h2⟩
def laterJ (ops : Array Oper) (D E : List Nat) (k : Nat) (o : Oper) : Nat → List Oper → Bool
  | _, [] => true
  | j, oj :: r => ((oj.after.any fun e => Region.binds .any e && e.on == k) || apartM o oj (lookM ops o) (lookM ops oj)) && (!isE E j oj || inD D k || reachF ops ops.size j k) && laterJ ops D E k o (j + 1) r
def laterE (ops : Array Oper) (D E : List Nat) (k : Nat) (o : Oper) : Nat → List Oper → Bool
  | _, [] => true
  | j, oj :: r => (reachF ops ops.size j k || (!isE E j oj && inD D j && !isCallV oj && apartM o oj (lookM ops o) (lookM ops oj))) && laterE ops D E k o (j + 1) r
def lexJ (ops : Array Oper) (D E : List Nat) : Nat → List Oper → Bool
  | _, [] => true
  | k, o :: r => (o.after.all fun e => !Region.binds .any e || e.on < k) && (!inD E k || isCallV o) && (if isE E k o then laterE ops D E k o (k + 1) r else laterJ ops D E k o (k + 1) r) && lexJ ops D E (k + 1) r
def okJ (ops : Array Oper) (D E : List Nat) : Bool := lexJ ops D E 0 ops.toList
theorem laterJ_spec {k : Nat} {o : Oper} : ∀ (l : List Oper) (j : Nat), laterJ ops D E k o j l = true → ∀ (i : Nat) (oj : Oper), l[i]? = some oj →
    ((∃ e ∈ oj.after, Region.binds .any e = true ∧ e.on = k) ∨ o.apart ops oj = true) ∧ (isE E (j + i) oj = true → reachF ops ops.size (j + i) k = true ∨ inD D k = true)
  | [], j, _, i, oj, h => by simp at h
  | x :: r, j, h, i, oj, hi => by
    simp only [laterJ, Bool.and_eq_true, Bool.or_eq_true, Bool.not_eq_true'] at h
    obtain ⟨⟨h1, h2⟩, h3⟩ := h
    cases i with
    | zero =>
      simp only [List.getElem?_cons_zero, Option.some.injEq] at hi
      subst hi
      refine ⟨h1.imp (fun h => ?_) apartM_spec, fun he => ?_⟩
      · obtain ⟨e, he, hb⟩ := Array.any_eq_true'.1 h
        simp only [Bool.and_eq_true, beq_iff_eq] at hb
        exact ⟨e, he, hb⟩
      · rw [Nat.add_zero] at he
        rcases h2 with (h2 | h2) | h2
        · rw [he] at h2; cases h2
        · exact .inr h2
        · exact .inl h2
    | succ i =>
      have := laterJ_spec r (j + 1) h3 i oj (by simpa using hi)
      rw [show j + (i + 1) = j + 1 + i from by omega]
      exact this
theorem laterE_spec {k : Nat} {o : Oper} : ∀ (l : List Oper) (j : Nat), laterE ops D E k o j l = true → ∀ (i : Nat) (oj : Oper), l[i]? = some oj →
    reachF ops ops.size (j + i) k = true ∨ (isE E (j + i) oj = false ∧ inD D (j + i) = true ∧ isCallV oj = false ∧ o.apart ops oj = true)
  | [], j, _, i, oj, h => by simp at h
  | x :: r, j, h, i, oj, hi => by
    simp only [laterE, Bool.and_eq_true, Bool.or_eq_true, Bool.not_eq_true'] at h
    obtain ⟨h1, h3⟩ := h
    cases i with
    | zero =>
      simp only [List.getElem?_cons_zero, Option.some.injEq] at hi
      subst hi
      exact h1.imp (fun h => h) fun h => ⟨h.1.1.1, h.1.1.2, h.1.2, apartM_spec h.2⟩
    | succ i =>
      have := laterE_spec r (j + 1) h3 i oj (by simpa using hi)
      rw [show j + (i + 1) = j + 1 + i from by omega]
      exact this
def onJ (J : Store → Prop) (f : Store → Option PV) (σ : Store) (k : PV → Prop) : Prop := onQ (f σ) fun p => (∀ σ, J σ → f σ = some p) ∧ k p
def CallJ (C : Ctx) (N : Nat) (J : Store → Prop) (ops : Array Oper) (o : Oper) (st : St) (K : St → Prop) [Hid ops] [Hid o] [Hid st] [Hid K] : Prop := ∃ p, (∀ σ nx, J σ → OpY C N ops o ⟨st.env, σ, nx⟩ p) ∧ K (st.put o.dst p)
def EffQ (C : Ctx) (o : Oper) (st : St) (Q : PV → Store → Nat → Prop) [Hid o] [Hid st] [Hid Q] : Prop := effQ C st o Q
def jcOp (C : Ctx) (N : Nat) (J : Store → Prop) (D E : List Nat) (ops : Array Oper) (k : Nat) (o : Oper) (st : St) (K : St → Prop) : Prop :=
  match opKind o.op with
  | .q => if inD D k = true then onJ J (fun σ => evq C σ st.env o.op) st.σ (fun p => K (st.put o.dst p)) else onQ (evq C st.σ st.env o.op) fun p => K (st.put o.dst p)
  | .e => if (bldB o && inD E (1000 + k)) = true then (if inD D k = true then onJ J (fun σ => evqB C σ st.env o.op) st.σ (fun p => K (st.put o.dst p)) else onQ (evqB C st.σ st.env o.op) fun p => K (st.put o.dst p))
    else onE (eve C st o.op) fun p σ nx => (lastE ops D k = true ∨ J σ) ∧ K (St.put ⟨st.env, σ, nx⟩ o.dst p)
  | .c => if inD E k = true then EffQ C o st (fun p σ nx => (lastE ops D k = true ∨ J σ) ∧ K (St.put ⟨st.env, σ, nx⟩ o.dst p)) else if inD D k = true then CallJ C N J ops o st K else CallY0 C N ops o st K
def vcJ (C : Ctx) (N : Nat) (J : Store → Prop) (D E : List Nat) (ops : Array Oper) : Nat → List Oper → St → (St → Prop) → Prop
  | _, [], st, K => K st
  | k, o :: r, st, K => onB (wantd ops st.env o) (jcOp C N J D E ops k o st fun s => vcJ C N J D E ops (k + 1) r s K) (vcJ C N J D E ops (k + 1) r (st.put o.dst (.tup [])) K)
theorem anyJ_lex {Q : St → Prop} (hd : ∀ (i : Nat) o, ops[i]? = some o → ∀ t, o.dst = some t → t < N) {σ0 : Store} (hJ0 : J σ0) : ∀ (l : List Oper) (k : Nat) (listed : Array Bool) (st : St), (∀ j, l[j]? = ops[k + j]?) → Upto ops k listed → Cl ops listed →
    lexJ ops D E k l = true → vcJ C N J D E ops k l st Q → anyJ C N J D E ops Q l.length listed st
  | [], k, listed, st, hl, hu, _, hB, h => by
    refine ⟨?_, h⟩
    cases hr : Region.ready .any ops listed with
    | nil => rfl
    | cons j r =>
      have hj : j ∈ Region.ready .any ops listed := by rw [hr]; simp
      obtain ⟨h1, h2⟩ := hu.behind (mem_ready.1 hj).1
      have := hl (j - k)
      rw [show k + (j - k) = j from by omega, Array.getElem?_eq_getElem h2] at this
      simp at this
  | o :: l, k, listed, st, hl, hu, hc, hB, h => by
    have h0 : ops[k]? = some o := by simpa using (hl 0).symm
    have hk0 : k < ops.size := (Array.getElem?_eq_some_iff.1 h0).1
    have hl' : ∀ j, l[j]? = ops[k + 1 + j]? := fun j => by have := hl (j + 1); simpa [Nat.add_assoc, Nat.add_comm 1 j] using this
    simp only [lexJ, Bool.and_eq_true] at hB
    obtain ⟨⟨⟨hB0, hBE⟩, hB1⟩, hB'⟩ := hB
    have hk : k ∈ Region.ready .any ops listed := by
      refine mem_ready.2 ⟨?_, o, h0, fun e he hb => ?_⟩
      · rw [Array.getD_eq_getD_getElem?, hu.2 k hk0]; simp
      · have := Array.all_eq_true_iff_forall_mem.1 hB0 e he
        simp only [hb, Bool.not_true, Bool.false_or, decide_eq_true_eq] at this
        exact hu.before this (Nat.le_of_lt hk0)
    unfold vcJ at h
    have behind : ∀ j oj, ops[j]? = some oj → j ≠ k → listed.getD j true = false → k < j ∧ l[j - (k + 1)]? = some oj ∧ k + 1 + (j - (k + 1)) = j := fun j oj hj hjk hun => by
      obtain ⟨h1, h2⟩ := hu.behind hun
      exact ⟨by omega, by rw [hl', show k + 1 + (j - (k + 1)) = j from by omega]; exact hj, by omega⟩
    have rest : ∀ p, vcJ C N J D E ops (k + 1) l (st.put o.dst p) Q → anyJ C N J D E ops Q l.length (listed.setIfInBounds k true) (st.put o.dst p) := fun p hK => anyJ_lex hd hJ0 l (k + 1) _ _ hl' (hu.next hk0) (hc.add hk) hB' hK
    have asRead : isE E k o = false → ∀ p, JY C N J (inD D k) ops o p st → vcJ C N J D E ops (k + 1) l (st.put o.dst p) Q → anyJ C N J D E ops Q (l.length + 1) listed st := fun he p hy hK => by
      simp only [he, Bool.false_eq_true, if_false] at hB1
      refine anyJ_first (Y := JY C N J (inD D k) ops o p) (U := fun j => k < j) h0 (fun s K hY hK => hY.jOp h0 he hK) (fun j oj s K hkj hj hnr hap hY hK => ?_) l.length listed st hc (fun j hjk hun => by have := hu.behind hun; omega) (fun j oj hj hjk hun hnr => ?_) hk hy (rest p hK)
      · obtain ⟨_, _, a3⟩ := Oper.apart_spec hap
        refine jOp_putY hj hap (fun s q hY => hY.put a3) (fun hej s σ nx q hY => ?_) hY hK
        have h2 := laterJ_spec l (k + 1) hB1 (j - (k + 1)) oj (by rw [hl', show k + 1 + (j - (k + 1)) = j from by omega]; exact hj)
        rw [show k + 1 + (j - (k + 1)) = j from by omega] at h2
        rcases h2.2 hej with h3 | h3
        · rw [hnr] at h3; cases h3
        · rw [h3] at hY ⊢; exact hY.eff a3
      · obtain ⟨h1, h2, h3⟩ := behind j oj hj hjk hun
        have := laterJ_spec l (k + 1) hB1 (j - (k + 1)) oj h2
        rw [h3] at this
        rcases this.1 with h4 | h4
        · rw [reach_direct hj h4] at hnr; cases hnr
        · exact h4
    cases he : isE E k o with
    | true =>
      simp only [he, if_true] at hB1
      have hall : ∀ (listed' : Array Bool) j, Cl ops listed' → (∀ m, m < k → listed'.getD m false = true) → listed'.getD k false = false → j ∈ Region.ready .any ops listed' → j ≠ k → ∀ oj, ops[j]? = some oj → isE E j oj = false ∧ inD D j = true ∧ isCallV oj = false ∧ o.apart ops oj = true := fun listed' j hcl hbef hun hj hjk oj hoj => by
        have hkj : k < j := by
          rcases Nat.lt_or_ge k j with h | h
          · exact h
          · have h1 := unlisted_false (mem_ready.1 hj).1
            rw [hbef j (by omega)] at h1; cases h1
        have := laterE_spec l (k + 1) hB1 (j - (k + 1)) oj (by rw [hl', show k + 1 + (j - (k + 1)) = j from by omega]; exact hoj)
        rw [show k + 1 + (j - (k + 1)) = j from by omega] at this
        rcases this with h3 | h3
        · exfalso
          obtain ⟨_, oi, hoi, hall⟩ := mem_ready.1 hj
          have := reachF_listed hcl _ _ _ h3 fun o' ho' e he' hb => by rw [hoi] at ho'; cases ho'; exact hall e he' hb
          rw [hun] at this; cases this
        · exact h3
      cases hw : wantd ops st.env o with
      | none => rw [hw] at h; exact h.elim
      | some b =>
        rw [hw] at h
        cases b with
        | false =>
          refine anyJ_first (Y := fun s => wantd ops s.env o = some false) (U := fun j => k < j) h0 (fun s K hY hK => ?_) (fun j oj s K hkj hj hnr hap hY hK => ?_) l.length listed st hc (fun j hjk hun => by have := hu.behind hun; omega) (fun j oj hj hjk hun hnr => ?_) hk hw (rest (.tup []) h)
          · unfold jOp
            simp only [h0, hY]
            exact hK
          · obtain ⟨_, _, a3⟩ := Oper.apart_spec hap
            exact jOp_putY hj hap (fun s q hY => by rw [wantd_put a3]; exact hY) (fun hej s σ nx q hY => by rw [wantd_put (st := ⟨s.env, σ, nx⟩) a3]; exact hY) hY hK
          · obtain ⟨h1, h2, h3⟩ := behind j oj hj hjk hun
            have := laterE_spec l (k + 1) hB1 (j - (k + 1)) oj h2
            rw [h3] at this
            rcases this with h4 | h4
            · rw [hnr] at h4; cases h4
            · exact h4.2.2.2
        | true =>
          simp only [onB] at h
          have fin : effQ C st o (fun p σ' nx' => (lastE ops D k = true ∨ J σ') ∧ vcJ C N J D E ops (k + 1) l (St.put ⟨st.env, σ', nx'⟩ o.dst p) Q) → anyJ C N J D E ops Q (l.length + 1) listed st := fun h =>
            anyJ_firstE (B := fun m => m < k) h0 he hJ0 l.length listed st hc (fun m hm => hu.before hm (Nat.le_of_lt hk0)) hall hk hw
              (effQ_mono h fun p σ' nx' h => ⟨h.1, anyJ_lex hd hJ0 l (k + 1) _ _ hl' (hu.next hk0) (hc.add hk) hB' h.2⟩)
          refine fin ?_
          unfold jcOp at h
          cases hkd : opKind o.op with
          | e =>
            rw [hkd] at h
            simp only at h
            have hnb : ¬ (bldB o && inD E (1000 + k)) = true := fun hb => by
              unfold isE at he
              unfold isCallV at hBE
              rw [hkd] at hBE
              rw [hb] at he
              simp only [Bool.not_true, Bool.and_false, Bool.false_or] at he
              rw [he] at hBE; simp at hBE
            rw [if_neg hnb] at h
            cases hev : eve C st o.op with
            | none => rw [hev] at h; exact h.elim
            | some x =>
              obtain ⟨p, σ', nx'⟩ := x
              rw [hev] at h
              simp only [onE] at h
              exact (effQ_iff _ _ _ _).2 (.inr ⟨fun fo as ts h2 => (by rw [h2] at hkd; cases hkd), p, σ', nx', hev, h⟩)
          | c =>
            rw [hkd] at h
            simp only at h
            have hE : inD E k = true := by
              unfold isE isEff at he; rw [hkd] at he; simpa using he
            rw [if_pos hE] at h; exact h
          | q =>
            exfalso
            unfold isE isEff at he
            unfold isCallV at hBE
            rw [hkd] at he hBE
            simp only [Bool.false_and, Bool.false_or] at he
            rw [he] at hBE; simp at hBE
    | false =>
      cases hw : wantd ops st.env o with
      | none => rw [hw] at h; exact h.elim
      | some b =>
        rw [hw] at h
        cases b with
        | false => exact asRead he (.tup []) (.inr ⟨hw, rfl⟩) h
        | true =>
          simp only [onB] at h
          unfold jcOp at h
          split at h
          · rename_i hkd
            by_cases hr : inD D k = true
            · rw [if_pos hr] at h
              unfold onJ at h
              cases hev : evq C st.σ st.env o.op with
              | none => simp only [hev] at h; exact h.elim
              | some p =>
                simp only [hev, onQ] at h
                exact asRead he p (.inl ⟨hw, by rw [if_pos hr]; unfold RobQ isCallV; rw [hkd]; exact fun σ hJ => (evqB_q hkd).trans (h.1 σ hJ)⟩) h.2
            · rw [if_neg hr] at h
              cases hev : evq C st.σ st.env o.op with
              | none => rw [hev] at h; exact h.elim
              | some p => rw [hev] at h; exact asRead he p (.inl ⟨hw, by rw [if_neg hr]; exact opY_of_q hev⟩) h
          · rename_i hkd
            have hnb : (bldB o && inD E (1000 + k)) = true := by
              unfold isE isEff at he; rw [hkd] at he
              cases hb : (bldB o && inD E (1000 + k)) with
              | true => rfl
              | false => rw [hb] at he; simp at he
            rw [if_pos hnb] at h
            by_cases hr : inD D k = true
            · rw [if_pos hr] at h
              unfold onJ at h
              cases hev : evqB C st.σ st.env o.op with
              | none => simp only [hev] at h; exact h.elim
              | some p =>
                simp only [hev, onQ] at h
                exact asRead he p (.inl ⟨hw, by rw [if_pos hr]; unfold RobQ isCallV; rw [hkd]; exact fun σ hJ => h.1 σ hJ⟩) h.2
            · rw [if_neg hr] at h
              cases hev : evqB C st.σ st.env o.op with
              | none => rw [hev] at h; exact h.elim
              | some p => rw [hev] at h; exact asRead he p (.inl ⟨hw, by rw [if_neg hr]; exact opY_of_qB hev⟩) h
          · rename_i hkd
            have hE : ¬ inD E k = true := by
              unfold isE isEff at he; rw [hkd] at he; simpa using he
            rw [if_neg hE] at h
            by_cases hr : inD D k = true
            · rw [if_pos hr] at h
              obtain ⟨p, h1, h2⟩ := h
              exact asRead he p (.inl ⟨hw, by rw [if_pos hr]; unfold RobQ isCallV; rw [hkd]; exact h1⟩) h2
            · rw [if_neg hr] at h
              obtain ⟨p, h1, h2⟩ := h
              exact asRead he p (.inl ⟨hw, by rw [if_neg hr]; exact h1⟩) h2
theorem anyJ_of_vc {Q : St → Prop} (hd : ∀ (i : Nat) o, ops[i]? = some o → ∀ t, o.dst = some t → t < N) {σ0 : Store} (hJ0 : J σ0) (hok : okJ ops D E = true) (h : vcJ C N J D E ops 0 ops.toList st Q) :
    anyJ C N J D E ops Q ops.size (Array.replicate ops.size false) st := by
  have := anyJ_lex (C := C) (J := J) (D := D) (E := E) (Q := Q) hd hJ0 ops.toList 0 (Array.replicate ops.size false) st (by simp) ⟨by simp, fun j hj => by simp [hj]⟩ (fun j hj => by
    simp only [Array.getD_eq_getD_getElem?, Array.getElem?_replicate] at hj
    split at hj <;> simp at hj) hok h
  simpa using this
end
end Go.Ab
