import Derived.Test.YtlfllbelabkaeaaDoorDG
set_option linter.unusedSimpArgs false
set_option linter.unusedVariables false
set_option maxRecDepth 100000
namespace Go.Ab
open Go Go.Proofs W16

/-! ### wants -/
def wf (l : List Nd) (c : Nat) : List (BitVec 16) := (l.filter fun n => decide (n.1 = (c : Int))).flatMap fun n => n.2.map ofL
def encS (ws : List (BitVec 16)) : PV := .imm (ws.map fun x => [wd x]) false
def encW (ws : List (BitVec 16)) : PV := if ws = [] then .lit (.slice none 0 0) else encS ws
def wantsL (l : List Nd) : List PV := (List.range 10).map fun c => encW (wf l c)

theorem weak_ofS {st : St} {le : List (Nat × PV)} {σ : Store} {nx : Nat} (h : allE st.env le) (hσ : st.σ = σ) (hn : st.nx = nx) : Weak st ⟨mkE le, σ, nx⟩ :=
  ⟨allE_spec le h, fun i B hB => by rw [hσ]; exact hB, by rw [hn]; exact Nat.le_refl _⟩

structure Gd (σ : Store) (nx : Nat) (f : Nat → List (BitVec 16)) (q : Nat) (cs : List PV) (ids : Nat → Nat) : Prop where
  len : cs.length = 10
  top : σ 0 = some (.row 0 10 [cs] false)
  pos : 0 < nx
  nil : ∀ c, c < 10 → f c = [] → cs[c]? = some (.lit (.slice none 0 0))
  cell : ∀ c, c < 10 → f c ≠ [] → ∃ v, cs[c]? = some (.own (ids c) v 0 (f c).length false) ∧ σ (ids c) = some (.row v 1 ((f c).map fun x => [wd x]) false)
  idr : ∀ c, c < 10 → f c ≠ [] → 0 < ids c ∧ ids c < nx ∧ ids c ≠ q
  dist : ∀ c c', c < 10 → c' < 10 → f c ≠ [] → f c' ≠ [] → ids c = ids c' → c = c'

theorem Gd.keep {σ σ' : Store} {nx nx' : Nat} {f : Nat → List (BitVec 16)} {q q' : Nat} {cs : List PV} {ids : Nat → Nat} (h : Gd σ nx f q cs ids) (hn : nx ≤ nx') (hq : nx ≤ q' ∨ q' = q) (hσ : ∀ i, i < nx → i ≠ q' → σ' i = σ i) (hq0 : q' ≠ 0) : Gd σ' nx' f q' cs ids where
  len := h.len
  top := by rw [hσ 0 h.pos (fun e => hq0 e.symm)]; exact h.top
  pos := by have := h.pos; omega
  nil := h.nil
  cell := fun c hc hf => by
    obtain ⟨v, h1, h2⟩ := h.cell c hc hf
    have h3 := h.idr c hc hf
    refine ⟨v, h1, ?_⟩
    rw [hσ _ h3.2.1 (by rcases hq with hq | hq <;> omega)]; exact h2
  idr := fun c hc hf => by have h3 := h.idr c hc hf; exact ⟨h3.1, by omega, by rcases hq with hq | hq <;> omega⟩
  dist := h.dist

theorem Gd.upd {σ σ' : Store} {nx nx' : Nat} {f f' : Nat → List (BitVec 16)} {q : Nat} {cs : List PV} {ids : Nat → Nat} (h : Gd σ nx f q cs ids) {c id v : Nat} {ws : List (BitVec 16)} (hc : c < 10)
    (hf : f' c = ws) (hf' : ∀ d, d ≠ c → f' d = f d) (hw : ws ≠ [])
    (h0 : σ' 0 = some (.row 0 10 [cs.set c (.own id v 0 ws.length false)] false)) (hid : σ' id = some (.row v 1 (ws.map fun x => [wd x]) false)) (hn : nx ≤ nx')
    (hσ : ∀ i, 0 < i → i < nx → i ≠ id → σ' i = σ i) (h1 : 0 < id) (h2 : id < nx') (h3 : id ≠ q) (h4 : ∀ d, d < 10 → d ≠ c → f d ≠ [] → ids d ≠ id) :
    Gd σ' nx' f' q (cs.set c (.own id v 0 ws.length false)) (fun d => if d = c then id else ids d) where
  len := by rw [List.length_set]; exact h.len
  top := h0
  pos := by have := h.pos; omega
  nil := fun d hd hfd => by
    have : d ≠ c := fun e => by subst e; rw [hf] at hfd; exact hw hfd
    rw [List.getElem?_set_ne (fun e => this e.symm)]
    exact h.nil d hd (by rw [← hf' d this]; exact hfd)
  cell := fun d hd hfd => by
    by_cases e : d = c
    · subst e
      simp only [if_pos]
      refine ⟨v, ?_, by rw [hf]; exact hid⟩
      rw [hf, List.getElem?_set_self (by rw [h.len]; exact hd)]
    · have hfd' : f d ≠ [] := by rw [← hf' d e]; exact hfd
      obtain ⟨v', g1, g2⟩ := h.cell d hd hfd'
      have g3 := h.idr d hd hfd'
      simp only [if_neg e]
      refine ⟨v', ?_, ?_⟩
      · rw [List.getElem?_set_ne (fun e' => e e'.symm), hf' d e]; exact g1
      · rw [hσ _ g3.1 g3.2.1 (h4 d hd e hfd'), hf' d e]; exact g2
  idr := fun d hd hfd => by
    by_cases e : d = c
    · simp only [if_pos e]; exact ⟨h1, h2, h3⟩
    · have g3 := h.idr d hd (by rw [← hf' d e]; exact hfd)
      simp only [if_neg e]; exact ⟨g3.1, by omega, g3.2.2⟩
  dist := fun d d' hd hd' hfd hfd' he => by
    by_cases e : d = c
    · by_cases e' : d' = c
      · rw [e, e']
      · simp only [if_pos e, if_neg e'] at he
        exact absurd he.symm (h4 d' hd' e' (by rw [← hf' d' e']; exact hfd'))
    · by_cases e' : d' = c
      · simp only [if_neg e, if_pos e'] at he
        exact absurd he (h4 d hd e (by rw [← hf' d e]; exact hfd))
      · simp only [if_neg e, if_neg e'] at he
        exact h.dist d d' hd hd' (by rw [← hf' d e]; exact hfd) (by rw [← hf' d' e']; exact hfd') he

theorem flW {l : List (BitVec 16)} : ((l.map fun x => [wd x]).all fun e => e.all flat) = true := by
  rw [List.all_map, List.all_eq_true]; intro x hx; rfl
theorem dr1s_get {σ : Store} : ∀ (ps qs : List PV), ps.length = qs.length → (∀ (i : Nat) (p q : PV), ps[i]? = some p → qs[i]? = some q → dr1 σ p = some q) → dr1s σ ps = some qs
  | [], [], _, _ => rfl
  | [], _ :: _, h, _ => by simp at h
  | _ :: _, [], h, _ => by simp at h
  | p :: ps, q :: qs, h, hp => by
    have h1 := hp 0 p q rfl rfl
    have h2 := dr1s_get ps qs (by simpa using h) fun i p' q' h3 h4 => hp (i + 1) p' q' (by simpa using h3) (by simpa using h4)
    simp only [dr1s, h1, h2]
theorem Gd.dr {σ : Store} {nx : Nat} {f : Nat → List (BitVec 16)} {q : Nat} {cs : List PV} {ids : Nat → Nat} (h : Gd σ nx f q cs ids) : dr1s σ cs = some ((List.range 10).map fun c => encW (f c)) := by
  apply dr1s_get
  · rw [h.len]; rfl
  intro i p r hp hr
  rw [List.getElem?_map, Option.map_eq_some_iff] at hr
  obtain ⟨j, h1, rfl⟩ := hr
  obtain ⟨h2, h3⟩ := List.getElem?_eq_some_iff.1 h1
  simp at h2 h3
  subst h3
  by_cases e : f i = []
  · have := h.nil i h2 e
    rw [hp] at this; cases this
    rw [encW, if_pos e]; rfl
  · obtain ⟨v, g1, g2⟩ := h.cell i h2 e
    rw [hp] at g1; cases g1
    rw [encW, if_neg e]
    simp only [dr1, g2, true_and, Nat.zero_add, List.length_map, Nat.le_refl, flW, and_self, if_true, List.drop_zero]
    rw [List.take_of_length_le (by simp)]; rfl
theorem Gd.flat {σ : Store} {nx : Nat} {f : Nat → List (BitVec 16)} {q : Nat} {cs : List PV} {ids : Nat → Nat} (h : Gd σ nx f q cs ids) (hf : cs.all Go.Ab.flat = true) : cs = (List.range 10).map fun c => encW (f c) := by
  apply List.ext_getElem?
  intro i
  by_cases hi : i < 10
  · rw [List.getElem?_map, List.getElem?_range hi, Option.map_some]
    by_cases e : f i = []
    · rw [h.nil i hi e, encW, if_pos e]
    · obtain ⟨v, g1, g2⟩ := h.cell i hi e
      have := List.all_eq_true.1 hf _ (List.mem_of_getElem? g1)
      cases this
  · rw [List.getElem?_eq_none (by rw [h.len]; omega), List.getElem?_eq_none (by simp; omega)]
end Go.Ab
