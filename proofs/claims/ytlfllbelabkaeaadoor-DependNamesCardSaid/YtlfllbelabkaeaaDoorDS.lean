import Derived.Test.YtlfllbelabkaeaaDoorDR
set_option linter.unusedSimpArgs false
set_option linter.unusedVariables false
set_option maxRecDepth 100000
namespace Go.Ab
open Go Go.Proofs W16

/-! ### the best one of a list -/
noncomputable def upd (G : BitVec 16) (b : Option (BitVec 16)) (s : BitVec 16) : Option (BitVec 16) :=
  if s &&& G = G then (match b with
    | none => some s
    | some b => if cmpL (bitsL s) (bitsL b) < 0 then some s else some b) else b
noncomputable def bst (G : BitVec 16) (L : List (BitVec 16)) : Option (BitVec 16) := L.foldl (upd G) none
theorem bst_snoc {G : BitVec 16} {L : List (BitVec 16)} {s : BitVec 16} : bst G (L ++ [s]) = upd G (bst G L) s := by simp [bst, List.foldl_append]
theorem cmp_iff {a b : List Int} : cmpL a b < 0 ↔ lexlt a b = true := by rw [← cmpL_lt, decide_eq_true_iff]
theorem bst_spec {G : BitVec 16} (L : List (BitVec 16)) :
    match bst G L with
    | none => ∀ s ∈ L, ¬ s &&& G = G
    | some b => b ∈ L ∧ b &&& G = G ∧ ∀ s ∈ L, s &&& G = G → ¬ lexlt (bitsL s) (bitsL b) = true := by
  generalize hn : L.length = n
  induction n generalizing L with
  | zero =>
    have := List.eq_nil_of_length_eq_zero hn
    subst this
    intro s hs; cases hs
  | succ n ih =>
    obtain ⟨L', x, rfl⟩ : ∃ L' x, L = L' ++ [x] := by
      rcases List.eq_nil_or_concat L with h | h
      · subst h; simp at hn
      · obtain ⟨a, b, h⟩ := h; exact ⟨a, b, by rw [h, List.concat_eq_append]⟩
    have := ih L' (by simp at hn; omega)
    rw [bst_snoc]
    unfold upd
    by_cases hx : x &&& G = G
    · rw [if_pos hx]
      cases hb : bst G L' with
      | none =>
        rw [hb] at this
        refine ⟨by simp, hx, fun s hs hsg => ?_⟩
        rcases List.mem_append.1 hs with h | h
        · exact absurd hsg (this s h)
        · simp at h; subst h; rw [lex_irrefl]; simp
      | some b =>
        rw [hb] at this
        obtain ⟨h1, h2, h3⟩ := this
        simp only
        by_cases hc : cmpL (bitsL x) (bitsL b) < 0
        · rw [if_pos hc]
          refine ⟨by simp, hx, fun s hs hsg hl => ?_⟩
          rcases List.mem_append.1 hs with h | h
          · exact h3 s h hsg (lex_trans _ _ _ hl (cmp_iff.1 hc))
          · simp at h; subst h; rw [lex_irrefl] at hl; cases hl
        · rw [if_neg hc]
          refine ⟨by simp [h1], h2, fun s hs hsg hl => ?_⟩
          rcases List.mem_append.1 hs with h | h
          · exact h3 s h hsg hl
          · simp at h; subst h; exact hc (cmp_iff.2 hl)
    · rw [if_neg hx]
      cases hb : bst G L' with
      | none =>
        rw [hb] at this
        intro s hs
        rcases List.mem_append.1 hs with h | h
        · exact this s h
        · simp at h; subst h; exact hx
      | some b =>
        rw [hb] at this
        obtain ⟨h1, h2, h3⟩ := this
        refine ⟨by simp [h1], h2, fun s hs hsg => ?_⟩
        rcases List.mem_append.1 hs with h | h
        · exact h3 s h hsg
        · simp at h; subst h; exact absurd hsg hx

/-! ### the sets, by their size -/
structure Lv (l : List Nd) (B : BitVec 16) (k : Nat) (now sn : List (BitVec 16)) : Prop where
  mem : ∀ s, s ∈ now ↔ Rch l B s ∧ pc s = k
  sns : ∀ s, s ∈ sn ↔ Rch l B s ∧ pc s ≤ k
  len : now.length ≤ 10 ^ k
theorem rch_pc {l : List Nd} {B s : BitVec 16} (h : Rch l B s) : pc s ≤ 10 := by
  have : pc s ≤ pc 1023#16 := pc_sub fun j hj => by
    have := (rch_sub h j hj).1
    match j, this with
    | 0, _ | 1, _ | 2, _ | 3, _ | 4, _ | 5, _ | 6, _ | 7, _ | 8, _ | 9, _ => decide
  have e : pc 1023#16 = 10 := by decide
  omega
theorem pc_step {s : BitVec 16} {c : Nat} (hc : c < 16) (h : s.getLsbD c = false) : pc (s ||| bit c) = pc s + 1 := by
  have := pc_or (x := s) hc
  rw [h] at this; simpa using this
theorem Lv.zero {l : List Nd} {B : BitVec 16} : Lv l B 0 [0#16] [0#16] where
  mem := fun s => by
    rw [List.mem_singleton]
    constructor
    · rintro rfl; exact ⟨.zero, pc_zero⟩
    · rintro ⟨_, h⟩
      exact (pc_eq (x := 0#16) (y := s) (fun j hj => by simp at hj) (by rw [pc_zero, h])).symm
  sns := fun s => by
    rw [List.mem_singleton]
    constructor
    · rintro rfl; exact ⟨.zero, by rw [pc_zero]; exact Nat.le_refl _⟩
    · rintro ⟨_, h⟩
      exact (pc_eq (x := 0#16) (y := s) (fun j hj => by simp at hj) (by rw [pc_zero]; omega)).symm
  len := by simp
/-- What has been taken of the next size. -/
structure Nx (l : List Nd) (B : BitVec 16) (k : Nat) (now nxt : List (BitVec 16)) (i c : Nat) : Prop where
  own : ∀ t ∈ nxt, Rch l B t ∧ pc t = k + 1
  all : ∀ (j : Nat) s (d : Nat), now[j]? = some s → d < 10 → (j < i ∨ (j = i ∧ d < c)) → (B ||| s).getLsbD d = false → rdy l (B ||| s) d = true → s ||| bit d ∈ nxt
  len : nxt.length ≤ i * 10 + c
theorem Nx.zero {l : List Nd} {B : BitVec 16} {k : Nat} {now : List (BitVec 16)} : Nx l B k now [] 0 0 where
  own := fun t h => by cases h
  all := fun j s d _ _ h => by omega
  len := by simp
theorem Nx.next {l : List Nd} {B : BitVec 16} {k i : Nat} {now nxt : List (BitVec 16)} (h : Nx l B k now nxt i 10) : Nx l B k now nxt (i + 1) 0 where
  own := h.own
  all := fun j s d h1 h2 h3 h4 h5 => h.all j s d h1 h2 (by omega) h4 h5
  len := by have := h.len; omega
theorem Nx.skip {l : List Nd} {B : BitVec 16} {k i c : Nat} {now nxt : List (BitVec 16)} {s : BitVec 16} (h : Nx l B k now nxt i c) (hs : now[i]? = some s)
    (hn : (B ||| s).getLsbD c = false → rdy l (B ||| s) c = true → s ||| bit c ∈ nxt) : Nx l B k now nxt i (c + 1) where
  own := h.own
  all := fun j s' d h1 h2 h3 h4 h5 => by
    by_cases e : j = i ∧ d = c
    · obtain ⟨rfl, rfl⟩ := e
      rw [hs] at h1; cases h1
      exact hn h4 h5
    · exact h.all j s' d h1 h2 (by omega) h4 h5
  len := by have := h.len; omega
theorem Nx.take {l : List Nd} {B : BitVec 16} {k i c : Nat} {now nxt sn : List (BitVec 16)} {s : BitVec 16} (hv : Lv l B k now sn) (h : Nx l B k now nxt i c) (hs : now[i]? = some s) (hc : c < 10)
    (h1 : (B ||| s).getLsbD c = false) (h2 : rdy l (B ||| s) c = true) : Nx l B k now (nxt ++ [s ||| bit c]) i (c + 1) where
  own := fun t ht => by
    rcases List.mem_append.1 ht with ht | ht
    · exact h.own t ht
    · simp at ht; subst ht
      have g := (hv.mem s).1 (List.mem_of_getElem? hs)
      rw [BitVec.getLsbD_or, Bool.or_eq_false_iff] at h1
      exact ⟨.step g.1 hc (by rw [BitVec.getLsbD_or, Bool.or_eq_false_iff]; exact h1) h2, by rw [pc_step (by omega) h1.2, g.2]⟩
  all := fun j s' d g1 g2 g3 h4 h5 => by
    by_cases e : j = i ∧ d = c
    · obtain ⟨rfl, rfl⟩ := e
      rw [hs] at g1; cases g1
      simp
    · exact List.mem_append.2 (.inl (h.all j s' d g1 g2 (by omega) h4 h5))
  len := by have := h.len; simp; omega
theorem Nx.done {l : List Nd} {B : BitVec 16} {k : Nat} {now nxt sn : List (BitVec 16)} (hv : Lv l B k now sn) (h : Nx l B k now nxt now.length 0) : Lv l B (k + 1) nxt (sn ++ nxt) := by
  have key : ∀ s, s ∈ nxt ↔ Rch l B s ∧ pc s = k + 1 := fun s => by
    refine ⟨h.own s, fun ⟨h1, h2⟩ => ?_⟩
    cases h1 with
    | zero => rw [pc_zero] at h2; omega
    | @step s' c g1 g2 g3 g4 =>
      have g5 := g3
      rw [BitVec.getLsbD_or, Bool.or_eq_false_iff] at g5
      rw [pc_step (by omega) g5.2] at h2
      obtain ⟨j, hj⟩ := List.getElem?_of_mem ((hv.mem s').2 ⟨g1, by omega⟩)
      exact h.all j s' c hj g2 (.inl (List.getElem?_eq_some_iff.1 hj).1) g3 g4
  refine ⟨key, fun s => ?_, ?_⟩
  · rw [List.mem_append, hv.sns, key]
    constructor
    · rintro (⟨h1, h2⟩ | ⟨h1, h2⟩) <;> exact ⟨h1, by omega⟩
    · rintro ⟨h1, h2⟩
      by_cases e : pc s = k + 1
      · exact .inr ⟨h1, e⟩
      · exact .inl ⟨h1, by omega⟩
  · have := h.len
    have := hv.len
    rw [Nat.pow_succ]; omega
/-- A set that is seen is one of the next size. -/
theorem Lv.seen {l : List Nd} {B : BitVec 16} {k : Nat} {now nxt sn : List (BitVec 16)} {i c : Nat} {s : BitVec 16} (hv : Lv l B k now sn) (hs : now[i]? = some s) (hc : c < 10) (h1 : (B ||| s).getLsbD c = false)
    (h : s ||| bit c ∈ sn ++ nxt) : s ||| bit c ∈ nxt := by
  rcases List.mem_append.1 h with h | h
  · exfalso
    have g := (hv.mem s).1 (List.mem_of_getElem? hs)
    have g2 := (hv.sns _).1 h
    rw [BitVec.getLsbD_or, Bool.or_eq_false_iff] at h1
    rw [pc_step (by omega) h1.2] at g2
    omega
  · exact h
theorem Lv.lt {l : List Nd} {B : BitVec 16} {k : Nat} {sn : List (BitVec 16)} (hv : Lv l B k [] sn) {s : BitVec 16} (h : Rch l B s) : pc s < k := by
  have h0 : ∀ s, Rch l B s → pc s ≠ k := fun s h1 h2 => by have := (hv.mem s).2 ⟨h1, h2⟩; cases this
  induction h with
  | zero => have := h0 _ .zero; rw [pc_zero] at *; omega
  | @step s c g1 g2 g3 g4 ih =>
    have := h0 _ (Rch.step g1 g2 g3 g4)
    rw [BitVec.getLsbD_or, Bool.or_eq_false_iff] at g3
    rw [pc_step (by omega) g3.2] at *
    omega
theorem Lv.plan {l : List Nd} {B G b : BitVec 16} {k : Nat} {now sn : List (BitVec 16)} (hv : Lv l B k now sn) (hG : ∀ s, Rch l B s → pc s < k → ¬ s &&& G = G) (hb : bst G now = some b) : IsPlan l B G b := by
  have := bst_spec (G := G) now
  rw [hb] at this
  obtain ⟨h1, h2, h3⟩ := this
  have g := (hv.mem b).1 h1
  refine ⟨⟨g.1, h2⟩, fun s hs hl => ?_⟩
  rcases hl with hl | ⟨hl, hx⟩
  · exact hG s hs.1 (by omega) hs.2
  · exact h3 s ((hv.mem s).2 ⟨hs.1, by omega⟩) hs.2 hx
theorem Lv.noG {l : List Nd} {B G : BitVec 16} {k : Nat} {now sn : List (BitVec 16)} (hv : Lv l B k now sn) (hG : ∀ s, Rch l B s → pc s < k → ¬ s &&& G = G) (hb : bst G now = none) : ∀ s, Rch l B s → pc s < k + 1 → ¬ s &&& G = G := fun s h1 h2 => by
  have := bst_spec (G := G) now
  rw [hb] at this
  by_cases e : pc s = k
  · exact this s ((hv.mem s).2 ⟨h1, e⟩)
  · exact hG s h1 (by omega)

/-! ### the map of what was seen -/
def kvF (n : Nat) (L : List (BitVec 16)) : List (Value × PV × Nat) := match L with
  | [] => []
  | x :: L => (.int .u16 (x.toNat : Int), bl true, n) :: kvF (n + 1) L
def kvE (L : List (BitVec 16)) : List (Value × PV × Nat) := kvF 0 L
theorem kvF_snoc {x : BitVec 16} : ∀ (L : List (BitVec 16)) (n : Nat), kvF n (L ++ [x]) = kvF n L ++ [(.int .u16 (x.toNat : Int), bl true, n + L.length)]
  | [], n => rfl
  | y :: L, n => by
    simp only [List.cons_append, kvF, kvF_snoc L (n + 1), List.length_cons]
    rw [show n + 1 + L.length = n + (L.length + 1) from by omega]
theorem kvE_snoc {x : BitVec 16} {L : List (BitVec 16)} : kvE L ++ [(.int .u16 (x.toNat : Int), .lit (.bool true), L.length)] = kvE (L ++ [x]) := by
  unfold kvE; rw [kvF_snoc, Nat.zero_add]; rfl
theorem findP_kv {x : BitVec 16} : ∀ (L : List (BitVec 16)) (n : Nat), findP (.int .u16) (.int .u16 (x.toNat : Int)) (kvF n L) = some (if x ∈ L then some (.lit (.bool true)) else none)
  | [], n => by simp [kvF, findP]
  | y :: L, n => by
    have ih := findP_kv (x := x) L (n + 1)
    have hs : Instr.sameNow (.int .u16) (.int .u16 (x.toNat : Int)) (.int .u16 (y.toNat : Int)) = some (decide ((x.toNat : Int) = (y.toNat : Int))) := rfl
    simp only [kvF, findP, hs, ih]
    by_cases e : x = y
    · subst e; simp [bl]
    · have : ¬ (x.toNat : Int) = (y.toNat : Int) := fun h => e (BitVec.eq_of_toNat_eq (by omega))
      simp [this, e]
theorem findP_kvE {x : BitVec 16} {L : List (BitVec 16)} : findP (.int .u16) (.int .u16 (x.toNat : Int)) (kvE L) = some (if x ∈ L then some (.lit (.bool true)) else none) := findP_kv L 0
end Go.Ab
