/- The reference's error of a ledger. -/
import Derived.Test.YtgcodedanljhpaaDoorLV
set_option linter.unusedSimpArgs false
set_option linter.unusedVariables false
set_option maxRecDepth 100000
set_option maxHeartbeats 8000000
namespace Go.Ab
open Go Go.Proofs
structure LNm (l : Ldg) : Prop where
  brs : ∀ b ∈ l.brs, b.name.size ≤ 2^40
  known : ∀ k ∈ l.known, k.chg.size ≤ 2^40
theorem nodupB_left : ∀ (a b : List Kw), nodupB (a ++ b) = true → nodupB a = true
  | [], _, _ => rfl
  | k :: a, b, h => by
    simp only [List.cons_append, nodupB, Bool.and_eq_true, Bool.not_eq_true', List.any_append, Bool.or_eq_false_iff] at h ⊢
    exact ⟨h.1.1, nodupB_left a b h.2⟩
theorem nodupB_take {l : List Kw} (i : Nat) (h : nodupB l = true) : nodupB (l.take i) = true := nodupB_left _ (l.drop i) (by rw [List.take_append_drop]; exact h)
theorem nodupB_hit {l : List Kw} {k i : Nat} {a b : Kw} (hk : l[k]? = some a) (hi : l[i]? = some b) (hlt : k < i) (he : a.chg = b.chg) : nodupB l = false := by
  rw [← Bool.not_eq_true]
  intro h
  have h1 := nodupB_take (i + 1) h
  rw [take_succ hi, nodupB_snoc, Bool.and_eq_true, Bool.not_eq_true', List.any_eq_false] at h1
  refine h1.2 a (List.mem_of_getElem? (i := k) ?_) (decide_eq_true he)
  rw [List.getElem?_take, if_pos hlt]; exact hk
theorem own_get {i : Nat} {c : Int} {k : Nat} (h : (k : Int) < c) : (own i c)[k]? = some (i, k) := by
  rw [own, List.getElem?_map, List.getElem?_range (by omega)]; rfl
theorem seen_split {l : Ldg} (h : VOk l.brs (cnts l)) {i : Nat} {own : List Ev} (ho : l.evs[i]? = some own) (hi : i < l.brs.length) : seenE l (vw l.brs (cnts l) i) = preE l i ++ own := by
  obtain ⟨b, c, hb, hc, _⟩ := h.at hi
  have hc' : (cnts l)[i]? = some (own.length : Int) := by simp [cnts, ho]
  rw [hc] at hc'; cases hc'
  rw [h.split hb hc, preE, hb]
  simp only [seenE, List.map_append]
  congr 1
  apply List.ext_getElem?
  intro k
  rw [List.getElem?_map]
  rcases Nat.lt_or_ge k own.length with hk | hk
  · rw [own_get (by omega), Option.map_some, evAt, ho, Option.getD_some, List.getElem?_eq_getElem hk]; rfl
  · rw [List.getElem?_eq_none (by simp [Go.Ab.own]; omega), List.getElem?_eq_none hk]; rfl
theorem clsI_neg {known : List Kw} (h : known.any kwB = false) (c : Str) : clsI known c < 0 ↔ clsOf known c = none := by
  unfold clsI
  cases hc : clsOf known c with
  | none => simp
  | some n =>
    obtain ⟨k, h1, _, rfl⟩ := clsOf_mem hc
    have := List.any_eq_false.1 h k h1
    simp only [kwB, Bool.or_eq_true, decide_eq_true_eq, not_or] at this
    simp only [Option.getD_some]
    constructor
    · intro h; omega
    · intro h; cases h
theorem allEv {l : List Ev} : ((l.map cEv).all fun e => e.length == 2) = true := by
  rw [List.all_eq_true]; intro e he; obtain ⟨b, _, rfl⟩ := List.mem_map.1 he; rfl
end Go.Ab
