/- ledger.clone: rows of own memory in a row of own memory. -/
import Derived.Test.YtgcodedanljhpaaGreatDoorPH
import Derived.Test.YtgcodedanljhpaaGreatDoorLP
set_option linter.unusedSimpArgs false
set_option linter.unusedVariables false
section
set_option maxRecDepth 1000000
set_option maxHeartbeats 16000000
namespace Go.Ab
open Go Go.Proofs
def CR (τ : Store) (E hi : Nat) : Nat → List (List PV) → List (List Ev) → Prop
  | lo, [], [] => lo ≤ hi
  | lo, r :: rs, e :: es => ∃ id ver, r = [.own id ver 0 e.length false] ∧ τ id = some (.row ver 2 (e.map cEv) false) ∧ lo ≤ id ∧ id < hi ∧ id ≠ E ∧ CR τ E hi (id + 1) rs es
  | _, _, _ => False
theorem CR.len {τ : Store} {E hi : Nat} : ∀ {lo : Nat} {rs : List (List PV)} {es : List (List Ev)}, CR τ E hi lo rs es → rs.length = es.length
  | _, [], [], _ => rfl
  | _, r :: rs, e :: es, h => by
    obtain ⟨id, ver, _, _, _, _, _, h⟩ := h
    rw [List.length_cons, List.length_cons, CR.len h]
  | _, [], _ :: _, h => h.elim
  | _, _ :: _, [], h => h.elim
theorem CR.congr {τ τ' : Store} {E hi hi' : Nat} (hh : hi ≤ hi') : ∀ {lo : Nat} {rs : List (List PV)} {es : List (List Ev)}, (∀ j, lo ≤ j → j < hi → j ≠ E → τ' j = τ j) → CR τ E hi lo rs es → CR τ' E hi' lo rs es
  | _, [], [], _, h => Nat.le_trans h hh
  | _, r :: rs, e :: es, hj, h => by
    obtain ⟨id, ver, h1, h2, h3, h4, h5, h⟩ := h
    exact ⟨id, ver, h1, by rw [hj id h3 h4 h5]; exact h2, h3, Nat.lt_of_lt_of_le h4 hh, h5, CR.congr hh (fun j k1 k2 k3 => hj j (by omega) k2 k3) h⟩
  | _, [], _ :: _, _, h => h.elim
  | _, _ :: _, [], _, h => h.elim
theorem CR.low {τ : Store} {E hi : Nat} : ∀ {lo lo' : Nat} {rs : List (List PV)} {es : List (List Ev)}, lo' ≤ lo → CR τ E hi lo rs es → CR τ E hi lo' rs es
  | _, _, [], [], k, h => Nat.le_trans k h
  | _, _, r :: rs, e :: es, k, ⟨id, ver, h1, h2, h3, h⟩ => ⟨id, ver, h1, h2, Nat.le_trans k h3, h⟩
  | _, _, [], _ :: _, _, h => h.elim
  | _, _, _ :: _, [], _, h => h.elim
theorem CR.at {τ : Store} {E hi : Nat} : ∀ {lo : Nat} {rs : List (List PV)} {es : List (List Ev)} {i : Nat} {e : List Ev}, CR τ E hi lo rs es → es[i]? = some e →
    ∃ id ver, rs[i]? = some [.own id ver 0 e.length false] ∧ τ id = some (.row ver 2 (e.map cEv) false) ∧ lo ≤ id ∧ id < hi ∧ id ≠ E ∧
      ∀ τ' ver' (e' : List Ev), τ' id = some (.row ver' 2 (e'.map cEv) false) → (∀ j, lo ≤ j → j < hi → j ≠ E → j ≠ id → τ' j = τ j) → CR τ' E hi lo (rs.set i [.own id ver' 0 e'.length false]) (es.set i e')
  | lo, r :: rs, a :: es, 0, e, ⟨id, ver, h1, h2, h3, h4, h5, h6⟩, he => by
    rw [List.getElem?_cons_zero] at he
    cases he
    refine ⟨id, ver, by rw [List.getElem?_cons_zero, h1], h2, h3, h4, h5, fun τ' ver' e' k1 k2 => ⟨id, ver', rfl, k1, h3, h4, h5, CR.congr (Nat.le_refl _) (fun j q1 q2 q3 => k2 j (by omega) q2 q3 (by omega)) h6⟩⟩
  | lo, r :: rs, a :: es, i + 1, e, ⟨id, ver, h1, h2, h3, h4, h5, h6⟩, he => by
    rw [List.getElem?_cons_succ] at he
    obtain ⟨id2, ver2, g1, g2, g3, g4, g5, g6⟩ := CR.at h6 he
    refine ⟨id2, ver2, by rw [List.getElem?_cons_succ]; exact g1, g2, by omega, g4, g5, fun τ' ver' e' k1 k2 => ⟨id, ver, h1, by rw [k2 id h3 h4 h5 (by omega)]; exact h2, h3, h4, h5, g6 τ' ver' e' k1 fun j q1 q2 q3 q4 => k2 j (by omega) q2 q3 q4⟩⟩
  | _, [], [], _, _, _, he => by rw [List.getElem?_nil] at he; cases he
  | _, [], _ :: _, _, _, h, _ => h.elim
  | _, _ :: _, [], _, _, h, _ => h.elim
theorem CR.read {τ : Store} {E hi : Nat} : ∀ {lo : Nat} {rs : List (List PV)} {es : List (List Ev)}, CR τ E hi lo rs es → drRows τ rs = some (es.map fun e => [encEvs e])
  | _, [], [], _ => rfl
  | _, r :: rs, e :: es, ⟨id, ver, h1, h2, _, _, _, h⟩ => by
    subst h1
    have hf : ((e.map cEv).all fun e => e.all flat) = true := List.all_eq_true.2 fun x hx => by obtain ⟨y, _, rfl⟩ := List.mem_map.1 hx; rfl
    have hd : dr1s τ [.own id ver 0 e.length false] = some [encEvs e] := by
      simp only [dr1s, dr1, h2]
      rw [if_pos ⟨trivial, by rw [List.length_map]; omega, hf⟩]
      rw [List.drop_zero, List.take_of_length_le (by rw [List.length_map]; exact Nat.le_refl _)]; rfl
    simp only [drRows, hd, CR.read h]
    rfl
  | _, [], _ :: _, h => h.elim
  | _, _ :: _, [], h => h.elim
def ClQ (l : Ldg) (σ : Store) (nx : Nat) (r : PV) (τ : Store) (nx' : Nat) : Prop :=
  ∃ E ver rs, r = .agg [encKws l.known, encBrs l.brs, .own E ver 0 l.evs.length false] ∧ τ E = some (.row ver 1 rs false) ∧ CR τ E nx' nx rs l.evs ∧ nx ≤ E ∧ E < nx' ∧ Agr nx σ τ
def zL : Blk := .row 0 3 [[.lit (.slice none 0 0), .lit (.slice none 0 0), .lit (.slice none 0 0)]] false
def CI (l : Ldg) (σ : Store) (nx i : Nat) (τ : Store) (nx1 : Nat) (p : PV) : Prop :=
  nx + 3 ≤ nx1 ∧ Agr nx σ τ ∧ τ (nx + 1) = some zL ∧ τ (nx + 2) = some (.row 0 3 [[encKws l.known, encBrs l.brs, p]] false) ∧
    ((i = 0 ∧ p = .lit (.slice none 0 0)) ∨ (0 < i ∧ ∃ E ver rs, p = .own E ver 0 i false ∧ τ E = some (.row ver 1 rs false) ∧ CR τ E nx1 (nx + 3) rs (l.evs.take i) ∧ nx + 3 ≤ E ∧ E < nx1))
end Go.Ab
end

section
/- ledger.Append. -/
set_option maxRecDepth 1000000
set_option maxHeartbeats 16000000
namespace Go.Ab
open Go Go.Proofs
def lappE (l : Ldg) (n : Str) (x : Ev) : Int :=
  if (lview l n).2 ≠ 0 then (lview l n).2 else if clsOf l.known x.chg = none then 6 else if (l.evs.getD (idx l.brs n).toNat []).length = 40 then 4
  else alwC (cls0 l.known) (seenE l (lview l n).1) x.kind (cls0 l.known x.chg)
def lapp (l : Ldg) (n : Str) (x : Ev) : Ldg := { l with evs := l.evs.set (idx l.brs n).toNat (l.evs.getD (idx l.brs n).toNat [] ++ [x]) }
def encApp (l : Ldg) (n : Str) (x : Ev) : PV := if lappE l n x = 0 then encLdg (lapp l n x) else .agg [.lit (.slice none 0 0), .lit (.slice none 0 0), .lit (.slice none 0 0)]
end Go.Ab
end
