/- ledger.clone: rows of own memory in a row of own memory. -/
import Derived.Test.YtgcodedanljhpaaGreatDoorLC
import Derived.Test.YtgcodedanljhpaaGreatDoorLO
set_option linter.unusedSimpArgs false
set_option linter.unusedVariables false
section
set_option maxRecDepth 1000000
set_option maxHeartbeats 16000000
namespace Go.Ab
open Go Go.Proofs
theorem bd_OB : type_of% (And.intro @str.eq_1 (And.intro @u8.eq_1 (And.intro @encBrs.eq_1 (And.intro @cBr.eq_1 (And.intro @encLdg.eq_1 (And.intro @encKws.eq_1 (And.intro @cKw.eq_1 (And.intro @encEvss.eq_1 (And.intro @encEvs.eq_1 (And.intro @cEv.eq_1 (And.intro @nit (And.intro @ovR (And.intro @fld (And.intro @evBin_seql (And.intro @evBin_sneq (And.intro @List.set_cons_succ.{0} (And.intro @List.getElem?_cons_zero.{0} (And.intro @List.getElem?_cons_succ.{0} (@List.length_set.{0}))))))))))))))))))) := And.intro @str.eq_1 (And.intro @u8.eq_1 (And.intro @encBrs.eq_1 (And.intro @cBr.eq_1 (And.intro @encLdg.eq_1 (And.intro @encKws.eq_1 (And.intro @cKw.eq_1 (And.intro @encEvss.eq_1 (And.intro @encEvs.eq_1 (And.intro @cEv.eq_1 (And.intro @nit (And.intro @ovR (And.intro @fld (And.intro @evBin_seql (And.intro @evBin_sneq (And.intro @List.set_cons_succ.{0} (And.intro @List.getElem?_cons_zero.{0} (And.intro @List.getElem?_cons_succ.{0} (@List.length_set.{0}))))))))))))))))))
def CR (τ : Store) (E hi : Nat) : Nat → List (List PV) → List (List Ev) → Prop
  | lo, [], [] => lo ≤ hi
  | lo, r :: rs, e :: es => ∃ id ver, r = [.own id ver 0 e.length false] ∧ τ id = some (.row ver 2 (e.map cEv) false) ∧ lo ≤ id ∧ id < hi ∧ id ≠ E ∧ CR τ E hi (id + 1) rs es
  | _, _, _ => False
theorem CR.len {τ : Store} {E hi : Nat} : ∀ {lo : Nat} {rs : List (List PV)} {es : List (List Ev)}, CR τ E hi lo rs es → rs.length = es.length
  | _, [], [], _ => rfl
  | _, r :: rs, e :: es, h => by
    obtain ⟨id, ver, _, _, _, _, _, h⟩ := h
    rw [List.length_cons, List.length_cons, CR.len h]
  | _, [], _ :: _, h => h.elim
  | _, _ :: _, [], h => h.elim
theorem CR.congr {τ τ' : Store} {E hi hi' : Nat} (hh : hi ≤ hi') : ∀ {lo : Nat} {rs : List (List PV)} {es : List (List Ev)}, (∀ j, lo ≤ j → j < hi → j ≠ E → τ' j = τ j) → CR τ E hi lo rs es → CR τ' E hi' lo rs es
  | _, [], [], _, h => Nat.le_trans h hh
  | _, r :: rs, e :: es, hj, h => by
    obtain ⟨id, ver, h1, h2, h3, h4, h5, h⟩ := h
    exact ⟨id, ver, h1, by rw [hj id h3 h4 h5]; exact h2, h3, Nat.lt_of_lt_of_le h4 hh, h5, CR.congr hh (fun j k1 k2 k3 => hj j (by omega) k2 k3) h⟩
  | _, [], _ :: _, _, h => h.elim
  | _, _ :: _, [], _, h => h.elim
theorem CR.snoc {τ : Store} {E hi hi' id ver : Nat} {e : List Ev} (h2 : τ id = some (.row ver 2 (e.map cEv) false)) (h3 : hi ≤ id) (h4 : id < hi') (h5 : id ≠ E) :
    ∀ {lo : Nat} {rs : List (List PV)} {es : List (List Ev)}, CR τ E hi lo rs es → CR τ E hi' lo (rs ++ [[.own id ver 0 e.length false]]) (es ++ [e])
  | _, [], [], h => ⟨id, ver, rfl, h2, Nat.le_trans h h3, h4, h5, h4⟩
  | _, r :: rs, e :: es, h => by
    obtain ⟨id', ver', k1, k2, k3, k4, k5, h⟩ := h
    exact ⟨id', ver', k1, k2, k3, by omega, k5, CR.snoc h2 h3 h4 h5 h⟩
  | _, [], _ :: _, h => h.elim
  | _, _ :: _, [], h => h.elim
theorem CR.low {τ : Store} {E hi : Nat} : ∀ {lo lo' : Nat} {rs : List (List PV)} {es : List (List Ev)}, lo' ≤ lo → CR τ E hi lo rs es → CR τ E hi lo' rs es
  | _, _, [], [], k, h => Nat.le_trans k h
  | _, _, r :: rs, e :: es, k, ⟨id, ver, h1, h2, h3, h⟩ => ⟨id, ver, h1, h2, Nat.le_trans k h3, h⟩
  | _, _, [], _ :: _, _, h => h.elim
  | _, _, _ :: _, [], _, h => h.elim
theorem CR.at {τ : Store} {E hi : Nat} : ∀ {lo : Nat} {rs : List (List PV)} {es : List (List Ev)} {i : Nat} {e : List Ev}, CR τ E hi lo rs es → es[i]? = some e →
    ∃ id ver, rs[i]? = some [.own id ver 0 e.length false] ∧ τ id = some (.row ver 2 (e.map cEv) false) ∧ lo ≤ id ∧ id < hi ∧ id ≠ E ∧
      ∀ τ' ver' (e' : List Ev), τ' id = some (.row ver' 2 (e'.map cEv) false) → (∀ j, lo ≤ j → j < hi → j ≠ E → j ≠ id → τ' j = τ j) → CR τ' E hi lo (rs.set i [.own id ver' 0 e'.length false]) (es.set i e')
  | lo, r :: rs, a :: es, 0, e, ⟨id, ver, h1, h2, h3, h4, h5, h6⟩, he => by
    rw [List.getElem?_cons_zero] at he
    cases he
    refine ⟨id, ver, by rw [List.getElem?_cons_zero, h1], h2, h3, h4, h5, fun τ' ver' e' k1 k2 => ⟨id, ver', rfl, k1, h3, h4, h5, CR.congr (Nat.le_refl _) (fun j q1 q2 q3 => k2 j (by omega) q2 q3 (by omega)) h6⟩⟩
  | lo, r :: rs, a :: es, i + 1, e, ⟨id, ver, h1, h2, h3, h4, h5, h6⟩, he => by
    rw [List.getElem?_cons_succ] at he
    obtain ⟨id2, ver2, g1, g2, g3, g4, g5, g6⟩ := CR.at h6 he
    refine ⟨id2, ver2, by rw [List.getElem?_cons_succ]; exact g1, g2, by omega, g4, g5, fun τ' ver' e' k1 k2 => ⟨id, ver, h1, by rw [k2 id h3 h4 h5 (by omega)]; exact h2, h3, h4, h5, g6 τ' ver' e' k1 fun j q1 q2 q3 q4 => k2 j (by omega) q2 q3 q4⟩⟩
  | _, [], [], _, _, _, he => by rw [List.getElem?_nil] at he; cases he
  | _, [], _ :: _, _, _, h, _ => h.elim
  | _, _ :: _, [], _, _, h, _ => h.elim
theorem CR.read {τ : Store} {E hi : Nat} : ∀ {lo : Nat} {rs : List (List PV)} {es : List (List Ev)}, CR τ E hi lo rs es → drRows τ rs = some (es.map fun e => [encEvs e])
  | _, [], [], _ => rfl
  | _, r :: rs, e :: es, ⟨id, ver, h1, h2, _, _, _, h⟩ => by
    subst h1
    have hf : ((e.map cEv).all fun e => e.all flat) = true := List.all_eq_true.2 fun x hx => by obtain ⟨y, _, rfl⟩ := List.mem_map.1 hx; rfl
    have hd : dr1s τ [.own id ver 0 e.length false] = some [encEvs e] := by
      simp only [dr1s, dr1, h2]
      rw [if_pos ⟨trivial, by rw [List.length_map]; omega, hf⟩]
      rw [List.drop_zero, List.take_of_length_le (by rw [List.length_map]; exact Nat.le_refl _)]; rfl
    simp only [drRows, hd, CR.read h]
    rfl
  | _, [], _ :: _, h => h.elim
  | _, _ :: _, [], h => h.elim
theorem putNe {τ : Store} {i j : Nat} {B : Blk} (h : j ≠ i) : (τ.put i B) j = τ j := by simp only [Store.put]; rw [if_neg h]
theorem putEq {τ : Store} {i : Nat} {B : Blk} : (τ.put i B) i = some B := by simp only [Store.put, if_true]
def ClQ (l : Ldg) (σ : Store) (nx : Nat) (r : PV) (τ : Store) (nx' : Nat) : Prop :=
  ∃ E ver rs, r = .agg [encKws l.known, encBrs l.brs, .own E ver 0 l.evs.length false] ∧ τ E = some (.row ver 1 rs false) ∧ CR τ E nx' nx rs l.evs ∧ nx ≤ E ∧ E < nx' ∧ Agr nx σ τ
def zL : Blk := .row 0 3 [[.lit (.slice none 0 0), .lit (.slice none 0 0), .lit (.slice none 0 0)]] false
def CI (l : Ldg) (σ : Store) (nx i : Nat) (τ : Store) (nx1 : Nat) (p : PV) : Prop :=
  nx + 3 ≤ nx1 ∧ Agr nx σ τ ∧ τ (nx + 1) = some zL ∧ τ (nx + 2) = some (.row 0 3 [[encKws l.known, encBrs l.brs, p]] false) ∧
    ((i = 0 ∧ p = .lit (.slice none 0 0)) ∨ (0 < i ∧ ∃ E ver rs, p = .own E ver 0 i false ∧ τ E = some (.row ver 1 rs false) ∧ CR τ E nx1 (nx + 3) rs (l.evs.take i) ∧ nx + 3 ≤ E ∧ E < nx1))
theorem bldL2 : ∀ a b c d, evBuild cx 26 [(0, .imm a c), (1, .imm b d)] = some (.agg [.imm a c, .imm b d, .lit (.slice none 0 0)]) := fun _ _ _ _ => by kernel_rfl
theorem m_clone (l : Ldg) (hk : l.known.length ≤ 2^40) (hb : l.brs.length ≤ 2^40) (h0 : 0 < l.evs.length) (hn : l.evs.length ≤ 2^40) (hE : ∀ e ∈ l.evs, e.length ≤ 2^40) (σ : Store) (nx : Nat) :
    StSpec cx 80 [encLdg l] σ nx (ClQ l σ nx) := by
  refine StSpec.fresh (by kernel_rfl) fun hfr => ?_
  refine stSpec_of_vc Tryz.func80 rfl (by decide) (by kernel_rfl) (Nat.le_of_ble_eq_true rfl) ?_
  have E1 : (nx = nx + 1) = False := eq_false (by omega)
  have E2 : (nx + 1 = nx) = False := eq_false (by omega)
  have E3 : (nx = nx + 2) = False := eq_false (by omega)
  have E4 : (nx + 2 = nx) = False := eq_false (by omega)
  have E5 : (nx + 1 = nx + 2) = False := eq_false (by omega)
  have E6 : (nx + 2 = nx + 1) = False := eq_false (by omega)
  try simp -dsimp (disch := omega) only [↓bp0, bd0, bd_OB, evStore, Tryz.f80, E1, E2, E3, E4, E5, E6, bldL2, simprocAttr]
  refine vc_regJ (fun τ => τ nx = some (.row 0 3 [[encKws l.known, encBrs l.brs, encEvss l.evs]] false)) [0, 1, 2, 3, 4, 5, 6] [] (by kernel_rfl) (by kernel_rfl) ?_ ?_
  · exact (by simp -dsimp (disch := omega) only [↓bp0, bd0, bd_OB, evStore, E1, E2, E3, E4, E5, E6, bldL2, simprocAttr])
  try simp -dsimp (disch := omega) only [↓bp0, bd0, bd_OB, evStore, vcj, implies_true, E1, E2, E3, E4, E5, E6, bldL2, simprocAttr]
  refine ⟨fun τ hτ => by simp -dsimp (disch := omega) only [↓bp0, bd0, bd_OB, evStore, hτ, simprocAttr], ?_⟩
  refine CallJ.imm (clN_Kw l.known hk) (fun _ _ => by rfl) (fun _ _ => by rfl) (by first | exact .inl rfl | exact .inr rfl | exact .inr scalB | exact .inr scalI | exact .inr scalT) ?_
  try simp -dsimp (disch := omega) only [↓bp0, bd0, bd_OB, evStore, vcj, implies_true, E1, E2, E3, E4, E5, E6, bldL2, simprocAttr]
  refine ⟨fun τ hτ => by simp -dsimp (disch := omega) only [↓bp0, bd0, bd_OB, evStore, hτ, simprocAttr], ?_⟩
  refine CallJ.imm (clN_Br l.brs hb) (fun _ _ => by rfl) (fun _ _ => by rfl) (by first | exact .inl rfl | exact .inr rfl | exact .inr scalB | exact .inr scalI | exact .inr scalT) ?_
  try simp -dsimp (disch := omega) only [↓bp0, bd0, bd_OB, evStore, vcj, implies_true, E1, E2, E3, E4, E5, E6, bldL2, simprocAttr]
  refine LoopQ.rule (fun m st => ∃ (i : Nat) (τ : Store) (nx1 : Nat) (p : PV), m = l.evs.length - i ∧ i ≤ l.evs.length ∧
    st = ⟨mkE [(1, .ptr nx 0 0 0), (2, .ptr (nx + 1) 0 0 0), (3, .ptr (nx + 2) 0 0 0), (14, encEvss l.evs), (15, i64 l.evs.length), (16, i64 i)], τ, nx1⟩ ∧ CI l σ nx i τ nx1 p) _ _
    (weak_ofS (le := [(1, .ptr nx 0 0 0), (2, .ptr (nx + 1) 0 0 0), (3, .ptr (nx + 2) 0 0 0), (14, encEvss l.evs), (15, i64 l.evs.length), (16, i64 (0 : Nat))]) (S := (((σ.put nx (.row 0 3 [[encKws l.known, encBrs l.brs, encEvss l.evs]] false)).put (nx + 1) zL).put (nx + 2) zL).put (nx + 2) (.row 0 3 [[encKws l.known, encBrs l.brs, .lit (.slice none 0 0)]] false)) (nx := nx + 3) ?_)
    ⟨0, _, _, .lit (.slice none 0 0), rfl, Nat.zero_le _, rfl, Nat.le_refl _, (by (try simp -dsimp only [st_put_σ]); repeat (first | exact Agr.rfl' | refine Agr.put ?_ (by omega) | exact Agr.ov (by simp only [geL]; omega))), ?_, ?_, .inl ⟨rfl, rfl⟩⟩ ?_
  · refine ⟨?_, ?_, ?_⟩
    · first | (simp -dsimp (disch := omega) only [↓bp0, bd0, bd_OB, evStore, zL, E1, E2, E3, E4, E5, E6, simprocAttr]; done) | simp -dsimp [evl, putN, i64, u32, bl, encL, encB, encLL, zL, E1, E2, E3, E4, E5, E6]
    · (try simp -dsimp only [st_put_σ]); rfl
    · exact Nat.le_refl _
  · exact (by simp -dsimp (disch := omega) only [↓bp0, bd0, bd_OB, evStore, E1, E2, E3, E4, E5, E6, simprocAttr])
  · exact (by simp -dsimp (disch := omega) only [↓bp0, bd0, bd_OB, evStore, E1, E2, E3, E4, E5, E6, simprocAttr])
  rintro m st ⟨i, τ, nx1, p, rfl, hi, rfl, hI⟩
  obtain ⟨c1, c2, c3, c4, c5⟩ := hI
  try simp -dsimp (disch := omega) only [↓bp0, bd0, bd_OB, evStore, E1, E2, E3, E4, E5, E6, simprocAttr]
  refine onC_nlt (fun h2 => ?_) (fun h2 => ?_)
  rotate_left
  · obtain rfl : i = l.evs.length := by omega
    obtain ⟨h, _⟩ | ⟨_, E, ver, rs, rfl, d1, d2, d3, d4⟩ := c5
    · omega
    rw [List.take_length] at d2
    try simp -dsimp (disch := omega) only [↓bp0, bd0, bd_OB, evStore, c3, c4, zL, simprocAttr]
    simp -dsimp (disch := omega) only [↓bp0, bd0, bd_OB, evStore, stQ, resL, tupOf, List.toList_toArray, Tryz.f80, c3, c4, zL, simprocAttr]
    exact ⟨_, _, .refl _, E, ver, rs, rfl, (putNe (by omega)).trans d1, CR.low (by omega) (CR.congr (Nat.le_refl _) (fun j k1 _ _ => putNe (by omega)) d2), by omega, d4, c2.put (by omega)⟩
  obtain ⟨own, hx, hxm⟩ := get_of_lt h2
  have hown := hE own hxm
  have F1 : (nx + 2 = nx1) = False := eq_false (by omega)
  have F2 : (nx1 = nx + 2) = False := eq_false (by omega)
  have F3 : (nx + 2 = nx1 + 1) = False := eq_false (by omega)
  have F4 : (nx1 + 1 = nx + 2) = False := eq_false (by omega)
  have F5 : (nx + 2 = nx1 + 2) = False := eq_false (by omega)
  have F6 : (nx1 + 2 = nx + 2) = False := eq_false (by omega)
  try simp -dsimp (disch := omega) only [↓bp0, bd0, bd_OB, evStore, hx, simprocAttr]
  rcases c5 with ⟨hi0, hp⟩ | ⟨hi0, E, ver, rs, hp, d1, d2, d3, d4⟩
  · subst hp
    refine vc_regJ (fun τ' => τ' (nx + 2) = some (.row 0 3 [[encKws l.known, encBrs l.brs, .lit (.slice none 0 0)]] false)) [0, 1, 2, 6] [3] (by kernel_rfl) (by kernel_rfl) ?_ ?_
    · exact (by simp -dsimp (disch := omega) only [↓bp0, bd0, bd_OB, evStore, c4, simprocAttr])
    try simp -dsimp (disch := omega) only [↓bp0, bd0, bd_OB, evStore, vcj, implies_true, F1, F2, F3, F4, F5, F6, c4, simprocAttr]
    refine ⟨fun τ hτ => by simp -dsimp (disch := omega) only [↓bp0, bd0, bd_OB, evStore, hτ, simprocAttr], ?_⟩
    try simp -dsimp (disch := omega) only [↓bp0, bd0, bd_OB, evStore, vcj, implies_true, F1, F2, F3, F4, F5, F6, c4, simprocAttr]
    refine EffQ.inm (cl_Ev own hown _ _) ⟨_, _, _, 0, rfl, rfl, rfl⟩ (by rfl) ?_
    rintro q σ' nx' ⟨v0, rfl, rfl, rfl⟩
    refine ⟨.inr (by simp -dsimp (disch := omega) only [↓bp0, bd0, bd_OB, evStore, F1, F2, F3, F4, F5, F6, c4, simprocAttr]), ?_⟩
    try simp -dsimp (disch := omega) only [↓bp0, bd0, bd_OB, evStore, vcj, implies_true, F1, F2, F3, F4, F5, F6, c4, simprocAttr]
    refine ⟨.inl (by kernel_rfl), ?_⟩
    try simp -dsimp (disch := omega) only [↓bp0, bd0, bd_OB, evStore, vcj, implies_true, F1, F2, F3, F4, F5, F6, c4, simprocAttr]
    refine ⟨_, _, ?_, weak_ofS (le := [(1, .ptr nx 0 0 0), (2, .ptr (nx + 1) 0 0 0), (3, .ptr (nx + 2) 0 0 0), (14, encEvss l.evs), (15, i64 l.evs.length), (16, i64 ((i + 1 : Nat) : Int))]) (S := (((τ.put nx1 (.row v0 2 (own.map cEv) false)).put (nx1 + 1) (.row 0 1 [[.own nx1 v0 0 own.length false]] false)).put (nx1 + 2) (.row 0 1 [[.own nx1 v0 0 own.length false]] false)).put (nx + 2) (.row 0 3 [[encKws l.known, encBrs l.brs, .own (nx1 + 2) 0 0 1 false]] false)) (nx := nx1 + 3) ⟨?_, ?_, Nat.le_refl _⟩, i + 1, _, _, .own (nx1 + 2) 0 0 1 false, rfl, by omega, rfl, ?_⟩
    · omega
    · first | (simp -dsimp (disch := omega) only [↓bp0, bd0, bd_OB, evStore, wrapS h2 (show l.evs.length ≤ 9223372036854775807 by omega), simprocAttr]; done) | simp -dsimp [evl, putN, i64, u32, bl, encL, encB, encLL, wrapS h2 (show l.evs.length ≤ 9223372036854775807 by omega)]
    · (try simp -dsimp only [st_put_σ]); rfl
    · subst hi0
      have htk := take_succ hx
      rw [List.take_zero, List.nil_append] at htk
      refine ⟨by omega, ((((c2.put (by omega)).put (by omega)).put (by omega)).put (by omega)), ?_, putEq, .inr ⟨by omega, nx1 + 2, 0, _, rfl, (putNe (by omega)).trans putEq, ?_, by omega, by omega⟩⟩
      · exact (putNe (by omega)).trans ((putNe (by omega)).trans ((putNe (by omega)).trans ((putNe (by omega)).trans c3)))
      · rw [htk]
        exact ⟨nx1, v0, rfl, (putNe (by omega)).trans ((putNe (by omega)).trans ((putNe (by omega)).trans putEq)), by omega, by omega, by omega, show nx1 + 1 ≤ nx1 + 3 by omega⟩
  · subst hp
    have hrl : (i = rs.length) = True := eq_true (by rw [CR.len d2, List.length_take]; omega)
    have h24 : ((i + 1) * 24 ≤ 140737488355328) = True := eq_true (by omega)
    have G1 : (E = nx1) = False := eq_false (by omega)
    have G2 : (nx1 = E) = False := eq_false (by omega)
    have G3 : (E = nx1 + 1) = False := eq_false (by omega)
    have G4 : (nx1 + 1 = E) = False := eq_false (by omega)
    have G5 : (E = nx + 2) = False := eq_false (by omega)
    have G6 : (nx + 2 = E) = False := eq_false (by omega)
    refine vc_regJ (fun τ' => τ' (nx + 2) = some (.row 0 3 [[encKws l.known, encBrs l.brs, .own E ver 0 i false]] false)) [0, 1, 2, 6] [3] (by kernel_rfl) (by kernel_rfl) ?_ ?_
    · exact (by simp -dsimp (disch := omega) only [↓bp0, bd0, bd_OB, evStore, c4, simprocAttr])
    try simp -dsimp (disch := omega) only [↓bp0, bd0, bd_OB, evStore, vcj, implies_true, F1, F2, F3, F4, F5, F6, c4, G1, G2, G3, G4, G5, G6, d1, hrl, h24, and_self, simprocAttr]
    refine ⟨fun τ hτ => by simp -dsimp (disch := omega) only [↓bp0, bd0, bd_OB, evStore, hτ, simprocAttr], ?_⟩
    try simp -dsimp (disch := omega) only [↓bp0, bd0, bd_OB, evStore, vcj, implies_true, F1, F2, F3, F4, F5, F6, c4, G1, G2, G3, G4, G5, G6, d1, hrl, h24, and_self, simprocAttr]
    refine EffQ.inm (cl_Ev own hown _ _) ⟨_, _, _, 0, rfl, rfl, rfl⟩ (by rfl) ?_
    rintro q σ' nx' ⟨v0, rfl, rfl, rfl⟩
    refine ⟨.inr (by simp -dsimp (disch := omega) only [↓bp0, bd0, bd_OB, evStore, F1, F2, F3, F4, F5, F6, c4, G1, G2, G3, G4, G5, G6, d1, hrl, h24, and_self, simprocAttr]), ?_⟩
    try simp -dsimp (disch := omega) only [↓bp0, bd0, bd_OB, evStore, vcj, implies_true, F1, F2, F3, F4, F5, F6, c4, G1, G2, G3, G4, G5, G6, d1, hrl, h24, and_self, simprocAttr]
    refine ⟨.inl (by kernel_rfl), ?_⟩
    try simp -dsimp (disch := omega) only [↓bp0, bd0, bd_OB, evStore, vcj, implies_true, F1, F2, F3, F4, F5, F6, c4, G1, G2, G3, G4, G5, G6, d1, hrl, h24, and_self, simprocAttr]
    refine ⟨_, _, ?_, weak_ofS (le := [(1, .ptr nx 0 0 0), (2, .ptr (nx + 1) 0 0 0), (3, .ptr (nx + 2) 0 0 0), (14, encEvss l.evs), (15, i64 l.evs.length), (16, i64 ((i + 1 : Nat) : Int))]) (S := (((τ.put nx1 (.row v0 2 (own.map cEv) false)).put (nx1 + 1) (.row 0 1 [[.own nx1 v0 0 own.length false]] false)).put E (.row (ver + 1) 1 (rs ++ [[.own nx1 v0 0 own.length false]]) false)).put (nx + 2) (.row 0 3 [[encKws l.known, encBrs l.brs, .own E (ver + 1) 0 (i + 1) false]] false)) (nx := nx1 + 2) ⟨?_, ?_, Nat.le_refl _⟩, i + 1, _, _, .own E (ver + 1) 0 (i + 1) false, rfl, by omega, rfl, ?_⟩
    · omega
    · first | (simp -dsimp (disch := omega) only [↓bp0, bd0, bd_OB, evStore, wrapS h2 (show l.evs.length ≤ 9223372036854775807 by omega), simprocAttr]; done) | simp -dsimp [evl, putN, i64, u32, bl, encL, encB, encLL, wrapS h2 (show l.evs.length ≤ 9223372036854775807 by omega)]
    · (try simp -dsimp only [st_put_σ]); rfl
    · have htk := take_succ hx
      refine ⟨by omega, ((((c2.put (by omega)).put (by omega)).put (by omega)).put (by omega)), ?_, putEq, .inr ⟨by omega, E, ver + 1, _, rfl, (putNe (by omega)).trans putEq, ?_, by omega, by omega⟩⟩
      · exact (putNe (by omega)).trans ((putNe (by omega)).trans ((putNe (by omega)).trans ((putNe (by omega)).trans c3)))
      · rw [htk]
        refine CR.snoc (hi := nx1) ((putNe (by omega)).trans ((putNe (by omega)).trans ((putNe (by omega)).trans putEq))) (Nat.le_refl _) (by omega) (by omega) (CR.congr (Nat.le_refl _) (fun j k1 k2 k3 => ?_) d2)
        exact (putNe (by omega)).trans ((putNe (by omega)).trans ((putNe (by omega)).trans (putNe (by omega))))
end Go.Ab
end

section
/- What is in effect. -/
set_option maxRecDepth 100000
set_option maxHeartbeats 8000000
namespace Go.Ab
open Go Go.Proofs
theorem bd_LP : type_of% (And.intro @evNext.eq_1 (And.intro @fld (And.intro @nit (And.intro @nxE (And.intro @ovR (And.intro @evBin_seql (And.intro @evBin_sneq (And.intro @str.eq_1 (And.intro @u8.eq_1 (And.intro @encBrs.eq_1 (And.intro @cBr.eq_1 (And.intro @encLdg.eq_1 (And.intro @encKws.eq_1 (And.intro @cKw.eq_1 (And.intro @encEvss.eq_1 (And.intro @encEvs.eq_1 (And.intro @cEv.eq_1 (And.intro @encMks.eq_1 (And.intro @cMk.eq_1 (And.intro @tk2 (And.intro @tk3 (And.intro @List.set_cons_succ.{0} (And.intro @List.getElem?_cons_zero.{0} (And.intro @List.getElem?_cons_succ.{0} (@List.length_set.{0}))))))))))))))))))))))))) := And.intro @evNext.eq_1 (And.intro @fld (And.intro @nit (And.intro @nxE (And.intro @ovR (And.intro @evBin_seql (And.intro @evBin_sneq (And.intro @str.eq_1 (And.intro @u8.eq_1 (And.intro @encBrs.eq_1 (And.intro @cBr.eq_1 (And.intro @encLdg.eq_1 (And.intro @encKws.eq_1 (And.intro @cKw.eq_1 (And.intro @encEvss.eq_1 (And.intro @encEvs.eq_1 (And.intro @cEv.eq_1 (And.intro @encMks.eq_1 (And.intro @cMk.eq_1 (And.intro @tk2 (And.intro @tk3 (And.intro @List.set_cons_succ.{0} (And.intro @List.getElem?_cons_zero.{0} (And.intro @List.getElem?_cons_succ.{0} (@List.length_set.{0}))))))))))))))))))))))))
structure LSz (l : Ldg) : Prop where
  known : l.known.length ≤ 2^40
  brs : l.brs.length ≤ 2^40
  evs : l.evs.length ≤ 2^40
  ev : ∀ s ∈ l.evs, s.length ≤ 2^40
theorem LOk.pok {l : Ldg} (h : LOk l) : POk l := ⟨h.known, h.nodup, h.kw, h.len, h.evs, h.fits⟩
theorem cnts_len (l : Ldg) : (cnts l).length = l.evs.length := by simp [cnts]
theorem flMk {l : List (Nat × Nat)} {n : Nat} (h : n = l.length) : List.take n (l.map cMk) = l.map cMk := List.take_of_length_le (by simp [h])
theorem d_lview (l : Ldg) (n : Str) (hz : LSz l) : CallSpec cx 74 [encLdg l, str n] (.tup [newMks (lview l n).1, i64 (lview l n).2]) := by
  refine callSpec_of_vc Tryz.func74 rfl (by decide) (by kernel_rfl) (Nat.le_of_ble_eq_true rfl) ?_
  try simp -dsimp (disch := omega) only [↓bp0, bd0, bd_LP, evStore, evRange, Tryz.f74, simprocAttr]
  refine CallQ.imm (d_lCheck l hz.known hz.brs hz.evs hz.ev) (by rfl) (by rfl) (by first | exact .inl rfl | exact .inr rfl | exact .inr scalB | exact .inr scalI | exact .inr scalT | exact .inr scalM | exact .inr scalMT) ?_
  cases h0 : decide (lchk l = 0)
  · simp -dsimp (disch := omega) only [↓bp0, bd0, bd_LP, evStore, evRange, retQ, resL, finL, newL, flat, tupOf, List.toList_toArray, Tryz.f74, h0, simprocAttr]
    rw [lview, if_pos (of_decide_eq_false h0)]
    exact ⟨.inr ⟨rfl, 2, rfl⟩, .rfl', trivial⟩
  have e1 : lview l n = bview l.brs (cnts l) n := by rw [lview, if_neg (by rw [Decidable.not_not]; exact of_decide_eq_true h0)]
  rw [e1]
  try simp -dsimp (disch := omega) only [↓bp0, bd0, bd_LP, evStore, evRange, h0, simprocAttr]
  refine vc_text (by kernel_rfl) ?_
  try simp -dsimp (disch := omega) only [↓bp0, bd0, bd_LP, evStore, evRange, simprocAttr]
  refine CallY.imm (d_counts l hz.evs hz.ev) (by rfl) (by rfl) (by first | exact .inl rfl | exact .inr rfl | exact .inr scalB | exact .inr scalI | exact .inr scalT | exact .inr scalM | exact .inr scalMT) ?_
  try simp -dsimp (disch := omega) only [↓bp0, bd0, bd_LP, evStore, evRange, simprocAttr]
  refine CallY.q 5 rfl (by kernel_rfl) ?_
  refine CallQ.thawT (d_View l.brs (cnts l) n (by have := hz.brs; omega) (by rw [cnts_len]; have := hz.evs; omega)) (by rfl) (by first | rfl | (simp -dsimp only [evl, drcs, drc, flat, newI, encL, encBrs, forget]; done)) (.inr (by simp only [List.all_cons, List.all_nil, Bool.and_true, scal1, newMks, i64, litM])) ?_
  simp -dsimp (disch := omega) only [↓bp0, bd0, bd_LP, evStore, evRange, retQ, resL, finL, newL, flat, tupOf, List.toList_toArray, Tryz.f74, thw, newMks, flM, List.length_map, flMk, simprocAttr]
  exact ⟨.rfl', .rfl', trivial⟩
theorem lview_ok {l : Ldg} {n : Str} (h : (lview l n).2 = 0) : LOk l ∧ ∃ i, i < l.brs.length ∧ idx l.brs n = i ∧ (lview l n).1 = vw l.brs (cnts l) i := by
  unfold lview at h ⊢
  by_cases h0 : lchk l = 0
  · have hok := lok_of h0
    rw [if_neg (by rw [Decidable.not_not]; exact h0)] at h ⊢
    unfold bview at h ⊢
    rw [if_neg (by rw [Decidable.not_not]; exact hok.fits)] at h ⊢
    split at h
    · cases h
    · rename_i h1
      obtain ⟨h2, h3⟩ := idx_nat (l := l.brs) (n := n) (by omega)
      rw [if_neg h1]
      exact ⟨hok, _, h3, h2, rfl⟩
  · rw [if_pos h0] at h; exact absurd h h0
theorem fold_pre {l : Ldg} {n : Str} (h : (lview l n).2 = 0) : POk l ∧ (∀ m ∈ (lview l n).1, ∃ c, (cnts l)[m.1]? = some c ∧ (m.2 : Int) < c) ∧ (∀ e ∈ seenE l (lview l n).1, (clsOf l.known e.chg).isSome = true) ∧ (lview l n).1.length ≤ 2^40 := by
  obtain ⟨hok, i, hi, _, e⟩ := lview_ok h
  obtain ⟨b, c, hb, hc, h0, h1⟩ := hok.vok.at hi
  rw [e]
  refine ⟨hok.pok, fun m hm => (hok.vok.mem i hi m hm).2, hok.seen_known hi, ?_⟩
  rw [hok.vok.length i hi hb hc]
  have := hok.vok.at_ i b hb
  omega
theorem d_Effect (l : Ldg) (n : Str) (hz : LSz l) : CallSpec cx 52 [encLdg l, str n] (.tup [newI (leff l n).1, i64 (leff l n).2]) := by
  refine callSpec_of_vc Tryz.func52 rfl (by decide) (by kernel_rfl) (Nat.le_of_ble_eq_true rfl) ?_
  try simp -dsimp (disch := omega) only [↓bp0, bd0, bd_LP, evStore, evRange, Tryz.f52, simprocAttr]
  refine CallQ.imm (d_lview l n hz) (by rfl) (by rfl) (by first | exact .inl rfl | exact .inr rfl | exact .inr scalB | exact .inr scalI | exact .inr scalT | exact .inr scalM | exact .inr scalMT) ?_
  cases h0 : decide ((lview l n).2 = 0)
  · simp -dsimp (disch := omega) only [↓bp0, bd0, bd_LP, evStore, evRange, retQ, resL, finL, newL, flat, tupOf, List.toList_toArray, Tryz.f52, h0, simprocAttr]
    rw [leff, if_pos (of_decide_eq_false h0)]
    exact ⟨.inr ⟨rfl, 1, rfl⟩, .rfl', trivial⟩
  have h0' := of_decide_eq_true h0
  obtain ⟨q1, q2, q3, q4⟩ := fold_pre h0'
  rw [leff, if_neg (by rw [Decidable.not_not]; exact h0')]
  generalize (lview l n).1 = v at q2 q3 q4 ⊢
  try simp -dsimp (disch := omega) only [↓bp0, bd0, bd_LP, evStore, evRange, h0, simprocAttr]
  refine CallQ.inm (d_folded l q1 v q2 q3 q4 _ _) (by rfl) ?_
  rintro r σ' nx1 ⟨id, ver, hs1, hs2, rfl, rfl⟩
  try simp -dsimp (disch := omega) only [↓bp0, bd0, bd_LP, evStore, evRange, simprocAttr]
  refine CallQ.thaw (d_list (cls0 l.known) (seenE l v)) (by rfl) (by first | rfl | (simp -dsimp (disch := omega) only [↓bp0, bd0, bd_LP, evStore, evRange, drcs, drc, flat, flSt, List.drop_zero, simprocAttr]; done)) flLitI ?_
  simp -dsimp (disch := omega) only [↓bp0, bd0, bd_LP, evStore, evRange, retQ, resL, finL, newL, flat, tupOf, List.toList_toArray, Tryz.f52, effE, simprocAttr]
  exact ⟨.rfl', .rfl', trivial⟩
end Go.Ab
end
