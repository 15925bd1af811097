/- MissingNames. -/
import Derived.Test.YtgcodedanljhpaaDoorNH
import Derived.Test.YtgcodedanljhpaaDoorLPa
set_option linter.unusedSimpArgs false
set_option linter.unusedVariables false
set_option maxRecDepth 1000000
set_option maxHeartbeats 16000000
namespace Go.Ab
open Go Go.Proofs Go.Sort
theorem argAgg {C : Ctx} {f : FuncId} {ps' ps rest : List PV} {r : PV} (h : CallSpec C f (.agg ps :: rest) r) (hl : leDs ps' ps) : CallSpec C f (.agg ps' :: rest) r :=
  ⟨h.1, fun w fz vs h1 h2 h3 => h.2 w fz vs h1 h2 (by
    simp only [RelList] at h3 ⊢
    obtain ⟨v, vs', e, g1, g2⟩ := h3
    refine ⟨v, vs', e, ?_, g2⟩
    simp only [Rel] at g1 ⊢
    obtain ⟨us, e', ho, hr⟩ := g1
    exact ⟨us, e', leDs_all hl ho, hr.deep hl⟩)⟩
def sR2 : Str := ⟨#[114, 50]⟩
def badL : Ldg := ⟨[⟨⟨#[97]⟩, 30⟩], exL.brs, exL.evs⟩
def fA : Fx := ⟨3, 5, [sMain, sR1]⟩
def fB : Fx := ⟨1, 9, [sR1]⟩
theorem exX_e : exX = [fA, fB] := rfl
theorem bad_sz : LSz badL := ⟨by decide, by decide, by decide, by intro s hs; simp only [badL, exL, List.mem_cons, List.not_mem_nil, or_false] at hs; rcases hs with rfl | rfl <;> decide⟩
theorem chk_of {l : Ldg} {x : List Fx} {n : Int} (hz : LSz l) (hx : x.length ≤ 2^40) (hb : ∀ f ∈ x, f.brs.length ≤ 2^40) (h : mchk l x = n) : CallSpec cx 8 [encLdg l, encFxs x] (i64 n) := by
  have := m_Check l x hz hx hb
  rw [h] at this; exact this
theorem n1 : CallSpec cx 8 [encLdg badL, encFxs exX] (i64 8) := chk_of bad_sz (by decide) ex_fx (by decide +kernel)
theorem n2 : CallSpec cx 8 [encLdg exL, encFxs (List.replicate 31 ⟨0, 0, []⟩)] (i64 4) := chk_of ex_sz (by decide) (by intro f hf; rw [List.eq_of_mem_replicate hf]; decide) (by decide +kernel)
theorem n3 : CallSpec cx 8 [encLdg exL, encFxs [fA, ⟨30, 9, [sR1]⟩]] (i64 8) := chk_of ex_sz (by decide) (by decide) (by decide +kernel)
theorem n4 : CallSpec cx 8 [encLdg exL, encFxs [⟨3, 0, [sMain, sR1]⟩, fB]] (i64 8) := chk_of ex_sz (by decide) (by decide) (by decide +kernel)
theorem n5 : CallSpec cx 8 [encLdg exL, encFxs [⟨3, 10, [sMain, sR1]⟩, fB]] (i64 8) := chk_of ex_sz (by decide) (by decide) (by decide +kernel)
theorem n6 : CallSpec cx 8 [encLdg exL, encFxs [fA, ⟨1, 9, []⟩]] (i64 8) := chk_of ex_sz (by decide) (by decide) (by decide +kernel)
theorem n7 : CallSpec cx 8 [encLdg exL, encFxs [fA, ⟨1, 9, [sR2]⟩]] (i64 6) := chk_of ex_sz (by decide) (by decide) (by decide +kernel)
theorem n8 : CallSpec cx 8 [encLdg exL, encFxs [⟨3, 5, [sR1, sR1]⟩, fB]] (i64 14) := chk_of ex_sz (by decide) (by decide) (by decide +kernel)
theorem n9 : CallSpec cx 8 [encLdg exL, encFxs [fA, ⟨3, 9, [sR1]⟩]] (i64 14) := chk_of ex_sz (by decide) (by decide) (by decide +kernel)
theorem n1' : CallSpec cx 8 [.agg [encKws badL.known, encBrs badL.brs, .imm [[encEvs [⟨1, ⟨#[97]⟩⟩]], [.lit (.slice none 0 0)]] false], encFxs exX] (i64 8) := argAgg n1 (leTwo _ _ (leNil _))
theorem nilD : leD (.lit (.slice none 0 0)) (.imm [] false) := by simp [leD]
theorem leDR_rep {a b : List PV} (h : leDs a b) : ∀ n : Nat, leDR (List.replicate n a) (List.replicate n b)
  | 0 => by simp [leDR]
  | n + 1 => by
    simp only [List.replicate_succ, leDR]
    exact ⟨_, _, rfl, h, leDR_rep h n⟩
theorem n2' : CallSpec cx 8 [encLdg exL, .imm (List.replicate 31 [i64 0, i64 0, .lit (.slice none 0 0)]) false] (i64 4) := by
  refine n2.deepArgs ?_
  simp only [leDs]
  refine ⟨_, _, rfl, leD_refl _, _, _, rfl, ?_, rfl⟩
  rw [encFxs, List.map_replicate]
  simp only [leD]
  exact ⟨_, _, rfl, .inl rfl, leDR_rep (leTwo _ _ nilD) 31⟩
theorem n6' : CallSpec cx 8 [encLdg exL, .imm [cFx fA, [i64 1, i64 9, .lit (.slice none 0 0)]] false] (i64 8) := by
  refine n6.deepArgs ?_
  simp only [leDs]
  refine ⟨_, _, rfl, leD_refl _, _, _, rfl, ?_, rfl⟩
  rw [encFxs, List.map_cons, List.map_cons, List.map_nil]
  simp only [leD, leDR]
  exact ⟨_, _, rfl, .inl rfl, _, _, rfl, leDs_refl _, _, _, rfl, leTwo _ _ nilD, rfl⟩
theorem sc_of {b : Str} {n e : Int} (h : (if idx exL.brs b < 0 then ((0 : Int), (6 : Int)) else (scr exG b, 0)) = (n, e)) : CallSpec cx 9 [encLdg exL, encFxs exX, str b] (.tup [i64 n, i64 e]) := by
  have := m_Score exL exX b ex_sz (by decide) ex_fx
  rw [mscore, if_neg (by rw [Decidable.not_not]; exact ex_chk), ex_gap, h] at this
  exact this
theorem s1 : CallSpec cx 9 [encLdg exL, encFxs exX, str sR2] (.tup [i64 0, i64 6]) := sc_of (by decide +kernel)
theorem s2 : CallSpec cx 9 [encLdg exL, encFxs exX, str sMain] (.tup [i64 0, i64 0]) := sc_of (by decide +kernel)
theorem chk0 : mchk exL [] = 0 := by decide +kernel
theorem gap0 : gapL exL [] = [] := by rw [gapL_ref chk0]; kernel_rfl
theorem w1 : CallSpec cx 10 [encLdg exL, .lit (.slice none 0 0)] (.tup [str ⟨#[]⟩, i64 0, i64 6]) := by
  have := m_Worst exL [] ex_sz (by decide) (by decide)
  rw [mworst, if_neg (by rw [Decidable.not_not]; exact chk0), if_pos gap0] at this
  refine this.deepArgs ?_
  simp only [leDs]
  exact ⟨_, _, rfl, leD_refl _, _, _, rfl, by simp [leD, encFxs], rfl⟩
theorem t1 : CallSpec cx 12 [encLdg exL, .lit (.slice none 0 0)] (.tup [str ⟨#[]⟩, i64 0]) := by
  have := m_Text exL [] ex_sz (by decide) (by decide)
  rw [mtext, if_neg (by rw [Decidable.not_not]; exact chk0), gap0, mlines] at this
  refine this.deepArgs ?_
  simp only [leDs]
  exact ⟨_, _, rfl, leD_refl _, _, _, rfl, by simp [leD, encFxs], rfl⟩
theorem th_of {b : Str} {n : Int} {G : List Gp} {e : Int} (h : mthen exL exX b n = (G, e)) : CallSpec cx 11 [encLdg exL, encFxs exX, str b, i64 n] (.tup [newGps G, i64 e]) := by
  have := m_Then exL exX b n ex_sz (by decide) ex_fx
  rw [h] at this; exact this
theorem h1 : CallSpec cx 11 [encLdg exL, encFxs exX, str sR2, i64 0] (.tup [newGps [], i64 6]) := th_of (by kernel_rfl)
theorem h2 : CallSpec cx 11 [encLdg exL, encFxs exX, str sMain, i64 2] (.tup [newGps [], i64 2]) := th_of (by kernel_rfl)
theorem h3 : CallSpec cx 11 [encLdg exL, encFxs exX, str sMain, i64 (-1)] (.tup [newGps [], i64 2]) := th_of (by kernel_rfl)
theorem h4 : CallSpec cx 11 [encLdg exL, encFxs exX, str sMain, i64 0] (.tup [newGps [⟨sMain, 3, 5⟩], i64 0]) := th_of (by kernel_rfl)
theorem h5 : CallSpec cx 11 [encLdg exL, encFxs exX, str sMain, i64 1] (.tup [newGps [], i64 0]) := th_of (by kernel_rfl)
end Go.Ab
