import Derived.Test.YtlfllbelabkaeaaDoorEC
set_option linter.unusedSimpArgs false
set_option linter.unusedVariables false
set_option maxRecDepth 100000
namespace Go.Ab
open Go Go.Proofs W16

theorem nb0 : CallSpec cx 17 [.imm [[i64 10, .lit (.slice none 0 0)]] false] (i64 8) := by
  have h := d_Check ([(10, [])] : List Nd) (fits_d (by decide))
  rw [dcheck_eq, show dchkC ([(10, [])] : List Nd) = 8 from by decide +kernel] at h
  exact h.deepArgs (by simp [leD, leDR, leDs, encNs, encN, encLL, encL, exN, exR, i64, and_assoc])
theorem nr0 : CallSpec cx 15 [.imm [[i64 10, .lit (.slice none 0 0)]] false, .lit (.slice none 0 0)] (.tup [newI [], i64 8]) := by
  have h := d_Reach ([(10, [])] : List Nd) [] (fits_d (by decide)) (by decide)
  rw [rcV, both_eq, show bothC ([(10, [])] : List Nd) [[]] = 8 from by decide +kernel, if_neg (by decide)] at h
  exact h.deepArgs (by simp [leD, leDR, leDs, encNs, encN, encLL, encL, exN, exR, i64, and_assoc])
theorem nb1 : CallSpec cx 17 [.imm [[i64 (-1), .lit (.slice none 0 0)]] false] (i64 8) := by
  have h := d_Check ([(-1, [])] : List Nd) (fits_d (by decide))
  rw [dcheck_eq, show dchkC ([(-1, [])] : List Nd) = 8 from by decide +kernel] at h
  exact h.deepArgs (by simp [leD, leDR, leDs, encNs, encN, encLL, encL, exN, exR, i64, and_assoc])
theorem nr1 : CallSpec cx 15 [.imm [[i64 (-1), .lit (.slice none 0 0)]] false, .lit (.slice none 0 0)] (.tup [newI [], i64 8]) := by
  have h := d_Reach ([(-1, [])] : List Nd) [] (fits_d (by decide)) (by decide)
  rw [rcV, both_eq, show bothC ([(-1, [])] : List Nd) [[]] = 8 from by decide +kernel, if_neg (by decide)] at h
  exact h.deepArgs (by simp [leD, leDR, leDs, encNs, encN, encLL, encL, exN, exR, i64, and_assoc])
theorem nb2 : CallSpec cx 17 [.imm [[i64 0, .imm [[.imm [] false]] false]] false] (i64 8) := by
  have h := d_Check ([(0, [[]])] : List Nd) (fits_d (by decide))
  rw [dcheck_eq, show dchkC ([(0, [[]])] : List Nd) = 8 from by decide +kernel] at h
  exact h.deepArgs (by simp [leD, leDR, leDs, encNs, encN, encLL, encL, exN, exR, i64, and_assoc])
theorem nr2 : CallSpec cx 15 [.imm [[i64 0, .imm [[.imm [] false]] false]] false, .lit (.slice none 0 0)] (.tup [newI [], i64 8]) := by
  have h := d_Reach ([(0, [[]])] : List Nd) [] (fits_d (by decide)) (by decide)
  rw [rcV, both_eq, show bothC ([(0, [[]])] : List Nd) [[]] = 8 from by decide +kernel, if_neg (by decide)] at h
  exact h.deepArgs (by simp [leD, leDR, leDs, encNs, encN, encLL, encL, exN, exR, i64, and_assoc])
theorem nb3 : CallSpec cx 17 [.imm [[i64 0, .imm [[.imm [[i64 10]] false]] false]] false] (i64 8) := by
  have h := d_Check ([(0, [[10]])] : List Nd) (fits_d (by decide))
  rw [dcheck_eq, show dchkC ([(0, [[10]])] : List Nd) = 8 from by decide +kernel] at h
  exact h.deepArgs (by simp [leD, leDR, leDs, encNs, encN, encLL, encL, exN, exR, i64, and_assoc])
theorem nr3 : CallSpec cx 15 [.imm [[i64 0, .imm [[.imm [[i64 10]] false]] false]] false, .lit (.slice none 0 0)] (.tup [newI [], i64 8]) := by
  have h := d_Reach ([(0, [[10]])] : List Nd) [] (fits_d (by decide)) (by decide)
  rw [rcV, both_eq, show bothC ([(0, [[10]])] : List Nd) [[]] = 8 from by decide +kernel, if_neg (by decide)] at h
  exact h.deepArgs (by simp [leD, leDR, leDs, encNs, encN, encLL, encL, exN, exR, i64, and_assoc])
theorem nb4 : CallSpec cx 17 [.imm [[i64 0, .imm [[.imm [[i64 1]] false], [.imm [[i64 (-1)]] false]] false]] false] (i64 8) := by
  have h := d_Check ([(0, [[1], [-1]])] : List Nd) (fits_d (by decide))
  rw [dcheck_eq, show dchkC ([(0, [[1], [-1]])] : List Nd) = 8 from by decide +kernel] at h
  exact h.deepArgs (by simp [leD, leDR, leDs, encNs, encN, encLL, encL, exN, exR, i64, and_assoc])
theorem nr4 : CallSpec cx 15 [.imm [[i64 0, .imm [[.imm [[i64 1]] false], [.imm [[i64 (-1)]] false]] false]] false, .lit (.slice none 0 0)] (.tup [newI [], i64 8]) := by
  have h := d_Reach ([(0, [[1], [-1]])] : List Nd) [] (fits_d (by decide)) (by decide)
  rw [rcV, both_eq, show bothC ([(0, [[1], [-1]])] : List Nd) [[]] = 8 from by decide +kernel, if_neg (by decide)] at h
  exact h.deepArgs (by simp [leD, leDR, leDs, encNs, encN, encLL, encL, exN, exR, i64, and_assoc])
theorem n5 : CallSpec cx 17 [.imm [[i64 0, .lit (.slice none 0 0)], [i64 0, .lit (.slice none 0 0)], [i64 0, .lit (.slice none 0 0)], [i64 0, .lit (.slice none 0 0)], [i64 0, .lit (.slice none 0 0)], [i64 0, .lit (.slice none 0 0)], [i64 0, .lit (.slice none 0 0)], [i64 0, .lit (.slice none 0 0)], [i64 0, .lit (.slice none 0 0)], [i64 0, .lit (.slice none 0 0)], [i64 0, .lit (.slice none 0 0)]] false] (i64 4) := by
  have h := d_Check ([(0, []), (0, []), (0, []), (0, []), (0, []), (0, []), (0, []), (0, []), (0, []), (0, []), (0, [])] : List Nd) (fits_d (by decide))
  rw [dcheck_eq, show dchkC ([(0, []), (0, []), (0, []), (0, []), (0, []), (0, []), (0, []), (0, []), (0, []), (0, []), (0, [])] : List Nd) = 4 from by decide +kernel] at h
  exact h.deepArgs (by simp [leD, leDR, leDs, encNs, encN, encLL, encL, exN, exR, i64, and_assoc])
theorem n6 : CallSpec cx 17 [.imm [[i64 0, .imm [[.lit (.slice none 0 0)], [.lit (.slice none 0 0)], [.lit (.slice none 0 0)], [.lit (.slice none 0 0)], [.lit (.slice none 0 0)]] false]] false] (i64 4) := by
  have h := d_Check ([(0, [[], [], [], [], []])] : List Nd) (fits_d (by decide))
  rw [dcheck_eq, show dchkC ([(0, [[], [], [], [], []])] : List Nd) = 4 from by decide +kernel] at h
  exact h.deepArgs (by simp [leD, leDR, leDs, encNs, encN, encLL, encL, exN, exR, i64, and_assoc])
theorem n7 : CallSpec cx 17 [.imm [[i64 0, .imm [[.imm [[i64 0], [i64 0], [i64 0], [i64 0], [i64 0]] false]] false]] false] (i64 4) := by
  have h := d_Check ([(0, [[0, 0, 0, 0, 0]])] : List Nd) (fits_d (by decide))
  rw [dcheck_eq, show dchkC ([(0, [[0, 0, 0, 0, 0]])] : List Nd) = 4 from by decide +kernel] at h
  exact h.deepArgs (by simp [leD, leDR, leDs, encNs, encN, encLL, encL, exN, exR, i64, and_assoc])
theorem n8 : CallSpec cx 17 [.imm [[i64 1, .lit (.slice none 0 0)], [i64 1, .lit (.slice none 0 0)]] false] (i64 14) := by
  have h := d_Check ([(1, []), (1, [])] : List Nd) (fits_d (by decide))
  rw [dcheck_eq, show dchkC ([(1, []), (1, [])] : List Nd) = 14 from by decide +kernel] at h
  exact h.deepArgs (by simp [leD, leDR, leDs, encNs, encN, encLL, encL, exN, exR, i64, and_assoc])
theorem n9 : CallSpec cx 17 [.imm [[i64 0, .imm [[.imm [[i64 1], [i64 2], [i64 1]] false]] false]] false] (i64 14) := by
  have h := d_Check ([(0, [[1, 2, 1]])] : List Nd) (fits_d (by decide))
  rw [dcheck_eq, show dchkC ([(0, [[1, 2, 1]])] : List Nd) = 14 from by decide +kernel] at h
  exact h.deepArgs (by simp [leD, leDR, leDs, encNs, encN, encLL, encL, exN, exR, i64, and_assoc])
theorem n10 : CallSpec cx 11 [.lit (.slice none 0 0), .lit (.slice none 0 0), i64 10] (.tup [bl false, i64 2]) := by
  have h := d_Ready ([] : List Nd) [] (fits_d (by decide)) (by decide) 10
  rw [rdV, rdE, both_eq, show bothC ([] : List Nd) [[]] = 0 from by decide +kernel] at h
  exact h.deepArgs (by simp [leD, leDR, leDs, encNs, encN, encLL, encL, exN, exR, i64, and_assoc])
theorem n12 : CallSpec cx 11 [.lit (.slice none 0 0), .imm [[i64 1], [i64 1]] false, i64 0] (.tup [bl false, i64 2]) := by
  have h := d_Ready ([] : List Nd) [1, 1] (fits_d (by decide)) (by decide) 0
  rw [rdV, rdE, both_eq, show bothC ([] : List Nd) [[1, 1]] = 2 from by decide +kernel] at h
  exact h.deepArgs (by simp [leD, leDR, leDs, encNs, encN, encLL, encL, exN, exR, i64, and_assoc])
theorem n14 : CallSpec cx 13 [.lit (.slice none 0 0), .imm [[i64 2], [i64 1]] false, .lit (.slice none 0 0)] (.tup [bl false, i64 2]) := by
  have h := d_Is ([] : List Nd) [2, 1] (fits_d (by decide)) (by decide) [] (by decide)
  rw [show isV ([] : List Nd) [2, 1] [] = false from by rw [isV, both_eq, show bothC ([] : List Nd) [[2, 1]] = 2 from by decide +kernel]; decide +kernel, show isE ([] : List Nd) [2, 1] [] = 2 from by rw [isE, both_eq, show bothC ([] : List Nd) [[2, 1]] = 2 from by decide +kernel]; decide +kernel] at h
  exact h.deepArgs (by simp [leD, leDR, leDs, encNs, encN, encLL, encL, exN, exR, i64, and_assoc])
theorem n16 : CallSpec cx 13 [.lit (.slice none 0 0), .lit (.slice none 0 0), .imm [[i64 0], [i64 0], [i64 0], [i64 0], [i64 0], [i64 0], [i64 0], [i64 0], [i64 0], [i64 0], [i64 0]] false] (.tup [bl false, i64 4]) := by
  have h := d_Is ([] : List Nd) [] (fits_d (by decide)) (by decide) [0, 0, 0, 0, 0, 0, 0, 0, 0, 0, 0] (by decide)
  rw [show isV ([] : List Nd) [] [0, 0, 0, 0, 0, 0, 0, 0, 0, 0, 0] = false from by rw [isV, both_eq, show bothC ([] : List Nd) [[]] = 0 from by decide +kernel]; decide +kernel, show isE ([] : List Nd) [] [0, 0, 0, 0, 0, 0, 0, 0, 0, 0, 0] = 4 from by rw [isE, both_eq, show bothC ([] : List Nd) [[]] = 0 from by decide +kernel]; decide +kernel] at h
  exact h.deepArgs (by simp [leD, leDR, leDs, encNs, encN, encLL, encL, exN, exR, i64, and_assoc])
theorem n32 : CallSpec cx 13 [.lit (.slice none 0 0), .lit (.slice none 0 0), .imm [[i64 1], [i64 1]] false] (.tup [bl false, i64 0]) := by
  have h := d_Is ([] : List Nd) [] (fits_d (by decide)) (by decide) [1, 1] (by decide)
  rw [show isV ([] : List Nd) [] [1, 1] = false from by rw [isV, both_eq, show bothC ([] : List Nd) [[]] = 0 from by decide +kernel]; decide +kernel, show isE ([] : List Nd) [] [1, 1] = 0 from by rw [isE, both_eq, show bothC ([] : List Nd) [[]] = 0 from by decide +kernel]; decide +kernel] at h
  exact h.deepArgs (by simp [leD, leDR, leDs, encNs, encN, encLL, encL, exN, exR, i64, and_assoc])
theorem n34 : CallSpec cx 13 [.lit (.slice none 0 0), .lit (.slice none 0 0), .imm [[i64 10]] false] (.tup [bl false, i64 0]) := by
  have h := d_Is ([] : List Nd) [] (fits_d (by decide)) (by decide) [10] (by decide)
  rw [show isV ([] : List Nd) [] [10] = false from by rw [isV, both_eq, show bothC ([] : List Nd) [[]] = 0 from by decide +kernel]; decide +kernel, show isE ([] : List Nd) [] [10] = 0 from by rw [isE, both_eq, show bothC ([] : List Nd) [[]] = 0 from by decide +kernel]; decide +kernel] at h
  exact h.deepArgs (by simp [leD, leDR, leDs, encNs, encN, encLL, encL, exN, exR, i64, and_assoc])
theorem n18 : CallSpec cx 15 [.lit (.slice none 0 0), .imm [[i64 10]] false] (.tup [newI [], i64 2]) := by
  have h := d_Reach ([] : List Nd) [10] (fits_d (by decide)) (by decide)
  rw [rcV, both_eq, show bothC ([] : List Nd) [[10]] = 2 from by decide +kernel, if_neg (by decide)] at h
  exact h.deepArgs (by simp [leD, leDR, leDs, encNs, encN, encLL, encL, exN, exR, i64, and_assoc])
theorem n20 : CallSpec cx 20 [.lit (.slice none 0 0), .lit (.slice none 0 0), .imm [[i64 (-1)]] false] (.tup [encL [], i64 2]) := by
  have h := d_Order ([] : List Nd) [] [-1] (fits_d (by decide)) (by decide) (by decide)
  rw [show orV ([] : List Nd) [] [-1] = [] from by unfold orV; rw [both_eq]; decide +kernel, show orE ([] : List Nd) [] [-1] = 2 from by unfold orE; rw [both_eq]; decide +kernel] at h
  exact h.deepArgs (by simp [leD, leDR, leDs, encNs, encN, encLL, encL, exN, exR, i64, and_assoc])
theorem n22 : CallSpec cx 20 [.lit (.slice none 0 0), .imm [[i64 2]] false, .imm [[i64 1], [i64 2]] false] (.tup [encL [], i64 14]) := by
  have h := d_Order ([] : List Nd) [2] [1, 2] (fits_d (by decide)) (by decide) (by decide)
  rw [show orV ([] : List Nd) [2] [1, 2] = [] from by unfold orV; rw [both_eq]; decide +kernel, show orE ([] : List Nd) [2] [1, 2] = 14 from by unfold orE; rw [both_eq]; decide +kernel] at h
  exact h.deepArgs (by simp [leD, leDR, leDs, encNs, encN, encLL, encL, exN, exR, i64, and_assoc])
theorem n24 : CallSpec cx 20 [.imm exR false, .lit (.slice none 0 0), .imm [[i64 1], [i64 3]] false] (.tup [encL [], i64 32]) := by
  have h := d_Order (exN : List Nd) [] [1, 3] (fits_d (by decide)) (by decide) (by decide)
  rw [show orV (exN : List Nd) [] [1, 3] = [] from by unfold orV; rw [both_eq]; decide +kernel, show orE (exN : List Nd) [] [1, 3] = 32 from by unfold orE; rw [both_eq]; decide +kernel] at h
  exact h.deepArgs (by simp [leD, leDR, leDs, encNs, encN, encLL, encL, exN, exR, i64, and_assoc])
theorem n26 : CallSpec cx 22 [.lit (.slice none 0 0), .lit (.slice none 0 0), .imm [[i64 3], [i64 3]] false] (.tup [encL [], i64 2]) := by
  have h := d_Plan ([] : List Nd) [] [3, 3] (fits_d (by decide)) (by decide) (by decide)
  have e : plV ([] : List Nd) [] [3, 3] = [] ∧ plE ([] : List Nd) [] [3, 3] = 2 := by unfold plV plE; rw [both_eq, show bothC ([] : List Nd) [[], [3, 3]] = 2 from by decide +kernel]; exact ⟨rfl, rfl⟩
  rw [e.1, e.2] at h
  exact h.deepArgs (by simp [leD, leDR, leDs, encNs, encN, encLL, encL, exN, exR, i64, and_assoc])
theorem n28 : CallSpec cx 22 [.imm [[i64 1, .imm [[.imm [[i64 1]] false]] false]] false, .lit (.slice none 0 0), .imm [[i64 1]] false] (.tup [encL [], i64 6]) := by
  have h := d_Plan ([(1, [[1]])] : List Nd) [] [1] (fits_d (by decide)) (by decide) (by decide)
  have e : plV ([(1, [[1]])] : List Nd) [] [1] = [] ∧ plE ([(1, [[1]])] : List Nd) [] [1] = 6 := by
    have := plan_none (l := [(1, [[1]])]) (B := ofL []) (G := plG [] [1]) (by unfold plG; decide +kernel)
    unfold plV plE; rw [both_eq, show bothC ([(1, [[1]])] : List Nd) [[], [1]] = 0 from by decide +kernel]; exact this
  rw [e.1, e.2] at h
  exact h.deepArgs (by simp [leD, leDR, leDs, encNs, encN, encLL, encL, exN, exR, i64, and_assoc])
theorem n30 : CallSpec cx 22 [.imm exR false, .imm [[i64 3]] false, .imm [[i64 3]] false] (.tup [encL [], i64 0]) := by
  have h := d_Plan (exN : List Nd) [3] [3] (fits_d (by decide)) (by decide) (by decide)
  have e : plV (exN : List Nd) [3] [3] = [] ∧ plE (exN : List Nd) [3] [3] = 0 := plV_at (r := 0#16) (by decide +kernel) (by decide +kernel)
  rw [e.1, e.2] at h
  exact h.deepArgs (by simp [leD, leDR, leDs, encNs, encN, encLL, encL, exN, exR, i64, and_assoc])
theorem n36 : CallSpec cx 22 [.lit (.slice none 0 0), .lit (.slice none 0 0), .imm [[i64 0], [i64 1], [i64 2], [i64 3], [i64 4], [i64 5], [i64 6], [i64 7], [i64 8], [i64 9]] false] (.tup [encL [0, 1, 2, 3, 4, 5, 6, 7, 8, 9], i64 0]) := by
  have h := d_Plan ([] : List Nd) [] [0, 1, 2, 3, 4, 5, 6, 7, 8, 9] (fits_d (by decide)) (by decide) (by decide)
  have e : plV ([] : List Nd) [] [0, 1, 2, 3, 4, 5, 6, 7, 8, 9] = [0, 1, 2, 3, 4, 5, 6, 7, 8, 9] ∧ plE ([] : List Nd) [] [0, 1, 2, 3, 4, 5, 6, 7, 8, 9] = 0 := plV_at (r := 1023#16) (by decide +kernel) (by decide +kernel)
  rw [e.1, e.2] at h
  exact h.deepArgs (by simp [leD, leDR, leDs, encNs, encN, encLL, encL, exN, exR, i64, and_assoc])
end Go.Ab
