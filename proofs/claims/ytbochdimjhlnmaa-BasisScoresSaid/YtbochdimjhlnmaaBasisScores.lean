/-
  BasisScores: how alike two texts are does not hang on the order, is from 0 to 1100, and 1000 of like ones, with a point 1100.
-/
import Derived.Test.YtbochdimjhlnmaaBasisLaws
namespace Go.Proofs.Ytbochdimjhlnmaa
open Go.RowKit
set_option linter.unusedVariables false
set_option linter.unusedSimpArgs false

theorem mx_comm (a b : Int) : mx a b = mx b a := by unfold mx; split <;> split <;> omega
theorem worth_comm (a b : ByteArray) : worth a b = worth b a := by unfold worth; rw [mx_comm, dist_comm]
theorem bonus_comm (a b : ByteArray) : bonus a b = bonus b a := by
  unfold bonus
  rw [Bool.and_comm (hasPt a)]
  congr 1
  simp only [eq_comm]
theorem score_comm (a b : ByteArray) : scoreF a b = scoreF b a := by unfold scoreF scoreC; rw [worth_comm, bonus_comm]
theorem score_bd (a b : ByteArray) : 0 ≤ scoreF a b ∧ scoreF a b ≤ 1100 := by
  unfold scoreF scoreC
  have := worth_bd (cutS a) (cutS b)
  split <;> omega
theorem worth_self (a : ByteArray) : worth a a = 1000 := by
  unfold worth
  rw [dist_self]
  split
  · rfl
  · rename_i h
    rw [Int.sub_zero, Int.mul_ediv_cancel _ h]
theorem score_self (a : ByteArray) : scoreF a a = if hasPt (cutS a) then 1100 else 1000 := by
  unfold scoreF scoreC
  rw [worth_self]
  simp [bonus]

def anyPt (s : ByteArray) : Nat → Bool
  | 0 => false
  | k + 1 => anyPt s k || bt s k == 46
theorem anyPt_last (s : ByteArray) : ∀ n, decide (0 ≤ lastAt s 46 n) = anyPt s n
  | 0 => by simp [lastAt, anyPt]
  | n + 1 => by
    simp only [lastAt, anyPt]
    rw [← anyPt_last s n]
    by_cases h : bt s n = 46
    · simp [h]
    · simp [h]
theorem bt_cut (s : ByteArray) (i : Nat) (h : i < (cutS s).size) : bt (cutS s) i = bt s i := by
  have h2 : (cutS s).size = min s.size 200 := by unfold cutS; simp
  unfold bt
  rw [dif_pos h, dif_pos (by omega)]
  simp [cutS, ByteArray.getElem_eq_getElem_data]
theorem anyPt_cut (s : ByteArray) : ∀ k, k ≤ (cutS s).size → anyPt (cutS s) k = anyPt s k
  | 0, _ => rfl
  | k + 1, h => by simp only [anyPt]; rw [anyPt_cut s k (by omega), bt_cut s k (by omega)]
theorem hasPt_cut (s : ByteArray) : hasPt (cutS s) = anyPt s (min s.size 200) := by
  have h2 : (cutS s).size = min s.size 200 := by unfold cutS; simp
  unfold hasPt
  rw [anyPt_last, ← h2, anyPt_cut s _ (Nat.le_refl _)]

set_option maxHeartbeats 2000000 in
set_option maxRecDepth 100000 in
theorem basisScores_walk (a b : ByteArray) (w : World) (_ : a.size ≤ 140737488351232) (_ : b.size ≤ 140737488351232) :
    Calls Try.prog 6 #[.string a, .string b] w fun e w' => e = .returned (.bool true) ∧ Below w.heap.size w w' := by
  have c1 := fun W => score_calls a b W
  have c2 := fun W => score_calls b a W
  have c3 := fun W => score_calls a a W
  simp only [score_comm b a] at c2
  have bd := score_bd a b
  have own := score_self a
  rw [hasPt_cut] at own
  generalize scoreF a b = n at *
  generalize scoreF a a = z at *
  have C1 := Lib.hid c1
  have C2 := Lib.hid c2
  have C3 := Lib.hid c3
  have Own := Lib.hid own
  clear c1 c2 c3 own
  go_enter Try.func6, Try.ntmps6
  go_wp2_with fail
  refine (C1.out _).mono ?_
  rintro e w1 ⟨rfl, hb1⟩
  go_wp2
  go_loop [6, 7] (fun p i => ∃ k : Nat, k ≤ a.size ∧ k ≤ 200 ∧ i = .int .i64 k ∧ p = .bool (anyPt a k)) (fun _ i => 200 - (intOf i).toNat)
  case atStart => exact ⟨0, by omega, by omega, rfl, rfl⟩
  case round =>
    obtain ⟨k, hk1, hk2, rfl, rfl⟩ := hrel
    by_cases hl : k < a.size ∧ k < 200
    · obtain ⟨h1, h2⟩ := hl
      have hb := bt_at a k h1
      have hs : anyPt a (k + 1) = (anyPt a k || bt a k == 46) := rfl
      have Hs := Lib.hid hs
      clear hs
      generalize anyPt a k = p at *
      cases p with
      | true =>
        go_wp2
        go_round
        case rel => exact ⟨k + 1, by omega, by omega, by go_num, by rw [Hs.out]; rfl⟩
        case measure => simp [intOf]; omega
      | false =>
        go_wp2
        go_round
        case rel => exact ⟨k + 1, by omega, by omega, by go_num, by rw [Hs.out]; rfl⟩
        case measure => simp [intOf]; omega
    · have hke : k = min a.size 200 := by omega
      have Own2 : Hid (z = if anyPt a k then 1100 else 1000) := by rw [hke]; exact Own
      clear Own hke
      generalize anyPt a k = p at *
      have hlt : (k < a.size ∧ ¬ k < 200) ∨ ¬ k < a.size := by omega
      clear hl
      cases p with
      | true =>
        have hz : (z == 1100) = true := by rw [Own2.out]; rfl
        clear Own2
        rcases hlt with ⟨h1, h2⟩ | h1
        all_goals
          go_wp2_with fail
          refine (C2.out _).mono ?_
          rintro e w2 ⟨rfl, hb2⟩
          go_wp2_with fail
          refine (C3.out _).mono ?_
          rintro e w3 ⟨rfl, hb3⟩
          go_wp2_with fail
          refine (awake22_calls _).mono ?_
          rintro e w4 ⟨rfl, hb4⟩
          go_wp2
          go_ret
          exact ⟨rfl, below_step (below_step (below_step hb1 hb2) hb3) hb4⟩
      | false =>
        have hz : (z == 1000) = true := by rw [Own2.out]; rfl
        clear Own2
        rcases hlt with ⟨h1, h2⟩ | h1
        all_goals
          go_wp2_with fail
          refine (C2.out _).mono ?_
          rintro e w2 ⟨rfl, hb2⟩
          go_wp2_with fail
          refine (C3.out _).mono ?_
          rintro e w3 ⟨rfl, hb3⟩
          go_wp2_with fail
          refine (awake22_calls _).mono ?_
          rintro e w4 ⟨rfl, hb4⟩
          go_wp2
          go_ret
          exact ⟨rfl, below_step (below_step (below_step hb1 hb2) hb3) hb4⟩
#print axioms basisScores_walk
end Go.Proofs.Ytbochdimjhlnmaa
