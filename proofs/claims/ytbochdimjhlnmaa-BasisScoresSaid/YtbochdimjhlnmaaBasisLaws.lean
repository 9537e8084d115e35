/-
  The four laws of layer 22 over strings alone: their walks, out of the contracts.
-/
import Derived.Test.YtbochdimjhlnmaaRefScore
namespace Go.Proofs.Ytbochdimjhlnmaa
open Go.RowKit
set_option linter.unusedVariables false
set_option linter.unusedSimpArgs false

set_option maxHeartbeats 1000000 in
theorem basisApart_walk (a b : ByteArray) (w : World) (_ : a.size ≤ 140737488351232) (_ : b.size ≤ 140737488351232) :
    Calls Try.prog 3 #[.string a, .string b] w fun e w' => e = .returned (.bool true) ∧ Below w.heap.size w w' := by
  go_enter Try.func3, Try.ntmps3
  go_wp2_with fail
  refine (apart_calls a b _).mono ?_
  rintro e w1 ⟨rfl, hb1⟩
  go_wp2_with fail
  refine (refapart_calls a b _).mono ?_
  rintro e w2 ⟨rfl, hb2⟩
  go_wp2_with fail
  refine (score_calls a b _).mono ?_
  rintro e w3 ⟨rfl, hb3⟩
  go_wp2_with fail
  refine (refscore_calls a b _).mono ?_
  rintro e w4 ⟨rfl, hb4⟩
  go_wp2_with fail
  refine (awake22_calls _).mono ?_
  rintro e w5 ⟨rfl, hb5⟩
  go_wp2
  go_ret
  exact ⟨rfl, below_step (below_step (below_step (below_step hb1 hb2) hb3) hb4) hb5⟩

theorem cutS_short {s : ByteArray} (h : s.size ≤ 200) : cutS s = s := by unfold cutS; rw [show min s.size 200 = s.size by omega, extract_whole]
theorem apart_short {a b : ByteArray} (ha : a.size ≤ 200) (hb : b.size ≤ 200) (w : World) :
    Calls Try.prog 9 #[.string a, .string b] w fun e w' => e = .returned (.int .i64 (dist a b)) ∧ Below w.heap.size w w' := by
  have h := apart_calls a b w
  rwa [cutS_short ha, cutS_short hb] at h

set_option maxHeartbeats 2000000 in
theorem basisWay_walk (a b c : ByteArray) (w : World) (_ : a.size ≤ 140737488351232) (_ : b.size ≤ 140737488351232) (_ : c.size ≤ 140737488351232) :
    Calls Try.prog 4 #[.string a, .string b, .string c] w fun e w' => e = .returned (.bool true) ∧ Below w.heap.size w w' := by
  by_cases hs : a.size ≤ 200 ∧ b.size ≤ 200 ∧ c.size ≤ 200
  · obtain ⟨ha, hb, hc⟩ := hs
    have c1 := fun W => apart_short ha hb W
    have c2 := fun W => apart_short hb hc W
    have c3 := fun W => apart_short ha hc W
    have c4 := fun W => apart_short hb ha W
    simp only [dist_comm b a] at c4
    have t1 := dist_tri a b c
    have t2 := dist_tri a c b
    rw [dist_comm c b] at t2
    have l1 := dist_len a b
    have l2 := dist_len b a
    rw [dist_comm b a] at l2
    have l3 : dist a b ≤ mx (a.size : Int) (b.size : Int) := by rw [mx_max]; exact dist_le a b
    have g1 := dist_ge a b
    have g2 := dist_ge b c
    have g3 := dist_ge a c
    have m2 := dist_le b c
    have m1 := dist_le a b
    have m3 := dist_le a c
    have he : ((dist a b == 0) = true ∧ (a.toList == b.toList) = true) ∨ ((dist a b == 0) = false ∧ (a.toList == b.toList) = false) := by
      rw [str_eq]
      by_cases h : a = b
      · subst h; exact .inl ⟨by rw [dist_self]; rfl, by simp⟩
      · exact .inr ⟨by rw [beq_eq_false_iff_ne]; exact fun hh => h (dist_eq hh), by simp [h]⟩
    generalize dist a b = n at *
    generalize dist b c = m at *
    generalize dist a c = k at *
    have C1 := Lib.hid c1
    have C2 := Lib.hid c2
    have C3 := Lib.hid c3
    have C4 := Lib.hid c4
    clear c1 c2 c3 c4
    rcases he with ⟨e1, e2⟩ | ⟨e1, e2⟩
    all_goals
      go_enter Try.func4, Try.ntmps4
      go_wp2_with fail
      refine (C1.out _).mono ?_
      rintro e w1 ⟨rfl, hb1⟩
      go_wp2_with fail
      refine (C2.out _).mono ?_
      rintro e w2 ⟨rfl, hb2⟩
      go_wp2_with fail
      refine (C3.out _).mono ?_
      rintro e w3 ⟨rfl, hb3⟩
      go_wp2_with fail
      refine (C4.out _).mono ?_
      rintro e w4 ⟨rfl, hb4⟩
      go_wp2_with fail
      refine (awake22_calls _).mono ?_
      rintro e w5 ⟨rfl, hb5⟩
      go_wp2
      go_ret
      exact ⟨rfl, below_step (below_step (below_step (below_step hb1 hb2) hb3) hb4) hb5⟩
  · by_cases h1 : 200 < a.size
    · go_enter Try.func4, Try.ntmps4
      go_wp2_with fail
      refine (awake22_calls _).mono ?_
      rintro e w5 ⟨rfl, hb5⟩
      go_wp2
      go_ret
      exact ⟨rfl, hb5⟩
    · by_cases h2 : 200 < b.size
      · go_enter Try.func4, Try.ntmps4
        go_wp2_with fail
        refine (awake22_calls _).mono ?_
        rintro e w5 ⟨rfl, hb5⟩
        go_wp2
        go_ret
        exact ⟨rfl, hb5⟩
      · have h3 : 200 < c.size := by omega
        clear hs
        go_enter Try.func4, Try.ntmps4
        go_wp2_with fail
        refine (awake22_calls _).mono ?_
        rintro e w5 ⟨rfl, hb5⟩
        go_wp2
        go_ret
        exact ⟨rfl, hb5⟩

#print axioms basisWay_walk
end Go.Proofs.Ytbochdimjhlnmaa
