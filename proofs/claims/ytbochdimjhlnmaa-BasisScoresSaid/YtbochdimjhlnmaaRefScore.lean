/-
  The reference's Score (remoraref22.Score): its walk computes the same plain function; and the chapter's small case.
-/
import Derived.Test.YtbochdimjhlnmaaScore
namespace Go.Proofs.Ytbochdimjhlnmaa
open Go.RowKit
set_option linter.unusedVariables false
set_option linter.unusedSimpArgs false

theorem tailS_empty (s : ByteArray) (hs : s.size ≤ maxLen) : (tailS s).toList.isEmpty = !hasPt s := by
  rw [str_empty]
  unfold tailS
  have hb := lastAt_bd s 46 s.size
  cases h : hasPt s with
  | false => simp; rfl
  | true =>
    simp only [hasPt, decide_eq_true_eq] at h
    simp; omega
theorem bonus_ref (a b : ByteArray) (ha : a.size ≤ maxLen) (hb : b.size ≤ maxLen) : bonus a b = (hasPt a && decide (tailS a = tailS b)) := by
  unfold bonus
  cases h : hasPt a with
  | false => simp
  | true =>
    by_cases e : tailS a = tailS b
    · have h1 := tailS_empty a ha
      have h2 := tailS_empty b hb
      rw [e, h2, h] at h1
      simp at h1
      simp [e, h1]
    · simp [e]

set_option maxHeartbeats 1000000 in
set_option maxRecDepth 100000 in
theorem refscore_calls (a b : ByteArray) (w : World) :
    Calls Try.prog 12 #[.string a, .string b] w fun e w' => e = .returned (.int .i64 (scoreF a b)) ∧ Below w.heap.size w w' := by
  unfold scoreF
  have ha := fun W => cut_calls a W
  have hb := fun W => cut_calls b W
  have hd := fun W => refapart_calls (cutS a) (cutS b) W
  rw [cutS_cut, cutS_cut] at hd
  have HA := cutS_size a
  have HB := cutS_size b
  generalize cutS a = A at *
  generalize cutS b = B at *
  have hA : A.size ≤ maxLen := by simp [maxLen]; omega
  have hB : B.size ≤ maxLen := by simp [maxLen]; omega
  have hx := fun W => refend_calls A W hA
  have hy := fun W => refend_calls B W hB
  have hw := worth_bd A B
  have d1 := dist_ge A B
  have d2 := dist_le A B
  have Ha := Lib.hid ha
  have Hb := Lib.hid hb
  have Hd := Lib.hid hd
  have Hx := Lib.hid hx
  have Hy := Lib.hid hy
  clear ha hb hd hx hy
  have hs : scoreC A B = if hasPt A && decide (tailS A = tailS B) then worth A B + 100 else worth A B := by rw [← bonus_ref A B hA hB]; rfl
  have hwd : worth A B = if mx A.size B.size = 0 then 1000 else 1000 * (mx A.size B.size - dist A B) / mx A.size B.size := rfl
  have hm1 : 0 ≤ mx (A.size : Int) (B.size : Int) := by rw [mx_max]; omega
  have hm2 : mx (A.size : Int) (B.size : Int) ≤ 200 := by rw [mx_max]; omega
  have hm3 : dist A B ≤ mx (A.size : Int) (B.size : Int) := by rw [mx_max]; omega
  have hemp := tailS_empty A hA
  generalize scoreC A B = sc at *
  generalize worth A B = wo at *
  generalize dist A B = d at *
  generalize hmx : mx (A.size : Int) (B.size : Int) = m at *
  generalize hasPt A = p at *
  generalize tailS A = x at *
  generalize tailS B = y at *
  have hxy : (x = y ∧ (x.toList == y.toList) = true) ∨ (¬ x = y ∧ (x.toList == y.toList) = false) := by
    rw [str_eq]
    by_cases h : x = y
    · exact .inl ⟨h, by simp [h]⟩
    · exact .inr ⟨h, by simp [h]⟩
  clear d2 hA hB
  by_cases hm0 : m = 0
  · subst hm0
    rw [if_pos rfl] at hwd
    subst hwd
    have Hs := Lib.hid hs
    clear hs
    cases p <;> rcases hxy with ⟨h1, h2⟩ | ⟨h1, h2⟩
    all_goals
      have Hs2 := Hs.out
      simp only [Bool.true_and, Bool.false_and, Bool.and_true, Bool.and_false, h1, decide_true, decide_false, if_true, if_false, Bool.false_eq_true] at Hs2
      replace Hs2 := Lib.hid Hs2
      simp only [Bool.not_true, Bool.not_false] at hemp
      clear Hs h1
      go_enter Try.func12, Try.ntmps12
      go_wp2_with fail
      refine (Ha.out _).mono ?_
      rintro e w1 ⟨rfl, rfl⟩
      go_wp2_with fail
      refine (Hb.out _).mono ?_
      rintro e w1 ⟨rfl, rfl⟩
      go_wp2_with fail
      refine (Hx.out _).mono ?_
      rintro e w1 ⟨rfl, rfl⟩
      go_wp2_with fail
      try (refine (Hx.out _).mono ?_; rintro e w1 ⟨rfl, rfl⟩; go_wp2_with fail; refine (Hy.out _).mono ?_; rintro e w1 ⟨rfl, rfl⟩; go_wp2)
      go_ret
      exact ⟨ret_int Hs2.out.symm, by first | exact HBL | exact Below.refl _ _⟩
  · rw [if_neg hm0] at hwd
    have hq0 : 0 ≤ 1000 * (m - d) / m := by rw [← hwd]; exact hw.1
    have hq1 : 1000 * (m - d) / m ≤ 1000 := by rw [← hwd]; exact hw.2
    have hmp : 0 < m := by omega
    subst hwd
    clear hw
    have Hs := Lib.hid hs
    clear hs
    cases p <;> rcases hxy with ⟨h1, h2⟩ | ⟨h1, h2⟩
    all_goals
      have Hs2 := Hs.out
      simp only [Bool.true_and, Bool.false_and, Bool.and_true, Bool.and_false, h1, decide_true, decide_false, if_true, if_false, Bool.false_eq_true] at Hs2
      replace Hs2 := Lib.hid Hs2
      simp only [Bool.not_true, Bool.not_false] at hemp
      clear Hs h1
      go_enter Try.func12, Try.ntmps12
      go_wp2_with fail
      refine (Ha.out _).mono ?_
      rintro e w1 ⟨rfl, rfl⟩
      go_wp2_with fail
      refine (Hb.out _).mono ?_
      rintro e w1 ⟨rfl, rfl⟩
      go_wp2_with fail
      refine (Hd.out _).mono ?_
      rintro e w1 ⟨rfl, HBL⟩
      go_wp2_with fail
      refine (Hx.out _).mono ?_
      rintro e w1 ⟨rfl, rfl⟩
      go_wp2_with fail
      try (refine (Hx.out _).mono ?_; rintro e w1 ⟨rfl, rfl⟩; go_wp2_with fail; refine (Hy.out _).mono ?_; rintro e w1 ⟨rfl, rfl⟩; go_wp2)
      go_ret
      exact ⟨ret_int Hs2.out.symm, by first | exact HBL | exact Below.refl _ _⟩

theorem awake_apart : dist (cutS ⟨#[107, 105, 116, 116, 101, 110]⟩) (cutS ⟨#[115, 105, 116, 116, 105, 110, 103]⟩) = 3 := by decide +kernel
theorem awake_score1 : scoreF ⟨#[97, 46, 116, 120, 116]⟩ ⟨#[98, 46, 116, 120, 116]⟩ = 900 := by decide +kernel
theorem awake_score2 : scoreF ⟨#[111, 108, 100, 46, 116, 120, 116]⟩ ⟨#[110, 101, 119, 46, 116, 120, 116]⟩ = 671 := by decide +kernel

set_option maxHeartbeats 1000000 in
theorem awake22_calls (w : World) : Calls Try.prog 13 #[] w fun e w' => e = .returned (.bool true) ∧ Below w.heap.size w w' := by
  go_enter Try.func13, Try.ntmps13
  go_wp2_with fail
  refine (apart_calls _ _ _).mono ?_
  rintro e w1 ⟨rfl, hb1⟩
  rw [awake_apart]
  go_wp2_with fail
  refine (score_calls _ _ _).mono ?_
  rintro e w2 ⟨rfl, hb2⟩
  rw [awake_score1]
  go_wp2_with fail
  refine (score_calls _ _ _).mono ?_
  rintro e w3 ⟨rfl, hb3⟩
  rw [awake_score2]
  go_wp2
  go_ret
  exact ⟨rfl, below_step (below_step hb1 hb2) hb3⟩
#print axioms awake22_calls
end Go.Proofs.Ytbochdimjhlnmaa
