/-
  Score: the walks of the program's and of the reference's, and of what they call; both compute one plain function.
-/
import Derived.Test.YtbochdimjhlnmaaRefApart
import Derived.Test.YtbochdimjhlnmaaDist
namespace Go.Proofs.Ytbochdimjhlnmaa
open Go.RowKit
set_option linter.unusedVariables false
set_option linter.unusedSimpArgs false

/-- The last place of a byte among the first n; -1: none. -/
def lastAt (s : ByteArray) (c : Int) : Nat → Int
  | 0 => -1
  | n + 1 => if bt s n = c then (n : Int) else lastAt s c n
theorem lastAt_bd (s : ByteArray) (c : Int) : ∀ n, -1 ≤ lastAt s c n ∧ lastAt s c n < n
  | 0 => by simp [lastAt]
  | n + 1 => by
    have := lastAt_bd s c n
    simp only [lastAt]
    split <;> omega

set_option maxHeartbeats 1000000 in
set_option maxRecDepth 100000 in
theorem lastbyte_calls (s : ByteArray) (c : Int) (w : World) (hs : s.size ≤ maxLen) :
    Calls Try.prog 60 #[.string s, .int .u8 c] w fun e w' => e = .returned (.int .i64 (lastAt s c s.size)) ∧ w = w' := by
  unfold maxLen at hs
  go_enter Try.func60, Try.ntmps60
  go_wp2
  go_loop [5] (fun i => ∃ k : Nat, k ≤ s.size ∧ i = .int .i64 ((k : Int) - 1) ∧ Hid (lastAt s c s.size = lastAt s c k)) (fun i => (intOf i + 1).toNat)
  case atStart => exact ⟨s.size, Nat.le_refl _, rfl, rfl⟩
  case round =>
    obtain ⟨k, hk, rfl, hl⟩ := hrel
    by_cases hz : k = 0
    · subst hz
      have h1 : ¬ (0 ≤ ((0 : Nat) : Int) - 1) := by omega
      go_wp2
      go_ret
      exact ⟨ret_int (by rw [hl.out]; rfl), rfl⟩
    · obtain ⟨j, rfl⟩ : ∃ j, k = j + 1 := ⟨k - 1, by omega⟩
      have e : ((j + 1 : Nat) : Int) - 1 = (j : Int) := by omega
      rw [e]
      clear e
      have hb := bt_at s j (by omega)
      have hj : j < s.size := by omega
      have hl2 : Hid (lastAt s c s.size = if bt s j = c then (j : Int) else lastAt s c j) := hl
      clear hl hz
      by_cases hc : bt s j = c
      · have hc1 : (bt s j == c) = true := by simpa using hc
        have hl3 : Hid (lastAt s c s.size = (j : Int)) := by rw [hl2.out, if_pos hc]; exact Lib.hid rfl
        clear hl2 hc
        go_wp2
        go_ret
        exact ⟨ret_int hl3.out.symm, rfl⟩
      · have hc1 : (bt s j == c) = false := by simpa using hc
        have hl3 : Hid (lastAt s c s.size = lastAt s c j) := by rw [hl2.out, if_neg hc]; exact Lib.hid rfl
        clear hl2 hc
        go_wp2
        go_round
        case rel => exact ⟨j, by omega, rfl, hl3⟩
        case measure => simp [intOf]
theorem last_calls (s : ByteArray) (c : Int) (w : World) (hs : s.size ≤ maxLen) :
    Calls Try.prog 44 #[.string s, .int .u8 c] w fun e w' => e = .returned (.int .i64 (lastAt s c s.size)) ∧ w = w' := by
  go_enter Try.func44, Try.ntmps44
  go_wp2_with fail
  refine (lastbyte_calls s c _ hs).mono ?_
  rintro e w1 ⟨rfl, rfl⟩
  go_wp2
  go_ret
  exact ⟨rfl, rfl⟩

def hasPt (s : ByteArray) : Bool := decide (0 ≤ lastAt s 46 s.size)
def tailS (s : ByteArray) : ByteArray := if hasPt s then s.extract (lastAt s 46 s.size).toNat s.size else ⟨#[]⟩
#print axioms last_calls

set_option maxHeartbeats 1000000 in
set_option maxRecDepth 100000 in
theorem end_calls (s : ByteArray) (w : World) (hs : s.size ≤ maxLen) :
    Calls Try.prog 25 #[.string s] w fun e w' => e = .returned (.tuple #[.string (tailS s), .bool (hasPt s)]) ∧ w = w' := by
  have hb := lastAt_bd s 46 s.size
  have hl := last_calls s 46 w hs
  have hm := hs
  unfold maxLen at hm
  by_cases h : 0 ≤ lastAt s 46 s.size
  · have e1 : tailS s = s.extract (lastAt s 46 s.size).toNat s.size := by simp [tailS, hasPt, h]
    have e2 : hasPt s = true := by simp [hasPt, h]
    rw [e1, e2]
    clear e1 e2
    generalize lastAt s 46 s.size = n at *
    obtain ⟨n, rfl⟩ := Int.eq_ofNat_of_zero_le h
    have Hl := Lib.hid hl
    clear hl
    go_enter Try.func25, Try.ntmps25
    go_wp2_with fail
    refine Hl.out.mono ?_
    rintro e w1 ⟨rfl, rfl⟩
    go_wp2
    go_ret2
    exact ⟨rfl, rfl⟩
  · have e1 : tailS s = ⟨#[]⟩ := by simp [tailS, hasPt, h]
    have e2 : hasPt s = false := by simp [hasPt, h]
    rw [e1, e2]
    clear e1 e2
    generalize lastAt s 46 s.size = n at *
    obtain rfl : n = -1 := by omega
    have Hl := Lib.hid hl
    clear hl
    go_enter Try.func25, Try.ntmps25
    go_wp2_with fail
    refine Hl.out.mono ?_
    rintro e w1 ⟨rfl, rfl⟩
    go_wp2
    go_ret2
    exact ⟨rfl, rfl⟩
#print axioms end_calls

set_option maxHeartbeats 1000000 in
set_option maxRecDepth 100000 in
theorem refend_calls (s : ByteArray) (w : World) (hs : s.size ≤ maxLen) :
    Calls Try.prog 26 #[.string s] w fun e w' => e = .returned (.string (tailS s)) ∧ w = w' := by
  unfold maxLen at hs
  have hd : Hid (tailS s = if 0 ≤ lastAt s 46 s.size then s.extract (lastAt s 46 s.size).toNat s.size else ⟨#[]⟩) := by simp [tailS, hasPt, Hid]
  go_enter Try.func26, Try.ntmps26
  go_wp2
  go_loop [3] (fun i => ∃ k : Nat, k ≤ s.size ∧ i = .int .i64 ((k : Int) - 1) ∧ Hid (lastAt s 46 s.size = lastAt s 46 k)) (fun i => (intOf i + 1).toNat)
  case atStart => exact ⟨s.size, Nat.le_refl _, rfl, rfl⟩
  case round =>
    obtain ⟨k, hk, rfl, hl⟩ := hrel
    by_cases hz : k = 0
    · subst hz
      have h1 : ¬ (0 ≤ ((0 : Nat) : Int) - 1) := by omega
      go_wp2
      go_ret
      exact ⟨ret_str (by rw [hd.out, hl.out]; rfl), rfl⟩
    · obtain ⟨j, rfl⟩ : ∃ j, k = j + 1 := ⟨k - 1, by omega⟩
      have e : ((j + 1 : Nat) : Int) - 1 = (j : Int) := by omega
      rw [e]
      clear e
      have hb := bt_at s j (by omega)
      have hj : j < s.size := by omega
      have hl2 : Hid (lastAt s 46 s.size = if bt s j = 46 then (j : Int) else lastAt s 46 j) := hl
      clear hl hz
      by_cases hc : bt s j = 46
      · have hc1 : (bt s j == 46) = true := by simpa using hc
        have hl3 : Hid (lastAt s 46 s.size = (j : Int)) := by rw [hl2.out, if_pos hc]; exact Lib.hid rfl
        clear hl2 hc
        go_wp2
        go_ret
        exact ⟨ret_str (by rw [hd.out, hl3.out, if_pos (by omega)]; rfl), rfl⟩
      · have hc1 : (bt s j == 46) = false := by simpa using hc
        have hl3 : Hid (lastAt s 46 s.size = lastAt s 46 j) := by rw [hl2.out, if_neg hc]; exact Lib.hid rfl
        clear hl2 hc
        go_wp2
        go_round
        case rel => exact ⟨j, by omega, rfl, hl3⟩
        case measure => simp [intOf]

theorem cutS_cut (s : ByteArray) : cutS (cutS s) = cutS s := by
  have h := cutS_size s
  generalize cutS s = t at *
  unfold cutS
  rw [show min t.size 200 = t.size by omega, extract_whole]

/-- What the two contents are worth without the ends. -/
def worth (a b : ByteArray) : Int := if mx a.size b.size = 0 then 1000 else 1000 * (mx a.size b.size - dist a b) / mx a.size b.size
def bonus (a b : ByteArray) : Bool := hasPt a && hasPt b && decide (tailS a = tailS b)
def scoreC (a b : ByteArray) : Int := if bonus a b then worth a b + 100 else worth a b
def scoreF (a b : ByteArray) : Int := scoreC (cutS a) (cutS b)

theorem mx_max (a b : Nat) : mx (a : Int) (b : Int) = max a b := by unfold mx; split <;> omega
theorem worth_bd (a b : ByteArray) : 0 ≤ worth a b ∧ worth a b ≤ 1000 := by
  unfold worth
  split
  · omega
  · rename_i h
    have h1 := dist_ge a b
    have h2 := dist_le a b
    rw [mx_max] at *
    generalize dist a b = d at *
    generalize hm : max a.size b.size = m at *
    have hm0 : 0 < (m : Int) := by omega
    have h3 : d ≤ (m : Int) := by omega
    refine ⟨Int.ediv_nonneg (by omega) (by omega), ?_⟩
    have := Int.ediv_le_ediv hm0 (show 1000 * ((m : Int) - d) ≤ 1000 * m by omega)
    rwa [Int.mul_ediv_cancel _ (by omega)] at this

set_option maxHeartbeats 1000000 in
set_option maxRecDepth 100000 in
theorem score_calls (a b : ByteArray) (w : World) :
    Calls Try.prog 11 #[.string a, .string b] w fun e w' => e = .returned (.int .i64 (scoreF a b)) ∧ Below w.heap.size w w' := by
  unfold scoreF
  have ha := fun W => short_calls a W
  have hb := fun W => short_calls b W
  have hd := fun W => apart_calls (cutS a) (cutS b) W
  rw [cutS_cut, cutS_cut] at hd
  have HA := cutS_size a
  have HB := cutS_size b
  generalize cutS a = A at *
  generalize cutS b = B at *
  have hx := fun W => end_calls A W (by simp [maxLen]; omega)
  have hy := fun W => end_calls B W (by simp [maxLen]; omega)
  have hw := worth_bd A B
  have d1 := dist_ge A B
  have d2 := dist_le A B
  have Ha := Lib.hid ha
  have Hb := Lib.hid hb
  have Hd := Lib.hid hd
  have Hx := Lib.hid hx
  have Hy := Lib.hid hy
  clear ha hb hd hx hy
  have hs : scoreC A B = if hasPt A && hasPt B && decide (tailS A = tailS B) then worth A B + 100 else worth A B := rfl
  have hwd : worth A B = if mx A.size B.size = 0 then 1000 else 1000 * (mx A.size B.size - dist A B) / mx A.size B.size := rfl
  have hm1 : 0 ≤ mx (A.size : Int) (B.size : Int) := by rw [mx_max]; omega
  have hm2 : mx (A.size : Int) (B.size : Int) ≤ 200 := by rw [mx_max]; omega
  have hm3 : dist A B ≤ mx (A.size : Int) (B.size : Int) := by rw [mx_max]; omega
  generalize scoreC A B = sc at *
  generalize worth A B = wo at *
  generalize dist A B = d at *
  generalize hmx : mx (A.size : Int) (B.size : Int) = m at *
  generalize hasPt A = p at *
  generalize hasPt B = q at *
  generalize tailS A = x at *
  generalize tailS B = y at *
  have hxy : (x = y ∧ (x.toList == y.toList) = true) ∨ (¬ x = y ∧ (x.toList == y.toList) = false) := by
    rw [str_eq]
    by_cases h : x = y
    · exact .inl ⟨h, by simp [h]⟩
    · exact .inr ⟨h, by simp [h]⟩
  clear d2
  by_cases hm0 : m = 0
  · subst hm0
    rw [if_pos rfl] at hwd
    subst hwd
    have Hs := Lib.hid hs
    clear hs
    cases p <;> cases q <;> rcases hxy with ⟨h1, h2⟩ | ⟨h1, h2⟩
    all_goals
      have Hs2 := Hs.out
      simp only [Bool.true_and, Bool.false_and, Bool.and_true, Bool.and_false, h1, decide_true, decide_false, if_true, if_false, Bool.false_eq_true] at Hs2
      replace Hs2 := Lib.hid Hs2
      clear Hs h1
      go_enter Try.func11, Try.ntmps11
      go_wp2_with fail
      refine (Ha.out _).mono ?_
      rintro e w1 ⟨rfl, rfl⟩
      go_wp2_with fail
      refine (Hb.out _).mono ?_
      rintro e w1 ⟨rfl, rfl⟩
      go_wp2_with fail
      refine (Hx.out _).mono ?_
      rintro e w1 ⟨rfl, rfl⟩
      go_wp2_with fail
      refine (Hy.out _).mono ?_
      rintro e w1 ⟨rfl, rfl⟩
      go_wp2
      go_ret
      exact ⟨ret_int Hs2.out.symm, by first | exact HBL | exact Below.refl _ _⟩
  · rw [if_neg hm0] at hwd
    have hq0 : 0 ≤ 1000 * (m - d) / m := by rw [← hwd]; exact hw.1
    have hq1 : 1000 * (m - d) / m ≤ 1000 := by rw [← hwd]; exact hw.2
    have hmp : 0 < m := by omega
    subst hwd
    clear hw
    have Hs := Lib.hid hs
    clear hs
    cases p <;> cases q <;> rcases hxy with ⟨h1, h2⟩ | ⟨h1, h2⟩
    all_goals
      have Hs2 := Hs.out
      simp only [Bool.true_and, Bool.false_and, Bool.and_true, Bool.and_false, h1, decide_true, decide_false, if_true, if_false, Bool.false_eq_true] at Hs2
      replace Hs2 := Lib.hid Hs2
      clear Hs h1
      go_enter Try.func11, Try.ntmps11
      go_wp2_with fail
      refine (Ha.out _).mono ?_
      rintro e w1 ⟨rfl, rfl⟩
      go_wp2_with fail
      refine (Hb.out _).mono ?_
      rintro e w1 ⟨rfl, rfl⟩
      go_wp2_with fail
      refine (Hd.out _).mono ?_
      rintro e w1 ⟨rfl, HBL⟩
      go_wp2_with fail
      refine (Hx.out _).mono ?_
      rintro e w1 ⟨rfl, rfl⟩
      go_wp2_with fail
      refine (Hy.out _).mono ?_
      rintro e w1 ⟨rfl, rfl⟩
      go_wp2
      go_ret
      exact ⟨ret_int Hs2.out.symm, by first | exact HBL | exact Below.refl _ _⟩
#print axioms score_calls
end Go.Proofs.Ytbochdimjhlnmaa
