/-
  The distance of two strings is a metric: plain laws, no Go in sight.
-/
import Derived.Test.YtbochdimjhlnmaaApart
namespace Go.Proofs.Ytbochdimjhlnmaa

/-- The distance of two lists, from their heads on. -/
def lev {α : Type} [DecidableEq α] : List α → List α → Int
  | [], ys => ys.length
  | _ :: xs, [] => xs.length + 1
  | x :: xs, y :: ys => mn (mn (lev xs ys + if x = y then 0 else 1) (lev xs (y :: ys) + 1)) (lev (x :: xs) ys + 1)
termination_by xs ys => xs.length + ys.length

section
variable {α : Type} [DecidableEq α]
theorem lev_nil_left (ys : List α) : lev [] ys = ys.length := by cases ys <;> simp [lev]
theorem lev_nil_right (xs : List α) : lev xs [] = xs.length := by cases xs <;> simp [lev]
theorem lev_cons (x y : α) (xs ys : List α) : lev (x :: xs) (y :: ys) = mn (mn (lev xs ys + if x = y then 0 else 1) (lev xs (y :: ys) + 1)) (lev (x :: xs) ys + 1) := by rw [lev]
theorem mn_comm (a b : Int) : mn a b = mn b a := by unfold mn; split <;> split <;> omega
theorem mn_le_left (a b : Int) : mn a b ≤ a := by unfold mn; split <;> omega
theorem mn_le_right (a b : Int) : mn a b ≤ b := by unfold mn; split <;> omega
theorem le_mn {a b c : Int} (h : c ≤ a) (k : c ≤ b) : c ≤ mn a b := by unfold mn; split <;> omega
theorem mn_cases (a b : Int) : mn a b = a ∨ mn a b = b := by unfold mn; split <;> simp

theorem lev_symm : ∀ (n : Nat) (xs ys : List α), xs.length + ys.length ≤ n → lev xs ys = lev ys xs
  | n, [], ys, _ => by rw [lev_nil_left, lev_nil_right]
  | n, x :: xs, [], _ => by rw [lev_nil_left, lev_nil_right]
  | 0, x :: xs, y :: ys, h => by simp at h
  | n + 1, x :: xs, y :: ys, h => by
    simp only [List.length_cons] at h
    rw [lev_cons, lev_cons, lev_symm n xs ys (by omega), lev_symm n xs (y :: ys) (by simp; omega), lev_symm n (x :: xs) ys (by simp; omega)]
    have e : (if x = y then (0 : Int) else 1) = if y = x then 0 else 1 := by simp only [eq_comm]
    rw [e]
    unfold mn
    repeat' split
    all_goals omega
theorem lev_comm (xs ys : List α) : lev xs ys = lev ys xs := lev_symm _ xs ys (Nat.le_refl _)

theorem lev_cons_le (x : α) (xs ys : List α) : lev (x :: xs) ys ≤ lev xs ys + 1 := by
  cases ys with
  | nil => simp [lev_nil_right]
  | cons y ys => rw [lev_cons]; exact Int.le_trans (mn_le_left _ _) (mn_le_right _ _)
theorem lev_le_cons (y : α) (xs ys : List α) : lev xs (y :: ys) ≤ lev xs ys + 1 := by
  rw [lev_comm xs, lev_comm xs]; exact lev_cons_le y ys xs
theorem lev_cons_cons_le (x y : α) (xs ys : List α) : lev (x :: xs) (y :: ys) ≤ lev xs ys + if x = y then 0 else 1 := by
  rw [lev_cons]; exact Int.le_trans (mn_le_left _ _) (mn_le_left _ _)

theorem lev_nonneg : ∀ (n : Nat) (xs ys : List α), xs.length + ys.length ≤ n → 0 ≤ lev xs ys
  | n, [], ys, _ => by rw [lev_nil_left]; omega
  | n, x :: xs, [], _ => by rw [lev_nil_right]; omega
  | 0, x :: xs, y :: ys, h => by simp at h
  | n + 1, x :: xs, y :: ys, h => by
    simp only [List.length_cons] at h
    rw [lev_cons]
    have h1 := lev_nonneg n xs ys (by omega)
    have h2 := lev_nonneg n xs (y :: ys) (by simp; omega)
    have h3 := lev_nonneg n (x :: xs) ys (by simp; omega)
    exact le_mn (le_mn (by split <;> omega) (by omega)) (by omega)
theorem lev_ge (xs ys : List α) : 0 ≤ lev xs ys := lev_nonneg _ xs ys (Nat.le_refl _)

theorem lev_len_le (ys zs : List α) : (zs.length : Int) ≤ ys.length + lev ys zs := by
  induction ys generalizing zs with
  | nil => rw [lev_nil_left]; simp
  | cons y ys ih =>
    induction zs with
    | nil => have := lev_ge (y :: ys) ([] : List α); simp; omega
    | cons z zs ihz =>
      rw [lev_cons]
      have h1 := ih zs
      have h2 := ih (z :: zs)
      simp only [List.length_cons] at h2 ihz ⊢
      rcases mn_cases (mn (lev ys zs + if y = z then 0 else 1) (lev ys (z :: zs) + 1)) (lev (y :: ys) zs + 1) with e | e
      · rcases mn_cases (lev ys zs + if y = z then 0 else 1) (lev ys (z :: zs) + 1) with e' | e'
        · have : 0 ≤ (if y = z then (0 : Int) else 1) := by split <;> omega
          rw [e, e']; push_cast; omega
        · rw [e, e']; push_cast at h2 ⊢; omega
      · rw [e]; push_cast at ihz ⊢; omega
theorem lev_max_le (xs zs : List α) : lev xs zs ≤ xs.length + zs.length := by
  induction xs with
  | nil => rw [lev_nil_left]; simp
  | cons x xs ih => have := lev_cons_le x xs zs; simp only [List.length_cons]; push_cast; omega

theorem lev_triangle : ∀ (n : Nat) (xs ys zs : List α), xs.length + ys.length + zs.length ≤ n → lev xs zs ≤ lev xs ys + lev ys zs
  | n, [], ys, zs, _ => by
    rw [lev_nil_left, lev_nil_left]
    exact lev_len_le ys zs
  | n, xs, ys, [], _ => by
    rw [lev_nil_right, lev_nil_right, lev_comm xs ys]
    have := lev_len_le ys xs
    omega
  | n, xs, [], zs, _ => by
    rw [lev_nil_left, lev_nil_right]
    exact lev_max_le xs zs
  | 0, x :: xs, y :: ys, z :: zs, h => by simp at h
  | n + 1, x :: xs, y :: ys, z :: zs, h => by
    simp only [List.length_cons] at h
    have t1 := lev_triangle n xs ys zs (by omega)
    have t2 := lev_triangle n xs (y :: ys) (z :: zs) (by simp; omega)
    have t3 := lev_triangle n (x :: xs) ys (z :: zs) (by simp; omega)
    have t4 := lev_triangle n (x :: xs) (y :: ys) zs (by simp; omega)
    have c1 := lev_cons_cons_le x z xs zs
    have c2 := lev_cons_le x xs (z :: zs)
    have c3 := lev_le_cons z (x :: xs) zs
    have hx : (if x = z then (0 : Int) else 1) ≤ (if x = y then 0 else 1) + if y = z then 0 else 1 := by
      by_cases h1 : x = y
      · subst h1; simp
      · rw [if_neg h1]; split <;> split <;> omega
    have e1 := lev_cons x y xs ys
    have e2 := lev_cons y z ys zs
    rcases mn_cases (mn (lev xs ys + if x = y then 0 else 1) (lev xs (y :: ys) + 1)) (lev (x :: xs) ys + 1) with h1 | h1
    · rcases mn_cases (lev xs ys + if x = y then 0 else 1) (lev xs (y :: ys) + 1) with h2 | h2
      · rcases mn_cases (mn (lev ys zs + if y = z then 0 else 1) (lev ys (z :: zs) + 1)) (lev (y :: ys) zs + 1) with h3 | h3
        · rcases mn_cases (lev ys zs + if y = z then 0 else 1) (lev ys (z :: zs) + 1) with h4 | h4
          · omega
          · have t5 := lev_triangle n xs ys (z :: zs) (by simp; omega)
            have : 0 ≤ (if x = y then (0 : Int) else 1) := by split <;> omega
            omega
        · omega
      · omega
    · rcases mn_cases (mn (lev ys zs + if y = z then 0 else 1) (lev ys (z :: zs) + 1)) (lev (y :: ys) zs + 1) with h3 | h3
      · rcases mn_cases (lev ys zs + if y = z then 0 else 1) (lev ys (z :: zs) + 1) with h4 | h4
        · have t6 := lev_triangle n (x :: xs) ys zs (by simp; omega)
          have : 0 ≤ (if y = z then (0 : Int) else 1) := by split <;> omega
          omega
        · omega
      · omega
theorem lev_tri (xs ys zs : List α) : lev xs zs ≤ lev xs ys + lev ys zs := lev_triangle _ xs ys zs (Nat.le_refl _)
theorem lev_len (ys zs : List α) : (zs.length : Int) ≤ ys.length + lev ys zs := lev_len_le ys zs
theorem lev_max : ∀ (n : Nat) (xs ys : List α), xs.length + ys.length ≤ n → lev xs ys ≤ max xs.length ys.length
  | n, [], ys, _ => by rw [lev_nil_left]; omega
  | n, x :: xs, [], _ => by rw [lev_nil_right]; omega
  | 0, x :: xs, y :: ys, h => by simp at h
  | n + 1, x :: xs, y :: ys, h => by
    simp only [List.length_cons] at h ⊢
    have h1 := lev_max n xs ys (by omega)
    have h2 := lev_cons_cons_le x y xs ys
    have : (if x = y then (0 : Int) else 1) ≤ 1 := by split <;> omega
    omega
theorem lev_self (xs : List α) : lev xs xs = 0 := by
  induction xs with
  | nil => rw [lev_nil_left]; rfl
  | cons x xs ih =>
    have h1 := lev_cons_cons_le x x xs xs
    have h2 := lev_ge (x :: xs) (x :: xs)
    rw [if_pos rfl, ih] at h1
    omega
theorem lev_eq : ∀ (n : Nat) (xs ys : List α), xs.length + ys.length ≤ n → lev xs ys = 0 → xs = ys
  | n, [], ys, _, h => by rw [lev_nil_left] at h; exact (List.eq_nil_of_length_eq_zero (by omega)).symm
  | n, x :: xs, [], _, h => by rw [lev_nil_right] at h; simp at h; omega
  | 0, x :: xs, y :: ys, hl, h => by simp at hl
  | n + 1, x :: xs, y :: ys, hl, h => by
    simp only [List.length_cons] at hl
    rw [lev_cons] at h
    have g1 := lev_ge xs ys
    have g2 := lev_ge xs (y :: ys)
    have g3 := lev_ge (x :: xs) ys
    rcases mn_cases (mn (lev xs ys + if x = y then 0 else 1) (lev xs (y :: ys) + 1)) (lev (x :: xs) ys + 1) with e | e
    · rcases mn_cases (lev xs ys + if x = y then 0 else 1) (lev xs (y :: ys) + 1) with e' | e'
      · rw [e, e'] at h
        by_cases hxy : x = y
        · rw [if_pos hxy] at h
          rw [hxy, lev_eq n xs ys (by omega) (by omega)]
        · rw [if_neg hxy] at h; omega
      · omega
    · omega

/-- The same head. -/
theorem lev_same (c : α) (xs ys : List α) : lev (c :: xs) (c :: ys) = lev xs ys := by
  have h := lev_cons c c xs ys
  rw [if_pos rfl] at h
  have h1 := lev_le_cons c xs ys
  have h2 : lev xs ys ≤ lev xs (c :: ys) + 1 := by
    have := lev_tri xs (c :: ys) ys
    have k : lev (c :: ys) ys ≤ 1 := by
      have := lev_cons_le c ys ys
      rw [lev_self] at this; omega
    omega
  have h3 : lev xs ys ≤ lev (c :: xs) ys + 1 := by
    have := lev_tri xs (c :: xs) ys
    have k : lev xs (c :: xs) ≤ 1 := by
      have := lev_le_cons c xs xs
      rw [lev_self] at this; omega
    omega
  rw [h]
  unfold mn
  repeat' split
  all_goals omega
theorem lev_one (c : α) (zs : List α) : lev [c] (zs ++ [c]) = zs.length := by
  induction zs with
  | nil => exact lev_self _
  | cons y ys ih =>
    simp only [List.cons_append, List.length_cons] at ih ⊢
    rw [lev_cons, lev_nil_left, lev_nil_left, ih]
    simp only [List.length_cons, List.length_append, List.length_nil]
    unfold mn
    repeat' split
    all_goals omega
/-- The same last. -/
theorem lev_snoc (c : α) : ∀ (n : Nat) (xs ys : List α), xs.length + ys.length ≤ n → lev (xs ++ [c]) (ys ++ [c]) = lev xs ys
  | n, [], ys, _ => by rw [lev_nil_left, List.nil_append]; exact lev_one c ys
  | n, x :: xs, [], _ => by
    rw [lev_comm, lev_nil_right, List.nil_append]
    exact lev_one c (x :: xs)
  | 0, x :: xs, y :: ys, h => by simp at h
  | n + 1, x :: xs, y :: ys, h => by
    simp only [List.length_cons] at h
    simp only [List.cons_append]
    rw [lev_cons, lev_cons]
    have h1 := lev_snoc c n xs ys (by omega)
    have h2 := lev_snoc c n xs (y :: ys) (by simp; omega)
    have h3 := lev_snoc c n (x :: xs) ys (by simp; omega)
    simp only [List.cons_append] at h2 h3
    rw [h1, h2, h3]
end
#print axioms lev_snoc
end Go.Proofs.Ytbochdimjhlnmaa
