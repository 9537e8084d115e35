/-
  The table of distances is the distance of lists; its laws, for strings.
-/
import Derived.Test.YtbochdimjhlnmaaLev
namespace Go.Proofs.Ytbochdimjhlnmaa

def bl (s : ByteArray) : List UInt8 := s.data.toList
theorem bl_length (s : ByteArray) : (bl s).length = s.size := by rw [bl, Array.length_toList]; rfl
theorem bl_inj {s t : ByteArray} (h : bl s = bl t) : s = t := by
  cases s; cases t
  simp only [bl] at h
  congr
  exact Array.toList_inj.1 h
theorem bt_bl (s : ByteArray) (i : Nat) (h : i < s.size) : bt s i = ((bl s)[i]'(by rw [bl_length]; exact h)).toNat := by
  simp [bt, h, bl]
  rfl
theorem bt_eq (s t : ByteArray) (i j : Nat) (hi : i < s.size) (hj : j < t.size) : bt s i = bt t j ↔ (bl s)[i]'(by rw [bl_length]; exact hi) = (bl t)[j]'(by rw [bl_length]; exact hj) := by
  rw [bt_bl s i hi, bt_bl t j hj]
  constructor
  · intro h
    exact UInt8.toNat_inj.1 (by omega)
  · intro h; rw [h]
theorem take_rev (l : List UInt8) (i : Nat) (h : i < l.length) : (l.take (i + 1)).reverse = l[i] :: (l.take i).reverse := by
  rw [List.take_succ_eq_append_getElem h]; simp

theorem stepRow_lev (a b : ByteArray) (i : Nat) (hi : i < a.size) (row : List Int) (h : ∀ j, j ≤ b.size → rd row j = lev ((bl a).take i).reverse ((bl b).take j).reverse) :
    ∀ k, k ≤ b.size → ∀ j, j ≤ k → rd (stepRow a b i row k) j = lev ((bl a).take (i + 1)).reverse ((bl b).take j).reverse
  | 0, _, j, hj => by
    obtain rfl : j = 0 := by omega
    rw [List.take_zero, List.reverse_nil, lev_nil_right, List.length_reverse, List.length_take, bl_length, show min (i + 1) a.size = i + 1 by omega]
    simp [stepRow, rd]
  | k + 1, hk, j, hj => by
    have ih := stepRow_lev a b i hi row h k (by omega)
    simp only [stepRow]
    rw [rd_snoc, stepRow_length]
    split
    · rename_i e
      subst e
      rw [take_rev (bl a) i (by rw [bl_length]; exact hi), take_rev (bl b) k (by rw [bl_length]; omega), lev_cons, h k (by omega), h (k + 1) hk, ih k (Nat.le_refl _),
        take_rev (bl a) i (by rw [bl_length]; exact hi), take_rev (bl b) k (by rw [bl_length]; omega)]
      by_cases hb : bt a i = bt b k
      · rw [if_pos hb, if_pos ((bt_eq a b i k hi (by omega)).1 hb), Int.add_zero]
      · rw [if_neg hb, if_neg (fun hh => hb ((bt_eq a b i k hi (by omega)).2 hh))]
    · exact ih j (by omega)
theorem rowAt_lev (a b : ByteArray) : ∀ i, i ≤ a.size → ∀ j, j ≤ b.size → rd (rowAt a b i) j = lev ((bl a).take i).reverse ((bl b).take j).reverse
  | 0, _, j, hj => by
    rw [List.take_zero, List.reverse_nil, lev_nil_left, List.length_reverse, List.length_take, bl_length, show min j b.size = j by omega]
    simp [rd, rowAt, show j < b.size + 1 by omega]
  | i + 1, hi, j, hj => stepRow_lev a b i (by omega) _ (rowAt_lev a b i (by omega)) b.size (Nat.le_refl _) j hj
theorem dist_lev (a b : ByteArray) : dist a b = lev (bl a).reverse (bl b).reverse := by
  unfold dist
  rw [rowAt_lev a b a.size (Nat.le_refl _) b.size (Nat.le_refl _), ← bl_length a, ← bl_length b, List.take_length, List.take_length]

theorem dist_comm (a b : ByteArray) : dist a b = dist b a := by rw [dist_lev, dist_lev, lev_comm]
theorem dist_ge (a b : ByteArray) : 0 ≤ dist a b := by rw [dist_lev]; exact lev_ge _ _
theorem dist_le (a b : ByteArray) : dist a b ≤ max a.size b.size := by
  have := lev_max _ (bl a).reverse (bl b).reverse (Nat.le_refl _)
  simpa [dist_lev, bl_length] using this
theorem dist_len (a b : ByteArray) : (b.size : Int) ≤ a.size + dist a b := by
  have := lev_len (bl a).reverse (bl b).reverse
  simpa [dist_lev, bl_length] using this
theorem dist_tri (a b c : ByteArray) : dist a c ≤ dist a b + dist b c := by rw [dist_lev, dist_lev, dist_lev]; exact lev_tri _ _ _
theorem dist_self (a : ByteArray) : dist a a = 0 := by rw [dist_lev]; exact lev_self _
theorem dist_eq {a b : ByteArray} (h : dist a b = 0) : a = b := by
  rw [dist_lev] at h
  exact bl_inj (List.reverse_inj.1 (lev_eq _ _ _ (Nat.le_refl _) h))
theorem bl_append (a b : ByteArray) : bl (a ++ b) = bl a ++ bl b := by simp [bl]
theorem dist_pre (c a b : ByteArray) : dist (c ++ a) (c ++ b) = dist a b := by
  simp only [dist_lev, bl_append, List.reverse_append]
  generalize (bl a).reverse = x
  generalize (bl b).reverse = y
  induction (bl c) with
  | nil => simp
  | cons z zs ih =>
    rw [List.reverse_cons, ← List.append_assoc, ← List.append_assoc, lev_snoc z _ _ _ (Nat.le_refl _)]
    exact ih
theorem dist_post (c a b : ByteArray) : dist (a ++ c) (b ++ c) = dist a b := by
  simp only [dist_lev, bl_append, List.reverse_append]
  generalize (bl a).reverse = x
  generalize (bl b).reverse = y
  induction (bl c).reverse with
  | nil => simp
  | cons z zs ih => simp only [List.cons_append]; rw [lev_same]; exact ih
theorem dist_nil (a : ByteArray) : dist (⟨#[]⟩ : ByteArray) a = a.size := by
  rw [dist_lev]
  have : bl (⟨#[]⟩ : ByteArray) = [] := rfl
  rw [this, List.reverse_nil, lev_nil_left, List.length_reverse, bl_length]
#print axioms dist_post
end Go.Proofs.Ytbochdimjhlnmaa
