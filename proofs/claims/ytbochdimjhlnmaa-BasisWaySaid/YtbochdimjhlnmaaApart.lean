/-
  The distance of two strings: what the walks of basis.Apart and of the reference's Apart compute, as a plain function of lists.
-/
import Derived.Test.YtbochdimjhlnmaaBase
namespace Go.Proofs.Ytbochdimjhlnmaa
open Go.RowKit
set_option linter.unusedVariables false
set_option linter.unusedSimpArgs false

def rd (xs : List Int) (i : Nat) : Int := xs.getD i 0
def bt (s : ByteArray) (i : Nat) : Int := if h : i < s.size then ((s[i]'h).toNat : Int) else 0

/-- The next row's first k + 1 numbers. -/
def stepRow (a b : ByteArray) (i : Nat) (row : List Int) : Nat → List Int
  | 0 => [(i : Int) + 1]
  | k + 1 => stepRow a b i row k ++ [mn (mn (if bt a i = bt b k then rd row k else rd row k + 1) (rd row (k + 1) + 1)) (rd (stepRow a b i row k) k + 1)]
def rowAt (a b : ByteArray) : Nat → List Int
  | 0 => (List.range (b.size + 1)).map fun (k : Nat) => (k : Int)
  | i + 1 => stepRow a b i (rowAt a b i) b.size
def cutS (s : ByteArray) : ByteArray := s.extract 0 (min s.size 200)
def dist (a b : ByteArray) : Int := rd (rowAt a b a.size) b.size
def ints (xs : List Int) : Array Value := (xs.map fun x => Value.int .i64 x).toArray

set_option maxHeartbeats 1000000 in
set_option maxRecDepth 100000 in
theorem short_calls (s : ByteArray) (w : World) : Calls Try.prog 23 #[.string s] w fun e w' => e = .returned (.string (cutS s)) ∧ w = w' := by
  have h0 : 0 ≤ mn (s.size : Int) 200 := by unfold mn; split <;> omega
  have h1 : mn (s.size : Int) 200 ≤ (s.size : Int) := by unfold mn; split <;> omega
  have h2 : (mn (s.size : Int) 200).toNat = min s.size 200 := by unfold mn; split <;> omega
  have H := Lib.hid h2
  clear h2
  go_enter Try.func23, Try.ntmps23
  go_wp2
  go_ret
  exact ⟨ret_str (by unfold cutS; rw [H.out]), rfl⟩

theorem cutS_size (s : ByteArray) : (cutS s).size ≤ 200 := by unfold cutS; simp; omega
theorem info_int : (Try.prog.info? 3).map (fun i => (i.zero, i.size, i.bytes)) = some (some (.int .i64 0), 1, 8) := by kernel_rfl

/-- Two rows of the call's own, each a block that is known whole; what was there before is as it was. -/
structure Two (w W : World) (g1 g2 : Nat) (xs ys : List Int) : Prop where
  b1 : w.heap.size ≤ g1
  b2 : w.heap.size ≤ g2
  ne : g1 ≠ g2
  h1 : W.heap[g1]? = some (.cells (ints xs) 3 (0, 0))
  h2 : W.heap[g2]? = some (.cells (ints ys) 3 (0, 0))
  below : Below w.heap.size w W
theorem Two.swap {w W : World} {g1 g2 : Nat} {xs ys : List Int} (h : Two w W g1 g2 xs ys) : Two w W g2 g1 ys xs := ⟨h.b2, h.b1, h.ne.symm, h.h2, h.h1, h.below⟩
theorem Two.drewN {w W : World} {g1 g2 : Nat} {xs ys : List Int} (h : Two w W g1 g2 xs ys) (n : Nat) : Two w (W.drewN n) g1 g2 xs ys := ⟨h.b1, h.b2, h.ne, h.h1, h.h2, below_drewN h.below n⟩
theorem ints_get {xs : List Int} {i : Nat} (h : i < xs.length) : (ints xs)[i]? = some (.int .i64 (rd xs i)) := by
  simp [ints, rd, h]
theorem Two.cell {w W : World} {g1 g2 : Nat} {xs ys : List Int} (h : Two w W g1 g2 xs ys) {i : Nat} (hi : i < xs.length) : W.cell? ⟨g1, i, none⟩ = some (.int .i64 (rd xs i)) := by
  rw [cell_of_row W g1 i (ints xs) 3 (0, 0) h.h1]; exact ints_get hi
theorem Two.free {w W : World} {g1 g2 : Nat} {xs ys : List Int} (h : Two w W g1 g2 xs ys) (i : Nat) : W.frozen? ⟨g1, i, none⟩ = false := by simp [World.frozen?, h.h1]
theorem blk_set {w : World} {g : Nat} {t : TypeId} {cs : Array Value} (h : w.heap[g]? = some (.cells cs t (0, 0))) (i : Nat) (u : Value) : (w.setCell ⟨g, i, none⟩ u).heap[g]? = some (.cells (cs.setIfInBounds i u) t (0, 0)) := by
  have hlt : g < w.heap.size := (Array.getElem?_eq_some_iff.1 h).1
  have h' : w.heap[g] = .cells cs t (0, 0) := (Array.getElem?_eq_some_iff.1 h).2
  show (w.heap.modify g _)[g]? = _
  rw [Array.getElem?_eq_getElem (by simpa using hlt), Array.getElem_modify_self, h']
  rfl
theorem Two.set {w W : World} {g1 g2 : Nat} {xs ys : List Int} (h : Two w W g1 g2 xs ys) (i : Nat) (v : Int) : Two w (W.setCell ⟨g1, i, none⟩ (.int .i64 v)) g1 g2 (xs.set i v) ys := by
  refine ⟨h.b1, h.b2, h.ne, ?_, ?_, h.below.setCell h.b1 _⟩
  · rw [blk_set h.h1]
    congr 2
    simp only [ints, List.map_set, List.setIfInBounds_toArray]
  · rw [Below.heap_setCell _ _ _ _ (fun e => h.ne e.symm)]; exact h.h2
theorem Two.sets {w : World} {g1 g2 : Nat} {ys : List Int} : ∀ (zs : List Int) (W : World) (xs : List Int) (o : Nat), Two w W g1 g2 xs ys → ∃ xs', Two w (W.setCells g1 o (zs.map fun z => .int .i64 z)) g1 g2 xs' ys ∧ xs'.length = xs.length ∧ (∀ j, j < o → rd xs' j = rd xs j) ∧ ∀ j, o ≤ j → j < xs.length → j < o + zs.length → rd xs' j = rd zs (j - o)
  | [], W, xs, o, h => ⟨xs, h, rfl, fun _ _ => rfl, fun j h1 _ h2 => by simp at h2; omega⟩
  | z :: r, W, xs, o, h => by
    obtain ⟨xs', h1, h2, h3, h4⟩ := Two.sets r _ _ (o + 1) (h.set o z)
    refine ⟨xs', h1, by simpa using h2, fun j hj => ?_, fun j hj hl hl2 => ?_⟩
    · rw [h3 j (by omega)]; simp [rd, List.getElem?_set, show o ≠ j by omega]
    · by_cases e : j = o
      · subst e
        rw [h3 _ (by omega)]; simp [rd, List.getElem?_set, hl]
      · rw [h4 j (by omega) (by simpa using hl) (by simp at hl2; omega)]
        obtain ⟨q, rfl⟩ : ∃ q, j = o + 1 + q := ⟨j - o - 1, by omega⟩
        simp [rd, show o + 1 + q - o = q + 1 by omega]
theorem rd_ext {xs ys : List Int} (hl : xs.length = ys.length) (h : ∀ j, j < xs.length → rd xs j = rd ys j) : xs = ys := by
  apply List.ext_getElem hl
  intro i h1 h2
  have := h i h1
  simpa [rd, h1, h2] using this
/-- clear(next). -/
theorem Two.clear {w W : World} {g1 g2 n : Nat} {xs ys : List Int} (h : Two w W g1 g2 xs ys) (hl : xs.length = n + 1) (ty : TypeId) :
    ∃ W', (Builtin.clear_ #[56] ty #[.slice (some ⟨g1, 0, none⟩) (n + 1) (n + 1)]).run Try.prog W = .ok (.tuple #[]) W' ∧ Two w W' g1 g2 (List.replicate (n + 1) 0) ys := by
  refine ⟨_, Lib.run_clear_slice W 56 3 ty (.int .i64 0) Try.underlying56 (fun w => by kernel_rfl) rfl rfl g1 0 (n + 1) (n + 1) (by omega) (fun j hj => ?_) (fun j _ => ?_), ?_⟩
  · rw [Nat.zero_add, h.cell (by omega)]; rfl
  · exact h.free _
  · obtain ⟨xs', h1, h2, _, h4⟩ := Two.sets (List.replicate (n + 1) 0) W xs 0 h
    have e : xs' = List.replicate (n + 1) 0 := rd_ext (by rw [h2, hl]; simp) (fun j hj => by
      have hj' : j < n + 1 := by omega
      rw [h4 j (Nat.zero_le _) (by omega) (by simp; omega)]; simp [rd])
    rw [e] at h1
    simpa using h1

/-- The first row while it is filled. -/
def iota (m k : Nat) : List Int := (List.range (m + 1)).map fun (j : Nat) => if j < k then (j : Int) else 0
theorem iota_length (m k : Nat) : (iota m k).length = m + 1 := by simp [iota]
theorem iota_zero (m : Nat) : iota m 0 = List.replicate (m + 1) 0 := by
  apply List.ext_getElem <;> simp [iota]
theorem iota_set (m k : Nat) (h : k < m + 1) : (iota m k).set k (k : Int) = iota m (k + 1) := by
  apply List.ext_getElem
  · simp [iota]
  · intro i h1 h2
    simp only [iota, List.getElem_set, List.getElem_map, List.getElem_range]
    split
    · rename_i e; subst e; simp
    · rename_i e
      split <;> split <;> first | rfl | omega
theorem iota_all (a b : ByteArray) : iota b.size (b.size + 1) = rowAt a b 0 := by
  apply List.ext_getElem
  · simp [iota, rowAt]
  · intro i h1 h2
    simp only [iota, List.length_map, List.length_range] at h1
    simp [iota, rowAt, h1]

theorem stepRow_length (a b : ByteArray) (i : Nat) (row : List Int) : ∀ k, (stepRow a b i row k).length = k + 1
  | 0 => rfl
  | k + 1 => by simp [stepRow, stepRow_length a b i row k]
theorem rowAt_length (a b : ByteArray) : ∀ i, (rowAt a b i).length = b.size + 1
  | 0 => by simp [rowAt]
  | i + 1 => stepRow_length ..
/-- The next row while it is filled. -/
def part (a b : ByteArray) (i : Nat) (row : List Int) (k : Nat) : List Int := stepRow a b i row k ++ List.replicate (b.size - k) 0
theorem part_length (a b : ByteArray) (i : Nat) (row : List Int) (k : Nat) (h : k ≤ b.size) : (part a b i row k).length = b.size + 1 := by
  simp [part, stepRow_length]; omega
theorem part_zero (a b : ByteArray) (i : Nat) (row : List Int) : (List.replicate (b.size + 1) (0 : Int)).set 0 ((i : Int) + 1) = part a b i row 0 := by
  simp [part, stepRow, List.replicate_succ]
theorem part_rd (a b : ByteArray) (i : Nat) (row : List Int) (k : Nat) : rd (part a b i row k) k = rd (stepRow a b i row k) k := by
  simp [rd, part, List.getElem?_append, stepRow_length]
theorem part_set (a b : ByteArray) (i : Nat) (row : List Int) (k : Nat) (h : k < b.size) (v : Int)
    (hv : v = mn (mn (if bt a i = bt b k then rd row k else rd row k + 1) (rd row (k + 1) + 1)) (rd (part a b i row k) k + 1)) : (part a b i row k).set (k + 1) v = part a b i row (k + 1) := by
  rw [part_rd] at hv
  subst hv
  have e : List.replicate (b.size - k) (0 : Int) = 0 :: List.replicate (b.size - (k + 1)) 0 := by
    rw [show b.size - k = (b.size - (k + 1)) + 1 by omega, List.replicate_succ]
  unfold part
  rw [e, List.set_append]
  simp [stepRow_length, stepRow]
theorem part_all (a b : ByteArray) (i : Nat) : part a b i (rowAt a b i) b.size = rowAt a b (i + 1) := by simp [part, rowAt]
theorem mn_bd {a b : Int} (ha : 0 ≤ a) (hb : 0 ≤ b) {c : Int} (h : a ≤ c ∨ b ≤ c) : 0 ≤ mn a b ∧ mn a b ≤ c := by
  unfold mn; split <;> omega
theorem rd_snoc (xs : List Int) (v : Int) (j : Nat) : rd (xs ++ [v]) j = if j = xs.length then v else rd xs j := by
  simp only [rd, List.getD_eq_getElem?_getD, List.getElem?_append]
  split
  · rw [if_neg (by omega)]
  · split
    · rename_i h; simp [h]
    · rw [List.getElem?_eq_none (by simp; omega), List.getElem?_eq_none (by omega)]
theorem step_bd (a b : ByteArray) (i m : Nat) (row : List Int) (h : ∀ j, j ≤ m → 0 ≤ rd row j ∧ rd row j ≤ (i : Int) + j) : ∀ k, k ≤ m → ∀ j, j ≤ k → 0 ≤ rd (stepRow a b i row k) j ∧ rd (stepRow a b i row k) j ≤ (i : Int) + 1 + j
  | 0, _, j, hj => by
    obtain rfl : j = 0 := by omega
    simp [stepRow, rd]; omega
  | k + 1, hk, j, hj => by
    have ih := step_bd a b i m row h k (by omega)
    simp only [stepRow]
    rw [rd_snoc, stepRow_length]
    split
    · rename_i e
      subst e
      have h1 := h k (by omega)
      have h2 := h (k + 1) (by omega)
      have h3 := ih k (by omega)
      refine mn_bd ?_ (by omega) (.inr (by omega))
      refine (mn_bd (c := (i : Int) + (k + 1) + 1) ?_ (by omega) (.inr (by omega))).1
      split <;> omega
    · exact ih j (by omega)
theorem row_bd (a b : ByteArray) : ∀ i j, j ≤ b.size → 0 ≤ rd (rowAt a b i) j ∧ rd (rowAt a b i) j ≤ (i : Int) + j
  | 0, j, hj => by
    have : rd (rowAt a b 0) j = j := by simp [rd, rowAt, show j < b.size + 1 by omega]
    rw [this]; omega
  | i + 1, j, hj => by
    have h := step_bd a b i b.size (rowAt a b i) (row_bd a b i) b.size (Nat.le_refl _) j hj
    simp only [rowAt]
    exact ⟨h.1, by have := h.2; omega⟩
theorem part_bd (a b : ByteArray) (i k : Nat) (hk : k ≤ b.size) : 0 ≤ rd (part a b i (rowAt a b i) k) k ∧ rd (part a b i (rowAt a b i) k) k ≤ (i : Int) + 1 + k := by
  rw [part_rd]
  exact step_bd a b i b.size (rowAt a b i) (row_bd a b i) k hk k (Nat.le_refl _)
theorem bt_at (s : ByteArray) (i : Nat) (h : i < s.size) : ((s[i]'h).toNat : Int) = bt s i := by simp [bt, h]

theorem made_ints (m : Nat) : madeCells #[.int .i64 0] (m + 1) = ints (List.replicate (m + 1) 0) := by
  apply Array.ext
  · simp [madeCells, ints]
  · intro i h1 h2
    simp [madeCells, ints, Nat.mod_one]
theorem two_made (w : World) (m : Nat) : Two w ((w.alloc (.cells (madeCells #[.int .i64 0] (m + 1)) 3)).alloc (.cells (madeCells #[.int .i64 0] (m + 1)) 3)) w.heap.size (w.heap.size + 1) (List.replicate (m + 1) 0) (List.replicate (m + 1) 0) := by
  rw [made_ints]
  refine ⟨Nat.le_refl _, by omega, by omega, ?_, ?_, ((Below.refl _ _).alloc (Nat.le_refl _) _).alloc (by simp) _⟩
  · rw [Below.heap_alloc _ _ _ (by simp)]; exact heap_alloc_new w _
  · have := heap_alloc_new (w.alloc (.cells (ints (List.replicate (m + 1) 0)) 3)) (.cells (ints (List.replicate (m + 1) 0)) 3)
    simpa using this

set_option maxHeartbeats 1000000 in
set_option maxRecDepth 100000 in
theorem apart_calls (a b : ByteArray) (w : World) :
    Calls Try.prog 9 #[.string a, .string b] w fun e w' => e = .returned (.int .i64 (dist (cutS a) (cutS b))) ∧ Below w.heap.size w w' := by
  have HA := cutS_size a
  have HB := cutS_size b
  have ha := fun W => short_calls a W
  have hb := fun W => short_calls b W
  generalize cutS a = A at *
  generalize cutS b = B at *
  have Ha := Lib.hid ha
  have Hb := Lib.hid hb
  clear ha hb
  obtain ⟨n, hn⟩ : ∃ n, n = A.size := ⟨_, rfl⟩
  obtain ⟨m, hm⟩ : ∃ m, m = B.size := ⟨_, rfl⟩
  have hmk := run_make_row' (P := Try.prog) 56 3 (.int .i64 0) 8 Try.underlying56 info_int rfl .i64 .i64 (B.size + 1) (by omega) (by omega)
  have ec : ((B.size + 1 : Nat) : Int) = (B.size : Int) + 1 := by omega
  rw [ec] at hmk
  clear ec hm hn
  go_enter Try.func9, Try.ntmps9
  go_wp2_with fail
  refine (Ha.out _).mono ?_
  rintro e w1 ⟨rfl, rfl⟩
  go_wp2_with fail
  refine (Hb.out _).mono ?_
  rintro e w1 ⟨rfl, rfl⟩
  go_upto_region 2 with fail
  go_cut [5, 6] (fun r n W => ∃ g1 g2, r = .slice (some ⟨g1, 0, none⟩) (B.size + 1) (B.size + 1) ∧ n = .slice (some ⟨g2, 0, none⟩) (B.size + 1) (B.size + 1) ∧ Two w W g1 g2 (List.replicate (B.size + 1) 0) (List.replicate (B.size + 1) 0))
  case first =>
    go_region
    all_goals go_wp2
    all_goals go_meet
    · exact ⟨w.heap.size, w.heap.size + 1, rfl, rfl, (two_made w B.size).drewN 1⟩
    · exact ⟨w.heap.size + 1, w.heap.size, rfl, rfl, ((two_made w B.size).drewN 1).swap⟩
  case rest =>
    obtain ⟨g1, g2, rfl, rfl, HT⟩ := hcut
    clear hmk
    rw [← iota_zero] at HT
    go_wp2
    go_loopw [25] (fun i W => ∃ k : Nat, i = .int .i64 k ∧ k ≤ B.size + 1 ∧ Two w W g1 g2 (iota B.size k) (iota B.size 0)) (fun i _ => B.size + 1 - (intOf i).toNat)
    case atStart => exact ⟨0, rfl, by omega, HT⟩
    case round =>
      clear HT
      obtain ⟨k, rfl, hk, HT⟩ := hrel
      by_cases hlt : k < B.size + 1
      · have hc := HT.cell (i := k) (by rw [iota_length]; omega)
        have hf := HT.free k
        go_wp2
        go_roundw
        case measure => simp [intOf]; omega
        case rel => exact ⟨k + 1, by go_num, by omega, by rw [← iota_set _ _ hlt]; exact HT.set k k⟩
      · obtain rfl : k = B.size + 1 := by omega
        rw [iota_all A B, iota_zero] at HT
        clear hk hlt
        go_wp2
        go_loopw [5, 6, 35] (fun r n i W => ∃ (k g1 g2 : Nat) (ys : List Int), i = .int .i64 k ∧ k ≤ A.size ∧ r = .slice (some ⟨g1, 0, none⟩) (B.size + 1) (B.size + 1) ∧ n = .slice (some ⟨g2, 0, none⟩) (B.size + 1) (B.size + 1) ∧ ys.length = B.size + 1 ∧ Two w W g1 g2 (rowAt A B k) ys) (fun _ _ i _ => A.size - (intOf i).toNat)
        case atStart => exact ⟨0, g1, g2, _, rfl, by omega, rfl, rfl, by simp, HT⟩
        case round =>
          clear HT
          obtain ⟨k, g1, g2, ys, rfl, hk, rfl, rfl, hy, HT⟩ := hrel
          by_cases hlt : k < A.size
          · obtain ⟨W1, hcl, HT1⟩ := HT.swap.clear hy 0
            have hc1 := HT1.cell (i := 0) (by simp)
            have hf1 := HT1.free 0
            have HT2 := HT1.set 0 ((k : Int) + 1)
            rw [part_zero A B k (rowAt A B k)] at HT2
            have Hy := Lib.hid hy
            clear hy HT HT1
            go_wp2
            go_loopw [45] (fun i W => ∃ j : Nat, i = .int .i64 j ∧ j ≤ B.size ∧ Two w W g2 g1 (part A B k (rowAt A B k) j) (rowAt A B k)) (fun i _ => B.size - (intOf i).toNat)
            case atStart => exact ⟨0, rfl, by omega, HT2⟩
            case round =>
              clear HT2 hcl hc1 hf1
              obtain ⟨j, rfl, hj, HT⟩ := hrel
              by_cases hlj : j < B.size
              · have hr1 := HT.swap.cell (i := j) (by rw [rowAt_length]; omega)
                have hr2 := HT.swap.cell (i := j + 1) (by rw [rowAt_length]; omega)
                have hn1 := HT.cell (i := j) (by rw [part_length _ _ _ _ _ hj]; omega)
                have hn2 := HT.cell (i := j + 1) (by rw [part_length _ _ _ _ _ hj]; omega)
                have hf := HT.free (j + 1)
                have hba := bt_at A k hlt
                have hbb := bt_at B j hlj
                have hp := part_set A B k (rowAt A B k) j hlj
                have bd1 := row_bd A B k j hj
                have bd2 := row_bd A B k (j + 1) hlj
                have bd3 := part_bd A B k j hj
                have s1 := HT.set (j + 1) (mn (mn (rd (rowAt A B k) j) (rd (rowAt A B k) (j + 1) + 1)) (rd (part A B k (rowAt A B k) j) j + 1))
                have s2 := HT.set (j + 1) (mn (mn (rd (rowAt A B k) j + 1) (rd (rowAt A B k) (j + 1) + 1)) (rd (part A B k (rowAt A B k) j) j + 1))
                generalize rd (rowAt A B k) j = x at *
                generalize rd (rowAt A B k) (j + 1) = y at *
                generalize rd (part A B k (rowAt A B k) j) j = z at *
                generalize rd (part A B k (rowAt A B k) j) (j + 1) = u at *
                generalize part A B k (rowAt A B k) j = pr at *
                have Hp := Lib.hid hp
                clear hp
                by_cases hbt : bt A k = bt B j
                · have Hp2 : Hid (pr.set (j + 1) (mn (mn x (y + 1)) (z + 1)) = part A B k (rowAt A B k) (j + 1)) := Hp.out _ (by rw [if_pos hbt])
                  clear Hp s2
                  go_wp2
                  go_quiet (fail)
                  go_wp2
                  go_region
                  all_goals go_wp2
                  all_goals go_roundw
                  case measure => simp [intOf]; omega
                  case rel => exact ⟨j + 1, by go_num, by omega, by rw [← Hp2.out]; exact s1.drewN (nq + 1)⟩
                · have Hp2 : Hid (pr.set (j + 1) (mn (mn (x + 1) (y + 1)) (z + 1)) = part A B k (rowAt A B k) (j + 1)) := Hp.out _ (by rw [if_neg hbt])
                  have hbf : (bt A k == bt B j) = false := by simpa using hbt
                  have hbg : (bt A k != bt B j) = true := by simpa using hbt
                  clear Hp s1 hbt
                  go_wp2
                  go_quiet (fail)
                  go_wp2
                  go_region
                  all_goals go_wp2
                  all_goals go_roundw
                  case measure => simp [intOf]; omega
                  case rel => exact ⟨j + 1, by go_num, by omega, by rw [← Hp2.out]; exact s2.drewN (nq + 1)⟩
              · obtain rfl : j = B.size := by omega
                rw [part_all] at HT
                clear hlj hj
                go_wp2
                go_roundw
                case measure => simp [intOf]; omega
                case rel => exact ⟨k + 1, g2, g1, _, by go_num, by omega, rfl, rfl, rowAt_length _ _ _, HT⟩
          · obtain rfl : k = A.size := by omega
            have hc := HT.cell (i := B.size) (by rw [rowAt_length]; omega)
            have Hy := Lib.hid hy
            clear hy hlt hk
            go_wp2
            go_ret
            exact ⟨rfl, HT.below⟩
#print axioms apart_calls

end Go.Proofs.Ytbochdimjhlnmaa
