/-
  remoralaw42.top.
-/
import Derived.Test.YtocbjhhnginebaaGreatB6
import Derived.Test.YtocbjhhnginebaaGreatSnapX
namespace Go.Proofs.YtocbjhhnginebaaGreat
open Go.RowKit
set_option linter.unusedSimpArgs false
set_option linter.unusedVariables false

/-- Two trees of the call's own, apart. -/
def Pw2 (w W : World) (vb : Nat) (V : Fs) (sb : Nat) (S : Fs) : Prop :=
  ∃ A M B N, Rep W vb A M V ∧ Rep W sb B N S ∧ (∀ b, Own vb A M V b → w.heap.size ≤ b) ∧ (∀ b, Own sb B N S b → w.heap.size ≤ b) ∧ (∀ b, Own sb B N S b → ¬ Own vb A M V b) ∧ Below w.heap.size w W
section
variable {w W W' : World} {vb sb : Nat} {V V' S : Fs} {A M B N : Nat → Nat}
theorem Pw2.below (h : Pw2 w W vb V sb S) (hB : Below W.heap.size W W') : Pw2 w W' vb V sb S := by
  obtain ⟨A, M, B, N, h1, h2, h3, h4, h5, h6⟩ := h
  exact ⟨A, M, B, N, h1.below hB, h2.below hB, h3, h4, h5, below_step h6 hB⟩
theorem Pw2.step (h1 : Rep W vb A M V) (h2 : Rep W sb B N S) (h3 : ∀ b, Own vb A M V b → w.heap.size ≤ b) (h4 : ∀ b, Own sb B N S b → w.heap.size ≤ b) (h5 : ∀ b, Own sb B N S b → ¬ Own vb A M V b) (h6 : Below w.heap.size w W) (hst : Stp W W' vb A M V V') : Pw2 w W' vb V' sb S := by
  obtain ⟨g1, A', M', g2, g3, g4⟩ := Stp.two h2 h1 h5 hst
  obtain ⟨hB, _⟩ := Stp.mine h6 h3 hst
  refine ⟨A', M', B, N, g2, g1, fun b hb => ?_, h4, g3, hB⟩
  rcases g4 b hb with h | h
  · exact h3 b h
  · exact Nat.le_trans h6.size h
end
theorem take_same {V : Fs} {nm : Bytes} {S : Fs} (h : (takeE V nm S).2 ≠ 0) : (takeE V nm S).1 = V := by
  unfold takeE at h ⊢
  (repeat' split)
  all_goals first | rfl | skip
  rename_i h1 h2 h3
  rw [if_neg h1, if_neg h2, if_neg h3] at h
  exact absurd rfl h
theorem take_nine {V : Fs} {nm : Bytes} {S : Fs} : (mayS nm = false → (takeE V nm S).2 = 9) ∧ (mayS nm = true → (takeE V nm S).2 ≠ 9) := by
  unfold takeE
  refine ⟨fun h => by rw [if_pos h], fun h => ?_⟩
  rw [if_neg (by rw [h]; decide)]
  (repeat' split)
  all_goals simp
theorem find_nine {V : Fs} {nm : Bytes} : (mayS nm = false → (findE V nm).2.2 = 9) ∧ (mayS nm = true → (findE V nm).2.2 = 0 ∨ (findE V nm).2.2 = 10) := by
  unfold findE
  refine ⟨fun h => by rw [if_neg (by rw [h]; decide)], fun h => ?_⟩
  rw [if_pos h]
  split
  · exact Or.inl rfl
  · exact Or.inr rfl

set_option maxHeartbeats 8000000 in
set_option maxRecDepth 100000 in
theorem top_calls (tb : Nat) (A M : Nat → Nat) (T : Fs) (sb : Nat) (B N : Nat → Nat) (S : Fs) (w : World) (hR : Rep w tb A M T) (hS : Rep w sb B N S) (h : (T.setM [] (S.stat []).1.mt).2 = 0 ∧ SameFs (T.setM [] (S.stat []).1.mt).1 S) :
    Calls Tryz.prog 14 #[.pointer (some ⟨tb, 0, none⟩), .pointer (some ⟨sb, 0, none⟩)] w fun e w' => e = .returned (.bool true) ∧ Below w.heap.size w w' := by
  have hst := stat_bl sb B N S [] w hS (by simp)
  rw [show mkS [] = (⟨#[]⟩ : ByteArray) from rfl] at hst
  have p1 := run_eql_nil_ptr (P := Tryz.prog) w ⟨tb, 0, none⟩ Tryz.underlying27
  have p2 := run_eql_nil_ptr (P := Tryz.prog) w ⟨sb, 0, none⟩ Tryz.underlying27
  generalize S.stat [] = st at *
  obtain ⟨⟨s1, s2, s3, s4, ⟨m1, m2, m3, m4, m5⟩, s5⟩, se⟩ := st
  unfold statV statCells ptr at hst
  dsimp only at hst h
  obtain ⟨h1, h2⟩ := h
  replace hR := Lib.hid hR
  replace hS := Lib.hid hS
  replace hst := Lib.hid hst
  replace h1 := Lib.hid h1
  replace h2 := Lib.hid h2
  go_enter Tryz.func14, Tryz.ntmps14
  go_wp2_with fail
  (with_reducible refine (hst.out).mono ?_)
  rintro e w1 ⟨rfl, hB1⟩
  have hBs := below_alloc (Below.refl w1.heap.size w1) (.cells #[.int .i64 s1, .int .i64 s2, .int .i64 s3, .int .i64 s4, .int .i64 m1, .int .i64 m2, .int .i64 m3, .int .i64 m4, .int .i64 m5, .string (mkS s5)] 42)
  have hbk := heap_alloc_new w1 (.cells #[.int .i64 s1, .int .i64 s2, .int .i64 s3, .int .i64 s4, .int .i64 m1, .int .i64 m2, .int .i64 m3, .int .i64 m4, .int .i64 m5, .string (mkS s5)] 42)
  have hB2 := below_step hB1 hBs
  have hcp := copy_calls tb A M T _ (hR.out.below hB2)
  unfold ptr at hcp
  clear p1 p2
  replace hB1 := Lib.hid hB1
  replace hBs := Lib.hid hBs
  replace hbk := Lib.hid hbk
  replace hB2 := Lib.hid hB2
  replace hcp := Lib.hid hcp
  go_wp2_with fail
  generalize w1.alloc (.cells #[.int .i64 s1, .int .i64 s2, .int .i64 s3, .int .i64 s4, .int .i64 m1, .int .i64 m2, .int .i64 m3, .int .i64 m4, .int .i64 m5, .string (mkS s5)] 42) = w2 at *
  (with_reducible refine hcp.out.mono ?_)
  rintro e w3 ⟨cb, C, MC, rfl, hC, hCo, hB3⟩
  have hbk3 := (hB3.block w1.heap.size (Array.getElem?_eq_some_iff.1 hbk.out).1).trans hbk.out
  have c4 := cell_of (j := 4) (v := .int .i64 m1) hbk3 rfl
  have c5 := cell_of (j := 5) (v := .int .i64 m2) hbk3 rfl
  have c6 := cell_of (j := 6) (v := .int .i64 m3) hbk3 rfl
  have c7 := cell_of (j := 7) (v := .int .i64 m4) hbk3 rfl
  have c8 := cell_of (j := 8) (v := .int .i64 m5) hbk3 rfl
  have hse := set_calls cb C MC T ⟨#[]⟩ ⟨m1, m2, m3, m4, m5⟩ w3 hC (by decide)
  rw [show bl (⟨#[]⟩ : ByteArray) = [] from rfl, h1.out] at hse
  have hS3 := hS.out.below (below_step hB2.out hB3)
  have hB03 := below_step hB2.out hB3
  unfold mtV mtCells ptr at hse
  dsimp only at hse
  generalize ((T.setM [] ⟨m1, m2, m3, m4, m5⟩)).1 = T' at *
  clear hbk3
  replace hse := Lib.hid hse
  replace hS3 := Lib.hid hS3
  replace hC := Lib.hid hC
  replace hCo := Lib.hid hCo
  replace hB3 := Lib.hid hB3
  replace hB03 := Lib.hid hB03
  go_wp2_with fail
  (with_reducible refine hse.out.mono ?_)
  rintro e w4 ⟨rfl, hstp⟩
  have hlo : ∀ b, Own cb C MC T b → w.heap.size ≤ b := fun b hb => Nat.le_trans hB2.out.size (hCo.out b hb)
  have hap : ∀ b, Own sb B N S b → ¬ Own cb C MC T b := fun b h1 h2 => by
    have := hlo b h2
    have := hS.out.lt h1
    omega
  obtain ⟨g1, A', M', g2, g3, g4⟩ := Stp.two hS3.out hC.out hap hstp
  obtain ⟨hB4, _⟩ := Stp.mine hB03.out hlo hstp
  have hsa := same_calls cb A' M' T' sb B N S w4 g2 g1
  unfold ptr at hsa
  clear c4 c5 c6 c7 c8 hlo hap g1 g2 g3 g4 hstp
  replace hsa := Lib.hid hsa
  replace hB4 := Lib.hid hB4
  go_wp2_with fail
  (with_reducible refine (hsa.out).mono ?_)
  rintro e w5 ⟨⟨r, rfl, hr⟩, hB5⟩
  obtain rfl : r = true := hr.2 h2.out
  have hB6 := below_step hB4.out hB5
  clear hr hB5
  replace hB6 := Lib.hid hB6
  go_wp2
  go_ret
  exact ⟨rfl, hB6.out⟩
end Go.Proofs.YtocbjhhnginebaaGreat
