/-
  BasisStep: one byte put in, taken out or changed; a common begin and end.
-/
import Derived.Test.YtbochdimjhlnmaaBasisLaws
import Derived.Laws.BytesArg
import Derived.Laws.Concat
namespace Go.Proofs.Ytbochdimjhlnmaa
open Go.RowKit
set_option linter.unusedVariables false
set_option linter.unusedSimpArgs false

theorem dist_one (a b s : ByteArray) (hs : s.size = 1) : dist (a ++ b) (a ++ s ++ b) = 1 := by
  rw [show a ++ s ++ b = a ++ (s ++ b) from by rw [ByteArray.append_assoc], dist_pre]
  have h := dist_post b ⟨#[]⟩ s
  have e : (⟨#[]⟩ : ByteArray) ++ b = b := by apply bl_inj; rw [bl_append]; rfl
  rw [e] at h
  rw [h, dist_nil, hs]; rfl

set_option maxHeartbeats 2000000 in
theorem basisStep_walk (a b : ByteArray) (c : Int) (w : World) (_ : a.size ≤ 140737488351232) (_ : b.size ≤ 140737488351232) (hc : (Lit.int .u8 c).wf = true) :
    Calls Try.prog 5 #[.string a, .string b, .int .u8 c] w fun e w' => e = .returned (.bool true) ∧ Below w.heap.size w w' := by
  by_cases hs : a.size ≤ 90 ∧ b.size ≤ 90
  · obtain ⟨ha, hb⟩ := hs
    have hconv : ∀ W : World, (convert 26 9 (.slice (some ⟨W.heap.size, 0, none⟩) 1 1)).run Try.prog (W.alloc (.cells #[.int .u8 c] 5)) = .ok (.string (strOfNums [c])) (W.alloc (.cells #[.int .u8 c] 5)) := fun W =>
      run_convert_bytes_arg _ 26 5 Try.underlying26 Try.underlying5 W.heap.size 0 1 1 [c] rfl (fun i hi => by
        obtain rfl : i = 0 := by omega
        rw [cell_of_row _ _ _ _ _ _ (heap_alloc_new W _)]; rfl) 9 Try.underlying9
    have hsz : (strOfNums [c]).size = 1 := rfl
    generalize strOfNums [c] = s at *
    have A1 : ∀ W, Calls Try.prog 9 #[.string (a ++ b), .string (a ++ s ++ b)] W fun e w' => e = .returned (.int .i64 1) ∧ Below W.heap.size W w' := fun W => by
      rw [← dist_one a b s hsz]
      exact apart_short (by simp; omega) (by simp; omega) W
    have A2 : ∀ W, Calls Try.prog 9 #[.string a, .string b] W fun e w' => e = .returned (.int .i64 (dist a b)) ∧ Below W.heap.size W w' := fun W => apart_short (by omega) (by omega) W
    have A3 : ∀ W, Calls Try.prog 9 #[.string (s ++ a), .string (s ++ b)] W fun e w' => e = .returned (.int .i64 (dist a b)) ∧ Below W.heap.size W w' := fun W => by
      rw [← dist_pre s a b]
      exact apart_short (by simp; omega) (by simp; omega) W
    have A4 : ∀ W, Calls Try.prog 9 #[.string (a ++ s), .string (b ++ s)] W fun e w' => e = .returned (.int .i64 (dist a b)) ∧ Below W.heap.size W w' := fun W => by
      rw [← dist_post s a b]
      exact apart_short (by simp; omega) (by simp; omega) W
    have A5 : ∀ W, Calls Try.prog 9 #[.string ⟨#[]⟩, .string a] W fun e w' => e = .returned (.int .i64 a.size) ∧ Below W.heap.size W w' := fun W => by
      have h := apart_short (a := ⟨#[]⟩) (b := a) (by show 0 ≤ 200; omega) (by omega) W
      rwa [dist_nil] at h
    have s1 : ((a ++ b).size : Int) ≤ 8388608 := by simp; omega
    have s2 : ((a ++ s).size : Int) ≤ 8388608 := by simp; omega
    have s3 : ((s ++ a).size : Int) ≤ 8388608 := by simp; omega
    have s4 : (s.size : Int) ≤ 8388608 := by omega
    have s5 : (a.size : Int) ≤ 8388608 := by omega
    have s6 : (b.size : Int) ≤ 8388608 := by omega
    generalize dist a b = n at *
    replace A1 := Lib.hid A1
    replace A2 := Lib.hid A2
    replace A3 := Lib.hid A3
    replace A4 := Lib.hid A4
    replace A5 := Lib.hid A5
    clear hsz
    go_enter Try.func5, Try.ntmps5
    go_wp2_with fail
    refine (A1.out _).mono ?_
    rintro e w1 ⟨rfl, hb1⟩
    go_wp2_with fail
    refine (A2.out _).mono ?_
    rintro e w2 ⟨rfl, hb2⟩
    go_wp2_with fail
    refine (A3.out _).mono ?_
    rintro e w3 ⟨rfl, hb3⟩
    go_wp2_with fail
    refine (A4.out _).mono ?_
    rintro e w4 ⟨rfl, hb4⟩
    go_wp2_with fail
    refine (A5.out _).mono ?_
    rintro e w5 ⟨rfl, hb5⟩
    go_wp2_with fail
    refine (awake22_calls _).mono ?_
    rintro e w6 ⟨rfl, hb6⟩
    go_wp2
    go_ret
    exact ⟨rfl, below_step (below_step (below_step (below_step (below_step (below_step (below_alloc (Below.refl _ _) _) hb1) hb2) hb3) hb4) hb5) hb6⟩
  · by_cases h1 : 90 < a.size
    · clear hs
      go_enter Try.func5, Try.ntmps5
      go_wp2_with fail
      refine (awake22_calls _).mono ?_
      rintro e w5 ⟨rfl, hb5⟩
      go_wp2
      go_ret
      exact ⟨rfl, hb5⟩
    · have h2 : 90 < b.size := by omega
      clear hs
      go_enter Try.func5, Try.ntmps5
      go_wp2_with fail
      refine (awake22_calls _).mono ?_
      rintro e w5 ⟨rfl, hb5⟩
      go_wp2
      go_ret
      exact ⟨rfl, hb5⟩
#print axioms basisStep_walk
end Go.Proofs.Ytbochdimjhlnmaa
