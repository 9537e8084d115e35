/-
  remoralaw17.TreeTells.
-/
import Derived.Test.YtemdinjiplglgaaGreatB6
import Derived.Test.YtemdinjiplglgaaGreatB4
namespace Go.Proofs.YtemdinjiplglgaaGreat
open Go.RowKit

set_option maxHeartbeats 4000000 in
set_option maxRecDepth 100000 in
theorem treeTells_walk (v : Value) (l : List Act17) (p : ByteArray) (w : World) (hv : Acts w v l) (hp : p.size ≤ 140737488351232) :
    Calls Tryz.prog 5 #[v, .string p] w fun e w' => e = .returned (.bool true) ∧ Below w.heap.size w w' := by
  have haw := fun W => awake17_calls W
  have hsm := small_calls v l _ hv
  have hv0 := hv
  have hptr := fun (W : World) (tb : Nat) => run_eql_nil_ptr (P := Tryz.prog) W ⟨tb, 0, none⟩ Tryz.underlying28
  obtain ⟨A, c, rfl, h2, h3, h4⟩ := hv
  unfold maxLen at h3
  by_cases hs : small l = true ∧ p.size ≤ 600
  · obtain ⟨hs1, hs2⟩ := hs
    have hl40 := (small_at hs1).1
    have hbl := fun W hW => build_calls (.slice A l.length c) l W hW hs1
    have hrb := fun W hW => rbuild_calls (.slice A l.length c) l W hW hs1
    have hgr := acts_grow Fs.start l
    have hfew : (Fs.build l).names.length ≤ 1000 := by
      have : (Fs.build l).names.length ≤ Fs.start.names.length + l.length := hgr.1
      have h9 : Fs.start.names.length = 1 := rfl
      omega
    clear hgr
    rw [hs1] at hsm
    have hp6 : ¬ ((600 : Int) < (p.size : Int)) := by omega
    generalize Fs.build l = T at *
    have hth := fun tb rb rv C MC B (W : World) hU hR => thing_calls tb rb rv C MC B T p W hU hR (by omega) (by omega)
    have n1 := fun W => stat_nil p W
    have n2 := fun W => read_nil p W
    have n3 := fun W => list_nil p W
    have n4 := fun W => copy_nil W
    have n5 := fun W => count_nil W
    have n6 := fun W => paths_nil W
    have n7 := fun W => names_nil p W
    have n8 := fun W => same_nils W
    have n9 := fun tb W => same_nil_l tb W
    have n10 := fun tb W => same_nil_r tb W
    have n11 := fun d h0 h8 W => do_nil d h0 h8 p p W
    unfold ptr at *
    replace haw := Lib.hid haw
    replace hsm := Lib.hid hsm
    replace hv0 := Lib.hid hv0
    replace h4 := Lib.hid h4
    replace hbl := Lib.hid hbl
    replace hrb := Lib.hid hrb
    replace hth := Lib.hid hth
    replace n1 := Lib.hid n1
    replace n2 := Lib.hid n2
    replace n3 := Lib.hid n3
    replace n4 := Lib.hid n4
    replace n5 := Lib.hid n5
    replace n6 := Lib.hid n6
    replace n7 := Lib.hid n7
    replace n8 := Lib.hid n8
    replace n9 := Lib.hid n9
    replace n10 := Lib.hid n10
    replace n11 := Lib.hid n11
    replace hs1 := Lib.hid hs1
    replace hptr := Lib.hid hptr
    go_enter Tryz.func5, Tryz.ntmps5
    go_wp2_with fail
    (with_reducible refine (hsm.out).mono ?_)
    rintro e w1 ⟨rfl, rfl⟩
    go_wp2_with fail
    (with_reducible refine (hbl.out _ hv0.out).mono ?_)
    rintro e w1 ⟨tb, C, MC, rfl, hU1, hO1, hB1⟩
    have hptr1 := fun W => hptr.out W tb
    have hv1 := hv0.out.below hB1
    replace hU1 := Lib.hid hU1
    replace hO1 := Lib.hid hO1
    replace hB1 := Lib.hid hB1
    replace hv1 := Lib.hid hv1
    go_wp2_with fail
    (with_reducible refine (hrb.out _ hv1.out).mono ?_)
    rintro e w2 ⟨rb, rv, B, rfl, hR2, hP2, hB2⟩
    unfold ptr at *
    have hU2 := hU1.out.below hB2
    have hB02 := below_step hB1.out hB2
    replace hU2 := Lib.hid hU2
    replace hR2 := Lib.hid hR2
    replace hB02 := Lib.hid hB02
    clear hB1 hB2 hP2 hU1 hO1
    go_wp2_with fail
    (with_reducible refine (hth.out _ _ _ _ _ _ _ hU2.out hR2.out).mono ?_)
    rintro e w3 ⟨rfl, hB3⟩
    have hB03 := below_step hB02.out hB3
    replace hB03 := Lib.hid hB03
    clear hB3 hU2 hR2 hB02
    go_wp2_with fail
    (with_reducible refine (n1.out _).mono ?_)
    rintro e w4 ⟨rfl, hB4⟩
    have hB04 := below_alloc (below_step hB03.out hB4) (.cells #[.int .i64 0, .int .i64 0, .int .i64 0, .int .i64 0, .int .i64 0, .int .i64 0, .int .i64 0, .int .i64 0, .int .i64 0, .string ⟨#[]⟩] 50)
    replace hB04 := Lib.hid hB04
    clear hB4
    go_wp2_with fail
    (with_reducible refine (n2.out _).mono ?_)
    rintro e w5 ⟨rfl, rfl⟩
    go_wp2_with fail
    (with_reducible refine (n3.out _).mono ?_)
    rintro e w5 ⟨rfl, rfl⟩
    go_wp2_with fail
    (with_reducible refine (n4.out _).mono ?_)
    rintro e w5 ⟨rfl, rfl⟩
    go_wp2_with fail
    (with_reducible refine (n5.out _).mono ?_)
    rintro e w6 ⟨rfl, hB6⟩
    have hB06 := below_step hB04.out hB6
    replace hB06 := Lib.hid hB06
    clear hB6
    go_wp2_with fail
    (with_reducible refine (n6.out _).mono ?_)
    rintro e w6 ⟨rfl, rfl⟩
    go_wp2_with fail
    (with_reducible refine (n7.out _).mono ?_)
    rintro e w7 ⟨rfl, hB7⟩
    have hB07 := below_step hB06.out hB7
    replace hB07 := Lib.hid hB07
    clear hB7
    go_wp2_with fail
    (with_reducible refine (n8.out _).mono ?_)
    rintro e w7 ⟨rfl, rfl⟩
    go_wp2_with fail
    (with_reducible refine (n9.out _ _).mono ?_)
    rintro e w7 ⟨rfl, rfl⟩
    go_wp2_with fail
    (with_reducible refine (n10.out _ _).mono ?_)
    rintro e w7 ⟨rfl, rfl⟩
    go_wp2_with fail
    go_loopw [13] (fun i wr => ∃ j : Nat, i = .int .i64 j ∧ j ≤ 8 ∧ Below w7.heap.size w7 wr) (fun i _ => 8 - (intOf i).toNat)
    case atStart => exact ⟨0, rfl, by omega, Below.refl _ _⟩
    case round =>
      obtain ⟨j, rfl, hj, hB⟩ := hrel
      by_cases hj8 : j < 8
      · have hd := n11.out (j : Int) (by omega) (by omega)
        have hj9 : (j : Int) < 8 := by omega
        replace hB := Lib.hid hB
        replace hd := Lib.hid hd
        go_wp2_with fail
        (with_reducible refine (hd.out _).mono ?_)
        rintro e w8 ⟨rfl, hB8⟩
        have hB8' := below_step hB.out hB8
        replace hB8' := Lib.hid hB8'
        clear hB8
        go_wp2
        go_roundw
        case rel => exact ⟨j + 1, by go_num, by omega, hB8'.out⟩
        case measure => simp [intOf]; omega
      · obtain rfl : j = 8 := by omega
        have hB08 := below_step hB07.out hB
        replace hB08 := Lib.hid hB08
        replace hB := Lib.hid hB
        go_wp2_with fail
        (with_reducible refine (haw.out _).mono ?_)
        rintro e w9 ⟨rfl, hB9⟩
        replace hB9 := Lib.hid hB9
        go_wp2
        go_ret
        exact ⟨rfl, below_step hB08.out hB9.out⟩
  · have hz : small l = false ∨ (small l = true ∧ 600 < p.size) := by
      by_cases h : small l = true
      · exact Or.inr ⟨h, Nat.lt_of_not_le fun h2 => hs ⟨h, h2⟩⟩
      · exact Or.inl (small_not h)
    rcases hz with hz | ⟨hz, hz2⟩
    all_goals
      rw [hz] at hsm
      replace haw := Lib.hid haw
      replace hsm := Lib.hid hsm
      replace hv0 := Lib.hid hv0
      replace h4 := Lib.hid h4
      replace hz := Lib.hid hz
      replace hptr := Lib.hid hptr
      replace hs := Lib.hid hs
      go_enter Tryz.func5, Tryz.ntmps5
      go_wp2_with fail
      (with_reducible refine (hsm.out).mono ?_)
      rintro e w1 ⟨rfl, rfl⟩
      go_wp2_with fail
      (with_reducible refine (haw.out _).mono ?_)
      rintro e w2 ⟨rfl, hB⟩
      replace hB := Lib.hid hB
      go_wp2
      go_ret
      exact ⟨rfl, hB.out⟩

end Go.Proofs.YtemdinjiplglgaaGreat
