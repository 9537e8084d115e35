/-
  The walk of remoralaw44.ReconPlans.
-/
import Derived.Test.YtcjlfkklpghjbaaB5
import Derived.Test.YtcjlfkklpghjbaaB4
import Derived.Test.YtcjlfkklpghjbaaB2
namespace Go.Proofs.Ytcjlfkklpghjbaa
open Go.RowKit

theorem planE_len {W L R : List Ent} {po : Int} (sL : smallEs L = true) (sR : smallEs R = true) : (planE W L R po).1.length ≤ 120 := by
  have hL60 := (smallEs_at sL).1
  have hR60 := (smallEs_at sR).1
  have hup : (upaths L R).length ≤ 120 := by
    have h := List.Nodup.length_le_of_subset (rise_nodup (upaths_is L R).1) (l₂ := entPaths L ++ entPaths R) (fun x hx => List.mem_append.2 (((upaths_is L R).2 x).1 hx))
    rw [List.length_append] at h
    unfold entPaths at h
    simp only [List.length_map] at h
    omega
  unfold planE
  split
  · simp
  · split
    · simp
    · split
      · simp
      · split
        · simp
        · dsimp only
          unfold planL markL
          rw [markTo_len _ (Nat.le_refl _), heldL, List.length_map]
          have := actsOf_len W L R po (upaths L R)
          omega

set_option maxHeartbeats 4000000 in
set_option maxRecDepth 100000 in
theorem reconPlans_walk (v : Value) (a b c : List Ent) (po : Int) (w : World) (hv : Lists3 w v a b c) (_hpo : (Lit.int IntKind.i64 po).wf = true) :
    Calls Try.prog 4 #[v, .int .i64 po] w fun e w' => e = .returned (.bool true) ∧ Below w.heap.size w w' := by
  obtain ⟨x, y, z, rfl, hx, hy, hz⟩ := hv
  have hB := below_alloc (Below.refl w.heap.size w) (.cells #[x, y, z] 24)
  have hblk := heap_alloc_new w (.cells #[x, y, z] 24)
  have hx1 := hx.below (below_alloc (Below.refl _ w) (.cells #[x, y, z] 24))
  have hy1 := hy.below (below_alloc (Below.refl _ w) (.cells #[x, y, z] 24))
  have hz1 := hz.below (below_alloc (Below.refl _ w) (.cells #[x, y, z] 24))
  have hsm := small44_calls x y z a b c _ hx1 hy1 hz1
  have haw := fun W => awake44_calls W
  obtain ⟨A1, c1, rfl, _, _⟩ := hx.shape
  obtain ⟨A2, c2, rfl, _, _⟩ := hy.shape
  obtain ⟨A3, c3, rfl, _, _⟩ := hz.shape
  have d0 := cell_of (j := 0) hblk rfl
  have d1 := cell_of (j := 1) hblk rfl
  have d2 := cell_of (j := 2) hblk rfl
  cases hq : (smallEs a && smallEs b && smallEs c) with
  | false =>
    rw [hq] at hsm
    replace hB := Lib.hid hB
    replace hblk := Lib.hid hblk
    replace hx1 := Lib.hid hx1
    replace hy1 := Lib.hid hy1
    replace hz1 := Lib.hid hz1
    replace hsm := Lib.hid hsm
    replace haw := Lib.hid haw
    replace hx := Lib.hid hx
    replace hy := Lib.hid hy
    replace hz := Lib.hid hz
    replace hq := Lib.hid hq
    go_enter Try.func4, Try.ntmps4
    go_wp2_with fail
    (with_reducible refine (hsm.out).mono ?_)
    rintro e w1 ⟨rfl, hB1⟩
    have hB01 := below_step hB.out hB1
    replace hB01 := Lib.hid hB01
    clear hB1
    go_wp2_with fail
    (with_reducible refine (haw.out _).mono ?_)
    rintro e w2 ⟨rfl, hB2⟩
    have hB02 := below_step hB01.out hB2
    replace hB02 := Lib.hid hB02
    go_wp2
    go_ret
    exact ⟨rfl, hB02.out⟩
  | true =>
    rw [hq] at hsm
    simp only [Bool.and_eq_true] at hq
    obtain ⟨⟨sa, sb⟩, sc⟩ := hq
    have hlen := planE_len (W := a) (po := po) sb sc
    have hp1 := fun W hx hy hz => plan_calls (.slice A1 a.length c1) (.slice A2 b.length c2) (.slice A3 c.length c3) a b c po W hx hy hz sa sb sc
    have hp2 := fun W hx hy hz => plan44_calls (.slice A1 a.length c1) (.slice A2 b.length c2) (.slice A3 c.length c3) a b c po W hx hy hz sa sb sc
    generalize planE a b c po = r at *
    obtain ⟨acts, code⟩ := r
    dsimp only at *
    replace hB := Lib.hid hB
    replace hblk := Lib.hid hblk
    replace hx1 := Lib.hid hx1
    replace hy1 := Lib.hid hy1
    replace hz1 := Lib.hid hz1
    replace hsm := Lib.hid hsm
    replace haw := Lib.hid haw
    replace hx := Lib.hid hx
    replace hy := Lib.hid hy
    replace hz := Lib.hid hz
    replace hlen := Lib.hid hlen
    replace hp1 := Lib.hid hp1
    replace hp2 := Lib.hid hp2
    go_enter Try.func4, Try.ntmps4
    go_wp2_with fail
    (with_reducible refine (hsm.out).mono ?_)
    rintro e w1 ⟨rfl, hB1⟩
    have hB01 := below_step hB.out hB1
    have e0 := (hB1.cell (cell_lt d0)).trans d0
    have e1 := (hB1.cell (cell_lt d1)).trans d1
    have e2 := (hB1.cell (cell_lt d2)).trans d2
    have hx2 := hx1.out.below hB1
    have hy2 := hy1.out.below hB1
    have hz2 := hz1.out.below hB1
    replace hB01 := Lib.hid hB01
    replace hx2 := Lib.hid hx2
    replace hy2 := Lib.hid hy2
    replace hz2 := Lib.hid hz2
    clear hB1 d0 d1 d2
    go_wp2_with fail
    (with_reducible refine (hp1.out _ hx2.out hy2.out hz2.out).mono ?_)
    rintro e w2 ⟨⟨v2, rfl, hO2⟩, hB2⟩
    have hB02 := below_step hB01.out hB2
    have f0 := (hB2.cell (cell_lt e0)).trans e0
    have f1 := (hB2.cell (cell_lt e1)).trans e1
    have f2 := (hB2.cell (cell_lt e2)).trans e2
    have hx3 := hx2.out.below hB2
    have hy3 := hy2.out.below hB2
    have hz3 := hz2.out.below hB2
    have hR2 := rda_own hO2
    obtain ⟨A4, c4, rfl, _, hc4⟩ := hR2.shape
    unfold maxLen at hc4
    replace hB02 := Lib.hid hB02
    replace hx3 := Lib.hid hx3
    replace hy3 := Lib.hid hy3
    replace hz3 := Lib.hid hz3
    replace hR2 := Lib.hid hR2
    clear hB2 hO2 e0 e1 e2
    go_wp2_with fail
    (with_reducible refine (hp2.out _ hx3.out hy3.out hz3.out).mono ?_)
    rintro e w3 ⟨⟨v3, rfl, hO3⟩, hB3⟩
    have hB03 := below_step hB02.out hB3
    have hR23 := hR2.out.below hB3
    have hR3 := rda_own hO3
    obtain ⟨A5, c5, rfl, _, hc5⟩ := hR3.shape
    unfold maxLen at hc5
    clear f0 f1 f2 hO3 hB3
    have hsa := same44_calls _ _ acts acts w3 hR23 hR3 (by have := hlen.out; omega)
    rw [decide_eq_true rfl] at hsa
    replace hB03 := Lib.hid hB03
    replace hR23 := Lib.hid hR23
    replace hR3 := Lib.hid hR3
    replace hsa := Lib.hid hsa
    go_wp2_with fail
    (with_reducible refine (hsa.out).mono ?_)
    rintro e w4 ⟨rfl, hB4⟩
    have hB04 := below_step hB03.out hB4
    have hR24 := hR23.out.below hB4
    have hR34 := hR3.out.below hB4
    have hcl := clash_calls _ acts w4 hR24 (by have := hlen.out; omega)
    have hcl2 := fun W hW => clash44_calls (.slice A5 acts.length c5) acts W hW (by have := hlen.out; omega)
    replace hB04 := Lib.hid hB04
    replace hR24 := Lib.hid hR24
    replace hR34 := Lib.hid hR34
    replace hcl := Lib.hid hcl
    replace hcl2 := Lib.hid hcl2
    clear hB4
    go_wp2_with fail
    (with_reducible refine (hcl.out).mono ?_)
    rintro e w5 ⟨⟨v5, rfl, hS5⟩, hB5⟩
    have hB05 := below_step hB04.out hB5
    have hR35 := hR34.out.below hB5
    have hd5 := hS5.rd
    obtain ⟨A6, c6, rfl, _, hc6⟩ := hd5.shape
    unfold maxLen at hc6
    replace hB05 := Lib.hid hB05
    replace hR35 := Lib.hid hR35
    replace hd5 := Lib.hid hd5
    clear hB5 hS5
    go_wp2_with fail
    (with_reducible refine (hcl2.out _ hR35.out).mono ?_)
    rintro e w6 ⟨⟨v6, rfl, hS6⟩, hB6⟩
    have hB06 := below_step hB05.out hB6
    have hd56 := hd5.out.below hB6
    have hd6 := hS6.rd
    obtain ⟨A7, c7, rfl, _, hc7⟩ := hd6.shape
    unfold maxLen at hc7
    have hte := rtexts_calls _ _ _ _ w6 hd56 hd6
    rw [decide_eq_true rfl] at hte
    replace hB06 := Lib.hid hB06
    replace hd56 := Lib.hid hd56
    replace hd6 := Lib.hid hd6
    replace hte := Lib.hid hte
    clear hB6 hS6
    go_wp2_with fail
    (with_reducible refine (hte.out).mono ?_)
    rintro e w7 ⟨rfl, hB7⟩
    have hB07 := below_step hB06.out hB7
    replace hB07 := Lib.hid hB07
    clear hB7
    go_wp2_with fail
    (with_reducible refine (haw.out _).mono ?_)
    rintro e w8 ⟨rfl, hB8⟩
    have hB08 := below_step hB07.out hB8
    replace hB08 := Lib.hid hB08
    go_wp2
    go_ret
    exact ⟨rfl, hB08.out⟩

end Go.Proofs.Ytcjlfkklpghjbaa
