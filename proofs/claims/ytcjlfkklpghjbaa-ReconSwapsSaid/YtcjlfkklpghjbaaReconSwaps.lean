/-
  The walk of remoralaw44.ReconSwaps.
-/
import Derived.Test.YtcjlfkklpghjbaaB5
import Derived.Test.YtcjlfkklpghjbaaB4
namespace Go.Proofs.Ytcjlfkklpghjbaa
open Go.RowKit

theorem planE_zero {W L R : List Ent} {n : Int} (h : (planE W L R n).2 = 0) : planE W L R n = (planL W L R n, 0) := by
  unfold planE at h ⊢
  split
  · rename_i h1
    rw [if_pos h1] at h
    exact absurd h h1
  · rename_i h1
    rw [if_neg h1] at h
    split
    · rename_i h2
      rw [if_pos h2] at h
      exact absurd h h2
    · rename_i h2
      rw [if_neg h2] at h
      split
      · rename_i h3
        rw [if_pos h3] at h
        exact absurd h h3
      · rename_i h3
        rw [if_neg h3] at h
        split
        · rename_i h4
          rw [if_pos h4] at h
          cases h
        · rfl
theorem planE_ok {W L R : List Ent} {n : Int} (hn : 0 ≤ n ∧ n ≤ 3) : (planE W L R n).2 = 0 ↔ chk W = 0 ∧ chk L = 0 ∧ chk R = 0 := by
  unfold planE
  have h4 : ¬ (n < 0 ∨ 3 < n) := by omega
  by_cases h1 : chk W = 0
  · rw [if_neg (by simp [h1])]
    by_cases h2 : chk L = 0
    · rw [if_neg (by simp [h2])]
      by_cases h3 : chk R = 0
      · rw [if_neg (by simp [h3]), if_neg h4]
        simp [h1, h2, h3]
      · rw [if_pos h3]
        simp [h3]
    · rw [if_pos h2]
      simp [h2]
  · rw [if_pos h1]
    simp [h1]
theorem planE_swap {W L R : List Ent} {n m : Int} (hn : 0 ≤ n ∧ n ≤ 3) (hm : 0 ≤ m ∧ m ≤ 3) : (planE W L R n).2 = 0 ↔ (planE W R L m).2 = 0 := by
  rw [planE_ok hn, planE_ok hm]
  exact and_congr Iff.rfl and_comm

def sameT (x y : Ent) : Prop := x.path = y.path ∧ x.mt.sec = y.mt.sec ∧ x.mt.nano = y.mt.nano
theorem apartT_of {L R : List Ent} (h : ∀ i (hi : i < L.length) k (hk : k < R.length), ¬ sameT L[i] R[k]) : ApartT L R := fun x hx y hy e hs => by
  obtain ⟨i, hi, rfl⟩ := List.mem_iff_getElem.1 hx
  obtain ⟨k, hk, rfl⟩ := List.mem_iff_getElem.1 hy
  exact h i hi k hk ⟨e, hs.1, hs.2⟩

set_option maxHeartbeats 8000000 in
set_option maxRecDepth 100000 in
theorem reconSwaps_walk (v : Value) (a b c : List Ent) (pol : Int) (w : World) (hv : Lists3 w v a b c) (hpol : (Lit.int IntKind.u8 pol).wf = true) :
    Calls Try.prog 3 #[v, .int .u8 pol] w fun e w' => e = .returned (.bool true) ∧ Below w.heap.size w w' := by
  obtain ⟨x, y, z, rfl, hx, hy, hz⟩ := hv
  have hB := below_alloc (Below.refl w.heap.size w) (.cells #[x, y, z] 24)
  have hblk := heap_alloc_new w (.cells #[x, y, z] 24)
  have hx1 := hx.below (below_alloc (Below.refl _ w) (.cells #[x, y, z] 24))
  have hy1 := hy.below (below_alloc (Below.refl _ w) (.cells #[x, y, z] 24))
  have hz1 := hz.below (below_alloc (Below.refl _ w) (.cells #[x, y, z] 24))
  have hsm := small44_calls x y z a b c _ hx1 hy1 hz1
  have haw := fun W => awake44_calls W
  obtain ⟨A1, c1, rfl, _, _⟩ := hx.shape
  obtain ⟨A2, c2, rfl, _, _⟩ := hy.shape
  obtain ⟨A3, c3, rfl, _, _⟩ := hz.shape
  have d0 := cell_of (j := 0) hblk rfl
  have d1 := cell_of (j := 1) hblk rfl
  have d2 := cell_of (j := 2) hblk rfl
  have hp0 : 0 ≤ pol := by
    have h := hpol
    unfold Lit.wf at h
    rw [Bool.and_eq_true, decide_eq_true_eq, decide_eq_true_eq] at h
    have h1 : IntKind.u8.min = 0 := by decide
    omega
  cases hq : (smallEs a && smallEs b && smallEs c) with
  | false =>
    rw [hq] at hsm
    replace hB := Lib.hid hB
    replace hblk := Lib.hid hblk
    replace hx1 := Lib.hid hx1
    replace hy1 := Lib.hid hy1
    replace hz1 := Lib.hid hz1
    replace hsm := Lib.hid hsm
    replace haw := Lib.hid haw
    replace hx := Lib.hid hx
    replace hy := Lib.hid hy
    replace hz := Lib.hid hz
    replace hq := Lib.hid hq
    replace hpol := Lib.hid hpol
    go_enter Try.func3, Try.ntmps3
    go_wp2_with fail
    (with_reducible refine (hsm.out).mono ?_)
    rintro e w1 ⟨rfl, hB1⟩
    have hB01 := below_step hB.out hB1
    replace hB01 := Lib.hid hB01
    clear hB1
    go_wp2_with fail
    (with_reducible refine (haw.out _).mono ?_)
    rintro e w2 ⟨rfl, hB2⟩
    have hB02 := below_step hB01.out hB2
    replace hB02 := Lib.hid hB02
    go_wp2
    go_ret
    exact ⟨rfl, hB02.out⟩
  | true =>
    rw [hq] at hsm
    simp only [Bool.and_eq_true] at hq
    obtain ⟨⟨sa, sb⟩, sc⟩ := hq
    have hp1 := fun n W hx hy hz => plan_calls (.slice A1 a.length c1) (.slice A2 b.length c2) (.slice A3 c.length c3) a b c n W hx hy hz sa sb sc
    have hp2 := fun n W hx hy hz => plan_calls (.slice A1 a.length c1) (.slice A3 c.length c3) (.slice A2 b.length c2) a c b n W hx hy hz sa sc sb
    have hl1 := fun n => planE_len (W := a) (po := n) sb sc
    have hb60 := (smallEs_at sb).1
    have hc60 := (smallEs_at sc).1
    have hm4 : pol % 4 = 0 ∨ pol % 4 = 1 ∨ pol % 4 = 2 ∨ pol % 4 = 3 := by omega
    replace hB := Lib.hid hB
    replace hblk := Lib.hid hblk
    replace hx1 := Lib.hid hx1
    replace hy1 := Lib.hid hy1
    replace hz1 := Lib.hid hz1
    replace hsm := Lib.hid hsm
    replace haw := Lib.hid haw
    replace hx := Lib.hid hx
    replace hy := Lib.hid hy
    replace hz := Lib.hid hz
    replace hp1 := Lib.hid hp1
    replace hp2 := Lib.hid hp2
    replace sa := Lib.hid sa
    replace sb := Lib.hid sb
    replace sc := Lib.hid sc
    replace hpol := Lib.hid hpol
    replace hl1 := Lib.hid hl1
    replace hm4 := Lib.hid hm4
    replace hb60 := Lib.hid hb60
    replace hc60 := Lib.hid hc60
    go_enter Try.func3, Try.ntmps3
    go_wp2_with fail
    (with_reducible refine (hsm.out).mono ?_)
    rintro e w1 ⟨rfl, hB1⟩
    have hB01 := below_step hB.out hB1
    have e0 := (hB1.cell (cell_lt d0)).trans d0
    have e1 := (hB1.cell (cell_lt d1)).trans d1
    have e2 := (hB1.cell (cell_lt d2)).trans d2
    have hx2 := hx1.out.below hB1
    have hy2 := hy1.out.below hB1
    have hz2 := hz1.out.below hB1
    replace hB01 := Lib.hid hB01
    replace hx2 := Lib.hid hx2
    replace hy2 := Lib.hid hy2
    replace hz2 := Lib.hid hz2
    clear hB1 d0 d1 d2
    go_upto_region 4 with fail
    have hm5 := hm4.out
    generalize pol % 4 = n at *
    clear hp0 hm4 hsm hblk hx1 hy1 hz1
    rcases hm5 with rfl | rfl | rfl | rfl
    · have hix : ∀ W : World, (Instr.index 27 (.agg #[.int .i64 0, .int .i64 2, .int .i64 1, .int .i64 3]) (.int .i64 0)).run Try.prog W = .ok (.int .i64 0) W := fun W => by kernel_rfl
      have hsw := planE_swap (W := a) (L := b) (R := c) (n := 0) (m := 0) (by omega) (by omega)
      have hz1' := @planE_zero a b c 0
      have hz2' := @planE_zero a c b 0
      have q1 := fun W hx hy hz => hp1.out 0 W hx hy hz
      have q2 := fun W hx hy hz => hp2.out 0 W hx hy hz
      have hlen := hl1.out 0
      generalize planE a b c 0 = r1 at *
      generalize planE a c b 0 = r2 at *
      obtain ⟨acts1, k1⟩ := r1
      obtain ⟨acts2, k2⟩ := r2
      dsimp only at *
      replace hsw := Lib.hid hsw
      replace hz1' := Lib.hid hz1'
      replace hz2' := Lib.hid hz2'
      replace q1 := Lib.hid q1
      replace q2 := Lib.hid q2
      replace hlen := Lib.hid hlen
      go_wp2_with fail
      (with_reducible refine (q1.out _ hx2.out hy2.out hz2.out).mono ?_)
      rintro e w2 ⟨⟨v2, rfl, hO2⟩, hB2⟩
      have hB02 := below_step hB01.out hB2
      have f0 := (hB2.cell (cell_lt e0)).trans e0
      have f1 := (hB2.cell (cell_lt e1)).trans e1
      have f2 := (hB2.cell (cell_lt e2)).trans e2
      have hx3 := hx2.out.below hB2
      have hy3 := hy2.out.below hB2
      have hz3 := hz2.out.below hB2
      have R2 := rda_own hO2
      obtain ⟨A4, c4, rfl, hc41, hc4⟩ := R2.shape
      unfold maxLen at hc4
      replace hB02 := Lib.hid hB02
      replace hx3 := Lib.hid hx3
      replace hy3 := Lib.hid hy3
      replace hz3 := Lib.hid hz3
      replace R2 := Lib.hid R2
      clear hB2 hO2 e0 e1 e2
      go_wp2_with fail
      (with_reducible refine (q2.out _ hx3.out hz3.out hy3.out).mono ?_)
      rintro e w3 ⟨⟨v3, rfl, hO3⟩, hB3⟩
      have hB03 := below_step hB02.out hB3
      have g0 := (hB3.cell (cell_lt f0)).trans f0
      have g1 := (hB3.cell (cell_lt f1)).trans f1
      have g2 := (hB3.cell (cell_lt f2)).trans f2
      have hy4 := hy3.out.below hB3
      have hz4 := hz3.out.below hB3
      have R23 := R2.out.below hB3
      have R3 := rda_own hO3
      obtain ⟨A5, c5, rfl, hc51, hc5⟩ := R3.shape
      unfold maxLen at hc5
      replace hB03 := Lib.hid hB03
      replace R23 := Lib.hid R23
      replace R3 := Lib.hid R3
      replace hy4 := Lib.hid hy4
      replace hz4 := Lib.hid hz4
      clear f0 f1 f2 hO3 hB3 hx3 hy3 hz3 R2
      by_cases hk1 : k1 = 0
      rotate_left 1
      · have hk2 : k2 ≠ 0 := fun h => hk1 (hsw.out.2 h)
        have t1 : (k1 == 0) = false := by simpa using hk1
        have t2 : (k2 == 0) = false := by simpa using hk2
        have t3 : (k1 != 0) = true := by simpa using hk1
        replace hk1 := Lib.hid hk1
        replace hk2 := Lib.hid hk2
        go_wp2_with fail
        (with_reducible refine (haw.out _).mono ?_)
        rintro e w4 ⟨rfl, hB4⟩
        have hB04 := below_step hB03.out hB4
        replace hB04 := Lib.hid hB04
        go_wp2
        go_ret
        exact ⟨rfl, hB04.out⟩
      · have hk2 : k2 = 0 := hsw.out.1 hk1
        subst hk1 hk2
        have hsame : (0 = 3 → ApartT b c) → acts2 = swapA acts1 := fun h => by
          have h1 := congrArg Prod.fst (hz1'.out rfl)
          have h2 := congrArg Prod.fst (hz2'.out rfl)
          dsimp only at h1 h2
          rw [h1, h2]
          exact planL_swap (n := 0) (by omega) (fun e => h (by omega))
        replace hsame := Lib.hid hsame
        clear hB hz1' hz2' hsw hp1 hp2 hl1 q1 q2 hB01 hB02 hx2 hy2 hz2 hix
        go_wp2_with fail
        go_loopw [11] (fun i wr => i = .int .i64 0 ∧ Below w3.heap.size w3 wr) (fun _ _ => 0)
        case atStart => exact ⟨rfl, Below.refl _ _⟩
        case round =>
          obtain ⟨rfl, hB⟩ := hrel
          have hsm2 := hsame.out (by omega)
          have hB3t := below_step hB03.out hB
          have R4 := R23.out.below hB
          have R5 := R3.out.below hB
          obtain ⟨wt, rfl⟩ : ∃ wt : World, wt = wr := ⟨_, rfl⟩
          replace hB := Lib.hid hB
          replace hB3t := Lib.hid hB3t
          replace R4 := Lib.hid R4
          replace R5 := Lib.hid R5
          replace hsm2 := Lib.hid hsm2
          clear g0 g1 g2 R23 R3
          go_wp2_with fail
          go_loopw [15, 16] (fun o i wr => ∃ k : Nat, i = .int .i64 k ∧ k ≤ acts1.length ∧ wr.ownsRow wt.heap.size 39 2 o k (actRow (acts1.take k)) ∧ Below wt.heap.size wt wr) (fun _ i _ => acts1.length - (intOf i).toNat)
          case atStart => exact ⟨0, rfl, Nat.zero_le _, World.ownsRow_nil _ _ _ _, Below.refl _ _⟩
          case round =>
            obtain ⟨k, rfl, hk, hO, hBt⟩ := hrel
            by_cases hlt : k < acts1.length
            · obtain ⟨g, o, rfl, c1, c2⟩ := (R4.out.below hBt).at hlt
              have hsn : acts1.take (k + 1) = acts1.take k ++ [acts1[k]] := List.take_succ_eq_append_getElem hlt
              generalize acts1[k] = y at *
              obtain ⟨q, t⟩ := y
              dsimp only at *
              obtain ⟨oA, oc, ho, ho1, ho2⟩ := own_shape hO
              subst ho
              unfold maxLen at ho2
              have hki : (k : Int) < (acts1.length : Int) := by omega
              have hlen' := hlen.out
              replace hO := Lib.hid hO
              replace hBt := Lib.hid hBt
              replace hsn := Lib.hid hsn
              go_upto_region 22 with fail
              refine wp_region_held_tail (S := fun W => W.cell? ⟨g, o + k * 2, none⟩ = some (.string (mkS q)) ∧ W.cell? ⟨g, o + k * 2 + 1, none⟩ = some (.int .i64 t)) 13 (by kernel_rfl) (by kernel_rfl) ⟨c1, c2⟩ (fun hHeld => ?_)
              simp only [List.take_succ_cons, List.take_zero, List.drop_succ_cons, List.drop_zero]
              simp only [Array.replicate, List.replicate]
              refine wpAnyH_take (i := 0) (v := ?_) rfl (by kernel_rfl) (by kernel_rfl) (by kernel_rfl) (fun _ _ _ h => h) (Or.inl ⟨by rfl, ?_⟩) (by assumption) ?_
              rotate_left 1
              · intro W hSw
                obtain ⟨hSw1, hSw2⟩ := hSw
                (try dsimp only at hSw1 hSw2)
                go_simp
                try with_reducible rfl
              simp only [Act.put, List.setIfInBounds_toArray, List.set_cons_zero, List.set_cons_succ]
              refine wpAnyH_take (i := 1) (v := ?_) rfl (by kernel_rfl) (by kernel_rfl) (by kernel_rfl) (fun _ _ _ h => h) (Or.inl ⟨by rfl, ?_⟩) (by assumption) ?_
              rotate_left 1
              · intro W hSw
                obtain ⟨hSw1, hSw2⟩ := hSw
                (try dsimp only at hSw1 hSw2)
                go_simp
                try with_reducible rfl
              simp only [Act.put, List.setIfInBounds_toArray, List.set_cons_zero, List.set_cons_succ]
              refine wpAnyH_take (i := 2) (v := ?_) rfl (by kernel_rfl) (by kernel_rfl) (by kernel_rfl) (fun _ _ _ h => h) (Or.inl ⟨by rfl, ?_⟩) (by assumption) ?_
              rotate_left 1
              · intro W hSw
                obtain ⟨hSw1, hSw2⟩ := hSw
                (try dsimp only at hSw1 hSw2)
                go_simp
                try with_reducible rfl
              simp only [Act.put, List.setIfInBounds_toArray, List.set_cons_zero, List.set_cons_succ]
              refine wpAnyH_take (i := 3) (v := ?_) rfl (by kernel_rfl) (by kernel_rfl) (by kernel_rfl) (fun _ _ _ h => h) (Or.inl ⟨by rfl, ?_⟩) (by assumption) ?_
              rotate_left 1
              · intro W hSw
                obtain ⟨hSw1, hSw2⟩ := hSw
                (try dsimp only at hSw1 hSw2)
                go_simp
                try with_reducible rfl
              simp only [Act.put, List.setIfInBounds_toArray, List.set_cons_zero, List.set_cons_succ]
              refine wpAnyH_take (i := 4) (v := ?_) rfl (by kernel_rfl) (by kernel_rfl) (by kernel_rfl) (fun _ _ _ h => h) (Or.inl ⟨by rfl, ?_⟩) (by assumption) ?_
              rotate_left 1
              · intro W hSw
                obtain ⟨hSw1, hSw2⟩ := hSw
                (try dsimp only at hSw1 hSw2)
                go_simp
                try with_reducible rfl
              simp only [Act.put, List.setIfInBounds_toArray, List.set_cons_zero, List.set_cons_succ]
              refine wpAnyH_take (i := 5) (v := ?_) rfl (by kernel_rfl) (by kernel_rfl) (by kernel_rfl) (fun _ _ _ h => h) (Or.inl ⟨by rfl, ?_⟩) (by assumption) ?_
              rotate_left 1
              · intro W hSw
                obtain ⟨hSw1, hSw2⟩ := hSw
                (try dsimp only at hSw1 hSw2)
                go_simp
                try with_reducible rfl
              simp only [Act.put, List.setIfInBounds_toArray, List.set_cons_zero, List.set_cons_succ]
              refine wpAnyH_take (i := 6) (v := ?_) rfl (by kernel_rfl) (by kernel_rfl) (by kernel_rfl) (fun _ _ _ h => h) (Or.inl ⟨by rfl, ?_⟩) (by assumption) ?_
              rotate_left 1
              · intro W hSw
                obtain ⟨hSw1, hSw2⟩ := hSw
                (try dsimp only at hSw1 hSw2)
                go_simp
                try with_reducible rfl
              simp only [Act.put, List.setIfInBounds_toArray, List.set_cons_zero, List.set_cons_succ]
              refine wpAnyH_take (i := 7) (v := ?_) rfl (by kernel_rfl) (by kernel_rfl) (by kernel_rfl) (fun _ _ _ h => h) (Or.inl ⟨by rfl, ?_⟩) (by assumption) ?_
              rotate_left 1
              · intro W hSw
                obtain ⟨hSw1, hSw2⟩ := hSw
                (try dsimp only at hSw1 hSw2)
                go_simp
                try with_reducible rfl
              simp only [Act.put, List.setIfInBounds_toArray, List.set_cons_zero, List.set_cons_succ]
              refine wpAnyH_take (i := 8) (v := ?_) rfl (by kernel_rfl) (by kernel_rfl) (by kernel_rfl) (fun _ _ _ h => h) (Or.inl ⟨by rfl, ?_⟩) (by assumption) ?_
              rotate_left 1
              · intro W hSw
                obtain ⟨hSw1, hSw2⟩ := hSw
                (try dsimp only at hSw1 hSw2)
                go_simp
                try with_reducible rfl
              simp only [Act.put, List.setIfInBounds_toArray, List.set_cons_zero, List.set_cons_succ]
              refine wpAnyH_take (i := 9) (v := ?_) rfl (by kernel_rfl) (by kernel_rfl) (by kernel_rfl) (fun _ _ _ h => h) (Or.inl ⟨by rfl, ?_⟩) (by assumption) ?_
              rotate_left 1
              · intro W hSw
                obtain ⟨hSw1, hSw2⟩ := hSw
                (try dsimp only at hSw1 hSw2)
                go_simp
                try with_reducible rfl
              simp only [Act.put, List.setIfInBounds_toArray, List.set_cons_zero, List.set_cons_succ]
              refine wpAnyH_take (i := 10) (v := ?_) rfl (by kernel_rfl) (by kernel_rfl) (by kernel_rfl) (fun _ _ _ h => h) (Or.inl ⟨by rfl, ?_⟩) (by assumption) ?_
              rotate_left 1
              · intro W hSw
                obtain ⟨hSw1, hSw2⟩ := hSw
                (try dsimp only at hSw1 hSw2)
                go_simp
                try with_reducible rfl
              simp only [Act.put, List.setIfInBounds_toArray, List.set_cons_zero, List.set_cons_succ]
              refine wpAnyH_take (i := 11) (v := ?_) rfl (by kernel_rfl) (by kernel_rfl) (by kernel_rfl) (fun _ _ _ h => h) (Or.inl ⟨by rfl, ?_⟩) (by assumption) ?_
              rotate_left 1
              · intro W hSw
                obtain ⟨hSw1, hSw2⟩ := hSw
                (try dsimp only at hSw1 hSw2)
                go_simp
                try with_reducible rfl
              simp only [Act.put, List.setIfInBounds_toArray, List.set_cons_zero, List.set_cons_succ]
              have c3 := ((below_alloc (below_drewN (Below.refl _ wr) 1) (.cells #[.string (mkS q), .int .i64 t] 39)).cell (cell_lt c1)).trans c1
              have c4' := ((below_alloc (below_drewN (Below.refl _ wr) 1) (.cells #[.string (mkS q), .int .i64 t] 39)).cell (cell_lt c2)).trans c2
              refine wpAnyH_ready (rs := [12]) (by kernel_rfl) (by simp) ?_
              refine AllReadyH.cons rfl (fun K hK => ?_) AllReadyH.nil
              go_simp
              refine hK.out _ _ ⟨c3, c4'⟩ (fun hHeld => ?_)
              clear hK K
              simp only [Act.put, List.setIfInBounds_toArray, List.set_cons_zero, List.set_cons_succ]
              refine wpAnyH_done (by kernel_rfl) ?_ _
              have hOd := own_drewN hO.out 1
              have hBd := below_drewN hBt.out 1
              change wpList _ _ _ _ _ ((wr.drewN 1).alloc (.cells #[.string (mkS q), .int .i64 t] 39))
              replace hOd := Lib.hid hOd
              replace hBd := Lib.hid hBd
              go_wp2_with (at_builtin; refine wp_append1 wt.heap.size rfl (.tmp 121) (.tmp 133) 36 39 rfl Try.underlying36 (.agg #[.string ⟨#[]⟩, .int .i64 0]) 2 24 info_act44 rfl (by decide) (.slice oA k oc) _ _ rfl [.string (mkS q), .int .i64 t] rfl hOd.out rfl ?_ ?_ ?_ hBd.out.size ?_)
              · simp [Value.oneCell']
              · simp only [maxLen]; omega
              · omega
              · intro v1 wx h1 hg hat
                have hBx := hBd.out.grown hg hBd.out.size (own_base hOd.out)
                have hOx : wx.ownsRow wt.heap.size 39 2 v1 (k + 1) (actRow (acts1.take (k + 1))) := by
                  rw [hsn.out, actRow_append]
                  exact h1
                replace hOx := Lib.hid hOx
                replace hBx := Lib.hid hBx
                clear h1 hg hat
                go_wp2
                go_roundw
                case rel => exact ⟨k + 1, by go_num, by omega, hOx.out, hBx.out⟩
                case measure => simp [intOf]; omega
            · obtain rfl : k = acts1.length := by omega
              rw [List.take_length] at hO
              have hR6 := rda_own hO
              obtain ⟨A6, c6, rfl, _, hc6⟩ := hR6.shape
              unfold maxLen at hc6
              have hB6 := below_step hB3t.out hBt
              have R56 := R5.out.below hBt
              have hswp := swap44_calls _ acts1 wr hR6 (by have := hlen.out; omega)
              replace hR6 := Lib.hid hR6
              replace hB6 := Lib.hid hB6
              replace R56 := Lib.hid R56
              replace hswp := Lib.hid hswp
              replace hO := Lib.hid hO
              replace hBt := Lib.hid hBt
              go_wp2_with fail
              (with_reducible refine (hswp.out).mono ?_)
              rintro e w7 ⟨⟨v7, rfl, hO7⟩, hB7⟩
              have hB67 := below_step hB6.out hB7
              have R57 := R56.out.below hB7
              rw [← hsm2.out] at hO7
              have hl7 : acts2.length = acts1.length := by rw [hsm2.out]; unfold swapA; rw [List.length_map]
              rw [← hl7] at hO7
              have R7 := rda_own hO7
              obtain ⟨A7, c7, rfl, _, hc7⟩ := R7.shape
              unfold maxLen at hc7
              have hsm7 := same44_calls _ _ acts2 acts2 w7 R57 R7 (by rw [hl7]; have := hlen.out; omega)
              rw [decide_eq_true rfl] at hsm7
              replace hB67 := Lib.hid hB67
              replace hsm7 := Lib.hid hsm7
              replace hl7 := Lib.hid hl7
              clear hB7 hO7 R57
              go_wp2_with fail
              (with_reducible refine (hsm7.out).mono ?_)
              rintro e w8 ⟨rfl, hB8⟩
              have hB08 := below_step hB67.out hB8
              replace hB08 := Lib.hid hB08
              clear hB8
              go_wp2_with fail
              (with_reducible refine (haw.out _).mono ?_)
              rintro e w9 ⟨rfl, hB9⟩
              have hB09 := below_step hB08.out hB9
              replace hB09 := Lib.hid hB09
              clear hB9
              go_wp2
              go_ret
              exact ⟨rfl, hB09.out⟩
    · have hix : ∀ W : World, (Instr.index 27 (.agg #[.int .i64 0, .int .i64 2, .int .i64 1, .int .i64 3]) (.int .i64 1)).run Try.prog W = .ok (.int .i64 2) W := fun W => by kernel_rfl
      have hsw := planE_swap (W := a) (L := b) (R := c) (n := 1) (m := 2) (by omega) (by omega)
      have hz1' := @planE_zero a b c 1
      have hz2' := @planE_zero a c b 2
      have q1 := fun W hx hy hz => hp1.out 1 W hx hy hz
      have q2 := fun W hx hy hz => hp2.out 2 W hx hy hz
      have hlen := hl1.out 1
      generalize planE a b c 1 = r1 at *
      generalize planE a c b 2 = r2 at *
      obtain ⟨acts1, k1⟩ := r1
      obtain ⟨acts2, k2⟩ := r2
      dsimp only at *
      replace hsw := Lib.hid hsw
      replace hz1' := Lib.hid hz1'
      replace hz2' := Lib.hid hz2'
      replace q1 := Lib.hid q1
      replace q2 := Lib.hid q2
      replace hlen := Lib.hid hlen
      go_wp2_with fail
      (with_reducible refine (q1.out _ hx2.out hy2.out hz2.out).mono ?_)
      rintro e w2 ⟨⟨v2, rfl, hO2⟩, hB2⟩
      have hB02 := below_step hB01.out hB2
      have f0 := (hB2.cell (cell_lt e0)).trans e0
      have f1 := (hB2.cell (cell_lt e1)).trans e1
      have f2 := (hB2.cell (cell_lt e2)).trans e2
      have hx3 := hx2.out.below hB2
      have hy3 := hy2.out.below hB2
      have hz3 := hz2.out.below hB2
      have R2 := rda_own hO2
      obtain ⟨A4, c4, rfl, hc41, hc4⟩ := R2.shape
      unfold maxLen at hc4
      replace hB02 := Lib.hid hB02
      replace hx3 := Lib.hid hx3
      replace hy3 := Lib.hid hy3
      replace hz3 := Lib.hid hz3
      replace R2 := Lib.hid R2
      clear hB2 hO2 e0 e1 e2
      go_wp2_with fail
      (with_reducible refine (q2.out _ hx3.out hz3.out hy3.out).mono ?_)
      rintro e w3 ⟨⟨v3, rfl, hO3⟩, hB3⟩
      have hB03 := below_step hB02.out hB3
      have g0 := (hB3.cell (cell_lt f0)).trans f0
      have g1 := (hB3.cell (cell_lt f1)).trans f1
      have g2 := (hB3.cell (cell_lt f2)).trans f2
      have hy4 := hy3.out.below hB3
      have hz4 := hz3.out.below hB3
      have R23 := R2.out.below hB3
      have R3 := rda_own hO3
      obtain ⟨A5, c5, rfl, hc51, hc5⟩ := R3.shape
      unfold maxLen at hc5
      replace hB03 := Lib.hid hB03
      replace R23 := Lib.hid R23
      replace R3 := Lib.hid R3
      replace hy4 := Lib.hid hy4
      replace hz4 := Lib.hid hz4
      clear f0 f1 f2 hO3 hB3 hx3 hy3 hz3 R2
      by_cases hk1 : k1 = 0
      rotate_left 1
      · have hk2 : k2 ≠ 0 := fun h => hk1 (hsw.out.2 h)
        have t1 : (k1 == 0) = false := by simpa using hk1
        have t2 : (k2 == 0) = false := by simpa using hk2
        have t3 : (k1 != 0) = true := by simpa using hk1
        replace hk1 := Lib.hid hk1
        replace hk2 := Lib.hid hk2
        go_wp2_with fail
        (with_reducible refine (haw.out _).mono ?_)
        rintro e w4 ⟨rfl, hB4⟩
        have hB04 := below_step hB03.out hB4
        replace hB04 := Lib.hid hB04
        go_wp2
        go_ret
        exact ⟨rfl, hB04.out⟩
      · have hk2 : k2 = 0 := hsw.out.1 hk1
        subst hk1 hk2
        have hsame : (1 = 3 → ApartT b c) → acts2 = swapA acts1 := fun h => by
          have h1 := congrArg Prod.fst (hz1'.out rfl)
          have h2 := congrArg Prod.fst (hz2'.out rfl)
          dsimp only at h1 h2
          rw [h1, h2]
          exact planL_swap (n := 1) (by omega) (fun e => h (by omega))
        replace hsame := Lib.hid hsame
        clear hB hz1' hz2' hsw hp1 hp2 hl1 q1 q2 hB01 hB02 hx2 hy2 hz2 hix
        go_wp2_with fail
        go_loopw [11] (fun i wr => i = .int .i64 0 ∧ Below w3.heap.size w3 wr) (fun _ _ => 0)
        case atStart => exact ⟨rfl, Below.refl _ _⟩
        case round =>
          obtain ⟨rfl, hB⟩ := hrel
          have hsm2 := hsame.out (by omega)
          have hB3t := below_step hB03.out hB
          have R4 := R23.out.below hB
          have R5 := R3.out.below hB
          obtain ⟨wt, rfl⟩ : ∃ wt : World, wt = wr := ⟨_, rfl⟩
          replace hB := Lib.hid hB
          replace hB3t := Lib.hid hB3t
          replace R4 := Lib.hid R4
          replace R5 := Lib.hid R5
          replace hsm2 := Lib.hid hsm2
          clear g0 g1 g2 R23 R3
          go_wp2_with fail
          go_loopw [15, 16] (fun o i wr => ∃ k : Nat, i = .int .i64 k ∧ k ≤ acts1.length ∧ wr.ownsRow wt.heap.size 39 2 o k (actRow (acts1.take k)) ∧ Below wt.heap.size wt wr) (fun _ i _ => acts1.length - (intOf i).toNat)
          case atStart => exact ⟨0, rfl, Nat.zero_le _, World.ownsRow_nil _ _ _ _, Below.refl _ _⟩
          case round =>
            obtain ⟨k, rfl, hk, hO, hBt⟩ := hrel
            by_cases hlt : k < acts1.length
            · obtain ⟨g, o, rfl, c1, c2⟩ := (R4.out.below hBt).at hlt
              have hsn : acts1.take (k + 1) = acts1.take k ++ [acts1[k]] := List.take_succ_eq_append_getElem hlt
              generalize acts1[k] = y at *
              obtain ⟨q, t⟩ := y
              dsimp only at *
              obtain ⟨oA, oc, ho, ho1, ho2⟩ := own_shape hO
              subst ho
              unfold maxLen at ho2
              have hki : (k : Int) < (acts1.length : Int) := by omega
              have hlen' := hlen.out
              replace hO := Lib.hid hO
              replace hBt := Lib.hid hBt
              replace hsn := Lib.hid hsn
              go_upto_region 22 with fail
              refine wp_region_held_tail (S := fun W => W.cell? ⟨g, o + k * 2, none⟩ = some (.string (mkS q)) ∧ W.cell? ⟨g, o + k * 2 + 1, none⟩ = some (.int .i64 t)) 13 (by kernel_rfl) (by kernel_rfl) ⟨c1, c2⟩ (fun hHeld => ?_)
              simp only [List.take_succ_cons, List.take_zero, List.drop_succ_cons, List.drop_zero]
              simp only [Array.replicate, List.replicate]
              refine wpAnyH_take (i := 0) (v := ?_) rfl (by kernel_rfl) (by kernel_rfl) (by kernel_rfl) (fun _ _ _ h => h) (Or.inl ⟨by rfl, ?_⟩) (by assumption) ?_
              rotate_left 1
              · intro W hSw
                obtain ⟨hSw1, hSw2⟩ := hSw
                (try dsimp only at hSw1 hSw2)
                go_simp
                try with_reducible rfl
              simp only [Act.put, List.setIfInBounds_toArray, List.set_cons_zero, List.set_cons_succ]
              refine wpAnyH_take (i := 1) (v := ?_) rfl (by kernel_rfl) (by kernel_rfl) (by kernel_rfl) (fun _ _ _ h => h) (Or.inl ⟨by rfl, ?_⟩) (by assumption) ?_
              rotate_left 1
              · intro W hSw
                obtain ⟨hSw1, hSw2⟩ := hSw
                (try dsimp only at hSw1 hSw2)
                go_simp
                try with_reducible rfl
              simp only [Act.put, List.setIfInBounds_toArray, List.set_cons_zero, List.set_cons_succ]
              refine wpAnyH_take (i := 2) (v := ?_) rfl (by kernel_rfl) (by kernel_rfl) (by kernel_rfl) (fun _ _ _ h => h) (Or.inl ⟨by rfl, ?_⟩) (by assumption) ?_
              rotate_left 1
              · intro W hSw
                obtain ⟨hSw1, hSw2⟩ := hSw
                (try dsimp only at hSw1 hSw2)
                go_simp
                try with_reducible rfl
              simp only [Act.put, List.setIfInBounds_toArray, List.set_cons_zero, List.set_cons_succ]
              refine wpAnyH_take (i := 3) (v := ?_) rfl (by kernel_rfl) (by kernel_rfl) (by kernel_rfl) (fun _ _ _ h => h) (Or.inl ⟨by rfl, ?_⟩) (by assumption) ?_
              rotate_left 1
              · intro W hSw
                obtain ⟨hSw1, hSw2⟩ := hSw
                (try dsimp only at hSw1 hSw2)
                go_simp
                try with_reducible rfl
              simp only [Act.put, List.setIfInBounds_toArray, List.set_cons_zero, List.set_cons_succ]
              refine wpAnyH_take (i := 4) (v := ?_) rfl (by kernel_rfl) (by kernel_rfl) (by kernel_rfl) (fun _ _ _ h => h) (Or.inl ⟨by rfl, ?_⟩) (by assumption) ?_
              rotate_left 1
              · intro W hSw
                obtain ⟨hSw1, hSw2⟩ := hSw
                (try dsimp only at hSw1 hSw2)
                go_simp
                try with_reducible rfl
              simp only [Act.put, List.setIfInBounds_toArray, List.set_cons_zero, List.set_cons_succ]
              refine wpAnyH_take (i := 5) (v := ?_) rfl (by kernel_rfl) (by kernel_rfl) (by kernel_rfl) (fun _ _ _ h => h) (Or.inl ⟨by rfl, ?_⟩) (by assumption) ?_
              rotate_left 1
              · intro W hSw
                obtain ⟨hSw1, hSw2⟩ := hSw
                (try dsimp only at hSw1 hSw2)
                go_simp
                try with_reducible rfl
              simp only [Act.put, List.setIfInBounds_toArray, List.set_cons_zero, List.set_cons_succ]
              refine wpAnyH_take (i := 6) (v := ?_) rfl (by kernel_rfl) (by kernel_rfl) (by kernel_rfl) (fun _ _ _ h => h) (Or.inl ⟨by rfl, ?_⟩) (by assumption) ?_
              rotate_left 1
              · intro W hSw
                obtain ⟨hSw1, hSw2⟩ := hSw
                (try dsimp only at hSw1 hSw2)
                go_simp
                try with_reducible rfl
              simp only [Act.put, List.setIfInBounds_toArray, List.set_cons_zero, List.set_cons_succ]
              refine wpAnyH_take (i := 7) (v := ?_) rfl (by kernel_rfl) (by kernel_rfl) (by kernel_rfl) (fun _ _ _ h => h) (Or.inl ⟨by rfl, ?_⟩) (by assumption) ?_
              rotate_left 1
              · intro W hSw
                obtain ⟨hSw1, hSw2⟩ := hSw
                (try dsimp only at hSw1 hSw2)
                go_simp
                try with_reducible rfl
              simp only [Act.put, List.setIfInBounds_toArray, List.set_cons_zero, List.set_cons_succ]
              refine wpAnyH_take (i := 8) (v := ?_) rfl (by kernel_rfl) (by kernel_rfl) (by kernel_rfl) (fun _ _ _ h => h) (Or.inl ⟨by rfl, ?_⟩) (by assumption) ?_
              rotate_left 1
              · intro W hSw
                obtain ⟨hSw1, hSw2⟩ := hSw
                (try dsimp only at hSw1 hSw2)
                go_simp
                try with_reducible rfl
              simp only [Act.put, List.setIfInBounds_toArray, List.set_cons_zero, List.set_cons_succ]
              refine wpAnyH_take (i := 9) (v := ?_) rfl (by kernel_rfl) (by kernel_rfl) (by kernel_rfl) (fun _ _ _ h => h) (Or.inl ⟨by rfl, ?_⟩) (by assumption) ?_
              rotate_left 1
              · intro W hSw
                obtain ⟨hSw1, hSw2⟩ := hSw
                (try dsimp only at hSw1 hSw2)
                go_simp
                try with_reducible rfl
              simp only [Act.put, List.setIfInBounds_toArray, List.set_cons_zero, List.set_cons_succ]
              refine wpAnyH_take (i := 10) (v := ?_) rfl (by kernel_rfl) (by kernel_rfl) (by kernel_rfl) (fun _ _ _ h => h) (Or.inl ⟨by rfl, ?_⟩) (by assumption) ?_
              rotate_left 1
              · intro W hSw
                obtain ⟨hSw1, hSw2⟩ := hSw
                (try dsimp only at hSw1 hSw2)
                go_simp
                try with_reducible rfl
              simp only [Act.put, List.setIfInBounds_toArray, List.set_cons_zero, List.set_cons_succ]
              refine wpAnyH_take (i := 11) (v := ?_) rfl (by kernel_rfl) (by kernel_rfl) (by kernel_rfl) (fun _ _ _ h => h) (Or.inl ⟨by rfl, ?_⟩) (by assumption) ?_
              rotate_left 1
              · intro W hSw
                obtain ⟨hSw1, hSw2⟩ := hSw
                (try dsimp only at hSw1 hSw2)
                go_simp
                try with_reducible rfl
              simp only [Act.put, List.setIfInBounds_toArray, List.set_cons_zero, List.set_cons_succ]
              have c3 := ((below_alloc (below_drewN (Below.refl _ wr) 1) (.cells #[.string (mkS q), .int .i64 t] 39)).cell (cell_lt c1)).trans c1
              have c4' := ((below_alloc (below_drewN (Below.refl _ wr) 1) (.cells #[.string (mkS q), .int .i64 t] 39)).cell (cell_lt c2)).trans c2
              refine wpAnyH_ready (rs := [12]) (by kernel_rfl) (by simp) ?_
              refine AllReadyH.cons rfl (fun K hK => ?_) AllReadyH.nil
              go_simp
              refine hK.out _ _ ⟨c3, c4'⟩ (fun hHeld => ?_)
              clear hK K
              simp only [Act.put, List.setIfInBounds_toArray, List.set_cons_zero, List.set_cons_succ]
              refine wpAnyH_done (by kernel_rfl) ?_ _
              have hOd := own_drewN hO.out 1
              have hBd := below_drewN hBt.out 1
              change wpList _ _ _ _ _ ((wr.drewN 1).alloc (.cells #[.string (mkS q), .int .i64 t] 39))
              replace hOd := Lib.hid hOd
              replace hBd := Lib.hid hBd
              go_wp2_with (at_builtin; refine wp_append1 wt.heap.size rfl (.tmp 121) (.tmp 133) 36 39 rfl Try.underlying36 (.agg #[.string ⟨#[]⟩, .int .i64 0]) 2 24 info_act44 rfl (by decide) (.slice oA k oc) _ _ rfl [.string (mkS q), .int .i64 t] rfl hOd.out rfl ?_ ?_ ?_ hBd.out.size ?_)
              · simp [Value.oneCell']
              · simp only [maxLen]; omega
              · omega
              · intro v1 wx h1 hg hat
                have hBx := hBd.out.grown hg hBd.out.size (own_base hOd.out)
                have hOx : wx.ownsRow wt.heap.size 39 2 v1 (k + 1) (actRow (acts1.take (k + 1))) := by
                  rw [hsn.out, actRow_append]
                  exact h1
                replace hOx := Lib.hid hOx
                replace hBx := Lib.hid hBx
                clear h1 hg hat
                go_wp2
                go_roundw
                case rel => exact ⟨k + 1, by go_num, by omega, hOx.out, hBx.out⟩
                case measure => simp [intOf]; omega
            · obtain rfl : k = acts1.length := by omega
              rw [List.take_length] at hO
              have hR6 := rda_own hO
              obtain ⟨A6, c6, rfl, _, hc6⟩ := hR6.shape
              unfold maxLen at hc6
              have hB6 := below_step hB3t.out hBt
              have R56 := R5.out.below hBt
              have hswp := swap44_calls _ acts1 wr hR6 (by have := hlen.out; omega)
              replace hR6 := Lib.hid hR6
              replace hB6 := Lib.hid hB6
              replace R56 := Lib.hid R56
              replace hswp := Lib.hid hswp
              replace hO := Lib.hid hO
              replace hBt := Lib.hid hBt
              go_wp2_with fail
              (with_reducible refine (hswp.out).mono ?_)
              rintro e w7 ⟨⟨v7, rfl, hO7⟩, hB7⟩
              have hB67 := below_step hB6.out hB7
              have R57 := R56.out.below hB7
              rw [← hsm2.out] at hO7
              have hl7 : acts2.length = acts1.length := by rw [hsm2.out]; unfold swapA; rw [List.length_map]
              rw [← hl7] at hO7
              have R7 := rda_own hO7
              obtain ⟨A7, c7, rfl, _, hc7⟩ := R7.shape
              unfold maxLen at hc7
              have hsm7 := same44_calls _ _ acts2 acts2 w7 R57 R7 (by rw [hl7]; have := hlen.out; omega)
              rw [decide_eq_true rfl] at hsm7
              replace hB67 := Lib.hid hB67
              replace hsm7 := Lib.hid hsm7
              replace hl7 := Lib.hid hl7
              clear hB7 hO7 R57
              go_wp2_with fail
              (with_reducible refine (hsm7.out).mono ?_)
              rintro e w8 ⟨rfl, hB8⟩
              have hB08 := below_step hB67.out hB8
              replace hB08 := Lib.hid hB08
              clear hB8
              go_wp2_with fail
              (with_reducible refine (haw.out _).mono ?_)
              rintro e w9 ⟨rfl, hB9⟩
              have hB09 := below_step hB08.out hB9
              replace hB09 := Lib.hid hB09
              clear hB9
              go_wp2
              go_ret
              exact ⟨rfl, hB09.out⟩
    · have hix : ∀ W : World, (Instr.index 27 (.agg #[.int .i64 0, .int .i64 2, .int .i64 1, .int .i64 3]) (.int .i64 2)).run Try.prog W = .ok (.int .i64 1) W := fun W => by kernel_rfl
      have hsw := planE_swap (W := a) (L := b) (R := c) (n := 2) (m := 1) (by omega) (by omega)
      have hz1' := @planE_zero a b c 2
      have hz2' := @planE_zero a c b 1
      have q1 := fun W hx hy hz => hp1.out 2 W hx hy hz
      have q2 := fun W hx hy hz => hp2.out 1 W hx hy hz
      have hlen := hl1.out 2
      generalize planE a b c 2 = r1 at *
      generalize planE a c b 1 = r2 at *
      obtain ⟨acts1, k1⟩ := r1
      obtain ⟨acts2, k2⟩ := r2
      dsimp only at *
      replace hsw := Lib.hid hsw
      replace hz1' := Lib.hid hz1'
      replace hz2' := Lib.hid hz2'
      replace q1 := Lib.hid q1
      replace q2 := Lib.hid q2
      replace hlen := Lib.hid hlen
      go_wp2_with fail
      (with_reducible refine (q1.out _ hx2.out hy2.out hz2.out).mono ?_)
      rintro e w2 ⟨⟨v2, rfl, hO2⟩, hB2⟩
      have hB02 := below_step hB01.out hB2
      have f0 := (hB2.cell (cell_lt e0)).trans e0
      have f1 := (hB2.cell (cell_lt e1)).trans e1
      have f2 := (hB2.cell (cell_lt e2)).trans e2
      have hx3 := hx2.out.below hB2
      have hy3 := hy2.out.below hB2
      have hz3 := hz2.out.below hB2
      have R2 := rda_own hO2
      obtain ⟨A4, c4, rfl, hc41, hc4⟩ := R2.shape
      unfold maxLen at hc4
      replace hB02 := Lib.hid hB02
      replace hx3 := Lib.hid hx3
      replace hy3 := Lib.hid hy3
      replace hz3 := Lib.hid hz3
      replace R2 := Lib.hid R2
      clear hB2 hO2 e0 e1 e2
      go_wp2_with fail
      (with_reducible refine (q2.out _ hx3.out hz3.out hy3.out).mono ?_)
      rintro e w3 ⟨⟨v3, rfl, hO3⟩, hB3⟩
      have hB03 := below_step hB02.out hB3
      have g0 := (hB3.cell (cell_lt f0)).trans f0
      have g1 := (hB3.cell (cell_lt f1)).trans f1
      have g2 := (hB3.cell (cell_lt f2)).trans f2
      have hy4 := hy3.out.below hB3
      have hz4 := hz3.out.below hB3
      have R23 := R2.out.below hB3
      have R3 := rda_own hO3
      obtain ⟨A5, c5, rfl, hc51, hc5⟩ := R3.shape
      unfold maxLen at hc5
      replace hB03 := Lib.hid hB03
      replace R23 := Lib.hid R23
      replace R3 := Lib.hid R3
      replace hy4 := Lib.hid hy4
      replace hz4 := Lib.hid hz4
      clear f0 f1 f2 hO3 hB3 hx3 hy3 hz3 R2
      by_cases hk1 : k1 = 0
      rotate_left 1
      · have hk2 : k2 ≠ 0 := fun h => hk1 (hsw.out.2 h)
        have t1 : (k1 == 0) = false := by simpa using hk1
        have t2 : (k2 == 0) = false := by simpa using hk2
        have t3 : (k1 != 0) = true := by simpa using hk1
        replace hk1 := Lib.hid hk1
        replace hk2 := Lib.hid hk2
        go_wp2_with fail
        (with_reducible refine (haw.out _).mono ?_)
        rintro e w4 ⟨rfl, hB4⟩
        have hB04 := below_step hB03.out hB4
        replace hB04 := Lib.hid hB04
        go_wp2
        go_ret
        exact ⟨rfl, hB04.out⟩
      · have hk2 : k2 = 0 := hsw.out.1 hk1
        subst hk1 hk2
        have hsame : (2 = 3 → ApartT b c) → acts2 = swapA acts1 := fun h => by
          have h1 := congrArg Prod.fst (hz1'.out rfl)
          have h2 := congrArg Prod.fst (hz2'.out rfl)
          dsimp only at h1 h2
          rw [h1, h2]
          exact planL_swap (n := 2) (by omega) (fun e => h (by omega))
        replace hsame := Lib.hid hsame
        clear hB hz1' hz2' hsw hp1 hp2 hl1 q1 q2 hB01 hB02 hx2 hy2 hz2 hix
        go_wp2_with fail
        go_loopw [11] (fun i wr => i = .int .i64 0 ∧ Below w3.heap.size w3 wr) (fun _ _ => 0)
        case atStart => exact ⟨rfl, Below.refl _ _⟩
        case round =>
          obtain ⟨rfl, hB⟩ := hrel
          have hsm2 := hsame.out (by omega)
          have hB3t := below_step hB03.out hB
          have R4 := R23.out.below hB
          have R5 := R3.out.below hB
          obtain ⟨wt, rfl⟩ : ∃ wt : World, wt = wr := ⟨_, rfl⟩
          replace hB := Lib.hid hB
          replace hB3t := Lib.hid hB3t
          replace R4 := Lib.hid R4
          replace R5 := Lib.hid R5
          replace hsm2 := Lib.hid hsm2
          clear g0 g1 g2 R23 R3
          go_wp2_with fail
          go_loopw [15, 16] (fun o i wr => ∃ k : Nat, i = .int .i64 k ∧ k ≤ acts1.length ∧ wr.ownsRow wt.heap.size 39 2 o k (actRow (acts1.take k)) ∧ Below wt.heap.size wt wr) (fun _ i _ => acts1.length - (intOf i).toNat)
          case atStart => exact ⟨0, rfl, Nat.zero_le _, World.ownsRow_nil _ _ _ _, Below.refl _ _⟩
          case round =>
            obtain ⟨k, rfl, hk, hO, hBt⟩ := hrel
            by_cases hlt : k < acts1.length
            · obtain ⟨g, o, rfl, c1, c2⟩ := (R4.out.below hBt).at hlt
              have hsn : acts1.take (k + 1) = acts1.take k ++ [acts1[k]] := List.take_succ_eq_append_getElem hlt
              generalize acts1[k] = y at *
              obtain ⟨q, t⟩ := y
              dsimp only at *
              obtain ⟨oA, oc, ho, ho1, ho2⟩ := own_shape hO
              subst ho
              unfold maxLen at ho2
              have hki : (k : Int) < (acts1.length : Int) := by omega
              have hlen' := hlen.out
              replace hO := Lib.hid hO
              replace hBt := Lib.hid hBt
              replace hsn := Lib.hid hsn
              go_upto_region 22 with fail
              refine wp_region_held_tail (S := fun W => W.cell? ⟨g, o + k * 2, none⟩ = some (.string (mkS q)) ∧ W.cell? ⟨g, o + k * 2 + 1, none⟩ = some (.int .i64 t)) 13 (by kernel_rfl) (by kernel_rfl) ⟨c1, c2⟩ (fun hHeld => ?_)
              simp only [List.take_succ_cons, List.take_zero, List.drop_succ_cons, List.drop_zero]
              simp only [Array.replicate, List.replicate]
              refine wpAnyH_take (i := 0) (v := ?_) rfl (by kernel_rfl) (by kernel_rfl) (by kernel_rfl) (fun _ _ _ h => h) (Or.inl ⟨by rfl, ?_⟩) (by assumption) ?_
              rotate_left 1
              · intro W hSw
                obtain ⟨hSw1, hSw2⟩ := hSw
                (try dsimp only at hSw1 hSw2)
                go_simp
                try with_reducible rfl
              simp only [Act.put, List.setIfInBounds_toArray, List.set_cons_zero, List.set_cons_succ]
              refine wpAnyH_take (i := 1) (v := ?_) rfl (by kernel_rfl) (by kernel_rfl) (by kernel_rfl) (fun _ _ _ h => h) (Or.inl ⟨by rfl, ?_⟩) (by assumption) ?_
              rotate_left 1
              · intro W hSw
                obtain ⟨hSw1, hSw2⟩ := hSw
                (try dsimp only at hSw1 hSw2)
                go_simp
                try with_reducible rfl
              simp only [Act.put, List.setIfInBounds_toArray, List.set_cons_zero, List.set_cons_succ]
              refine wpAnyH_take (i := 2) (v := ?_) rfl (by kernel_rfl) (by kernel_rfl) (by kernel_rfl) (fun _ _ _ h => h) (Or.inl ⟨by rfl, ?_⟩) (by assumption) ?_
              rotate_left 1
              · intro W hSw
                obtain ⟨hSw1, hSw2⟩ := hSw
                (try dsimp only at hSw1 hSw2)
                go_simp
                try with_reducible rfl
              simp only [Act.put, List.setIfInBounds_toArray, List.set_cons_zero, List.set_cons_succ]
              refine wpAnyH_take (i := 3) (v := ?_) rfl (by kernel_rfl) (by kernel_rfl) (by kernel_rfl) (fun _ _ _ h => h) (Or.inl ⟨by rfl, ?_⟩) (by assumption) ?_
              rotate_left 1
              · intro W hSw
                obtain ⟨hSw1, hSw2⟩ := hSw
                (try dsimp only at hSw1 hSw2)
                go_simp
                try with_reducible rfl
              simp only [Act.put, List.setIfInBounds_toArray, List.set_cons_zero, List.set_cons_succ]
              refine wpAnyH_take (i := 4) (v := ?_) rfl (by kernel_rfl) (by kernel_rfl) (by kernel_rfl) (fun _ _ _ h => h) (Or.inl ⟨by rfl, ?_⟩) (by assumption) ?_
              rotate_left 1
              · intro W hSw
                obtain ⟨hSw1, hSw2⟩ := hSw
                (try dsimp only at hSw1 hSw2)
                go_simp
                try with_reducible rfl
              simp only [Act.put, List.setIfInBounds_toArray, List.set_cons_zero, List.set_cons_succ]
              refine wpAnyH_take (i := 5) (v := ?_) rfl (by kernel_rfl) (by kernel_rfl) (by kernel_rfl) (fun _ _ _ h => h) (Or.inl ⟨by rfl, ?_⟩) (by assumption) ?_
              rotate_left 1
              · intro W hSw
                obtain ⟨hSw1, hSw2⟩ := hSw
                (try dsimp only at hSw1 hSw2)
                go_simp
                try with_reducible rfl
              simp only [Act.put, List.setIfInBounds_toArray, List.set_cons_zero, List.set_cons_succ]
              refine wpAnyH_take (i := 6) (v := ?_) rfl (by kernel_rfl) (by kernel_rfl) (by kernel_rfl) (fun _ _ _ h => h) (Or.inl ⟨by rfl, ?_⟩) (by assumption) ?_
              rotate_left 1
              · intro W hSw
                obtain ⟨hSw1, hSw2⟩ := hSw
                (try dsimp only at hSw1 hSw2)
                go_simp
                try with_reducible rfl
              simp only [Act.put, List.setIfInBounds_toArray, List.set_cons_zero, List.set_cons_succ]
              refine wpAnyH_take (i := 7) (v := ?_) rfl (by kernel_rfl) (by kernel_rfl) (by kernel_rfl) (fun _ _ _ h => h) (Or.inl ⟨by rfl, ?_⟩) (by assumption) ?_
              rotate_left 1
              · intro W hSw
                obtain ⟨hSw1, hSw2⟩ := hSw
                (try dsimp only at hSw1 hSw2)
                go_simp
                try with_reducible rfl
              simp only [Act.put, List.setIfInBounds_toArray, List.set_cons_zero, List.set_cons_succ]
              refine wpAnyH_take (i := 8) (v := ?_) rfl (by kernel_rfl) (by kernel_rfl) (by kernel_rfl) (fun _ _ _ h => h) (Or.inl ⟨by rfl, ?_⟩) (by assumption) ?_
              rotate_left 1
              · intro W hSw
                obtain ⟨hSw1, hSw2⟩ := hSw
                (try dsimp only at hSw1 hSw2)
                go_simp
                try with_reducible rfl
              simp only [Act.put, List.setIfInBounds_toArray, List.set_cons_zero, List.set_cons_succ]
              refine wpAnyH_take (i := 9) (v := ?_) rfl (by kernel_rfl) (by kernel_rfl) (by kernel_rfl) (fun _ _ _ h => h) (Or.inl ⟨by rfl, ?_⟩) (by assumption) ?_
              rotate_left 1
              · intro W hSw
                obtain ⟨hSw1, hSw2⟩ := hSw
                (try dsimp only at hSw1 hSw2)
                go_simp
                try with_reducible rfl
              simp only [Act.put, List.setIfInBounds_toArray, List.set_cons_zero, List.set_cons_succ]
              refine wpAnyH_take (i := 10) (v := ?_) rfl (by kernel_rfl) (by kernel_rfl) (by kernel_rfl) (fun _ _ _ h => h) (Or.inl ⟨by rfl, ?_⟩) (by assumption) ?_
              rotate_left 1
              · intro W hSw
                obtain ⟨hSw1, hSw2⟩ := hSw
                (try dsimp only at hSw1 hSw2)
                go_simp
                try with_reducible rfl
              simp only [Act.put, List.setIfInBounds_toArray, List.set_cons_zero, List.set_cons_succ]
              refine wpAnyH_take (i := 11) (v := ?_) rfl (by kernel_rfl) (by kernel_rfl) (by kernel_rfl) (fun _ _ _ h => h) (Or.inl ⟨by rfl, ?_⟩) (by assumption) ?_
              rotate_left 1
              · intro W hSw
                obtain ⟨hSw1, hSw2⟩ := hSw
                (try dsimp only at hSw1 hSw2)
                go_simp
                try with_reducible rfl
              simp only [Act.put, List.setIfInBounds_toArray, List.set_cons_zero, List.set_cons_succ]
              have c3 := ((below_alloc (below_drewN (Below.refl _ wr) 1) (.cells #[.string (mkS q), .int .i64 t] 39)).cell (cell_lt c1)).trans c1
              have c4' := ((below_alloc (below_drewN (Below.refl _ wr) 1) (.cells #[.string (mkS q), .int .i64 t] 39)).cell (cell_lt c2)).trans c2
              refine wpAnyH_ready (rs := [12]) (by kernel_rfl) (by simp) ?_
              refine AllReadyH.cons rfl (fun K hK => ?_) AllReadyH.nil
              go_simp
              refine hK.out _ _ ⟨c3, c4'⟩ (fun hHeld => ?_)
              clear hK K
              simp only [Act.put, List.setIfInBounds_toArray, List.set_cons_zero, List.set_cons_succ]
              refine wpAnyH_done (by kernel_rfl) ?_ _
              have hOd := own_drewN hO.out 1
              have hBd := below_drewN hBt.out 1
              change wpList _ _ _ _ _ ((wr.drewN 1).alloc (.cells #[.string (mkS q), .int .i64 t] 39))
              replace hOd := Lib.hid hOd
              replace hBd := Lib.hid hBd
              go_wp2_with (at_builtin; refine wp_append1 wt.heap.size rfl (.tmp 121) (.tmp 133) 36 39 rfl Try.underlying36 (.agg #[.string ⟨#[]⟩, .int .i64 0]) 2 24 info_act44 rfl (by decide) (.slice oA k oc) _ _ rfl [.string (mkS q), .int .i64 t] rfl hOd.out rfl ?_ ?_ ?_ hBd.out.size ?_)
              · simp [Value.oneCell']
              · simp only [maxLen]; omega
              · omega
              · intro v1 wx h1 hg hat
                have hBx := hBd.out.grown hg hBd.out.size (own_base hOd.out)
                have hOx : wx.ownsRow wt.heap.size 39 2 v1 (k + 1) (actRow (acts1.take (k + 1))) := by
                  rw [hsn.out, actRow_append]
                  exact h1
                replace hOx := Lib.hid hOx
                replace hBx := Lib.hid hBx
                clear h1 hg hat
                go_wp2
                go_roundw
                case rel => exact ⟨k + 1, by go_num, by omega, hOx.out, hBx.out⟩
                case measure => simp [intOf]; omega
            · obtain rfl : k = acts1.length := by omega
              rw [List.take_length] at hO
              have hR6 := rda_own hO
              obtain ⟨A6, c6, rfl, _, hc6⟩ := hR6.shape
              unfold maxLen at hc6
              have hB6 := below_step hB3t.out hBt
              have R56 := R5.out.below hBt
              have hswp := swap44_calls _ acts1 wr hR6 (by have := hlen.out; omega)
              replace hR6 := Lib.hid hR6
              replace hB6 := Lib.hid hB6
              replace R56 := Lib.hid R56
              replace hswp := Lib.hid hswp
              replace hO := Lib.hid hO
              replace hBt := Lib.hid hBt
              go_wp2_with fail
              (with_reducible refine (hswp.out).mono ?_)
              rintro e w7 ⟨⟨v7, rfl, hO7⟩, hB7⟩
              have hB67 := below_step hB6.out hB7
              have R57 := R56.out.below hB7
              rw [← hsm2.out] at hO7
              have hl7 : acts2.length = acts1.length := by rw [hsm2.out]; unfold swapA; rw [List.length_map]
              rw [← hl7] at hO7
              have R7 := rda_own hO7
              obtain ⟨A7, c7, rfl, _, hc7⟩ := R7.shape
              unfold maxLen at hc7
              have hsm7 := same44_calls _ _ acts2 acts2 w7 R57 R7 (by rw [hl7]; have := hlen.out; omega)
              rw [decide_eq_true rfl] at hsm7
              replace hB67 := Lib.hid hB67
              replace hsm7 := Lib.hid hsm7
              replace hl7 := Lib.hid hl7
              clear hB7 hO7 R57
              go_wp2_with fail
              (with_reducible refine (hsm7.out).mono ?_)
              rintro e w8 ⟨rfl, hB8⟩
              have hB08 := below_step hB67.out hB8
              replace hB08 := Lib.hid hB08
              clear hB8
              go_wp2_with fail
              (with_reducible refine (haw.out _).mono ?_)
              rintro e w9 ⟨rfl, hB9⟩
              have hB09 := below_step hB08.out hB9
              replace hB09 := Lib.hid hB09
              clear hB9
              go_wp2
              go_ret
              exact ⟨rfl, hB09.out⟩
    · have hix : ∀ W : World, (Instr.index 27 (.agg #[.int .i64 0, .int .i64 2, .int .i64 1, .int .i64 3]) (.int .i64 3)).run Try.prog W = .ok (.int .i64 3) W := fun W => by kernel_rfl
      have hsw := planE_swap (W := a) (L := b) (R := c) (n := 3) (m := 3) (by omega) (by omega)
      have hz1' := @planE_zero a b c 3
      have hz2' := @planE_zero a c b 3
      have q1 := fun W hx hy hz => hp1.out 3 W hx hy hz
      have q2 := fun W hx hy hz => hp2.out 3 W hx hy hz
      have hlen := hl1.out 3
      generalize planE a b c 3 = r1 at *
      generalize planE a c b 3 = r2 at *
      obtain ⟨acts1, k1⟩ := r1
      obtain ⟨acts2, k2⟩ := r2
      dsimp only at *
      replace hsw := Lib.hid hsw
      replace hz1' := Lib.hid hz1'
      replace hz2' := Lib.hid hz2'
      replace q1 := Lib.hid q1
      replace q2 := Lib.hid q2
      replace hlen := Lib.hid hlen
      go_wp2_with fail
      (with_reducible refine (q1.out _ hx2.out hy2.out hz2.out).mono ?_)
      rintro e w2 ⟨⟨v2, rfl, hO2⟩, hB2⟩
      have hB02 := below_step hB01.out hB2
      have f0 := (hB2.cell (cell_lt e0)).trans e0
      have f1 := (hB2.cell (cell_lt e1)).trans e1
      have f2 := (hB2.cell (cell_lt e2)).trans e2
      have hx3 := hx2.out.below hB2
      have hy3 := hy2.out.below hB2
      have hz3 := hz2.out.below hB2
      have R2 := rda_own hO2
      obtain ⟨A4, c4, rfl, hc41, hc4⟩ := R2.shape
      unfold maxLen at hc4
      replace hB02 := Lib.hid hB02
      replace hx3 := Lib.hid hx3
      replace hy3 := Lib.hid hy3
      replace hz3 := Lib.hid hz3
      replace R2 := Lib.hid R2
      clear hB2 hO2 e0 e1 e2
      go_wp2_with fail
      (with_reducible refine (q2.out _ hx3.out hz3.out hy3.out).mono ?_)
      rintro e w3 ⟨⟨v3, rfl, hO3⟩, hB3⟩
      have hB03 := below_step hB02.out hB3
      have g0 := (hB3.cell (cell_lt f0)).trans f0
      have g1 := (hB3.cell (cell_lt f1)).trans f1
      have g2 := (hB3.cell (cell_lt f2)).trans f2
      have hy4 := hy3.out.below hB3
      have hz4 := hz3.out.below hB3
      have R23 := R2.out.below hB3
      have R3 := rda_own hO3
      obtain ⟨A5, c5, rfl, hc51, hc5⟩ := R3.shape
      unfold maxLen at hc5
      replace hB03 := Lib.hid hB03
      replace R23 := Lib.hid R23
      replace R3 := Lib.hid R3
      replace hy4 := Lib.hid hy4
      replace hz4 := Lib.hid hz4
      clear f0 f1 f2 hO3 hB3 hx3 hy3 hz3 R2
      by_cases hk1 : k1 = 0
      rotate_left 1
      · have hk2 : k2 ≠ 0 := fun h => hk1 (hsw.out.2 h)
        have t1 : (k1 == 0) = false := by simpa using hk1
        have t2 : (k2 == 0) = false := by simpa using hk2
        have t3 : (k1 != 0) = true := by simpa using hk1
        replace hk1 := Lib.hid hk1
        replace hk2 := Lib.hid hk2
        go_wp2_with fail
        (with_reducible refine (haw.out _).mono ?_)
        rintro e w4 ⟨rfl, hB4⟩
        have hB04 := below_step hB03.out hB4
        replace hB04 := Lib.hid hB04
        go_wp2
        go_ret
        exact ⟨rfl, hB04.out⟩
      · have hk2 : k2 = 0 := hsw.out.1 hk1
        subst hk1 hk2
        have hsame : (3 = 3 → ApartT b c) → acts2 = swapA acts1 := fun h => by
          have h1 := congrArg Prod.fst (hz1'.out rfl)
          have h2 := congrArg Prod.fst (hz2'.out rfl)
          dsimp only at h1 h2
          rw [h1, h2]
          exact planL_swap (n := 3) (by omega) (fun e => h (by omega))
        replace hsame := Lib.hid hsame
        clear hB hz1' hz2' hsw hp1 hp2 hl1 q1 q2 hB01 hB02 hx2 hy2 hz2 hix
        go_wp2_with fail
        have hb6 := hb60.out
        have hc6 := hc60.out
        go_loopw [11] (fun i wr => ∃ k : Nat, i = .int .i64 k ∧ k ≤ b.length ∧ (∀ i' (hi : i' < b.length), i' < k → ∀ m (hm : m < c.length), ¬ sameT b[i'] c[m]) ∧ Below w3.heap.size w3 wr) (fun i _ => b.length - (intOf i).toNat)
        case atStart => exact ⟨0, rfl, Nat.zero_le _, fun _ _ h => absurd h (Nat.not_lt_zero _), Below.refl _ _⟩
        case round =>
          obtain ⟨k, rfl, hk, hno, hB⟩ := hrel
          by_cases hlt : k < b.length
          · have f1 := (hB.cell (cell_lt g1)).trans g1
            have f2 := (hB.cell (cell_lt g2)).trans g2
            have hki : (k : Int) < (b.length : Int) := by omega
            have hstep : (∀ m (hm : m < c.length), ¬ sameT b[k] c[m]) → ∀ i' (hi : i' < b.length), i' < k + 1 → ∀ m (hm : m < c.length), ¬ sameT b[i'] c[m] := fun h i' hi hik m hm => by
              by_cases e : i' = k
              · subst e
                exact h m hm
              · exact hno i' hi (by omega) m hm
            have hat := fun W (hW : Below w3.heap.size w3 W) => (hy4.out.below hW).at hlt
            generalize b[k] = xb at *
            replace hno := Lib.hid hno
            replace hB := Lib.hid hB
            replace hstep := Lib.hid hstep
            replace hat := Lib.hid hat
            go_wp2_with fail
            go_loopw [12] (fun j wr => ∃ m : Nat, j = .int .i64 m ∧ m ≤ c.length ∧ (∀ m' (hm : m' < c.length), m' < m → ¬ sameT xb c[m']) ∧ Below w3.heap.size w3 wr) (fun j _ => c.length - (intOf j).toNat)
            case atStart => exact ⟨0, rfl, Nat.zero_le _, fun _ _ h => absurd h (Nat.not_lt_zero _), hB.out⟩
            case round =>
              clear f1 f2 hB
              obtain ⟨m, rfl, hm, hno2, hB⟩ := hrel
              have f1 := (hB.cell (cell_lt g1)).trans g1
              have f2 := (hB.cell (cell_lt g2)).trans g2
              by_cases hlt2 : m < c.length
              · obtain ⟨g, o, rfl, p0, p1, p2, p3, p4, p5, p6, p7, p8, p9, p10⟩ := hat.out wr hB
                obtain ⟨h, o', rfl, r0, r1, r2, r3, r4, r5, r6, r7, r8, r9, r10⟩ := (hz4.out.below hB).at hlt2
                have hmi : (m : Int) < (c.length : Int) := by omega
                have hst2 : ¬ sameT xb c[m] → ∀ m' (hm : m' < c.length), m' < m + 1 → ¬ sameT xb c[m'] := fun hh m' hm' hmk => by
                  by_cases e : m' = m
                  · subst e
                    exact hh
                  · exact hno2 m' hm' (by omega)
                generalize c[m] = xc at *
                obtain ⟨q1, kd1, sz1, ⟨a1, a2, a3, a4, a5⟩, tg1, sm1, gr1⟩ := xb
                obtain ⟨q2, kd2, sz2, ⟨b1, b2, b3, b4, b5⟩, tg2, sm2, gr2⟩ := xc
                dsimp only at *
                have hSS : ∀ W, Below wr.heap.size wr W → (W.cell? ⟨w.heap.size, 1, none⟩ = some (.slice (some ⟨g, o, none⟩) b.length c2) ∧ W.cell? ⟨w.heap.size, 2, none⟩ = some (.slice (some ⟨h, o', none⟩) c.length c3) ∧ W.cell? ⟨g, o + k * 11, none⟩ = some (.string (mkS q1)) ∧ W.cell? ⟨g, o + k * 11 + 1, none⟩ = some (.int .i64 kd1) ∧ W.cell? ⟨g, o + k * 11 + 2, none⟩ = some (.int .i64 sz1) ∧ W.cell? ⟨g, o + k * 11 + 3, none⟩ = some (.int .i64 a1) ∧ W.cell? ⟨g, o + k * 11 + 4, none⟩ = some (.int .i64 a2) ∧ W.cell? ⟨g, o + k * 11 + 5, none⟩ = some (.int .i64 a3) ∧ W.cell? ⟨g, o + k * 11 + 6, none⟩ = some (.int .i64 a4) ∧ W.cell? ⟨g, o + k * 11 + 7, none⟩ = some (.int .i64 a5) ∧ W.cell? ⟨g, o + k * 11 + 8, none⟩ = some (.string (mkS tg1)) ∧ W.cell? ⟨g, o + k * 11 + 9, none⟩ = some (.string (mkS sm1)) ∧ W.cell? ⟨g, o + k * 11 + 10, none⟩ = some (.int .i64 gr1) ∧ W.cell? ⟨h, o' + m * 11, none⟩ = some (.string (mkS q2)) ∧ W.cell? ⟨h, o' + m * 11 + 1, none⟩ = some (.int .i64 kd2) ∧ W.cell? ⟨h, o' + m * 11 + 2, none⟩ = some (.int .i64 sz2) ∧ W.cell? ⟨h, o' + m * 11 + 3, none⟩ = some (.int .i64 b1) ∧ W.cell? ⟨h, o' + m * 11 + 4, none⟩ = some (.int .i64 b2) ∧ W.cell? ⟨h, o' + m * 11 + 5, none⟩ = some (.int .i64 b3) ∧ W.cell? ⟨h, o' + m * 11 + 6, none⟩ = some (.int .i64 b4) ∧ W.cell? ⟨h, o' + m * 11 + 7, none⟩ = some (.int .i64 b5) ∧ W.cell? ⟨h, o' + m * 11 + 8, none⟩ = some (.string (mkS tg2)) ∧ W.cell? ⟨h, o' + m * 11 + 9, none⟩ = some (.string (mkS sm2)) ∧ W.cell? ⟨h, o' + m * 11 + 10, none⟩ = some (.int .i64 gr2)) := fun W hW => ⟨(hW.cell (cell_lt f1)).trans f1, (hW.cell (cell_lt f2)).trans f2, (hW.cell (cell_lt p0)).trans p0, (hW.cell (cell_lt p1)).trans p1, (hW.cell (cell_lt p2)).trans p2, (hW.cell (cell_lt p3)).trans p3, (hW.cell (cell_lt p4)).trans p4, (hW.cell (cell_lt p5)).trans p5, (hW.cell (cell_lt p6)).trans p6, (hW.cell (cell_lt p7)).trans p7, (hW.cell (cell_lt p8)).trans p8, (hW.cell (cell_lt p9)).trans p9, (hW.cell (cell_lt p10)).trans p10, (hW.cell (cell_lt r0)).trans r0, (hW.cell (cell_lt r1)).trans r1, (hW.cell (cell_lt r2)).trans r2, (hW.cell (cell_lt r3)).trans r3, (hW.cell (cell_lt r4)).trans r4, (hW.cell (cell_lt r5)).trans r5, (hW.cell (cell_lt r6)).trans r6, (hW.cell (cell_lt r7)).trans r7, (hW.cell (cell_lt r8)).trans r8, (hW.cell (cell_lt r9)).trans r9, (hW.cell (cell_lt r10)).trans r10⟩
                have hBd := below_drewN (Below.refl wr.heap.size wr) 1
                replace hSS := Lib.hid hSS
                replace hBd := Lib.hid hBd
                replace hst2 := Lib.hid hst2
                replace hB := Lib.hid hB
                replace hno2 := Lib.hid hno2
                go_upto_region 15 with fail
                clear p0 p1 p2 p3 p4 p5 p6 p7 p8 p9 p10 r0 r1 r2 r3 r4 r5 r6 r7 r8 r9 r10 f1 f2
                go_region_held3 (fun W => (W.cell? ⟨w.heap.size, 1, none⟩ = some (.slice (some ⟨g, o, none⟩) b.length c2) ∧ W.cell? ⟨w.heap.size, 2, none⟩ = some (.slice (some ⟨h, o', none⟩) c.length c3) ∧ W.cell? ⟨g, o + k * 11, none⟩ = some (.string (mkS q1)) ∧ W.cell? ⟨g, o + k * 11 + 1, none⟩ = some (.int .i64 kd1) ∧ W.cell? ⟨g, o + k * 11 + 2, none⟩ = some (.int .i64 sz1) ∧ W.cell? ⟨g, o + k * 11 + 3, none⟩ = some (.int .i64 a1) ∧ W.cell? ⟨g, o + k * 11 + 4, none⟩ = some (.int .i64 a2) ∧ W.cell? ⟨g, o + k * 11 + 5, none⟩ = some (.int .i64 a3) ∧ W.cell? ⟨g, o + k * 11 + 6, none⟩ = some (.int .i64 a4) ∧ W.cell? ⟨g, o + k * 11 + 7, none⟩ = some (.int .i64 a5) ∧ W.cell? ⟨g, o + k * 11 + 8, none⟩ = some (.string (mkS tg1)) ∧ W.cell? ⟨g, o + k * 11 + 9, none⟩ = some (.string (mkS sm1)) ∧ W.cell? ⟨g, o + k * 11 + 10, none⟩ = some (.int .i64 gr1) ∧ W.cell? ⟨h, o' + m * 11, none⟩ = some (.string (mkS q2)) ∧ W.cell? ⟨h, o' + m * 11 + 1, none⟩ = some (.int .i64 kd2) ∧ W.cell? ⟨h, o' + m * 11 + 2, none⟩ = some (.int .i64 sz2) ∧ W.cell? ⟨h, o' + m * 11 + 3, none⟩ = some (.int .i64 b1) ∧ W.cell? ⟨h, o' + m * 11 + 4, none⟩ = some (.int .i64 b2) ∧ W.cell? ⟨h, o' + m * 11 + 5, none⟩ = some (.int .i64 b3) ∧ W.cell? ⟨h, o' + m * 11 + 6, none⟩ = some (.int .i64 b4) ∧ W.cell? ⟨h, o' + m * 11 + 7, none⟩ = some (.int .i64 b5) ∧ W.cell? ⟨h, o' + m * 11 + 8, none⟩ = some (.string (mkS tg2)) ∧ W.cell? ⟨h, o' + m * 11 + 9, none⟩ = some (.string (mkS sm2)) ∧ W.cell? ⟨h, o' + m * 11 + 10, none⟩ = some (.int .i64 gr2))) (first | exact hSS.out _ hBd.out | exact hSS.out _ (below_alloc hBd.out _) | exact hSS.out _ (below_alloc (below_alloc hBd.out _) _)) (fail)
                · have hBx : Below w3.heap.size w3 (((wr.alloc (.cells #[.string (mkS q1), .int .i64 kd1, .int .i64 sz1, .int .i64 a1, .int .i64 a2, .int .i64 a3, .int .i64 a4, .int .i64 a5, .string (mkS tg1), .string (mkS sm1), .int .i64 gr1] 35)).alloc (.cells #[.string (mkS q2), .int .i64 kd2, .int .i64 sz2, .int .i64 b1, .int .i64 b2, .int .i64 b3, .int .i64 b4, .int .i64 b5, .string (mkS tg2), .string (mkS sm2), .int .i64 gr2] 35)).drew) := below_step hB.out (below_drewN (below_alloc (below_alloc (Below.refl wr.heap.size wr) (.cells #[.string (mkS q1), .int .i64 kd1, .int .i64 sz1, .int .i64 a1, .int .i64 a2, .int .i64 a3, .int .i64 a4, .int .i64 a5, .string (mkS tg1), .string (mkS sm1), .int .i64 gr1] 35)) (.cells #[.string (mkS q2), .int .i64 kd2, .int .i64 sz2, .int .i64 b1, .int .i64 b2, .int .i64 b3, .int .i64 b4, .int .i64 b5, .string (mkS tg2), .string (mkS sm2), .int .i64 gr2] 35)) 1)
                  obtain ⟨u1, u2⟩ := two_allocs wr (.cells #[.string (mkS q1), .int .i64 kd1, .int .i64 sz1, .int .i64 a1, .int .i64 a2, .int .i64 a3, .int .i64 a4, .int .i64 a5, .string (mkS tg1), .string (mkS sm1), .int .i64 gr1] 35) (.cells #[.string (mkS q2), .int .i64 kd2, .int .i64 sz2, .int .i64 b1, .int .i64 b2, .int .i64 b3, .int .i64 b4, .int .i64 b5, .string (mkS tg2), .string (mkS sm2), .int .i64 gr2] 35)
                  replace u1 : (((wr.alloc (.cells #[.string (mkS q1), .int .i64 kd1, .int .i64 sz1, .int .i64 a1, .int .i64 a2, .int .i64 a3, .int .i64 a4, .int .i64 a5, .string (mkS tg1), .string (mkS sm1), .int .i64 gr1] 35)).alloc (.cells #[.string (mkS q2), .int .i64 kd2, .int .i64 sz2, .int .i64 b1, .int .i64 b2, .int .i64 b3, .int .i64 b4, .int .i64 b5, .string (mkS tg2), .string (mkS sm2), .int .i64 gr2] 35)).drew).heap[wr.heap.size]? = some (.cells #[.string (mkS q1), .int .i64 kd1, .int .i64 sz1, .int .i64 a1, .int .i64 a2, .int .i64 a3, .int .i64 a4, .int .i64 a5, .string (mkS tg1), .string (mkS sm1), .int .i64 gr1] 35) := u1
                  replace u2 : (((wr.alloc (.cells #[.string (mkS q1), .int .i64 kd1, .int .i64 sz1, .int .i64 a1, .int .i64 a2, .int .i64 a3, .int .i64 a4, .int .i64 a5, .string (mkS tg1), .string (mkS sm1), .int .i64 gr1] 35)).alloc (.cells #[.string (mkS q2), .int .i64 kd2, .int .i64 sz2, .int .i64 b1, .int .i64 b2, .int .i64 b3, .int .i64 b4, .int .i64 b5, .string (mkS tg2), .string (mkS sm2), .int .i64 gr2] 35)).drew).heap[wr.heap.size + 1]? = some (.cells #[.string (mkS q2), .int .i64 kd2, .int .i64 sz2, .int .i64 b1, .int .i64 b2, .int .i64 b3, .int .i64 b4, .int .i64 b5, .string (mkS tg2), .string (mkS sm2), .int .i64 gr2] 35) := u2
                  clear hBd hSS
                  rename_i hHeld
                  clear hHeld
                  generalize (((wr.alloc (.cells #[.string (mkS q1), .int .i64 kd1, .int .i64 sz1, .int .i64 a1, .int .i64 a2, .int .i64 a3, .int .i64 a4, .int .i64 a5, .string (mkS tg1), .string (mkS sm1), .int .i64 gr1] 35)).alloc (.cells #[.string (mkS q2), .int .i64 kd2, .int .i64 sz2, .int .i64 b1, .int .i64 b2, .int .i64 b3, .int .i64 b4, .int .i64 b5, .string (mkS tg2), .string (mkS sm2), .int .i64 gr2] 35)).drew) = wz at *
                  have x0 := cell_of (j := 0) u1 rfl
                  have x4 := cell_of (j := 4) u1 rfl
                  have x5 := cell_of (j := 5) u1 rfl
                  have y0 := cell_of (j := 0) u2 rfl
                  have y4 := cell_of (j := 4) u2 rfl
                  have y5 := cell_of (j := 5) u2 rfl
                  replace hBx := Lib.hid hBx
                  replace u1 := Lib.hid u1
                  replace u2 := Lib.hid u2
                  by_cases hp : q1 = q2
                  · have t1 : ((mkS q1).toList == (mkS q2).toList) = true := strs_alike (by rw [hp])
                    replace hp := Lib.hid hp
                    by_cases hs : a2 = b2
                    · have t2 : (a2 == b2) = true := by simpa using hs
                      replace hs := Lib.hid hs
                      by_cases hn : a3 = b3
                      · have t3 : (a3 == b3) = true := by simpa using hn
                        replace hn := Lib.hid hn
                        go_wp2_with fail
                        (with_reducible refine (haw.out _).mono ?_)
                        rintro e w8 ⟨rfl, hB8⟩
                        have hB38 := below_step hBx.out hB8
                        have hB08 := below_step hB03.out hB38
                        replace hB08 := Lib.hid hB08
                        clear hB8 hB38
                        go_wp2
                        go_ret
                        exact ⟨rfl, hB08.out⟩
                      · have t3 : (a3 == b3) = false := by simpa using hn
                        replace hn := Lib.hid hn
                        have hn2 := hst2.out (fun h => by
                          obtain ⟨h1, h2, h3⟩ := h
                          dsimp only at h1 h2 h3
                          exact hn.out h3)
                        replace hn2 := Lib.hid hn2
                        go_wp2
                        go_roundw
                        case rel => exact ⟨m + 1, by go_num, by omega, hn2.out, hBx.out⟩
                        case measure => simp [intOf]; omega
                    · have t2 : (a2 == b2) = false := by simpa using hs
                      replace hs := Lib.hid hs
                      have hn2 := hst2.out (fun h => by
                        obtain ⟨h1, h2, h3⟩ := h
                        dsimp only at h1 h2 h3
                        exact hs.out h2)
                      replace hn2 := Lib.hid hn2
                      go_wp2
                      go_roundw
                      case rel => exact ⟨m + 1, by go_num, by omega, hn2.out, hBx.out⟩
                      case measure => simp [intOf]; omega
                  · have t1 : ((mkS q1).toList == (mkS q2).toList) = false := strs_diff (fun e => hp (mkS_inj e))
                    replace hp := Lib.hid hp
                    have hn2 := hst2.out (fun h => by
                      obtain ⟨h1, h2, h3⟩ := h
                      dsimp only at h1 h2 h3
                      exact hp.out h1)
                    replace hn2 := Lib.hid hn2
                    go_wp2
                    go_roundw
                    case rel => exact ⟨m + 1, by go_num, by omega, hn2.out, hBx.out⟩
                    case measure => simp [intOf]; omega
                · have hBx : Below w3.heap.size w3 (((wr.alloc (.cells #[.string (mkS q2), .int .i64 kd2, .int .i64 sz2, .int .i64 b1, .int .i64 b2, .int .i64 b3, .int .i64 b4, .int .i64 b5, .string (mkS tg2), .string (mkS sm2), .int .i64 gr2] 35)).alloc (.cells #[.string (mkS q1), .int .i64 kd1, .int .i64 sz1, .int .i64 a1, .int .i64 a2, .int .i64 a3, .int .i64 a4, .int .i64 a5, .string (mkS tg1), .string (mkS sm1), .int .i64 gr1] 35)).drew) := below_step hB.out (below_drewN (below_alloc (below_alloc (Below.refl wr.heap.size wr) (.cells #[.string (mkS q2), .int .i64 kd2, .int .i64 sz2, .int .i64 b1, .int .i64 b2, .int .i64 b3, .int .i64 b4, .int .i64 b5, .string (mkS tg2), .string (mkS sm2), .int .i64 gr2] 35)) (.cells #[.string (mkS q1), .int .i64 kd1, .int .i64 sz1, .int .i64 a1, .int .i64 a2, .int .i64 a3, .int .i64 a4, .int .i64 a5, .string (mkS tg1), .string (mkS sm1), .int .i64 gr1] 35)) 1)
                  obtain ⟨u1, u2⟩ := two_allocs wr (.cells #[.string (mkS q2), .int .i64 kd2, .int .i64 sz2, .int .i64 b1, .int .i64 b2, .int .i64 b3, .int .i64 b4, .int .i64 b5, .string (mkS tg2), .string (mkS sm2), .int .i64 gr2] 35) (.cells #[.string (mkS q1), .int .i64 kd1, .int .i64 sz1, .int .i64 a1, .int .i64 a2, .int .i64 a3, .int .i64 a4, .int .i64 a5, .string (mkS tg1), .string (mkS sm1), .int .i64 gr1] 35)
                  replace u1 : (((wr.alloc (.cells #[.string (mkS q2), .int .i64 kd2, .int .i64 sz2, .int .i64 b1, .int .i64 b2, .int .i64 b3, .int .i64 b4, .int .i64 b5, .string (mkS tg2), .string (mkS sm2), .int .i64 gr2] 35)).alloc (.cells #[.string (mkS q1), .int .i64 kd1, .int .i64 sz1, .int .i64 a1, .int .i64 a2, .int .i64 a3, .int .i64 a4, .int .i64 a5, .string (mkS tg1), .string (mkS sm1), .int .i64 gr1] 35)).drew).heap[wr.heap.size]? = some (.cells #[.string (mkS q2), .int .i64 kd2, .int .i64 sz2, .int .i64 b1, .int .i64 b2, .int .i64 b3, .int .i64 b4, .int .i64 b5, .string (mkS tg2), .string (mkS sm2), .int .i64 gr2] 35) := u1
                  replace u2 : (((wr.alloc (.cells #[.string (mkS q2), .int .i64 kd2, .int .i64 sz2, .int .i64 b1, .int .i64 b2, .int .i64 b3, .int .i64 b4, .int .i64 b5, .string (mkS tg2), .string (mkS sm2), .int .i64 gr2] 35)).alloc (.cells #[.string (mkS q1), .int .i64 kd1, .int .i64 sz1, .int .i64 a1, .int .i64 a2, .int .i64 a3, .int .i64 a4, .int .i64 a5, .string (mkS tg1), .string (mkS sm1), .int .i64 gr1] 35)).drew).heap[wr.heap.size + 1]? = some (.cells #[.string (mkS q1), .int .i64 kd1, .int .i64 sz1, .int .i64 a1, .int .i64 a2, .int .i64 a3, .int .i64 a4, .int .i64 a5, .string (mkS tg1), .string (mkS sm1), .int .i64 gr1] 35) := u2
                  clear hBd hSS
                  rename_i hHeld
                  clear hHeld
                  generalize (((wr.alloc (.cells #[.string (mkS q2), .int .i64 kd2, .int .i64 sz2, .int .i64 b1, .int .i64 b2, .int .i64 b3, .int .i64 b4, .int .i64 b5, .string (mkS tg2), .string (mkS sm2), .int .i64 gr2] 35)).alloc (.cells #[.string (mkS q1), .int .i64 kd1, .int .i64 sz1, .int .i64 a1, .int .i64 a2, .int .i64 a3, .int .i64 a4, .int .i64 a5, .string (mkS tg1), .string (mkS sm1), .int .i64 gr1] 35)).drew) = wz at *
                  have x0 := cell_of (j := 0) u1 rfl
                  have x4 := cell_of (j := 4) u1 rfl
                  have x5 := cell_of (j := 5) u1 rfl
                  have y0 := cell_of (j := 0) u2 rfl
                  have y4 := cell_of (j := 4) u2 rfl
                  have y5 := cell_of (j := 5) u2 rfl
                  replace hBx := Lib.hid hBx
                  replace u1 := Lib.hid u1
                  replace u2 := Lib.hid u2
                  by_cases hp : q1 = q2
                  · have t1 : ((mkS q1).toList == (mkS q2).toList) = true := strs_alike (by rw [hp])
                    replace hp := Lib.hid hp
                    by_cases hs : a2 = b2
                    · have t2 : (a2 == b2) = true := by simpa using hs
                      replace hs := Lib.hid hs
                      by_cases hn : a3 = b3
                      · have t3 : (a3 == b3) = true := by simpa using hn
                        replace hn := Lib.hid hn
                        go_wp2_with fail
                        (with_reducible refine (haw.out _).mono ?_)
                        rintro e w8 ⟨rfl, hB8⟩
                        have hB38 := below_step hBx.out hB8
                        have hB08 := below_step hB03.out hB38
                        replace hB08 := Lib.hid hB08
                        clear hB8 hB38
                        go_wp2
                        go_ret
                        exact ⟨rfl, hB08.out⟩
                      · have t3 : (a3 == b3) = false := by simpa using hn
                        replace hn := Lib.hid hn
                        have hn2 := hst2.out (fun h => by
                          obtain ⟨h1, h2, h3⟩ := h
                          dsimp only at h1 h2 h3
                          exact hn.out h3)
                        replace hn2 := Lib.hid hn2
                        go_wp2
                        go_roundw
                        case rel => exact ⟨m + 1, by go_num, by omega, hn2.out, hBx.out⟩
                        case measure => simp [intOf]; omega
                    · have t2 : (a2 == b2) = false := by simpa using hs
                      replace hs := Lib.hid hs
                      have hn2 := hst2.out (fun h => by
                        obtain ⟨h1, h2, h3⟩ := h
                        dsimp only at h1 h2 h3
                        exact hs.out h2)
                      replace hn2 := Lib.hid hn2
                      go_wp2
                      go_roundw
                      case rel => exact ⟨m + 1, by go_num, by omega, hn2.out, hBx.out⟩
                      case measure => simp [intOf]; omega
                  · have t1 : ((mkS q1).toList == (mkS q2).toList) = false := strs_diff (fun e => hp (mkS_inj e))
                    replace hp := Lib.hid hp
                    have hn2 := hst2.out (fun h => by
                      obtain ⟨h1, h2, h3⟩ := h
                      dsimp only at h1 h2 h3
                      exact hp.out h1)
                    replace hn2 := Lib.hid hn2
                    go_wp2
                    go_roundw
                    case rel => exact ⟨m + 1, by go_num, by omega, hn2.out, hBx.out⟩
                    case measure => simp [intOf]; omega
              · obtain rfl : m = c.length := by omega
                have hs3 := hstep.out (fun m hm => hno2 m hm hm)
                replace hs3 := Lib.hid hs3
                replace hno2 := Lib.hid hno2
                replace hB := Lib.hid hB
                go_wp2
                go_roundw
                case rel => exact ⟨k + 1, by go_num, by omega, hs3.out, hB.out⟩
                case measure => simp [intOf]; omega
          · obtain rfl : k = b.length := by omega
            have hsm2 := hsame.out (fun _ => apartT_of (fun i hi m hm => hno i hi hi m hm))
            have f1 := (hB.cell (cell_lt g1)).trans g1
            have f2 := (hB.cell (cell_lt g2)).trans g2
            clear hno
            have hB3t := below_step hB03.out hB
            have R4 := R23.out.below hB
            have R5 := R3.out.below hB
            obtain ⟨wt, rfl⟩ : ∃ wt : World, wt = wr := ⟨_, rfl⟩
            replace hB := Lib.hid hB
            replace hB3t := Lib.hid hB3t
            replace R4 := Lib.hid R4
            replace R5 := Lib.hid R5
            replace hsm2 := Lib.hid hsm2
            clear g0 g1 g2 R23 R3
            go_wp2_with fail
            go_loopw [15, 16] (fun o i wr => ∃ k : Nat, i = .int .i64 k ∧ k ≤ acts1.length ∧ wr.ownsRow wt.heap.size 39 2 o k (actRow (acts1.take k)) ∧ Below wt.heap.size wt wr) (fun _ i _ => acts1.length - (intOf i).toNat)
            case atStart => exact ⟨0, rfl, Nat.zero_le _, World.ownsRow_nil _ _ _ _, Below.refl _ _⟩
            case round =>
              obtain ⟨k, rfl, hk, hO, hBt⟩ := hrel
              by_cases hlt : k < acts1.length
              · obtain ⟨g, o, rfl, c1, c2⟩ := (R4.out.below hBt).at hlt
                have hsn : acts1.take (k + 1) = acts1.take k ++ [acts1[k]] := List.take_succ_eq_append_getElem hlt
                generalize acts1[k] = y at *
                obtain ⟨q, t⟩ := y
                dsimp only at *
                obtain ⟨oA, oc, ho, ho1, ho2⟩ := own_shape hO
                subst ho
                unfold maxLen at ho2
                have hki : (k : Int) < (acts1.length : Int) := by omega
                have hlen' := hlen.out
                replace hO := Lib.hid hO
                replace hBt := Lib.hid hBt
                replace hsn := Lib.hid hsn
                go_upto_region 22 with fail
                refine wp_region_held_tail (S := fun W => W.cell? ⟨g, o + k * 2, none⟩ = some (.string (mkS q)) ∧ W.cell? ⟨g, o + k * 2 + 1, none⟩ = some (.int .i64 t)) 13 (by kernel_rfl) (by kernel_rfl) ⟨c1, c2⟩ (fun hHeld => ?_)
                simp only [List.take_succ_cons, List.take_zero, List.drop_succ_cons, List.drop_zero]
                simp only [Array.replicate, List.replicate]
                refine wpAnyH_take (i := 0) (v := ?_) rfl (by kernel_rfl) (by kernel_rfl) (by kernel_rfl) (fun _ _ _ h => h) (Or.inl ⟨by rfl, ?_⟩) (by assumption) ?_
                rotate_left 1
                · intro W hSw
                  obtain ⟨hSw1, hSw2⟩ := hSw
                  (try dsimp only at hSw1 hSw2)
                  go_simp
                  try with_reducible rfl
                simp only [Act.put, List.setIfInBounds_toArray, List.set_cons_zero, List.set_cons_succ]
                refine wpAnyH_take (i := 1) (v := ?_) rfl (by kernel_rfl) (by kernel_rfl) (by kernel_rfl) (fun _ _ _ h => h) (Or.inl ⟨by rfl, ?_⟩) (by assumption) ?_
                rotate_left 1
                · intro W hSw
                  obtain ⟨hSw1, hSw2⟩ := hSw
                  (try dsimp only at hSw1 hSw2)
                  go_simp
                  try with_reducible rfl
                simp only [Act.put, List.setIfInBounds_toArray, List.set_cons_zero, List.set_cons_succ]
                refine wpAnyH_take (i := 2) (v := ?_) rfl (by kernel_rfl) (by kernel_rfl) (by kernel_rfl) (fun _ _ _ h => h) (Or.inl ⟨by rfl, ?_⟩) (by assumption) ?_
                rotate_left 1
                · intro W hSw
                  obtain ⟨hSw1, hSw2⟩ := hSw
                  (try dsimp only at hSw1 hSw2)
                  go_simp
                  try with_reducible rfl
                simp only [Act.put, List.setIfInBounds_toArray, List.set_cons_zero, List.set_cons_succ]
                refine wpAnyH_take (i := 3) (v := ?_) rfl (by kernel_rfl) (by kernel_rfl) (by kernel_rfl) (fun _ _ _ h => h) (Or.inl ⟨by rfl, ?_⟩) (by assumption) ?_
                rotate_left 1
                · intro W hSw
                  obtain ⟨hSw1, hSw2⟩ := hSw
                  (try dsimp only at hSw1 hSw2)
                  go_simp
                  try with_reducible rfl
                simp only [Act.put, List.setIfInBounds_toArray, List.set_cons_zero, List.set_cons_succ]
                refine wpAnyH_take (i := 4) (v := ?_) rfl (by kernel_rfl) (by kernel_rfl) (by kernel_rfl) (fun _ _ _ h => h) (Or.inl ⟨by rfl, ?_⟩) (by assumption) ?_
                rotate_left 1
                · intro W hSw
                  obtain ⟨hSw1, hSw2⟩ := hSw
                  (try dsimp only at hSw1 hSw2)
                  go_simp
                  try with_reducible rfl
                simp only [Act.put, List.setIfInBounds_toArray, List.set_cons_zero, List.set_cons_succ]
                refine wpAnyH_take (i := 5) (v := ?_) rfl (by kernel_rfl) (by kernel_rfl) (by kernel_rfl) (fun _ _ _ h => h) (Or.inl ⟨by rfl, ?_⟩) (by assumption) ?_
                rotate_left 1
                · intro W hSw
                  obtain ⟨hSw1, hSw2⟩ := hSw
                  (try dsimp only at hSw1 hSw2)
                  go_simp
                  try with_reducible rfl
                simp only [Act.put, List.setIfInBounds_toArray, List.set_cons_zero, List.set_cons_succ]
                refine wpAnyH_take (i := 6) (v := ?_) rfl (by kernel_rfl) (by kernel_rfl) (by kernel_rfl) (fun _ _ _ h => h) (Or.inl ⟨by rfl, ?_⟩) (by assumption) ?_
                rotate_left 1
                · intro W hSw
                  obtain ⟨hSw1, hSw2⟩ := hSw
                  (try dsimp only at hSw1 hSw2)
                  go_simp
                  try with_reducible rfl
                simp only [Act.put, List.setIfInBounds_toArray, List.set_cons_zero, List.set_cons_succ]
                refine wpAnyH_take (i := 7) (v := ?_) rfl (by kernel_rfl) (by kernel_rfl) (by kernel_rfl) (fun _ _ _ h => h) (Or.inl ⟨by rfl, ?_⟩) (by assumption) ?_
                rotate_left 1
                · intro W hSw
                  obtain ⟨hSw1, hSw2⟩ := hSw
                  (try dsimp only at hSw1 hSw2)
                  go_simp
                  try with_reducible rfl
                simp only [Act.put, List.setIfInBounds_toArray, List.set_cons_zero, List.set_cons_succ]
                refine wpAnyH_take (i := 8) (v := ?_) rfl (by kernel_rfl) (by kernel_rfl) (by kernel_rfl) (fun _ _ _ h => h) (Or.inl ⟨by rfl, ?_⟩) (by assumption) ?_
                rotate_left 1
                · intro W hSw
                  obtain ⟨hSw1, hSw2⟩ := hSw
                  (try dsimp only at hSw1 hSw2)
                  go_simp
                  try with_reducible rfl
                simp only [Act.put, List.setIfInBounds_toArray, List.set_cons_zero, List.set_cons_succ]
                refine wpAnyH_take (i := 9) (v := ?_) rfl (by kernel_rfl) (by kernel_rfl) (by kernel_rfl) (fun _ _ _ h => h) (Or.inl ⟨by rfl, ?_⟩) (by assumption) ?_
                rotate_left 1
                · intro W hSw
                  obtain ⟨hSw1, hSw2⟩ := hSw
                  (try dsimp only at hSw1 hSw2)
                  go_simp
                  try with_reducible rfl
                simp only [Act.put, List.setIfInBounds_toArray, List.set_cons_zero, List.set_cons_succ]
                refine wpAnyH_take (i := 10) (v := ?_) rfl (by kernel_rfl) (by kernel_rfl) (by kernel_rfl) (fun _ _ _ h => h) (Or.inl ⟨by rfl, ?_⟩) (by assumption) ?_
                rotate_left 1
                · intro W hSw
                  obtain ⟨hSw1, hSw2⟩ := hSw
                  (try dsimp only at hSw1 hSw2)
                  go_simp
                  try with_reducible rfl
                simp only [Act.put, List.setIfInBounds_toArray, List.set_cons_zero, List.set_cons_succ]
                refine wpAnyH_take (i := 11) (v := ?_) rfl (by kernel_rfl) (by kernel_rfl) (by kernel_rfl) (fun _ _ _ h => h) (Or.inl ⟨by rfl, ?_⟩) (by assumption) ?_
                rotate_left 1
                · intro W hSw
                  obtain ⟨hSw1, hSw2⟩ := hSw
                  (try dsimp only at hSw1 hSw2)
                  go_simp
                  try with_reducible rfl
                simp only [Act.put, List.setIfInBounds_toArray, List.set_cons_zero, List.set_cons_succ]
                have c3 := ((below_alloc (below_drewN (Below.refl _ wr) 1) (.cells #[.string (mkS q), .int .i64 t] 39)).cell (cell_lt c1)).trans c1
                have c4' := ((below_alloc (below_drewN (Below.refl _ wr) 1) (.cells #[.string (mkS q), .int .i64 t] 39)).cell (cell_lt c2)).trans c2
                refine wpAnyH_ready (rs := [12]) (by kernel_rfl) (by simp) ?_
                refine AllReadyH.cons rfl (fun K hK => ?_) AllReadyH.nil
                go_simp
                refine hK.out _ _ ⟨c3, c4'⟩ (fun hHeld => ?_)
                clear hK K
                simp only [Act.put, List.setIfInBounds_toArray, List.set_cons_zero, List.set_cons_succ]
                refine wpAnyH_done (by kernel_rfl) ?_ _
                have hOd := own_drewN hO.out 1
                have hBd := below_drewN hBt.out 1
                change wpList _ _ _ _ _ ((wr.drewN 1).alloc (.cells #[.string (mkS q), .int .i64 t] 39))
                replace hOd := Lib.hid hOd
                replace hBd := Lib.hid hBd
                go_wp2_with (at_builtin; refine wp_append1 wt.heap.size rfl (.tmp 121) (.tmp 133) 36 39 rfl Try.underlying36 (.agg #[.string ⟨#[]⟩, .int .i64 0]) 2 24 info_act44 rfl (by decide) (.slice oA k oc) _ _ rfl [.string (mkS q), .int .i64 t] rfl hOd.out rfl ?_ ?_ ?_ hBd.out.size ?_)
                · simp [Value.oneCell']
                · simp only [maxLen]; omega
                · omega
                · intro v1 wx h1 hg hat
                  have hBx := hBd.out.grown hg hBd.out.size (own_base hOd.out)
                  have hOx : wx.ownsRow wt.heap.size 39 2 v1 (k + 1) (actRow (acts1.take (k + 1))) := by
                    rw [hsn.out, actRow_append]
                    exact h1
                  replace hOx := Lib.hid hOx
                  replace hBx := Lib.hid hBx
                  clear h1 hg hat
                  go_wp2
                  go_roundw
                  case rel => exact ⟨k + 1, by go_num, by omega, hOx.out, hBx.out⟩
                  case measure => simp [intOf]; omega
              · obtain rfl : k = acts1.length := by omega
                rw [List.take_length] at hO
                have hR6 := rda_own hO
                obtain ⟨A6, c6, rfl, _, hc6⟩ := hR6.shape
                unfold maxLen at hc6
                have hB6 := below_step hB3t.out hBt
                have R56 := R5.out.below hBt
                have hswp := swap44_calls _ acts1 wr hR6 (by have := hlen.out; omega)
                replace hR6 := Lib.hid hR6
                replace hB6 := Lib.hid hB6
                replace R56 := Lib.hid R56
                replace hswp := Lib.hid hswp
                replace hO := Lib.hid hO
                replace hBt := Lib.hid hBt
                go_wp2_with fail
                (with_reducible refine (hswp.out).mono ?_)
                rintro e w7 ⟨⟨v7, rfl, hO7⟩, hB7⟩
                have hB67 := below_step hB6.out hB7
                have R57 := R56.out.below hB7
                rw [← hsm2.out] at hO7
                have hl7 : acts2.length = acts1.length := by rw [hsm2.out]; unfold swapA; rw [List.length_map]
                rw [← hl7] at hO7
                have R7 := rda_own hO7
                obtain ⟨A7, c7, rfl, _, hc7⟩ := R7.shape
                unfold maxLen at hc7
                have hsm7 := same44_calls _ _ acts2 acts2 w7 R57 R7 (by rw [hl7]; have := hlen.out; omega)
                rw [decide_eq_true rfl] at hsm7
                replace hB67 := Lib.hid hB67
                replace hsm7 := Lib.hid hsm7
                replace hl7 := Lib.hid hl7
                clear hB7 hO7 R57
                go_wp2_with fail
                (with_reducible refine (hsm7.out).mono ?_)
                rintro e w8 ⟨rfl, hB8⟩
                have hB08 := below_step hB67.out hB8
                replace hB08 := Lib.hid hB08
                clear hB8
                go_wp2_with fail
                (with_reducible refine (haw.out _).mono ?_)
                rintro e w9 ⟨rfl, hB9⟩
                have hB09 := below_step hB08.out hB9
                replace hB09 := Lib.hid hB09
                clear hB9
                go_wp2
                go_ret
                exact ⟨rfl, hB09.out⟩

end Go.Proofs.Ytcjlfkklpghjbaa
