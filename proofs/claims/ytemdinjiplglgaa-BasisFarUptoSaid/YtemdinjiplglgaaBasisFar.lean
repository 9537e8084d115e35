/-
  remoralaw22.BasisFar: a file more, elsewhere, in the program.
-/
import Derived.Test.YtemdinjiplglgaaB5
import Derived.Test.YtemdinjiplglgaaB4
namespace Go.Proofs.Ytemdinjiplglgaa
open Go.RowKit


theorem rdb_new (w : World) : RdB (w.alloc (.cells #[.int .u8 110, .int .u8 101, .int .u8 119] 5 (3, 4))) (.slice (some ⟨w.heap.size, 0, none⟩) 3 3) [110, 101, 119] := by
  refine ⟨_, 3, rfl, Nat.le_refl _, by simp [maxLen], fun j hj => ⟨w.heap.size, 0, rfl, ?_⟩⟩
  refine cell_of (j := 0 + j) (MapKept.heap_alloc w _).1 ?_
  have : j = 0 ∨ j = 1 ∨ j = 2 := by simp at hj; omega
  rcases this with rfl | rfl | rfl <;> rfl

set_option maxHeartbeats 8000000 in
set_option maxRecDepth 100000 in
theorem basisFar_walk (v : Value) (l : List Act17) (a b c : ByteArray) (fz : Bool) (w : World) (hv : Acts w v l) (ha : a.size ≤ 2000000) (hb : b.size ≤ 2000000) (hc : c.size ≤ 2000000) :
    Calls Try.prog 4 #[v, .agg #[.string a, .string b, .string c], .bool fz] w fun e w' => e = .returned (.bool true) ∧ Below w.heap.size w w' := by
  have haw := fun W => awake22_calls W
  have hB0 : Below w.heap.size w (w.alloc (.cells #[.string a, .string b, .string c] 42)) := (Below.refl _ _).alloc (Nat.le_refl _) _
  have hv0 := hv.below hB0
  have hsm := small_calls v l _ hv0
  have hblk := (MapKept.heap_alloc w (.cells #[.string a, .string b, .string c] 42)).1
  have hlt0 : w.heap.size < (w.alloc (.cells #[.string a, .string b, .string c] 42)).heap.size := by simp
  replace haw := Lib.hid haw
  by_cases hs1 : small l = true
  · rw [hs1] at hsm
    have hl40 := (small_at hs1).1
    have hbl := build_calls _ l _ hv0 hs1
    have hgr := acts_grow Fs.start l
    have hfew : (Fs.build l).names.length ≤ 1000 := by
      have : (Fs.build l).names.length ≤ Fs.start.names.length + l.length := hgr.1
      have h9 : Fs.start.names.length = 1 := rfl
      omega
    have hnx : (Fs.build l).next < 4611686018427387904 := by
      have : (Fs.build l).next ≤ Fs.start.next + l.length := hgr.2
      have h9 : Fs.start.next = 2 := rfl
      omega
    generalize Fs.build l = T at *
    generalize hW0 : w.alloc (.cells #[.string a, .string b, .string c] 42) = W0 at *
    have hrt := fun W => right_calls a W (by omega)
    have hch := fun tb A M W (hR : Rep W tb A M T) => choose_calls tb A M T a b fz W hR ha hb (by omega)
    have hpa := fun W => parent_calls a W (by unfold maxLen; omega)
    have hpc := fun W => parent_calls c W (by unfold maxLen; omega)
    have hst := fun tb A M W (hR : Rep W tb A M T) => stat_calls tb A M T c W hR (by omega)
    have hwr := fun tb A M W v (hR : Rep W tb A M T) hv => write_calls tb A M T c v [110, 101, 119] ⟨0, 0, 0, 0, 0⟩ W hR (by omega) hv (by simp) hnx
    have hwrote := wrote T (bl c) [110, 101, 119] ⟨0, 0, 0, 0, 0⟩
    have hfew2 : (T.write (bl c) [110, 101, 119] ⟨0, 0, 0, 0, 0⟩).1.names.length ≤ 1000000 := by
      have hg : Grow T (T.write (bl c) [110, 101, 119] ⟨0, 0, 0, 0, 0⟩).1 := grow_act T ⟨1, bl c, [], [110, 101, 119], ⟨0, 0, 0, 0, 0⟩⟩
      have := hg.1
      omega
    generalize T.write (bl c) [110, 101, 119] ⟨0, 0, 0, 0, 0⟩ = wr at *
    obtain ⟨T2, ew⟩ := wr
    dsimp only at hwrote hfew2 hwr
    have hch2 := fun tb A M W (hR : Rep W tb A M T2) => choose_calls tb A M T2 a b fz W hR ha hb hfew2
    have hfar := fun hI hI2 hp hq hr => @choose_far T T2 (bl c) hI hI2 hwrote (bl a) (bl b) hp hq hr fz
    unfold mtV mtCells ptr at *
    dsimp only at *
    have c0 := cell_of (j := 0) hblk rfl
    have c1 := cell_of (j := 1) hblk rfl
    have c2 := cell_of (j := 2) hblk rfl
    replace hv := Lib.hid hv
    replace hv0 := Lib.hid hv0
    replace hsm := Lib.hid hsm
    replace hbl := Lib.hid hbl
    replace hrt := Lib.hid hrt
    replace hch := Lib.hid hch
    replace hpa := Lib.hid hpa
    replace hpc := Lib.hid hpc
    replace hst := Lib.hid hst
    replace hwr := Lib.hid hwr
    replace hch2 := Lib.hid hch2
    replace hfar := Lib.hid hfar
    replace hwrote := Lib.hid hwrote
    replace hB0 := Lib.hid hB0
    replace hblk := Lib.hid hblk
    replace hs1 := Lib.hid hs1
    replace hW0 := Lib.hid hW0
    replace hlt0 := Lib.hid hlt0
    clear hgr
    go_enter Try.func4, Try.ntmps4
    go_wp2_with fail
    try rw [hW0.out]
    (with_reducible refine hsm.out.mono ?_)
    rintro e w1 ⟨rfl, rfl⟩
    go_wp2_with fail
    (with_reducible refine (hbl.out).mono ?_)
    rintro e w2 ⟨tc, C, M, rfl, hR2, hO2, hB2⟩
    have hI := hR2.inv
    have hblk2 := (hB2.block _ hlt0.out).trans hblk.out
    have d0 := cell_of (j := 0) hblk2 rfl
    replace hR2 := Lib.hid hR2
    replace hO2 := Lib.hid hO2
    replace hB2 := Lib.hid hB2
    replace hI := Lib.hid hI
    replace hblk2 := Lib.hid hblk2
    clear c0 c1 c2
    by_cases hr : right (bl a) = true
    · have hrt2 := hrt.out w2
      rw [hr] at hrt2
      replace hr := Lib.hid hr
      replace hrt2 := Lib.hid hrt2
      go_wp2_with fail
      (with_reducible refine (hrt2.out).mono ?_)
      rintro e w3 ⟨rfl, hB3⟩
      have hR3 := hR2.out.below hB3
      have hB03 := below_step hB2.out hB3
      have hblk3 := (hB03.block _ hlt0.out).trans hblk.out
      have hch3 := hch.out tc C M w3 hR3
      generalize T.choose (bl a) (bl b) fz = ch at *
      obtain ⟨r1, r2⟩ := ch
      dsimp only at hch3
      have e0 := cell_of (j := 0) hblk3 rfl
      have e1 := cell_of (j := 1) hblk3 rfl
      replace hR3 := Lib.hid hR3
      replace hB03 := Lib.hid hB03
      replace hblk3 := Lib.hid hblk3
      replace hch3 := Lib.hid hch3
      clear hB3 hrt2 d0
      go_wp2_with fail
      (with_reducible refine (hch3.out).mono ?_)
      rintro e w4 ⟨rfl, hB4⟩
      have hR4 := hR3.out.below hB4
      have hB04 := below_step hB03.out hB4
      have hblk4 := (hB04.block _ hlt0.out).trans hblk.out
      replace hR4 := Lib.hid hR4
      replace hB04 := Lib.hid hB04
      replace hblk4 := Lib.hid hblk4
      clear hB4 hch3 e0 e1
      go_upto_region 7 with fail
      have f0 := fun n : Nat => cell_of (w := w4.drewN n) (j := 0) hblk4.out rfl
      have f1 := fun n : Nat => cell_of (w := w4.drewN n) (j := 1) hblk4.out rfl
      have f2 := fun n : Nat => cell_of (w := w4.drewN n) (j := 2) hblk4.out rfl
      by_cases hca : c = a
      · have t1 := strs_alike hca
        replace hca := Lib.hid hca
        go_quiet (fail)
        clear f0 f1 f2
        go_wp2_with fail
        refine (haw.out _).mono ?_
        rintro e w9 ⟨rfl, hB9⟩
        go_wp2
        go_ret
        exact ⟨rfl, below_step (below_step hB0.out (below_drewN hB04.out _)) hB9⟩
      · have t1 := strs_diff hca
        by_cases hcb : c = b
        · have t2 := strs_alike hcb
          replace hca := Lib.hid hca
          replace hcb := Lib.hid hcb
          go_quiet (fail)
          clear f0 f1 f2
          go_wp2_with fail
          refine (haw.out _).mono ?_
          rintro e w9 ⟨rfl, hB9⟩
          go_wp2
          go_ret
          exact ⟨rfl, below_step (below_step hB0.out (below_drewN hB04.out _)) hB9⟩
        · have t2 := strs_diff hcb
          by_cases hcp : parent (bl c) = parent (bl a)
          · have t3 : ((mkS (parent (bl c))).toList == (mkS (parent (bl a))).toList) = true := strs_alike (by rw [hcp])
            replace hca := Lib.hid hca
            replace hcb := Lib.hid hcb
            replace hcp := Lib.hid hcp
            go_quiet (first | ((go_at_call 20; exact quiet_eq (hpa.out _))) | ((go_at_call 20; exact quiet_eq (hpc.out _))))
            clear f0 f1 f2
            go_wp2_with fail
            refine (haw.out _).mono ?_
            rintro e w9 ⟨rfl, hB9⟩
            go_wp2
            go_ret
            exact ⟨rfl, below_step (below_step hB0.out (below_drewN hB04.out _)) hB9⟩
          · have t3 : ((mkS (parent (bl c))).toList == (mkS (parent (bl a))).toList) = false := strs_diff (fun e => hcp (mkS_inj e))
            have hfar1 := hfar.out hI.out
            have hst4 := fun n => hst.out tc C M (w4.drewN n) (hR4.out.drewN n)
            generalize T.stat (bl c) = st at *
            obtain ⟨⟨s1, s2, s3, s4, ⟨s5, s6, s7, s8, s9⟩, s10⟩, es⟩ := st
            unfold statV statCells at hst4
            dsimp only at hst4
            have hfar2 := fun hI2 => hfar1 hI2 (fun e => hca (bl_inj e)) (fun e => hcb (bl_inj e)) hcp
            clear hfar1
            replace hca := Lib.hid hca
            replace hcb := Lib.hid hcb
            replace hcp := Lib.hid hcp
            replace hfar2 := Lib.hid hfar2
            replace hst4 := Lib.hid hst4
            go_quiet (first | ((go_at_call 20; exact quiet_eq (hpa.out _))) | ((go_at_call 20; exact quiet_eq (hpc.out _))))
            go_wp2_with fail
            (with_reducible refine (hst4.out _).mono ?_)
            rintro e w5 ⟨rfl, hB5⟩
            have hB05 := below_step (below_drewN hB04.out _) hB5
            have hB05a := below_alloc hB05 (.cells #[.int .i64 s1, .int .i64 s2, .int .i64 s3, .int .i64 s4, .int .i64 s5, .int .i64 s6, .int .i64 s7, .int .i64 s8, .int .i64 s9, .string (mkS s10)] 38)
            have hB45a := below_alloc hB5 (.cells #[.int .i64 s1, .int .i64 s2, .int .i64 s3, .int .i64 s4, .int .i64 s5, .int .i64 s6, .int .i64 s7, .int .i64 s8, .int .i64 s9, .string (mkS s10)] 38)
            have hR5 := (hR4.out.drewN _).below hB45a
            have hblk5 := (hB05a.block _ hlt0.out).trans hblk.out
            have hs5 := (MapKept.heap_alloc w5 (.cells #[.int .i64 s1, .int .i64 s2, .int .i64 s3, .int .i64 s4, .int .i64 s5, .int .i64 s6, .int .i64 s7, .int .i64 s8, .int .i64 s9, .string (mkS s10)] 38)).1
            clear f0 f1 f2 t1 t2 t3
            have x3 := cell_of (j := 3) hs5 (v := .int .i64 s4) rfl
            replace hB05 := Lib.hid hB05
            replace hB05a := Lib.hid hB05a
            replace hB45a := Lib.hid hB45a
            replace hR5 := Lib.hid hR5
            replace hblk5 := Lib.hid hblk5
            replace hs5 := Lib.hid hs5
            clear hB5
            by_cases hes : es = 0
            · subst hes
              by_cases hlk : 1 < s4
              · go_wp2_with fail
                refine (haw.out _).mono ?_
                rintro e w9 ⟨rfl, hB9⟩
                go_wp2
                go_ret
                exact ⟨rfl, below_step (below_step hB0.out hB05a.out) hB9⟩
              · have hlk2 : decide (1 < s4) = false := by simpa using hlk
                go_upto_region 12 with fail
                generalize (w5.alloc (.cells #[.int .i64 s1, .int .i64 s2, .int .i64 s3, .int .i64 s4, .int .i64 s5, .int .i64 s6, .int .i64 s7, .int .i64 s8, .int .i64 s9, .string (mkS s10)] 38)) = W5 at *
                have e0 := cell_of (j := 0) hblk5.out (v := .string a) rfl
                have e1 := cell_of (j := 1) hblk5.out (v := .string b) rfl
                have e2 := cell_of (j := 2) hblk5.out (v := .string c) rfl
                have hB6 := below_alloc hB05a.out (.cells #[.int .u8 110, .int .u8 101, .int .u8 119] 5 (3, 4))
                have hB56 := (Below.refl W5.heap.size W5).alloc (Nat.le_refl _) (.cells #[.int .u8 110, .int .u8 101, .int .u8 119] 5 (3, 4))
                have hwr6 := hwr.out tc C M _ _ (hR5.out.below hB56) (rdb_new W5)
                have kc := fun (w : World) (C : Array Value) (n c : Nat) => Lib.run_convert_bytes_const (P := Try.prog) w 23 5 C n c Try.underlying23 Try.underlying5
                replace hB6 := Lib.hid hB6
                replace hB56 := Lib.hid hB56
                replace hwr6 := Lib.hid hwr6
                clear x3
                go_wp2_with fail
                (with_reducible refine (hwr6.out).mono ?_)
                rintro e w7 ⟨rfl, hst7⟩
                obtain ⟨hB07, A7, M7, hR7, hO7⟩ := Stp.mine hB6.out hO2.out hst7
                have hblk7 := (hB07.block _ hlt0.out).trans hblk.out
                have hch7 := hch2.out tc A7 M7 w7 hR7
                rw [hfar2.out hR7.inv] at hch7
                have i0 := cell_of (j := 0) hblk7 (v := .string a) rfl
                have i1 := cell_of (j := 1) hblk7 (v := .string b) rfl
                replace hB07 := Lib.hid hB07
                replace hR7 := Lib.hid hR7
                replace hO7 := Lib.hid hO7
                replace hblk7 := Lib.hid hblk7
                replace hch7 := Lib.hid hch7
                clear hst7 e0 e1 e2 kc
                go_wp2_with fail
                (with_reducible refine (hch7.out).mono ?_)
                rintro e w8 ⟨rfl, hB8⟩
                have hB08 := below_step hB07.out hB8
                replace hB08 := Lib.hid hB08
                clear hB8 hch7 i0 i1
                go_wp2_with fail
                refine (haw.out _).mono ?_
                rintro e w9 ⟨rfl, hB9⟩
                go_wp2
                go_ret
                exact ⟨ret_bool (by simp), below_step (below_step hB0.out hB08.out) hB9⟩
            · have hes2 : (es == 0) = false := by simpa using hes
              replace hes := Lib.hid hes
              go_upto_region 12 with fail
              generalize (w5.alloc (.cells #[.int .i64 s1, .int .i64 s2, .int .i64 s3, .int .i64 s4, .int .i64 s5, .int .i64 s6, .int .i64 s7, .int .i64 s8, .int .i64 s9, .string (mkS s10)] 38)) = W5 at *
              have e0 := cell_of (j := 0) hblk5.out (v := .string a) rfl
              have e1 := cell_of (j := 1) hblk5.out (v := .string b) rfl
              have e2 := cell_of (j := 2) hblk5.out (v := .string c) rfl
              have hB6 := below_alloc hB05a.out (.cells #[.int .u8 110, .int .u8 101, .int .u8 119] 5 (3, 4))
              have hB56 := (Below.refl W5.heap.size W5).alloc (Nat.le_refl _) (.cells #[.int .u8 110, .int .u8 101, .int .u8 119] 5 (3, 4))
              have hwr6 := hwr.out tc C M _ _ (hR5.out.below hB56) (rdb_new W5)
              have kc := fun (w : World) (C : Array Value) (n c : Nat) => Lib.run_convert_bytes_const (P := Try.prog) w 23 5 C n c Try.underlying23 Try.underlying5
              replace hB6 := Lib.hid hB6
              replace hB56 := Lib.hid hB56
              replace hwr6 := Lib.hid hwr6
              clear x3
              go_wp2_with fail
              (with_reducible refine (hwr6.out).mono ?_)
              rintro e w7 ⟨rfl, hst7⟩
              obtain ⟨hB07, A7, M7, hR7, hO7⟩ := Stp.mine hB6.out hO2.out hst7
              have hblk7 := (hB07.block _ hlt0.out).trans hblk.out
              have hch7 := hch2.out tc A7 M7 w7 hR7
              rw [hfar2.out hR7.inv] at hch7
              have i0 := cell_of (j := 0) hblk7 (v := .string a) rfl
              have i1 := cell_of (j := 1) hblk7 (v := .string b) rfl
              replace hB07 := Lib.hid hB07
              replace hR7 := Lib.hid hR7
              replace hO7 := Lib.hid hO7
              replace hblk7 := Lib.hid hblk7
              replace hch7 := Lib.hid hch7
              clear hst7 e0 e1 e2 kc
              go_wp2_with fail
              (with_reducible refine (hch7.out).mono ?_)
              rintro e w8 ⟨rfl, hB8⟩
              have hB08 := below_step hB07.out hB8
              replace hB08 := Lib.hid hB08
              clear hB8 hch7 i0 i1
              go_wp2_with fail
              refine (haw.out _).mono ?_
              rintro e w9 ⟨rfl, hB9⟩
              go_wp2
              go_ret
              exact ⟨ret_bool (by simp), below_step (below_step hB0.out hB08.out) hB9⟩
    · have hrt2 := hrt.out w2
      rw [show right (bl a) = false by simpa using hr] at hrt2
      replace hr := Lib.hid hr
      replace hrt2 := Lib.hid hrt2
      go_wp2_with fail
      (with_reducible refine (hrt2.out).mono ?_)
      rintro e w3 ⟨rfl, hB3⟩
      have hB03 := below_step hB2.out hB3
      replace hB03 := Lib.hid hB03
      clear hB3 hrt2 d0
      go_wp2_with fail
      refine (haw.out _).mono ?_
      rintro e w9 ⟨rfl, hB9⟩
      go_wp2
      go_ret
      exact ⟨rfl, below_step (below_step hB0.out hB03.out) hB9⟩
  · rw [small_not hs1] at hsm
    replace hs1 := Lib.hid hs1
    replace hsm := Lib.hid hsm
    replace hv := Lib.hid hv
    replace hv0 := Lib.hid hv0
    replace hB0 := Lib.hid hB0
    replace hblk := Lib.hid hblk
    replace hlt0 := Lib.hid hlt0
    go_enter Try.func4, Try.ntmps4
    go_wp2_with fail
    (with_reducible refine (hsm.out).mono ?_)
    rintro e w1 ⟨rfl, rfl⟩
    go_wp2_with fail
    refine (haw.out _).mono ?_
    rintro e w1 ⟨rfl, hB1⟩
    go_wp2
    go_ret
    exact ⟨rfl, below_step hB0.out hB1⟩

end Go.Proofs.Ytemdinjiplglgaa
