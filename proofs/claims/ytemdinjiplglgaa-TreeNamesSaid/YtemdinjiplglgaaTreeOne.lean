/-
  remoralaw17.TreeNames: one file of several names, in the program.
-/
import Derived.Test.YtemdinjiplglgaaB4
namespace Go.Proofs.Ytemdinjiplglgaa
open Go.RowKit

theorem names_pos {T : Fs} (hI : T.Inv) {p : Bytes} {i : Nat} (hr : right p = true) (hm : (split p, i) ∈ T.names) (hk : (T.nd i).kind = 1) : 0 < (T.nameList p).length := by
  have h1 := names_len hI hr hm hk
  rw [hI.links _ _ hm] at h1
  have h2 : 0 < namesOf T.names i := by
    unfold namesOf
    exact List.length_pos_of_mem (List.mem_filter.2 ⟨hm, by simp⟩)
  omega

theorem not_first {N : List Bytes} {n0 : Bytes} (h : N.Nodup) (h0 : ∀ hk, N[0]'hk = n0) {k : Nat} (hk : k < N.length) (h1 : 1 ≤ k) : N[k] ≠ n0 := fun e => by
  have h2 := h0 (by omega)
  exact (List.pairwise_iff_getElem.1 h 0 k (by omega) hk (by omega)) (by rw [e, h2])

set_option maxHeartbeats 8000000 in
set_option maxRecDepth 100000 in
theorem treeNames_walk (v : Value) (l : List Act17) (p : ByteArray) (a : Act17) (dv : Value) (w : World) (hv : Acts w v l) (_ : p.size ≤ 140737488351232) (hd : RdB w dv a.data) :
    Calls Try.prog 6 #[v, .string p, actV a dv] w fun e w' => e = .returned (.bool true) ∧ Below w.heap.size w w' := by
  obtain ⟨d, pa, t, b, m⟩ := a
  obtain ⟨m1, m2, m3, m4, m5⟩ := m
  dsimp only at hd
  have haw := fun W => awake17_calls W
  have hB0 : Below w.heap.size w (w.alloc (.cells #[.int .i64 d, .string (mkS pa), .string (mkS t), dv, .int .i64 m1, .int .i64 m2, .int .i64 m3, .int .i64 m4, .int .i64 m5] 27)) := (Below.refl _ _).alloc (Nat.le_refl _) _
  have hv0 := hv.below hB0
  have hd0 := hd.below hB0
  have hsm := small_calls v l _ hv0
  have hone := acts_one _ ⟨d, pa, t, b, ⟨m1, m2, m3, m4, m5⟩⟩ dv #[.int .i64 d, .string (mkS pa), .string (mkS t), dv, .int .i64 m1, .int .i64 m2, .int .i64 m3, .int .i64 m4, .int .i64 m5] rfl hd0
  have hblk := (MapKept.heap_alloc w (.cells #[.int .i64 d, .string (mkS pa), .string (mkS t), dv, .int .i64 m1, .int .i64 m2, .int .i64 m3, .int .i64 m4, .int .i64 m5] 27)).1
  obtain ⟨vA, vc, rfl, _, _⟩ := id hv
  have hval : actV ⟨d, pa, t, b, ⟨m1, m2, m3, m4, m5⟩⟩ dv = (.agg #[.int .i64 d, .string (mkS pa), .string (mkS t), dv, .int .i64 m1, .int .i64 m2, .int .i64 m3, .int .i64 m4, .int .i64 m5]) := rfl
  rw [hval]
  clear hval
  have hsm2 := small_calls _ [⟨d, pa, t, b, ⟨m1, m2, m3, m4, m5⟩⟩] _ hone
  rw [show (w.alloc (.cells #[.int .i64 d, .string (mkS pa), .string (mkS t), dv, .int .i64 m1, .int .i64 m2, .int .i64 m3, .int .i64 m4, .int .i64 m5] 27)).heap.size = w.heap.size + 1 by simp] at hsm2
  replace haw := Lib.hid haw
  by_cases hc : small l = true ∧ p.size ≤ 600 ∧ small [⟨d, pa, t, b, ⟨m1, m2, m3, m4, m5⟩⟩] = true
  · obtain ⟨hs1, hps, hs2⟩ := hc
    rw [hs1] at hsm
    rw [hs2] at hsm2
    obtain ⟨h1, h2, h3⟩ := (small_at hs2).2 _ (List.mem_singleton_self _)
    dsimp only at h1 h2 h3
    have hl40 := (small_at hs1).1
    have hB1 : Below w.heap.size w ((w.alloc (.cells #[.int .i64 d, .string (mkS pa), .string (mkS t), dv, .int .i64 m1, .int .i64 m2, .int .i64 m3, .int .i64 m4, .int .i64 m5] 27)).alloc (.cells #[.int .i64 d, .string (mkS pa), .string (mkS t), dv, .int .i64 m1, .int .i64 m2, .int .i64 m3, .int .i64 m4, .int .i64 m5] 27)) := below_alloc hB0 _
    have hbl := build_calls _ l _ (hv.below hB1) hs1
    have hdl := dl_build hs1
    have hgr := acts_grow Fs.start l
    have hfew : (Fs.build l).names.length ≤ 1000 := by
      have : (Fs.build l).names.length ≤ Fs.start.names.length + l.length := hgr.1
      have h9 : Fs.start.names.length = 1 := rfl
      omega
    generalize Fs.build l = T at *
    have hblkZ : ((w.alloc (.cells #[.int .i64 d, .string (mkS pa), .string (mkS t), dv, .int .i64 m1, .int .i64 m2, .int .i64 m3, .int .i64 m4, .int .i64 m5] 27)).alloc (.cells #[.int .i64 d, .string (mkS pa), .string (mkS t), dv, .int .i64 m1, .int .i64 m2, .int .i64 m3, .int .i64 m4, .int .i64 m5] 27)).heap[w.heap.size]? = some (.cells #[.int .i64 d, .string (mkS pa), .string (mkS t), dv, .int .i64 m1, .int .i64 m2, .int .i64 m3, .int .i64 m4, .int .i64 m5] 27 (0, 0)) := (two_blocks w _ _).1
    have hltZ : w.heap.size < ((w.alloc (.cells #[.int .i64 d, .string (mkS pa), .string (mkS t), dv, .int .i64 m1, .int .i64 m2, .int .i64 m3, .int .i64 m4, .int .i64 m5] 27)).alloc (.cells #[.int .i64 d, .string (mkS pa), .string (mkS t), dv, .int .i64 m1, .int .i64 m2, .int .i64 m3, .int .i64 m4, .int .i64 m5] 27)).heap.size := by simp; omega
    have hdZ := hd.below hB1
    have hnm := fun tb A M W (hR : Rep W tb A M T) => namesof_calls tb A M T p W hR (by omega) (by omega)
    have hstp := fun tb A M W (hR : Rep W tb A M T) => stat_calls tb A M T p W hR (by omega)
    have hsk := fun hI => @stat_kind T hI (bl p)
    have hof := fun hI n0 hk hn => @one_file T hI (bl p) b ⟨m1, m2, m3, m4, m5⟩ n0 hk hdl (by omega) hn
    have happ := fun tb A M W (hR : Rep W tb A M T) hv => append_calls tb A M T p dv b W hR (by omega) hv (by omega)
    have hstat := fun tb A M T W (s : ByteArray) (hs : s.size ≤ 16777216) (hR : Rep W tb A M T) => stat_calls tb A M T s W hR hs
    have hread := fun tb A M T W (s : ByteArray) (hs : s.size ≤ 16777216) (hR : Rep W tb A M T) => read_calls tb A M T s W hR hs
    have hset := fun tb A M T W (s : ByteArray) (hs : s.size ≤ 16777216) (hR : Rep W tb A M T) => set_calls tb A M T s ⟨m1, m2, m3, m4, m5⟩ W hR hs
    have hrem := fun tb A M T W (s : ByteArray) (hs : s.size ≤ 16777216) (hf : T.names.length ≤ 1000000) (hR : Rep W tb A M T) => remove_calls tb A M T s W hR hs hf
    have hnp : T.Inv → (T.stat (bl p)).1.kind = 1 → 0 < (T.nameList (bl p)).length := fun hI hk => by
      obtain ⟨g1, i, g2, g3, _⟩ := @stat_kind T hI (bl p) hk
      exact names_pos hI g1 g2 g3
    have hnodup : T.Inv → (T.stat (bl p)).1.kind = 1 → (T.nameList (bl p)).Nodup := fun hI hk => by
      obtain ⟨g1, i, g2, g3, _⟩ := @stat_kind T hI (bl p) hk
      exact names_nodup hI g1 g2 g3
    generalize hN : T.nameList (bl p) = N at *
    generalize T.stat (bl p) = st at *
    obtain ⟨⟨a1, a2, a3, a4, ⟨a5, a6, a7, a8, a9⟩, a10⟩, ea⟩ := st
    unfold statV statCells mtV mtCells ptr at *
    dsimp only at *
    have hz1 : decide (600 < (p.size : Int)) = false := by simp; omega
    obtain ⟨ZZ, hZ⟩ : ∃ x, x = ((w.alloc (.cells #[.int .i64 d, .string (mkS pa), .string (mkS t), dv, .int .i64 m1, .int .i64 m2, .int .i64 m3, .int .i64 m4, .int .i64 m5] 27)).alloc (.cells #[.int .i64 d, .string (mkS pa), .string (mkS t), dv, .int .i64 m1, .int .i64 m2, .int .i64 m3, .int .i64 m4, .int .i64 m5] 27)) := ⟨_, rfl⟩
    rw [← hZ] at hB1 hbl hblkZ hltZ hdZ
    have c0 := cell_of (j := 0) hblk rfl
    have c1 := cell_of (j := 1) hblk rfl
    have c2 := cell_of (j := 2) hblk rfl
    have c3 := cell_of (j := 3) hblk rfl
    have c4 := cell_of (j := 4) hblk rfl
    have c5 := cell_of (j := 5) hblk rfl
    have c6 := cell_of (j := 6) hblk rfl
    have c7 := cell_of (j := 7) hblk rfl
    have c8 := cell_of (j := 8) hblk rfl
    replace hsm := Lib.hid hsm
    replace hsm2 := Lib.hid hsm2
    replace hbl := Lib.hid hbl
    replace hdl := Lib.hid hdl
    replace hnm := Lib.hid hnm
    replace hstp := Lib.hid hstp
    replace hsk := Lib.hid hsk
    replace hof := Lib.hid hof
    replace happ := Lib.hid happ
    replace hstat := Lib.hid hstat
    replace hread := Lib.hid hread
    replace hset := Lib.hid hset
    replace hrem := Lib.hid hrem
    replace hnp := Lib.hid hnp
    replace hnodup := Lib.hid hnodup
    replace hv := Lib.hid hv
    replace hv0 := Lib.hid hv0
    replace hd := Lib.hid hd
    replace hd0 := Lib.hid hd0
    replace hone := Lib.hid hone
    replace hB0 := Lib.hid hB0
    replace hB1 := Lib.hid hB1
    replace hblk := Lib.hid hblk
    replace hblkZ := Lib.hid hblkZ
    replace hdZ := Lib.hid hdZ
    replace hs1 := Lib.hid hs1
    replace hs2 := Lib.hid hs2
    replace hN := Lib.hid hN
    replace hZ := Lib.hid hZ
    clear hgr
    go_enter Try.func6, Try.ntmps6
    go_wp2_with fail
    refine hsm.out.mono ?_
    rintro e w1 ⟨rfl, rfl⟩
    go_wp2_with fail
    (with_reducible refine hsm2.out.mono ?_)
    rintro e w1 ⟨rfl, rfl⟩
    clear c0 c1 c2 c3 c4 c5 c6 c7 c8 hz1
    rw [← hZ.out]
    go_wp2_with fail
    (with_reducible refine hbl.out.mono ?_)
    rintro e w2 ⟨tc, C, M, rfl, hR2, hO2, hB2⟩
    have hnm2 := hnm.out tc C M w2 hR2
    have hI := hR2.inv
    replace hnm2 := Lib.hid hnm2
    replace hR2 := Lib.hid hR2
    replace hO2 := Lib.hid hO2
    replace hB2 := Lib.hid hB2
    replace hI := Lib.hid hI
    go_wp2_with fail
    (with_reducible refine hnm2.out.mono ?_)
    rintro e w3 ⟨⟨nv, rfl, hS3⟩, hB3⟩
    have hR3 := hR2.out.below hB3
    have hB03 := below_step hB2.out hB3
    have hst3 := hstp.out tc C M w3 hR3
    obtain ⟨nA, nc, rfl, hn1, hn2⟩ := own_shape hS3
    unfold maxLen at hn2
    replace hR3 := Lib.hid hR3
    replace hB03 := Lib.hid hB03
    replace hst3 := Lib.hid hst3
    replace hS3 := Lib.hid hS3
    clear hB3 hnm2
    go_wp2_with fail
    (with_reducible refine hst3.out.mono ?_)
    rintro e w4 ⟨rfl, hB4⟩
    have hB04 := below_alloc (below_step hB03.out hB4) (.cells #[.int .i64 a1, .int .i64 a2, .int .i64 a3, .int .i64 a4, .int .i64 a5, .int .i64 a6, .int .i64 a7, .int .i64 a8, .int .i64 a9, .string (mkS a10)] 38)
    have hB34 := below_alloc hB4 (.cells #[.int .i64 a1, .int .i64 a2, .int .i64 a3, .int .i64 a4, .int .i64 a5, .int .i64 a6, .int .i64 a7, .int .i64 a8, .int .i64 a9, .string (mkS a10)] 38)
    replace hB04 := Lib.hid hB04
    replace hB34 := Lib.hid hB34
    clear hB4 hst3
    by_cases hk1 : a1 = 1
    · subst hk1
      have hNp := hnp.out hI.out rfl
      obtain ⟨g, gc, X, e9, hg1, hg2, hg3, hX3, hXc⟩ := row_block hS3.out hNp
      simp only [Value.slice.injEq] at e9
      obtain ⟨rfl, _, rfl⟩ := e9
      have hX4 := (hB34.out.block g (Array.getElem?_eq_some_iff.1 hX3).1).trans hX3
      obtain ⟨n0, N', hNN⟩ : ∃ n0 N', N = n0 :: N' := by
        cases N with
        | nil => simp at hNp
        | cons n0 N' => exact ⟨_, _, rfl⟩
      have hn0 : n0 ∈ N := by rw [hNN]; exact List.mem_cons_self ..
      have hnd := hnodup.out hI.out rfl
      have hat0 : ∀ hk, N[0]'hk = n0 := fun hk => by subst hNN; rfl
      obtain ⟨hput, hone⟩ := hof.out hI.out n0 rfl hn0
      have happ4 := happ.out tc C M _ (hR3.out.below hB34.out) (hdZ.out.below hB04.out)
      generalize T.append (bl p) b = app at *
      obtain ⟨T1, e1⟩ := app
      dsimp only at hput hone happ4
      subst hput
      have hR4 := hR3.out.below hB34.out
      have hNz : ¬ N.length = 0 := by omega
      have hNz2 : (N.length == 0) = false := by simpa using hNz
      have hact4 : (w4.alloc (.cells #[.int .i64 1, .int .i64 a2, .int .i64 a3, .int .i64 a4, .int .i64 a5, .int .i64 a6, .int .i64 a7, .int .i64 a8, .int .i64 a9, .string (mkS a10)] 38)).heap[w.heap.size]? = some (.cells #[.int .i64 d, .string (mkS pa), .string (mkS t), dv, .int .i64 m1, .int .i64 m2, .int .i64 m3, .int .i64 m4, .int .i64 m5] 27 (0, 0)) := (hB04.out.block _ hltZ).trans hblkZ.out
      have f3 := cell_of (j := 3) hact4 rfl
      replace happ4 := Lib.hid happ4
      replace hR4 := Lib.hid hR4
      replace hX4 := Lib.hid hX4
      replace hXc := Lib.hid hXc
      replace hone := Lib.hid hone
      replace hat0 := Lib.hid hat0
      replace hNN := Lib.hid hNN
      replace hn0 := Lib.hid hn0
      replace hact4 := Lib.hid hact4
      replace hNz := Lib.hid hNz
      replace hnd := Lib.hid hnd
      go_wp2_with fail
      (with_reducible refine happ4.out.mono ?_)
      rintro e w5 ⟨rfl, hst5⟩
      obtain ⟨hB05, A5, M5, hR5, hO5⟩ := Stp.mine hB04.out hO2.out hst5
      have hX5 := hst5.cells hR4.out hX4.out (by decide) (by decide)
      have hact5 := (hB05.block _ hltZ).trans hblkZ.out
      have hcs5 := hXc.out w5 hX5 0 hNp
      rw [hat0.out] at hcs5
      have hnl0 := hone.out.short n0 (by rw [hN.out]; exact hn0.out)
      have hset5 := hset.out tc A5 M5 T1 w5.drew (mkS n0) (by rw [mkS_size]; omega) (hR5.drewN 1)
      rw [bl_mkS] at hset5
      replace hone := hone.out
      have hfw2 := hone.few
      have hall := hone.all
      have hsetm := hone.set
      have hdat := hone.data
      have hout := hone.out
      have hrest := hone.rest
      have hnone := hone.none
      have hshort := hone.short
      rw [hN.out] at hall hrest hshort
      clear hone
      generalize T1.setM n0 ⟨m1, m2, m3, m4, m5⟩ = sm at *
      obtain ⟨T2, f⟩ := sm
      dsimp only at *
      have g0 := cell_of (j := 0) hact5 rfl
      have g1 := cell_of (j := 1) hact5 rfl
      have g2 := cell_of (j := 2) hact5 rfl
      have g3 := cell_of (j := 3) hact5 rfl
      have g4 := cell_of (j := 4) hact5 rfl
      have g5 := cell_of (j := 5) hact5 rfl
      have g6 := cell_of (j := 6) hact5 rfl
      have g7 := cell_of (j := 7) hact5 rfl
      have g8 := cell_of (j := 8) hact5 rfl
      replace hB05 := Lib.hid hB05
      replace hR5 := Lib.hid hR5
      replace hO5 := Lib.hid hO5
      replace hX5 := Lib.hid hX5
      replace hact5 := Lib.hid hact5
      replace hset5 := Lib.hid hset5
      replace hfw2 := Lib.hid hfw2
      replace hall := Lib.hid hall
      replace hsetm := Lib.hid hsetm
      replace hdat := Lib.hid hdat
      replace hout := Lib.hid hout
      replace hrest := Lib.hid hrest
      replace hnone := Lib.hid hnone
      replace hshort := Lib.hid hshort
      clear hst5 f3 happ4
      go_upto_region 11 with fail
      refine wp_region_still_tail 6 (by kernel_rfl) (by kernel_rfl) ?_
      simp only [List.take_succ_cons, List.take_zero, List.drop_succ_cons, List.drop_zero]
      iterate 6 still_step
      refine wpStill_nil ?_
      change wpList _ _ _ _ _ w5.drew
      go_wp2_with fail
      (with_reducible refine hset5.out.mono ?_)
      rintro e w6 ⟨rfl, hst6⟩
      have hB05d : Below ZZ.heap.size ZZ w5.drew := below_drewN hB05.out 1
      obtain ⟨hB06, A6, M6, hR6, hO6⟩ := Stp.mine hB05d hO5.out hst6
      have hX6 := hst6.cells (hR5.out.drewN 1) (g := g) hX5.out (by decide) (by decide)
      have hrd6 := hread.out tc A6 M6 T2 w6 p (by omega) hR6
      clear hst6 hset5 hB05d
      clear g0 g1 g2 g3 g4 g5 g6 g7 g8 hcs5
      generalize T2.read (bl p) = rp at *
      obtain ⟨D, erd⟩ := rp
      replace hB06 := Lib.hid hB06
      replace hR6 := Lib.hid hR6
      replace hO6 := Lib.hid hO6
      replace hX6 := Lib.hid hX6
      replace hrd6 := Lib.hid hrd6
      go_wp2_with fail
      (with_reducible refine hrd6.out.mono ?_)
      rintro e w7 ⟨⟨bv, rfl, hb7⟩, hB7⟩
      have hB07 := below_step hB06.out hB7
      have hR7 := hR6.out.below hB7
      have hX7 := (hB7.block g (Array.getElem?_eq_some_iff.1 hX6.out).1).trans hX6.out
      have hst7 := hstat.out tc A6 M6 T2 w7 p (by omega) hR7
      obtain ⟨bA, bc, rfl, hbc1, hbc2⟩ := own_shape hb7.own
      generalize T2.stat (bl p) = s at *
      obtain ⟨⟨s1, s2, s3, s4, ⟨s5, s6, s7, s8, s9⟩, s10⟩, es⟩ := s
      dsimp only at *
      replace hB07 := Lib.hid hB07
      replace hR7 := Lib.hid hR7
      replace hX7 := Lib.hid hX7
      replace hst7 := Lib.hid hst7
      replace hb7 := Lib.hid hb7
      clear hrd6 hB7
      go_wp2_with fail
      (with_reducible refine hst7.out.mono ?_)
      rintro e w8 ⟨rfl, hB8⟩
      have hB08 := below_step hB07.out hB8
      have hB78 := below_alloc hB8 (.cells #[.int .i64 s1, .int .i64 s2, .int .i64 s3, .int .i64 s4, .int .i64 s5, .int .i64 s6, .int .i64 s7, .int .i64 s8, .int .i64 s9, .string (mkS s10)] 38)
      have hB08a := below_alloc hB08 (.cells #[.int .i64 s1, .int .i64 s2, .int .i64 s3, .int .i64 s4, .int .i64 s5, .int .i64 s6, .int .i64 s7, .int .i64 s8, .int .i64 s9, .string (mkS s10)] 38)
      have hx8 := (MapKept.heap_alloc w8 (.cells #[.int .i64 s1, .int .i64 s2, .int .i64 s3, .int .i64 s4, .int .i64 s5, .int .i64 s6, .int .i64 s7, .int .i64 s8, .int .i64 s9, .string (mkS s10)] 38)).1
      have hb8 : Dat (w8.alloc (.cells #[.int .i64 s1, .int .i64 s2, .int .i64 s3, .int .i64 s4, .int .i64 s5, .int .i64 s6, .int .i64 s7, .int .i64 s8, .int .i64 s9, .string (mkS s10)] 38)) (.slice bA D.length bc) D := (hb7.out.dat).below hB78
      have hR8 := hR7.out.below hB78
      have hX8 := (hB78.block g (Array.getElem?_eq_some_iff.1 hX7.out).1).trans hX7.out
      replace hB08 := Lib.hid hB08
      replace hB08a := Lib.hid hB08a
      replace hx8 := Lib.hid hx8
      replace hb8 := Lib.hid hb8
      replace hR8 := Lib.hid hR8
      replace hX8 := Lib.hid hX8
      replace hB78 := Lib.hid hB78
      clear hst7 hB8
      go_upto_region 14 with fail
      obtain ⟨cp, hD⟩ := hdat.out
      have hDl : b.length ≤ D.length := by rw [hD]; simp
      have hact8 := (hB08a.out.block _ hltZ).trans hblkZ.out
      have hd8 := hdZ.out.below hB08a.out
      obtain ⟨dA, dc, rfl, hdc1, hdc2, hdc3⟩ := id hd8
      have hlt1 : decide (D.length < b.length) = false := by simp; omega
      have hwr : IntKind.i64.wrap ((D.length : Int) - (b.length : Int)) = ((D.length - b.length : Nat) : Int) := by rw [IntWalk.i64_in _ (by unfold maxLen at hbc2; omega)]; omega
      obtain ⟨x8i, hx8i⟩ : ∃ i, i = w8.heap.size := ⟨_, rfl⟩
      rw [← hx8i] at hx8
      have hZx8 : ZZ.heap.size ≤ x8i := by rw [hx8i]; exact hB08.out.size
      replace hZx8 := Lib.hid hZx8
      generalize (w8.alloc (.cells #[.int .i64 s1, .int .i64 s2, .int .i64 s3, .int .i64 s4, .int .i64 s5, .int .i64 s6, .int .i64 s7, .int .i64 s8, .int .i64 s9, .string (mkS s10)] 38)) = W8 at *
      rw [← hx8i]
      replace hx8i := Lib.hid hx8i
      have c0 := fun n : Nat => cell_of (w := (W8).drewN n) (j := 0) hact8 rfl
      have c1 := fun n : Nat => cell_of (w := (W8).drewN n) (j := 1) hact8 rfl
      have c2 := fun n : Nat => cell_of (w := (W8).drewN n) (j := 2) hact8 rfl
      have c3 := fun n : Nat => cell_of (w := (W8).drewN n) (j := 3) hact8 rfl
      have c4 := fun n : Nat => cell_of (w := (W8).drewN n) (j := 4) hact8 rfl
      have c5 := fun n : Nat => cell_of (w := (W8).drewN n) (j := 5) hact8 rfl
      have c6 := fun n : Nat => cell_of (w := (W8).drewN n) (j := 6) hact8 rfl
      have c7 := fun n : Nat => cell_of (w := (W8).drewN n) (j := 7) hact8 rfl
      have c8 := fun n : Nat => cell_of (w := (W8).drewN n) (j := 8) hact8 rfl
      have x0 := fun n : Nat => cell_of (w := (W8).drewN n) (j := 0) hx8.out rfl
      have x1 := fun n : Nat => cell_of (w := (W8).drewN n) (j := 1) hx8.out rfl
      have x2 := fun n : Nat => cell_of (w := (W8).drewN n) (j := 2) hx8.out rfl
      have x3 := fun n : Nat => cell_of (w := (W8).drewN n) (j := 3) hx8.out rfl
      have x4 := fun n : Nat => cell_of (w := (W8).drewN n) (j := 4) hx8.out rfl
      have x5 := fun n : Nat => cell_of (w := (W8).drewN n) (j := 5) hx8.out rfl
      have x6 := fun n : Nat => cell_of (w := (W8).drewN n) (j := 6) hx8.out rfl
      have x7 := fun n : Nat => cell_of (w := (W8).drewN n) (j := 7) hx8.out rfl
      have x8 := fun n : Nat => cell_of (w := (W8).drewN n) (j := 8) hx8.out rfl
      have x9 := fun n : Nat => cell_of (w := (W8).drewN n) (j := 9) hx8.out rfl
      have hcv := fun n : Nat => ((hb8.out.below (below_drewN (Below.refl _ _) n)).tail hD).string
      have hds := fun n : Nat => (hd8.below (below_drewN (Below.refl _ _) n)).string
      replace hD := Lib.hid hD
      go_cut [125] (fun c W => c = .bool false ∧ Below W8.heap.size W8 W)
      case first =>
        replace hd8 := Lib.hid hd8
        replace hact8 := Lib.hid hact8
        by_cases hf : f = 0
        · have hmm := hsetm.out hf
          simp only [Mt.mk.injEq] at hmm
          obtain ⟨e5, e6, e7, e8, e9⟩ := hmm
          clear c4 c5 c6 c7 c8
          have c4 : ∀ n, (W8.drewN n).cell? ⟨w.heap.size, 4, none⟩ = some (.int .i64 s5) := fun n => by rw [e5]; exact cell_of (j := 4) hact8.out rfl
          have c5 : ∀ n, (W8.drewN n).cell? ⟨w.heap.size, 5, none⟩ = some (.int .i64 s6) := fun n => by rw [e6]; exact cell_of (j := 5) hact8.out rfl
          have c6 : ∀ n, (W8.drewN n).cell? ⟨w.heap.size, 6, none⟩ = some (.int .i64 s7) := fun n => by rw [e7]; exact cell_of (j := 6) hact8.out rfl
          have c7 : ∀ n, (W8.drewN n).cell? ⟨w.heap.size, 7, none⟩ = some (.int .i64 s8) := fun n => by rw [e8]; exact cell_of (j := 7) hact8.out rfl
          have c8 : ∀ n, (W8.drewN n).cell? ⟨w.heap.size, 8, none⟩ = some (.int .i64 s9) := fun n => by rw [e9]; exact cell_of (j := 8) hact8.out rfl
          clear e5 e6 e7 e8 e9
          have hf1 : (f == 0) = true := by simpa using hf
          replace hf := Lib.hid hf
          replace hcv := Lib.hid hcv
          by_cases hbe : bc = D.length - b.length
          · have hcv := hcv.out
            simp only [if_pos hbe] at hcv
            have hif : (bc = D.length - b.length) = True := eq_true hbe
            replace hbe := Lib.hid hbe
            refine wp_region_quiet_lit (by kernel_rfl) (by kernel_rfl) ?_
            repeat (go_big_quiet_step (fail))
            refine wpQuiet_nil ?_
            rintro _ ⟨nq, rfl⟩
            clear hcv hif
            go_wp2_with fail
            go_meet
            exact ⟨rfl, below_drewN (Below.refl _ _) nq⟩
          · have hcv := hcv.out
            simp only [if_neg hbe] at hcv
            refine wp_region_quiet_lit (by kernel_rfl) (by kernel_rfl) ?_
            repeat (go_big_quiet_step (fail))
            refine wpQuiet_nil ?_
            rintro _ ⟨nq, rfl⟩
            clear hcv
            go_wp2_with fail
            go_meet
            exact ⟨rfl, below_drewN (Below.refl _ _) nq⟩
        · have hf1 : (f == 0) = false := by simpa using hf
          replace hf := Lib.hid hf
          replace hcv := Lib.hid hcv
          by_cases hbe : bc = D.length - b.length
          · have hcv := hcv.out
            simp only [if_pos hbe] at hcv
            have hif : (bc = D.length - b.length) = True := eq_true hbe
            replace hbe := Lib.hid hbe
            refine wp_region_quiet_lit (by kernel_rfl) (by kernel_rfl) ?_
            repeat (go_big_quiet_step (fail))
            refine wpQuiet_nil ?_
            rintro _ ⟨nq, rfl⟩
            clear hcv hif
            go_wp2_with fail
            go_meet
            exact ⟨rfl, below_drewN (Below.refl _ _) nq⟩
          · have hcv := hcv.out
            simp only [if_neg hbe] at hcv
            refine wp_region_quiet_lit (by kernel_rfl) (by kernel_rfl) ?_
            repeat (go_big_quiet_step (fail))
            refine wpQuiet_nil ?_
            rintro _ ⟨nq, rfl⟩
            clear hcv
            go_wp2_with fail
            go_meet
            exact ⟨rfl, below_drewN (Below.refl _ _) nq⟩
      case rest =>
        obtain ⟨rfl, hBc⟩ := hcut
        have hR9 := hR8.out.below hBc
        have hX9 := (hBc.block g (Array.getElem?_eq_some_iff.1 hX8.out).1).trans hX8.out
        have hx9 := (hBc.block x8i (Array.getElem?_eq_some_iff.1 hx8.out).1).trans hx8.out
        have hb9 := hb8.out.below hBc
        have hB09 := below_step hB08a.out hBc
        replace hR9 := Lib.hid hR9
        replace hX9 := Lib.hid hX9
        replace hx9 := Lib.hid hx9
        replace hb9 := Lib.hid hb9
        replace hB09 := Lib.hid hB09
        clear hR8 hX8 hx8 hb8 hBc hB08a c0 c1 c2 c3 c4 c5 c6 c7 c8 x0 x1 x2 x3 x4 x5 x6 x7 x8 x9 hds hcv hact8 hd8
        go_wp2_with fail
        go_loopw [17] (fun i wr => ∃ k : Nat, i = .int .i64 k ∧ k ≤ N.length ∧ Below wc.heap.size wc wr) (fun i _ => N.length - (intOf i).toNat)
        case atStart => exact ⟨0, rfl, Nat.zero_le _, Below.refl _ _⟩
        case round =>
          obtain ⟨k, rfl, hk, hB⟩ := hrel
          by_cases hlt : k < N.length
          · have hRr := hR9.out.below hB
            have hXr := (hB.block g (Array.getElem?_eq_some_iff.1 hX9.out).1).trans hX9.out
            have hck := hXc.out wr hXr k hlt
            have hmem : N[k] ∈ N := List.getElem_mem hlt
            obtain ⟨ha1, ha2⟩ := hall.out N[k] hmem
            have hsl := hshort.out N[k] hmem
            obtain ⟨n, hkn⟩ : ∃ n, n = N[k] := ⟨_, rfl⟩
            rw [← hkn] at hck hmem ha1 ha2 hsl
            replace hkn := Lib.hid hkn
            have hsz := mkS_size n
            have hrd := hread.out tc A6 M6 T2 wr (mkS n) (by omega) hRr
            rw [bl_mkS, ha1] at hrd
            replace hRr := Lib.hid hRr
            replace hXr := Lib.hid hXr
            replace hmem := Lib.hid hmem
            replace ha1 := Lib.hid ha1
            replace ha2 := Lib.hid ha2
            replace hB := Lib.hid hB
            replace hrd := Lib.hid hrd
            go_wp2_with fail
            (with_reducible refine (hrd.out).mono ?_)
            rintro e w10 ⟨⟨cv, rfl, hc10⟩, hB10⟩
            obtain ⟨cA, cc, rfl, _, _⟩ := own_shape hc10.own
            have hst := hstat.out tc A6 M6 T2 w10 (mkS n) (by omega) (hRr.out.below hB10)
            rw [bl_mkS, ha2.out] at hst
            have hB010 := below_step hB.out hB10
            have hck10 := hXc.out w10 ((hB10.block g (Array.getElem?_eq_some_iff.1 hXr.out).1).trans hXr.out) k hlt
            rw [← hkn.out] at hck10
            replace hst := Lib.hid hst
            replace hc10 := Lib.hid hc10
            replace hB010 := Lib.hid hB010
            clear hB10 hrd hck
            go_wp2_with fail
            (with_reducible refine (hst.out).mono ?_)
            rintro e w11 ⟨rfl, hB11⟩
            have hB011 := below_step hB010.out hB11
            have hB011a := below_alloc hB011 (.cells #[.int .i64 s1, .int .i64 s2, .int .i64 s3, .int .i64 s4, .int .i64 s5, .int .i64 s6, .int .i64 s7, .int .i64 s8, .int .i64 s9, .string (mkS s10)] 38)
            have hBwa := hB011a
            have hB11a := (Below.refl w11.heap.size w11).alloc (Nat.le_refl _) (.cells #[.int .i64 s1, .int .i64 s2, .int .i64 s3, .int .i64 s4, .int .i64 s5, .int .i64 s6, .int .i64 s7, .int .i64 s8, .int .i64 s9, .string (mkS s10)] 38)
            have hm1 := Byts.string (own_below (own_below hc10.out hB11) hB11a)
            have hm2 := (hb9.out.below hBwa).rdb.string
            have hn11 := (MapKept.heap_alloc w11 (.cells #[.int .i64 s1, .int .i64 s2, .int .i64 s3, .int .i64 s4, .int .i64 s5, .int .i64 s6, .int .i64 s7, .int .i64 s8, .int .i64 s9, .string (mkS s10)] 38)).1
            have hx11 := (hBwa.block x8i (Array.getElem?_eq_some_iff.1 hx9.out).1).trans hx9.out
            obtain ⟨n11, hn11e⟩ : ∃ i, i = w11.heap.size := ⟨_, rfl⟩
            have g0 := cell_of (j := 0) hn11 rfl
            have g1 := cell_of (j := 1) hn11 rfl
            have g2 := cell_of (j := 2) hn11 rfl
            have g3 := cell_of (j := 3) hn11 rfl
            have g4 := cell_of (j := 4) hn11 rfl
            have g5 := cell_of (j := 5) hn11 rfl
            have g6 := cell_of (j := 6) hn11 rfl
            have g7 := cell_of (j := 7) hn11 rfl
            have g8 := cell_of (j := 8) hn11 rfl
            have g9 := cell_of (j := 9) hn11 rfl
            have h0 := cell_of (j := 0) hx11 rfl
            have h1 := cell_of (j := 1) hx11 rfl
            have h2 := cell_of (j := 2) hx11 rfl
            have h3 := cell_of (j := 3) hx11 rfl
            have h4 := cell_of (j := 4) hx11 rfl
            have h5 := cell_of (j := 5) hx11 rfl
            have h6 := cell_of (j := 6) hx11 rfl
            have h7 := cell_of (j := 7) hx11 rfl
            have h8 := cell_of (j := 8) hx11 rfl
            have h9 := cell_of (j := 9) hx11 rfl
            replace hn11 := Lib.hid hn11
            replace hx11 := Lib.hid hx11
            replace hB011 := Lib.hid hB011
            replace hB011a := Lib.hid hB011a
            replace hBwa := Lib.hid hBwa
            replace hB11a := Lib.hid hB11a
            replace hn11e := Lib.hid hn11e
            clear hB11 hck10 hst
            go_wp2
            go_roundw
            case rel => exact ⟨k + 1, by go_num, by omega, hBwa.out⟩
            case measure => simp [intOf]; omega
          · obtain rfl : k = N.length := by omega
            have hRr := hR9.out.below hB
            have hXr := (hB.block g (Array.getElem?_eq_some_iff.1 hX9.out).1).trans hX9.out
            have hxr := (hB.block x8i (Array.getElem?_eq_some_iff.1 hx9.out).1).trans hx9.out
            have hbr := hb9.out.below hB
            have hB0r := below_step hB09.out hB
            have hck := hXc.out wr hXr 0 hNp
            rw [hat0.out] at hck
            have hrm := hrem.out tc A6 M6 T2 wr (mkS n0) (by rw [mkS_size]; omega) (by rw [hfw2.out]; omega) hRr
            rw [bl_mkS] at hrm
            generalize T2.remove n0 = rm at *
            obtain ⟨T3, er⟩ := rm
            dsimp only at hrm
            have her := hout.out
            dsimp only at her
            subst her
            replace hrest := hrest.out
            replace hnone := hnone.out
            dsimp only at hrest hnone
            replace hrest := Lib.hid hrest
            replace hnone := Lib.hid hnone
            replace hRr := Lib.hid hRr
            replace hXr := Lib.hid hXr
            replace hxr := Lib.hid hxr
            replace hbr := Lib.hid hbr
            replace hB0r := Lib.hid hB0r
            replace hrm := Lib.hid hrm
            replace hB := Lib.hid hB
            go_wp2_with fail
            (with_reducible refine (hrm.out).mono ?_)
            rintro e w12 ⟨rfl, hst12⟩
            obtain ⟨hB12, A7, M7, hR12, hO7⟩ := Stp.mine hB0r.out hO6.out hst12
            have hX12 := hst12.cells hRr.out (g := g) hXr.out (by decide) (by decide)
            have hx12 := hst12.cells hRr.out (g := x8i) hxr.out (by decide) (by decide)
            have hb12 := hbr.out.stp hRr.out hst12
            have hZx : ZZ.heap.size ≤ x8i := hZx8.out
            replace hB12 := Lib.hid hB12
            replace hR12 := Lib.hid hR12
            replace hO7 := Lib.hid hO7
            replace hX12 := Lib.hid hX12
            replace hx12 := Lib.hid hx12
            replace hb12 := Lib.hid hb12
            clear hst12 hrm hck hB hRr hXr hxr hbr hB0r hR9 hX9 hx9 hb9 hB09
            go_wp2_with fail
            go_loopw [22] (fun i wr => ∃ (k : Nat) (lk : Int), i = .int .i64 k ∧ 1 ≤ k ∧ k ≤ N.length ∧ Below ZZ.heap.size ZZ wr ∧ Rep wr tc A7 M7 T3 ∧ wr.heap[g]? = some (.cells X 9 (0, 0)) ∧ wr.heap[x8i]? = some (.cells #[.int .i64 s1, .int .i64 s2, .int .i64 s3, .int .i64 lk, .int .i64 s5, .int .i64 s6, .int .i64 s7, .int .i64 s8, .int .i64 s9, .string (mkS s10)] 38 (0, 0)) ∧ Dat wr (.slice bA D.length bc) D) (fun i _ => N.length - (intOf i).toNat)
            case atStart => exact ⟨1, s4, rfl, Nat.le_refl _, hNp, hB12.out, hR12.out, hX12.out, hx12.out, hb12.out⟩
            case round =>
              clear hB12 hR12 hX12 hx12 hb12
              obtain ⟨k, lk, rfl, hk1, hk, hBr, hRr, hXr, hxr, hbr⟩ := hrel
              by_cases hlt : k < N.length
              · have hck := hXc.out wr hXr k hlt
                have hmem : N[k] ∈ N := List.getElem_mem hlt
                have hne : N[k] ≠ n0 := not_first hnd.out hat0.out hlt hk1
                obtain ⟨ha1, ha2⟩ := hrest.out N[k] hmem hne
                have hsl := hshort.out N[k] hmem
                obtain ⟨n, hkn⟩ : ∃ n, n = N[k] := ⟨_, rfl⟩
                rw [← hkn] at hck hmem ha1 ha2 hsl hne
                replace hkn := Lib.hid hkn
                have hsz := mkS_size n
                have hrd := hread.out tc A7 M7 T3 wr (mkS n) (by omega) hRr
                rw [bl_mkS] at hrd
                generalize T3.read n = rd3 at *
                obtain ⟨D3, ed3⟩ := rd3
                dsimp only at ha1 hrd
                subst ha1
                replace hRr := Lib.hid hRr
                replace hXr := Lib.hid hXr
                replace hxr := Lib.hid hxr
                replace hbr := Lib.hid hbr
                replace hmem := Lib.hid hmem
                replace ha2 := Lib.hid ha2
                replace hBr := Lib.hid hBr
                replace hrd := Lib.hid hrd
                replace hne := Lib.hid hne
                go_wp2_with fail
                (with_reducible refine (hrd.out).mono ?_)
                rintro e w13 ⟨⟨cv, rfl, hc13⟩, hB13⟩
                obtain ⟨cA, cc, rfl, _, _⟩ := own_shape hc13.own
                have hst := hstat.out tc A7 M7 T3 w13 (mkS n) (by omega) (hRr.out.below hB13)
                rw [bl_mkS, ha2.out] at hst
                have hX13 := (hB13.block g (Array.getElem?_eq_some_iff.1 hXr.out).1).trans hXr.out
                have hck13 := hXc.out w13 hX13 k hlt
                rw [← hkn.out] at hck13
                replace hst := Lib.hid hst
                replace hc13 := Lib.hid hc13
                replace hB13 := Lib.hid hB13
                replace hX13 := Lib.hid hX13
                clear hrd hck
                go_wp2_with fail
                (with_reducible refine (hst.out).mono ?_)
                rintro e w14 ⟨rfl, hB14⟩
                have hB014 := below_step hB13.out hB14
                have hB014a := below_alloc hB014 (.cells #[.int .i64 s1, .int .i64 s2, .int .i64 s3, .int .i64 ((N.length : Int) - 1), .int .i64 s5, .int .i64 s6, .int .i64 s7, .int .i64 s8, .int .i64 s9, .string (mkS s10)] 38)
                have hB14a := (Below.refl w14.heap.size w14).alloc (Nat.le_refl _) (.cells #[.int .i64 s1, .int .i64 s2, .int .i64 s3, .int .i64 ((N.length : Int) - 1), .int .i64 s5, .int .i64 s6, .int .i64 s7, .int .i64 s8, .int .i64 s9, .string (mkS s10)] 38)
                have hm1 := (Byts.rdb (own_below (own_below hc13.out hB14) hB14a))
                have hc14 := (Byts.dat (own_below (own_below hc13.out hB14) hB14a))
                have hn14 := (MapKept.heap_alloc w14 (.cells #[.int .i64 s1, .int .i64 s2, .int .i64 s3, .int .i64 ((N.length : Int) - 1), .int .i64 s5, .int .i64 s6, .int .i64 s7, .int .i64 s8, .int .i64 s9, .string (mkS s10)] 38)).1
                have hx14 := (hB014a.block x8i (Array.getElem?_eq_some_iff.1 hxr.out).1).trans hxr.out
                have hX14 := (hB014a.block g (Array.getElem?_eq_some_iff.1 hXr.out).1).trans hXr.out
                have hb14 := hbr.out.below hB014a
                have hR14 := hRr.out.below hB014a
                have hBz14 := below_step hBr.out hB014a
                have hwr2 : IntKind.i64.wrap ((N.length : Int) - 1) = (N.length : Int) - 1 := by rw [IntWalk.i64_in _ (by omega)]
                replace hm1 := Lib.hid hm1
                replace hn14 := Lib.hid hn14
                replace hx14 := Lib.hid hx14
                replace hX14 := Lib.hid hX14
                replace hb14 := Lib.hid hb14
                replace hR14 := Lib.hid hR14
                replace hBz14 := Lib.hid hBz14
                replace hB014 := Lib.hid hB014
                replace hB014a := Lib.hid hB014a
                replace hB14a := Lib.hid hB14a
                replace hc14 := Lib.hid hc14
                replace hwr2 := Lib.hid hwr2
                clear hB14 hck13 hst
                go_upto_region 30 with fail
                have hgx : x8i ≠ w14.heap.size := fun e => by
                  have := (Array.getElem?_eq_some_iff.1 hxr.out).1
                  have := hB014.out.size
                  omega
                generalize (w14.alloc (.cells #[.int .i64 s1, .int .i64 s2, .int .i64 s3, .int .i64 ((N.length : Int) - 1), .int .i64 s5, .int .i64 s6, .int .i64 s7, .int .i64 s8, .int .i64 s9, .string (mkS s10)] 38)) = W14 at *
                replace hn14 := hn14.out
                have hx15 : (W14.setCell ⟨x8i, 3, none⟩ (.int .i64 ((N.length : Int) - 1))).heap[x8i]? = some (.cells #[.int .i64 s1, .int .i64 s2, .int .i64 s3, .int .i64 ((N.length : Int) - 1), .int .i64 s5, .int .i64 s6, .int .i64 s7, .int .i64 s8, .int .i64 s9, .string (mkS s10)] 38 (0, 0)) := heap_set_same hx14.out 3 _
                have hn15 := (heap_set_other W14 (Ne.symm hgx) 3 (.int .i64 ((N.length : Int) - 1))).trans hn14
                have hgg : g ≠ x8i := type_ne hx14.out hX14.out (by decide)
                have hX15 := (heap_set_other W14 hgg 3 (.int .i64 ((N.length : Int) - 1))).trans hX14.out
                have hb15 := hb14.out.setCell hx14.out (by decide) 3 (.int .i64 ((N.length : Int) - 1))
                have hm15 := (hc14.out.setCell hx14.out (by decide) 3 (.int .i64 ((N.length : Int) - 1))).rdb.string
                have hR15 := hR14.out.setCell hx14.out (by decide) (by decide) (by decide) 3 (.int .i64 ((N.length : Int) - 1))
                have hB15 := hBz14.out.setCell (p := ⟨x8i, 3, none⟩) hZx8.out (.int .i64 ((N.length : Int) - 1))
                have hfz : W14.frozen? ⟨x8i, 3, none⟩ = false := by simp [World.frozen?, hx14.out]
                have hq3 : W14.cell? ⟨x8i, 3, none⟩ = some (.int .i64 lk) := cell_of (j := 3) hx14.out rfl
                have hm16 := hb15.rdb.string
                have g0 := cell_of (j := 0) hn15 rfl
                have g1 := cell_of (j := 1) hn15 rfl
                have g2 := cell_of (j := 2) hn15 rfl
                have g3 := cell_of (j := 3) hn15 rfl
                have g4 := cell_of (j := 4) hn15 rfl
                have g5 := cell_of (j := 5) hn15 rfl
                have g6 := cell_of (j := 6) hn15 rfl
                have g7 := cell_of (j := 7) hn15 rfl
                have g8 := cell_of (j := 8) hn15 rfl
                have g9 := cell_of (j := 9) hn15 rfl
                have h0 := cell_of (j := 0) hx15 rfl
                have h1 := cell_of (j := 1) hx15 rfl
                have h2 := cell_of (j := 2) hx15 rfl
                have h3 := cell_of (j := 3) hx15 rfl
                have h4 := cell_of (j := 4) hx15 rfl
                have h5 := cell_of (j := 5) hx15 rfl
                have h6 := cell_of (j := 6) hx15 rfl
                have h7 := cell_of (j := 7) hx15 rfl
                have h8 := cell_of (j := 8) hx15 rfl
                have h9 := cell_of (j := 9) hx15 rfl
                replace hn15 := Lib.hid hn15
                replace hx15 := Lib.hid hx15
                replace hX15 := Lib.hid hX15
                replace hb15 := Lib.hid hb15
                replace hR15 := Lib.hid hR15
                replace hB15 := Lib.hid hB15
                replace hgx := Lib.hid hgx
                replace hgg := Lib.hid hgg
                have hwr3 := hwr2.out
                clear hX14 hb14 hR14 hn14 hx14 hBz14 hc14 hm1
                go_wp2
                go_roundw
                case rel => exact ⟨k + 1, _, by go_num, by omega, by omega, hB15.out, hR15.out, hX15.out, hx15.out, hb15.out⟩
                case measure => simp [intOf]; omega
              · obtain rfl : k = N.length := by omega
                have hck := hXc.out wr hXr 0 hNp
                rw [hat0.out] at hck
                have hst := hstat.out tc A7 M7 T3 wr (mkS n0) (by rw [mkS_size]; omega) hRr
                rw [bl_mkS] at hst
                generalize T3.stat n0 = st3 at *
                obtain ⟨⟨y1, y2, y3, y4, ⟨y5, y6, y7, y8, y9⟩, y10⟩, ey⟩ := st3
                dsimp only at hst
                have hey := hnone.out
                dsimp only at hey
                subst hey
                replace hst := Lib.hid hst
                replace hBr := Lib.hid hBr
                replace hRr := Lib.hid hRr
                replace hXr := Lib.hid hXr
                replace hxr := Lib.hid hxr
                replace hbr := Lib.hid hbr
                go_wp2_with fail
                (with_reducible refine (hst.out).mono ?_)
                rintro e w16 ⟨rfl, hB16⟩
                have hB17 := below_alloc (below_step hBr.out hB16) (.cells #[.int .i64 y1, .int .i64 y2, .int .i64 y3, .int .i64 y4, .int .i64 y5, .int .i64 y6, .int .i64 y7, .int .i64 y8, .int .i64 y9, .string (mkS y10)] 38)
                replace hB17 := Lib.hid hB17
                clear hB16 hst hck
                go_wp2_with fail
                refine (haw.out _).mono ?_
                rintro e w18 ⟨rfl, hB18⟩
                go_wp2
                go_ret
                exact ⟨rfl, below_step hB1.out (below_step hB17.out hB18)⟩
    · have hk2 : (a1 != 1) = true := by simpa using hk1
      replace hk1 := Lib.hid hk1
      go_wp2_with fail
      refine (haw.out _).mono ?_
      rintro e w9 ⟨rfl, hB9⟩
      go_wp2
      go_ret
      exact ⟨rfl, below_step (below_step hB1.out hB04.out) hB9⟩
  · replace hv := Lib.hid hv
    replace hv0 := Lib.hid hv0
    replace hd := Lib.hid hd
    replace hd0 := Lib.hid hd0
    replace hone := Lib.hid hone
    replace hB0 := Lib.hid hB0
    by_cases hs1 : small l = true
    · rw [hs1] at hsm
      by_cases hps : p.size ≤ 600
      · have hs2 : ¬ small [⟨d, pa, t, b, ⟨m1, m2, m3, m4, m5⟩⟩] = true := fun h => hc ⟨hs1, hps, h⟩
        rw [small_not hs2] at hsm2
        have hz1 : decide (600 < (p.size : Int)) = false := by simp; omega
        have c0 := cell_of (j := 0) hblk rfl
        have c1 := cell_of (j := 1) hblk rfl
        have c2 := cell_of (j := 2) hblk rfl
        have c3 := cell_of (j := 3) hblk rfl
        have c4 := cell_of (j := 4) hblk rfl
        have c5 := cell_of (j := 5) hblk rfl
        have c6 := cell_of (j := 6) hblk rfl
        have c7 := cell_of (j := 7) hblk rfl
        have c8 := cell_of (j := 8) hblk rfl
        replace hs1 := Lib.hid hs1
        replace hs2 := Lib.hid hs2
        replace hsm := Lib.hid hsm
        replace hsm2 := Lib.hid hsm2
        replace hc := Lib.hid hc
        replace hblk := Lib.hid hblk
        go_enter Try.func6, Try.ntmps6
        go_wp2_with fail
        (with_reducible refine (hsm.out).mono ?_)
        rintro e w1 ⟨rfl, rfl⟩
        go_wp2_with fail
        (with_reducible refine (hsm2.out).mono ?_)
        rintro e w1 ⟨rfl, rfl⟩
        go_wp2_with fail
        refine (haw.out _).mono ?_
        rintro e w1 ⟨rfl, hB1⟩
        go_wp2
        go_ret
        exact ⟨rfl, below_step (below_alloc hB0.out _) hB1⟩
      · have hz1 : decide (600 < (p.size : Int)) = true := by simp; omega
        replace hs1 := Lib.hid hs1
        replace hsm := Lib.hid hsm
        replace hsm2 := Lib.hid hsm2
        replace hc := Lib.hid hc
        replace hblk := Lib.hid hblk
        go_enter Try.func6, Try.ntmps6
        go_wp2_with fail
        (with_reducible refine (hsm.out).mono ?_)
        rintro e w1 ⟨rfl, rfl⟩
        go_wp2_with fail
        refine (haw.out _).mono ?_
        rintro e w1 ⟨rfl, hB1⟩
        go_wp2
        go_ret
        exact ⟨rfl, below_step hB0.out hB1⟩
    · rw [small_not hs1] at hsm
      replace hs1 := Lib.hid hs1
      replace hsm := Lib.hid hsm
      replace hsm2 := Lib.hid hsm2
      replace hc := Lib.hid hc
      replace hblk := Lib.hid hblk
      go_enter Try.func6, Try.ntmps6
      go_wp2_with fail
      (with_reducible refine (hsm.out).mono ?_)
      rintro e w1 ⟨rfl, rfl⟩
      go_wp2_with fail
      refine (haw.out _).mono ?_
      rintro e w1 ⟨rfl, hB1⟩
      go_wp2
      go_ret
      exact ⟨rfl, below_step hB0.out hB1⟩

end Go.Proofs.Ytemdinjiplglgaa
