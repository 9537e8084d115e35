/-
  remoralaw22.BasisFile: what is chosen is a file, in the program.
-/
import Derived.Test.YtemdinjiplglgaaB5
import Derived.Test.YtemdinjiplglgaaB4
namespace Go.Proofs.Ytemdinjiplglgaa
open Go.RowKit

theorem isFile_eq {T : Fs} {s : Bytes} {st : St × Int} (h : T.stat s = st) : T.isFile s = (decide (st.2 = 0) && decide (st.1.kind = 1)) := by rw [← h]; rfl

set_option maxHeartbeats 8000000 in
set_option maxRecDepth 100000 in
theorem basisFile_walk (v : Value) (l : List Act17) (a b : ByteArray) (w : World) (hv : Acts w v l) (ha : a.size ≤ 2000000) (hb : b.size ≤ 2000000) :
    Calls Try.prog 8 #[v, .agg #[.string a, .string b]] w fun e w' => e = .returned (.bool true) ∧ Below w.heap.size w w' := by
  have haw := fun W => awake22_calls W
  have hB0 : Below w.heap.size w (w.alloc (.cells #[.string a, .string b] 61)) := (Below.refl _ _).alloc (Nat.le_refl _) _
  have hv0 := hv.below hB0
  have hsm := small_calls v l _ hv0
  have hblk := (MapKept.heap_alloc w (.cells #[.string a, .string b] 61)).1
  have hlt0 : w.heap.size < (w.alloc (.cells #[.string a, .string b] 61)).heap.size := by simp
  replace haw := Lib.hid haw
  by_cases hs1 : small l = true
  · rw [hs1] at hsm
    have hl40 := (small_at hs1).1
    have hbl := build_calls _ l _ hv0 hs1
    have hgr := acts_grow Fs.start l
    have hfew : (Fs.build l).names.length ≤ 1000 := by
      have : (Fs.build l).names.length ≤ Fs.start.names.length + l.length := hgr.1
      have h9 : Fs.start.names.length = 1 := rfl
      omega
    generalize Fs.build l = T at *
    generalize hW0 : w.alloc (.cells #[.string a, .string b] 61) = W0 at *
    have hch := fun tb A M W (hR : Rep W tb A M T) => choose_calls tb A M T a b true W hR ha hb (by omega)
    have hpa := fun W => parent_calls a W (by unfold maxLen; omega)
    have hba := fun W => base_calls a W (by unfold maxLen; omega)
    have hsto := fun tb A M W (hR : Rep W tb A M T) => stat_calls tb A M T a W hR (by omega)
    have hstat := fun tb A M W s hs (hR : Rep W tb A M T) => stat_calls tb A M T s W hR hs
    have hpths := fun tb A M W (hR : Rep W tb A M T) => paths_calls tb A M T W hR (by omega)
    have hfi := fun hI => @file_is T hI (bl a) (bl b)
    have hsc : ∀ W x y, Calls Try.prog 34 #[.string (mkS x), .string (mkS y)] W fun e w' => e = .returned (.int .i64 (scoreB x y)) ∧ Below W.heap.size W w' := fun W x y => score_calls (mkS x) (mkS y) W
    generalize T.choose (bl a) (bl b) true = ch at *
    obtain ⟨r1, r2⟩ := ch
    dsimp only at hch
    unfold ptr at *
    have c0 := cell_of (j := 0) hblk (v := .string a) rfl
    have c1 := cell_of (j := 1) hblk (v := .string b) rfl
    replace hv := Lib.hid hv
    replace hv0 := Lib.hid hv0
    replace hsm := Lib.hid hsm
    replace hbl := Lib.hid hbl
    replace hch := Lib.hid hch
    replace hpa := Lib.hid hpa
    replace hba := Lib.hid hba
    replace hsto := Lib.hid hsto
    replace hstat := Lib.hid hstat
    replace hpths := Lib.hid hpths
    replace hfi := Lib.hid hfi
    replace hsc := Lib.hid hsc
    replace hB0 := Lib.hid hB0
    replace hblk := Lib.hid hblk
    replace hs1 := Lib.hid hs1
    replace hW0 := Lib.hid hW0
    replace hlt0 := Lib.hid hlt0
    clear hgr
    go_enter Try.func8, Try.ntmps8
    go_wp2_with fail
    try rw [hW0.out]
    (with_reducible refine hsm.out.mono ?_)
    rintro e w1 ⟨rfl, rfl⟩
    go_wp2_with fail
    (with_reducible refine (hbl.out).mono ?_)
    rintro e w2 ⟨tc, C, M, rfl, hR2, hO2, hB2⟩
    have hI := hR2.inv
    have hblk2 := (hB2.block _ hlt0.out).trans hblk.out
    have d0 := cell_of (j := 0) hblk2 (v := .string a) rfl
    have d1 := cell_of (j := 1) hblk2 (v := .string b) rfl
    have hfi2 := hfi.out hI
    have hch2 := hch.out tc C M w2 hR2
    replace hR2 := Lib.hid hR2
    replace hO2 := Lib.hid hO2
    replace hB2 := Lib.hid hB2
    replace hI := Lib.hid hI
    replace hblk2 := Lib.hid hblk2
    replace hfi2 := Lib.hid hfi2
    replace hch2 := Lib.hid hch2
    clear c0 c1
    go_wp2_with fail
    (with_reducible refine (hch2.out).mono ?_)
    rintro e w3 ⟨rfl, hB3⟩
    have hR3 := hR2.out.below hB3
    have hB03 := below_step hB2.out hB3
    have hblk3 := (hB03.block _ hlt0.out).trans hblk.out
    replace hR3 := Lib.hid hR3
    replace hB03 := Lib.hid hB03
    replace hblk3 := Lib.hid hblk3
    clear hB3 hch2 d0 d1
    cases r2 with
    | false =>
      have hr1 := hfi2.out.no rfl
      dsimp only at hr1
      subst hr1
      have te : (mkS []).toList.isEmpty = true := by rw [str_nil, bl_mkS]; rfl
      go_wp2_with fail
      refine (haw.out _).mono ?_
      rintro e w9 ⟨rfl, hB9⟩
      go_wp2
      go_ret
      exact ⟨rfl, below_step (below_step hB0.out hB03.out) hB9⟩
    | true =>
      have hf1 := hfi2.out.file rfl
      have hown := hfi2.out.own rfl
      have hrest := hfi2.out.rest rfl
      dsimp only at hf1 hown hrest
      obtain ⟨hr1, _, _, _⟩ := isFile_at hI.out hf1
      have hl1 := (right_list hr1).2.2
      have hst3 := hstat.out tc C M w3 (mkS r1) (by rw [mkS_size]; omega) hR3.out
      rw [bl_mkS] at hst3
      have hie := isFile_iff.1 hf1
      have hpr := fun W => parent_calls (mkS r1) W (by rw [mkS_size]; unfold maxLen; omega)
      have hbr := fun W => base_calls (mkS r1) W (by rw [mkS_size]; unfold maxLen; omega)
      rw [bl_mkS] at hpr hbr
      generalize T.stat r1 = st at *
      obtain ⟨⟨s1, s2, s3, s4, ⟨s5, s6, s7, s8, s9⟩, s10⟩, es⟩ := st
      unfold statV statCells at hst3
      dsimp only at hst3 hie
      obtain ⟨rfl, rfl⟩ := hie
      replace hf1 := Lib.hid hf1
      replace hown := Lib.hid hown
      replace hrest := Lib.hid hrest
      replace hr1 := Lib.hid hr1
      replace hst3 := Lib.hid hst3
      replace hpr := Lib.hid hpr
      replace hbr := Lib.hid hbr
      go_wp2_with fail
      (with_reducible refine (hst3.out).mono ?_)
      rintro e w4 ⟨rfl, hB4⟩
      have hB04 := below_step hB03.out hB4
      have hB04a := below_alloc hB04 (.cells #[.int .i64 1, .int .i64 s2, .int .i64 s3, .int .i64 s4, .int .i64 s5, .int .i64 s6, .int .i64 s7, .int .i64 s8, .int .i64 s9, .string (mkS s10)] 38)
      have hB34a := below_alloc hB4 (.cells #[.int .i64 1, .int .i64 s2, .int .i64 s3, .int .i64 s4, .int .i64 s5, .int .i64 s6, .int .i64 s7, .int .i64 s8, .int .i64 s9, .string (mkS s10)] 38)
      have hblk4 := (hB04a.block _ hlt0.out).trans hblk.out
      have hR4 := hR3.out.below hB34a
      have d0 := cell_of (j := 0) hblk4 (v := .string a) rfl
      have hst4 := hsto.out tc C M _ hR4
      generalize hso : T.stat (bl a) = so at *
      obtain ⟨⟨o1, o2, o3, o4, ⟨o5, o6, o7, o8, o9⟩, o10⟩, eo⟩ := so
      unfold statV statCells at hst4
      dsimp only at hst4
      replace hB04 := Lib.hid hB04
      replace hB04a := Lib.hid hB04a
      replace hB34a := Lib.hid hB34a
      replace hblk4 := Lib.hid hblk4
      replace hR4 := Lib.hid hR4
      replace hst4 := Lib.hid hst4
      replace hso := Lib.hid hso
      clear hst3 hB4
      go_wp2_with fail
      (with_reducible refine (hst4.out).mono ?_)
      rintro e w5 ⟨rfl, hB5⟩
      have hB05 := below_step hB04a.out hB5
      have hB05a := below_alloc hB05 (.cells #[.int .i64 o1, .int .i64 o2, .int .i64 o3, .int .i64 o4, .int .i64 o5, .int .i64 o6, .int .i64 o7, .int .i64 o8, .int .i64 o9, .string (mkS o10)] 38)
      have hB45a := below_alloc hB5 (.cells #[.int .i64 o1, .int .i64 o2, .int .i64 o3, .int .i64 o4, .int .i64 o5, .int .i64 o6, .int .i64 o7, .int .i64 o8, .int .i64 o9, .string (mkS o10)] 38)
      have hR5 := hR4.out.below hB45a
      have hblk5 := (hB05a.block _ hlt0.out).trans hblk.out
      have d0 := cell_of (j := 0) hblk5 (v := .string a) rfl
      have d1 := cell_of (j := 1) hblk5 (v := .string b) rfl
      replace hB05 := Lib.hid hB05
      replace hB05a := Lib.hid hB05a
      replace hB45a := Lib.hid hB45a
      replace hR5 := Lib.hid hR5
      replace hblk5 := Lib.hid hblk5
      clear hst4 hB5
      have hfa : T.isFile (bl a) = (decide (eo = 0) && decide (o1 = 1)) := isFile_eq hso.out
      go_upto_region 13 with fail
      obtain ⟨n5, hn5e⟩ : ∃ i, i = w5.heap.size := ⟨_, rfl⟩
      have hs5 := (MapKept.heap_alloc w5 (.cells #[.int .i64 o1, .int .i64 o2, .int .i64 o3, .int .i64 o4, .int .i64 o5, .int .i64 o6, .int .i64 o7, .int .i64 o8, .int .i64 o9, .string (mkS o10)] 38)).1
      rw [← hn5e] at hs5
      generalize (w5.alloc (.cells #[.int .i64 o1, .int .i64 o2, .int .i64 o3, .int .i64 o4, .int .i64 o5, .int .i64 o6, .int .i64 o7, .int .i64 o8, .int .i64 o9, .string (mkS o10)] 38)) = W5 at *
      rw [← hn5e]
      have x0 := cell_of (j := 0) hs5 (v := .int .i64 o1) rfl
      replace hn5e := Lib.hid hn5e
      replace hs5 := Lib.hid hs5
      replace hfa := Lib.hid hfa
      clear d0 d1
      go_cut [67] (fun c W => c = .bool (T.isFile (bl a)) ∧ W5 = W)
      case first =>
        by_cases heo : eo = 0
        · subst heo
          by_cases ho1 : o1 = 1
          · subst ho1
            go_wp2_with fail
            go_meet
            exact ⟨by rw [hfa.out]; rfl, rfl⟩
          · have ho2 : (o1 == 1) = false := by simpa using ho1
            go_wp2_with fail
            go_meet
            exact ⟨by rw [hfa.out]; simp [ho1], rfl⟩
        · have heo2 : (eo == 0) = false := by simpa using heo
          replace heo := Lib.hid heo
          go_wp2_with fail
          go_meet
          exact ⟨by rw [hfa.out]; simp [heo.out], rfl⟩
      case rest =>
        obtain ⟨rfl, rfl⟩ := hcut
        have d0 := cell_of (j := 0) hblk5.out (v := .string a) rfl
        have d1 := cell_of (j := 1) hblk5.out (v := .string b) rfl
        clear hfa
        by_cases hfa : T.isFile (bl a) = true
        · rw [hfa]
          have hra : r1 = bl a := hown.out hfa
          have t1 : ((mkS r1).toList == a.toList) = true := strs_alike (by rw [hra, mkS_bl])
          replace hra := Lib.hid hra
          replace hfa := Lib.hid hfa
          go_wp2_with fail
          refine (haw.out _).mono ?_
          rintro e w9 ⟨rfl, hB9⟩
          go_wp2
          go_ret
          exact ⟨rfl, below_step (below_step hB0.out hB05a.out) hB9⟩
        replace hfa : T.isFile (bl a) = false := by simpa using hfa
        rw [hfa]
        replace hfa := Lib.hid hfa
        by_cases hrb : mkS r1 = b
        · have t1 := strs_alike hrb
          replace hrb := Lib.hid hrb
          go_wp2_with fail
          refine (haw.out _).mono ?_
          rintro e w9 ⟨rfl, hB9⟩
          go_wp2
          go_ret
          exact ⟨rfl, below_step (below_step hB0.out hB05a.out) hB9⟩
        · have t1 := strs_diff hrb
          have hrest2 := hrest.out hfa.out
          rcases hrest2 with hrest2 | ⟨hn5, hpp, hmost⟩
          · exact absurd (by rw [hrest2, mkS_bl]) hrb
          replace hrb := Lib.hid hrb
          replace hn5 := Lib.hid hn5
          replace hpp := Lib.hid hpp
          replace hmost := Lib.hid hmost
          go_upto_region 17 with fail
          replace d0 := cell_of (j := 0) hblk5.out (v := .string a) rfl
          have hg0 := fun x : Gr W5 => Gr.cell d0 x
          refine wp_region_grow (by kernel_rfl) (by kernel_rfl) ?_
          repeat (any_goals (first | go_big_quiet_step (first | (go_at_call 35; exact grow_eq _ (hbr.out _)) | (go_at_call 35; exact grow_eq _ (hba.out _)) | (go_at_call 34; exact grow_of _ (hsc.out _ _ _))) | quiet_step (first | (go_at_call 35; exact grow_eq _ (hbr.out _)) | (go_at_call 35; exact grow_eq _ (hba.out _)) | (go_at_call 34; exact grow_of _ (hsc.out _ _ _)))))
          refine wpQuiet_nil ?_
          rintro w6 ⟨⟨_, hB6⟩, rfl⟩
          have hB06 := below_step hB05a.out hB6
          have hR6 := hR5.out.below hB6
          have hblk6 := (hB06.block _ hlt0.out).trans hblk.out
          have hpt6 := hpths.out tc C M w6 hR6
          replace hB06 := Lib.hid hB06
          replace hR6 := Lib.hid hR6
          replace hblk6 := Lib.hid hblk6
          replace hpt6 := Lib.hid hpt6
          clear hB6 hg0 d0 t1
          go_wp2_with fail
          (with_reducible refine (hpt6.out).mono ?_)
          rintro e w7 ⟨⟨pv, rfl, hS7⟩, hB7⟩
          have hRd7 := hS7.rd
          obtain ⟨pA, pc, rfl, hpc1, hpc2⟩ := hRd7.shape
          unfold maxLen at hpc2
          have hB07 := below_step hB06.out hB7
          have hR7 := hR6.out.below hB7
          replace hRd7 := Lib.hid hRd7
          replace hB07 := Lib.hid hB07
          replace hR7 := Lib.hid hR7
          replace hS7 := Lib.hid hS7
          clear hB7 hpt6
          go_wp2_with fail
          go_loopw [14] (fun i wr => ∃ k : Nat, i = .int .i64 k ∧ k ≤ T.paths.length ∧ Below w7.heap.size w7 wr) (fun i _ => T.paths.length - (intOf i).toNat)
          case atStart => exact ⟨0, rfl, Nat.zero_le _, Below.refl _ _⟩
          case round =>
            obtain ⟨k, rfl, hk, hB⟩ := hrel
            by_cases hlt : k < T.paths.length
            · obtain ⟨g, o, rfl, hck⟩ := (hRd7.out.below hB).cell hlt
              obtain ⟨hp1, hp2, ii, hp3, hp4, hp5, hp6, _⟩ := path_at hI.out hlt
              have hmem : T.paths[k] ∈ T.paths := List.getElem_mem hlt
              have hlen := (right_list hp1).2.2
              have hmost2 := hmost.out T.paths[k] hmem
              generalize T.paths[k] = q at *
              have hqz := mkS_size q
              have hstr := hstat.out tc C M wr (mkS q) (by omega) (hR7.out.below hB)
              rw [bl_mkS, hp6] at hstr
              have hpq := fun W => parent_calls (mkS q) W (by unfold maxLen; omega)
              have hbq := fun W => base_calls (mkS q) W (by unfold maxLen; omega)
              rw [bl_mkS] at hpq hbq
              have hqe : (mkS q).toList.isEmpty = false := by rw [str_nil, bl_mkS]; simpa using hp2
              have hfq : T.isFile q = decide ((T.tell (split q) ii).kind = 1) := by rw [isFile_eq hp6]; simp
              generalize T.tell (split q) ii = x at *
              obtain ⟨x1, x2, x3, x4, ⟨x5, x6, x7, x8, x9⟩, x10⟩ := x
              unfold statV statCells at hstr
              dsimp only at hstr hfq
              replace hB := Lib.hid hB
              replace hp1 := Lib.hid hp1
              replace hp2 := Lib.hid hp2
              replace hp3 := Lib.hid hp3
              replace hp4 := Lib.hid hp4
              replace hp6 := Lib.hid hp6
              replace hmem := Lib.hid hmem
              replace hmost2 := Lib.hid hmost2
              replace hstr := Lib.hid hstr
              replace hpq := Lib.hid hpq
              replace hbq := Lib.hid hbq
              replace hfq := Lib.hid hfq
              go_wp2_with fail
              (with_reducible refine (hstr.out).mono ?_)
              rintro e w8 ⟨rfl, hB8⟩
              have hB08 := below_step hB.out hB8
              have hB08a := below_alloc hB08 (.cells #[.int .i64 x1, .int .i64 x2, .int .i64 x3, .int .i64 x4, .int .i64 x5, .int .i64 x6, .int .i64 x7, .int .i64 x8, .int .i64 x9, .string (mkS x10)] 38)
              have hBr8a := below_alloc hB8 (.cells #[.int .i64 x1, .int .i64 x2, .int .i64 x3, .int .i64 x4, .int .i64 x5, .int .i64 x6, .int .i64 x7, .int .i64 x8, .int .i64 x9, .string (mkS x10)] 38)
              have hck8 := (hBr8a.cell (cell_lt hck)).trans hck
              have hblk8 := ((below_step hB07.out hB08a).block _ hlt0.out).trans hblk.out
              have hs8 := (MapKept.heap_alloc w8 (.cells #[.int .i64 x1, .int .i64 x2, .int .i64 x3, .int .i64 x4, .int .i64 x5, .int .i64 x6, .int .i64 x7, .int .i64 x8, .int .i64 x9, .string (mkS x10)] 38)).1
              replace hB08 := Lib.hid hB08
              replace hB08a := Lib.hid hB08a
              replace hBr8a := Lib.hid hBr8a
              replace hblk8 := Lib.hid hblk8
              replace hs8 := Lib.hid hs8
              replace hck8 := Lib.hid hck8
              clear hB8 hstr hck
              go_upto_region 23 with fail
              obtain ⟨n8, hn8⟩ : ∃ i, i = w8.heap.size := ⟨_, rfl⟩
              rw [← hn8] at hs8
              generalize (w8.alloc (.cells #[.int .i64 x1, .int .i64 x2, .int .i64 x3, .int .i64 x4, .int .i64 x5, .int .i64 x6, .int .i64 x7, .int .i64 x8, .int .i64 x9, .string (mkS x10)] 38)) = W8 at *
              rw [← hn8]
              have d0 := cell_of (j := 0) hblk8.out (v := .string a) rfl
              have x0 := cell_of (j := 0) hs8.out (v := .int .i64 x1) rfl
              have hg0 := fun x : Gr W8 => Gr.cell d0 x
              have hg1 := fun x : Gr W8 => Gr.cell hck8.out x
              have hg2 := fun x : Gr W8 => Gr.cell x0 x
              replace hn8 := Lib.hid hn8
              by_cases hqp : parent q = parent (bl a)
              · have t2 : ((mkS (parent q)).toList == (mkS (parent (bl a))).toList) = true := strs_alike (by rw [hqp])
                by_cases hx1 : x1 = 1
                · have hle := hmost2.out hqp (by rw [hfq.out]; simpa using hx1)
                  have hle2 : decide (scoreB (base r1) (base (bl a)) < scoreB (base q) (base (bl a))) = false := by simp only [decide_eq_false_iff_not]; exact Int.not_lt.2 hle
                  have hx2 : (x1 == 1) = true := by simpa using hx1
                  replace hqp := Lib.hid hqp
                  replace hx1 := Lib.hid hx1
                  replace hle := Lib.hid hle
                  refine wp_region_grow (by kernel_rfl) (by kernel_rfl) ?_
                  repeat (any_goals (first | go_big_quiet_step (first | (go_at_call 20; exact grow_eq _ (hpq.out _)) | (go_at_call 20; exact grow_eq _ (hpa.out _)) | (go_at_call 35; exact grow_eq _ (hbq.out _)) | (go_at_call 35; exact grow_eq _ (hba.out _)) | (go_at_call 34; exact grow_of _ (hsc.out _ _ _))) | quiet_step (first | (go_at_call 20; exact grow_eq _ (hpq.out _)) | (go_at_call 20; exact grow_eq _ (hpa.out _)) | (go_at_call 35; exact grow_eq _ (hbq.out _)) | (go_at_call 35; exact grow_eq _ (hba.out _)) | (go_at_call 34; exact grow_of _ (hsc.out _ _ _)))))
                  refine wpQuiet_nil ?_
                  rintro _ ⟨⟨w9, hB9⟩, rfl⟩
                  have hB09 := below_step hB08a.out hB9
                  replace hB09 := Lib.hid hB09
                  clear hB9 hg0 hg1 hg2
                  go_wp2
                  go_roundw
                  case rel => exact ⟨k + 1, by go_num, by omega, hB09.out⟩
                  case measure => simp [intOf]; omega
                · have hx2 : (x1 == 1) = false := by simpa using hx1
                  replace hqp := Lib.hid hqp
                  replace hx1 := Lib.hid hx1
                  refine wp_region_grow (by kernel_rfl) (by kernel_rfl) ?_
                  repeat (any_goals (first | go_big_quiet_step (first | (go_at_call 20; exact grow_eq _ (hpq.out _)) | (go_at_call 20; exact grow_eq _ (hpa.out _)) | (go_at_call 35; exact grow_eq _ (hbq.out _)) | (go_at_call 35; exact grow_eq _ (hba.out _)) | (go_at_call 34; exact grow_of _ (hsc.out _ _ _))) | quiet_step (first | (go_at_call 20; exact grow_eq _ (hpq.out _)) | (go_at_call 20; exact grow_eq _ (hpa.out _)) | (go_at_call 35; exact grow_eq _ (hbq.out _)) | (go_at_call 35; exact grow_eq _ (hba.out _)) | (go_at_call 34; exact grow_of _ (hsc.out _ _ _)))))
                  refine wpQuiet_nil ?_
                  rintro _ ⟨⟨w9, hB9⟩, rfl⟩
                  have hB09 := below_step hB08a.out hB9
                  replace hB09 := Lib.hid hB09
                  clear hB9 hg0 hg1 hg2
                  go_wp2
                  go_roundw
                  case rel => exact ⟨k + 1, by go_num, by omega, hB09.out⟩
                  case measure => simp [intOf]; omega
              · have t2 : ((mkS (parent q)).toList == (mkS (parent (bl a))).toList) = false := strs_diff (fun e => hqp (mkS_inj e))
                replace hqp := Lib.hid hqp
                refine wp_region_grow (by kernel_rfl) (by kernel_rfl) ?_
                repeat (any_goals (first | go_big_quiet_step (first | (go_at_call 20; exact grow_eq _ (hpq.out _)) | (go_at_call 20; exact grow_eq _ (hpa.out _)) | (go_at_call 35; exact grow_eq _ (hbq.out _)) | (go_at_call 35; exact grow_eq _ (hba.out _)) | (go_at_call 34; exact grow_of _ (hsc.out _ _ _))) | quiet_step (first | (go_at_call 20; exact grow_eq _ (hpq.out _)) | (go_at_call 20; exact grow_eq _ (hpa.out _)) | (go_at_call 35; exact grow_eq _ (hbq.out _)) | (go_at_call 35; exact grow_eq _ (hba.out _)) | (go_at_call 34; exact grow_of _ (hsc.out _ _ _)))))
                refine wpQuiet_nil ?_
                rintro _ ⟨⟨w9, hB9⟩, rfl⟩
                have hB09 := below_step hB08a.out hB9
                replace hB09 := Lib.hid hB09
                clear hB9 hg0 hg1 hg2
                go_wp2
                go_roundw
                case rel => exact ⟨k + 1, by go_num, by omega, hB09.out⟩
                case measure => simp [intOf]; omega
            · obtain rfl : k = T.paths.length := by omega
              have hBf := below_step hB07.out hB
              have hblk8 := (hBf.block _ hlt0.out).trans hblk.out
              replace hB := Lib.hid hB
              replace hBf := Lib.hid hBf
              replace hblk8 := Lib.hid hblk8
              go_upto_region 25 with fail
              have d0 := cell_of (j := 0) hblk8.out (v := .string a) rfl
              have hg0 := fun x : Gr wr => Gr.cell d0 x
              have hn6 : decide (500 ≤ scoreB (base r1) (base (bl a))) = true := by simpa using hn5.out
              have t2 : ((mkS (parent r1)).toList == (mkS (parent (bl a))).toList) = true := strs_alike (by rw [hpp.out])
              refine wp_region_grow (by kernel_rfl) (by kernel_rfl) ?_
              repeat (any_goals (first | go_big_quiet_step (first | (go_at_call 20; exact grow_eq _ (hpr.out _)) | (go_at_call 20; exact grow_eq _ (hpa.out _)) | (go_at_call 17; exact grow_of _ (haw.out _))) | quiet_step (first | (go_at_call 20; exact grow_eq _ (hpr.out _)) | (go_at_call 20; exact grow_eq _ (hpa.out _)) | (go_at_call 17; exact grow_of _ (haw.out _)))))
              refine wpQuiet_nil ?_
              rintro _ ⟨⟨w9, hB9⟩, rfl⟩
              clear hg0 t2 hn6
              go_wp2
              go_ret
              exact ⟨rfl, below_step hB0.out (below_step hBf.out hB9)⟩
  · rw [small_not hs1] at hsm
    replace hs1 := Lib.hid hs1
    replace hsm := Lib.hid hsm
    replace hv := Lib.hid hv
    replace hv0 := Lib.hid hv0
    replace hB0 := Lib.hid hB0
    replace hblk := Lib.hid hblk
    replace hlt0 := Lib.hid hlt0
    go_enter Try.func8, Try.ntmps8
    go_wp2_with fail
    (with_reducible refine (hsm.out).mono ?_)
    rintro e w1 ⟨rfl, rfl⟩
    go_wp2_with fail
    refine (haw.out _).mono ?_
    rintro e w1 ⟨rfl, hB1⟩
    go_wp2
    go_ret
    exact ⟨rfl, below_step hB0.out hB1⟩

end Go.Proofs.Ytemdinjiplglgaa
