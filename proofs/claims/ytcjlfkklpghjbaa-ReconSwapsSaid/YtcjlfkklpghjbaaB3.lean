/-
  remoraref20.May: what is wrong with an entry by itself.
  remoraref20.Small, Find; remoralaw44.small.
  flist.Check.
  remoraref20.Check.
  remoraref44: at, Alike, later, dir, wish.
  remoraref44: Alike, later, dir, wish.
  remoraref44: dir, wish.
  Rows of acts in memory; remoraref44: below, Clash, Swap; recon.Clash; remoralaw44.same.
-/
import Derived.Test.YtcjlfkklpghjbaaB2
import Derived.Test.YtcjlfkklpghjbaaB1
set_option linter.unusedVariables false
set_option linter.unusedSimpArgs false

namespace Go.Proofs.Ytcjlfkklpghjbaa
open Go.RowKit

set_option maxHeartbeats 8000000 in
set_option maxRecDepth 100000 in
theorem may20_calls (x : Ent) (w : World) (hp : x.path.length ≤ 1000000) (ht : x.target.length ≤ 1000000) (hs : x.sum.length ≤ 1000000) :
    Calls Try.prog 38 #[entV x] w fun e w' => e = .returned (.int .i64 (entE x)) ∧ Below w.heap.size w w' := by
  have k1 := @entE_1 x
  have k2 := @entE_2 x
  have k3 := @entE_3 x
  have kn := @entE_name x
  have kk := @entE_kind x
  generalize entE x = r at *
  obtain ⟨p, kd, sz, m, tg, sm, gr⟩ := x
  have hm := fun W => rcheck_calls m W
  generalize metaOk m = mk at *
  obtain ⟨m1, m2, m3, m4, m5⟩ := m
  unfold entV entCells
  unfold mtV mtCells at hm
  dsimp only at *
  have hps := mkS_size p
  have hts := mkS_size tg
  have hss := mkS_size sm
  have h1 := fun W => refright_calls (mkS p) W (by omega)
  rw [bl_mkS] at h1
  have hB := (Below.refl w.heap.size w).alloc (Nat.le_refl _) (.cells #[.string (mkS p), .int .i64 kd, .int .i64 sz, .int .i64 m1, .int .i64 m2, .int .i64 m3, .int .i64 m4, .int .i64 m5, .string (mkS tg), .string (mkS sm), .int .i64 gr] 35)
  have hblk := (MapKept.heap_alloc w (.cells #[.string (mkS p), .int .i64 kd, .int .i64 sz, .int .i64 m1, .int .i64 m2, .int .i64 m3, .int .i64 m4, .int .i64 m5, .string (mkS tg), .string (mkS sm), .int .i64 gr] 35)).1
  have d0 := cell_of (j := 0) hblk (v := .string (mkS p)) rfl
  have hpe : (mkS p).toList.isEmpty = decide (p = []) := by rw [str_nil, bl_mkS]
  have hte : (mkS tg).toList.isEmpty = decide (tg = []) := by rw [str_nil, bl_mkS]
  have hse : (mkS sm).toList.isEmpty = decide (sm = []) := by rw [str_nil, bl_mkS]
  generalize right p = rp at *
  replace hm := Lib.hid hm
  replace h1 := Lib.hid h1
  replace hB := Lib.hid hB
  replace hblk := Lib.hid hblk
  replace k1 := Lib.hid k1
  replace k2 := Lib.hid k2
  replace k3 := Lib.hid k3
  replace kn := Lib.hid kn
  replace kk := Lib.hid kk
  cases rp with
  | false =>
    replace hpe := Lib.hid hpe
    replace hte := Lib.hid hte
    replace hse := Lib.hid hse
    go_enter Try.func38, Try.ntmps38
    go_wp2_with fail
    (with_reducible refine (h1.out _).mono ?_)
    rintro e w1 ⟨rfl, hB1⟩
    go_wp2
    go_ret
    exact ⟨ret_int (kn.out (by simp)).symm, below_step hB.out hB1⟩
  | true =>
    by_cases hp0 : p = []
    · rw [decide_eq_true hp0] at hpe
      replace hp0 := Lib.hid hp0
      replace hte := Lib.hid hte
      replace hse := Lib.hid hse
      go_enter Try.func38, Try.ntmps38
      go_wp2_with fail
      (with_reducible refine (h1.out _).mono ?_)
      rintro e w1 ⟨rfl, hB1⟩
      have e0 := (hB1.cell (cell_lt d0)).trans d0
      clear d0
      go_wp2
      go_ret
      exact ⟨ret_int (kn.out (by simp [hp0.out])).symm, below_step hB.out hB1⟩
    · rw [decide_eq_false hp0] at hpe
      by_cases hk1 : kd = 1
      · subst hk1
        have hE := k1.out rfl hp0 rfl
        replace hE := Lib.hid hE
        replace hp0 := Lib.hid hp0
        cases mk with
        | false =>
          replace hte := Lib.hid hte
          replace hse := Lib.hid hse
          go_enter Try.func38, Try.ntmps38
          go_wp2_with fail
          (with_reducible refine (h1.out _).mono ?_)
          rintro e w1 ⟨rfl, hB1⟩
          have hblk1 := (hB1.block _ (Array.getElem?_eq_some_iff.1 hblk.out).1).trans hblk.out
          have e0 := cell_of (j := 0) hblk1 (v := .string (mkS p)) rfl
          have d1 := cell_of (j := 1) hblk1 rfl
          have d2 := cell_of (j := 2) hblk1 (v := .int .i64 sz) rfl
          have d3 := cell_of (j := 3) hblk1 (v := .int .i64 m1) rfl
          have d4 := cell_of (j := 4) hblk1 (v := .int .i64 m2) rfl
          have d5 := cell_of (j := 5) hblk1 (v := .int .i64 m3) rfl
          have d6 := cell_of (j := 6) hblk1 (v := .int .i64 m4) rfl
          have d7 := cell_of (j := 7) hblk1 (v := .int .i64 m5) rfl
          have d8 := cell_of (j := 8) hblk1 (v := .string (mkS tg)) rfl
          have d9 := cell_of (j := 9) hblk1 (v := .string (mkS sm)) rfl
          have d10 := cell_of (j := 10) hblk1 (v := .int .i64 gr) rfl
          have hB01 := below_step hB.out hB1
          replace hblk1 := Lib.hid hblk1
          replace hB01 := Lib.hid hB01
          clear hB1 d0
          go_upto_region 5 with fail
          go_quiet (fail)
          go_wp2_with fail
          (with_reducible refine (hm.out _).mono ?_)
          rintro e w2 ⟨rfl, hB2⟩
          have hB02 := below_step (below_drewN hB01.out _) hB2
          replace hB02 := Lib.hid hB02
          replace hB2 := Lib.hid hB2
          clear e0 d1 d2 d3 d4 d5 d6 d7 d8 d9 d10
          go_wp2
          go_ret
          exact ⟨ret_int (by rw [hE.out, if_pos (by simp)]), hB02.out⟩
        | true =>
          have hE := hE.out
          simp only [Bool.true_eq_false, false_or] at hE
          replace hE := Lib.hid hE
          by_cases ht0 : tg = []
          · rw [decide_eq_true ht0] at hte
            have hl1 : tg.length = 0 := by rw [ht0]; rfl
            replace ht0 := Lib.hid ht0
            replace hl1 := Lib.hid hl1
            by_cases hs0 : sm = []
            · rw [decide_eq_true hs0] at hse
              have hl2 : sm.length = 0 := by rw [hs0]; rfl
              replace hs0 := Lib.hid hs0
              replace hl2 := Lib.hid hl2
              go_enter Try.func38, Try.ntmps38
              go_wp2_with fail
              (with_reducible refine (h1.out _).mono ?_)
              rintro e w1 ⟨rfl, hB1⟩
              have hblk1 := (hB1.block _ (Array.getElem?_eq_some_iff.1 hblk.out).1).trans hblk.out
              have e0 := cell_of (j := 0) hblk1 (v := .string (mkS p)) rfl
              have d1 := cell_of (j := 1) hblk1 rfl
              have d2 := cell_of (j := 2) hblk1 (v := .int .i64 sz) rfl
              have d3 := cell_of (j := 3) hblk1 (v := .int .i64 m1) rfl
              have d4 := cell_of (j := 4) hblk1 (v := .int .i64 m2) rfl
              have d5 := cell_of (j := 5) hblk1 (v := .int .i64 m3) rfl
              have d6 := cell_of (j := 6) hblk1 (v := .int .i64 m4) rfl
              have d7 := cell_of (j := 7) hblk1 (v := .int .i64 m5) rfl
              have d8 := cell_of (j := 8) hblk1 (v := .string (mkS tg)) rfl
              have d9 := cell_of (j := 9) hblk1 (v := .string (mkS sm)) rfl
              have d10 := cell_of (j := 10) hblk1 (v := .int .i64 gr) rfl
              have hB01 := below_step hB.out hB1
              replace hblk1 := Lib.hid hblk1
              replace hB01 := Lib.hid hB01
              clear hB1 d0
              go_upto_region 5 with fail
              go_quiet (fail)
              go_wp2_with fail
              (with_reducible refine (hm.out _).mono ?_)
              rintro e w2 ⟨rfl, hB2⟩
              have hblk2 := (hB2.block _ (Array.getElem?_eq_some_iff.1 hblk1.out).1).trans hblk1.out
              have hB02 := below_step (below_drewN hB01.out _) hB2
              clear e0 d1 d2 d3 d4 d5 d6 d7 d8 d9 d10 hB2
              have d1 := cell_of (j := 1) hblk2 rfl
              have d2 := cell_of (j := 2) hblk2 (v := .int .i64 sz) rfl
              have d3 := cell_of (j := 3) hblk2 (v := .int .i64 m1) rfl
              have d4 := cell_of (j := 4) hblk2 (v := .int .i64 m2) rfl
              have d5 := cell_of (j := 5) hblk2 (v := .int .i64 m3) rfl
              have d6 := cell_of (j := 6) hblk2 (v := .int .i64 m4) rfl
              have d7 := cell_of (j := 7) hblk2 (v := .int .i64 m5) rfl
              have d8 := cell_of (j := 8) hblk2 (v := .string (mkS tg)) rfl
              have d9 := cell_of (j := 9) hblk2 (v := .string (mkS sm)) rfl
              have d10 := cell_of (j := 10) hblk2 (v := .int .i64 gr) rfl
              replace hblk2 := Lib.hid hblk2
              replace hB02 := Lib.hid hB02
              go_wp2
              all_goals
                go_ret
                refine ⟨ret_int ?_, hB02.out⟩
                have q1 := hl1.out
                have q2 := hl2.out
                rw [hE.out]
                (try simp only [bne_iff_ne, ne_eq, bne_eq_false_iff_eq] at *)
                first | (rw [if_pos (by omega)]; done) | (rw [if_neg (by omega)]; done)
            · rw [decide_eq_false hs0] at hse
              have hl2 : sm.length ≠ 0 := fun h => hs0 (len_nil.2 h)
              replace hs0 := Lib.hid hs0
              replace hl2 := Lib.hid hl2
              go_enter Try.func38, Try.ntmps38
              go_wp2_with fail
              (with_reducible refine (h1.out _).mono ?_)
              rintro e w1 ⟨rfl, hB1⟩
              have hblk1 := (hB1.block _ (Array.getElem?_eq_some_iff.1 hblk.out).1).trans hblk.out
              have e0 := cell_of (j := 0) hblk1 (v := .string (mkS p)) rfl
              have d1 := cell_of (j := 1) hblk1 rfl
              have d2 := cell_of (j := 2) hblk1 (v := .int .i64 sz) rfl
              have d3 := cell_of (j := 3) hblk1 (v := .int .i64 m1) rfl
              have d4 := cell_of (j := 4) hblk1 (v := .int .i64 m2) rfl
              have d5 := cell_of (j := 5) hblk1 (v := .int .i64 m3) rfl
              have d6 := cell_of (j := 6) hblk1 (v := .int .i64 m4) rfl
              have d7 := cell_of (j := 7) hblk1 (v := .int .i64 m5) rfl
              have d8 := cell_of (j := 8) hblk1 (v := .string (mkS tg)) rfl
              have d9 := cell_of (j := 9) hblk1 (v := .string (mkS sm)) rfl
              have d10 := cell_of (j := 10) hblk1 (v := .int .i64 gr) rfl
              have hB01 := below_step hB.out hB1
              replace hblk1 := Lib.hid hblk1
              replace hB01 := Lib.hid hB01
              clear hB1 d0
              go_upto_region 5 with fail
              go_quiet (fail)
              go_wp2_with fail
              (with_reducible refine (hm.out _).mono ?_)
              rintro e w2 ⟨rfl, hB2⟩
              have hblk2 := (hB2.block _ (Array.getElem?_eq_some_iff.1 hblk1.out).1).trans hblk1.out
              have hB02 := below_step (below_drewN hB01.out _) hB2
              clear e0 d1 d2 d3 d4 d5 d6 d7 d8 d9 d10 hB2
              have d1 := cell_of (j := 1) hblk2 rfl
              have d2 := cell_of (j := 2) hblk2 (v := .int .i64 sz) rfl
              have d3 := cell_of (j := 3) hblk2 (v := .int .i64 m1) rfl
              have d4 := cell_of (j := 4) hblk2 (v := .int .i64 m2) rfl
              have d5 := cell_of (j := 5) hblk2 (v := .int .i64 m3) rfl
              have d6 := cell_of (j := 6) hblk2 (v := .int .i64 m4) rfl
              have d7 := cell_of (j := 7) hblk2 (v := .int .i64 m5) rfl
              have d8 := cell_of (j := 8) hblk2 (v := .string (mkS tg)) rfl
              have d9 := cell_of (j := 9) hblk2 (v := .string (mkS sm)) rfl
              have d10 := cell_of (j := 10) hblk2 (v := .int .i64 gr) rfl
              replace hblk2 := Lib.hid hblk2
              replace hB02 := Lib.hid hB02
              go_wp2
              all_goals
                go_ret
                refine ⟨ret_int ?_, hB02.out⟩
                have q1 := hl1.out
                have q2 := hl2.out
                rw [hE.out]
                (try simp only [bne_iff_ne, ne_eq, bne_eq_false_iff_eq] at *)
                first | (rw [if_pos (by omega)]; done) | (rw [if_neg (by omega)]; done)
          · rw [decide_eq_false ht0] at hte
            have hl1 : tg.length ≠ 0 := fun h => ht0 (len_nil.2 h)
            replace ht0 := Lib.hid ht0
            replace hl1 := Lib.hid hl1
            by_cases hs0 : sm = []
            · rw [decide_eq_true hs0] at hse
              have hl2 : sm.length = 0 := by rw [hs0]; rfl
              replace hs0 := Lib.hid hs0
              replace hl2 := Lib.hid hl2
              go_enter Try.func38, Try.ntmps38
              go_wp2_with fail
              (with_reducible refine (h1.out _).mono ?_)
              rintro e w1 ⟨rfl, hB1⟩
              have hblk1 := (hB1.block _ (Array.getElem?_eq_some_iff.1 hblk.out).1).trans hblk.out
              have e0 := cell_of (j := 0) hblk1 (v := .string (mkS p)) rfl
              have d1 := cell_of (j := 1) hblk1 rfl
              have d2 := cell_of (j := 2) hblk1 (v := .int .i64 sz) rfl
              have d3 := cell_of (j := 3) hblk1 (v := .int .i64 m1) rfl
              have d4 := cell_of (j := 4) hblk1 (v := .int .i64 m2) rfl
              have d5 := cell_of (j := 5) hblk1 (v := .int .i64 m3) rfl
              have d6 := cell_of (j := 6) hblk1 (v := .int .i64 m4) rfl
              have d7 := cell_of (j := 7) hblk1 (v := .int .i64 m5) rfl
              have d8 := cell_of (j := 8) hblk1 (v := .string (mkS tg)) rfl
              have d9 := cell_of (j := 9) hblk1 (v := .string (mkS sm)) rfl
              have d10 := cell_of (j := 10) hblk1 (v := .int .i64 gr) rfl
              have hB01 := below_step hB.out hB1
              replace hblk1 := Lib.hid hblk1
              replace hB01 := Lib.hid hB01
              clear hB1 d0
              go_upto_region 5 with fail
              go_quiet (fail)
              go_wp2_with fail
              (with_reducible refine (hm.out _).mono ?_)
              rintro e w2 ⟨rfl, hB2⟩
              have hblk2 := (hB2.block _ (Array.getElem?_eq_some_iff.1 hblk1.out).1).trans hblk1.out
              have hB02 := below_step (below_drewN hB01.out _) hB2
              clear e0 d1 d2 d3 d4 d5 d6 d7 d8 d9 d10 hB2
              have d1 := cell_of (j := 1) hblk2 rfl
              have d2 := cell_of (j := 2) hblk2 (v := .int .i64 sz) rfl
              have d3 := cell_of (j := 3) hblk2 (v := .int .i64 m1) rfl
              have d4 := cell_of (j := 4) hblk2 (v := .int .i64 m2) rfl
              have d5 := cell_of (j := 5) hblk2 (v := .int .i64 m3) rfl
              have d6 := cell_of (j := 6) hblk2 (v := .int .i64 m4) rfl
              have d7 := cell_of (j := 7) hblk2 (v := .int .i64 m5) rfl
              have d8 := cell_of (j := 8) hblk2 (v := .string (mkS tg)) rfl
              have d9 := cell_of (j := 9) hblk2 (v := .string (mkS sm)) rfl
              have d10 := cell_of (j := 10) hblk2 (v := .int .i64 gr) rfl
              replace hblk2 := Lib.hid hblk2
              replace hB02 := Lib.hid hB02
              go_wp2
              all_goals
                go_ret
                refine ⟨ret_int ?_, hB02.out⟩
                have q1 := hl1.out
                have q2 := hl2.out
                rw [hE.out]
                (try simp only [bne_iff_ne, ne_eq, bne_eq_false_iff_eq] at *)
                first | (rw [if_pos (by omega)]; done) | (rw [if_neg (by omega)]; done)
            · rw [decide_eq_false hs0] at hse
              have hl2 : sm.length ≠ 0 := fun h => hs0 (len_nil.2 h)
              replace hs0 := Lib.hid hs0
              replace hl2 := Lib.hid hl2
              go_enter Try.func38, Try.ntmps38
              go_wp2_with fail
              (with_reducible refine (h1.out _).mono ?_)
              rintro e w1 ⟨rfl, hB1⟩
              have hblk1 := (hB1.block _ (Array.getElem?_eq_some_iff.1 hblk.out).1).trans hblk.out
              have e0 := cell_of (j := 0) hblk1 (v := .string (mkS p)) rfl
              have d1 := cell_of (j := 1) hblk1 rfl
              have d2 := cell_of (j := 2) hblk1 (v := .int .i64 sz) rfl
              have d3 := cell_of (j := 3) hblk1 (v := .int .i64 m1) rfl
              have d4 := cell_of (j := 4) hblk1 (v := .int .i64 m2) rfl
              have d5 := cell_of (j := 5) hblk1 (v := .int .i64 m3) rfl
              have d6 := cell_of (j := 6) hblk1 (v := .int .i64 m4) rfl
              have d7 := cell_of (j := 7) hblk1 (v := .int .i64 m5) rfl
              have d8 := cell_of (j := 8) hblk1 (v := .string (mkS tg)) rfl
              have d9 := cell_of (j := 9) hblk1 (v := .string (mkS sm)) rfl
              have d10 := cell_of (j := 10) hblk1 (v := .int .i64 gr) rfl
              have hB01 := below_step hB.out hB1
              replace hblk1 := Lib.hid hblk1
              replace hB01 := Lib.hid hB01
              clear hB1 d0
              go_upto_region 5 with fail
              go_quiet (fail)
              go_wp2_with fail
              (with_reducible refine (hm.out _).mono ?_)
              rintro e w2 ⟨rfl, hB2⟩
              have hblk2 := (hB2.block _ (Array.getElem?_eq_some_iff.1 hblk1.out).1).trans hblk1.out
              have hB02 := below_step (below_drewN hB01.out _) hB2
              clear e0 d1 d2 d3 d4 d5 d6 d7 d8 d9 d10 hB2
              have d1 := cell_of (j := 1) hblk2 rfl
              have d2 := cell_of (j := 2) hblk2 (v := .int .i64 sz) rfl
              have d3 := cell_of (j := 3) hblk2 (v := .int .i64 m1) rfl
              have d4 := cell_of (j := 4) hblk2 (v := .int .i64 m2) rfl
              have d5 := cell_of (j := 5) hblk2 (v := .int .i64 m3) rfl
              have d6 := cell_of (j := 6) hblk2 (v := .int .i64 m4) rfl
              have d7 := cell_of (j := 7) hblk2 (v := .int .i64 m5) rfl
              have d8 := cell_of (j := 8) hblk2 (v := .string (mkS tg)) rfl
              have d9 := cell_of (j := 9) hblk2 (v := .string (mkS sm)) rfl
              have d10 := cell_of (j := 10) hblk2 (v := .int .i64 gr) rfl
              replace hblk2 := Lib.hid hblk2
              replace hB02 := Lib.hid hB02
              go_wp2
              all_goals
                go_ret
                refine ⟨ret_int ?_, hB02.out⟩
                have q1 := hl1.out
                have q2 := hl2.out
                rw [hE.out]
                (try simp only [bne_iff_ne, ne_eq, bne_eq_false_iff_eq] at *)
                first | (rw [if_pos (by omega)]; done) | (rw [if_neg (by omega)]; done)
      · by_cases hk2 : kd = 2
        · subst hk2
          have hE := k2.out rfl hp0 rfl
          replace hE := Lib.hid hE
          replace hp0 := Lib.hid hp0
          clear hk1
          cases mk with
          | false =>
            replace hte := Lib.hid hte
            replace hse := Lib.hid hse
            go_enter Try.func38, Try.ntmps38
            go_wp2_with fail
            (with_reducible refine (h1.out _).mono ?_)
            rintro e w1 ⟨rfl, hB1⟩
            have hblk1 := (hB1.block _ (Array.getElem?_eq_some_iff.1 hblk.out).1).trans hblk.out
            have e0 := cell_of (j := 0) hblk1 (v := .string (mkS p)) rfl
            have d1 := cell_of (j := 1) hblk1 rfl
            have d2 := cell_of (j := 2) hblk1 (v := .int .i64 sz) rfl
            have d3 := cell_of (j := 3) hblk1 (v := .int .i64 m1) rfl
            have d4 := cell_of (j := 4) hblk1 (v := .int .i64 m2) rfl
            have d5 := cell_of (j := 5) hblk1 (v := .int .i64 m3) rfl
            have d6 := cell_of (j := 6) hblk1 (v := .int .i64 m4) rfl
            have d7 := cell_of (j := 7) hblk1 (v := .int .i64 m5) rfl
            have d8 := cell_of (j := 8) hblk1 (v := .string (mkS tg)) rfl
            have d9 := cell_of (j := 9) hblk1 (v := .string (mkS sm)) rfl
            have d10 := cell_of (j := 10) hblk1 (v := .int .i64 gr) rfl
            have hB01 := below_step hB.out hB1
            replace hblk1 := Lib.hid hblk1
            replace hB01 := Lib.hid hB01
            clear hB1 d0
            go_upto_region 5 with fail
            go_quiet (fail)
            go_wp2_with fail
            (with_reducible refine (hm.out _).mono ?_)
            rintro e w2 ⟨rfl, hB2⟩
            have hB02 := below_step (below_drewN hB01.out _) hB2
            replace hB02 := Lib.hid hB02
            replace hB2 := Lib.hid hB2
            clear e0 d1 d2 d3 d4 d5 d6 d7 d8 d9 d10
            go_wp2
            go_ret
            exact ⟨ret_int (by rw [hE.out, if_pos (by simp)]), hB02.out⟩
          | true =>
            have hE := hE.out
            simp only [Bool.true_eq_false, false_or] at hE
            replace hE := Lib.hid hE
            by_cases ht0 : tg = []
            · rw [decide_eq_true ht0] at hte
              have hl1 : tg.length = 0 := by rw [ht0]; rfl
              replace ht0 := Lib.hid ht0
              replace hl1 := Lib.hid hl1
              by_cases hs0 : sm = []
              · rw [decide_eq_true hs0] at hse
                have hl2 : sm.length = 0 := by rw [hs0]; rfl
                replace hs0 := Lib.hid hs0
                replace hl2 := Lib.hid hl2
                go_enter Try.func38, Try.ntmps38
                go_wp2_with fail
                (with_reducible refine (h1.out _).mono ?_)
                rintro e w1 ⟨rfl, hB1⟩
                have hblk1 := (hB1.block _ (Array.getElem?_eq_some_iff.1 hblk.out).1).trans hblk.out
                have e0 := cell_of (j := 0) hblk1 (v := .string (mkS p)) rfl
                have d1 := cell_of (j := 1) hblk1 rfl
                have d2 := cell_of (j := 2) hblk1 (v := .int .i64 sz) rfl
                have d3 := cell_of (j := 3) hblk1 (v := .int .i64 m1) rfl
                have d4 := cell_of (j := 4) hblk1 (v := .int .i64 m2) rfl
                have d5 := cell_of (j := 5) hblk1 (v := .int .i64 m3) rfl
                have d6 := cell_of (j := 6) hblk1 (v := .int .i64 m4) rfl
                have d7 := cell_of (j := 7) hblk1 (v := .int .i64 m5) rfl
                have d8 := cell_of (j := 8) hblk1 (v := .string (mkS tg)) rfl
                have d9 := cell_of (j := 9) hblk1 (v := .string (mkS sm)) rfl
                have d10 := cell_of (j := 10) hblk1 (v := .int .i64 gr) rfl
                have hB01 := below_step hB.out hB1
                replace hblk1 := Lib.hid hblk1
                replace hB01 := Lib.hid hB01
                clear hB1 d0
                go_upto_region 5 with fail
                go_quiet (fail)
                go_wp2_with fail
                (with_reducible refine (hm.out _).mono ?_)
                rintro e w2 ⟨rfl, hB2⟩
                have hblk2 := (hB2.block _ (Array.getElem?_eq_some_iff.1 hblk1.out).1).trans hblk1.out
                have hB02 := below_step (below_drewN hB01.out _) hB2
                clear e0 d1 d2 d3 d4 d5 d6 d7 d8 d9 d10 hB2
                have d1 := cell_of (j := 1) hblk2 rfl
                have d2 := cell_of (j := 2) hblk2 (v := .int .i64 sz) rfl
                have d3 := cell_of (j := 3) hblk2 (v := .int .i64 m1) rfl
                have d4 := cell_of (j := 4) hblk2 (v := .int .i64 m2) rfl
                have d5 := cell_of (j := 5) hblk2 (v := .int .i64 m3) rfl
                have d6 := cell_of (j := 6) hblk2 (v := .int .i64 m4) rfl
                have d7 := cell_of (j := 7) hblk2 (v := .int .i64 m5) rfl
                have d8 := cell_of (j := 8) hblk2 (v := .string (mkS tg)) rfl
                have d9 := cell_of (j := 9) hblk2 (v := .string (mkS sm)) rfl
                have d10 := cell_of (j := 10) hblk2 (v := .int .i64 gr) rfl
                replace hblk2 := Lib.hid hblk2
                replace hB02 := Lib.hid hB02
                go_wp2
                all_goals
                  go_ret
                  refine ⟨ret_int ?_, hB02.out⟩
                  have q1 := hl1.out
                  have q2 := hl2.out
                  rw [hE.out]
                  (try simp only [bne_iff_ne, ne_eq, bne_eq_false_iff_eq] at *)
                  first | (rw [if_pos (by omega)]; done) | (rw [if_neg (by omega)]; done)
              · rw [decide_eq_false hs0] at hse
                have hl2 : sm.length ≠ 0 := fun h => hs0 (len_nil.2 h)
                replace hs0 := Lib.hid hs0
                replace hl2 := Lib.hid hl2
                go_enter Try.func38, Try.ntmps38
                go_wp2_with fail
                (with_reducible refine (h1.out _).mono ?_)
                rintro e w1 ⟨rfl, hB1⟩
                have hblk1 := (hB1.block _ (Array.getElem?_eq_some_iff.1 hblk.out).1).trans hblk.out
                have e0 := cell_of (j := 0) hblk1 (v := .string (mkS p)) rfl
                have d1 := cell_of (j := 1) hblk1 rfl
                have d2 := cell_of (j := 2) hblk1 (v := .int .i64 sz) rfl
                have d3 := cell_of (j := 3) hblk1 (v := .int .i64 m1) rfl
                have d4 := cell_of (j := 4) hblk1 (v := .int .i64 m2) rfl
                have d5 := cell_of (j := 5) hblk1 (v := .int .i64 m3) rfl
                have d6 := cell_of (j := 6) hblk1 (v := .int .i64 m4) rfl
                have d7 := cell_of (j := 7) hblk1 (v := .int .i64 m5) rfl
                have d8 := cell_of (j := 8) hblk1 (v := .string (mkS tg)) rfl
                have d9 := cell_of (j := 9) hblk1 (v := .string (mkS sm)) rfl
                have d10 := cell_of (j := 10) hblk1 (v := .int .i64 gr) rfl
                have hB01 := below_step hB.out hB1
                replace hblk1 := Lib.hid hblk1
                replace hB01 := Lib.hid hB01
                clear hB1 d0
                go_upto_region 5 with fail
                go_quiet (fail)
                go_wp2_with fail
                (with_reducible refine (hm.out _).mono ?_)
                rintro e w2 ⟨rfl, hB2⟩
                have hblk2 := (hB2.block _ (Array.getElem?_eq_some_iff.1 hblk1.out).1).trans hblk1.out
                have hB02 := below_step (below_drewN hB01.out _) hB2
                clear e0 d1 d2 d3 d4 d5 d6 d7 d8 d9 d10 hB2
                have d1 := cell_of (j := 1) hblk2 rfl
                have d2 := cell_of (j := 2) hblk2 (v := .int .i64 sz) rfl
                have d3 := cell_of (j := 3) hblk2 (v := .int .i64 m1) rfl
                have d4 := cell_of (j := 4) hblk2 (v := .int .i64 m2) rfl
                have d5 := cell_of (j := 5) hblk2 (v := .int .i64 m3) rfl
                have d6 := cell_of (j := 6) hblk2 (v := .int .i64 m4) rfl
                have d7 := cell_of (j := 7) hblk2 (v := .int .i64 m5) rfl
                have d8 := cell_of (j := 8) hblk2 (v := .string (mkS tg)) rfl
                have d9 := cell_of (j := 9) hblk2 (v := .string (mkS sm)) rfl
                have d10 := cell_of (j := 10) hblk2 (v := .int .i64 gr) rfl
                replace hblk2 := Lib.hid hblk2
                replace hB02 := Lib.hid hB02
                go_wp2
                all_goals
                  go_ret
                  refine ⟨ret_int ?_, hB02.out⟩
                  have q1 := hl1.out
                  have q2 := hl2.out
                  rw [hE.out]
                  (try simp only [bne_iff_ne, ne_eq, bne_eq_false_iff_eq] at *)
                  first | (rw [if_pos (by omega)]; done) | (rw [if_neg (by omega)]; done)
            · rw [decide_eq_false ht0] at hte
              have hl1 : tg.length ≠ 0 := fun h => ht0 (len_nil.2 h)
              replace ht0 := Lib.hid ht0
              replace hl1 := Lib.hid hl1
              by_cases hs0 : sm = []
              · rw [decide_eq_true hs0] at hse
                have hl2 : sm.length = 0 := by rw [hs0]; rfl
                replace hs0 := Lib.hid hs0
                replace hl2 := Lib.hid hl2
                go_enter Try.func38, Try.ntmps38
                go_wp2_with fail
                (with_reducible refine (h1.out _).mono ?_)
                rintro e w1 ⟨rfl, hB1⟩
                have hblk1 := (hB1.block _ (Array.getElem?_eq_some_iff.1 hblk.out).1).trans hblk.out
                have e0 := cell_of (j := 0) hblk1 (v := .string (mkS p)) rfl
                have d1 := cell_of (j := 1) hblk1 rfl
                have d2 := cell_of (j := 2) hblk1 (v := .int .i64 sz) rfl
                have d3 := cell_of (j := 3) hblk1 (v := .int .i64 m1) rfl
                have d4 := cell_of (j := 4) hblk1 (v := .int .i64 m2) rfl
                have d5 := cell_of (j := 5) hblk1 (v := .int .i64 m3) rfl
                have d6 := cell_of (j := 6) hblk1 (v := .int .i64 m4) rfl
                have d7 := cell_of (j := 7) hblk1 (v := .int .i64 m5) rfl
                have d8 := cell_of (j := 8) hblk1 (v := .string (mkS tg)) rfl
                have d9 := cell_of (j := 9) hblk1 (v := .string (mkS sm)) rfl
                have d10 := cell_of (j := 10) hblk1 (v := .int .i64 gr) rfl
                have hB01 := below_step hB.out hB1
                replace hblk1 := Lib.hid hblk1
                replace hB01 := Lib.hid hB01
                clear hB1 d0
                go_upto_region 5 with fail
                go_quiet (fail)
                go_wp2_with fail
                (with_reducible refine (hm.out _).mono ?_)
                rintro e w2 ⟨rfl, hB2⟩
                have hblk2 := (hB2.block _ (Array.getElem?_eq_some_iff.1 hblk1.out).1).trans hblk1.out
                have hB02 := below_step (below_drewN hB01.out _) hB2
                clear e0 d1 d2 d3 d4 d5 d6 d7 d8 d9 d10 hB2
                have d1 := cell_of (j := 1) hblk2 rfl
                have d2 := cell_of (j := 2) hblk2 (v := .int .i64 sz) rfl
                have d3 := cell_of (j := 3) hblk2 (v := .int .i64 m1) rfl
                have d4 := cell_of (j := 4) hblk2 (v := .int .i64 m2) rfl
                have d5 := cell_of (j := 5) hblk2 (v := .int .i64 m3) rfl
                have d6 := cell_of (j := 6) hblk2 (v := .int .i64 m4) rfl
                have d7 := cell_of (j := 7) hblk2 (v := .int .i64 m5) rfl
                have d8 := cell_of (j := 8) hblk2 (v := .string (mkS tg)) rfl
                have d9 := cell_of (j := 9) hblk2 (v := .string (mkS sm)) rfl
                have d10 := cell_of (j := 10) hblk2 (v := .int .i64 gr) rfl
                replace hblk2 := Lib.hid hblk2
                replace hB02 := Lib.hid hB02
                go_wp2
                all_goals
                  go_ret
                  refine ⟨ret_int ?_, hB02.out⟩
                  have q1 := hl1.out
                  have q2 := hl2.out
                  rw [hE.out]
                  (try simp only [bne_iff_ne, ne_eq, bne_eq_false_iff_eq] at *)
                  first | (rw [if_pos (by omega)]; done) | (rw [if_neg (by omega)]; done)
              · rw [decide_eq_false hs0] at hse
                have hl2 : sm.length ≠ 0 := fun h => hs0 (len_nil.2 h)
                replace hs0 := Lib.hid hs0
                replace hl2 := Lib.hid hl2
                go_enter Try.func38, Try.ntmps38
                go_wp2_with fail
                (with_reducible refine (h1.out _).mono ?_)
                rintro e w1 ⟨rfl, hB1⟩
                have hblk1 := (hB1.block _ (Array.getElem?_eq_some_iff.1 hblk.out).1).trans hblk.out
                have e0 := cell_of (j := 0) hblk1 (v := .string (mkS p)) rfl
                have d1 := cell_of (j := 1) hblk1 rfl
                have d2 := cell_of (j := 2) hblk1 (v := .int .i64 sz) rfl
                have d3 := cell_of (j := 3) hblk1 (v := .int .i64 m1) rfl
                have d4 := cell_of (j := 4) hblk1 (v := .int .i64 m2) rfl
                have d5 := cell_of (j := 5) hblk1 (v := .int .i64 m3) rfl
                have d6 := cell_of (j := 6) hblk1 (v := .int .i64 m4) rfl
                have d7 := cell_of (j := 7) hblk1 (v := .int .i64 m5) rfl
                have d8 := cell_of (j := 8) hblk1 (v := .string (mkS tg)) rfl
                have d9 := cell_of (j := 9) hblk1 (v := .string (mkS sm)) rfl
                have d10 := cell_of (j := 10) hblk1 (v := .int .i64 gr) rfl
                have hB01 := below_step hB.out hB1
                replace hblk1 := Lib.hid hblk1
                replace hB01 := Lib.hid hB01
                clear hB1 d0
                go_upto_region 5 with fail
                go_quiet (fail)
                go_wp2_with fail
                (with_reducible refine (hm.out _).mono ?_)
                rintro e w2 ⟨rfl, hB2⟩
                have hblk2 := (hB2.block _ (Array.getElem?_eq_some_iff.1 hblk1.out).1).trans hblk1.out
                have hB02 := below_step (below_drewN hB01.out _) hB2
                clear e0 d1 d2 d3 d4 d5 d6 d7 d8 d9 d10 hB2
                have d1 := cell_of (j := 1) hblk2 rfl
                have d2 := cell_of (j := 2) hblk2 (v := .int .i64 sz) rfl
                have d3 := cell_of (j := 3) hblk2 (v := .int .i64 m1) rfl
                have d4 := cell_of (j := 4) hblk2 (v := .int .i64 m2) rfl
                have d5 := cell_of (j := 5) hblk2 (v := .int .i64 m3) rfl
                have d6 := cell_of (j := 6) hblk2 (v := .int .i64 m4) rfl
                have d7 := cell_of (j := 7) hblk2 (v := .int .i64 m5) rfl
                have d8 := cell_of (j := 8) hblk2 (v := .string (mkS tg)) rfl
                have d9 := cell_of (j := 9) hblk2 (v := .string (mkS sm)) rfl
                have d10 := cell_of (j := 10) hblk2 (v := .int .i64 gr) rfl
                replace hblk2 := Lib.hid hblk2
                replace hB02 := Lib.hid hB02
                go_wp2
                all_goals
                  go_ret
                  refine ⟨ret_int ?_, hB02.out⟩
                  have q1 := hl1.out
                  have q2 := hl2.out
                  rw [hE.out]
                  (try simp only [bne_iff_ne, ne_eq, bne_eq_false_iff_eq] at *)
                  first | (rw [if_pos (by omega)]; done) | (rw [if_neg (by omega)]; done)
        · by_cases hk3 : kd = 3
          · subst hk3
            have hE := k3.out rfl hp0 rfl
            replace hE := Lib.hid hE
            replace hp0 := Lib.hid hp0
            clear hk1 hk2
            cases mk with
            | false =>
              replace hte := Lib.hid hte
              replace hse := Lib.hid hse
              go_enter Try.func38, Try.ntmps38
              go_wp2_with fail
              (with_reducible refine (h1.out _).mono ?_)
              rintro e w1 ⟨rfl, hB1⟩
              have hblk1 := (hB1.block _ (Array.getElem?_eq_some_iff.1 hblk.out).1).trans hblk.out
              have e0 := cell_of (j := 0) hblk1 (v := .string (mkS p)) rfl
              have d1 := cell_of (j := 1) hblk1 rfl
              have d2 := cell_of (j := 2) hblk1 (v := .int .i64 sz) rfl
              have d3 := cell_of (j := 3) hblk1 (v := .int .i64 m1) rfl
              have d4 := cell_of (j := 4) hblk1 (v := .int .i64 m2) rfl
              have d5 := cell_of (j := 5) hblk1 (v := .int .i64 m3) rfl
              have d6 := cell_of (j := 6) hblk1 (v := .int .i64 m4) rfl
              have d7 := cell_of (j := 7) hblk1 (v := .int .i64 m5) rfl
              have d8 := cell_of (j := 8) hblk1 (v := .string (mkS tg)) rfl
              have d9 := cell_of (j := 9) hblk1 (v := .string (mkS sm)) rfl
              have d10 := cell_of (j := 10) hblk1 (v := .int .i64 gr) rfl
              have hB01 := below_step hB.out hB1
              replace hblk1 := Lib.hid hblk1
              replace hB01 := Lib.hid hB01
              clear hB1 d0
              go_upto_region 5 with fail
              go_quiet (fail)
              go_wp2_with fail
              (with_reducible refine (hm.out _).mono ?_)
              rintro e w2 ⟨rfl, hB2⟩
              have hB02 := below_step (below_drewN hB01.out _) hB2
              replace hB02 := Lib.hid hB02
              replace hB2 := Lib.hid hB2
              clear e0 d1 d2 d3 d4 d5 d6 d7 d8 d9 d10
              go_wp2
              go_ret
              exact ⟨ret_int (by rw [hE.out, if_pos (by simp)]), hB02.out⟩
            | true =>
              have hE := hE.out
              simp only [Bool.true_eq_false, false_or] at hE
              replace hE := Lib.hid hE
              by_cases ht0 : tg = []
              · rw [decide_eq_true ht0] at hte
                have hl1 : tg.length = 0 := by rw [ht0]; rfl
                replace ht0 := Lib.hid ht0
                replace hl1 := Lib.hid hl1
                by_cases hs0 : sm = []
                · rw [decide_eq_true hs0] at hse
                  have hl2 : sm.length = 0 := by rw [hs0]; rfl
                  replace hs0 := Lib.hid hs0
                  replace hl2 := Lib.hid hl2
                  go_enter Try.func38, Try.ntmps38
                  go_wp2_with fail
                  (with_reducible refine (h1.out _).mono ?_)
                  rintro e w1 ⟨rfl, hB1⟩
                  have hblk1 := (hB1.block _ (Array.getElem?_eq_some_iff.1 hblk.out).1).trans hblk.out
                  have e0 := cell_of (j := 0) hblk1 (v := .string (mkS p)) rfl
                  have d1 := cell_of (j := 1) hblk1 rfl
                  have d2 := cell_of (j := 2) hblk1 (v := .int .i64 sz) rfl
                  have d3 := cell_of (j := 3) hblk1 (v := .int .i64 m1) rfl
                  have d4 := cell_of (j := 4) hblk1 (v := .int .i64 m2) rfl
                  have d5 := cell_of (j := 5) hblk1 (v := .int .i64 m3) rfl
                  have d6 := cell_of (j := 6) hblk1 (v := .int .i64 m4) rfl
                  have d7 := cell_of (j := 7) hblk1 (v := .int .i64 m5) rfl
                  have d8 := cell_of (j := 8) hblk1 (v := .string (mkS tg)) rfl
                  have d9 := cell_of (j := 9) hblk1 (v := .string (mkS sm)) rfl
                  have d10 := cell_of (j := 10) hblk1 (v := .int .i64 gr) rfl
                  have hB01 := below_step hB.out hB1
                  replace hblk1 := Lib.hid hblk1
                  replace hB01 := Lib.hid hB01
                  clear hB1 d0
                  go_upto_region 5 with fail
                  go_quiet (fail)
                  go_wp2_with fail
                  (with_reducible refine (hm.out _).mono ?_)
                  rintro e w2 ⟨rfl, hB2⟩
                  have hblk2 := (hB2.block _ (Array.getElem?_eq_some_iff.1 hblk1.out).1).trans hblk1.out
                  have hB02 := below_step (below_drewN hB01.out _) hB2
                  clear e0 d1 d2 d3 d4 d5 d6 d7 d8 d9 d10 hB2
                  have d1 := cell_of (j := 1) hblk2 rfl
                  have d2 := cell_of (j := 2) hblk2 (v := .int .i64 sz) rfl
                  have d3 := cell_of (j := 3) hblk2 (v := .int .i64 m1) rfl
                  have d4 := cell_of (j := 4) hblk2 (v := .int .i64 m2) rfl
                  have d5 := cell_of (j := 5) hblk2 (v := .int .i64 m3) rfl
                  have d6 := cell_of (j := 6) hblk2 (v := .int .i64 m4) rfl
                  have d7 := cell_of (j := 7) hblk2 (v := .int .i64 m5) rfl
                  have d8 := cell_of (j := 8) hblk2 (v := .string (mkS tg)) rfl
                  have d9 := cell_of (j := 9) hblk2 (v := .string (mkS sm)) rfl
                  have d10 := cell_of (j := 10) hblk2 (v := .int .i64 gr) rfl
                  replace hblk2 := Lib.hid hblk2
                  replace hB02 := Lib.hid hB02
                  go_wp2
                  all_goals
                    go_ret
                    refine ⟨ret_int ?_, hB02.out⟩
                    have q1 := hl1.out
                    have q2 := hl2.out
                    rw [hE.out]
                    (try simp only [bne_iff_ne, ne_eq, bne_eq_false_iff_eq] at *)
                    first | (rw [if_pos (by omega)]; done) | (rw [if_neg (by omega)]; done)
                · rw [decide_eq_false hs0] at hse
                  have hl2 : sm.length ≠ 0 := fun h => hs0 (len_nil.2 h)
                  replace hs0 := Lib.hid hs0
                  replace hl2 := Lib.hid hl2
                  go_enter Try.func38, Try.ntmps38
                  go_wp2_with fail
                  (with_reducible refine (h1.out _).mono ?_)
                  rintro e w1 ⟨rfl, hB1⟩
                  have hblk1 := (hB1.block _ (Array.getElem?_eq_some_iff.1 hblk.out).1).trans hblk.out
                  have e0 := cell_of (j := 0) hblk1 (v := .string (mkS p)) rfl
                  have d1 := cell_of (j := 1) hblk1 rfl
                  have d2 := cell_of (j := 2) hblk1 (v := .int .i64 sz) rfl
                  have d3 := cell_of (j := 3) hblk1 (v := .int .i64 m1) rfl
                  have d4 := cell_of (j := 4) hblk1 (v := .int .i64 m2) rfl
                  have d5 := cell_of (j := 5) hblk1 (v := .int .i64 m3) rfl
                  have d6 := cell_of (j := 6) hblk1 (v := .int .i64 m4) rfl
                  have d7 := cell_of (j := 7) hblk1 (v := .int .i64 m5) rfl
                  have d8 := cell_of (j := 8) hblk1 (v := .string (mkS tg)) rfl
                  have d9 := cell_of (j := 9) hblk1 (v := .string (mkS sm)) rfl
                  have d10 := cell_of (j := 10) hblk1 (v := .int .i64 gr) rfl
                  have hB01 := below_step hB.out hB1
                  replace hblk1 := Lib.hid hblk1
                  replace hB01 := Lib.hid hB01
                  clear hB1 d0
                  go_upto_region 5 with fail
                  go_quiet (fail)
                  go_wp2_with fail
                  (with_reducible refine (hm.out _).mono ?_)
                  rintro e w2 ⟨rfl, hB2⟩
                  have hblk2 := (hB2.block _ (Array.getElem?_eq_some_iff.1 hblk1.out).1).trans hblk1.out
                  have hB02 := below_step (below_drewN hB01.out _) hB2
                  clear e0 d1 d2 d3 d4 d5 d6 d7 d8 d9 d10 hB2
                  have d1 := cell_of (j := 1) hblk2 rfl
                  have d2 := cell_of (j := 2) hblk2 (v := .int .i64 sz) rfl
                  have d3 := cell_of (j := 3) hblk2 (v := .int .i64 m1) rfl
                  have d4 := cell_of (j := 4) hblk2 (v := .int .i64 m2) rfl
                  have d5 := cell_of (j := 5) hblk2 (v := .int .i64 m3) rfl
                  have d6 := cell_of (j := 6) hblk2 (v := .int .i64 m4) rfl
                  have d7 := cell_of (j := 7) hblk2 (v := .int .i64 m5) rfl
                  have d8 := cell_of (j := 8) hblk2 (v := .string (mkS tg)) rfl
                  have d9 := cell_of (j := 9) hblk2 (v := .string (mkS sm)) rfl
                  have d10 := cell_of (j := 10) hblk2 (v := .int .i64 gr) rfl
                  replace hblk2 := Lib.hid hblk2
                  replace hB02 := Lib.hid hB02
                  go_wp2
                  all_goals
                    go_ret
                    refine ⟨ret_int ?_, hB02.out⟩
                    have q1 := hl1.out
                    have q2 := hl2.out
                    rw [hE.out]
                    (try simp only [bne_iff_ne, ne_eq, bne_eq_false_iff_eq] at *)
                    first | (rw [if_pos (by omega)]; done) | (rw [if_neg (by omega)]; done)
              · rw [decide_eq_false ht0] at hte
                have hl1 : tg.length ≠ 0 := fun h => ht0 (len_nil.2 h)
                replace ht0 := Lib.hid ht0
                replace hl1 := Lib.hid hl1
                by_cases hs0 : sm = []
                · rw [decide_eq_true hs0] at hse
                  have hl2 : sm.length = 0 := by rw [hs0]; rfl
                  replace hs0 := Lib.hid hs0
                  replace hl2 := Lib.hid hl2
                  go_enter Try.func38, Try.ntmps38
                  go_wp2_with fail
                  (with_reducible refine (h1.out _).mono ?_)
                  rintro e w1 ⟨rfl, hB1⟩
                  have hblk1 := (hB1.block _ (Array.getElem?_eq_some_iff.1 hblk.out).1).trans hblk.out
                  have e0 := cell_of (j := 0) hblk1 (v := .string (mkS p)) rfl
                  have d1 := cell_of (j := 1) hblk1 rfl
                  have d2 := cell_of (j := 2) hblk1 (v := .int .i64 sz) rfl
                  have d3 := cell_of (j := 3) hblk1 (v := .int .i64 m1) rfl
                  have d4 := cell_of (j := 4) hblk1 (v := .int .i64 m2) rfl
                  have d5 := cell_of (j := 5) hblk1 (v := .int .i64 m3) rfl
                  have d6 := cell_of (j := 6) hblk1 (v := .int .i64 m4) rfl
                  have d7 := cell_of (j := 7) hblk1 (v := .int .i64 m5) rfl
                  have d8 := cell_of (j := 8) hblk1 (v := .string (mkS tg)) rfl
                  have d9 := cell_of (j := 9) hblk1 (v := .string (mkS sm)) rfl
                  have d10 := cell_of (j := 10) hblk1 (v := .int .i64 gr) rfl
                  have hB01 := below_step hB.out hB1
                  replace hblk1 := Lib.hid hblk1
                  replace hB01 := Lib.hid hB01
                  clear hB1 d0
                  go_upto_region 5 with fail
                  go_quiet (fail)
                  go_wp2_with fail
                  (with_reducible refine (hm.out _).mono ?_)
                  rintro e w2 ⟨rfl, hB2⟩
                  have hblk2 := (hB2.block _ (Array.getElem?_eq_some_iff.1 hblk1.out).1).trans hblk1.out
                  have hB02 := below_step (below_drewN hB01.out _) hB2
                  clear e0 d1 d2 d3 d4 d5 d6 d7 d8 d9 d10 hB2
                  have d1 := cell_of (j := 1) hblk2 rfl
                  have d2 := cell_of (j := 2) hblk2 (v := .int .i64 sz) rfl
                  have d3 := cell_of (j := 3) hblk2 (v := .int .i64 m1) rfl
                  have d4 := cell_of (j := 4) hblk2 (v := .int .i64 m2) rfl
                  have d5 := cell_of (j := 5) hblk2 (v := .int .i64 m3) rfl
                  have d6 := cell_of (j := 6) hblk2 (v := .int .i64 m4) rfl
                  have d7 := cell_of (j := 7) hblk2 (v := .int .i64 m5) rfl
                  have d8 := cell_of (j := 8) hblk2 (v := .string (mkS tg)) rfl
                  have d9 := cell_of (j := 9) hblk2 (v := .string (mkS sm)) rfl
                  have d10 := cell_of (j := 10) hblk2 (v := .int .i64 gr) rfl
                  replace hblk2 := Lib.hid hblk2
                  replace hB02 := Lib.hid hB02
                  go_wp2
                  all_goals
                    go_ret
                    refine ⟨ret_int ?_, hB02.out⟩
                    have q1 := hl1.out
                    have q2 := hl2.out
                    rw [hE.out]
                    (try simp only [bne_iff_ne, ne_eq, bne_eq_false_iff_eq] at *)
                    first | (rw [if_pos (by omega)]; done) | (rw [if_neg (by omega)]; done)
                · rw [decide_eq_false hs0] at hse
                  have hl2 : sm.length ≠ 0 := fun h => hs0 (len_nil.2 h)
                  replace hs0 := Lib.hid hs0
                  replace hl2 := Lib.hid hl2
                  go_enter Try.func38, Try.ntmps38
                  go_wp2_with fail
                  (with_reducible refine (h1.out _).mono ?_)
                  rintro e w1 ⟨rfl, hB1⟩
                  have hblk1 := (hB1.block _ (Array.getElem?_eq_some_iff.1 hblk.out).1).trans hblk.out
                  have e0 := cell_of (j := 0) hblk1 (v := .string (mkS p)) rfl
                  have d1 := cell_of (j := 1) hblk1 rfl
                  have d2 := cell_of (j := 2) hblk1 (v := .int .i64 sz) rfl
                  have d3 := cell_of (j := 3) hblk1 (v := .int .i64 m1) rfl
                  have d4 := cell_of (j := 4) hblk1 (v := .int .i64 m2) rfl
                  have d5 := cell_of (j := 5) hblk1 (v := .int .i64 m3) rfl
                  have d6 := cell_of (j := 6) hblk1 (v := .int .i64 m4) rfl
                  have d7 := cell_of (j := 7) hblk1 (v := .int .i64 m5) rfl
                  have d8 := cell_of (j := 8) hblk1 (v := .string (mkS tg)) rfl
                  have d9 := cell_of (j := 9) hblk1 (v := .string (mkS sm)) rfl
                  have d10 := cell_of (j := 10) hblk1 (v := .int .i64 gr) rfl
                  have hB01 := below_step hB.out hB1
                  replace hblk1 := Lib.hid hblk1
                  replace hB01 := Lib.hid hB01
                  clear hB1 d0
                  go_upto_region 5 with fail
                  go_quiet (fail)
                  go_wp2_with fail
                  (with_reducible refine (hm.out _).mono ?_)
                  rintro e w2 ⟨rfl, hB2⟩
                  have hblk2 := (hB2.block _ (Array.getElem?_eq_some_iff.1 hblk1.out).1).trans hblk1.out
                  have hB02 := below_step (below_drewN hB01.out _) hB2
                  clear e0 d1 d2 d3 d4 d5 d6 d7 d8 d9 d10 hB2
                  have d1 := cell_of (j := 1) hblk2 rfl
                  have d2 := cell_of (j := 2) hblk2 (v := .int .i64 sz) rfl
                  have d3 := cell_of (j := 3) hblk2 (v := .int .i64 m1) rfl
                  have d4 := cell_of (j := 4) hblk2 (v := .int .i64 m2) rfl
                  have d5 := cell_of (j := 5) hblk2 (v := .int .i64 m3) rfl
                  have d6 := cell_of (j := 6) hblk2 (v := .int .i64 m4) rfl
                  have d7 := cell_of (j := 7) hblk2 (v := .int .i64 m5) rfl
                  have d8 := cell_of (j := 8) hblk2 (v := .string (mkS tg)) rfl
                  have d9 := cell_of (j := 9) hblk2 (v := .string (mkS sm)) rfl
                  have d10 := cell_of (j := 10) hblk2 (v := .int .i64 gr) rfl
                  replace hblk2 := Lib.hid hblk2
                  replace hB02 := Lib.hid hB02
                  go_wp2
                  all_goals
                    go_ret
                    refine ⟨ret_int ?_, hB02.out⟩
                    have q1 := hl1.out
                    have q2 := hl2.out
                    rw [hE.out]
                    (try simp only [bne_iff_ne, ne_eq, bne_eq_false_iff_eq] at *)
                    first | (rw [if_pos (by omega)]; done) | (rw [if_neg (by omega)]; done)
          · have hE := kk.out rfl hp0 hk1 hk2 hk3
            have z0 : kd < 1 ∨ (1 ≤ kd ∧ 3 < kd) := by omega
            replace hE := Lib.hid hE
            replace hp0 := Lib.hid hp0
            replace hk1 := Lib.hid hk1
            replace hk2 := Lib.hid hk2
            replace hk3 := Lib.hid hk3
            replace hte := Lib.hid hte
            replace hse := Lib.hid hse
            rcases z0 with z0 | ⟨z0, z1⟩
            all_goals
              go_enter Try.func38, Try.ntmps38
              go_wp2_with fail
              (with_reducible refine (h1.out _).mono ?_)
              rintro e w1 ⟨rfl, hB1⟩
              have hblk1 := (hB1.block _ (Array.getElem?_eq_some_iff.1 hblk.out).1).trans hblk.out
              have e0 := cell_of (j := 0) hblk1 (v := .string (mkS p)) rfl
              have d1 := cell_of (j := 1) hblk1 rfl
              have hB01 := below_step hB.out hB1
              replace hblk1 := Lib.hid hblk1
              replace hB01 := Lib.hid hB01
              clear hB1 d0
              go_wp2
              go_ret
              exact ⟨ret_int hE.out.symm, hB01.out⟩

end Go.Proofs.Ytcjlfkklpghjbaa

namespace Go.Proofs.Ytcjlfkklpghjbaa
open Go.RowKit

def entOk (x : Ent) : Bool := decide (x.path.length ≤ 600) && decide (x.target.length ≤ 600) && decide (x.sum.length ≤ 100)
def smallEs (l : List Ent) : Bool := l.all entOk && decide (l.length ≤ 60)
theorem smallEs_at {l : List Ent} (h : smallEs l = true) : l.length ≤ 60 ∧ ∀ x ∈ l, x.path.length ≤ 600 ∧ x.target.length ≤ 600 ∧ x.sum.length ≤ 100 := by
  unfold smallEs at h
  simp only [Bool.and_eq_true, decide_eq_true_eq, List.all_eq_true] at h
  refine ⟨h.2, fun a ha => ?_⟩
  have := h.1 a ha
  unfold entOk at this
  simp only [Bool.and_eq_true, decide_eq_true_eq] at this
  exact ⟨this.1.1, this.1.2, this.2⟩

theorem Ents.shape {W : World} {v : Value} {l : List Ent} (h : Ents W v l) : ∃ A c, v = .slice A l.length c ∧ l.length ≤ c ∧ c ≤ maxLen := by
  obtain ⟨A, c, h1, h2, h3, _⟩ := h
  exact ⟨A, c, h1, h2, h3⟩
/-- An entry's cells. -/
theorem Ents.at {W : World} {A : Option Addr} {n c : Nat} {l : List Ent} (h : Ents W (.slice A n c) l) {k : Nat} (hk : k < l.length) :
    ∃ g o, A = some ⟨g, o, none⟩ ∧ W.cell? ⟨g, o + k * 11, none⟩ = some (.string (mkS l[k].path)) ∧ W.cell? ⟨g, o + k * 11 + 1, none⟩ = some (.int .i64 l[k].kind) ∧ W.cell? ⟨g, o + k * 11 + 2, none⟩ = some (.int .i64 l[k].size) ∧ W.cell? ⟨g, o + k * 11 + 3, none⟩ = some (.int .i64 l[k].mt.mode) ∧ W.cell? ⟨g, o + k * 11 + 4, none⟩ = some (.int .i64 l[k].mt.sec) ∧ W.cell? ⟨g, o + k * 11 + 5, none⟩ = some (.int .i64 l[k].mt.nano) ∧ W.cell? ⟨g, o + k * 11 + 6, none⟩ = some (.int .i64 l[k].mt.uid) ∧ W.cell? ⟨g, o + k * 11 + 7, none⟩ = some (.int .i64 l[k].mt.gid) ∧ W.cell? ⟨g, o + k * 11 + 8, none⟩ = some (.string (mkS l[k].target)) ∧ W.cell? ⟨g, o + k * 11 + 9, none⟩ = some (.string (mkS l[k].sum)) ∧ W.cell? ⟨g, o + k * 11 + 10, none⟩ = some (.int .i64 l[k].group) := by
  obtain ⟨A', c', h1, h2, h3, h4⟩ := h
  cases h1
  obtain ⟨g, o, e, hc⟩ := h4 k hk
  exact ⟨g, o, e, hc 0 (by decide), hc 1 (by decide), hc 2 (by decide), hc 3 (by decide), hc 4 (by decide), hc 5 (by decide), hc 6 (by decide), hc 7 (by decide), hc 8 (by decide), hc 9 (by decide), hc 10 (by decide)⟩
theorem Ents.take {W : World} {A : Option Addr} {n c : Nat} {l : List Ent} (h : Ents W (.slice A n c) l) {k : Nat} (hk : k ≤ l.length) : Ents W (.slice A k c) (l.take k) := by
  obtain ⟨A', c', h1, h2, h3, h4⟩ := h
  cases h1
  have hl : (l.take k).length = k := by rw [List.length_take]; omega
  refine ⟨A, c, by rw [hl], by omega, h3, fun j hj => ?_⟩
  obtain ⟨g, o, e, hc⟩ := h4 j (by omega)
  refine ⟨g, o, e, fun i hi => ?_⟩
  rw [hc i hi, List.getElem_take]

set_option maxHeartbeats 2000000 in
set_option maxRecDepth 100000 in
theorem small20_calls (v : Value) (l : List Ent) (w : World) (hv : Ents w v l) :
    Calls Try.prog 14 #[v] w fun e w' => e = .returned (.bool (smallEs l)) ∧ w = w' := by
  obtain ⟨A, c, rfl, h2, h3⟩ := hv.shape
  unfold maxLen at h3
  replace hv := Lib.hid hv
  go_enter Try.func14, Try.ntmps14
  go_wp2_with fail
  go_loop [3] (fun i => ∃ k : Nat, i = .int .i64 k ∧ k ≤ l.length ∧ (l.take k).all entOk = true) (fun i => l.length - (intOf i).toNat)
  case atStart => exact ⟨0, rfl, Nat.zero_le _, by simp⟩
  case round =>
    obtain ⟨k, rfl, hk, hall⟩ := hrel
    replace hall := Lib.hid hall
    by_cases hlt : k < l.length
    · obtain ⟨g, o, rfl, c1, _, _, _, _, _, _, _, c2, c3, _⟩ := hv.out.at hlt
      have hs1 := mkS_size l[k].path
      have hs2 := mkS_size l[k].target
      have hs3 := mkS_size l[k].sum
      have hat := all_take_snoc entOk l hlt
      have hno := all_not (f := entOk) (l := l) hlt
      replace hat := Lib.hid hat
      replace hno := Lib.hid hno
      have hbad : entOk l[k] = false → smallEs l = false := fun h => by unfold smallEs; rw [hno.out h]; rfl
      have hgood : entOk l[k] = true → (l.take (k + 1)).all entOk = true := fun h => by rw [hat.out, hall.out, h]; rfl
      replace hbad := Lib.hid hbad
      replace hgood := Lib.hid hgood
      go_wp2
      all_goals first
        | (go_round
           case rel => exact ⟨k + 1, by go_num, by omega, hgood.out (by unfold entOk; simp only [Bool.and_eq_true, decide_eq_true_eq]; omega)⟩
           case measure => simp [intOf]; omega)
        | (go_ret
           rw [hbad.out (by unfold entOk; simp only [Bool.and_eq_false_iff, decide_eq_false_iff_not]; omega)]
           exact ⟨rfl, rfl⟩)
    · obtain rfl : k = l.length := by omega
      rw [List.take_length] at hall
      have hfin : smallEs l = decide (l.length ≤ 60) := by unfold smallEs; rw [hall.out]; rfl
      replace hfin := Lib.hid hfin
      go_wp2
      go_ret
      rw [hfin.out]
      exact ⟨ret_bool (by rw [Bool.eq_iff_iff]; simp only [decide_eq_true_eq]; omega), rfl⟩

/-- Where a path stands first. -/
def Found20 (l : List Ent) (p : Bytes) (w : World) (e : Ending) (w' : World) : Prop :=
  ((∃ (k : Nat) (hk : k < l.length), l[k].path = p ∧ e = .returned (.tuple #[.int .i64 k, .bool true])) ∨ ((∀ x ∈ l, x.path ≠ p) ∧ e = .returned (.tuple #[.int .i64 0, .bool false]))) ∧ w = w'

set_option maxHeartbeats 2000000 in
set_option maxRecDepth 100000 in
theorem find20_calls (v : Value) (l : List Ent) (p : Bytes) (w : World) (hv : Ents w v l) :
    Calls Try.prog 41 #[v, .string (mkS p)] w (Found20 l p w) := by
  obtain ⟨A, c, rfl, h2, h3⟩ := hv.shape
  unfold maxLen at h3
  have hyes : ∀ (k : Nat) (hk : k < l.length), l[k].path = p → Found20 l p w (.returned (.tuple #[.int .i64 k, .bool true])) w := fun k hk h => ⟨Or.inl ⟨k, hk, h, rfl⟩, rfl⟩
  have hno : (∀ x ∈ l, x.path ≠ p) → Found20 l p w (.returned (.tuple #[.int .i64 0, .bool false])) w := fun h => ⟨Or.inr ⟨h, rfl⟩, rfl⟩
  replace hv := Lib.hid hv
  replace hyes := Lib.hid hyes
  replace hno := Lib.hid hno
  go_enter Try.func41, Try.ntmps41
  go_wp2_with fail
  go_loop [6] (fun i => ∃ k : Nat, i = .int .i64 k ∧ k ≤ l.length ∧ ∀ x ∈ l.take k, x.path ≠ p) (fun i => l.length - (intOf i).toNat)
  case atStart => exact ⟨0, rfl, Nat.zero_le _, by simp⟩
  case round =>
    obtain ⟨k, rfl, hk, hall⟩ := hrel
    replace hall := Lib.hid hall
    by_cases hlt : k < l.length
    · obtain ⟨g, o, rfl, c1, _⟩ := hv.out.at hlt
      have htk : l.take (k + 1) = l.take k ++ [l[k]] := List.take_succ_eq_append_getElem hlt
      have hyk := hyes.out k hlt
      generalize l[k] = x at *
      have hki : (k : Int) < (l.length : Int) := by omega
      replace htk := Lib.hid htk
      replace hyk := Lib.hid hyk
      by_cases he : x.path = p
      · have t1 : ((mkS x.path).toList == (mkS p).toList) = true := strs_alike (by rw [he])
        replace he := Lib.hid he
        go_wp2
        go_ret2
        exact hyk.out he.out
      · have t1 : ((mkS x.path).toList == (mkS p).toList) = false := strs_diff (fun e => he (mkS_inj e))
        replace he := Lib.hid he
        go_wp2
        go_round
        case rel =>
          refine ⟨k + 1, by go_num, by omega, fun y hy => ?_⟩
          rw [htk.out] at hy
          rcases List.mem_append.1 hy with hy | hy
          · exact hall.out y hy
          · rw [List.mem_singleton.1 hy]
            exact he.out
        case measure => simp [intOf]; omega
    · obtain rfl : k = l.length := by omega
      rw [List.take_length] at hall
      go_wp2
      go_ret2
      exact hno.out hall.out

set_option maxHeartbeats 2000000 in
set_option maxRecDepth 100000 in
theorem small44_calls (x y z : Value) (a b c : List Ent) (w : World) (hx : Ents w x a) (hy : Ents w y b) (hz : Ents w z c) :
    Calls Try.prog 5 #[.agg #[x, y, z]] w fun e w' => e = .returned (.bool (smallEs a && smallEs b && smallEs c)) ∧ Below w.heap.size w w' := by
  have hB := (Below.refl w.heap.size w).alloc (Nat.le_refl _) (.cells #[x, y, z] 24)
  have hblk := (MapKept.heap_alloc w (.cells #[x, y, z] 24)).1
  have h1 := small20_calls x a _ (hx.below hB)
  have h2 := small20_calls y b _ (hy.below hB)
  have h3 := small20_calls z c _ (hz.below hB)
  obtain ⟨A1, c1, rfl, _, _⟩ := hx.shape
  obtain ⟨A2, c2, rfl, _, _⟩ := hy.shape
  obtain ⟨A3, c3, rfl, _, _⟩ := hz.shape
  have d0 := cell_of (j := 0) hblk rfl
  have d1 := cell_of (j := 1) hblk rfl
  have d2 := cell_of (j := 2) hblk rfl
  replace hB := Lib.hid hB
  replace hblk := Lib.hid hblk
  replace h1 := Lib.hid h1
  replace h2 := Lib.hid h2
  replace h3 := Lib.hid h3
  replace hx := Lib.hid hx
  replace hy := Lib.hid hy
  replace hz := Lib.hid hz
  generalize smallEs a = b1 at *
  generalize smallEs b = b2 at *
  generalize smallEs c = b3 at *
  go_enter Try.func5, Try.ntmps5
  go_wp2_with fail
  (with_reducible refine (h1.out).mono ?_)
  rintro e w1 ⟨rfl, rfl⟩
  cases b1 with
  | false =>
    go_wp2
    go_ret
    exact ⟨rfl, hB.out⟩
  | true =>
    go_wp2_with fail
    (with_reducible refine (h2.out).mono ?_)
    rintro e w1 ⟨rfl, rfl⟩
    cases b2 with
    | false =>
      go_wp2
      go_ret
      exact ⟨rfl, hB.out⟩
    | true =>
      go_wp2_with fail
      (with_reducible refine (h3.out).mono ?_)
      rintro e w1 ⟨rfl, rfl⟩
      cases b3 <;>
      · go_wp2
        go_ret
        exact ⟨rfl, hB.out⟩

end Go.Proofs.Ytcjlfkklpghjbaa

namespace Go.Proofs.Ytcjlfkklpghjbaa
open Go.RowKit

/-- An entry of a map's literal at the operation. -/
theorem wp_insert {P : Program} (w : World) {ops : Array Oper} {rest : List Oper} {o : Oper} {a : Act} {Q : Exit → Act → World → Prop} (hg : o.guard = none) (m x v : Operand) (t : TypeId) (hop : o.op = Op.insert t m x v) (mv : Value) (key val : Value) (hm : a.eval m = mv) (hx : a.eval x = key) (hv : a.eval v = val) (w' : World)
    (hrun : (Instr.mapUpdate t mv key val).run P w = .ok () w') (hK : wpList P ops Q rest (a.put o.dst undef) w') : wpList P ops Q (o :: rest) a w := by
  refine wpList_plain hg fun K' hK' => ?_
  unfold Oper.wp
  simp [execOp, hop, hm, hx, hv, hrun, Result.andThen]
  exact hK' _ _ hK

set_option maxHeartbeats 1000000 in
set_option maxRecDepth 100000 in
theorem pless_calls (a b : ByteArray) (w : World) (ha : a.size ≤ 16777216) (hb : b.size ≤ 16777216) :
    Calls Try.prog 32 #[.string a, .string b] w fun e w' => e = .returned (.bool (lessP (bl a) (bl b))) ∧ Below w.heap.size w w' := by
  have h1 := fun W => split_calls a W ha
  have h2 := fun W => split_calls b W hb
  have hu : cmpP (bl a) (bl b) = cmpL (split (bl a)) (split (bl b)) := rfl
  have hl : lessP (bl a) (bl b) = decide (cmpP (bl a) (bl b) < 0) := rfl
  rw [hl]
  generalize cmpP (bl a) (bl b) = r at *
  generalize split (bl a) = x at *
  generalize split (bl b) = y at *
  replace h1 := Lib.hid h1
  replace h2 := Lib.hid h2
  replace hu := Lib.hid hu
  replace hl := Lib.hid hl
  go_enter Try.func32, Try.ntmps32
  go_wp2_with fail
  (with_reducible refine (h1.out _).mono ?_)
  rintro e w1 ⟨⟨v1, rfl, hO1⟩, hB1⟩
  go_wp2_with fail
  (with_reducible refine (h2.out _).mono ?_)
  rintro e w2 ⟨⟨v2, rfl, hO2⟩, hB2⟩
  have hc := slcompare_calls v1 v2 x y w2 (hO1.rd.below hB2) hO2.rd
  rw [← hu.out] at hc
  replace hc := Lib.hid hc
  clear hO1 hO2 h1 h2 hu
  go_wp2_with fail
  (with_reducible refine (hc.out).mono ?_)
  rintro e w3 ⟨rfl, rfl⟩
  go_wp2
  go_ret
  exact ⟨rfl, below_step hB1 hB2⟩

theorem under_dirs : Try.prog.underlying 72 = some (.map 9 4) := by kernel_rfl
theorem zero_bool (w : World) : (zeroValue 4).run Try.prog w = .ok (.bool false) w := by kernel_rfl

def dirsB (done : List Ent) : List Bytes := [] :: (done.filter fun y => decide (y.kind = 2)).map (·.path)
def dirsE (l : List Bytes) : List (Value × Value) := l.map fun p => (.string (mkS p), .bool true)

theorem dirsB_mem {done : List Ent} {up : Bytes} : up ∈ dirsB done ↔ dirIn done up = true := by
  unfold dirsB dirIn
  rw [List.mem_cons, Bool.or_eq_true, decide_eq_true_eq, List.any_eq_true]
  refine or_congr Iff.rfl ?_
  rw [List.mem_map]
  constructor
  · rintro ⟨y, hy, rfl⟩
    obtain ⟨h1, h2⟩ := List.mem_filter.1 hy
    exact ⟨y, h1, by simpa using h2⟩
  · rintro ⟨y, hy, h⟩
    simp only [Bool.and_eq_true, decide_eq_true_eq] at h
    exact ⟨y, List.mem_filter.2 ⟨hy, by simpa using h.2⟩, h.1⟩
theorem dirsB_dir {done : List Ent} {x : Ent} (h : x.kind = 2) : dirsB (done ++ [x]) = dirsB done ++ [x.path] := by
  unfold dirsB
  rw [List.filter_append, List.map_append, List.filter_cons_of_pos (by simpa using h)]
  rfl
theorem dirsB_other {done : List Ent} {x : Ent} (h : x.kind ≠ 2) : dirsB (done ++ [x]) = dirsB done := by
  unfold dirsB
  rw [List.filter_append, List.filter_cons_of_neg (by simpa using h)]
  simp

theorem string_key (W : World) (s : ByteArray) (l : List Bytes) : Keyable Try.prog 9 W (.string s) ((dirsE l).map (·.1)) :=
  keyable_string Try.underlying9 W s (fun v hv => by
    unfold dirsE at hv
    rw [List.map_map] at hv
    obtain ⟨p, _, rfl⟩ := List.mem_map.1 hv
    exact ⟨_, rfl⟩)
theorem dirs_look {W : World} {db : Nat} {done : List Ent} (up : Bytes) (h : MapIs W db (dirsE (dirsB done))) :
    (Instr.lookup 72 (.map (some db)) (.string (mkS up)) false).run Try.prog W = .ok (.bool (dirIn done up)) W := by
  by_cases hd : dirIn done up = true
  · have := h.look_hit under_dirs (string_key W (mkS up) _) (v := .bool true) (List.mem_map.2 ⟨up, dirsB_mem.2 hd, rfl⟩) false
    rw [hd]
    exact this
  · have := h.look_miss under_dirs (string_key W (mkS up) _) (fun q hq e => by
      obtain ⟨p, hp, rfl⟩ := List.mem_map.1 hq
      simp only [Value.string.injEq] at e
      rw [mkS_inj e] at hp
      exact hd (dirsB_mem.1 hp)) (zero_bool W) false
    rw [show dirIn done up = false by simpa using hd]
    exact this
theorem dirs_store {W : World} {db : Nat} {l : List Bytes} {p : Bytes} (h : MapIs W db (dirsE l)) (hp : p ∉ l) :
    ∃ W', (Instr.mapUpdate 72 (.map (some db)) (.string (mkS p)) (.bool true)).run Try.prog W = .ok () W' ∧ MapIs W' db (dirsE (l ++ [p])) ∧ W.grownBy W' (some db) := by
  obtain ⟨W', h1, h2, h3⟩ := h.store_new under_dirs (v := .bool true) (string_key W (mkS p) _) (fun q hq e => by
    obtain ⟨p', hp', rfl⟩ := List.mem_map.1 hq
    simp only [Value.string.injEq] at e
    rw [mkS_inj e] at hp'
    exact hp hp')
  refine ⟨W', h1, h2.perm ?_, h3.grown⟩
  unfold dirsE
  rw [List.map_append]
  exact List.perm_append_singleton _ _

theorem stepE_ent {done : List Ent} {x : Ent} (h : entE x ≠ 0) : stepE done x = entE x := if_pos h
theorem stepE_same {done : List Ent} {x y : Ent} (h : entE x = 0) (hl : done.getLast? = some y) (he : x.path = y.path) : stepE done x = 11 := by
  unfold stepE
  rw [if_neg (by simp [h]), hl]
  exact if_pos he
theorem stepE_less {done : List Ent} {x y : Ent} (h : entE x = 0) (hl : done.getLast? = some y) (he : x.path ≠ y.path) (hk : lessP x.path y.path = true) : stepE done x = 3 := by
  unfold stepE
  rw [if_neg (by simp [h]), hl]
  dsimp only
  rw [if_neg he, if_pos hk]
theorem stepE_rest {done : List Ent} {x : Ent} (h : entE x = 0) (H : ∀ y, done.getLast? = some y → x.path ≠ y.path ∧ lessP x.path y.path = false) : stepE done x = if dirIn done (parent x.path) = false then 12 else if mostG done + 1 < x.group then 5 else 0 := by
  unfold stepE
  rw [if_neg (by simp [h])]
  cases hl : done.getLast? with
  | none => rfl
  | some y =>
    obtain ⟨h1, h2⟩ := H y hl
    dsimp only
    rw [if_neg h1, if_neg (by simp [h2])]
theorem take_last {l : List Ent} {k : Nat} (hk : k ≤ l.length) (h0 : 0 < k) : (l.take k).getLast? = some (l[k - 1]'(by omega)) := by
  have h1 : l.take k = l.take (k - 1) ++ [l[k - 1]'(by omega)] := by
    have := List.take_succ_eq_append_getElem (l := l) (i := k - 1) (by omega)
    rwa [Nat.sub_add_cancel h0] at this
  rw [h1]
  exact List.getLast?_concat ..
theorem mx_is (a b : Int) : mx a b = max a b := by unfold mx; split <;> omega
theorem mostG_pos (l : List Ent) : 0 ≤ mostG l := by
  refine snoc_rec (C := fun l => 0 ≤ mostG l) (by simp [mostG]) (fun l x h => ?_) l
  rw [mostG_snoc]
  omega

set_option maxHeartbeats 8000000 in
set_option maxRecDepth 100000 in
theorem fcheck_calls (v : Value) (l : List Ent) (w : World) (hv : Ents w v l) (hs : smallEs l = true) :
    Calls Try.prog 15 #[v] w fun e w' => e = .returned (.int .i64 (chk l)) ∧ Below w.heap.size w w' := by
  obtain ⟨A, c, rfl, h2, h3⟩ := hv.shape
  obtain ⟨hl60, hsm⟩ := smallEs_at hs
  unfold maxLen at h3
  have hmk := @run_makeMap Try.prog
  have hm0 := mapIs_made w
  have hB0 : Below w.heap.size w (w.alloc (.map #[] 0)) := below_alloc (Below.refl _ _) _
  obtain ⟨w1, hst, hm1, hg1⟩ := dirs_store (l := []) (p := []) hm0 (by simp)
  have hB1 : Below w.heap.size w w1 := hB0.grown hg1 hB0.size (fun k hk => by cases hk; exact Nat.le_refl _)
  rw [show mkS [] = ⟨#[]⟩ from rfl] at hst
  replace hv := Lib.hid hv
  replace hm0 := Lib.hid hm0
  replace hB0 := Lib.hid hB0
  replace hst := Lib.hid hst
  replace hm1 := Lib.hid hm1
  replace hB1 := Lib.hid hB1
  replace hsm := Lib.hid hsm
  replace hs := Lib.hid hs
  clear hg1
  go_enter Try.func15, Try.ntmps15
  go_wp2_with (refine wp_insert _ rfl _ _ _ 72 rfl (.map (some w.heap.size)) (.string ⟨#[]⟩) (.bool true) rfl rfl rfl w1 hst.out ?_)
  go_loopw [4, 12] (fun last i wr => ∃ k : Nat, i = .int .i64 k ∧ k ≤ l.length ∧ last = .int .i64 (mostG (l.take k)) ∧ mostG (l.take k) ≤ k ∧ chk l = chkFrom (l.take k) (l.drop k) ∧ ChkOk (l.take k) ∧ MapIs wr w.heap.size (dirsE (dirsB (l.take k))) ∧ Below w.heap.size w wr) (fun _ i _ => l.length - (intOf i).toNat)
  case atStart => exact ⟨0, rfl, Nat.zero_le _, rfl, by simp [mostG], chk_start l, chkOk_nil, hm1.out, hB1.out⟩
  case round =>
    clear hm1 hB1 hst hm0 hB0 hmk
    obtain ⟨k, rfl, hk, rfl, hmg, hck, hok, hM, hB⟩ := hrel
    have hmp := mostG_pos (l.take k)
    by_cases hlt : k < l.length
    · obtain ⟨g, o, rfl, c0, c1, c2, c3, c4, c5, c6, c7, c8, c9, c10⟩ := (hv.out.below hB).at hlt
      have hstep := @chk_step l k hlt hck
      have hstop := @chk_stop l k hlt hck
      have htk : l.take (k + 1) = l.take k ++ [l[k]] := List.take_succ_eq_append_getElem hlt
      have hrest := @stepE_rest (l.take k) l[k]
      have hent := @stepE_ent (l.take k) l[k]
      have hsam := fun y => @stepE_same (l.take k) l[k] y
      have hles := fun y => @stepE_less (l.take k) l[k] y
      have hoks := @ChkOk.snoc (l.take k) l[k] hok
      have hnot : ∀ q ∈ dirsB (l.take k), l[k].path ≠ [] → (∀ z, (l.take k).getLast? = some z → l[k].path ≠ z.path ∧ lessP l[k].path z.path = false) → l[k].path ≠ q := fun q hq h0 hH e => by
        subst e
        rcases List.mem_cons.1 hq with h | h
        · exact h0 h
        · obtain ⟨z, hz, hze⟩ := List.mem_map.1 h
          have hz2 := (List.mem_filter.1 hz).1
          have hne : l.take k ≠ [] := List.ne_nil_of_mem hz2
          have hH2 := hH _ (List.getLast?_eq_some_getLast hne)
          have hr := hok.rise
          rw [← List.dropLast_concat_getLast hne] at hz2
          unfold Rise at hr
          rw [← List.dropLast_concat_getLast hne, List.pairwise_append] at hr
          rcases List.mem_append.1 hz2 with h3 | h3
          · have h4 := hr.2.2 z h3 _ (List.mem_singleton_self _)
            rw [hze, hH2.2] at h4
            cases h4
          · rw [List.mem_singleton.1 h3] at hze
            exact hH2.1 hze.symm
      have hpne : entE l[k] = 0 → right l[k].path = true ∧ l[k].path ≠ [] := entE_path
      obtain ⟨hp1, hp2, hp3⟩ := hsm.out _ (List.getElem_mem hlt)
      have hal := fun W => alone_calls l[k] W (by omega) (by omega) (by omega)
      generalize l[k] = x at *
      obtain ⟨p, kd, sz, ⟨m1, m2, m3, m4, m5⟩, tg, sm, gr⟩ := x
      unfold entV entCells at hal
      dsimp only at *
      generalize entE ⟨p, kd, sz, ⟨m1, m2, m3, m4, m5⟩, tg, sm, gr⟩ = ee at *
      have hB2 := below_alloc hB (.cells #[.string (mkS p), .int .i64 kd, .int .i64 sz, .int .i64 m1, .int .i64 m2, .int .i64 m3, .int .i64 m4, .int .i64 m5, .string (mkS tg), .string (mkS sm), .int .i64 gr] 35)
      have hBr := below_alloc (Below.refl wr.heap.size wr) (.cells #[.string (mkS p), .int .i64 kd, .int .i64 sz, .int .i64 m1, .int .i64 m2, .int .i64 m3, .int .i64 m4, .int .i64 m5, .string (mkS tg), .string (mkS sm), .int .i64 gr] 35)
      have hblk := (MapKept.heap_alloc wr (.cells #[.string (mkS p), .int .i64 kd, .int .i64 sz, .int .i64 m1, .int .i64 m2, .int .i64 m3, .int .i64 m4, .int .i64 m5, .string (mkS tg), .string (mkS sm), .int .i64 gr] 35)).1
      have hM2 := hM.of_block (hBr.block _ hM.lt)
      have hki : (k : Int) < (l.length : Int) := by omega
      generalize hdn : l.take k = done at *
      replace hM := Lib.hid hM
      replace hB := Lib.hid hB
      replace hstep := Lib.hid hstep
      replace hstop := Lib.hid hstop
      replace htk := Lib.hid htk
      replace hrest := Lib.hid hrest
      replace hent := Lib.hid hent
      replace hsam := Lib.hid hsam
      replace hles := Lib.hid hles
      replace hoks := Lib.hid hoks
      replace hnot := Lib.hid hnot
      replace hpne := Lib.hid hpne
      replace hal := Lib.hid hal
      replace hB2 := Lib.hid hB2
      replace hBr := Lib.hid hBr
      replace hblk := Lib.hid hblk
      replace hM2 := Lib.hid hM2
      replace hck := Lib.hid hck
      replace hok := Lib.hid hok
      replace hdn := Lib.hid hdn
      go_upto_region 6 with fail
      generalize wr.alloc (.cells #[.string (mkS p), .int .i64 kd, .int .i64 sz, .int .i64 m1, .int .i64 m2, .int .i64 m3, .int .i64 m4, .int .i64 m5, .string (mkS tg), .string (mkS sm), .int .i64 gr] 35) = W1 at *
      generalize hn1 : wr.heap.size = n1 at *
      replace hn1 := Lib.hid hn1
      have d0 := cell_of (j := 0) hblk.out rfl
      have d1 := cell_of (j := 1) hblk.out rfl
      have d2 := cell_of (j := 2) hblk.out rfl
      have d3 := cell_of (j := 3) hblk.out rfl
      have d4 := cell_of (j := 4) hblk.out rfl
      have d5 := cell_of (j := 5) hblk.out rfl
      have d6 := cell_of (j := 6) hblk.out rfl
      have d7 := cell_of (j := 7) hblk.out rfl
      have d8 := cell_of (j := 8) hblk.out rfl
      have d9 := cell_of (j := 9) hblk.out rfl
      have d10 := cell_of (j := 10) hblk.out rfl
      clear c0 c1 c2 c3 c4 c5 c6 c7 c8 c9 c10
      go_wp2_with fail
      (with_reducible refine (hal.out _).mono ?_)
      rintro e w2 ⟨rfl, hB12⟩
      have hblk2 := (hB12.block _ (Array.getElem?_eq_some_iff.1 hblk.out).1).trans hblk.out
      have hM3 := hM2.out.of_block (hB12.block _ hM2.out.lt)
      have hB02 := below_step hB2.out hB12
      clear d0 d1 d2 d3 d4 d5 d6 d7 d8 d9 d10
      replace hblk2 := Lib.hid hblk2
      replace hM3 := Lib.hid hM3
      replace hB02 := Lib.hid hB02
      clear hB12 hblk hM2 hB2
      by_cases he0 : ee = 0
      · subst he0
        obtain ⟨hpr, hpn⟩ := hpne.out rfl
        have hpl := right_len hpr
        have hpz := mkS_size p
        have hpar := fun W => parent_calls (mkS p) W (by unfold maxLen; omega)
        rw [bl_mkS] at hpar
        replace hpr := Lib.hid hpr
        replace hpn := Lib.hid hpn
        replace hpar := Lib.hid hpar
        by_cases hk0 : k = 0
        · have hz0 : decide (0 < k) = false := by simp; omega
          have hH : ∀ z, done.getLast? = some z → p ≠ z.path ∧ lessP p z.path = false := fun z hz => by
            rw [← hdn.out, hk0, List.take_zero] at hz
            cases hz
          replace hk0 := Lib.hid hk0
          replace hH := Lib.hid hH
          clear hsam hles
          go_upto_region 9 with fail
          go_quiet (fail)
          have hBa := below_drewN (Below.refl w2.heap.size w2) nq
          generalize w2.drewN nq = wa at *
          replace hBa := Lib.hid hBa
          go_upto_region 11 with fail
          go_quiet (fail)
          have hBz := below_step hBa.out (below_drewN (Below.refl wa.heap.size wa) nq)
          generalize wa.drewN nq = wz at *
          replace hBz := Lib.hid hBz
          clear hBa
          have hblkz := (hBz.out.block _ (Array.getElem?_eq_some_iff.1 hblk2.out).1).trans hblk2.out
          have hMz := hM3.out.of_block (hBz.out.block _ hM3.out.lt)
          have hB0z := below_step hB02.out hBz.out
          have hst := hrest.out (by simp) hH.out
          have hne := fun q hq => hnot.out q hq hpn.out hH.out
          have d0 := cell_of (j := 0) hblkz rfl
          have d1 := cell_of (j := 1) hblkz rfl
          have d10 := cell_of (j := 10) hblkz rfl
          have hlk := dirs_look (parent p) hMz
          cases hdi : dirIn done (parent p) with
          | false =>
            rw [hdi] at hlk
            rw [hdi, if_pos rfl] at hst
            have hfin := hstop.out (by rw [hst]; decide)
            rw [hst] at hfin
            replace hblkz := Lib.hid hblkz
            replace hMz := Lib.hid hMz
            replace hB0z := Lib.hid hB0z
            replace hst := Lib.hid hst
            replace hne := Lib.hid hne
            replace hlk := Lib.hid hlk
            replace hdi := Lib.hid hdi
            replace hfin := Lib.hid hfin
            go_wp2_with (first | (go_at_call 33; (with_reducible refine (hpar.out _).mono ?_); rintro e wx ⟨rfl, rfl⟩) | (at_lookup; refine wp_look _ rfl _ _ 72 false rfl (.map (some w.heap.size)) (.string (mkS (parent p))) _ rfl rfl hlk.out ?_))
            go_ret
            exact ⟨ret_int hfin.out.symm, hB0z.out⟩
          | true =>
            rw [hdi] at hlk
            rw [hdi, if_neg (by simp)] at hst
            have hw1 : IntKind.i64.wrap (mostG done + 1) = mostG done + 1 := IntWalk.i64_in _ (by omega)
            by_cases hgr : mostG done + 1 < gr
            · rw [if_pos hgr] at hst
              have hfin := hstop.out (by rw [hst]; decide)
              rw [hst] at hfin
              replace hblkz := Lib.hid hblkz
              replace hMz := Lib.hid hMz
              replace hB0z := Lib.hid hB0z
              replace hst := Lib.hid hst
              replace hne := Lib.hid hne
              replace hlk := Lib.hid hlk
              replace hdi := Lib.hid hdi
              replace hfin := Lib.hid hfin
              go_wp2_with (first | (go_at_call 33; (with_reducible refine (hpar.out _).mono ?_); rintro e wx ⟨rfl, rfl⟩) | (at_lookup; refine wp_look _ rfl _ _ 72 false rfl (.map (some w.heap.size)) (.string (mkS (parent p))) _ rfl rfl hlk.out ?_))
              go_ret
              exact ⟨ret_int hfin.out.symm, hB0z.out⟩
            · rw [if_neg hgr] at hst
              have hcn := hstep.out hst
              have hokn := hoks.out hst
              have hmn := mostG_snoc done ⟨p, kd, sz, ⟨m1, m2, m3, m4, m5⟩, tg, sm, gr⟩
              have hng : decide (mostG done + 1 < gr) = false := by simpa using hgr
              by_cases hk2 : kd = 2
              · obtain ⟨w5, hsto, hM5, hg5⟩ := dirs_store hMz (p := p) (fun hq => hne p hq rfl)
                have hB5 := hB0z.grown hg5 hB0z.size (fun j hj => by cases hj; exact Nat.le_refl _)
                have hd2 := dirsB_dir (done := done) (x := ⟨p, kd, sz, ⟨m1, m2, m3, m4, m5⟩, tg, sm, gr⟩) hk2
                subst hk2
                replace hblkz := Lib.hid hblkz
                replace hMz := Lib.hid hMz
                replace hB0z := Lib.hid hB0z
                replace hst := Lib.hid hst
                replace hne := Lib.hid hne
                replace hlk := Lib.hid hlk
                replace hdi := Lib.hid hdi
                replace hcn := Lib.hid hcn
                replace hokn := Lib.hid hokn
                replace hmn := Lib.hid hmn
                replace hsto := Lib.hid hsto
                replace hM5 := Lib.hid hM5
                replace hB5 := Lib.hid hB5
                replace hd2 := Lib.hid hd2
                clear hg5
                go_wp2_with (first | (first | (go_at_call 33; (with_reducible refine (hpar.out _).mono ?_); rintro e wx ⟨rfl, rfl⟩) | (at_lookup; refine wp_look _ rfl _ _ 72 false rfl (.map (some w.heap.size)) (.string (mkS (parent p))) _ rfl rfl hlk.out ?_)) | (at_mapUpdate; refine wp_store _ rfl _ _ _ 72 rfl (.map (some w.heap.size)) (.string (mkS p)) (.bool true) rfl rfl rfl w5 hsto.out ?_))
                go_roundw
                case rel =>
                  refine ⟨k + 1, by go_num, by omega, ?_, ?_, hcn.out, ?_, ?_, hB5.out⟩
                  · rw [htk.out, hmn.out]
                    exact congrArg (Value.int .i64) (mx_is _ _)
                  · rw [htk.out, hmn.out]
                    (try dsimp only)
                    omega
                  · rw [htk.out]
                    exact hokn.out
                  · rw [htk.out, hd2.out]
                    exact hM5.out
                case measure => simp [intOf]; omega
              · have hd2 := dirsB_other (done := done) (x := ⟨p, kd, sz, ⟨m1, m2, m3, m4, m5⟩, tg, sm, gr⟩) hk2
                have hk3 : (kd == 2) = false := by simpa using hk2
                replace hblkz := Lib.hid hblkz
                replace hMz := Lib.hid hMz
                replace hB0z := Lib.hid hB0z
                replace hst := Lib.hid hst
                replace hne := Lib.hid hne
                replace hlk := Lib.hid hlk
                replace hdi := Lib.hid hdi
                replace hcn := Lib.hid hcn
                replace hokn := Lib.hid hokn
                replace hmn := Lib.hid hmn
                replace hd2 := Lib.hid hd2
                replace hk2 := Lib.hid hk2
                go_wp2_with (first | (go_at_call 33; (with_reducible refine (hpar.out _).mono ?_); rintro e wx ⟨rfl, rfl⟩) | (at_lookup; refine wp_look _ rfl _ _ 72 false rfl (.map (some w.heap.size)) (.string (mkS (parent p))) _ rfl rfl hlk.out ?_))
                go_roundw
                case rel =>
                  refine ⟨k + 1, by go_num, by omega, ?_, ?_, hcn.out, ?_, ?_, hB0z.out⟩
                  · rw [htk.out, hmn.out]
                    exact congrArg (Value.int .i64) (mx_is _ _)
                  · rw [htk.out, hmn.out]
                    (try dsimp only)
                    omega
                  · rw [htk.out]
                    exact hokn.out
                  · rw [htk.out, hd2.out]
                    exact hMz.out
                case measure => simp [intOf]; omega
        · have hz0 : decide (0 < k) = true := by simp; omega
          have hk1 : k - 1 < l.length := by omega
          have hlast := take_last (l := l) (k := k) (by omega) (by omega)
          rw [hdn.out] at hlast
          obtain ⟨g2, o2, hgo, cy, hcy2⟩ := hv.out.at hk1
          clear hcy2
          obtain ⟨hy1, _, _⟩ := hsm.out _ (List.getElem_mem hk1)
          cases hgo
          generalize l[k - 1] = y at *
          have hyz := mkS_size y.path
          have hz1 : IntKind.i64.wrap ((k : Int) - 1) = ((k - 1 : Nat) : Int) := by rw [IntWalk.i64_in _ (by omega)]; omega
          obtain ⟨km, hkm⟩ : ∃ x, x = k - 1 := ⟨_, rfl⟩
          rw [← hkm] at hz1 cy
          have hkm1 : km < l.length := by omega
          have hkm2 : (0 : Int) ≤ (km : Int) := by omega
          have hkm3 : (km : Int) < (l.length : Int) := by omega
          have hbw : ∀ W, Below w2.heap.size w2 W → W.cell? ⟨g, o + km * 11, none⟩ = some (.string (mkS y.path)) ∧ W.cell? ⟨n1, 0, none⟩ = some (.string (mkS p)) := fun W hW =>
            ⟨((below_step hB02.out hW).cell (cell_lt cy)).trans cy, cell_of ((hW.block _ (Array.getElem?_eq_some_iff.1 hblk2.out).1).trans hblk2.out) rfl⟩
          have hls := fun W => pless_calls (mkS p) (mkS y.path) W (by omega) (by omega)
          rw [bl_mkS, bl_mkS] at hls
          have cn1 := fun n : Nat => (hbw (w2.drewN n) (below_drewN (Below.refl _ _) n)).1
          have cn2 := fun n : Nat => (hbw (w2.drewN n) (below_drewN (Below.refl _ _) n)).2
          replace hk0 := Lib.hid hk0
          replace hkm := Lib.hid hkm
          replace hlast := Lib.hid hlast
          replace hls := Lib.hid hls
          replace hbw := Lib.hid hbw
          clear cy
          by_cases hpy : p = y.path
          · have t1 : ((mkS p).toList == (mkS y.path).toList) = true := strs_alike (by rw [hpy])
            have hst := hsam.out y (by simp) hlast.out hpy
            have hfin := hstop.out (by rw [hst]; decide)
            rw [hst] at hfin
            replace hpy := Lib.hid hpy
            replace hst := Lib.hid hst
            replace hfin := Lib.hid hfin
            go_upto_region 9 with fail
            go_quiet (fail)
            go_wp2
            go_ret
            exact ⟨ret_int hfin.out.symm, below_drewN hB02.out _⟩
          · have t1 : ((mkS p).toList == (mkS y.path).toList) = false := strs_diff (fun e => hpy (mkS_inj e))
            replace hpy := Lib.hid hpy
            go_upto_region 9 with fail
            go_quiet (fail)
            have hBa := below_drewN (Below.refl w2.heap.size w2) nq
            have hga := fun x : Gr (w2.drewN nq) => (hbw.out x.1 (below_step hBa x.2)).1
            have hgb := fun x : Gr (w2.drewN nq) => (hbw.out x.1 (below_step hBa x.2)).2
            clear cn1 cn2
            generalize w2.drewN nq = wa at *
            replace hBa := Lib.hid hBa
            cases hlx : lessP p y.path with
            | true =>
              have hst := hles.out y (by simp) hlast.out hpy.out hlx
              have hfin := hstop.out (by rw [hst]; decide)
              rw [hst] at hfin
              rw [hlx] at hls
              replace hst := Lib.hid hst
              replace hfin := Lib.hid hfin
              replace hlx := Lib.hid hlx
              replace hls := Lib.hid hls
              go_upto_region 11 with fail
              refine wp_region_grow (by kernel_rfl) (by kernel_rfl) ?_
              repeat (any_goals (first | go_big_quiet_step ((go_at_call 32; exact grow_of _ (hls.out.out _))) | quiet_step ((go_at_call 32; exact grow_of _ (hls.out.out _)))))
              refine wpQuiet_nil ?_
              rintro w6 ⟨⟨_, hB6⟩, rfl⟩
              have hB06 := below_step hB02.out (below_step hBa.out hB6)
              replace hB06 := Lib.hid hB06
              clear hB6
              go_wp2
              go_ret
              exact ⟨ret_int hfin.out.symm, hB06.out⟩
            | false =>
              rw [hlx] at hls
              have hH : ∀ z, done.getLast? = some z → p ≠ z.path ∧ lessP p z.path = false := fun z hz => by
                rw [hlast.out] at hz
                cases hz
                exact ⟨hpy.out, hlx⟩
              replace hlx := Lib.hid hlx
              replace hls := Lib.hid hls
              replace hH := Lib.hid hH
              go_upto_region 11 with fail
              refine wp_region_grow (by kernel_rfl) (by kernel_rfl) ?_
              repeat (any_goals (first | go_big_quiet_step ((go_at_call 32; exact grow_of _ (hls.out.out _))) | quiet_step ((go_at_call 32; exact grow_of _ (hls.out.out _)))))
              refine wpQuiet_nil ?_
              rintro wz ⟨⟨_, hB6⟩, rfl⟩
              have hBz := below_step hBa.out hB6
              replace hBz := Lib.hid hBz
              clear hB6 hga hgb hz1 t1
              have hblkz := (hBz.out.block _ (Array.getElem?_eq_some_iff.1 hblk2.out).1).trans hblk2.out
              have hMz := hM3.out.of_block (hBz.out.block _ hM3.out.lt)
              have hB0z := below_step hB02.out hBz.out
              have hst := hrest.out (by simp) hH.out
              have hne := fun q hq => hnot.out q hq hpn.out hH.out
              have d0 := cell_of (j := 0) hblkz rfl
              have d1 := cell_of (j := 1) hblkz rfl
              have d10 := cell_of (j := 10) hblkz rfl
              have hlk := dirs_look (parent p) hMz
              cases hdi : dirIn done (parent p) with
              | false =>
                rw [hdi] at hlk
                rw [hdi, if_pos rfl] at hst
                have hfin := hstop.out (by rw [hst]; decide)
                rw [hst] at hfin
                replace hblkz := Lib.hid hblkz
                replace hMz := Lib.hid hMz
                replace hB0z := Lib.hid hB0z
                replace hst := Lib.hid hst
                replace hne := Lib.hid hne
                replace hlk := Lib.hid hlk
                replace hdi := Lib.hid hdi
                replace hfin := Lib.hid hfin
                go_wp2_with (first | (go_at_call 33; (with_reducible refine (hpar.out _).mono ?_); rintro e wx ⟨rfl, rfl⟩) | (at_lookup; refine wp_look _ rfl _ _ 72 false rfl (.map (some w.heap.size)) (.string (mkS (parent p))) _ rfl rfl hlk.out ?_))
                go_ret
                exact ⟨ret_int hfin.out.symm, hB0z.out⟩
              | true =>
                rw [hdi] at hlk
                rw [hdi, if_neg (by simp)] at hst
                have hw1 : IntKind.i64.wrap (mostG done + 1) = mostG done + 1 := IntWalk.i64_in _ (by omega)
                by_cases hgr : mostG done + 1 < gr
                · rw [if_pos hgr] at hst
                  have hfin := hstop.out (by rw [hst]; decide)
                  rw [hst] at hfin
                  replace hblkz := Lib.hid hblkz
                  replace hMz := Lib.hid hMz
                  replace hB0z := Lib.hid hB0z
                  replace hst := Lib.hid hst
                  replace hne := Lib.hid hne
                  replace hlk := Lib.hid hlk
                  replace hdi := Lib.hid hdi
                  replace hfin := Lib.hid hfin
                  go_wp2_with (first | (go_at_call 33; (with_reducible refine (hpar.out _).mono ?_); rintro e wx ⟨rfl, rfl⟩) | (at_lookup; refine wp_look _ rfl _ _ 72 false rfl (.map (some w.heap.size)) (.string (mkS (parent p))) _ rfl rfl hlk.out ?_))
                  go_ret
                  exact ⟨ret_int hfin.out.symm, hB0z.out⟩
                · rw [if_neg hgr] at hst
                  have hcn := hstep.out hst
                  have hokn := hoks.out hst
                  have hmn := mostG_snoc done ⟨p, kd, sz, ⟨m1, m2, m3, m4, m5⟩, tg, sm, gr⟩
                  have hng : decide (mostG done + 1 < gr) = false := by simpa using hgr
                  by_cases hk2 : kd = 2
                  · obtain ⟨w5, hsto, hM5, hg5⟩ := dirs_store hMz (p := p) (fun hq => hne p hq rfl)
                    have hB5 := hB0z.grown hg5 hB0z.size (fun j hj => by cases hj; exact Nat.le_refl _)
                    have hd2 := dirsB_dir (done := done) (x := ⟨p, kd, sz, ⟨m1, m2, m3, m4, m5⟩, tg, sm, gr⟩) hk2
                    subst hk2
                    replace hblkz := Lib.hid hblkz
                    replace hMz := Lib.hid hMz
                    replace hB0z := Lib.hid hB0z
                    replace hst := Lib.hid hst
                    replace hne := Lib.hid hne
                    replace hlk := Lib.hid hlk
                    replace hdi := Lib.hid hdi
                    replace hcn := Lib.hid hcn
                    replace hokn := Lib.hid hokn
                    replace hmn := Lib.hid hmn
                    replace hsto := Lib.hid hsto
                    replace hM5 := Lib.hid hM5
                    replace hB5 := Lib.hid hB5
                    replace hd2 := Lib.hid hd2
                    clear hg5
                    go_wp2_with (first | (first | (go_at_call 33; (with_reducible refine (hpar.out _).mono ?_); rintro e wx ⟨rfl, rfl⟩) | (at_lookup; refine wp_look _ rfl _ _ 72 false rfl (.map (some w.heap.size)) (.string (mkS (parent p))) _ rfl rfl hlk.out ?_)) | (at_mapUpdate; refine wp_store _ rfl _ _ _ 72 rfl (.map (some w.heap.size)) (.string (mkS p)) (.bool true) rfl rfl rfl w5 hsto.out ?_))
                    go_roundw
                    case rel =>
                      refine ⟨k + 1, by go_num, by omega, ?_, ?_, hcn.out, ?_, ?_, hB5.out⟩
                      · rw [htk.out, hmn.out]
                        exact congrArg (Value.int .i64) (mx_is _ _)
                      · rw [htk.out, hmn.out]
                        (try dsimp only)
                        omega
                      · rw [htk.out]
                        exact hokn.out
                      · rw [htk.out, hd2.out]
                        exact hM5.out
                    case measure => simp [intOf]; omega
                  · have hd2 := dirsB_other (done := done) (x := ⟨p, kd, sz, ⟨m1, m2, m3, m4, m5⟩, tg, sm, gr⟩) hk2
                    have hk3 : (kd == 2) = false := by simpa using hk2
                    replace hblkz := Lib.hid hblkz
                    replace hMz := Lib.hid hMz
                    replace hB0z := Lib.hid hB0z
                    replace hst := Lib.hid hst
                    replace hne := Lib.hid hne
                    replace hlk := Lib.hid hlk
                    replace hdi := Lib.hid hdi
                    replace hcn := Lib.hid hcn
                    replace hokn := Lib.hid hokn
                    replace hmn := Lib.hid hmn
                    replace hd2 := Lib.hid hd2
                    replace hk2 := Lib.hid hk2
                    go_wp2_with (first | (go_at_call 33; (with_reducible refine (hpar.out _).mono ?_); rintro e wx ⟨rfl, rfl⟩) | (at_lookup; refine wp_look _ rfl _ _ 72 false rfl (.map (some w.heap.size)) (.string (mkS (parent p))) _ rfl rfl hlk.out ?_))
                    go_roundw
                    case rel =>
                      refine ⟨k + 1, by go_num, by omega, ?_, ?_, hcn.out, ?_, ?_, hB0z.out⟩
                      · rw [htk.out, hmn.out]
                        exact congrArg (Value.int .i64) (mx_is _ _)
                      · rw [htk.out, hmn.out]
                        (try dsimp only)
                        omega
                      · rw [htk.out]
                        exact hokn.out
                      · rw [htk.out, hd2.out]
                        exact hMz.out
                    case measure => simp [intOf]; omega
      · have hee : (ee != 0) = true := by simpa using he0
        have hfin := hstop.out (by rw [hent.out he0]; exact he0)
        rw [hent.out he0] at hfin
        replace he0 := Lib.hid he0
        replace hfin := Lib.hid hfin
        go_wp2
        go_ret
        exact ⟨ret_int hfin.out.symm, hB02.out⟩
    · obtain rfl : k = l.length := by omega
      have hz := chk_end hck
      replace hM := Lib.hid hM
      replace hok := Lib.hid hok
      replace hck := Lib.hid hck
      replace hz := Lib.hid hz
      replace hB := Lib.hid hB
      go_wp2
      go_ret
      exact ⟨ret_int hz.out.symm, hB.out⟩

end Go.Proofs.Ytcjlfkklpghjbaa

namespace Go.Proofs.Ytcjlfkklpghjbaa
open Go.RowKit

theorem dirIn_at {l : List Ent} {k : Nat} {up : Bytes} (hr : Rise l) (hk : k < l.length) (he : l[k].path = up) (h0 : up ≠ []) : dirIn l up = decide (l[k].kind = 2) := by
  unfold dirIn
  rw [decide_eq_false h0, Bool.false_or, Bool.eq_iff_iff, List.any_eq_true]
  constructor
  · rintro ⟨y, hy, h⟩
    simp only [Bool.and_eq_true, decide_eq_true_eq] at h
    have := rise_path hr hy (List.getElem_mem hk) (h.1.trans he.symm)
    rw [← this]
    simpa using h.2
  · intro h
    exact ⟨l[k], List.getElem_mem hk, by simp only [Bool.and_eq_true, decide_eq_true_eq]; exact ⟨he, by simpa using h⟩⟩
theorem dirIn_no {l : List Ent} {up : Bytes} (h : ∀ x ∈ l, x.path ≠ up) (h0 : up ≠ []) : dirIn l up = false := by
  unfold dirIn
  rw [decide_eq_false h0, Bool.false_or, List.any_eq_false]
  intro y hy
  simp [h y hy]

set_option maxHeartbeats 8000000 in
set_option maxRecDepth 100000 in
theorem rcheck20_calls (v : Value) (l : List Ent) (w : World) (hv : Ents w v l) (hs : smallEs l = true) :
    Calls Try.prog 23 #[v] w fun e w' => e = .returned (.int .i64 (chk l)) ∧ Below w.heap.size w w' := by
  obtain ⟨A, c, rfl, h2, h3⟩ := hv.shape
  obtain ⟨hl60, hsm⟩ := smallEs_at hs
  unfold maxLen at h3
  replace hv := Lib.hid hv
  replace hsm := Lib.hid hsm
  replace hs := Lib.hid hs
  go_enter Try.func23, Try.ntmps23
  go_wp2_with fail
  go_loopw [3, 4] (fun last i wr => ∃ k : Nat, i = .int .i64 k ∧ k ≤ l.length ∧ last = .int .i64 (mostG (l.take k)) ∧ mostG (l.take k) ≤ k ∧ chk l = chkFrom (l.take k) (l.drop k) ∧ ChkOk (l.take k) ∧ Below w.heap.size w wr) (fun _ i _ => l.length - (intOf i).toNat)
  case atStart => exact ⟨0, rfl, Nat.zero_le _, rfl, by simp [mostG], chk_start l, chkOk_nil, Below.refl _ _⟩
  case round =>
    obtain ⟨k, rfl, hk, rfl, hmg, hck, hok, hB⟩ := hrel
    have hmp := mostG_pos (l.take k)
    by_cases hlt : k < l.length
    · obtain ⟨g, o, rfl, c0, c1, c2, c3, c4, c5, c6, c7, c8, c9, c10⟩ := (hv.out.below hB).at hlt
      have hstep := @chk_step l k hlt hck
      have hstop := @chk_stop l k hlt hck
      have htk : l.take (k + 1) = l.take k ++ [l[k]] := List.take_succ_eq_append_getElem hlt
      have hrest := @stepE_rest (l.take k) l[k]
      have hent := @stepE_ent (l.take k) l[k]
      have hsam := fun y => @stepE_same (l.take k) l[k] y
      have hles := fun y => @stepE_less (l.take k) l[k] y
      have hoks := @ChkOk.snoc (l.take k) l[k] hok
      have hpne : entE l[k] = 0 → right l[k].path = true ∧ l[k].path ≠ [] := entE_path
      obtain ⟨hp1, hp2, hp3⟩ := hsm.out _ (List.getElem_mem hlt)
      have hal := fun W => may20_calls l[k] W (by omega) (by omega) (by omega)
      generalize l[k] = x at *
      obtain ⟨p, kd, sz, ⟨m1, m2, m3, m4, m5⟩, tg, sm, gr⟩ := x
      unfold entV entCells at hal
      dsimp only at *
      generalize entE ⟨p, kd, sz, ⟨m1, m2, m3, m4, m5⟩, tg, sm, gr⟩ = ee at *
      have hB2 := below_alloc hB (.cells #[.string (mkS p), .int .i64 kd, .int .i64 sz, .int .i64 m1, .int .i64 m2, .int .i64 m3, .int .i64 m4, .int .i64 m5, .string (mkS tg), .string (mkS sm), .int .i64 gr] 35)
      have hBr := below_alloc (Below.refl wr.heap.size wr) (.cells #[.string (mkS p), .int .i64 kd, .int .i64 sz, .int .i64 m1, .int .i64 m2, .int .i64 m3, .int .i64 m4, .int .i64 m5, .string (mkS tg), .string (mkS sm), .int .i64 gr] 35)
      have hblk := (MapKept.heap_alloc wr (.cells #[.string (mkS p), .int .i64 kd, .int .i64 sz, .int .i64 m1, .int .i64 m2, .int .i64 m3, .int .i64 m4, .int .i64 m5, .string (mkS tg), .string (mkS sm), .int .i64 gr] 35)).1
      have hki : (k : Int) < (l.length : Int) := by omega
      generalize hdn : l.take k = done at *
      have hrise := hok.rise
      have hdl : done.length = k := by rw [← hdn, List.length_take]; omega
      have hEn := (hv.out).take (k := k) (by omega)
      rw [hdn] at hEn
      replace hB := Lib.hid hB
      replace hstep := Lib.hid hstep
      replace hstop := Lib.hid hstop
      replace htk := Lib.hid htk
      replace hrest := Lib.hid hrest
      replace hent := Lib.hid hent
      replace hsam := Lib.hid hsam
      replace hles := Lib.hid hles
      replace hoks := Lib.hid hoks
      replace hpne := Lib.hid hpne
      replace hal := Lib.hid hal
      replace hB2 := Lib.hid hB2
      replace hBr := Lib.hid hBr
      replace hblk := Lib.hid hblk
      replace hck := Lib.hid hck
      replace hok := Lib.hid hok
      replace hdn := Lib.hid hdn
      replace hrise := Lib.hid hrise
      replace hdl := Lib.hid hdl
      replace hEn := Lib.hid hEn
      go_upto_region 6 with fail
      generalize wr.alloc (.cells #[.string (mkS p), .int .i64 kd, .int .i64 sz, .int .i64 m1, .int .i64 m2, .int .i64 m3, .int .i64 m4, .int .i64 m5, .string (mkS tg), .string (mkS sm), .int .i64 gr] 35) = W1 at *
      generalize hn1 : wr.heap.size = n1 at *
      replace hn1 := Lib.hid hn1
      have d0 := cell_of (j := 0) hblk.out rfl
      have d1 := cell_of (j := 1) hblk.out rfl
      have d2 := cell_of (j := 2) hblk.out rfl
      have d3 := cell_of (j := 3) hblk.out rfl
      have d4 := cell_of (j := 4) hblk.out rfl
      have d5 := cell_of (j := 5) hblk.out rfl
      have d6 := cell_of (j := 6) hblk.out rfl
      have d7 := cell_of (j := 7) hblk.out rfl
      have d8 := cell_of (j := 8) hblk.out rfl
      have d9 := cell_of (j := 9) hblk.out rfl
      have d10 := cell_of (j := 10) hblk.out rfl
      clear c0 c1 c2 c3 c4 c5 c6 c7 c8 c9 c10
      go_wp2_with fail
      (with_reducible refine (hal.out _).mono ?_)
      rintro e w2 ⟨rfl, hB12⟩
      have hblk2 := (hB12.block _ (Array.getElem?_eq_some_iff.1 hblk.out).1).trans hblk.out
      have hB02 := below_step hB2.out hB12
      clear d0 d1 d2 d3 d4 d5 d6 d7 d8 d9 d10
      replace hblk2 := Lib.hid hblk2
      replace hB02 := Lib.hid hB02
      clear hB12 hblk hB2
      by_cases he0 : ee = 0
      · subst he0
        obtain ⟨hpr, hpn⟩ := hpne.out rfl
        have hpl := right_len hpr
        have hpz := mkS_size p
        have hpar := fun W => refparent_calls (mkS p) W (by omega)
        rw [bl_mkS] at hpar
        replace hpr := Lib.hid hpr
        replace hpn := Lib.hid hpn
        replace hpar := Lib.hid hpar
        by_cases hk0 : k = 0
        · have hz0 : decide (0 < k) = false := by simp; omega
          have hH : ∀ z, done.getLast? = some z → p ≠ z.path ∧ lessP p z.path = false := fun z hz => by
            rw [← hdn.out, hk0, List.take_zero] at hz
            cases hz
          replace hk0 := Lib.hid hk0
          replace hH := Lib.hid hH
          clear hsam hles
          go_upto_region 9 with fail
          go_quiet (fail)
          have hBa := below_drewN (Below.refl w2.heap.size w2) nq
          generalize w2.drewN nq = wa at *
          replace hBa := Lib.hid hBa
          go_upto_region 11 with fail
          go_quiet (fail)
          have hBz := below_step hBa.out (below_drewN (Below.refl wa.heap.size wa) nq)
          generalize wa.drewN nq = wz at *
          replace hBz := Lib.hid hBz
          clear hBa
          have hblkz := (hBz.out.block _ (Array.getElem?_eq_some_iff.1 hblk2.out).1).trans hblk2.out
          have hB0z := below_step hB02.out hBz.out
          have hst := hrest.out (by simp) hH.out
          have d0 := cell_of (j := 0) hblkz rfl
          replace hblkz := Lib.hid hblkz
          replace hB0z := Lib.hid hB0z
          replace hst := Lib.hid hst
          (with_reducible first | skip)
          go_wp2_with fail
          (with_reducible refine (hpar.out _).mono ?_)
          rintro e w7 ⟨rfl, hB7⟩
          have hblk7 := (hB7.block _ (Array.getElem?_eq_some_iff.1 hblkz.out).1).trans hblkz.out
          have hB07 := below_step hB0z.out hB7
          have hfd := find20_calls (.slice (some ⟨g, o, none⟩) k c) done (parent p) w7 (hEn.out.below hB07)
          have d10 := cell_of (j := 10) hblk7 rfl
          replace hblk7 := Lib.hid hblk7
          replace hB07 := Lib.hid hB07
          replace hfd := Lib.hid hfd
          clear hB7 d0
          have hkc : (k : Int) ≤ (c : Int) := by omega
          go_wp2_with fail
          (with_reducible refine hfd.out.mono ?_)
          rintro e w8 ⟨hfo, rfl⟩
          have hpe : (mkS (parent p)).toList.isEmpty = decide (parent p = []) := by rw [str_nil, bl_mkS]
          have hw1 : IntKind.i64.wrap (mostG done + 1) = mostG done + 1 := IntWalk.i64_in _ (by omega)
          by_cases hu0 : parent p = []
          · have hdi : dirIn done (parent p) = true := by unfold dirIn; rw [decide_eq_true hu0]; rfl
            rw [decide_eq_true hu0] at hpe
            rcases hfo with ⟨q, hq, _, rfl⟩ | ⟨_, rfl⟩
            · replace hu0 := Lib.hid hu0
              replace hdi := Lib.hid hdi
              have hdi := hdi.out
              by_cases hgr : mostG done + 1 < gr
              · have hst := hst.out
                rw [hdi, if_neg (by simp), if_pos hgr] at hst
                have hfin := hstop.out (by rw [hst]; decide)
                rw [hst] at hfin
                replace hst := Lib.hid hst
                replace hfin := Lib.hid hfin
                replace hdi := Lib.hid hdi
                go_wp2
                go_ret
                exact ⟨ret_int hfin.out.symm, hB07.out⟩
              · have hst := hst.out
                rw [hdi, if_neg (by simp), if_neg hgr] at hst
                have hcn := hstep.out hst
                have hokn := hoks.out hst
                have hmn := mostG_snoc done ⟨p, kd, sz, ⟨m1, m2, m3, m4, m5⟩, tg, sm, gr⟩
                have hng : decide (mostG done + 1 < gr) = false := by simpa using hgr
                replace hst := Lib.hid hst
                replace hcn := Lib.hid hcn
                replace hokn := Lib.hid hokn
                replace hmn := Lib.hid hmn
                replace hdi := Lib.hid hdi
                go_wp2
                go_roundw
                case rel =>
                  refine ⟨k + 1, by go_num, by omega, ?_, ?_, hcn.out, ?_, hB07.out⟩
                  · rw [htk.out, hmn.out]
                    exact congrArg (Value.int .i64) (mx_is _ _)
                  · rw [htk.out, hmn.out]
                    (try dsimp only)
                    omega
                  · rw [htk.out]
                    exact hokn.out
                case measure => simp [intOf]; omega
            · replace hu0 := Lib.hid hu0
              replace hdi := Lib.hid hdi
              have hdi := hdi.out
              by_cases hgr : mostG done + 1 < gr
              · have hst := hst.out
                rw [hdi, if_neg (by simp), if_pos hgr] at hst
                have hfin := hstop.out (by rw [hst]; decide)
                rw [hst] at hfin
                replace hst := Lib.hid hst
                replace hfin := Lib.hid hfin
                replace hdi := Lib.hid hdi
                go_wp2
                go_ret
                exact ⟨ret_int hfin.out.symm, hB07.out⟩
              · have hst := hst.out
                rw [hdi, if_neg (by simp), if_neg hgr] at hst
                have hcn := hstep.out hst
                have hokn := hoks.out hst
                have hmn := mostG_snoc done ⟨p, kd, sz, ⟨m1, m2, m3, m4, m5⟩, tg, sm, gr⟩
                have hng : decide (mostG done + 1 < gr) = false := by simpa using hgr
                replace hst := Lib.hid hst
                replace hcn := Lib.hid hcn
                replace hokn := Lib.hid hokn
                replace hmn := Lib.hid hmn
                replace hdi := Lib.hid hdi
                go_wp2
                go_roundw
                case rel =>
                  refine ⟨k + 1, by go_num, by omega, ?_, ?_, hcn.out, ?_, hB07.out⟩
                  · rw [htk.out, hmn.out]
                    exact congrArg (Value.int .i64) (mx_is _ _)
                  · rw [htk.out, hmn.out]
                    (try dsimp only)
                    omega
                  · rw [htk.out]
                    exact hokn.out
                case measure => simp [intOf]; omega
          · rw [decide_eq_false hu0] at hpe
            rcases hfo with ⟨q, hq, hqe, rfl⟩ | ⟨hno, rfl⟩
            · have hdi := dirIn_at hrise.out hq hqe hu0
              have hql : q < l.length := by have := hdl.out; omega
              have hqk : l[q] = done[q] := by
                have e : done[q]? = l[q]? := by rw [← hdn.out, List.getElem?_take, if_pos (by have := hdl.out; omega)]
                rw [List.getElem?_eq_getElem hq, List.getElem?_eq_getElem hql] at e
                exact (Option.some.inj e).symm
              obtain ⟨g3, o3, hgo3, _, cq, hcq2⟩ := (hv.out.below hB07.out).at hql
              clear hcq2
              cases hgo3
              rw [hqk] at cq
              generalize (done[q]).kind = qk at *
              have hqi : (q : Int) < (l.length : Int) := by omega
              by_cases hq2 : qk = 2
              · subst hq2
                rw [decide_eq_true rfl] at hdi
                replace hu0 := Lib.hid hu0
                replace hqe := Lib.hid hqe
                replace hqk := Lib.hid hqk
                by_cases hgr : mostG done + 1 < gr
                · have hst := hst.out
                  rw [hdi, if_neg (by simp), if_pos hgr] at hst
                  have hfin := hstop.out (by rw [hst]; decide)
                  rw [hst] at hfin
                  replace hst := Lib.hid hst
                  replace hfin := Lib.hid hfin
                  replace hdi := Lib.hid hdi
                  go_wp2
                  go_ret
                  exact ⟨ret_int hfin.out.symm, hB07.out⟩
                · have hst := hst.out
                  rw [hdi, if_neg (by simp), if_neg hgr] at hst
                  have hcn := hstep.out hst
                  have hokn := hoks.out hst
                  have hmn := mostG_snoc done ⟨p, kd, sz, ⟨m1, m2, m3, m4, m5⟩, tg, sm, gr⟩
                  have hng : decide (mostG done + 1 < gr) = false := by simpa using hgr
                  replace hst := Lib.hid hst
                  replace hcn := Lib.hid hcn
                  replace hokn := Lib.hid hokn
                  replace hmn := Lib.hid hmn
                  replace hdi := Lib.hid hdi
                  go_wp2
                  go_roundw
                  case rel =>
                    refine ⟨k + 1, by go_num, by omega, ?_, ?_, hcn.out, ?_, hB07.out⟩
                    · rw [htk.out, hmn.out]
                      exact congrArg (Value.int .i64) (mx_is _ _)
                    · rw [htk.out, hmn.out]
                      (try dsimp only)
                      omega
                    · rw [htk.out]
                      exact hokn.out
                  case measure => simp [intOf]; omega
              · rw [decide_eq_false hq2] at hdi
                have hq3 : (qk != 2) = true := by simpa using hq2
                replace hu0 := Lib.hid hu0
                replace hqe := Lib.hid hqe
                replace hqk := Lib.hid hqk
                replace hq2 := Lib.hid hq2
                have hst := hst.out
                rw [hdi, if_pos rfl] at hst
                have hfin := hstop.out (by rw [hst]; decide)
                rw [hst] at hfin
                replace hst := Lib.hid hst
                replace hfin := Lib.hid hfin
                replace hdi := Lib.hid hdi
                go_wp2
                go_ret
                exact ⟨ret_int hfin.out.symm, hB07.out⟩
            · have hdi := dirIn_no hno hu0
              replace hu0 := Lib.hid hu0
              replace hno := Lib.hid hno
              have hst := hst.out
              rw [hdi, if_pos rfl] at hst
              have hfin := hstop.out (by rw [hst]; decide)
              rw [hst] at hfin
              replace hst := Lib.hid hst
              replace hfin := Lib.hid hfin
              replace hdi := Lib.hid hdi
              go_wp2
              go_ret
              exact ⟨ret_int hfin.out.symm, hB07.out⟩
        · have hz0 : decide (0 < k) = true := by simp; omega
          have hk1 : k - 1 < l.length := by omega
          have hlast := take_last (l := l) (k := k) (by omega) (by omega)
          rw [hdn.out] at hlast
          obtain ⟨g2, o2, hgo, cy, hcy2⟩ := hv.out.at hk1
          clear hcy2
          obtain ⟨hy1, _, _⟩ := hsm.out _ (List.getElem_mem hk1)
          cases hgo
          generalize l[k - 1] = y at *
          have hyz := mkS_size y.path
          have hz1 : IntKind.i64.wrap ((k : Int) - 1) = ((k - 1 : Nat) : Int) := by rw [IntWalk.i64_in _ (by omega)]; omega
          obtain ⟨km, hkm⟩ : ∃ x, x = k - 1 := ⟨_, rfl⟩
          rw [← hkm] at hz1 cy
          have hkm1 : km < l.length := by omega
          have hkm2 : (0 : Int) ≤ (km : Int) := by omega
          have hkm3 : (km : Int) < (l.length : Int) := by omega
          have hbw : ∀ W, Below w2.heap.size w2 W → W.cell? ⟨g, o + km * 11, none⟩ = some (.string (mkS y.path)) ∧ W.cell? ⟨n1, 0, none⟩ = some (.string (mkS p)) := fun W hW =>
            ⟨((below_step hB02.out hW).cell (cell_lt cy)).trans cy, cell_of ((hW.block _ (Array.getElem?_eq_some_iff.1 hblk2.out).1).trans hblk2.out) rfl⟩
          have hls := fun W => refless_calls (mkS p) (mkS y.path) W (by omega) (by omega)
          rw [bl_mkS, bl_mkS] at hls
          have cn1 := fun n : Nat => (hbw (w2.drewN n) (below_drewN (Below.refl _ _) n)).1
          have cn2 := fun n : Nat => (hbw (w2.drewN n) (below_drewN (Below.refl _ _) n)).2
          replace hk0 := Lib.hid hk0
          replace hkm := Lib.hid hkm
          replace hlast := Lib.hid hlast
          replace hls := Lib.hid hls
          replace hbw := Lib.hid hbw
          clear cy
          by_cases hpy : p = y.path
          · have t1 : ((mkS p).toList == (mkS y.path).toList) = true := strs_alike (by rw [hpy])
            have hst := hsam.out y (by simp) hlast.out hpy
            have hfin := hstop.out (by rw [hst]; decide)
            rw [hst] at hfin
            replace hpy := Lib.hid hpy
            replace hst := Lib.hid hst
            replace hfin := Lib.hid hfin
            go_upto_region 9 with fail
            go_quiet (fail)
            go_wp2
            go_ret
            exact ⟨ret_int hfin.out.symm, below_drewN hB02.out _⟩
          · have t1 : ((mkS p).toList == (mkS y.path).toList) = false := strs_diff (fun e => hpy (mkS_inj e))
            replace hpy := Lib.hid hpy
            go_upto_region 9 with fail
            go_quiet (fail)
            have hBa := below_drewN (Below.refl w2.heap.size w2) nq
            have hga := fun x : Gr (w2.drewN nq) => (hbw.out x.1 (below_step hBa x.2)).1
            have hgb := fun x : Gr (w2.drewN nq) => (hbw.out x.1 (below_step hBa x.2)).2
            clear cn1 cn2
            generalize w2.drewN nq = wa at *
            replace hBa := Lib.hid hBa
            cases hlx : lessP p y.path with
            | true =>
              have hst := hles.out y (by simp) hlast.out hpy.out hlx
              have hfin := hstop.out (by rw [hst]; decide)
              rw [hst] at hfin
              rw [hlx] at hls
              replace hst := Lib.hid hst
              replace hfin := Lib.hid hfin
              replace hlx := Lib.hid hlx
              replace hls := Lib.hid hls
              go_upto_region 11 with fail
              refine wp_region_grow (by kernel_rfl) (by kernel_rfl) ?_
              repeat (any_goals (first | go_big_quiet_step ((go_at_call 39; exact grow_of _ (hls.out.out _))) | quiet_step ((go_at_call 39; exact grow_of _ (hls.out.out _)))))
              refine wpQuiet_nil ?_
              rintro w6 ⟨⟨_, hB6⟩, rfl⟩
              have hB06 := below_step hB02.out (below_step hBa.out hB6)
              replace hB06 := Lib.hid hB06
              clear hB6
              go_wp2
              go_ret
              exact ⟨ret_int hfin.out.symm, hB06.out⟩
            | false =>
              rw [hlx] at hls
              have hH : ∀ z, done.getLast? = some z → p ≠ z.path ∧ lessP p z.path = false := fun z hz => by
                rw [hlast.out] at hz
                cases hz
                exact ⟨hpy.out, hlx⟩
              replace hlx := Lib.hid hlx
              replace hls := Lib.hid hls
              replace hH := Lib.hid hH
              go_upto_region 11 with fail
              refine wp_region_grow (by kernel_rfl) (by kernel_rfl) ?_
              repeat (any_goals (first | go_big_quiet_step ((go_at_call 39; exact grow_of _ (hls.out.out _))) | quiet_step ((go_at_call 39; exact grow_of _ (hls.out.out _)))))
              refine wpQuiet_nil ?_
              rintro wz ⟨⟨_, hB6⟩, rfl⟩
              have hBz := below_step hBa.out hB6
              replace hBz := Lib.hid hBz
              clear hB6 hga hgb hz1 t1
              have hblkz := (hBz.out.block _ (Array.getElem?_eq_some_iff.1 hblk2.out).1).trans hblk2.out
              have hB0z := below_step hB02.out hBz.out
              have hst := hrest.out (by simp) hH.out
              have d0 := cell_of (j := 0) hblkz rfl
              replace hblkz := Lib.hid hblkz
              replace hB0z := Lib.hid hB0z
              replace hst := Lib.hid hst
              (with_reducible first | skip)
              go_wp2_with fail
              (with_reducible refine (hpar.out _).mono ?_)
              rintro e w7 ⟨rfl, hB7⟩
              have hblk7 := (hB7.block _ (Array.getElem?_eq_some_iff.1 hblkz.out).1).trans hblkz.out
              have hB07 := below_step hB0z.out hB7
              have hfd := find20_calls (.slice (some ⟨g, o, none⟩) k c) done (parent p) w7 (hEn.out.below hB07)
              have d10 := cell_of (j := 10) hblk7 rfl
              replace hblk7 := Lib.hid hblk7
              replace hB07 := Lib.hid hB07
              replace hfd := Lib.hid hfd
              clear hB7 d0
              have hkc : (k : Int) ≤ (c : Int) := by omega
              go_wp2_with fail
              (with_reducible refine hfd.out.mono ?_)
              rintro e w8 ⟨hfo, rfl⟩
              have hpe : (mkS (parent p)).toList.isEmpty = decide (parent p = []) := by rw [str_nil, bl_mkS]
              have hw1 : IntKind.i64.wrap (mostG done + 1) = mostG done + 1 := IntWalk.i64_in _ (by omega)
              by_cases hu0 : parent p = []
              · have hdi : dirIn done (parent p) = true := by unfold dirIn; rw [decide_eq_true hu0]; rfl
                rw [decide_eq_true hu0] at hpe
                rcases hfo with ⟨q, hq, _, rfl⟩ | ⟨_, rfl⟩
                · replace hu0 := Lib.hid hu0
                  replace hdi := Lib.hid hdi
                  have hdi := hdi.out
                  by_cases hgr : mostG done + 1 < gr
                  · have hst := hst.out
                    rw [hdi, if_neg (by simp), if_pos hgr] at hst
                    have hfin := hstop.out (by rw [hst]; decide)
                    rw [hst] at hfin
                    replace hst := Lib.hid hst
                    replace hfin := Lib.hid hfin
                    replace hdi := Lib.hid hdi
                    go_wp2
                    go_ret
                    exact ⟨ret_int hfin.out.symm, hB07.out⟩
                  · have hst := hst.out
                    rw [hdi, if_neg (by simp), if_neg hgr] at hst
                    have hcn := hstep.out hst
                    have hokn := hoks.out hst
                    have hmn := mostG_snoc done ⟨p, kd, sz, ⟨m1, m2, m3, m4, m5⟩, tg, sm, gr⟩
                    have hng : decide (mostG done + 1 < gr) = false := by simpa using hgr
                    replace hst := Lib.hid hst
                    replace hcn := Lib.hid hcn
                    replace hokn := Lib.hid hokn
                    replace hmn := Lib.hid hmn
                    replace hdi := Lib.hid hdi
                    go_wp2
                    go_roundw
                    case rel =>
                      refine ⟨k + 1, by go_num, by omega, ?_, ?_, hcn.out, ?_, hB07.out⟩
                      · rw [htk.out, hmn.out]
                        exact congrArg (Value.int .i64) (mx_is _ _)
                      · rw [htk.out, hmn.out]
                        (try dsimp only)
                        omega
                      · rw [htk.out]
                        exact hokn.out
                    case measure => simp [intOf]; omega
                · replace hu0 := Lib.hid hu0
                  replace hdi := Lib.hid hdi
                  have hdi := hdi.out
                  by_cases hgr : mostG done + 1 < gr
                  · have hst := hst.out
                    rw [hdi, if_neg (by simp), if_pos hgr] at hst
                    have hfin := hstop.out (by rw [hst]; decide)
                    rw [hst] at hfin
                    replace hst := Lib.hid hst
                    replace hfin := Lib.hid hfin
                    replace hdi := Lib.hid hdi
                    go_wp2
                    go_ret
                    exact ⟨ret_int hfin.out.symm, hB07.out⟩
                  · have hst := hst.out
                    rw [hdi, if_neg (by simp), if_neg hgr] at hst
                    have hcn := hstep.out hst
                    have hokn := hoks.out hst
                    have hmn := mostG_snoc done ⟨p, kd, sz, ⟨m1, m2, m3, m4, m5⟩, tg, sm, gr⟩
                    have hng : decide (mostG done + 1 < gr) = false := by simpa using hgr
                    replace hst := Lib.hid hst
                    replace hcn := Lib.hid hcn
                    replace hokn := Lib.hid hokn
                    replace hmn := Lib.hid hmn
                    replace hdi := Lib.hid hdi
                    go_wp2
                    go_roundw
                    case rel =>
                      refine ⟨k + 1, by go_num, by omega, ?_, ?_, hcn.out, ?_, hB07.out⟩
                      · rw [htk.out, hmn.out]
                        exact congrArg (Value.int .i64) (mx_is _ _)
                      · rw [htk.out, hmn.out]
                        (try dsimp only)
                        omega
                      · rw [htk.out]
                        exact hokn.out
                    case measure => simp [intOf]; omega
              · rw [decide_eq_false hu0] at hpe
                rcases hfo with ⟨q, hq, hqe, rfl⟩ | ⟨hno, rfl⟩
                · have hdi := dirIn_at hrise.out hq hqe hu0
                  have hql : q < l.length := by have := hdl.out; omega
                  have hqk : l[q] = done[q] := by
                    have e : done[q]? = l[q]? := by rw [← hdn.out, List.getElem?_take, if_pos (by have := hdl.out; omega)]
                    rw [List.getElem?_eq_getElem hq, List.getElem?_eq_getElem hql] at e
                    exact (Option.some.inj e).symm
                  obtain ⟨g3, o3, hgo3, _, cq, hcq2⟩ := (hv.out.below hB07.out).at hql
                  clear hcq2
                  cases hgo3
                  rw [hqk] at cq
                  generalize (done[q]).kind = qk at *
                  have hqi : (q : Int) < (l.length : Int) := by omega
                  by_cases hq2 : qk = 2
                  · subst hq2
                    rw [decide_eq_true rfl] at hdi
                    replace hu0 := Lib.hid hu0
                    replace hqe := Lib.hid hqe
                    replace hqk := Lib.hid hqk
                    by_cases hgr : mostG done + 1 < gr
                    · have hst := hst.out
                      rw [hdi, if_neg (by simp), if_pos hgr] at hst
                      have hfin := hstop.out (by rw [hst]; decide)
                      rw [hst] at hfin
                      replace hst := Lib.hid hst
                      replace hfin := Lib.hid hfin
                      replace hdi := Lib.hid hdi
                      go_wp2
                      go_ret
                      exact ⟨ret_int hfin.out.symm, hB07.out⟩
                    · have hst := hst.out
                      rw [hdi, if_neg (by simp), if_neg hgr] at hst
                      have hcn := hstep.out hst
                      have hokn := hoks.out hst
                      have hmn := mostG_snoc done ⟨p, kd, sz, ⟨m1, m2, m3, m4, m5⟩, tg, sm, gr⟩
                      have hng : decide (mostG done + 1 < gr) = false := by simpa using hgr
                      replace hst := Lib.hid hst
                      replace hcn := Lib.hid hcn
                      replace hokn := Lib.hid hokn
                      replace hmn := Lib.hid hmn
                      replace hdi := Lib.hid hdi
                      go_wp2
                      go_roundw
                      case rel =>
                        refine ⟨k + 1, by go_num, by omega, ?_, ?_, hcn.out, ?_, hB07.out⟩
                        · rw [htk.out, hmn.out]
                          exact congrArg (Value.int .i64) (mx_is _ _)
                        · rw [htk.out, hmn.out]
                          (try dsimp only)
                          omega
                        · rw [htk.out]
                          exact hokn.out
                      case measure => simp [intOf]; omega
                  · rw [decide_eq_false hq2] at hdi
                    have hq3 : (qk != 2) = true := by simpa using hq2
                    replace hu0 := Lib.hid hu0
                    replace hqe := Lib.hid hqe
                    replace hqk := Lib.hid hqk
                    replace hq2 := Lib.hid hq2
                    have hst := hst.out
                    rw [hdi, if_pos rfl] at hst
                    have hfin := hstop.out (by rw [hst]; decide)
                    rw [hst] at hfin
                    replace hst := Lib.hid hst
                    replace hfin := Lib.hid hfin
                    replace hdi := Lib.hid hdi
                    go_wp2
                    go_ret
                    exact ⟨ret_int hfin.out.symm, hB07.out⟩
                · have hdi := dirIn_no hno hu0
                  replace hu0 := Lib.hid hu0
                  replace hno := Lib.hid hno
                  have hst := hst.out
                  rw [hdi, if_pos rfl] at hst
                  have hfin := hstop.out (by rw [hst]; decide)
                  rw [hst] at hfin
                  replace hst := Lib.hid hst
                  replace hfin := Lib.hid hfin
                  replace hdi := Lib.hid hdi
                  go_wp2
                  go_ret
                  exact ⟨ret_int hfin.out.symm, hB07.out⟩
      · have hee : (ee != 0) = true := by simpa using he0
        have hfin := hstop.out (by rw [hent.out he0]; exact he0)
        rw [hent.out he0] at hfin
        replace he0 := Lib.hid he0
        replace hfin := Lib.hid hfin
        go_wp2
        go_ret
        exact ⟨ret_int hfin.out.symm, hB02.out⟩
    · obtain rfl : k = l.length := by omega
      have hz := chk_end hck
      replace hok := Lib.hid hok
      replace hck := Lib.hid hck
      replace hz := Lib.hid hz
      replace hB := Lib.hid hB
      go_wp2
      go_ret
      exact ⟨ret_int hz.out.symm, hB.out⟩

end Go.Proofs.Ytcjlfkklpghjbaa

namespace Go.Proofs.Ytcjlfkklpghjbaa
open Go.RowKit

def zeroEnt : Ent := ⟨[], 0, 0, ⟨0, 0, 0, 0, 0⟩, [], [], 0⟩
def entOr (o : Option Ent) : Ent := o.getD zeroEnt

theorem two_allocs (W : World) (o1 o2 : Obj) : ((W.alloc o1).alloc o2).heap[W.heap.size]? = some o1 ∧ ((W.alloc o1).alloc o2).heap[W.heap.size + 1]? = some o2 := by
  have s1 : (W.alloc o1).heap.size = W.heap.size + 1 := by simp
  constructor
  · rw [(MapKept.heap_alloc (W.alloc o1) o2).2 W.heap.size (by rw [s1]; omega)]
    exact (MapKept.heap_alloc W o1).1
  · have := (MapKept.heap_alloc (W.alloc o1) o2).1
    rwa [s1] at this

theorem below_set2 {b : Nat} {a w : World} {k : Nat} {u : Value} (h : Below b a w) : Below b a (w.setCell ⟨b, k, none⟩ u) := h.setCell (Nat.le_refl b) u
set_option maxHeartbeats 4000000 in
set_option maxRecDepth 100000 in
theorem at44_calls (v : Value) (l : List Ent) (p : Bytes) (w : World) (hv : Ents w v l) (hr : Rise l) :
    Calls Try.prog 25 #[v, .string (mkS p)] w fun e w' => e = .returned (.tuple #[entV (entOr (entAt l p)), .bool (entAt l p).isSome]) ∧ Below w.heap.size w w' := by
  have hB := below_alloc (Below.refl w.heap.size w) (.cells #[.string ⟨#[]⟩, .int .i64 0, .int .i64 0, .int .i64 0, .int .i64 0, .int .i64 0, .int .i64 0, .int .i64 0, .string ⟨#[]⟩, .string ⟨#[]⟩, .int .i64 0] 35)
  have hblk := (MapKept.heap_alloc w (.cells #[.string ⟨#[]⟩, .int .i64 0, .int .i64 0, .int .i64 0, .int .i64 0, .int .i64 0, .int .i64 0, .int .i64 0, .string ⟨#[]⟩, .string ⟨#[]⟩, .int .i64 0] 35)).1
  have hv1 := hv.below hB
  have hfd := find20_calls v l p _ hv1
  obtain ⟨A, c, rfl, h2, h3⟩ := hv.shape
  unfold maxLen at h3
  cases he : entAt l p with
  | some x =>
    obtain ⟨hx1, hx2⟩ := entAt_some he
    have hat : ∀ (k : Nat) (hk : k < l.length), l[k].path = p → l[k] = x := fun k hk h => rise_path hr (List.getElem_mem hk) hx1 (h.trans hx2.symm)
    obtain ⟨xp, kd, sz, ⟨m1, m2, m3, m4, m5⟩, tg, sm, gr⟩ := x
    unfold entOr entV entCells
    dsimp only [Option.getD] at *
    replace hv := Lib.hid hv
    replace hB := Lib.hid hB
    replace hblk := Lib.hid hblk
    replace hv1 := Lib.hid hv1
    replace hfd := Lib.hid hfd
    replace he := Lib.hid he
    replace hx1 := Lib.hid hx1
    replace hx2 := Lib.hid hx2
    replace hat := Lib.hid hat
    replace hr := Lib.hid hr
    go_enter Try.func25, Try.ntmps25
    go_wp2_with fail
    (with_reducible refine (hfd.out).mono ?_)
    rintro e w1 ⟨hfo, rfl⟩
    rcases hfo with ⟨k, hk, hp, rfl⟩ | ⟨hno, rfl⟩
    · obtain ⟨g, o, hgo, c0, c1, c2, c3, c4, c5, c6, c7, c8, c9, c10⟩ := hv1.out.at hk
      cases hgo
      rw [hat.out k hk hp] at c0 c1 c2 c3 c4 c5 c6 c7 c8 c9 c10
      dsimp only at c0 c1 c2 c3 c4 c5 c6 c7 c8 c9 c10
      have hki : (k : Int) < (l.length : Int) := by omega
      have hblk1 := hblk.out
      generalize hW : w.alloc (.cells #[.string ⟨#[]⟩, .int .i64 0, .int .i64 0, .int .i64 0, .int .i64 0, .int .i64 0, .int .i64 0, .int .i64 0, .string ⟨#[]⟩, .string ⟨#[]⟩, .int .i64 0] 35) = W at *
      have f0 : ∀ k, (W).frozen? ⟨w.heap.size, k, none⟩ = false := fun k => by simp [World.frozen?, hblk1]
      have z0 := cell_of (j := 0) hblk1 rfl
      have z1 := cell_of (j := 1) hblk1 rfl
      have z2 := cell_of (j := 2) hblk1 rfl
      have z3 := cell_of (j := 3) hblk1 rfl
      have z4 := cell_of (j := 4) hblk1 rfl
      have z5 := cell_of (j := 5) hblk1 rfl
      have z6 := cell_of (j := 6) hblk1 rfl
      have z7 := cell_of (j := 7) hblk1 rfl
      have z8 := cell_of (j := 8) hblk1 rfl
      have z9 := cell_of (j := 9) hblk1 rfl
      have z10 := cell_of (j := 10) hblk1 rfl
      replace hblk1 := Lib.hid hblk1
      replace hW := Lib.hid hW
      replace hp := Lib.hid hp
      go_wp2
      refine bodyPost_ret (v := .tuple #[.agg #[.string (mkS xp), .int .i64 kd, .int .i64 sz, .int .i64 m1, .int .i64 m2, .int .i64 m3, .int .i64 m4, .int .i64 m5, .string (mkS tg), .string (mkS sm), .int .i64 gr], .bool true]) ?_ rfl ⟨rfl, ?_⟩
      · rw [results_cell_tmp rfl]
        go_simp
      · iterate 11 refine below_set2 ?_
        exact hB.out
    · exact absurd hx2.out (hno _ hx1.out)
  | none =>
    have hat := entAt_none he
    unfold entOr zeroEnt entV entCells
    dsimp only [Option.getD] at *
    replace hv := Lib.hid hv
    replace hB := Lib.hid hB
    replace hblk := Lib.hid hblk
    replace hv1 := Lib.hid hv1
    replace hfd := Lib.hid hfd
    replace he := Lib.hid he
    replace hat := Lib.hid hat
    replace hr := Lib.hid hr
    go_enter Try.func25, Try.ntmps25
    go_wp2_with fail
    (with_reducible refine (hfd.out).mono ?_)
    rintro e w1 ⟨hfo, rfl⟩
    rcases hfo with ⟨k, hk, hp, rfl⟩ | ⟨hno, rfl⟩
    · exact absurd hp (hat.out _ (List.getElem_mem hk))
    · have hblk1 := hblk.out
      generalize hW : w.alloc (.cells #[.string ⟨#[]⟩, .int .i64 0, .int .i64 0, .int .i64 0, .int .i64 0, .int .i64 0, .int .i64 0, .int .i64 0, .string ⟨#[]⟩, .string ⟨#[]⟩, .int .i64 0] 35) = W at *
      have f0 : ∀ k, (W).frozen? ⟨w.heap.size, k, none⟩ = false := fun k => by simp [World.frozen?, hblk1]
      have z0 := cell_of (j := 0) hblk1 rfl
      have z1 := cell_of (j := 1) hblk1 rfl
      have z2 := cell_of (j := 2) hblk1 rfl
      have z3 := cell_of (j := 3) hblk1 rfl
      have z4 := cell_of (j := 4) hblk1 rfl
      have z5 := cell_of (j := 5) hblk1 rfl
      have z6 := cell_of (j := 6) hblk1 rfl
      have z7 := cell_of (j := 7) hblk1 rfl
      have z8 := cell_of (j := 8) hblk1 rfl
      have z9 := cell_of (j := 9) hblk1 rfl
      have z10 := cell_of (j := 10) hblk1 rfl
      replace hblk1 := Lib.hid hblk1
      replace hW := Lib.hid hW
      replace hno := Lib.hid hno
      go_wp2
      refine bodyPost_ret (v := .tuple #[.agg #[.string ⟨#[]⟩, .int .i64 0, .int .i64 0, .int .i64 0, .int .i64 0, .int .i64 0, .int .i64 0, .int .i64 0, .string ⟨#[]⟩, .string ⟨#[]⟩, .int .i64 0], .bool false]) ?_ rfl ⟨rfl, ?_⟩
      · rw [results_cell_tmp rfl]
        go_simp
      · iterate 11 refine below_set2 ?_
        exact hB.out

end Go.Proofs.Ytcjlfkklpghjbaa

namespace Go.Proofs.Ytcjlfkklpghjbaa
open Go.RowKit

theorem eql_mt (W : World) (a1 a2 a3 a4 a5 b1 b2 b3 b4 b5 : Int) :
    (binOp .eql 33 (.agg #[.int .i64 a1, .int .i64 a2, .int .i64 a3, .int .i64 a4, .int .i64 a5]) (.agg #[.int .i64 b1, .int .i64 b2, .int .i64 b3, .int .i64 b4, .int .i64 b5])).run Try.prog W = .ok (.bool (decide (a1 = b1 ∧ a2 = b2 ∧ a3 = b3 ∧ a4 = b4 ∧ a5 = b5))) W := by
  go_simp
  by_cases h1 : a1 = b1 <;> by_cases h2 : a2 = b2 <;> by_cases h3 : a3 = b3 <;> by_cases h4 : a4 = b4 <;> by_cases h5 : a5 = b5 <;> simp [h1, h2, h3, h4, h5]

set_option maxHeartbeats 4000000 in
set_option maxRecDepth 100000 in
theorem alike44_some (x y : Ent) (w : World) :
    Calls Try.prog 26 #[entV x, .bool true, entV y, .bool true] w fun e w' => e = .returned (.bool (alikeE (some x) (some y))) ∧ Below w.heap.size w w' := by
  have hal : alikeE (some x) (some y) = (decide (x.kind = y.kind) && decide (x.mt = y.mt) && decide (x.target = y.target) && (decide (x.kind ≠ 1) || (decide (x.size = y.size) && decide (x.sum = y.sum)))) := rfl
  have hmtq := @mt_eq x.mt y.mt
  generalize alikeE (some x) (some y) = r at *
  obtain ⟨p1, kd1, sz1, ⟨a1, a2, a3, a4, a5⟩, tg1, sm1, gr1⟩ := x
  obtain ⟨p2, kd2, sz2, ⟨b1, b2, b3, b4, b5⟩, tg2, sm2, gr2⟩ := y
  unfold entV entCells
  dsimp only at *
  have hB := below_alloc (below_alloc (Below.refl w.heap.size w) (.cells #[.string (mkS p1), .int .i64 kd1, .int .i64 sz1, .int .i64 a1, .int .i64 a2, .int .i64 a3, .int .i64 a4, .int .i64 a5, .string (mkS tg1), .string (mkS sm1), .int .i64 gr1] 35)) (.cells #[.string (mkS p2), .int .i64 kd2, .int .i64 sz2, .int .i64 b1, .int .i64 b2, .int .i64 b3, .int .i64 b4, .int .i64 b5, .string (mkS tg2), .string (mkS sm2), .int .i64 gr2] 35)
  obtain ⟨q1, q2⟩ := two_allocs w (.cells #[.string (mkS p1), .int .i64 kd1, .int .i64 sz1, .int .i64 a1, .int .i64 a2, .int .i64 a3, .int .i64 a4, .int .i64 a5, .string (mkS tg1), .string (mkS sm1), .int .i64 gr1] 35) (.cells #[.string (mkS p2), .int .i64 kd2, .int .i64 sz2, .int .i64 b1, .int .i64 b2, .int .i64 b3, .int .i64 b4, .int .i64 b5, .string (mkS tg2), .string (mkS sm2), .int .i64 gr2] 35)
  have x1 := cell_of (j := 1) q1 rfl
  have x2 := cell_of (j := 2) q1 rfl
  have x3 := cell_of (j := 3) q1 rfl
  have x4 := cell_of (j := 4) q1 rfl
  have x5 := cell_of (j := 5) q1 rfl
  have x6 := cell_of (j := 6) q1 rfl
  have x7 := cell_of (j := 7) q1 rfl
  have x8 := cell_of (j := 8) q1 rfl
  have x9 := cell_of (j := 9) q1 rfl
  have y1 := cell_of (j := 1) q2 rfl
  have y2 := cell_of (j := 2) q2 rfl
  have y3 := cell_of (j := 3) q2 rfl
  have y4 := cell_of (j := 4) q2 rfl
  have y5 := cell_of (j := 5) q2 rfl
  have y6 := cell_of (j := 6) q2 rfl
  have y7 := cell_of (j := 7) q2 rfl
  have y8 := cell_of (j := 8) q2 rfl
  have y9 := cell_of (j := 9) q2 rfl
  have hem := fun W => eql_mt W a1 a2 a3 a4 a5 b1 b2 b3 b4 b5
  obtain ⟨mq, hmq⟩ : ∃ b : Bool, b = decide (a1 = b1 ∧ a2 = b2 ∧ a3 = b3 ∧ a4 = b4 ∧ a5 = b5) := ⟨_, rfl⟩
  rw [← hmq] at hem
  have hmd : decide ((⟨a1, a2, a3, a4, a5⟩ : Mt) = ⟨b1, b2, b3, b4, b5⟩) = mq := by
    rw [hmq, Bool.eq_iff_iff, decide_eq_true_eq, decide_eq_true_eq]
    exact hmtq.symm
  rw [hmd] at hal
  have ht : ((mkS tg1).toList == (mkS tg2).toList) = decide (tg1 = tg2) := by rw [mkS_toList, mkS_toList, Bool.eq_iff_iff]; simp
  have hs : ((mkS sm1).toList == (mkS sm2).toList) = decide (sm1 = sm2) := by rw [mkS_toList, mkS_toList, Bool.eq_iff_iff]; simp
  have hk : (kd1 == kd2) = decide (kd1 = kd2) := by rw [Bool.eq_iff_iff]; simp
  have hz : (sz1 == sz2) = decide (sz1 = sz2) := by rw [Bool.eq_iff_iff]; simp
  have ho : (kd1 != 1) = decide (kd1 ≠ 1) := by rw [Bool.eq_iff_iff]; simp
  generalize decide (tg1 = tg2) = tq at *
  generalize decide (sm1 = sm2) = sq at *
  generalize decide (kd1 = kd2) = kq at *
  generalize decide (sz1 = sz2) = zq at *
  generalize decide (kd1 ≠ 1) = oq at *
  replace hal := Lib.hid hal
  replace hB := Lib.hid hB
  replace q1 := Lib.hid q1
  replace q2 := Lib.hid q2
  replace hmq := Lib.hid hmq
  replace hmd := Lib.hid hmd
  replace hmtq := Lib.hid hmtq
  cases kq with
  | false =>
    go_enter Try.func26, Try.ntmps26
    go_wp2
    go_ret
    exact ⟨ret_bool (by rw [hal.out]; rfl), hB.out⟩
  | true =>
    cases mq with
    | false =>
      go_enter Try.func26, Try.ntmps26
      go_wp2
      go_ret
      exact ⟨ret_bool (by rw [hal.out]; rfl), hB.out⟩
    | true =>
      cases tq with
      | false =>
        go_enter Try.func26, Try.ntmps26
        go_wp2
        go_ret
        exact ⟨ret_bool (by rw [hal.out]; rfl), hB.out⟩
      | true =>
        cases oq with
        | true =>
          go_enter Try.func26, Try.ntmps26
          go_wp2
          go_ret
          exact ⟨ret_bool (by rw [hal.out]; rfl), hB.out⟩
        | false =>
          cases zq <;> cases sq <;>
          · go_enter Try.func26, Try.ntmps26
            go_wp2
            go_ret
            exact ⟨ret_bool (by rw [hal.out]; rfl), hB.out⟩

set_option maxHeartbeats 2000000 in
set_option maxRecDepth 100000 in
theorem alike44_calls (a b : Option Ent) (w : World) :
    Calls Try.prog 26 #[entV (entOr a), .bool a.isSome, entV (entOr b), .bool b.isSome] w fun e w' => e = .returned (.bool (alikeE a b)) ∧ Below w.heap.size w w' := by
  have hone : ∀ (x y : Ent) (p q : Bool), (p && q) = false → Calls Try.prog 26 #[entV x, .bool p, entV y, .bool q] w fun e w' => e = .returned (.bool (p == q)) ∧ Below w.heap.size w w' := fun x y p q hpq => by
    obtain ⟨p1, kd1, sz1, ⟨a1, a2, a3, a4, a5⟩, tg1, sm1, gr1⟩ := x
    obtain ⟨p2, kd2, sz2, ⟨b1, b2, b3, b4, b5⟩, tg2, sm2, gr2⟩ := y
    unfold entV entCells
    dsimp only at *
    have hB := below_alloc (below_alloc (Below.refl w.heap.size w) (.cells #[.string (mkS p1), .int .i64 kd1, .int .i64 sz1, .int .i64 a1, .int .i64 a2, .int .i64 a3, .int .i64 a4, .int .i64 a5, .string (mkS tg1), .string (mkS sm1), .int .i64 gr1] 35)) (.cells #[.string (mkS p2), .int .i64 kd2, .int .i64 sz2, .int .i64 b1, .int .i64 b2, .int .i64 b3, .int .i64 b4, .int .i64 b5, .string (mkS tg2), .string (mkS sm2), .int .i64 gr2] 35)
    replace hB := Lib.hid hB
    cases p <;> cases q
    · clear hpq
      go_enter Try.func26, Try.ntmps26
      go_wp2
      go_ret
      exact ⟨rfl, hB.out⟩
    · clear hpq
      go_enter Try.func26, Try.ntmps26
      go_wp2
      go_ret
      exact ⟨rfl, hB.out⟩
    · clear hpq
      go_enter Try.func26, Try.ntmps26
      go_wp2
      go_ret
      exact ⟨rfl, hB.out⟩
    · cases hpq
  cases a with
  | none =>
    cases b with
    | none => exact hone _ _ false false rfl
    | some y => exact hone _ _ false true rfl
  | some x =>
    cases b with
    | none => exact hone _ _ true false rfl
    | some y => exact alike44_some x y w

set_option maxHeartbeats 2000000 in
set_option maxRecDepth 100000 in
theorem later44_calls (a b : Mt) (w : World) :
    Calls Try.prog 43 #[mtV a, mtV b] w fun e w' => e = .returned (.bool (laterM a b)) ∧ Below w.heap.size w w' := by
  have hl : laterM a b = (decide (b.sec < a.sec) || (decide (a.sec = b.sec) && decide (b.nano < a.nano))) := rfl
  generalize laterM a b = r at *
  obtain ⟨a1, a2, a3, a4, a5⟩ := a
  obtain ⟨b1, b2, b3, b4, b5⟩ := b
  unfold mtV mtCells
  dsimp only at *
  have hB := below_alloc (below_alloc (Below.refl w.heap.size w) (.cells #[.int .i64 a1, .int .i64 a2, .int .i64 a3, .int .i64 a4, .int .i64 a5] 33)) (.cells #[.int .i64 b1, .int .i64 b2, .int .i64 b3, .int .i64 b4, .int .i64 b5] 33)
  obtain ⟨q1, q2⟩ := two_allocs w (.cells #[.int .i64 a1, .int .i64 a2, .int .i64 a3, .int .i64 a4, .int .i64 a5] 33) (.cells #[.int .i64 b1, .int .i64 b2, .int .i64 b3, .int .i64 b4, .int .i64 b5] 33)
  have x1 := cell_of (j := 1) q1 rfl
  have x2 := cell_of (j := 2) q1 rfl
  have y1 := cell_of (j := 1) q2 rfl
  have y2 := cell_of (j := 2) q2 rfl
  replace hB := Lib.hid hB
  replace q1 := Lib.hid q1
  replace q2 := Lib.hid q2
  by_cases h1 : b2 < a2
  · rw [decide_eq_true h1] at hl
    replace hl := Lib.hid hl
    go_enter Try.func43, Try.ntmps43
    go_wp2
    go_ret
    exact ⟨ret_bool (by rw [hl.out]; rfl), hB.out⟩
  · have h2 : decide (b2 < a2) = false := by simpa using h1
    rw [h2] at hl
    by_cases h3 : a2 = b2
    · have h4 : (a2 == b2) = true := by simpa using h3
      rw [decide_eq_true h3] at hl
      by_cases h5 : b3 < a3
      · rw [decide_eq_true h5] at hl
        replace hl := Lib.hid hl
        replace h1 := Lib.hid h1
        replace h3 := Lib.hid h3
        go_enter Try.func43, Try.ntmps43
        go_wp2
        go_ret
        exact ⟨ret_bool (by rw [hl.out]; rfl), hB.out⟩
      · have h6 : decide (b3 < a3) = false := by simpa using h5
        rw [h6] at hl
        replace hl := Lib.hid hl
        replace h1 := Lib.hid h1
        replace h3 := Lib.hid h3
        replace h5 := Lib.hid h5
        go_enter Try.func43, Try.ntmps43
        go_wp2
        go_ret
        exact ⟨ret_bool (by first | (rw [hl.out]; rfl) | (rw [h6, hl.out]; rfl)), hB.out⟩
    · have h4 : (a2 == b2) = false := by simpa using h3
      rw [decide_eq_false h3] at hl
      replace hl := Lib.hid hl
      replace h1 := Lib.hid h1
      replace h3 := Lib.hid h3
      go_enter Try.func43, Try.ntmps43
      go_wp2
      go_ret
      exact ⟨ret_bool (by rw [hl.out]; rfl), hB.out⟩

end Go.Proofs.Ytcjlfkklpghjbaa

namespace Go.Proofs.Ytcjlfkklpghjbaa
open Go.RowKit

set_option maxHeartbeats 2000000 in
set_option maxRecDepth 100000 in
theorem dir44_calls (v : Value) (l : List Ent) (p : Bytes) (w : World) (hv : Ents w v l) (hr : Rise l) :
    Calls Try.prog 29 #[v, .string (mkS p)] w fun e w' => e = .returned (.bool (isDirE (entAt l p))) ∧ Below w.heap.size w w' := by
  have h1 := at44_calls v l p w hv hr
  have hd : isDirE (entAt l p) = ((entAt l p).isSome && decide ((entOr (entAt l p)).kind = 2)) := by cases entAt l p <;> rfl
  obtain ⟨A, c, rfl, h2, h3⟩ := hv.shape
  unfold maxLen at h3
  rw [hd]
  clear hd
  generalize (entAt l p).isSome = ok at *
  generalize entOr (entAt l p) = x at *
  obtain ⟨p1, kd1, sz1, ⟨a1, a2, a3, a4, a5⟩, tg1, sm1, gr1⟩ := x
  unfold entV entCells at h1
  dsimp only at *
  have hk : (kd1 == 2) = decide (kd1 = 2) := by rw [Bool.eq_iff_iff]; simp
  generalize decide (kd1 = 2) = kq at *
  replace h1 := Lib.hid h1
  replace hv := Lib.hid hv
  go_enter Try.func29, Try.ntmps29
  go_wp2_with fail
  (with_reducible refine (h1.out).mono ?_)
  rintro e w1 ⟨rfl, hB1⟩
  have hB := below_alloc hB1 (.cells #[.string (mkS p1), .int .i64 kd1, .int .i64 sz1, .int .i64 a1, .int .i64 a2, .int .i64 a3, .int .i64 a4, .int .i64 a5, .string (mkS tg1), .string (mkS sm1), .int .i64 gr1] 35)
  replace hB := Lib.hid hB
  replace hB1 := Lib.hid hB1
  cases ok with
  | false =>
    go_wp2
    go_ret
    exact ⟨rfl, hB.out⟩
  | true =>
    cases kq <;>
    · go_wp2
      go_ret
      exact ⟨rfl, hB.out⟩

set_option maxHeartbeats 8000000 in
set_option maxRecDepth 100000 in
theorem wish44_calls (vw va vb : Value) (lw la lb : List Ent) (p : Bytes) (po : Int) (w : World) (hw : Ents w vw lw) (ha : Ents w va la) (hb : Ents w vb lb) (rw' : Rise lw) (ra : Rise la) (rb : Rise lb) :
    Calls Try.prog 27 #[vw, va, vb, .string (mkS p), .int .i64 po] w fun e w' => e = .returned (.int .i64 (wishE (entAt lw p) (entAt la p) (entAt lb p) po)) ∧ Below w.heap.size w w' := by
  have h1 := fun W hW => at44_calls vw lw p W hW rw'
  have h2 := fun W hW => at44_calls va la p W hW ra
  have h3 := fun W hW => at44_calls vb lb p W hW rb
  have k1 := fun W => alike44_calls (entAt la p) (entAt lw p) W
  have k2 := fun W => alike44_calls (entAt lb p) (entAt lw p) W
  have k3 := fun W => later44_calls (entOr (entAt lb p)).mt (entOr (entAt la p)).mt W
  obtain ⟨A1, e1, rfl, _, _⟩ := hw.shape
  obtain ⟨A2, e2, rfl, _, _⟩ := ha.shape
  obtain ⟨A3, e3, rfl, _, _⟩ := hb.shape
  have hwi : wishE (entAt lw p) (entAt la p) (entAt lb p) po = if alikeE (entAt lb p) (entAt lw p) = true then 1 else if alikeE (entAt la p) (entAt lw p) = true then 2 else if po ≠ 3 then po else
      if (!(entAt la p).isSome || ((entAt lb p).isSome && laterM (entOr (entAt lb p)).mt (entOr (entAt la p)).mt)) = true then 2 else 1 := by
    unfold wishE
    cases entAt la p <;> cases entAt lb p <;> rfl
  generalize wishE (entAt lw p) (entAt la p) (entAt lb p) po = r at *
  generalize laterM (entOr (entAt lb p)).mt (entOr (entAt la p)).mt = lt at *
  generalize alikeE (entAt la p) (entAt lw p) = q1 at *
  generalize alikeE (entAt lb p) (entAt lw p) = q2 at *
  generalize (entAt lw p).isSome = ow at *
  generalize (entAt la p).isSome = oa at *
  generalize (entAt lb p).isSome = ob at *
  generalize entOr (entAt lw p) = x at *
  generalize entOr (entAt la p) = y at *
  generalize entOr (entAt lb p) = z at *
  obtain ⟨p1, kd1, sz1, ⟨a1, a2, a3, a4, a5⟩, tg1, sm1, gr1⟩ := x
  obtain ⟨p2, kd2, sz2, ⟨b1, b2, b3, b4, b5⟩, tg2, sm2, gr2⟩ := y
  obtain ⟨p3, kd3, sz3, ⟨c1, c2, c3, c4, c5⟩, tg3, sm3, gr3⟩ := z
  unfold entV entCells at *
  unfold mtV mtCells at k3
  dsimp only at *
  replace h1 := Lib.hid h1
  replace h2 := Lib.hid h2
  replace h3 := Lib.hid h3
  replace k1 := Lib.hid k1
  replace k2 := Lib.hid k2
  replace k3 := Lib.hid k3
  replace hw := Lib.hid hw
  replace ha := Lib.hid ha
  replace hb := Lib.hid hb
  replace hwi := Lib.hid hwi
  cases q2 with
  | true =>
    go_enter Try.func27, Try.ntmps27
    go_wp2_with fail
    (with_reducible refine (h1.out _ hw.out).mono ?_)
    rintro e w1 ⟨rfl, hB1⟩
    have g1 := (MapKept.heap_alloc w1 (.cells #[.string (mkS p1), .int .i64 kd1, .int .i64 sz1, .int .i64 a1, .int .i64 a2, .int .i64 a3, .int .i64 a4, .int .i64 a5, .string (mkS tg1), .string (mkS sm1), .int .i64 gr1] 35)).1
    have hB01 := below_alloc hB1 (.cells #[.string (mkS p1), .int .i64 kd1, .int .i64 sz1, .int .i64 a1, .int .i64 a2, .int .i64 a3, .int .i64 a4, .int .i64 a5, .string (mkS tg1), .string (mkS sm1), .int .i64 gr1] 35)
    replace g1 := Lib.hid g1
    replace hB01 := Lib.hid hB01
    clear hB1
    go_upto_region 2 with fail
    generalize w1.alloc (.cells #[.string (mkS p1), .int .i64 kd1, .int .i64 sz1, .int .i64 a1, .int .i64 a2, .int .i64 a3, .int .i64 a4, .int .i64 a5, .string (mkS tg1), .string (mkS sm1), .int .i64 gr1] 35) = w2 at *
    generalize w1.heap.size = n1 at *
    go_wp2_with fail
    (with_reducible refine (h2.out _ (ha.out.below hB01.out)).mono ?_)
    rintro e w3 ⟨rfl, hB3⟩
    have g1' := (hB3.block _ (Array.getElem?_eq_some_iff.1 g1.out).1).trans g1.out
    have g2 := (MapKept.heap_alloc w3 (.cells #[.string (mkS p2), .int .i64 kd2, .int .i64 sz2, .int .i64 b1, .int .i64 b2, .int .i64 b3, .int .i64 b4, .int .i64 b5, .string (mkS tg2), .string (mkS sm2), .int .i64 gr2] 35)).1
    have hA := below_alloc (Below.refl w3.heap.size w3) (.cells #[.string (mkS p2), .int .i64 kd2, .int .i64 sz2, .int .i64 b1, .int .i64 b2, .int .i64 b3, .int .i64 b4, .int .i64 b5, .string (mkS tg2), .string (mkS sm2), .int .i64 gr2] 35)
    have hB03 := below_step (below_step hB01.out hB3) hA
    have g1'' := (hA.block _ (Array.getElem?_eq_some_iff.1 g1').1).trans g1'
    replace g1'' := Lib.hid g1''
    replace g2 := Lib.hid g2
    replace hB03 := Lib.hid hB03
    clear hB3 g1' hA g1
    go_upto_region 3 with fail
    generalize w3.alloc (.cells #[.string (mkS p2), .int .i64 kd2, .int .i64 sz2, .int .i64 b1, .int .i64 b2, .int .i64 b3, .int .i64 b4, .int .i64 b5, .string (mkS tg2), .string (mkS sm2), .int .i64 gr2] 35) = w4 at *
    generalize w3.heap.size = n2 at *
    go_wp2_with fail
    (with_reducible refine (h3.out _ (hb.out.below hB03.out)).mono ?_)
    rintro e w5 ⟨rfl, hB5⟩
    have f1 := (hB5.block _ (Array.getElem?_eq_some_iff.1 g1''.out).1).trans g1''.out
    have f2 := (hB5.block _ (Array.getElem?_eq_some_iff.1 g2.out).1).trans g2.out
    have f3 := (MapKept.heap_alloc w5 (.cells #[.string (mkS p3), .int .i64 kd3, .int .i64 sz3, .int .i64 c1, .int .i64 c2, .int .i64 c3, .int .i64 c4, .int .i64 c5, .string (mkS tg3), .string (mkS sm3), .int .i64 gr3] 35)).1
    have hA := below_alloc (Below.refl w5.heap.size w5) (.cells #[.string (mkS p3), .int .i64 kd3, .int .i64 sz3, .int .i64 c1, .int .i64 c2, .int .i64 c3, .int .i64 c4, .int .i64 c5, .string (mkS tg3), .string (mkS sm3), .int .i64 gr3] 35)
    have hB05 := below_step (below_step hB03.out hB5) hA
    have f1' := (hA.block _ (Array.getElem?_eq_some_iff.1 f1).1).trans f1
    have f2' := (hA.block _ (Array.getElem?_eq_some_iff.1 f2).1).trans f2
    replace f1' := Lib.hid f1'
    replace f2' := Lib.hid f2'
    replace f3 := Lib.hid f3
    replace hB05 := Lib.hid hB05
    clear hB5 f1 f2 hA g1'' g2
    go_upto_region 4 with fail
    generalize w5.alloc (.cells #[.string (mkS p3), .int .i64 kd3, .int .i64 sz3, .int .i64 c1, .int .i64 c2, .int .i64 c3, .int .i64 c4, .int .i64 c5, .string (mkS tg3), .string (mkS sm3), .int .i64 gr3] 35) = w6 at *
    generalize w5.heap.size = n3 at *
    have x0 := fun x : Gr w6 => Gr.cell (cell_of (j := 0) f1'.out rfl) x
    have x1 := fun x : Gr w6 => Gr.cell (cell_of (j := 1) f1'.out rfl) x
    have x2 := fun x : Gr w6 => Gr.cell (cell_of (j := 2) f1'.out rfl) x
    have x3 := fun x : Gr w6 => Gr.cell (cell_of (j := 3) f1'.out rfl) x
    have x4 := fun x : Gr w6 => Gr.cell (cell_of (j := 4) f1'.out rfl) x
    have x5 := fun x : Gr w6 => Gr.cell (cell_of (j := 5) f1'.out rfl) x
    have x6 := fun x : Gr w6 => Gr.cell (cell_of (j := 6) f1'.out rfl) x
    have x7 := fun x : Gr w6 => Gr.cell (cell_of (j := 7) f1'.out rfl) x
    have x8 := fun x : Gr w6 => Gr.cell (cell_of (j := 8) f1'.out rfl) x
    have x9 := fun x : Gr w6 => Gr.cell (cell_of (j := 9) f1'.out rfl) x
    have x10 := fun x : Gr w6 => Gr.cell (cell_of (j := 10) f1'.out rfl) x
    have y0 := fun x : Gr w6 => Gr.cell (cell_of (j := 0) f2'.out rfl) x
    have y1 := fun x : Gr w6 => Gr.cell (cell_of (j := 1) f2'.out rfl) x
    have y2 := fun x : Gr w6 => Gr.cell (cell_of (j := 2) f2'.out rfl) x
    have y3 := fun x : Gr w6 => Gr.cell (cell_of (j := 3) f2'.out rfl) x
    have y4 := fun x : Gr w6 => Gr.cell (cell_of (j := 4) f2'.out rfl) x
    have y5 := fun x : Gr w6 => Gr.cell (cell_of (j := 5) f2'.out rfl) x
    have y6 := fun x : Gr w6 => Gr.cell (cell_of (j := 6) f2'.out rfl) x
    have y7 := fun x : Gr w6 => Gr.cell (cell_of (j := 7) f2'.out rfl) x
    have y8 := fun x : Gr w6 => Gr.cell (cell_of (j := 8) f2'.out rfl) x
    have y9 := fun x : Gr w6 => Gr.cell (cell_of (j := 9) f2'.out rfl) x
    have y10 := fun x : Gr w6 => Gr.cell (cell_of (j := 10) f2'.out rfl) x
    have z0 := fun x : Gr w6 => Gr.cell (cell_of (j := 0) f3.out rfl) x
    have z1 := fun x : Gr w6 => Gr.cell (cell_of (j := 1) f3.out rfl) x
    have z2 := fun x : Gr w6 => Gr.cell (cell_of (j := 2) f3.out rfl) x
    have z3 := fun x : Gr w6 => Gr.cell (cell_of (j := 3) f3.out rfl) x
    have z4 := fun x : Gr w6 => Gr.cell (cell_of (j := 4) f3.out rfl) x
    have z5 := fun x : Gr w6 => Gr.cell (cell_of (j := 5) f3.out rfl) x
    have z6 := fun x : Gr w6 => Gr.cell (cell_of (j := 6) f3.out rfl) x
    have z7 := fun x : Gr w6 => Gr.cell (cell_of (j := 7) f3.out rfl) x
    have z8 := fun x : Gr w6 => Gr.cell (cell_of (j := 8) f3.out rfl) x
    have z9 := fun x : Gr w6 => Gr.cell (cell_of (j := 9) f3.out rfl) x
    have z10 := fun x : Gr w6 => Gr.cell (cell_of (j := 10) f3.out rfl) x
    refine wp_region_grow (by kernel_rfl) (by kernel_rfl) ?_
    repeat (any_goals (first | go_big_quiet_step ((go_at_call 26; first | with_reducible exact grow_of _ (k1.out _) | with_reducible exact grow_of _ (k2.out _))) | quiet_step ((go_at_call 26; first | with_reducible exact grow_of _ (k1.out _) | with_reducible exact grow_of _ (k2.out _)))))
    refine wpQuiet_nil ?_
    rintro w7 ⟨⟨_, hB7⟩, rfl⟩
    clear x0 x1 x2 x3 x4 x5 x6 x7 x8 x9 x10 y0 y1 y2 y3 y4 y5 y6 y7 y8 y9 y10 z0 z1 z2 z3 z4 z5 z6 z7 z8 z9 z10
    have hB07 := below_step hB05.out hB7
    replace hB07 := Lib.hid hB07
    replace hB7 := Lib.hid hB7
    go_wp2
    go_ret
    exact ⟨ret_int (by rw [hwi.out]; rfl), hB07.out⟩
  | false =>
    cases q1 with
    | true =>
      go_enter Try.func27, Try.ntmps27
      go_wp2_with fail
      (with_reducible refine (h1.out _ hw.out).mono ?_)
      rintro e w1 ⟨rfl, hB1⟩
      have g1 := (MapKept.heap_alloc w1 (.cells #[.string (mkS p1), .int .i64 kd1, .int .i64 sz1, .int .i64 a1, .int .i64 a2, .int .i64 a3, .int .i64 a4, .int .i64 a5, .string (mkS tg1), .string (mkS sm1), .int .i64 gr1] 35)).1
      have hB01 := below_alloc hB1 (.cells #[.string (mkS p1), .int .i64 kd1, .int .i64 sz1, .int .i64 a1, .int .i64 a2, .int .i64 a3, .int .i64 a4, .int .i64 a5, .string (mkS tg1), .string (mkS sm1), .int .i64 gr1] 35)
      replace g1 := Lib.hid g1
      replace hB01 := Lib.hid hB01
      clear hB1
      go_upto_region 2 with fail
      generalize w1.alloc (.cells #[.string (mkS p1), .int .i64 kd1, .int .i64 sz1, .int .i64 a1, .int .i64 a2, .int .i64 a3, .int .i64 a4, .int .i64 a5, .string (mkS tg1), .string (mkS sm1), .int .i64 gr1] 35) = w2 at *
      generalize w1.heap.size = n1 at *
      go_wp2_with fail
      (with_reducible refine (h2.out _ (ha.out.below hB01.out)).mono ?_)
      rintro e w3 ⟨rfl, hB3⟩
      have g1' := (hB3.block _ (Array.getElem?_eq_some_iff.1 g1.out).1).trans g1.out
      have g2 := (MapKept.heap_alloc w3 (.cells #[.string (mkS p2), .int .i64 kd2, .int .i64 sz2, .int .i64 b1, .int .i64 b2, .int .i64 b3, .int .i64 b4, .int .i64 b5, .string (mkS tg2), .string (mkS sm2), .int .i64 gr2] 35)).1
      have hA := below_alloc (Below.refl w3.heap.size w3) (.cells #[.string (mkS p2), .int .i64 kd2, .int .i64 sz2, .int .i64 b1, .int .i64 b2, .int .i64 b3, .int .i64 b4, .int .i64 b5, .string (mkS tg2), .string (mkS sm2), .int .i64 gr2] 35)
      have hB03 := below_step (below_step hB01.out hB3) hA
      have g1'' := (hA.block _ (Array.getElem?_eq_some_iff.1 g1').1).trans g1'
      replace g1'' := Lib.hid g1''
      replace g2 := Lib.hid g2
      replace hB03 := Lib.hid hB03
      clear hB3 g1' hA g1
      go_upto_region 3 with fail
      generalize w3.alloc (.cells #[.string (mkS p2), .int .i64 kd2, .int .i64 sz2, .int .i64 b1, .int .i64 b2, .int .i64 b3, .int .i64 b4, .int .i64 b5, .string (mkS tg2), .string (mkS sm2), .int .i64 gr2] 35) = w4 at *
      generalize w3.heap.size = n2 at *
      go_wp2_with fail
      (with_reducible refine (h3.out _ (hb.out.below hB03.out)).mono ?_)
      rintro e w5 ⟨rfl, hB5⟩
      have f1 := (hB5.block _ (Array.getElem?_eq_some_iff.1 g1''.out).1).trans g1''.out
      have f2 := (hB5.block _ (Array.getElem?_eq_some_iff.1 g2.out).1).trans g2.out
      have f3 := (MapKept.heap_alloc w5 (.cells #[.string (mkS p3), .int .i64 kd3, .int .i64 sz3, .int .i64 c1, .int .i64 c2, .int .i64 c3, .int .i64 c4, .int .i64 c5, .string (mkS tg3), .string (mkS sm3), .int .i64 gr3] 35)).1
      have hA := below_alloc (Below.refl w5.heap.size w5) (.cells #[.string (mkS p3), .int .i64 kd3, .int .i64 sz3, .int .i64 c1, .int .i64 c2, .int .i64 c3, .int .i64 c4, .int .i64 c5, .string (mkS tg3), .string (mkS sm3), .int .i64 gr3] 35)
      have hB05 := below_step (below_step hB03.out hB5) hA
      have f1' := (hA.block _ (Array.getElem?_eq_some_iff.1 f1).1).trans f1
      have f2' := (hA.block _ (Array.getElem?_eq_some_iff.1 f2).1).trans f2
      replace f1' := Lib.hid f1'
      replace f2' := Lib.hid f2'
      replace f3 := Lib.hid f3
      replace hB05 := Lib.hid hB05
      clear hB5 f1 f2 hA g1'' g2
      go_upto_region 4 with fail
      generalize w5.alloc (.cells #[.string (mkS p3), .int .i64 kd3, .int .i64 sz3, .int .i64 c1, .int .i64 c2, .int .i64 c3, .int .i64 c4, .int .i64 c5, .string (mkS tg3), .string (mkS sm3), .int .i64 gr3] 35) = w6 at *
      generalize w5.heap.size = n3 at *
      have x0 := fun x : Gr w6 => Gr.cell (cell_of (j := 0) f1'.out rfl) x
      have x1 := fun x : Gr w6 => Gr.cell (cell_of (j := 1) f1'.out rfl) x
      have x2 := fun x : Gr w6 => Gr.cell (cell_of (j := 2) f1'.out rfl) x
      have x3 := fun x : Gr w6 => Gr.cell (cell_of (j := 3) f1'.out rfl) x
      have x4 := fun x : Gr w6 => Gr.cell (cell_of (j := 4) f1'.out rfl) x
      have x5 := fun x : Gr w6 => Gr.cell (cell_of (j := 5) f1'.out rfl) x
      have x6 := fun x : Gr w6 => Gr.cell (cell_of (j := 6) f1'.out rfl) x
      have x7 := fun x : Gr w6 => Gr.cell (cell_of (j := 7) f1'.out rfl) x
      have x8 := fun x : Gr w6 => Gr.cell (cell_of (j := 8) f1'.out rfl) x
      have x9 := fun x : Gr w6 => Gr.cell (cell_of (j := 9) f1'.out rfl) x
      have x10 := fun x : Gr w6 => Gr.cell (cell_of (j := 10) f1'.out rfl) x
      have y0 := fun x : Gr w6 => Gr.cell (cell_of (j := 0) f2'.out rfl) x
      have y1 := fun x : Gr w6 => Gr.cell (cell_of (j := 1) f2'.out rfl) x
      have y2 := fun x : Gr w6 => Gr.cell (cell_of (j := 2) f2'.out rfl) x
      have y3 := fun x : Gr w6 => Gr.cell (cell_of (j := 3) f2'.out rfl) x
      have y4 := fun x : Gr w6 => Gr.cell (cell_of (j := 4) f2'.out rfl) x
      have y5 := fun x : Gr w6 => Gr.cell (cell_of (j := 5) f2'.out rfl) x
      have y6 := fun x : Gr w6 => Gr.cell (cell_of (j := 6) f2'.out rfl) x
      have y7 := fun x : Gr w6 => Gr.cell (cell_of (j := 7) f2'.out rfl) x
      have y8 := fun x : Gr w6 => Gr.cell (cell_of (j := 8) f2'.out rfl) x
      have y9 := fun x : Gr w6 => Gr.cell (cell_of (j := 9) f2'.out rfl) x
      have y10 := fun x : Gr w6 => Gr.cell (cell_of (j := 10) f2'.out rfl) x
      have z0 := fun x : Gr w6 => Gr.cell (cell_of (j := 0) f3.out rfl) x
      have z1 := fun x : Gr w6 => Gr.cell (cell_of (j := 1) f3.out rfl) x
      have z2 := fun x : Gr w6 => Gr.cell (cell_of (j := 2) f3.out rfl) x
      have z3 := fun x : Gr w6 => Gr.cell (cell_of (j := 3) f3.out rfl) x
      have z4 := fun x : Gr w6 => Gr.cell (cell_of (j := 4) f3.out rfl) x
      have z5 := fun x : Gr w6 => Gr.cell (cell_of (j := 5) f3.out rfl) x
      have z6 := fun x : Gr w6 => Gr.cell (cell_of (j := 6) f3.out rfl) x
      have z7 := fun x : Gr w6 => Gr.cell (cell_of (j := 7) f3.out rfl) x
      have z8 := fun x : Gr w6 => Gr.cell (cell_of (j := 8) f3.out rfl) x
      have z9 := fun x : Gr w6 => Gr.cell (cell_of (j := 9) f3.out rfl) x
      have z10 := fun x : Gr w6 => Gr.cell (cell_of (j := 10) f3.out rfl) x
      refine wp_region_grow (by kernel_rfl) (by kernel_rfl) ?_
      repeat (any_goals (first | go_big_quiet_step ((go_at_call 26; first | with_reducible exact grow_of _ (k1.out _) | with_reducible exact grow_of _ (k2.out _))) | quiet_step ((go_at_call 26; first | with_reducible exact grow_of _ (k1.out _) | with_reducible exact grow_of _ (k2.out _)))))
      refine wpQuiet_nil ?_
      rintro w7 ⟨⟨_, hB7⟩, rfl⟩
      clear x0 x1 x2 x3 x4 x5 x6 x7 x8 x9 x10 y0 y1 y2 y3 y4 y5 y6 y7 y8 y9 y10 z0 z1 z2 z3 z4 z5 z6 z7 z8 z9 z10
      have hB07 := below_step hB05.out hB7
      replace hB07 := Lib.hid hB07
      replace hB7 := Lib.hid hB7
      go_wp2
      go_ret
      exact ⟨ret_int (by rw [hwi.out]; rfl), hB07.out⟩
    | false =>
      by_cases hpo : po = 3
      · subst hpo
        cases oa with
        | false =>
          go_enter Try.func27, Try.ntmps27
          go_wp2_with fail
          (with_reducible refine (h1.out _ hw.out).mono ?_)
          rintro e w1 ⟨rfl, hB1⟩
          have g1 := (MapKept.heap_alloc w1 (.cells #[.string (mkS p1), .int .i64 kd1, .int .i64 sz1, .int .i64 a1, .int .i64 a2, .int .i64 a3, .int .i64 a4, .int .i64 a5, .string (mkS tg1), .string (mkS sm1), .int .i64 gr1] 35)).1
          have hB01 := below_alloc hB1 (.cells #[.string (mkS p1), .int .i64 kd1, .int .i64 sz1, .int .i64 a1, .int .i64 a2, .int .i64 a3, .int .i64 a4, .int .i64 a5, .string (mkS tg1), .string (mkS sm1), .int .i64 gr1] 35)
          replace g1 := Lib.hid g1
          replace hB01 := Lib.hid hB01
          clear hB1
          go_upto_region 2 with fail
          generalize w1.alloc (.cells #[.string (mkS p1), .int .i64 kd1, .int .i64 sz1, .int .i64 a1, .int .i64 a2, .int .i64 a3, .int .i64 a4, .int .i64 a5, .string (mkS tg1), .string (mkS sm1), .int .i64 gr1] 35) = w2 at *
          generalize w1.heap.size = n1 at *
          go_wp2_with fail
          (with_reducible refine (h2.out _ (ha.out.below hB01.out)).mono ?_)
          rintro e w3 ⟨rfl, hB3⟩
          have g1' := (hB3.block _ (Array.getElem?_eq_some_iff.1 g1.out).1).trans g1.out
          have g2 := (MapKept.heap_alloc w3 (.cells #[.string (mkS p2), .int .i64 kd2, .int .i64 sz2, .int .i64 b1, .int .i64 b2, .int .i64 b3, .int .i64 b4, .int .i64 b5, .string (mkS tg2), .string (mkS sm2), .int .i64 gr2] 35)).1
          have hA := below_alloc (Below.refl w3.heap.size w3) (.cells #[.string (mkS p2), .int .i64 kd2, .int .i64 sz2, .int .i64 b1, .int .i64 b2, .int .i64 b3, .int .i64 b4, .int .i64 b5, .string (mkS tg2), .string (mkS sm2), .int .i64 gr2] 35)
          have hB03 := below_step (below_step hB01.out hB3) hA
          have g1'' := (hA.block _ (Array.getElem?_eq_some_iff.1 g1').1).trans g1'
          replace g1'' := Lib.hid g1''
          replace g2 := Lib.hid g2
          replace hB03 := Lib.hid hB03
          clear hB3 g1' hA g1
          go_upto_region 3 with fail
          generalize w3.alloc (.cells #[.string (mkS p2), .int .i64 kd2, .int .i64 sz2, .int .i64 b1, .int .i64 b2, .int .i64 b3, .int .i64 b4, .int .i64 b5, .string (mkS tg2), .string (mkS sm2), .int .i64 gr2] 35) = w4 at *
          generalize w3.heap.size = n2 at *
          go_wp2_with fail
          (with_reducible refine (h3.out _ (hb.out.below hB03.out)).mono ?_)
          rintro e w5 ⟨rfl, hB5⟩
          have f1 := (hB5.block _ (Array.getElem?_eq_some_iff.1 g1''.out).1).trans g1''.out
          have f2 := (hB5.block _ (Array.getElem?_eq_some_iff.1 g2.out).1).trans g2.out
          have f3 := (MapKept.heap_alloc w5 (.cells #[.string (mkS p3), .int .i64 kd3, .int .i64 sz3, .int .i64 c1, .int .i64 c2, .int .i64 c3, .int .i64 c4, .int .i64 c5, .string (mkS tg3), .string (mkS sm3), .int .i64 gr3] 35)).1
          have hA := below_alloc (Below.refl w5.heap.size w5) (.cells #[.string (mkS p3), .int .i64 kd3, .int .i64 sz3, .int .i64 c1, .int .i64 c2, .int .i64 c3, .int .i64 c4, .int .i64 c5, .string (mkS tg3), .string (mkS sm3), .int .i64 gr3] 35)
          have hB05 := below_step (below_step hB03.out hB5) hA
          have f1' := (hA.block _ (Array.getElem?_eq_some_iff.1 f1).1).trans f1
          have f2' := (hA.block _ (Array.getElem?_eq_some_iff.1 f2).1).trans f2
          replace f1' := Lib.hid f1'
          replace f2' := Lib.hid f2'
          replace f3 := Lib.hid f3
          replace hB05 := Lib.hid hB05
          clear hB5 f1 f2 hA g1'' g2
          go_upto_region 4 with fail
          generalize w5.alloc (.cells #[.string (mkS p3), .int .i64 kd3, .int .i64 sz3, .int .i64 c1, .int .i64 c2, .int .i64 c3, .int .i64 c4, .int .i64 c5, .string (mkS tg3), .string (mkS sm3), .int .i64 gr3] 35) = w6 at *
          generalize w5.heap.size = n3 at *
          have x0 := fun x : Gr w6 => Gr.cell (cell_of (j := 0) f1'.out rfl) x
          have x1 := fun x : Gr w6 => Gr.cell (cell_of (j := 1) f1'.out rfl) x
          have x2 := fun x : Gr w6 => Gr.cell (cell_of (j := 2) f1'.out rfl) x
          have x3 := fun x : Gr w6 => Gr.cell (cell_of (j := 3) f1'.out rfl) x
          have x4 := fun x : Gr w6 => Gr.cell (cell_of (j := 4) f1'.out rfl) x
          have x5 := fun x : Gr w6 => Gr.cell (cell_of (j := 5) f1'.out rfl) x
          have x6 := fun x : Gr w6 => Gr.cell (cell_of (j := 6) f1'.out rfl) x
          have x7 := fun x : Gr w6 => Gr.cell (cell_of (j := 7) f1'.out rfl) x
          have x8 := fun x : Gr w6 => Gr.cell (cell_of (j := 8) f1'.out rfl) x
          have x9 := fun x : Gr w6 => Gr.cell (cell_of (j := 9) f1'.out rfl) x
          have x10 := fun x : Gr w6 => Gr.cell (cell_of (j := 10) f1'.out rfl) x
          have y0 := fun x : Gr w6 => Gr.cell (cell_of (j := 0) f2'.out rfl) x
          have y1 := fun x : Gr w6 => Gr.cell (cell_of (j := 1) f2'.out rfl) x
          have y2 := fun x : Gr w6 => Gr.cell (cell_of (j := 2) f2'.out rfl) x
          have y3 := fun x : Gr w6 => Gr.cell (cell_of (j := 3) f2'.out rfl) x
          have y4 := fun x : Gr w6 => Gr.cell (cell_of (j := 4) f2'.out rfl) x
          have y5 := fun x : Gr w6 => Gr.cell (cell_of (j := 5) f2'.out rfl) x
          have y6 := fun x : Gr w6 => Gr.cell (cell_of (j := 6) f2'.out rfl) x
          have y7 := fun x : Gr w6 => Gr.cell (cell_of (j := 7) f2'.out rfl) x
          have y8 := fun x : Gr w6 => Gr.cell (cell_of (j := 8) f2'.out rfl) x
          have y9 := fun x : Gr w6 => Gr.cell (cell_of (j := 9) f2'.out rfl) x
          have y10 := fun x : Gr w6 => Gr.cell (cell_of (j := 10) f2'.out rfl) x
          have z0 := fun x : Gr w6 => Gr.cell (cell_of (j := 0) f3.out rfl) x
          have z1 := fun x : Gr w6 => Gr.cell (cell_of (j := 1) f3.out rfl) x
          have z2 := fun x : Gr w6 => Gr.cell (cell_of (j := 2) f3.out rfl) x
          have z3 := fun x : Gr w6 => Gr.cell (cell_of (j := 3) f3.out rfl) x
          have z4 := fun x : Gr w6 => Gr.cell (cell_of (j := 4) f3.out rfl) x
          have z5 := fun x : Gr w6 => Gr.cell (cell_of (j := 5) f3.out rfl) x
          have z6 := fun x : Gr w6 => Gr.cell (cell_of (j := 6) f3.out rfl) x
          have z7 := fun x : Gr w6 => Gr.cell (cell_of (j := 7) f3.out rfl) x
          have z8 := fun x : Gr w6 => Gr.cell (cell_of (j := 8) f3.out rfl) x
          have z9 := fun x : Gr w6 => Gr.cell (cell_of (j := 9) f3.out rfl) x
          have z10 := fun x : Gr w6 => Gr.cell (cell_of (j := 10) f3.out rfl) x
          refine wp_region_grow (by kernel_rfl) (by kernel_rfl) ?_
          repeat (any_goals (first | go_big_quiet_step ((go_at_call 26; first | with_reducible exact grow_of _ (k1.out _) | with_reducible exact grow_of _ (k2.out _))) | quiet_step ((go_at_call 26; first | with_reducible exact grow_of _ (k1.out _) | with_reducible exact grow_of _ (k2.out _)))))
          refine wpQuiet_nil ?_
          rintro w7 ⟨⟨_, hB7⟩, rfl⟩
          clear x0 x1 x2 x3 x4 x5 x6 x7 x8 x9 x10 y0 y1 y2 y3 y4 y5 y6 y7 y8 y9 y10 z0 z1 z2 z3 z4 z5 z6 z7 z8 z9 z10
          have hB07 := below_step hB05.out hB7
          replace hB07 := Lib.hid hB07
          replace hB7 := Lib.hid hB7
          go_wp2
          go_ret
          exact ⟨ret_int (by rw [hwi.out]; rfl), hB07.out⟩
        | true =>
          cases ob with
          | false =>
            go_enter Try.func27, Try.ntmps27
            go_wp2_with fail
            (with_reducible refine (h1.out _ hw.out).mono ?_)
            rintro e w1 ⟨rfl, hB1⟩
            have g1 := (MapKept.heap_alloc w1 (.cells #[.string (mkS p1), .int .i64 kd1, .int .i64 sz1, .int .i64 a1, .int .i64 a2, .int .i64 a3, .int .i64 a4, .int .i64 a5, .string (mkS tg1), .string (mkS sm1), .int .i64 gr1] 35)).1
            have hB01 := below_alloc hB1 (.cells #[.string (mkS p1), .int .i64 kd1, .int .i64 sz1, .int .i64 a1, .int .i64 a2, .int .i64 a3, .int .i64 a4, .int .i64 a5, .string (mkS tg1), .string (mkS sm1), .int .i64 gr1] 35)
            replace g1 := Lib.hid g1
            replace hB01 := Lib.hid hB01
            clear hB1
            go_upto_region 2 with fail
            generalize w1.alloc (.cells #[.string (mkS p1), .int .i64 kd1, .int .i64 sz1, .int .i64 a1, .int .i64 a2, .int .i64 a3, .int .i64 a4, .int .i64 a5, .string (mkS tg1), .string (mkS sm1), .int .i64 gr1] 35) = w2 at *
            generalize w1.heap.size = n1 at *
            go_wp2_with fail
            (with_reducible refine (h2.out _ (ha.out.below hB01.out)).mono ?_)
            rintro e w3 ⟨rfl, hB3⟩
            have g1' := (hB3.block _ (Array.getElem?_eq_some_iff.1 g1.out).1).trans g1.out
            have g2 := (MapKept.heap_alloc w3 (.cells #[.string (mkS p2), .int .i64 kd2, .int .i64 sz2, .int .i64 b1, .int .i64 b2, .int .i64 b3, .int .i64 b4, .int .i64 b5, .string (mkS tg2), .string (mkS sm2), .int .i64 gr2] 35)).1
            have hA := below_alloc (Below.refl w3.heap.size w3) (.cells #[.string (mkS p2), .int .i64 kd2, .int .i64 sz2, .int .i64 b1, .int .i64 b2, .int .i64 b3, .int .i64 b4, .int .i64 b5, .string (mkS tg2), .string (mkS sm2), .int .i64 gr2] 35)
            have hB03 := below_step (below_step hB01.out hB3) hA
            have g1'' := (hA.block _ (Array.getElem?_eq_some_iff.1 g1').1).trans g1'
            replace g1'' := Lib.hid g1''
            replace g2 := Lib.hid g2
            replace hB03 := Lib.hid hB03
            clear hB3 g1' hA g1
            go_upto_region 3 with fail
            generalize w3.alloc (.cells #[.string (mkS p2), .int .i64 kd2, .int .i64 sz2, .int .i64 b1, .int .i64 b2, .int .i64 b3, .int .i64 b4, .int .i64 b5, .string (mkS tg2), .string (mkS sm2), .int .i64 gr2] 35) = w4 at *
            generalize w3.heap.size = n2 at *
            go_wp2_with fail
            (with_reducible refine (h3.out _ (hb.out.below hB03.out)).mono ?_)
            rintro e w5 ⟨rfl, hB5⟩
            have f1 := (hB5.block _ (Array.getElem?_eq_some_iff.1 g1''.out).1).trans g1''.out
            have f2 := (hB5.block _ (Array.getElem?_eq_some_iff.1 g2.out).1).trans g2.out
            have f3 := (MapKept.heap_alloc w5 (.cells #[.string (mkS p3), .int .i64 kd3, .int .i64 sz3, .int .i64 c1, .int .i64 c2, .int .i64 c3, .int .i64 c4, .int .i64 c5, .string (mkS tg3), .string (mkS sm3), .int .i64 gr3] 35)).1
            have hA := below_alloc (Below.refl w5.heap.size w5) (.cells #[.string (mkS p3), .int .i64 kd3, .int .i64 sz3, .int .i64 c1, .int .i64 c2, .int .i64 c3, .int .i64 c4, .int .i64 c5, .string (mkS tg3), .string (mkS sm3), .int .i64 gr3] 35)
            have hB05 := below_step (below_step hB03.out hB5) hA
            have f1' := (hA.block _ (Array.getElem?_eq_some_iff.1 f1).1).trans f1
            have f2' := (hA.block _ (Array.getElem?_eq_some_iff.1 f2).1).trans f2
            replace f1' := Lib.hid f1'
            replace f2' := Lib.hid f2'
            replace f3 := Lib.hid f3
            replace hB05 := Lib.hid hB05
            clear hB5 f1 f2 hA g1'' g2
            go_upto_region 4 with fail
            generalize w5.alloc (.cells #[.string (mkS p3), .int .i64 kd3, .int .i64 sz3, .int .i64 c1, .int .i64 c2, .int .i64 c3, .int .i64 c4, .int .i64 c5, .string (mkS tg3), .string (mkS sm3), .int .i64 gr3] 35) = w6 at *
            generalize w5.heap.size = n3 at *
            have x0 := fun x : Gr w6 => Gr.cell (cell_of (j := 0) f1'.out rfl) x
            have x1 := fun x : Gr w6 => Gr.cell (cell_of (j := 1) f1'.out rfl) x
            have x2 := fun x : Gr w6 => Gr.cell (cell_of (j := 2) f1'.out rfl) x
            have x3 := fun x : Gr w6 => Gr.cell (cell_of (j := 3) f1'.out rfl) x
            have x4 := fun x : Gr w6 => Gr.cell (cell_of (j := 4) f1'.out rfl) x
            have x5 := fun x : Gr w6 => Gr.cell (cell_of (j := 5) f1'.out rfl) x
            have x6 := fun x : Gr w6 => Gr.cell (cell_of (j := 6) f1'.out rfl) x
            have x7 := fun x : Gr w6 => Gr.cell (cell_of (j := 7) f1'.out rfl) x
            have x8 := fun x : Gr w6 => Gr.cell (cell_of (j := 8) f1'.out rfl) x
            have x9 := fun x : Gr w6 => Gr.cell (cell_of (j := 9) f1'.out rfl) x
            have x10 := fun x : Gr w6 => Gr.cell (cell_of (j := 10) f1'.out rfl) x
            have y0 := fun x : Gr w6 => Gr.cell (cell_of (j := 0) f2'.out rfl) x
            have y1 := fun x : Gr w6 => Gr.cell (cell_of (j := 1) f2'.out rfl) x
            have y2 := fun x : Gr w6 => Gr.cell (cell_of (j := 2) f2'.out rfl) x
            have y3 := fun x : Gr w6 => Gr.cell (cell_of (j := 3) f2'.out rfl) x
            have y4 := fun x : Gr w6 => Gr.cell (cell_of (j := 4) f2'.out rfl) x
            have y5 := fun x : Gr w6 => Gr.cell (cell_of (j := 5) f2'.out rfl) x
            have y6 := fun x : Gr w6 => Gr.cell (cell_of (j := 6) f2'.out rfl) x
            have y7 := fun x : Gr w6 => Gr.cell (cell_of (j := 7) f2'.out rfl) x
            have y8 := fun x : Gr w6 => Gr.cell (cell_of (j := 8) f2'.out rfl) x
            have y9 := fun x : Gr w6 => Gr.cell (cell_of (j := 9) f2'.out rfl) x
            have y10 := fun x : Gr w6 => Gr.cell (cell_of (j := 10) f2'.out rfl) x
            have z0 := fun x : Gr w6 => Gr.cell (cell_of (j := 0) f3.out rfl) x
            have z1 := fun x : Gr w6 => Gr.cell (cell_of (j := 1) f3.out rfl) x
            have z2 := fun x : Gr w6 => Gr.cell (cell_of (j := 2) f3.out rfl) x
            have z3 := fun x : Gr w6 => Gr.cell (cell_of (j := 3) f3.out rfl) x
            have z4 := fun x : Gr w6 => Gr.cell (cell_of (j := 4) f3.out rfl) x
            have z5 := fun x : Gr w6 => Gr.cell (cell_of (j := 5) f3.out rfl) x
            have z6 := fun x : Gr w6 => Gr.cell (cell_of (j := 6) f3.out rfl) x
            have z7 := fun x : Gr w6 => Gr.cell (cell_of (j := 7) f3.out rfl) x
            have z8 := fun x : Gr w6 => Gr.cell (cell_of (j := 8) f3.out rfl) x
            have z9 := fun x : Gr w6 => Gr.cell (cell_of (j := 9) f3.out rfl) x
            have z10 := fun x : Gr w6 => Gr.cell (cell_of (j := 10) f3.out rfl) x
            refine wp_region_grow (by kernel_rfl) (by kernel_rfl) ?_
            repeat (any_goals (first | go_big_quiet_step ((go_at_call 26; first | with_reducible exact grow_of _ (k1.out _) | with_reducible exact grow_of _ (k2.out _))) | quiet_step ((go_at_call 26; first | with_reducible exact grow_of _ (k1.out _) | with_reducible exact grow_of _ (k2.out _)))))
            refine wpQuiet_nil ?_
            rintro w7 ⟨⟨_, hB7⟩, rfl⟩
            clear x0 x1 x2 x3 x4 x5 x6 x7 x8 x9 x10 y0 y1 y2 y3 y4 y5 y6 y7 y8 y9 y10 z0 z1 z2 z3 z4 z5 z6 z7 z8 z9 z10
            have hB07 := below_step hB05.out hB7
            replace hB07 := Lib.hid hB07
            replace hB7 := Lib.hid hB7
            go_wp2
            go_ret
            exact ⟨ret_int (by rw [hwi.out]; rfl), hB07.out⟩
          | true =>
            go_enter Try.func27, Try.ntmps27
            go_wp2_with fail
            (with_reducible refine (h1.out _ hw.out).mono ?_)
            rintro e w1 ⟨rfl, hB1⟩
            have g1 := (MapKept.heap_alloc w1 (.cells #[.string (mkS p1), .int .i64 kd1, .int .i64 sz1, .int .i64 a1, .int .i64 a2, .int .i64 a3, .int .i64 a4, .int .i64 a5, .string (mkS tg1), .string (mkS sm1), .int .i64 gr1] 35)).1
            have hB01 := below_alloc hB1 (.cells #[.string (mkS p1), .int .i64 kd1, .int .i64 sz1, .int .i64 a1, .int .i64 a2, .int .i64 a3, .int .i64 a4, .int .i64 a5, .string (mkS tg1), .string (mkS sm1), .int .i64 gr1] 35)
            replace g1 := Lib.hid g1
            replace hB01 := Lib.hid hB01
            clear hB1
            go_upto_region 2 with fail
            generalize w1.alloc (.cells #[.string (mkS p1), .int .i64 kd1, .int .i64 sz1, .int .i64 a1, .int .i64 a2, .int .i64 a3, .int .i64 a4, .int .i64 a5, .string (mkS tg1), .string (mkS sm1), .int .i64 gr1] 35) = w2 at *
            generalize w1.heap.size = n1 at *
            go_wp2_with fail
            (with_reducible refine (h2.out _ (ha.out.below hB01.out)).mono ?_)
            rintro e w3 ⟨rfl, hB3⟩
            have g1' := (hB3.block _ (Array.getElem?_eq_some_iff.1 g1.out).1).trans g1.out
            have g2 := (MapKept.heap_alloc w3 (.cells #[.string (mkS p2), .int .i64 kd2, .int .i64 sz2, .int .i64 b1, .int .i64 b2, .int .i64 b3, .int .i64 b4, .int .i64 b5, .string (mkS tg2), .string (mkS sm2), .int .i64 gr2] 35)).1
            have hA := below_alloc (Below.refl w3.heap.size w3) (.cells #[.string (mkS p2), .int .i64 kd2, .int .i64 sz2, .int .i64 b1, .int .i64 b2, .int .i64 b3, .int .i64 b4, .int .i64 b5, .string (mkS tg2), .string (mkS sm2), .int .i64 gr2] 35)
            have hB03 := below_step (below_step hB01.out hB3) hA
            have g1'' := (hA.block _ (Array.getElem?_eq_some_iff.1 g1').1).trans g1'
            replace g1'' := Lib.hid g1''
            replace g2 := Lib.hid g2
            replace hB03 := Lib.hid hB03
            clear hB3 g1' hA g1
            go_upto_region 3 with fail
            generalize w3.alloc (.cells #[.string (mkS p2), .int .i64 kd2, .int .i64 sz2, .int .i64 b1, .int .i64 b2, .int .i64 b3, .int .i64 b4, .int .i64 b5, .string (mkS tg2), .string (mkS sm2), .int .i64 gr2] 35) = w4 at *
            generalize w3.heap.size = n2 at *
            go_wp2_with fail
            (with_reducible refine (h3.out _ (hb.out.below hB03.out)).mono ?_)
            rintro e w5 ⟨rfl, hB5⟩
            have f1 := (hB5.block _ (Array.getElem?_eq_some_iff.1 g1''.out).1).trans g1''.out
            have f2 := (hB5.block _ (Array.getElem?_eq_some_iff.1 g2.out).1).trans g2.out
            have f3 := (MapKept.heap_alloc w5 (.cells #[.string (mkS p3), .int .i64 kd3, .int .i64 sz3, .int .i64 c1, .int .i64 c2, .int .i64 c3, .int .i64 c4, .int .i64 c5, .string (mkS tg3), .string (mkS sm3), .int .i64 gr3] 35)).1
            have hA := below_alloc (Below.refl w5.heap.size w5) (.cells #[.string (mkS p3), .int .i64 kd3, .int .i64 sz3, .int .i64 c1, .int .i64 c2, .int .i64 c3, .int .i64 c4, .int .i64 c5, .string (mkS tg3), .string (mkS sm3), .int .i64 gr3] 35)
            have hB05 := below_step (below_step hB03.out hB5) hA
            have f1' := (hA.block _ (Array.getElem?_eq_some_iff.1 f1).1).trans f1
            have f2' := (hA.block _ (Array.getElem?_eq_some_iff.1 f2).1).trans f2
            replace f1' := Lib.hid f1'
            replace f2' := Lib.hid f2'
            replace f3 := Lib.hid f3
            replace hB05 := Lib.hid hB05
            clear hB5 f1 f2 hA g1'' g2
            go_upto_region 4 with fail
            generalize w5.alloc (.cells #[.string (mkS p3), .int .i64 kd3, .int .i64 sz3, .int .i64 c1, .int .i64 c2, .int .i64 c3, .int .i64 c4, .int .i64 c5, .string (mkS tg3), .string (mkS sm3), .int .i64 gr3] 35) = w6 at *
            generalize w5.heap.size = n3 at *
            have x0 := fun x : Gr w6 => Gr.cell (cell_of (j := 0) f1'.out rfl) x
            have x1 := fun x : Gr w6 => Gr.cell (cell_of (j := 1) f1'.out rfl) x
            have x2 := fun x : Gr w6 => Gr.cell (cell_of (j := 2) f1'.out rfl) x
            have x3 := fun x : Gr w6 => Gr.cell (cell_of (j := 3) f1'.out rfl) x
            have x4 := fun x : Gr w6 => Gr.cell (cell_of (j := 4) f1'.out rfl) x
            have x5 := fun x : Gr w6 => Gr.cell (cell_of (j := 5) f1'.out rfl) x
            have x6 := fun x : Gr w6 => Gr.cell (cell_of (j := 6) f1'.out rfl) x
            have x7 := fun x : Gr w6 => Gr.cell (cell_of (j := 7) f1'.out rfl) x
            have x8 := fun x : Gr w6 => Gr.cell (cell_of (j := 8) f1'.out rfl) x
            have x9 := fun x : Gr w6 => Gr.cell (cell_of (j := 9) f1'.out rfl) x
            have x10 := fun x : Gr w6 => Gr.cell (cell_of (j := 10) f1'.out rfl) x
            have y0 := fun x : Gr w6 => Gr.cell (cell_of (j := 0) f2'.out rfl) x
            have y1 := fun x : Gr w6 => Gr.cell (cell_of (j := 1) f2'.out rfl) x
            have y2 := fun x : Gr w6 => Gr.cell (cell_of (j := 2) f2'.out rfl) x
            have y3 := fun x : Gr w6 => Gr.cell (cell_of (j := 3) f2'.out rfl) x
            have y4 := fun x : Gr w6 => Gr.cell (cell_of (j := 4) f2'.out rfl) x
            have y5 := fun x : Gr w6 => Gr.cell (cell_of (j := 5) f2'.out rfl) x
            have y6 := fun x : Gr w6 => Gr.cell (cell_of (j := 6) f2'.out rfl) x
            have y7 := fun x : Gr w6 => Gr.cell (cell_of (j := 7) f2'.out rfl) x
            have y8 := fun x : Gr w6 => Gr.cell (cell_of (j := 8) f2'.out rfl) x
            have y9 := fun x : Gr w6 => Gr.cell (cell_of (j := 9) f2'.out rfl) x
            have y10 := fun x : Gr w6 => Gr.cell (cell_of (j := 10) f2'.out rfl) x
            have z0 := fun x : Gr w6 => Gr.cell (cell_of (j := 0) f3.out rfl) x
            have z1 := fun x : Gr w6 => Gr.cell (cell_of (j := 1) f3.out rfl) x
            have z2 := fun x : Gr w6 => Gr.cell (cell_of (j := 2) f3.out rfl) x
            have z3 := fun x : Gr w6 => Gr.cell (cell_of (j := 3) f3.out rfl) x
            have z4 := fun x : Gr w6 => Gr.cell (cell_of (j := 4) f3.out rfl) x
            have z5 := fun x : Gr w6 => Gr.cell (cell_of (j := 5) f3.out rfl) x
            have z6 := fun x : Gr w6 => Gr.cell (cell_of (j := 6) f3.out rfl) x
            have z7 := fun x : Gr w6 => Gr.cell (cell_of (j := 7) f3.out rfl) x
            have z8 := fun x : Gr w6 => Gr.cell (cell_of (j := 8) f3.out rfl) x
            have z9 := fun x : Gr w6 => Gr.cell (cell_of (j := 9) f3.out rfl) x
            have z10 := fun x : Gr w6 => Gr.cell (cell_of (j := 10) f3.out rfl) x
            refine wp_region_grow (by kernel_rfl) (by kernel_rfl) ?_
            repeat (any_goals (first | go_big_quiet_step ((go_at_call 26; first | with_reducible exact grow_of _ (k1.out _) | with_reducible exact grow_of _ (k2.out _))) | quiet_step ((go_at_call 26; first | with_reducible exact grow_of _ (k1.out _) | with_reducible exact grow_of _ (k2.out _)))))
            refine wpQuiet_nil ?_
            rintro w7 ⟨⟨_, hB7⟩, rfl⟩
            clear x0 x1 x2 x3 x4 x5 x6 x7 x8 x9 x10 y0 y1 y2 y3 y4 y5 y6 y7 y8 y9 y10 z0 z1 z2 z3 z4 z5 z6 z7 z8 z9 z10
            have hB07 := below_step hB05.out hB7
            replace hB07 := Lib.hid hB07
            replace hB7 := Lib.hid hB7
            have e2 := (hB7.out.block _ (Array.getElem?_eq_some_iff.1 f2'.out).1).trans f2'.out
            have e3 := (hB7.out.block _ (Array.getElem?_eq_some_iff.1 f3.out).1).trans f3.out
            have y3 := cell_of (j := 3) e2 rfl
            have y4 := cell_of (j := 4) e2 rfl
            have y5 := cell_of (j := 5) e2 rfl
            have y6 := cell_of (j := 6) e2 rfl
            have y7 := cell_of (j := 7) e2 rfl
            have z3 := cell_of (j := 3) e3 rfl
            have z4 := cell_of (j := 4) e3 rfl
            have z5 := cell_of (j := 5) e3 rfl
            have z6 := cell_of (j := 6) e3 rfl
            have z7 := cell_of (j := 7) e3 rfl
            replace e2 := Lib.hid e2
            replace e3 := Lib.hid e3
            go_wp2_with fail
            (with_reducible refine (k3.out _).mono ?_)
            rintro e w8 ⟨rfl, hB8⟩
            have hB08 := below_step hB07.out hB8
            replace hB08 := Lib.hid hB08
            clear hB8
            cases lt <;>
            · go_wp2
              go_ret
              exact ⟨ret_int (by rw [hwi.out]; rfl), hB08.out⟩
      · have hpn : (po != 3) = true := by simpa using hpo
        replace hpo := Lib.hid hpo
        go_enter Try.func27, Try.ntmps27
        go_wp2_with fail
        (with_reducible refine (h1.out _ hw.out).mono ?_)
        rintro e w1 ⟨rfl, hB1⟩
        have g1 := (MapKept.heap_alloc w1 (.cells #[.string (mkS p1), .int .i64 kd1, .int .i64 sz1, .int .i64 a1, .int .i64 a2, .int .i64 a3, .int .i64 a4, .int .i64 a5, .string (mkS tg1), .string (mkS sm1), .int .i64 gr1] 35)).1
        have hB01 := below_alloc hB1 (.cells #[.string (mkS p1), .int .i64 kd1, .int .i64 sz1, .int .i64 a1, .int .i64 a2, .int .i64 a3, .int .i64 a4, .int .i64 a5, .string (mkS tg1), .string (mkS sm1), .int .i64 gr1] 35)
        replace g1 := Lib.hid g1
        replace hB01 := Lib.hid hB01
        clear hB1
        go_upto_region 2 with fail
        generalize w1.alloc (.cells #[.string (mkS p1), .int .i64 kd1, .int .i64 sz1, .int .i64 a1, .int .i64 a2, .int .i64 a3, .int .i64 a4, .int .i64 a5, .string (mkS tg1), .string (mkS sm1), .int .i64 gr1] 35) = w2 at *
        generalize w1.heap.size = n1 at *
        go_wp2_with fail
        (with_reducible refine (h2.out _ (ha.out.below hB01.out)).mono ?_)
        rintro e w3 ⟨rfl, hB3⟩
        have g1' := (hB3.block _ (Array.getElem?_eq_some_iff.1 g1.out).1).trans g1.out
        have g2 := (MapKept.heap_alloc w3 (.cells #[.string (mkS p2), .int .i64 kd2, .int .i64 sz2, .int .i64 b1, .int .i64 b2, .int .i64 b3, .int .i64 b4, .int .i64 b5, .string (mkS tg2), .string (mkS sm2), .int .i64 gr2] 35)).1
        have hA := below_alloc (Below.refl w3.heap.size w3) (.cells #[.string (mkS p2), .int .i64 kd2, .int .i64 sz2, .int .i64 b1, .int .i64 b2, .int .i64 b3, .int .i64 b4, .int .i64 b5, .string (mkS tg2), .string (mkS sm2), .int .i64 gr2] 35)
        have hB03 := below_step (below_step hB01.out hB3) hA
        have g1'' := (hA.block _ (Array.getElem?_eq_some_iff.1 g1').1).trans g1'
        replace g1'' := Lib.hid g1''
        replace g2 := Lib.hid g2
        replace hB03 := Lib.hid hB03
        clear hB3 g1' hA g1
        go_upto_region 3 with fail
        generalize w3.alloc (.cells #[.string (mkS p2), .int .i64 kd2, .int .i64 sz2, .int .i64 b1, .int .i64 b2, .int .i64 b3, .int .i64 b4, .int .i64 b5, .string (mkS tg2), .string (mkS sm2), .int .i64 gr2] 35) = w4 at *
        generalize w3.heap.size = n2 at *
        go_wp2_with fail
        (with_reducible refine (h3.out _ (hb.out.below hB03.out)).mono ?_)
        rintro e w5 ⟨rfl, hB5⟩
        have f1 := (hB5.block _ (Array.getElem?_eq_some_iff.1 g1''.out).1).trans g1''.out
        have f2 := (hB5.block _ (Array.getElem?_eq_some_iff.1 g2.out).1).trans g2.out
        have f3 := (MapKept.heap_alloc w5 (.cells #[.string (mkS p3), .int .i64 kd3, .int .i64 sz3, .int .i64 c1, .int .i64 c2, .int .i64 c3, .int .i64 c4, .int .i64 c5, .string (mkS tg3), .string (mkS sm3), .int .i64 gr3] 35)).1
        have hA := below_alloc (Below.refl w5.heap.size w5) (.cells #[.string (mkS p3), .int .i64 kd3, .int .i64 sz3, .int .i64 c1, .int .i64 c2, .int .i64 c3, .int .i64 c4, .int .i64 c5, .string (mkS tg3), .string (mkS sm3), .int .i64 gr3] 35)
        have hB05 := below_step (below_step hB03.out hB5) hA
        have f1' := (hA.block _ (Array.getElem?_eq_some_iff.1 f1).1).trans f1
        have f2' := (hA.block _ (Array.getElem?_eq_some_iff.1 f2).1).trans f2
        replace f1' := Lib.hid f1'
        replace f2' := Lib.hid f2'
        replace f3 := Lib.hid f3
        replace hB05 := Lib.hid hB05
        clear hB5 f1 f2 hA g1'' g2
        go_upto_region 4 with fail
        generalize w5.alloc (.cells #[.string (mkS p3), .int .i64 kd3, .int .i64 sz3, .int .i64 c1, .int .i64 c2, .int .i64 c3, .int .i64 c4, .int .i64 c5, .string (mkS tg3), .string (mkS sm3), .int .i64 gr3] 35) = w6 at *
        generalize w5.heap.size = n3 at *
        have x0 := fun x : Gr w6 => Gr.cell (cell_of (j := 0) f1'.out rfl) x
        have x1 := fun x : Gr w6 => Gr.cell (cell_of (j := 1) f1'.out rfl) x
        have x2 := fun x : Gr w6 => Gr.cell (cell_of (j := 2) f1'.out rfl) x
        have x3 := fun x : Gr w6 => Gr.cell (cell_of (j := 3) f1'.out rfl) x
        have x4 := fun x : Gr w6 => Gr.cell (cell_of (j := 4) f1'.out rfl) x
        have x5 := fun x : Gr w6 => Gr.cell (cell_of (j := 5) f1'.out rfl) x
        have x6 := fun x : Gr w6 => Gr.cell (cell_of (j := 6) f1'.out rfl) x
        have x7 := fun x : Gr w6 => Gr.cell (cell_of (j := 7) f1'.out rfl) x
        have x8 := fun x : Gr w6 => Gr.cell (cell_of (j := 8) f1'.out rfl) x
        have x9 := fun x : Gr w6 => Gr.cell (cell_of (j := 9) f1'.out rfl) x
        have x10 := fun x : Gr w6 => Gr.cell (cell_of (j := 10) f1'.out rfl) x
        have y0 := fun x : Gr w6 => Gr.cell (cell_of (j := 0) f2'.out rfl) x
        have y1 := fun x : Gr w6 => Gr.cell (cell_of (j := 1) f2'.out rfl) x
        have y2 := fun x : Gr w6 => Gr.cell (cell_of (j := 2) f2'.out rfl) x
        have y3 := fun x : Gr w6 => Gr.cell (cell_of (j := 3) f2'.out rfl) x
        have y4 := fun x : Gr w6 => Gr.cell (cell_of (j := 4) f2'.out rfl) x
        have y5 := fun x : Gr w6 => Gr.cell (cell_of (j := 5) f2'.out rfl) x
        have y6 := fun x : Gr w6 => Gr.cell (cell_of (j := 6) f2'.out rfl) x
        have y7 := fun x : Gr w6 => Gr.cell (cell_of (j := 7) f2'.out rfl) x
        have y8 := fun x : Gr w6 => Gr.cell (cell_of (j := 8) f2'.out rfl) x
        have y9 := fun x : Gr w6 => Gr.cell (cell_of (j := 9) f2'.out rfl) x
        have y10 := fun x : Gr w6 => Gr.cell (cell_of (j := 10) f2'.out rfl) x
        have z0 := fun x : Gr w6 => Gr.cell (cell_of (j := 0) f3.out rfl) x
        have z1 := fun x : Gr w6 => Gr.cell (cell_of (j := 1) f3.out rfl) x
        have z2 := fun x : Gr w6 => Gr.cell (cell_of (j := 2) f3.out rfl) x
        have z3 := fun x : Gr w6 => Gr.cell (cell_of (j := 3) f3.out rfl) x
        have z4 := fun x : Gr w6 => Gr.cell (cell_of (j := 4) f3.out rfl) x
        have z5 := fun x : Gr w6 => Gr.cell (cell_of (j := 5) f3.out rfl) x
        have z6 := fun x : Gr w6 => Gr.cell (cell_of (j := 6) f3.out rfl) x
        have z7 := fun x : Gr w6 => Gr.cell (cell_of (j := 7) f3.out rfl) x
        have z8 := fun x : Gr w6 => Gr.cell (cell_of (j := 8) f3.out rfl) x
        have z9 := fun x : Gr w6 => Gr.cell (cell_of (j := 9) f3.out rfl) x
        have z10 := fun x : Gr w6 => Gr.cell (cell_of (j := 10) f3.out rfl) x
        refine wp_region_grow (by kernel_rfl) (by kernel_rfl) ?_
        repeat (any_goals (first | go_big_quiet_step ((go_at_call 26; first | with_reducible exact grow_of _ (k1.out _) | with_reducible exact grow_of _ (k2.out _))) | quiet_step ((go_at_call 26; first | with_reducible exact grow_of _ (k1.out _) | with_reducible exact grow_of _ (k2.out _)))))
        refine wpQuiet_nil ?_
        rintro w7 ⟨⟨_, hB7⟩, rfl⟩
        clear x0 x1 x2 x3 x4 x5 x6 x7 x8 x9 x10 y0 y1 y2 y3 y4 y5 y6 y7 y8 y9 y10 z0 z1 z2 z3 z4 z5 z6 z7 z8 z9 z10
        have hB07 := below_step hB05.out hB7
        replace hB07 := Lib.hid hB07
        replace hB7 := Lib.hid hB7
        go_wp2
        go_ret
        exact ⟨ret_int (by rw [hwi.out, if_neg (by simp), if_neg (by simp), if_pos hpo.out]), hB07.out⟩

end Go.Proofs.Ytcjlfkklpghjbaa

namespace Go.Proofs.Ytcjlfkklpghjbaa
open Go.RowKit

def actRow (l : Acts44) : List Value := l.flatMap fun y => [.string (mkS y.1), .int .i64 y.2]
theorem actRow_append (l r : Acts44) : actRow (l ++ r) = actRow l ++ actRow r := by simp [actRow]
theorem actRow_length (l : Acts44) : (actRow l).length = l.length * 2 := by
  induction l with
  | nil => rfl
  | cons y l ih =>
    have e : actRow (y :: l) = [.string (mkS y.1), .int .i64 y.2] ++ actRow l := rfl
    rw [e, List.length_append, ih]
    simp
    omega
theorem actRow_at : ∀ (l : Acts44) (k : Nat) (y : Bytes × Int), l[k]? = some y → (actRow l)[k * 2]? = some (.string (mkS y.1)) ∧ (actRow l)[k * 2 + 1]? = some (.int .i64 y.2)
  | [], k, y, h => by simp at h
  | z :: l, 0, y, h => by
    simp only [List.getElem?_cons_zero, Option.some.injEq] at h
    subst h
    exact ⟨rfl, rfl⟩
  | z :: l, k + 1, y, h => by
    rw [List.getElem?_cons_succ] at h
    obtain ⟨h1, h2⟩ := actRow_at l k y h
    have e : actRow (z :: l) = [.string (mkS z.1), .int .i64 z.2] ++ actRow l := rfl
    rw [e, show (k + 1) * 2 = k * 2 + 2 by omega, show k * 2 + 2 + 1 = k * 2 + 1 + 2 by omega]
    exact ⟨by simpa using h1, by simpa using h2⟩
theorem actRow_one (l : Acts44) : ∀ u ∈ actRow l, u.oneCell' = true := by
  intro u hu
  unfold actRow at hu
  rw [List.mem_flatMap] at hu
  obtain ⟨y, _, h⟩ := hu
  simp only [List.mem_cons, List.not_mem_nil, or_false] at h
  rcases h with rfl | rfl <;> rfl

/-- v reads as the acts l. -/
def RdA (W : World) (v : Value) (l : Acts44) : Prop :=
  ∃ A c, v = .slice A l.length c ∧ l.length ≤ c ∧ c ≤ maxLen ∧ ∀ k (hk : k < l.length), ∃ g o, A = some ⟨g, o, none⟩ ∧ W.cell? ⟨g, o + k * 2, none⟩ = some (.string (mkS l[k].1)) ∧ W.cell? ⟨g, o + k * 2 + 1, none⟩ = some (.int .i64 l[k].2)
theorem RdA.shape {W : World} {v : Value} {l : Acts44} (h : RdA W v l) : ∃ A c, v = .slice A l.length c ∧ l.length ≤ c ∧ c ≤ maxLen := by
  obtain ⟨A, c, h1, h2, h3, _⟩ := h
  exact ⟨A, c, h1, h2, h3⟩
theorem RdA.at {W : World} {A : Option Addr} {n c : Nat} {l : Acts44} (h : RdA W (.slice A n c) l) {k : Nat} (hk : k < l.length) : ∃ g o, A = some ⟨g, o, none⟩ ∧ W.cell? ⟨g, o + k * 2, none⟩ = some (.string (mkS l[k].1)) ∧ W.cell? ⟨g, o + k * 2 + 1, none⟩ = some (.int .i64 l[k].2) := by
  obtain ⟨A', c', h1, _, _, h4⟩ := h
  cases h1
  exact h4 k hk
theorem RdA.below {W W' : World} {v : Value} {l : Acts44} (h : RdA W v l) (hb : Below W.heap.size W W') : RdA W' v l := by
  obtain ⟨A, c, h1, h2, h3, h4⟩ := h
  refine ⟨A, c, h1, h2, h3, fun k hk => ?_⟩
  obtain ⟨g, o, e, c1, c2⟩ := h4 k hk
  exact ⟨g, o, e, (hb.cell (cell_lt c1)).trans c1, (hb.cell (cell_lt c2)).trans c2⟩
theorem rda_own {W : World} {B : Nat} {t : TypeId} {v : Value} {l : Acts44} (h : W.ownsRow B t 2 v l.length (actRow l)) : RdA W v l := by
  obtain ⟨A, c, h1, h2, h3⟩ := own_shape h
  refine ⟨A, c, h1, h2, h3, fun k hk => ?_⟩
  obtain ⟨g, c', e, _, _, _, _, hc⟩ := own_at h (by omega)
  rw [h1] at e
  simp only [Value.slice.injEq] at e
  obtain ⟨e1, _⟩ := e
  obtain ⟨r1, r2⟩ := actRow_at l k _ (List.getElem?_eq_getElem hk)
  exact ⟨g, 0, e1, by rw [Nat.zero_add]; exact hc _ _ r1, by rw [Nat.zero_add]; exact hc _ _ r2⟩

set_option maxHeartbeats 4000000 in
set_option maxRecDepth 100000 in
theorem below44_calls (va vl : Value) (l : Acts44) (list : List Ent) (p : Bytes) (tw : Int) (w : World) (ha : RdA w va l) (hv : Ents w vl list) (hr : Rise list) (hp : p.length ≤ 1000000) (hl : ∀ y ∈ l, y.1.length ≤ 1000000) :
    Calls Try.prog 44 #[va, vl, .string (mkS p), .int .i64 tw] w fun e w' => e = .returned (.bool (belowA l list p tw)) ∧ Below w.heap.size w w' := by
  obtain ⟨A, c, rfl, h2, h3⟩ := ha.shape
  obtain ⟨Z, z, rfl, _, _⟩ := hv.shape
  unfold maxLen at h3
  have hps := mkS_size p
  have hyes : ∀ k (hk : k < l.length), (decide (l[k].1 ≠ p) && under l[k].1 p && decide (l[k].2 ≠ tw) && (entAt list l[k].1).isSome) = true → belowA l list p tw = true := fun k hk h => by
    unfold belowA
    rw [List.any_eq_true]
    exact ⟨l[k], List.getElem_mem hk, h⟩
  have hsnoc : ∀ k (hk : k < l.length), belowA (l.take k) list p tw = false → (decide (l[k].1 ≠ p) && under l[k].1 p && decide (l[k].2 ≠ tw) && (entAt list l[k].1).isSome) = false → belowA (l.take (k + 1)) list p tw = false := fun k hk h1 h2 => by
    rw [List.take_succ_eq_append_getElem hk]
    unfold belowA at *
    rw [List.any_append, h1]
    simpa using h2
  replace ha := Lib.hid ha
  replace hv := Lib.hid hv
  replace hyes := Lib.hid hyes
  replace hsnoc := Lib.hid hsnoc
  replace hl := Lib.hid hl
  go_enter Try.func44, Try.ntmps44
  go_wp2_with fail
  go_loopw [9] (fun i wr => ∃ k : Nat, i = .int .i64 k ∧ k ≤ l.length ∧ belowA (l.take k) list p tw = false ∧ Below w.heap.size w wr) (fun i _ => l.length - (intOf i).toNat)
  case atStart => exact ⟨0, rfl, Nat.zero_le _, by simp [belowA], Below.refl _ _⟩
  case round =>
    obtain ⟨k, rfl, hk, hno, hB⟩ := hrel
    by_cases hlt : k < l.length
    · obtain ⟨g, o, rfl, c1, c2⟩ := (ha.out.below hB).at hlt
      have hyk := hyes.out k hlt
      have hsk := hsnoc.out k hlt hno
      have hyl := hl.out _ (List.getElem_mem hlt)
      generalize l[k] = y at *
      obtain ⟨q, t⟩ := y
      dsimp only at *
      have hqs := mkS_size q
      have hun := fun W => refunder_calls (mkS q) (mkS p) W (by omega) (by omega)
      rw [bl_mkS, bl_mkS] at hun
      have hat := fun W hW => at44_calls (.slice Z list.length z) list q W hW hr
      have hki : (k : Int) < (l.length : Int) := by omega
      generalize (entAt list q).isSome = iso at *
      generalize entOr (entAt list q) = xx at *
      generalize hu : under q p = u at *
      obtain ⟨p1, kd1, sz1, ⟨a1, a2, a3, a4, a5⟩, tg1, sm1, gr1⟩ := xx
      unfold entV entCells at hat
      dsimp only at hat
      replace hyk := Lib.hid hyk
      replace hsk := Lib.hid hsk
      replace hun := Lib.hid hun
      replace hat := Lib.hid hat
      replace hno := Lib.hid hno
      replace hu := Lib.hid hu
      replace hB := Lib.hid hB
      by_cases hqp : q = p
      · have t1 : ((mkS q).toList == (mkS p).toList) = true := strs_alike (by rw [hqp])
        have hs := hsk.out (by simp [hqp])
        replace hqp := Lib.hid hqp
        replace hs := Lib.hid hs
        go_wp2
        go_roundw
        case rel => exact ⟨k + 1, by go_num, by omega, hs.out, hB.out⟩
        case measure => simp [intOf]; omega
      · have t1 : ((mkS q).toList == (mkS p).toList) = false := strs_diff (fun e => hqp (mkS_inj e))
        replace hqp := Lib.hid hqp
        go_wp2_with fail
        (with_reducible refine (hun.out _).mono ?_)
        rintro e w1 ⟨rfl, hB1⟩
        have d1 := (hB1.cell (cell_lt c1)).trans c1
        have d2 := (hB1.cell (cell_lt c2)).trans c2
        have hB01 := below_step hB.out hB1
        replace hB01 := Lib.hid hB01
        clear hB1 c1 c2
        cases u with
        | false =>
          have hs := hsk.out (by simp)
          replace hs := Lib.hid hs
          go_wp2
          go_roundw
          case rel => exact ⟨k + 1, by go_num, by omega, hs.out, hB01.out⟩
          case measure => simp [intOf]; omega
        | true =>
          by_cases htt : t = tw
          · have t2 : (t != tw) = false := by simpa using htt
            have hs := hsk.out (by simp [htt])
            replace htt := Lib.hid htt
            replace hs := Lib.hid hs
            go_wp2
            go_roundw
            case rel => exact ⟨k + 1, by go_num, by omega, hs.out, hB01.out⟩
            case measure => simp [intOf]; omega
          · have t2 : (t != tw) = true := by simpa using htt
            replace htt := Lib.hid htt
            go_wp2_with fail
            (with_reducible refine (hat.out _ (hv.out.below hB01.out)).mono ?_)
            rintro e w2 ⟨rfl, hB2⟩
            have hB02 := below_alloc (below_step hB01.out hB2) (.cells #[.string (mkS p1), .int .i64 kd1, .int .i64 sz1, .int .i64 a1, .int .i64 a2, .int .i64 a3, .int .i64 a4, .int .i64 a5, .string (mkS tg1), .string (mkS sm1), .int .i64 gr1] 35)
            replace hB02 := Lib.hid hB02
            clear hB2
            cases iso with
            | true =>
              have hy := hyk.out (by simp [hqp.out, htt.out])
              replace hy := Lib.hid hy
              go_wp2
              go_ret
              exact ⟨ret_bool hy.out.symm, hB02.out⟩
            | false =>
              have hs := hsk.out (by simp)
              replace hs := Lib.hid hs
              go_wp2
              go_roundw
              case rel => exact ⟨k + 1, by go_num, by omega, hs.out, hB02.out⟩
              case measure => simp [intOf]; omega
    · obtain rfl : k = l.length := by omega
      rw [List.take_length] at hno
      replace hno := Lib.hid hno
      replace hB := Lib.hid hB
      go_wp2
      go_ret
      exact ⟨ret_bool hno.out.symm, hB.out⟩

end Go.Proofs.Ytcjlfkklpghjbaa
