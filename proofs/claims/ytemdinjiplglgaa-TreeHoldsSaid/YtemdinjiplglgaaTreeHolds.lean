/-
  remoralaw17.TreeHolds.
-/
import Derived.Test.YtemdinjiplglgaaB4
import Derived.Test.YtemdinjiplglgaaB1
namespace Go.Proofs.Ytemdinjiplglgaa
open Go.RowKit

/-- The inner loop's one round, as numbers. -/
theorem in_snoc (P : List Bytes) (s : Bytes) {k : Nat} (hk : k < P.length) : inCnt P s (k + 1) = inCnt P s k + if parent P[k] = s then 1 else 0 := by
  unfold inCnt
  rw [cnt_snoc _ _ hk]
  simp only [decide_eq_true_eq]
theorem link_snoc (T : Fs) (i : Nat) {k : Nat} (hk : k < T.paths.length) : linkCnt T i (k + 1) = linkCnt T i k + if (T.stat T.paths[k]).1.ino = i then 1 else 0 := by
  unfold linkCnt
  rw [cnt_snoc _ _ hk]
  simp only [decide_eq_true_eq]
theorem inCnt_le (P : List Bytes) (s : Bytes) (k : Nat) : inCnt P s k ≤ P.length := Nat.le_trans (List.length_filter_le _ _) (by rw [List.length_take]; omega)
theorem linkCnt_le (T : Fs) (i k : Nat) : linkCnt T i k ≤ T.paths.length := Nat.le_trans (List.length_filter_le _ _) (by rw [List.length_take]; omega)

theorem Rd.at {W : World} {A : Option Addr} {n c : Nat} {l : List Bytes} (h : Rd W (.slice A n c) l) {j : Nat} (hj : j < l.length) : ∃ g o, A = some ⟨g, o, none⟩ ∧ ∀ k (hk : k < l.length), W.cell? ⟨g, o + k, none⟩ = some (.string (mkS l[k])) := by
  obtain ⟨g, o, e, _⟩ := h.cell hj
  refine ⟨g, o, e, fun k hk => ?_⟩
  obtain ⟨g', o', e', hc⟩ := h.cell hk
  rw [e] at e'
  cases e'
  exact hc

set_option maxHeartbeats 4000000 in
set_option maxRecDepth 100000 in
theorem treeHolds_walk (v : Value) (l : List Act17) (w : World) (hv : Acts w v l) :
    Calls Try.prog 5 #[v] w fun e w' => e = .returned (.bool true) ∧ Below w.heap.size w w' := by
  have haw := fun W => awake17_calls W
  have hsm := small_calls v l _ hv
  replace haw := Lib.hid haw
  by_cases hs1 : small l = true
  · rw [hs1] at hsm
    have hl40 := (small_at hs1).1
    have hbl := build_calls _ l _ hv hs1
    have hgr := acts_grow Fs.start l
    have hfew : (Fs.build l).names.length ≤ 1000 := by
      have : (Fs.build l).names.length ≤ Fs.start.names.length + l.length := hgr.1
      have h9 : Fs.start.names.length = 1 := rfl
      omega
    generalize Fs.build l = T at *
    have hpa := fun tb A M W (hR : Rep W tb A M T) => paths_calls tb A M T W hR (by omega)
    have hct := fun tb A M W (hR : Rep W tb A M T) => count_calls tb A M T W hR (by omega)
    have hstat := fun tb A M W (s : ByteArray) (hs : s.size ≤ 16777216) (hR : Rep W tb A M T) => stat_calls tb A M T s W hR hs
    have hnm := fun tb A M W (s : ByteArray) (hs : s.size ≤ 16777216) (hR : Rep W tb A M T) => namesof_calls tb A M T s W hR hs (by omega)
    have hPl : T.paths.length ≤ 1000 := by rw [paths_len]; exact Nat.le_trans (below_few T []) hfew
    have hPc := paths_len T
    unfold ptr at *
    replace hsm := Lib.hid hsm
    replace hbl := Lib.hid hbl
    replace hpa := Lib.hid hpa
    replace hct := Lib.hid hct
    replace hstat := Lib.hid hstat
    replace hnm := Lib.hid hnm
    replace hv := Lib.hid hv
    replace hs1 := Lib.hid hs1
    replace hPc := Lib.hid hPc
    clear hgr
    go_enter Try.func5, Try.ntmps5
    go_wp2_with fail
    refine hsm.out.mono ?_
    rintro e w1 ⟨rfl, rfl⟩
    go_wp2_with fail
    (with_reducible refine hbl.out.mono ?_)
    rintro e w2 ⟨tc, C, M, rfl, hR2, hO2, hB2⟩
    have hpa2 := hpa.out tc C M w2 hR2
    have hI := hR2.inv
    replace hpa2 := Lib.hid hpa2
    replace hR2 := Lib.hid hR2
    replace hO2 := Lib.hid hO2
    replace hB2 := Lib.hid hB2
    replace hI := Lib.hid hI
    go_wp2_with fail
    (with_reducible refine hpa2.out.mono ?_)
    rintro e w3 ⟨⟨vp, rfl, hO3⟩, hB3⟩
    have hRd3 := hO3.rd
    obtain ⟨pA, pc, rfl, hpc1, hpc2⟩ := hRd3.shape
    unfold maxLen at hpc2
    have hBw3 := below_step hB2.out hB3
    have hR3 := hR2.out.below hB3
    replace hRd3 := Lib.hid hRd3
    replace hR3 := Lib.hid hR3
    replace hBw3 := Lib.hid hBw3
    replace hO3 := Lib.hid hO3
    clear hB3 hpa2
    go_wp2_with fail
    go_loopw [5] (fun i wr => ∃ k : Nat, i = .int .i64 k ∧ k ≤ T.paths.length ∧ Below w3.heap.size w3 wr) (fun i _ => T.paths.length - (intOf i).toNat)
    case atStart => exact ⟨0, rfl, Nat.zero_le _, Below.refl _ _⟩
    case round =>
      obtain ⟨k, rfl, hk, hB⟩ := hrel
      by_cases hlt : k < T.paths.length
      · have hRr := hR3.out.below hB
        have hRdr := hRd3.out.below hB
        obtain ⟨g, o, rfl, hcs⟩ := Rd.at hRdr hlt
        obtain ⟨h1, h2, i, h3, h4, h5, h6, d, h7, h8, h9⟩ := path_at hI.out hlt
        have hck := hcs k hlt
        have hsz1 := mkS_size T.paths[k]
        have hrl : T.paths[k].length ≤ 200 := by
          have := h1
          simp only [right, Bool.and_eq_true, decide_eq_true_eq] at this
          exact this.2
        have hrt := fun W => refright_calls (mkS T.paths[k]) W (by omega)
        rw [bl_mkS, h1] at hrt
        replace hRr := Lib.hid hRr
        replace hRdr := Lib.hid hRdr
        replace hcs := Lib.hid hcs
        replace hrt := Lib.hid hrt
        replace h1 := Lib.hid h1
        replace h2 := Lib.hid h2
        replace h3 := Lib.hid h3
        replace h6 := Lib.hid h6
        replace h7 := Lib.hid h7
        replace h8 := Lib.hid h8
        replace h9 := Lib.hid h9
        replace hB := Lib.hid hB
        have hkeep : ∀ W, Below wr.heap.size wr W → Below w3.heap.size w3 W ∧ W.cell? ⟨g, o + k, none⟩ = some (.string (mkS T.paths[k])) ∧ ∀ k' (hk' : k' < T.paths.length), W.cell? ⟨g, o + k', none⟩ = some (.string (mkS T.paths[k'])) := by
          intro W hW
          have hb3 := below_step hB.out hW
          have hc3 : ∀ k' (hk' : k' < T.paths.length), W.cell? ⟨g, o + k', none⟩ = some (.string (mkS T.paths[k'])) := fun k' hk' => by
            rw [← hcs.out k' hk']
            exact hW.cell (p := ⟨g, o + k', none⟩) (cell_lt (hcs.out k' hk'))
          exact ⟨hb3, hc3 k hlt, hc3⟩
        have hgc := fun x : Gr wr => Gr.cell hck x
        replace hkeep := Lib.hid hkeep
        go_upto_region 10 with fail
        go_cut [53] (fun c W => c = .bool false ∧ Below w3.heap.size w3 W)
        case first =>
          by_cases hk0 : k = 0
          · have hz : decide (0 < k) = false := by simp; omega
            replace hk0 := Lib.hid hk0
            refine wp_region_grow (by kernel_rfl) (by kernel_rfl) ?_
            repeat (any_goals (first | go_big_quiet_step ((go_at_call 24; exact grow_of _ (hrt.out _))) | quiet_step ((go_at_call 24; exact grow_of _ (hrt.out _)))))
            refine wpQuiet_nil ?_
            rintro _ ⟨⟨w4, hB4⟩, rfl⟩
            have hB5 := (hkeep.out _ hB4).1
            replace hB5 := Lib.hid hB5
            clear hB4
            go_wp2_with fail
            go_meet
            exact ⟨rfl, hB5.out⟩
          · have hk1 : k - 1 < T.paths.length := by omega
            have hcm := hcs.out (k - 1) hk1
            have hrise : lessP (T.paths[k - 1]) T.paths[k] = true := by
              have := path_rise hI.out (k := k - 1) (by omega)
              have e : k - 1 + 1 = k := by omega
              simp only [e] at this
              exact this
            have hrl2 : (T.paths[k - 1]).length ≤ 200 := by
              have := (path_at hI.out (k := k - 1) (by omega)).1
              simp only [right, Bool.and_eq_true, decide_eq_true_eq] at this
              exact this.2
            have hsz2 := mkS_size (T.paths[k - 1])
            have hls := fun W => refless_calls (mkS (T.paths[k - 1])) (mkS T.paths[k]) W (by omega) (by omega)
            rw [bl_mkS, bl_mkS, hrise] at hls
            have hz : decide (0 < k) = true := by simp; omega
            have hz1 : IntKind.i64.wrap ((k : Int) - 1) = ((k - 1 : Nat) : Int) := by rw [IntWalk.i64_in _ (by omega)]; omega
            have hgm := fun x : Gr wr => Gr.cell hcm x
            obtain ⟨km, hkm⟩ : ∃ x, x = k - 1 := ⟨_, rfl⟩
            rw [← hkm] at hz1
            have hgm2 : ∀ x : Gr wr, x.1.cell? ⟨g, o + km, none⟩ = some (.string (mkS (T.paths[k - 1]))) := fun x => by rw [hkm]; exact hgm x
            have hkm1 : km < T.paths.length := by omega
            have hkm2 : (0 : Int) ≤ (km : Int) := by omega
            clear hgm hcm
            generalize T.paths[k - 1] = pm at *
            replace hls := Lib.hid hls
            replace hrise := Lib.hid hrise
            replace hkm := Lib.hid hkm
            refine wp_region_grow (by kernel_rfl) (by kernel_rfl) ?_
            repeat (any_goals (first | go_big_quiet_step ((first | (go_at_call 24; exact grow_of _ (hrt.out _)) | (go_at_call 23; exact grow_of _ (hls.out _)))) | quiet_step ((first | (go_at_call 24; exact grow_of _ (hrt.out _)) | (go_at_call 23; exact grow_of _ (hls.out _))))))
            refine wpQuiet_nil ?_
            rintro _ ⟨⟨w4, hB4⟩, rfl⟩
            have hB5 := (hkeep.out _ hB4).1
            replace hB5 := Lib.hid hB5
            clear hB4
            go_wp2_with fail
            go_meet
            exact ⟨rfl, hB5.out⟩
        case rest =>
          obtain ⟨rfl, hBc⟩ := hcut
          have hcells3 : ∀ W, Below w3.heap.size w3 W → ∀ k' (hk' : k' < T.paths.length), W.cell? ⟨g, o + k', none⟩ = some (.string (mkS T.paths[k'])) := fun W hW k' hk' => by
            obtain ⟨g', o', e', hc⟩ := (hRd3.out.below hW).cell hk'
            simp only [Option.some.injEq, Addr.mk.injEq, and_true] at e'
            obtain ⟨rfl, rfl⟩ := e'
            exact hc
          have hpar := fun W => refparent_calls (mkS T.paths[k]) W (by omega)
          rw [bl_mkS] at hpar
          have hpl : (parent T.paths[k]).length ≤ 200 := Nat.le_trans (parent_le _) hrl
          have hst1 := fun W (hW : Below w3.heap.size w3 W) => hstat.out tc C M W (mkS (parent T.paths[k])) (by rw [mkS_size]; omega) (hR3.out.below hW)
          have hst2 := fun W (hW : Below w3.heap.size w3 W) => hstat.out tc C M W (mkS T.paths[k]) (by omega) (hR3.out.below hW)
          rw [bl_mkS, h9.out] at hst1
          rw [bl_mkS, h6.out] at hst2
          unfold statV statCells Fs.tell at hst1 hst2
          dsimp only at hst1 hst2
          rw [h8.out] at hst1
          have hz5 : decide ((i : Int) < 2) = false := by simp; omega
          have hck2 := hcells3 wc hBc k hlt
          replace hcells3 := Lib.hid hcells3
          replace hpar := Lib.hid hpar
          replace hst1 := Lib.hid hst1
          replace hst2 := Lib.hid hst2
          replace hBc := Lib.hid hBc
          clear hgc hkeep hck hcs hrt hRr hRdr hB
          go_wp2_with fail
          (with_reducible refine (hpar.out _).mono ?_)
          rintro e w4 ⟨rfl, hB4⟩
          have hB34 := below_step hBc.out hB4
          replace hB34 := Lib.hid hB34
          clear hB4 hck2
          go_wp2_with fail
          (with_reducible refine (hst1.out _ hB34.out).mono ?_)
          rintro e w5 ⟨rfl, hB5⟩
          have hB35 := below_step hB34.out hB5
          have hB35a := below_alloc hB35 (.cells #[.int .i64 2, .int .i64 d, .int .i64 (T.size (split T.paths[k]).dropLast d), .int .i64 (T.nd d).links, .int .i64 (T.nd d).mt.mode, .int .i64 (T.nd d).mt.sec, .int .i64 (T.nd d).mt.nano, .int .i64 (T.nd d).mt.uid, .int .i64 (T.nd d).mt.gid, .string (mkS (T.nd d).target)] 38)
          have hblk5 := (MapKept.heap_alloc w5 (.cells #[.int .i64 2, .int .i64 d, .int .i64 (T.size (split T.paths[k]).dropLast d), .int .i64 (T.nd d).links, .int .i64 (T.nd d).mt.mode, .int .i64 (T.nd d).mt.sec, .int .i64 (T.nd d).mt.nano, .int .i64 (T.nd d).mt.uid, .int .i64 (T.nd d).mt.gid, .string (mkS (T.nd d).target)] 38)).1
          have hck3 := hcells3.out _ hB35a k hlt
          have hst2a := hst2.out _ hB35a
          replace hB35 := Lib.hid hB35
          replace hB35a := Lib.hid hB35a
          replace hblk5 := Lib.hid hblk5
          replace hst2a := Lib.hid hst2a
          clear hB5
          go_wp2_with fail
          (with_reducible refine hst2a.out.mono ?_)
          rintro e w6 ⟨rfl, hB6⟩
          have hB36 := below_step hB35a.out hB6
          have hlt5 : w5.heap.size < w6.heap.size := by have := hB6.size; simp at this; omega
          have hblk6 := (hB6.block w5.heap.size (by simp)).trans hblk5.out
          have u0 := cell_of (j := 0) hblk6 (v := .int .i64 2) rfl
          obtain ⟨W6, hW6⟩ : ∃ x, x = w6.alloc (.cells #[.int .i64 (T.nd i).kind, .int .i64 i, .int .i64 (T.size (split T.paths[k]) i), .int .i64 (T.nd i).links, .int .i64 (T.nd i).mt.mode, .int .i64 (T.nd i).mt.sec, .int .i64 (T.nd i).mt.nano, .int .i64 (T.nd i).mt.uid, .int .i64 (T.nd i).mt.gid, .string (mkS (T.nd i).target)] 38) := ⟨_, rfl⟩
          have hblkS := (MapKept.heap_alloc w6 (.cells #[.int .i64 (T.nd i).kind, .int .i64 i, .int .i64 (T.size (split T.paths[k]) i), .int .i64 (T.nd i).links, .int .i64 (T.nd i).mt.mode, .int .i64 (T.nd i).mt.sec, .int .i64 (T.nd i).mt.nano, .int .i64 (T.nd i).mt.uid, .int .i64 (T.nd i).mt.gid, .string (mkS (T.nd i).target)] 38)).1
          have hB36a := below_alloc hB36 (.cells #[.int .i64 (T.nd i).kind, .int .i64 i, .int .i64 (T.size (split T.paths[k]) i), .int .i64 (T.nd i).links, .int .i64 (T.nd i).mt.mode, .int .i64 (T.nd i).mt.sec, .int .i64 (T.nd i).mt.nano, .int .i64 (T.nd i).mt.uid, .int .i64 (T.nd i).mt.gid, .string (mkS (T.nd i).target)] 38)
          rw [← hW6] at hblkS hB36a
          replace hB36 := Lib.hid hB36
          replace hB36a := Lib.hid hB36a
          replace hblk6 := Lib.hid hblk6
          replace hblkS := Lib.hid hblkS
          replace hW6 := Lib.hid hW6
          clear hB6 hst2a hck3
          go_wp2_with fail
          have hltS := (Array.getElem?_eq_some_iff.1 hblkS.out).1
          go_loopw [10, 11, 12] (fun a b c wx => ∃ j : Nat, a = .int .i64 (inCnt T.paths T.paths[k] j) ∧ b = .int .i64 (linkCnt T i j) ∧ c = .int .i64 j ∧ j ≤ T.paths.length ∧ Below W6.heap.size W6 wx) (fun _ _ c _ => T.paths.length - (intOf c).toNat)
          case atStart => exact ⟨0, rfl, rfl, rfl, Nat.zero_le _, by rw [hW6.out]; exact Below.refl _ _⟩
          case round =>
            rename_i wx
            obtain ⟨j, rfl, rfl, rfl, hj, hBj⟩ := hrel
            have hi1 := inCnt_le T.paths T.paths[k] j
            have hi2 := linkCnt_le T i j
            by_cases hjl : j < T.paths.length
            · have hin := in_snoc T.paths T.paths[k] hjl
              have hlk := link_snoc T i hjl
              have hB3j := below_step hB36a.out hBj
              have hgj := fun x : Gr _ => Gr.cell (hcells3.out _ hB3j j hjl) x
              have hgk := fun x : Gr _ => Gr.cell (hcells3.out _ hB3j k hlt) x
              have hszj := mkS_size T.paths[j]
              have hrj : T.paths[j].length ≤ 200 := by
                have := (path_at hI.out hjl).1
                simp only [right, Bool.and_eq_true, decide_eq_true_eq] at this
                exact this.2
              have hparj := fun W => refparent_calls (mkS T.paths[j]) W (by omega)
              rw [bl_mkS] at hparj
              replace hparj := Lib.hid hparj
              replace hB3j := Lib.hid hB3j
              replace hBj := Lib.hid hBj
              generalize inCnt T.paths T.paths[k] j = ic at *
              generalize linkCnt T i j = lc at *
              by_cases hpp : parent T.paths[j] = T.paths[k]
              · rw [if_pos hpp] at hin
                have hp1 : (mkS (parent T.paths[j])).toList = (mkS T.paths[k]).toList := by rw [hpp]
                have hp2 : ((mkS (parent T.paths[j])).toList == (mkS T.paths[k]).toList) = true := by simp [hp1]
                replace hpp := Lib.hid hpp
                replace hin := Lib.hid hin
                go_wp2_with fail
                refine wp_region_grow (by kernel_rfl) (by kernel_rfl) ?_
                repeat (any_goals (first | go_big_quiet_step ((go_at_call 25; exact grow_of _ (hparj.out _))) | quiet_step ((go_at_call 25; exact grow_of _ (hparj.out _)))))
                refine wpQuiet_nil ?_
                rintro w7 ⟨⟨_, hB7⟩, rfl⟩
                have hB67 := below_step hBj.out hB7
                have hB37 := below_step hB36a.out hB67
                have hcj := hcells3.out w7 hB37 j hjl
                have hstj := hstat.out tc C M w7 (mkS T.paths[j]) (by omega) (hR3.out.below hB37)
                rw [bl_mkS] at hstj
                generalize T.stat T.paths[j] = stj at *
                obtain ⟨⟨x1, x2, x3, x4, ⟨x5, x6, x7, x8, x9⟩, x10⟩, xe⟩ := stj
                unfold statV statCells at hstj
                dsimp only at hstj hlk
                replace hstj := Lib.hid hstj
                replace hB67 := Lib.hid hB67
                replace hB37 := Lib.hid hB37
                clear hgj hgk
                go_wp2_with fail
                (with_reducible refine hstj.out.mono ?_)
                rintro e w8 ⟨rfl, hB8⟩
                have hB68 := below_step hB67.out hB8
                have hsino := cell_of (j := 1) (((below_alloc hB68 (.cells #[.int .i64 x1, .int .i64 x2, .int .i64 x3, .int .i64 x4, .int .i64 x5, .int .i64 x6, .int .i64 x7, .int .i64 x8, .int .i64 x9, .string (mkS x10)] 38)).block _ hltS).trans hblkS.out) (v := .int .i64 i) rfl
                have hB68a := below_alloc hB68 (.cells #[.int .i64 x1, .int .i64 x2, .int .i64 x3, .int .i64 x4, .int .i64 x5, .int .i64 x6, .int .i64 x7, .int .i64 x8, .int .i64 x9, .string (mkS x10)] 38)
                replace hB68 := Lib.hid hB68
                replace hB68a := Lib.hid hB68a
                clear hB8 hcj hB7
                by_cases hli : x2 = (i : Int)
                · have hl1 : (x2 == (i : Int)) = true := by simpa using hli
                  rw [if_pos hli] at hlk
                  replace hli := Lib.hid hli
                  replace hlk := Lib.hid hlk
                  go_wp2
                  go_roundw
                  case rel => exact ⟨j + 1, by rw [hin.out]; go_num, by rw [hlk.out]; go_num, by go_num, by omega, hB68a.out⟩
                  case measure => simp [intOf]; omega
                · have hl1 : (x2 == (i : Int)) = false := by simpa using hli
                  rw [if_neg hli] at hlk
                  replace hli := Lib.hid hli
                  replace hlk := Lib.hid hlk
                  go_wp2
                  go_roundw
                  case rel => exact ⟨j + 1, by rw [hin.out]; go_num, by rw [hlk.out]; go_num, by go_num, by omega, hB68a.out⟩
                  case measure => simp [intOf]; omega
              · rw [if_neg hpp] at hin
                have hp1 : ¬ (mkS (parent T.paths[j])).toList = (mkS T.paths[k]).toList := by rw [mkS_toList, mkS_toList]; exact hpp
                have hp2 : ((mkS (parent T.paths[j])).toList == (mkS T.paths[k]).toList) = false := by simpa using hp1
                replace hpp := Lib.hid hpp
                replace hin := Lib.hid hin
                go_wp2_with fail
                refine wp_region_grow (by kernel_rfl) (by kernel_rfl) ?_
                repeat (any_goals (first | go_big_quiet_step ((go_at_call 25; exact grow_of _ (hparj.out _))) | quiet_step ((go_at_call 25; exact grow_of _ (hparj.out _)))))
                refine wpQuiet_nil ?_
                rintro w7 ⟨⟨_, hB7⟩, rfl⟩
                have hB67 := below_step hBj.out hB7
                have hB37 := below_step hB36a.out hB67
                have hcj := hcells3.out w7 hB37 j hjl
                have hstj := hstat.out tc C M w7 (mkS T.paths[j]) (by omega) (hR3.out.below hB37)
                rw [bl_mkS] at hstj
                generalize T.stat T.paths[j] = stj at *
                obtain ⟨⟨x1, x2, x3, x4, ⟨x5, x6, x7, x8, x9⟩, x10⟩, xe⟩ := stj
                unfold statV statCells at hstj
                dsimp only at hstj hlk
                replace hstj := Lib.hid hstj
                replace hB67 := Lib.hid hB67
                replace hB37 := Lib.hid hB37
                clear hgj hgk
                go_wp2_with fail
                (with_reducible refine hstj.out.mono ?_)
                rintro e w8 ⟨rfl, hB8⟩
                have hB68 := below_step hB67.out hB8
                have hsino := cell_of (j := 1) (((below_alloc hB68 (.cells #[.int .i64 x1, .int .i64 x2, .int .i64 x3, .int .i64 x4, .int .i64 x5, .int .i64 x6, .int .i64 x7, .int .i64 x8, .int .i64 x9, .string (mkS x10)] 38)).block _ hltS).trans hblkS.out) (v := .int .i64 i) rfl
                have hB68a := below_alloc hB68 (.cells #[.int .i64 x1, .int .i64 x2, .int .i64 x3, .int .i64 x4, .int .i64 x5, .int .i64 x6, .int .i64 x7, .int .i64 x8, .int .i64 x9, .string (mkS x10)] 38)
                replace hB68 := Lib.hid hB68
                replace hB68a := Lib.hid hB68a
                clear hB8 hcj hB7
                by_cases hli : x2 = (i : Int)
                · have hl1 : (x2 == (i : Int)) = true := by simpa using hli
                  rw [if_pos hli] at hlk
                  replace hli := Lib.hid hli
                  replace hlk := Lib.hid hlk
                  go_wp2
                  go_roundw
                  case rel => exact ⟨j + 1, by rw [hin.out]; go_num, by rw [hlk.out]; go_num, by go_num, by omega, hB68a.out⟩
                  case measure => simp [intOf]; omega
                · have hl1 : (x2 == (i : Int)) = false := by simpa using hli
                  rw [if_neg hli] at hlk
                  replace hli := Lib.hid hli
                  replace hlk := Lib.hid hlk
                  go_wp2
                  go_roundw
                  case rel => exact ⟨j + 1, by rw [hin.out]; go_num, by rw [hlk.out]; go_num, by go_num, by omega, hB68a.out⟩
                  case measure => simp [intOf]; omega
            · obtain rfl : j = T.paths.length := by omega
              have hB3e := below_step hB36a.out hBj
              have hbs := (hBj.block _ hltS).trans hblkS.out
              have e0 := cell_of (j := 0) hbs (v := .int .i64 (T.nd i).kind) rfl
              have e2 := cell_of (j := 2) hbs (v := .int .i64 (T.size (split T.paths[k]) i)) rfl
              have e3 := cell_of (j := 3) hbs (v := .int .i64 (T.nd i).links) rfl
              have hck9 := hcells3.out _ hB3e k hlt
              have hnm9 := hnm.out tc C M _ (mkS T.paths[k]) (by omega) (hR3.out.below hB3e)
              rw [bl_mkS] at hnm9
              obtain ⟨hH1, hH2, hH3, hH4, hH5⟩ := holds_at hI.out h1.out h2.out h3.out h4
              rw [hH3] at e3
              generalize inCnt T.paths T.paths[k] T.paths.length = ic at *
              generalize linkCnt T i T.paths.length = lc at *
              replace hnm9 := Lib.hid hnm9
              replace hB3e := Lib.hid hB3e
              replace hBj := Lib.hid hBj
              replace hbs := Lib.hid hbs
              replace hH4 := Lib.hid hH4
              replace hH3 := Lib.hid hH3
              rcases hI.out.kinds _ _ h3.out with hkd | hkd | hkd
              · have hz0 := hH2 (by rw [hkd]; decide)
                have hz1 : decide (0 < ic) = false := by simp [hz0]
                rw [hkd] at e0
                replace hz0 := Lib.hid hz0
                replace hkd := Lib.hid hkd
                go_wp2_with fail
                (with_reducible refine hnm9.out.mono ?_)
                rintro e w9 ⟨⟨vn, rfl, hOn⟩, hB9⟩
                obtain ⟨nA, nc, rfl, _, _⟩ := own_shape hOn
                have e09 := (hB9.cell (cell_lt e0)).trans e0
                have hBw9 := below_step hB3e.out hB9
                rw [hH4.out]
                replace hBw9 := Lib.hid hBw9
                clear hOn hB9
                go_wp2
                go_roundw
                case rel => exact ⟨k + 1, by go_num, by omega, hBw9.out⟩
                case measure => simp [intOf]; omega
              · have hs2 := hH1 hkd
                rw [hs2] at e2
                have ho0 := hH5 (by rw [hkd]; decide)
                have ho1 : (lc != 1) = false := by simp [ho0]
                have ho2 : ((lc : Int) != 1) = false := by simp [ho0]
                rw [hkd] at e0
                replace hs2 := Lib.hid hs2
                replace ho0 := Lib.hid ho0
                replace hkd := Lib.hid hkd
                go_wp2_with fail
                (with_reducible refine hnm9.out.mono ?_)
                rintro e w9 ⟨⟨vn, rfl, hOn⟩, hB9⟩
                obtain ⟨nA, nc, rfl, _, _⟩ := own_shape hOn
                have e09 := (hB9.cell (cell_lt e0)).trans e0
                have hBw9 := below_step hB3e.out hB9
                rw [hH4.out]
                replace hBw9 := Lib.hid hBw9
                clear hOn hB9
                go_wp2
                go_roundw
                case rel => exact ⟨k + 1, by go_num, by omega, hBw9.out⟩
                case measure => simp [intOf]; omega
              · have hz0 := hH2 (by rw [hkd]; decide)
                have hz1 : decide (0 < ic) = false := by simp [hz0]
                have ho0 := hH5 (by rw [hkd]; decide)
                have ho1 : (lc != 1) = false := by simp [ho0]
                have ho2 : ((lc : Int) != 1) = false := by simp [ho0]
                rw [hkd] at e0
                replace hz0 := Lib.hid hz0
                replace ho0 := Lib.hid ho0
                replace hkd := Lib.hid hkd
                go_wp2_with fail
                (with_reducible refine hnm9.out.mono ?_)
                rintro e w9 ⟨⟨vn, rfl, hOn⟩, hB9⟩
                obtain ⟨nA, nc, rfl, _, _⟩ := own_shape hOn
                have e09 := (hB9.cell (cell_lt e0)).trans e0
                have hBw9 := below_step hB3e.out hB9
                rw [hH4.out]
                replace hBw9 := Lib.hid hBw9
                clear hOn hB9
                go_wp2
                go_roundw
                case rel => exact ⟨k + 1, by go_num, by omega, hBw9.out⟩
                case measure => simp [intOf]; omega
      · obtain rfl : k = T.paths.length := by omega
        have hRr := hR3.out.below hB
        have hct2 := hct.out tc C M wr hRr
        have hBw := below_step hBw3.out hB
        rw [← hPc.out] at hct2
        replace hct2 := Lib.hid hct2
        replace hRr := Lib.hid hRr
        replace hBw := Lib.hid hBw
        replace hB := Lib.hid hB
        go_wp2_with fail
        (with_reducible refine hct2.out.mono ?_)
        rintro e w4 ⟨rfl, hB4⟩
        go_wp2_with fail
        refine (haw.out _).mono ?_
        rintro e w5 ⟨rfl, hB5⟩
        go_wp2
        go_ret
        exact ⟨rfl, below_step (below_step hBw.out hB4) hB5⟩
  · rw [small_not hs1] at hsm
    replace hs1 := Lib.hid hs1
    replace hsm := Lib.hid hsm
    replace hv := Lib.hid hv
    go_enter Try.func5, Try.ntmps5
    go_wp2_with fail
    refine hsm.out.mono ?_
    rintro e w1 ⟨rfl, rfl⟩
    go_wp2_with fail
    refine (haw.out _).mono ?_
    rintro e w1 ⟨rfl, hB1⟩
    go_wp2
    go_ret
    exact ⟨rfl, hB1⟩

end Go.Proofs.Ytemdinjiplglgaa
