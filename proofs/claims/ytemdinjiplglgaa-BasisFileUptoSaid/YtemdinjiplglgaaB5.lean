/-
  basis.Choose: what a file is made of, in the program.
  An array of 2 strings as an argument.
  An array of 3 strings as an argument.
-/
import Derived.Test.YtemdinjiplglgaaB4
import Derived.Test.YtemdinjiplglgaaB2
import Derived.Test.YtemdinjiplglgaaB1
import Derived.OpenShut
set_option linter.unusedVariables false
set_option linter.unusedSimpArgs false

namespace Go.Proofs.Ytemdinjiplglgaa
open Go.RowKit

set_option maxHeartbeats 1000000 in
set_option maxRecDepth 100000 in
theorem bfile_calls (tb : Nat) (A M : Nat → Nat) (T : Fs) (s : ByteArray) (w : World) (hR : Rep w tb A M T) (hs : s.size ≤ 16777216) :
    Calls Try.prog 49 #[ptr tb, .string s] w fun e w' => e = .returned (.bool (T.isFile (bl s))) ∧ Below w.heap.size w w' := by
  have h1 := stat_calls tb A M T s w hR hs
  unfold Fs.isFile
  generalize T.stat (bl s) = st at *
  obtain ⟨⟨a1, a2, a3, a4, ⟨a5, a6, a7, a8, a9⟩, a10⟩, ea⟩ := st
  unfold statV statCells ptr at *
  dsimp only at *
  replace h1 := Lib.hid h1
  replace hR := Lib.hid hR
  go_enter Try.func49, Try.ntmps49
  go_wp2_with fail
  (with_reducible refine (h1.out).mono ?_)
  rintro e w1 ⟨rfl, hB⟩
  replace hB := Lib.hid hB
  by_cases e0 : ea = 0
  · subst e0
    go_wp2
    go_ret
    exact ⟨ret_bool (by rw [Bool.eq_iff_iff]; simp), below_alloc hB.out _⟩
  · have e1 : (ea == 0) = false := by simpa using e0
    replace e0 := Lib.hid e0
    go_wp2
    go_ret
    exact ⟨ret_bool (by simp [e0.out]), below_alloc hB.out _⟩

theorem bl_str (s t : ByteArray) : bl (s ++ ⟨#[47]⟩ ++ t) = bl s ++ 47 :: bl t := by
  rw [bl_append, bl_append]
  simp [bl]

set_option maxHeartbeats 4000000 in
set_option maxRecDepth 100000 in
theorem choose_calls (tb : Nat) (A M : Nat → Nat) (T : Fs) (p q : ByteArray) (fz : Bool) (w : World) (hR : Rep w tb A M T) (hp : p.size ≤ 2000000) (hq : q.size ≤ 2000000) (hf : T.names.length ≤ 1000000) :
    Calls Try.prog 19 #[ptr tb, .string p, .string q, .bool fz] w fun e w' => e = .returned (.tuple #[.string (mkS (T.choose (bl p) (bl q) fz).1), .bool (T.choose (bl p) (bl q) fz).2]) ∧ Below w.heap.size w w' := by
  have hI := hR.inv
  have h1 := fun W => right_calls p W (by omega)
  have h2 := fun W hW => bfile_calls tb A M T p W hW (by omega)
  have h3 := fun W hW => bfile_calls tb A M T q W hW (by omega)
  have h4 := fun W => parent_calls p W (by unfold maxLen; omega)
  have hpl := parent_le (bl p)
  rw [bl_length] at hpl
  have h5 := fun W hW => list_calls tb A M T (mkS (parent (bl p))) W hW (by rw [mkS_size]; exact Nat.le_trans hpl (by omega)) hf
  rw [bl_mkS] at h5
  have h6 := fun W => base_calls p W (by unfold maxLen; omega)
  have h7 : ∀ W x, Calls Try.prog 34 #[.string (mkS x), .string (mkS (base (bl p)))] W fun e w' => e = .returned (.int .i64 (scoreB x (base (bl p)))) ∧ Below W.heap.size W w' := fun W x => score_calls (mkS x) (mkS (base (bl p))) W
  have h8 := fun W s hs hW => bfile_calls tb A M T s W hW hs
  replace hpl : (parent (bl p)).length ≤ 2000000 := Nat.le_trans hpl hp
  have hnm := fun x hx => @list_names T hI (parent (bl p)) x hx
  have hbt := fun k (h : k < (T.list (parent (bl p))).1.length) => best_take T (bl p) h
  have hbl : ∀ x, (47 : UInt8) ∉ x → (parent (bl p) = [] → beside (bl p) x = x) ∧ (parent (bl p) ≠ [] → beside (bl p) x = parent (bl p) ++ 47 :: x) := fun x _ => ⟨fun h => by unfold beside; rw [if_pos h], fun h => by unfold beside; rw [if_neg h]⟩
  unfold Fs.choose
  by_cases hr : right (bl p) = true
  · rw [hr] at h1
    rw [if_neg (by simp [hr])]
    by_cases hfi : T.isFile (bl p) = true
    · rw [if_pos hfi]
      rw [hfi] at h2
      unfold ptr at *
      replace h1 := Lib.hid h1
      replace h2 := Lib.hid h2
      replace hR := Lib.hid hR
      clear h3 h4 h5 h6 h7 h8 hr hfi hpl hnm hbt hbl
      go_enter Try.func19, Try.ntmps19
      go_wp2_with fail
      (with_reducible refine (h1.out _).mono ?_)
      rintro e w1 ⟨rfl, hB1⟩
      have h2' := h2.out w1 (hR.out.below hB1)
      replace hB1 := Lib.hid hB1
      replace h2' := Lib.hid h2'
      go_wp2_with fail
      (with_reducible refine (h2'.out).mono ?_)
      rintro e w2 ⟨rfl, hB2⟩
      replace hB2 := Lib.hid hB2
      go_wp2
      go_ret2
      exact ⟨by rw [mkS_bl]; rfl, below_step hB1.out hB2.out⟩
    · rw [if_neg hfi]
      replace hfi : T.isFile (bl p) = false := by simpa using hfi
      rw [hfi] at h2
      by_cases hq2 : bl q ≠ [] ∧ T.isFile (bl q) = true
      · rw [if_pos hq2]
        rw [hq2.2] at h3
        have hqe : q.toList.isEmpty = false := by rw [str_nil]; simpa using hq2.1
        unfold ptr at *
        replace h1 := Lib.hid h1
        replace h2 := Lib.hid h2
        replace h3 := Lib.hid h3
        replace hR := Lib.hid hR
        replace hq2 := Lib.hid hq2
        clear h4 h5 h6 h7 h8 hr hfi hpl hnm hbt hbl
        go_enter Try.func19, Try.ntmps19
        go_wp2_with fail
        (with_reducible refine (h1.out _).mono ?_)
        rintro e w1 ⟨rfl, hB1⟩
        have h2' := h2.out w1 (hR.out.below hB1)
        replace hB1 := Lib.hid hB1
        replace h2' := Lib.hid h2'
        go_wp2_with fail
        (with_reducible refine (h2'.out).mono ?_)
        rintro e w2 ⟨rfl, hB2⟩
        have hB02 := below_step hB1.out hB2
        have h3' := h3.out w2 (hR.out.below hB02)
        replace hB02 := Lib.hid hB02
        replace h3' := Lib.hid h3'
        clear hB1 hB2 h2' h1 h2
        go_wp2_with fail
        (with_reducible refine (h3'.out).mono ?_)
        rintro e w3 ⟨rfl, hB3⟩
        replace hB3 := Lib.hid hB3
        go_wp2
        go_ret2
        exact ⟨by rw [mkS_bl]; rfl, below_step hB02.out hB3.out⟩
      · rw [if_neg hq2]
        by_cases hfz : fz = false
        · subst hfz
          rw [if_pos rfl]
          by_cases hq0 : bl q = []
          · have hqe : q.toList.isEmpty = true := by rw [str_nil]; simpa using hq0
            unfold ptr at *
            replace h1 := Lib.hid h1
            replace h2 := Lib.hid h2
            replace h3 := Lib.hid h3
            replace hR := Lib.hid hR
            replace hq2 := Lib.hid hq2
            replace hq0 := Lib.hid hq0
            clear h4 h5 h6 h7 h8 hr hfi hpl hnm hbt hbl
            go_enter Try.func19, Try.ntmps19
            go_wp2_with fail
            (with_reducible refine (h1.out _).mono ?_)
            rintro e w1 ⟨rfl, hB1⟩
            have h2' := h2.out w1 (hR.out.below hB1)
            replace hB1 := Lib.hid hB1
            replace h2' := Lib.hid h2'
            go_wp2_with fail
            (with_reducible refine (h2'.out).mono ?_)
            rintro e w2 ⟨rfl, hB2⟩
            have hB02 := below_step hB1.out hB2
            have h3' := h3.out w2 (hR.out.below hB02)
            replace hB02 := Lib.hid hB02
            replace h3' := Lib.hid h3'
            clear hB1 hB2 h2' h1 h2
            go_wp2
            go_ret2
            exact ⟨rfl, hB02.out⟩
          · have hqe : q.toList.isEmpty = false := by rw [str_nil]; simpa using hq0
            have hqf : T.isFile (bl q) = false := by
              cases hc : T.isFile (bl q) with
              | true => exact absurd ⟨hq0, hc⟩ hq2
              | false => rfl
            rw [hqf] at h3
            unfold ptr at *
            replace h1 := Lib.hid h1
            replace h2 := Lib.hid h2
            replace h3 := Lib.hid h3
            replace hR := Lib.hid hR
            replace hq2 := Lib.hid hq2
            replace hq0 := Lib.hid hq0
            replace hqf := Lib.hid hqf
            clear h4 h5 h6 h7 h8 hr hfi hpl hnm hbt hbl
            go_enter Try.func19, Try.ntmps19
            go_wp2_with fail
            (with_reducible refine (h1.out _).mono ?_)
            rintro e w1 ⟨rfl, hB1⟩
            have h2' := h2.out w1 (hR.out.below hB1)
            replace hB1 := Lib.hid hB1
            replace h2' := Lib.hid h2'
            go_wp2_with fail
            (with_reducible refine (h2'.out).mono ?_)
            rintro e w2 ⟨rfl, hB2⟩
            have hB02 := below_step hB1.out hB2
            have h3' := h3.out w2 (hR.out.below hB02)
            replace hB02 := Lib.hid hB02
            replace h3' := Lib.hid h3'
            clear hB1 hB2 h2' h1 h2
            go_wp2_with fail
            (with_reducible refine (h3'.out).mono ?_)
            rintro e w3 ⟨rfl, hB3⟩
            replace hB3 := Lib.hid hB3
            go_wp2
            go_ret2
            exact ⟨rfl, below_step hB02.out hB3.out⟩
        · replace hfz : fz = true := by simpa using hfz
          subst hfz
          rw [if_neg (by simp)]
          generalize hL : T.list (parent (bl p)) = L at *
          obtain ⟨L, el⟩ := L
          dsimp only at hnm hbt h5 ⊢
          by_cases hq0 : bl q = []
          · have hqe : q.toList.isEmpty = true := by rw [str_nil]; simpa using hq0
            unfold ptr at *
            replace h1 := Lib.hid h1
            replace h2 := Lib.hid h2
            replace h3 := Lib.hid h3
            replace h4 := Lib.hid h4
            replace h5 := Lib.hid h5
            replace h6 := Lib.hid h6
            replace h7 := Lib.hid h7
            replace h8 := Lib.hid h8
            replace hR := Lib.hid hR
            replace hq2 := Lib.hid hq2
            replace hq0 := Lib.hid hq0
            replace hnm := Lib.hid hnm
            replace hbt := Lib.hid hbt
            replace hbl := Lib.hid hbl
            replace hI := Lib.hid hI
            replace hL := Lib.hid hL
            clear hr hfi
            go_enter Try.func19, Try.ntmps19
            go_wp2_with fail
            (with_reducible refine (h1.out _).mono ?_)
            rintro e w1 ⟨rfl, hB1⟩
            have h2' := h2.out w1 (hR.out.below hB1)
            replace hB1 := Lib.hid hB1
            replace h2' := Lib.hid h2'
            go_wp2_with fail
            (with_reducible refine (h2'.out).mono ?_)
            rintro e w2 ⟨rfl, hB2⟩
            have hB02 := below_step hB1.out hB2
            have h3' := h3.out w2 (hR.out.below hB02)
            replace hB02 := Lib.hid hB02
            replace h3' := Lib.hid h3'
            clear hB1 hB2 h2' h1 h2
            go_wp2_with fail
            (with_reducible refine (h4.out _).mono ?_)
            rintro e wx ⟨rfl, rfl⟩
            have h5' := h5.out w2 (hR.out.below hB02.out)
            replace h5' := Lib.hid h5'
            go_wp2_with fail
            (with_reducible refine (h5'.out).mono ?_)
            rintro e w4 ⟨⟨v, rfl, hS⟩, hB4⟩
            have hRd := hS.rd
            obtain ⟨vA, vc, rfl, hv1, hv2⟩ := hRd.shape
            unfold maxLen at hv2
            have hB04 := below_step hB02.out hB4
            replace hRd := Lib.hid hRd
            replace hB04 := Lib.hid hB04
            replace hS := Lib.hid hS
            clear hB4 h5'
            go_wp2_with fail
            go_loopw [10, 11, 53] (fun b s i wr => ∃ k : Nat, i = .int .i64 k ∧ k ≤ L.length ∧ b = .string (mkS (T.best (bl p) (L.take k)).1) ∧ s = .int .i64 (T.best (bl p) (L.take k)).2 ∧ Below w4.heap.size w4 wr) (fun _ _ i _ => L.length - (intOf i).toNat)
            case atStart => exact ⟨0, rfl, Nat.zero_le _, rfl, rfl, Below.refl _ _⟩
            case round =>
              obtain ⟨k, rfl, hk, rfl, rfl, hB⟩ := hrel
              by_cases hlt : k < L.length
              · obtain ⟨g, o, rfl, hck⟩ := (hRd.out.below hB).cell hlt
                have hb1 := hbt.out k hlt
                obtain ⟨_, ii, hmm⟩ := hnm.out L[k] (List.getElem_mem hlt)
                have h47 := kid_part hI.out hmm
                obtain ⟨hpth, hxlen⟩ : (47 : UInt8) ∉ L[k] ∧ (L[k]).length ≤ 1000 := by
                  refine ⟨h47, ?_⟩
                  obtain ⟨s, hs1, hs2⟩ := hI.out.pth _ _ hmm
                  have := right_part hs1 L[k] (by rw [hs2]; simp)
                  simp only [partOk, Bool.and_eq_true, decide_eq_true_eq] at this
                  omega
                obtain ⟨hbn, hbp⟩ := hbl.out L[k] hpth
                generalize L[k] = x at *
                have hRr := hR.out.below (below_step hB04.out hB)
                generalize T.best (bl p) (L.take k) = bb at *
                obtain ⟨b1, b2⟩ := bb
                have hsc := fun W => h7.out W x
                have hfl := fun W s hs (hW : Below wr.heap.size wr W) => h8.out W s hs (hRr.below hW)
                rw [better_is] at hb1
                generalize scoreB x (base (bl p)) = sc at *
                replace hb1 := Lib.hid hb1
                replace hbn := Lib.hid hbn
                replace hbp := Lib.hid hbp
                replace hRr := Lib.hid hRr
                replace hB := Lib.hid hB
                replace hsc := Lib.hid hsc
                replace hfl := Lib.hid hfl
                replace hmm := Lib.hid hmm
                replace hpth := Lib.hid hpth
                replace h47 := Lib.hid h47
                have hpm : (mkS x).size = x.length := mkS_size x
                have hum : (mkS (parent (bl p))).size = (parent (bl p)).length := mkS_size _
                have hbs : (beside (bl p) x).length ≤ 4000000 := by
                  unfold beside
                  split
                  · omega
                  · simp
                    omega
                have hfl' := fun W hW => hfl.out W (mkS (beside (bl p) x)) (by rw [mkS_size]; omega) hW
                rw [bl_mkS] at hfl'
                by_cases hpe : parent (bl p) = []
                · have hq3 := hbn.out hpe
                  have hue : (mkS (parent (bl p))).toList.isEmpty = true := by rw [str_nil, bl_mkS]; simpa using hpe
                  have hqs : mkS (beside (bl p) x) = mkS x := by rw [hq3]
                  rw [hqs] at hfl'
                  replace hb1 := hb1.out
                  replace hq3 := Lib.hid hq3
                  replace hfl' := Lib.hid hfl'
                  replace hqs := Lib.hid hqs
                  replace hpe := Lib.hid hpe
                  go_wp2_with fail
                  (with_reducible refine (h4.out _).mono ?_)
                  rintro e wx ⟨rfl, rfl⟩
                  go_wp2_with fail
                  (with_reducible refine (h6.out _).mono ?_)
                  rintro e wx ⟨rfl, rfl⟩
                  go_wp2_with fail
                  (with_reducible refine (hsc.out _).mono ?_)
                  rintro e w5 ⟨rfl, hB5⟩
                  have hfl5 := hfl'.out w5 hB5
                  have hB05 := below_step hB.out hB5
                  replace hB5 := Lib.hid hB5
                  replace hfl5 := Lib.hid hfl5
                  replace hB05 := Lib.hid hB05
                  by_cases hgt : b2 < sc
                  · cases hif : T.isFile (beside (bl p) x) with
                    | true =>
                      rw [hif] at hfl5
                      rw [hif, if_pos ⟨hgt, rfl⟩] at hb1
                      replace hif := Lib.hid hif
                      replace hb1 := Lib.hid hb1
                      replace hfl5 := Lib.hid hfl5
                      go_wp2_with fail
                      (with_reducible refine (hfl5.out.out).mono ?_)
                      rintro e w6 ⟨rfl, hB6⟩
                      replace hB6 := Lib.hid hB6
                      go_wp2
                      go_roundw
                      case rel => exact ⟨k + 1, by go_num, by omega, by rw [hb1.out]; exact congrArg Value.string hqs.out.symm, by rw [hb1.out], below_step hB05.out hB6.out⟩
                      case measure => simp [intOf]; omega
                    | false =>
                      rw [hif] at hfl5
                      rw [hif, if_neg (by simp)] at hb1
                      replace hif := Lib.hid hif
                      replace hb1 := Lib.hid hb1
                      replace hfl5 := Lib.hid hfl5
                      go_wp2_with fail
                      (with_reducible refine (hfl5.out.out).mono ?_)
                      rintro e w6 ⟨rfl, hB6⟩
                      replace hB6 := Lib.hid hB6
                      go_wp2
                      go_roundw
                      case rel => exact ⟨k + 1, by go_num, by omega, by rw [hb1.out], by rw [hb1.out], below_step hB05.out hB6.out⟩
                      case measure => simp [intOf]; omega
                  · have hng : decide (b2 < sc) = false := by simpa using hgt
                    rw [if_neg (fun h => hgt h.1)] at hb1
                    replace hb1 := Lib.hid hb1
                    replace hgt := Lib.hid hgt
                    go_wp2
                    go_roundw
                    case rel => exact ⟨k + 1, by go_num, by omega, by rw [hb1.out], by rw [hb1.out], hB05.out⟩
                    case measure => simp [intOf]; omega
                · have hq3 := hbp.out hpe
                  have hue : (mkS (parent (bl p))).toList.isEmpty = false := by rw [str_nil, bl_mkS]; simpa using hpe
                  have hqs : mkS (beside (bl p) x) = mkS (parent (bl p)) ++ ⟨#[47]⟩ ++ mkS x := bl_inj (by rw [bl_mkS, bl_str, bl_mkS, bl_mkS, hq3])
                  rw [hqs] at hfl'
                  replace hb1 := hb1.out
                  replace hq3 := Lib.hid hq3
                  replace hfl' := Lib.hid hfl'
                  replace hpe := Lib.hid hpe
                  replace hqs := Lib.hid hqs
                  go_wp2_with fail
                  (with_reducible refine (h4.out _).mono ?_)
                  rintro e wx ⟨rfl, rfl⟩
                  go_wp2_with fail
                  (with_reducible refine (h6.out _).mono ?_)
                  rintro e wx ⟨rfl, rfl⟩
                  go_wp2_with fail
                  (with_reducible refine (hsc.out _).mono ?_)
                  rintro e w5 ⟨rfl, hB5⟩
                  have hfl5 := hfl'.out w5 hB5
                  have hB05 := below_step hB.out hB5
                  replace hB5 := Lib.hid hB5
                  replace hfl5 := Lib.hid hfl5
                  replace hB05 := Lib.hid hB05
                  by_cases hgt : b2 < sc
                  · cases hif : T.isFile (beside (bl p) x) with
                    | true =>
                      rw [hif] at hfl5
                      rw [hif, if_pos ⟨hgt, rfl⟩] at hb1
                      replace hif := Lib.hid hif
                      replace hb1 := Lib.hid hb1
                      replace hfl5 := Lib.hid hfl5
                      go_wp2_with fail
                      (with_reducible refine (hfl5.out.out).mono ?_)
                      rintro e w6 ⟨rfl, hB6⟩
                      replace hB6 := Lib.hid hB6
                      go_wp2
                      go_roundw
                      case rel => exact ⟨k + 1, by go_num, by omega, by rw [hb1.out]; exact congrArg Value.string hqs.out.symm, by rw [hb1.out], below_step hB05.out hB6.out⟩
                      case measure => simp [intOf]; omega
                    | false =>
                      rw [hif] at hfl5
                      rw [hif, if_neg (by simp)] at hb1
                      replace hif := Lib.hid hif
                      replace hb1 := Lib.hid hb1
                      replace hfl5 := Lib.hid hfl5
                      go_wp2_with fail
                      (with_reducible refine (hfl5.out.out).mono ?_)
                      rintro e w6 ⟨rfl, hB6⟩
                      replace hB6 := Lib.hid hB6
                      go_wp2
                      go_roundw
                      case rel => exact ⟨k + 1, by go_num, by omega, by rw [hb1.out], by rw [hb1.out], below_step hB05.out hB6.out⟩
                      case measure => simp [intOf]; omega
                  · have hng : decide (b2 < sc) = false := by simpa using hgt
                    rw [if_neg (fun h => hgt h.1)] at hb1
                    replace hb1 := Lib.hid hb1
                    replace hgt := Lib.hid hgt
                    go_wp2
                    go_roundw
                    case rel => exact ⟨k + 1, by go_num, by omega, by rw [hb1.out], by rw [hb1.out], hB05.out⟩
                    case measure => simp [intOf]; omega
              · obtain rfl : k = L.length := by omega
                rw [List.take_length] at *
                generalize hbb : T.best (bl p) L = bb at *
                obtain ⟨b1, b2⟩ := bb
                dsimp only at *
                replace hB := Lib.hid hB
                replace hbb := Lib.hid hbb
                go_wp2
                go_ret2
                rw [hbb.out]
                exact ⟨rfl, below_step hB04.out hB.out⟩
          · have hqe : q.toList.isEmpty = false := by rw [str_nil]; simpa using hq0
            have hqf : T.isFile (bl q) = false := by
              cases hc : T.isFile (bl q) with
              | true => exact absurd ⟨hq0, hc⟩ hq2
              | false => rfl
            rw [hqf] at h3
            unfold ptr at *
            replace h1 := Lib.hid h1
            replace h2 := Lib.hid h2
            replace h3 := Lib.hid h3
            replace h4 := Lib.hid h4
            replace h5 := Lib.hid h5
            replace h6 := Lib.hid h6
            replace h7 := Lib.hid h7
            replace h8 := Lib.hid h8
            replace hR := Lib.hid hR
            replace hq2 := Lib.hid hq2
            replace hq0 := Lib.hid hq0
            replace hqf := Lib.hid hqf
            replace hnm := Lib.hid hnm
            replace hbt := Lib.hid hbt
            replace hbl := Lib.hid hbl
            replace hI := Lib.hid hI
            replace hL := Lib.hid hL
            clear hr hfi
            go_enter Try.func19, Try.ntmps19
            go_wp2_with fail
            (with_reducible refine (h1.out _).mono ?_)
            rintro e w1 ⟨rfl, hB1⟩
            have h2' := h2.out w1 (hR.out.below hB1)
            replace hB1 := Lib.hid hB1
            replace h2' := Lib.hid h2'
            go_wp2_with fail
            (with_reducible refine (h2'.out).mono ?_)
            rintro e w2 ⟨rfl, hB2⟩
            have hB02 := below_step hB1.out hB2
            have h3' := h3.out w2 (hR.out.below hB02)
            replace hB02 := Lib.hid hB02
            replace h3' := Lib.hid h3'
            clear hB1 hB2 h2' h1 h2
            go_wp2_with fail
            (with_reducible refine (h3'.out).mono ?_)
            rintro e w3 ⟨rfl, hB3⟩
            have hB03 := below_step hB02.out hB3
            replace hB03 := Lib.hid hB03
            clear hB02 hB3 h3'
            go_wp2_with fail
            (with_reducible refine (h4.out _).mono ?_)
            rintro e wx ⟨rfl, rfl⟩
            have h5' := h5.out w3 (hR.out.below hB03.out)
            replace h5' := Lib.hid h5'
            go_wp2_with fail
            (with_reducible refine (h5'.out).mono ?_)
            rintro e w4 ⟨⟨v, rfl, hS⟩, hB4⟩
            have hRd := hS.rd
            obtain ⟨vA, vc, rfl, hv1, hv2⟩ := hRd.shape
            unfold maxLen at hv2
            have hB04 := below_step hB03.out hB4
            replace hRd := Lib.hid hRd
            replace hB04 := Lib.hid hB04
            replace hS := Lib.hid hS
            clear hB4 h5'
            go_wp2_with fail
            go_loopw [10, 11, 53] (fun b s i wr => ∃ k : Nat, i = .int .i64 k ∧ k ≤ L.length ∧ b = .string (mkS (T.best (bl p) (L.take k)).1) ∧ s = .int .i64 (T.best (bl p) (L.take k)).2 ∧ Below w4.heap.size w4 wr) (fun _ _ i _ => L.length - (intOf i).toNat)
            case atStart => exact ⟨0, rfl, Nat.zero_le _, rfl, rfl, Below.refl _ _⟩
            case round =>
              obtain ⟨k, rfl, hk, rfl, rfl, hB⟩ := hrel
              by_cases hlt : k < L.length
              · obtain ⟨g, o, rfl, hck⟩ := (hRd.out.below hB).cell hlt
                have hb1 := hbt.out k hlt
                obtain ⟨_, ii, hmm⟩ := hnm.out L[k] (List.getElem_mem hlt)
                have h47 := kid_part hI.out hmm
                obtain ⟨hpth, hxlen⟩ : (47 : UInt8) ∉ L[k] ∧ (L[k]).length ≤ 1000 := by
                  refine ⟨h47, ?_⟩
                  obtain ⟨s, hs1, hs2⟩ := hI.out.pth _ _ hmm
                  have := right_part hs1 L[k] (by rw [hs2]; simp)
                  simp only [partOk, Bool.and_eq_true, decide_eq_true_eq] at this
                  omega
                obtain ⟨hbn, hbp⟩ := hbl.out L[k] hpth
                generalize L[k] = x at *
                have hRr := hR.out.below (below_step hB04.out hB)
                generalize T.best (bl p) (L.take k) = bb at *
                obtain ⟨b1, b2⟩ := bb
                have hsc := fun W => h7.out W x
                have hfl := fun W s hs (hW : Below wr.heap.size wr W) => h8.out W s hs (hRr.below hW)
                rw [better_is] at hb1
                generalize scoreB x (base (bl p)) = sc at *
                replace hb1 := Lib.hid hb1
                replace hbn := Lib.hid hbn
                replace hbp := Lib.hid hbp
                replace hRr := Lib.hid hRr
                replace hB := Lib.hid hB
                replace hsc := Lib.hid hsc
                replace hfl := Lib.hid hfl
                replace hmm := Lib.hid hmm
                replace hpth := Lib.hid hpth
                replace h47 := Lib.hid h47
                have hpm : (mkS x).size = x.length := mkS_size x
                have hum : (mkS (parent (bl p))).size = (parent (bl p)).length := mkS_size _
                have hbs : (beside (bl p) x).length ≤ 4000000 := by
                  unfold beside
                  split
                  · omega
                  · simp
                    omega
                have hfl' := fun W hW => hfl.out W (mkS (beside (bl p) x)) (by rw [mkS_size]; omega) hW
                rw [bl_mkS] at hfl'
                by_cases hpe : parent (bl p) = []
                · have hq3 := hbn.out hpe
                  have hue : (mkS (parent (bl p))).toList.isEmpty = true := by rw [str_nil, bl_mkS]; simpa using hpe
                  have hqs : mkS (beside (bl p) x) = mkS x := by rw [hq3]
                  rw [hqs] at hfl'
                  replace hb1 := hb1.out
                  replace hq3 := Lib.hid hq3
                  replace hfl' := Lib.hid hfl'
                  replace hqs := Lib.hid hqs
                  replace hpe := Lib.hid hpe
                  go_wp2_with fail
                  (with_reducible refine (h4.out _).mono ?_)
                  rintro e wx ⟨rfl, rfl⟩
                  go_wp2_with fail
                  (with_reducible refine (h6.out _).mono ?_)
                  rintro e wx ⟨rfl, rfl⟩
                  go_wp2_with fail
                  (with_reducible refine (hsc.out _).mono ?_)
                  rintro e w5 ⟨rfl, hB5⟩
                  have hfl5 := hfl'.out w5 hB5
                  have hB05 := below_step hB.out hB5
                  replace hB5 := Lib.hid hB5
                  replace hfl5 := Lib.hid hfl5
                  replace hB05 := Lib.hid hB05
                  by_cases hgt : b2 < sc
                  · cases hif : T.isFile (beside (bl p) x) with
                    | true =>
                      rw [hif] at hfl5
                      rw [hif, if_pos ⟨hgt, rfl⟩] at hb1
                      replace hif := Lib.hid hif
                      replace hb1 := Lib.hid hb1
                      replace hfl5 := Lib.hid hfl5
                      go_wp2_with fail
                      (with_reducible refine (hfl5.out.out).mono ?_)
                      rintro e w6 ⟨rfl, hB6⟩
                      replace hB6 := Lib.hid hB6
                      go_wp2
                      go_roundw
                      case rel => exact ⟨k + 1, by go_num, by omega, by rw [hb1.out]; exact congrArg Value.string hqs.out.symm, by rw [hb1.out], below_step hB05.out hB6.out⟩
                      case measure => simp [intOf]; omega
                    | false =>
                      rw [hif] at hfl5
                      rw [hif, if_neg (by simp)] at hb1
                      replace hif := Lib.hid hif
                      replace hb1 := Lib.hid hb1
                      replace hfl5 := Lib.hid hfl5
                      go_wp2_with fail
                      (with_reducible refine (hfl5.out.out).mono ?_)
                      rintro e w6 ⟨rfl, hB6⟩
                      replace hB6 := Lib.hid hB6
                      go_wp2
                      go_roundw
                      case rel => exact ⟨k + 1, by go_num, by omega, by rw [hb1.out], by rw [hb1.out], below_step hB05.out hB6.out⟩
                      case measure => simp [intOf]; omega
                  · have hng : decide (b2 < sc) = false := by simpa using hgt
                    rw [if_neg (fun h => hgt h.1)] at hb1
                    replace hb1 := Lib.hid hb1
                    replace hgt := Lib.hid hgt
                    go_wp2
                    go_roundw
                    case rel => exact ⟨k + 1, by go_num, by omega, by rw [hb1.out], by rw [hb1.out], hB05.out⟩
                    case measure => simp [intOf]; omega
                · have hq3 := hbp.out hpe
                  have hue : (mkS (parent (bl p))).toList.isEmpty = false := by rw [str_nil, bl_mkS]; simpa using hpe
                  have hqs : mkS (beside (bl p) x) = mkS (parent (bl p)) ++ ⟨#[47]⟩ ++ mkS x := bl_inj (by rw [bl_mkS, bl_str, bl_mkS, bl_mkS, hq3])
                  rw [hqs] at hfl'
                  replace hb1 := hb1.out
                  replace hq3 := Lib.hid hq3
                  replace hfl' := Lib.hid hfl'
                  replace hpe := Lib.hid hpe
                  replace hqs := Lib.hid hqs
                  go_wp2_with fail
                  (with_reducible refine (h4.out _).mono ?_)
                  rintro e wx ⟨rfl, rfl⟩
                  go_wp2_with fail
                  (with_reducible refine (h6.out _).mono ?_)
                  rintro e wx ⟨rfl, rfl⟩
                  go_wp2_with fail
                  (with_reducible refine (hsc.out _).mono ?_)
                  rintro e w5 ⟨rfl, hB5⟩
                  have hfl5 := hfl'.out w5 hB5
                  have hB05 := below_step hB.out hB5
                  replace hB5 := Lib.hid hB5
                  replace hfl5 := Lib.hid hfl5
                  replace hB05 := Lib.hid hB05
                  by_cases hgt : b2 < sc
                  · cases hif : T.isFile (beside (bl p) x) with
                    | true =>
                      rw [hif] at hfl5
                      rw [hif, if_pos ⟨hgt, rfl⟩] at hb1
                      replace hif := Lib.hid hif
                      replace hb1 := Lib.hid hb1
                      replace hfl5 := Lib.hid hfl5
                      go_wp2_with fail
                      (with_reducible refine (hfl5.out.out).mono ?_)
                      rintro e w6 ⟨rfl, hB6⟩
                      replace hB6 := Lib.hid hB6
                      go_wp2
                      go_roundw
                      case rel => exact ⟨k + 1, by go_num, by omega, by rw [hb1.out]; exact congrArg Value.string hqs.out.symm, by rw [hb1.out], below_step hB05.out hB6.out⟩
                      case measure => simp [intOf]; omega
                    | false =>
                      rw [hif] at hfl5
                      rw [hif, if_neg (by simp)] at hb1
                      replace hif := Lib.hid hif
                      replace hb1 := Lib.hid hb1
                      replace hfl5 := Lib.hid hfl5
                      go_wp2_with fail
                      (with_reducible refine (hfl5.out.out).mono ?_)
                      rintro e w6 ⟨rfl, hB6⟩
                      replace hB6 := Lib.hid hB6
                      go_wp2
                      go_roundw
                      case rel => exact ⟨k + 1, by go_num, by omega, by rw [hb1.out], by rw [hb1.out], below_step hB05.out hB6.out⟩
                      case measure => simp [intOf]; omega
                  · have hng : decide (b2 < sc) = false := by simpa using hgt
                    rw [if_neg (fun h => hgt h.1)] at hb1
                    replace hb1 := Lib.hid hb1
                    replace hgt := Lib.hid hgt
                    go_wp2
                    go_roundw
                    case rel => exact ⟨k + 1, by go_num, by omega, by rw [hb1.out], by rw [hb1.out], hB05.out⟩
                    case measure => simp [intOf]; omega
              · obtain rfl : k = L.length := by omega
                rw [List.take_length] at *
                generalize hbb : T.best (bl p) L = bb at *
                obtain ⟨b1, b2⟩ := bb
                dsimp only at *
                replace hB := Lib.hid hB
                replace hbb := Lib.hid hbb
                go_wp2
                go_ret2
                rw [hbb.out]
                exact ⟨rfl, below_step hB04.out hB.out⟩
  · replace hr : right (bl p) = false := by simpa using hr
    rw [hr] at h1
    rw [if_pos hr]
    unfold ptr at *
    replace h1 := Lib.hid h1
    replace hR := Lib.hid hR
    clear h2 h3 h4 h5 h6 h7 h8 hr hpl hnm hbt hbl
    go_enter Try.func19, Try.ntmps19
    go_wp2_with fail
    (with_reducible refine (h1.out _).mono ?_)
    rintro e w1 ⟨rfl, hB1⟩
    replace hB1 := Lib.hid hB1
    go_wp2
    go_ret2
    exact ⟨rfl, hB1.out⟩

end Go.Proofs.Ytemdinjiplglgaa

namespace Go.Proofs.Ytemdinjiplglgaa
open Go.RowKit Go.ChangeShapes Go.WideShapes Go.Deep

set_option maxRecDepth 100000 in
theorem open_arr2 {H : Type} {enc : TypeId × Value → H} {W : World} {spare : Nat → Bool} {held : Bool} {v : Value} {d : DataW H} {ps : List MemPlace} {r : Reach} {b0 : Nat} (hv : Value.okWide Try.prog W r b0 61 v) (h : DataW.Trod enc Try.prog W 0 spare held 61 v d ps) :
    ∃ s0 s1 : ByteArray, v = .agg #[.string s0, .string s1] ∧ d = .agg [.lit (.string s0.data.toList), .lit (.string s1.data.toList)] := by
  obtain ⟨cs, rfl, hsz, _⟩ : ∃ cs, v = .agg cs ∧ cs.size = Try.prog.cellsOf 61 ∧ Row.okWide Try.prog W r b0 61 cs := by
    have := hv
    simpa [Value.okWide, Try.underlying61] using this
  have hcn : Try.prog.cellsOf 61 = 2 := by kernel_rfl
  rw [hcn] at hsz
  obtain ⟨l⟩ := cs
  obtain ⟨fuel, hf⟩ := h
  have hf' : DataW.trod enc Try.prog W 0 spare held fuel 61 l = some (d, ps) := hf
  have hl : l.length = 2 := hsz
  match l, hl with
  | [c0, c1], _ =>
    obtain ⟨xs, m, _, ex, _, hxl, hel⟩ := DataW.trod_array Try.underlying61 hf'
    have kc : Try.prog.cellsOf 9 = 1 := by kernel_rfl
    rw [kc] at hel
    have hx : ∀ i, i < 2 → ∃ y, xs[i]? = some y := fun i hi => ⟨_, List.getElem?_eq_getElem (by rw [hxl]; exact hi)⟩
    obtain ⟨y0, e0⟩ := hx 0 (by decide)
    have f0 : DataW.trod enc Try.prog W 0 spare held m 9 (([c0, c1].drop (0 * 1)).take 1) = some y0 := (hel 0 (by decide)).trans e0
    simp only [Nat.mul_one, List.drop_zero, List.drop_succ_cons, List.take_succ_cons, List.take_zero] at f0
    obtain ⟨s0, q0, z0, _⟩ := DataW.trod_string Try.underlying9 f0
    obtain ⟨y1, e1⟩ := hx 1 (by decide)
    have f1 : DataW.trod enc Try.prog W 0 spare held m 9 (([c0, c1].drop (1 * 1)).take 1) = some y1 := (hel 1 (by decide)).trans e1
    simp only [Nat.mul_one, List.drop_zero, List.drop_succ_cons, List.take_succ_cons, List.take_zero] at f1
    obtain ⟨s1, q1, z1, _⟩ := DataW.trod_string Try.underlying9 f1
    simp only [List.cons.injEq, and_true] at q0 q1
    subst q0 q1
    refine ⟨s0, s1, rfl, ?_⟩
    have hxs : xs = [y0, y1] := by
      match xs, hxl with
      | [x0, x1], _ =>
        simp only [List.getElem?_cons_zero, List.getElem?_cons_succ, Option.some.injEq] at e0 e1
        rw [e0, e1]
    simp only [Prod.mk.injEq] at ex
    rw [ex.1, hxs]
    simp only [List.map_cons, List.map_nil, z0, z1]

end Go.Proofs.Ytemdinjiplglgaa

namespace Go.Proofs.Ytemdinjiplglgaa
open Go.RowKit Go.ChangeShapes Go.WideShapes Go.Deep

set_option maxRecDepth 100000 in
theorem open_arr3 {H : Type} {enc : TypeId × Value → H} {W : World} {spare : Nat → Bool} {held : Bool} {v : Value} {d : DataW H} {ps : List MemPlace} {r : Reach} {b0 : Nat} (hv : Value.okWide Try.prog W r b0 42 v) (h : DataW.Trod enc Try.prog W 0 spare held 42 v d ps) :
    ∃ s0 s1 s2 : ByteArray, v = .agg #[.string s0, .string s1, .string s2] ∧ d = .agg [.lit (.string s0.data.toList), .lit (.string s1.data.toList), .lit (.string s2.data.toList)] := by
  obtain ⟨cs, rfl, hsz, _⟩ : ∃ cs, v = .agg cs ∧ cs.size = Try.prog.cellsOf 42 ∧ Row.okWide Try.prog W r b0 42 cs := by
    have := hv
    simpa [Value.okWide, Try.underlying42] using this
  have hcn : Try.prog.cellsOf 42 = 3 := by kernel_rfl
  rw [hcn] at hsz
  obtain ⟨l⟩ := cs
  obtain ⟨fuel, hf⟩ := h
  have hf' : DataW.trod enc Try.prog W 0 spare held fuel 42 l = some (d, ps) := hf
  have hl : l.length = 3 := hsz
  match l, hl with
  | [c0, c1, c2], _ =>
    obtain ⟨xs, m, _, ex, _, hxl, hel⟩ := DataW.trod_array Try.underlying42 hf'
    have kc : Try.prog.cellsOf 9 = 1 := by kernel_rfl
    rw [kc] at hel
    have hx : ∀ i, i < 3 → ∃ y, xs[i]? = some y := fun i hi => ⟨_, List.getElem?_eq_getElem (by rw [hxl]; exact hi)⟩
    obtain ⟨y0, e0⟩ := hx 0 (by decide)
    have f0 : DataW.trod enc Try.prog W 0 spare held m 9 (([c0, c1, c2].drop (0 * 1)).take 1) = some y0 := (hel 0 (by decide)).trans e0
    simp only [Nat.mul_one, List.drop_zero, List.drop_succ_cons, List.take_succ_cons, List.take_zero] at f0
    obtain ⟨s0, q0, z0, _⟩ := DataW.trod_string Try.underlying9 f0
    obtain ⟨y1, e1⟩ := hx 1 (by decide)
    have f1 : DataW.trod enc Try.prog W 0 spare held m 9 (([c0, c1, c2].drop (1 * 1)).take 1) = some y1 := (hel 1 (by decide)).trans e1
    simp only [Nat.mul_one, List.drop_zero, List.drop_succ_cons, List.take_succ_cons, List.take_zero] at f1
    obtain ⟨s1, q1, z1, _⟩ := DataW.trod_string Try.underlying9 f1
    obtain ⟨y2, e2⟩ := hx 2 (by decide)
    have f2 : DataW.trod enc Try.prog W 0 spare held m 9 (([c0, c1, c2].drop (2 * 1)).take 1) = some y2 := (hel 2 (by decide)).trans e2
    simp only [Nat.mul_one, List.drop_zero, List.drop_succ_cons, List.take_succ_cons, List.take_zero] at f2
    obtain ⟨s2, q2, z2, _⟩ := DataW.trod_string Try.underlying9 f2
    simp only [List.cons.injEq, and_true] at q0 q1 q2
    subst q0 q1 q2
    refine ⟨s0, s1, s2, rfl, ?_⟩
    have hxs : xs = [y0, y1, y2] := by
      match xs, hxl with
      | [x0, x1, x2], _ =>
        simp only [List.getElem?_cons_zero, List.getElem?_cons_succ, Option.some.injEq] at e0 e1 e2
        rw [e0, e1, e2]
    simp only [Prod.mk.injEq] at ex
    rw [ex.1, hxs]
    simp only [List.map_cons, List.map_nil, z0, z1, z2]

end Go.Proofs.Ytemdinjiplglgaa
