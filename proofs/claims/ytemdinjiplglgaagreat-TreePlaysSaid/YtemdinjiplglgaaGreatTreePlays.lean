/-
  remoralaw17.TreePlays.
-/
import Derived.Test.YtemdinjiplglgaaGreatB6
import Derived.Test.YtemdinjiplglgaaGreatB4
namespace Go.Proofs.YtemdinjiplglgaaGreat
open Go.RowKit

theorem stp_turn {w w' : World} {tb : Nat} {A M : Nat → Nat} {T T' : Fs} (h : Stp w w' tb A M T T') : Turn w w' (Own tb A M T) := by
  obtain ⟨_, _, _, t, _⟩ := h
  exact t
theorem start_build : Fs.build ([] : List Act17) = Fs.start := rfl

theorem rstp_turn {w w' : World} {rb : Nat} {v : Value} {A : Nat → Nat} {T T' : Fs} (h : RStp w w' rb v A T T') : Turn w w' (ROwn rb v A T) := by
  obtain ⟨_, _, _, t, _⟩ := h
  exact t
theorem below_top_len {T : Fs} (hI : T.Inv) : ((T.below []).length : Int) = (T.names.length : Int) - 1 := by
  obtain ⟨r, hr⟩ := hI.top
  have h1 := paths_rest hI hr
  have h2 := paths_len T
  rw [h1, (sortP_perm _).length_eq, List.length_map] at h2
  rw [hr, List.length_cons]
  omega
theorem count_same (tb : Nat) (A M : Nat → Nat) (T : Fs) (w : World) (hR : Rep w tb A M T) (hf : T.names.length ≤ 1000000) :
    Calls Tryz.prog 18 #[ptr tb] w fun e w' => e = .returned (.int .i64 ((T.names.length : Int) - 1)) ∧ Below w.heap.size w w' := by
  have h := count_calls tb A M T w hR hf
  rw [below_top_len hR.inv] at h
  exact h

set_option maxHeartbeats 4000000 in
set_option maxRecDepth 100000 in
theorem treePlays_walk (v : Value) (l : List Act17) (w : World) (hv : Acts w v l) :
    Calls Tryz.prog 4 #[v] w fun e w' => e = .returned (.bool true) ∧ Below w.heap.size w w' := by
  have haw := fun W => awake17_calls W
  have hsm := small_calls v l _ hv
  have hv0 := hv
  obtain ⟨A, c, rfl, h2, h3, h4⟩ := hv
  unfold maxLen at h3
  cases hs : small l with
  | false =>
    rw [hs] at hsm
    replace haw := Lib.hid haw
    replace hsm := Lib.hid hsm
    replace h4 := Lib.hid h4
    replace hv0 := Lib.hid hv0
    replace hs := Lib.hid hs
    go_enter Tryz.func4, Tryz.ntmps4
    go_wp2_with fail
    (with_reducible refine (hsm.out).mono ?_)
    rintro e w1 ⟨rfl, rfl⟩
    go_wp2_with fail
    (with_reducible refine (haw.out _).mono ?_)
    rintro e w2 ⟨rfl, hB⟩
    replace hB := Lib.hid hB
    go_wp2
    go_ret
    exact ⟨rfl, hB.out⟩
  | true =>
    rw [hs] at hsm
    obtain ⟨hl40, hsml⟩ := small_at hs
    have hnew := fun W => new_calls W
    have hrnew := fun W => rnew_calls W
    replace haw := Lib.hid haw
    replace hsm := Lib.hid hsm
    replace h4 := Lib.hid h4
    replace hv0 := Lib.hid hv0
    replace hs := Lib.hid hs
    replace hsml := Lib.hid hsml
    replace hnew := Lib.hid hnew
    replace hrnew := Lib.hid hrnew
    go_enter Tryz.func4, Tryz.ntmps4
    go_wp2_with fail
    (with_reducible refine (hsm.out).mono ?_)
    rintro e w1 ⟨rfl, rfl⟩
    go_wp2_with fail
    (with_reducible refine (hnew.out _).mono ?_)
    rintro e w1 ⟨tb, C, MC, rfl, hU1, hO1, hB1⟩
    replace hU1 := Lib.hid hU1
    replace hO1 := Lib.hid hO1
    replace hB1 := Lib.hid hB1
    go_wp2_with fail
    (with_reducible refine (hrnew.out _).mono ?_)
    rintro e w2 ⟨rb, rv, B, rfl, hR2, hP2, hB2⟩
    have hU2 := hU1.out.below hB2
    have hB02 := below_step hB1.out hB2
    have hP2' : ∀ b, ROwn rb rv B Fs.start b → w.heap.size ≤ b := fun b hb => Nat.le_trans hB1.out.size (hP2 b hb)
    unfold ptr at *
    replace hU2 := Lib.hid hU2
    replace hR2 := Lib.hid hR2
    replace hP2' := Lib.hid hP2'
    replace hB02 := Lib.hid hB02
    clear hB1 hB2 hP2 hU1
    have hptr := fun W : World => run_eql_nil_ptr (P := Tryz.prog) W ⟨tb, 0, none⟩ Tryz.underlying28
    go_wp2_with fail
    go_loopw [5] (fun i wr => ∃ (k : Nat) (C1 MC1 B1 : Nat → Nat) (rv1 : Value), i = .int .i64 k ∧ k ≤ l.length ∧ Rep wr tb C1 MC1 (Fs.build (l.take k)) ∧ (∀ b, Own tb C1 MC1 (Fs.build (l.take k)) b → w.heap.size ≤ b) ∧ RRep wr rb rv1 B1 (Fs.build (l.take k)) ∧ (∀ b, ROwn rb rv1 B1 (Fs.build (l.take k)) b → w.heap.size ≤ b) ∧ Below w.heap.size w wr) (fun i _ => l.length - (intOf i).toNat)
    case atStart => exact ⟨0, C, MC, B, rv, rfl, Nat.zero_le _, hU2.out, hO1.out, hR2.out, hP2'.out, hB02.out⟩
    case round =>
      clear hU2 hR2 hP2' hB02 hO1
      obtain ⟨k, C1, MC1, B1, rv1, rfl, hk, hU, hO, hR, hP, hB⟩ := hrel
      by_cases hlt : k < l.length
      · obtain ⟨g, o, dv, rfl, hdv, hc⟩ := h4.out k hlt
        obtain ⟨h5, h6, h7⟩ := hsml.out _ (List.getElem_mem hlt)
        have hgr := acts_grow Fs.start (l.take k)
        have hnm : (Fs.build (l.take k)).names.length ≤ 1000000 := by
          have h8 : (l.take k).length ≤ k := List.length_take_le _ _
          have : (Fs.build (l.take k)).names.length ≤ Fs.start.names.length + (l.take k).length := hgr.1
          have h9 : Fs.start.names.length = 1 := rfl
          omega
        have hnx : (Fs.build (l.take k)).next < 4611686018427387904 := by
          have h8 : (l.take k).length ≤ k := List.length_take_le _ _
          have : (Fs.build (l.take k)).next ≤ Fs.start.next + (l.take k).length := hgr.2
          have h9 : Fs.start.next = 2 := rfl
          omega
        have hglt : g < w.heap.size := cell_lt (a := ⟨g, o + k * 9 + 0, none⟩) (hc 0 (by decide))
        have hbs : ((Fs.build (l.take k)).act l[k]).1 = Fs.build (l.take (k + 1)) := by
          rw [List.take_succ_eq_append_getElem hlt]
          exact (acts_snoc _ _ _).symm
        replace hU := Lib.hid hU
        replace hO := Lib.hid hO
        replace hR := Lib.hid hR
        replace hP := Lib.hid hP
        replace hB := Lib.hid hB
        go_upto_region 9 with fail
        have hNS : ∀ W, Below w.heap.size w W → (W.cell? ⟨g, o + k * 9, none⟩ = some (.int .i64 (l[k]).d) ∧ W.cell? ⟨g, o + k * 9 + 1, none⟩ = some (.string (mkS (l[k]).path)) ∧ W.cell? ⟨g, o + k * 9 + 2, none⟩ = some (.string (mkS (l[k]).arg)) ∧ W.cell? ⟨g, o + k * 9 + 3, none⟩ = some (dv) ∧ W.cell? ⟨g, o + k * 9 + 4, none⟩ = some (.int .i64 (l[k]).mt.mode) ∧ W.cell? ⟨g, o + k * 9 + 5, none⟩ = some (.int .i64 (l[k]).mt.sec) ∧ W.cell? ⟨g, o + k * 9 + 6, none⟩ = some (.int .i64 (l[k]).mt.nano) ∧ W.cell? ⟨g, o + k * 9 + 7, none⟩ = some (.int .i64 (l[k]).mt.uid) ∧ W.cell? ⟨g, o + k * 9 + 8, none⟩ = some (.int .i64 (l[k]).mt.gid)) := fun W hW => by
          have hc' : ∀ j, j < 9 → W.cell? ⟨g, o + k * 9 + j, none⟩ = (actCells l[k] dv)[j]? := fun j hj => by
            rw [← hc j hj]
            simp only [World.cell?, hW.block g hglt]
          exact ⟨hc' 0 (by decide), hc' 1 (by decide), hc' 2 (by decide), hc' 3 (by decide), hc' 4 (by decide), hc' 5 (by decide), hc' 6 (by decide), hc' 7 (by decide), hc' 8 (by decide)⟩
        have hd1 := do_calls tb C1 MC1 (Fs.build (l.take k)) l[k] dv wr.drew (hU.out.below (below_drewN (Below.refl _ _) 1)) (by omega) (by omega) (hdv.below (below_drewN hB.out 1)) (by omega) hnx hnm
        rw [hbs] at hd1
        unfold actV actCells ptr at hd1
        have hd2 := fun W (hW : RRep W rb rv1 B1 (Fs.build (l.take k))) (hd : RdB W dv l[k].data) => rdo_calls rb rv1 B1 (Fs.build (l.take k)) l[k] dv W hW (by omega) (by omega) hd (by omega) hnx hnm
        rw [hbs] at hd2
        unfold actV actCells ptr at hd2
        have hRd0 := hR.out.below (below_drewN (Below.refl _ _) 1)
        have hBd0 := below_drewN hB.out 1
        have hmine := fun wa (hst : Stp wr.drew wa tb C1 MC1 (Fs.build (l.take k)) (Fs.build (l.take (k + 1)))) => Stp.mine hBd0 hO.out hst
        have hnx1 : (Fs.build (l.take (k + 1))).names.length ≤ 1000000 := by
          have h8 : (l.take (k + 1)).length ≤ k + 1 := List.length_take_le _ _
          have : (Fs.build (l.take (k + 1))).names.length ≤ Fs.start.names.length + (l.take (k + 1)).length := (acts_grow Fs.start (l.take (k + 1))).1
          have h9 : Fs.start.names.length = 1 := rfl
          omega
        have hUd0 := hU.out.below (below_drewN (Below.refl _ _) 1)
        have hct := fun W A M (hW : Rep W tb A M (Fs.build (l.take (k + 1)))) => count_same tb A M _ W hW (by omega)
        have hrc := fun W v B (hW : RRep W rb v B (Fs.build (l.take (k + 1)))) => rcounted_calls rb v B _ W hW (by omega)
        have hbe := fun W W' A M v B (hU : Rep W tb A M (Fs.build (l.take (k + 1)))) (hT : RRep W rb v B (Fs.build (l.take k))) (ht : RStp W W' rb v B (Fs.build (l.take k)) (Fs.build (l.take (k + 1)))) => Rep.besideR hU hT (rstp_turn ht)
        have hrmine := fun W W' (hBW : Below w.heap.size w W) (hst : RStp W W' rb rv1 B1 (Fs.build (l.take k)) (Fs.build (l.take (k + 1)))) => RStp.mine hBW hP.out hst
        have hrb0 := fun W (ht : Stp wr.drew W tb C1 MC1 (Fs.build (l.take k)) (Fs.build (l.take (k + 1)))) => RRep.beside (hR.out.below (below_drewN (Below.refl _ _) 1)) (hU.out.below (below_drewN (Below.refl _ _) 1)) (stp_turn ht)
        unfold ptr at hct hrc
        generalize hcn : ((Fs.build (l.take (k + 1))).names.length : Int) - 1 = cn at hct hrc
        generalize ((Fs.build (l.take k)).act l[k]).2 = er at hd1 hd2
        generalize hT1 : Fs.build (l.take (k + 1)) = T1 at *
        generalize Fs.build (l.take k) = T0 at *
        replace hNS := Lib.hid hNS
        replace hd1 := Lib.hid hd1
        replace hd2 := Lib.hid hd2
        replace hbs := Lib.hid hbs
        replace hRd0 := Lib.hid hRd0
        replace hBd0 := Lib.hid hBd0
        replace hmine := Lib.hid hmine
        replace hUd0 := Lib.hid hUd0
        replace hdv := Lib.hid hdv
        replace hct := Lib.hid hct
        replace hrc := Lib.hid hrc
        replace hbe := Lib.hid hbe
        replace hrmine := Lib.hid hrmine
        replace hrb0 := Lib.hid hrb0
        replace hcn := Lib.hid hcn
        replace hT1 := Lib.hid hT1
        clear hU hO hR hP hB
        go_region_held3 (fun W => (W.cell? ⟨g, o + k * 9, none⟩ = some (.int .i64 (l[k]).d) ∧ W.cell? ⟨g, o + k * 9 + 1, none⟩ = some (.string (mkS (l[k]).path)) ∧ W.cell? ⟨g, o + k * 9 + 2, none⟩ = some (.string (mkS (l[k]).arg)) ∧ W.cell? ⟨g, o + k * 9 + 3, none⟩ = some (dv) ∧ W.cell? ⟨g, o + k * 9 + 4, none⟩ = some (.int .i64 (l[k]).mt.mode) ∧ W.cell? ⟨g, o + k * 9 + 5, none⟩ = some (.int .i64 (l[k]).mt.sec) ∧ W.cell? ⟨g, o + k * 9 + 6, none⟩ = some (.int .i64 (l[k]).mt.nano) ∧ W.cell? ⟨g, o + k * 9 + 7, none⟩ = some (.int .i64 (l[k]).mt.uid) ∧ W.cell? ⟨g, o + k * 9 + 8, none⟩ = some (.int .i64 (l[k]).mt.gid))) (first | exact hNS.out _ hBd0.out | exact hNS.out _ hBa.out | exact hNS.out _ hBb.out | exact hNS.out _ hBc.out) (first
          | (go_at_call 16; (with_reducible refine hd1.out.mono ?_); rintro e wa ⟨rfl, hsa⟩; obtain ⟨hBa, hRa⟩ := hmine.out wa hsa; replace hBa := Lib.hid hBa; replace hRa := Lib.hid hRa; replace hsa := Lib.hid hsa)
          | (go_at_call 17; (with_reducible refine (hd2.out _ (hrb0.out _ hsa.out) (hdv.out.below hBa.out)).mono ?_); rintro e wb ⟨rfl, hsb⟩; obtain ⟨hBb, hRb⟩ := hrmine.out _ _ hBa.out hsb; obtain ⟨C2, MC2, hUa, hOa⟩ := hRa.out; obtain ⟨v2, B2, hRb, hPb⟩ := hRb; have hUb := hbe.out _ _ _ _ _ _ hUa (hrb0.out _ hsa.out) hsb; replace hUb := Lib.hid hUb; replace hUa := Lib.hid hUa; replace hOa := Lib.hid hOa; replace hRb := Lib.hid hRb; replace hPb := Lib.hid hPb; replace hBb := Lib.hid hBb; replace hsb := Lib.hid hsb)
          | (go_at_call 18; (with_reducible refine (hct.out _ _ _ hUb.out).mono ?_); rintro e wc ⟨rfl, hBc0⟩; have hBc := below_step hBb.out hBc0; have hRc := hRb.out.below hBc0; have hUc := hUb.out.below hBc0; replace hBc := Lib.hid hBc; replace hRc := Lib.hid hRc; replace hUc := Lib.hid hUc; clear hBc0)
          | (go_at_call 19; (with_reducible refine (hrc.out _ _ _ hRc.out).mono ?_); rintro e wd ⟨rfl, rfl⟩))
        go_wp2
        go_roundw
        case rel =>
          refine ⟨k + 1, C2, MC2, B2, v2, by go_num, by omega, ?_, ?_, ?_, ?_, hBc.out⟩
          all_goals rw [hT1.out]
          · exact hUc.out
          · exact hOa.out
          · exact hRc.out
          · exact hPb.out
        case measure => simp [intOf]; omega
      · obtain rfl : k = l.length := by omega
        rw [List.take_length] at hU hO hR hP
        have hgr := acts_grow Fs.start l
        have hfew : (Fs.build l).names.length ≤ 1000 := by
          have : (Fs.build l).names.length ≤ Fs.start.names.length + l.length := hgr.1
          have h9 : Fs.start.names.length = 1 := rfl
          omega
        clear hgr
        generalize Fs.build l = T at *
        have hp := rpaths_calls rb rv1 B1 T wr hR (by omega)
        have hth := fun (W : World) (s : ByteArray) (hs : s.size ≤ 16777216) hU hR => thing_calls tb rb rv1 C1 MC1 B1 T s W hU hR hs (by omega)
        have hpu := fun (W : World) (hU : Rep W tb C1 MC1 T) => paths_calls tb C1 MC1 T W hU (by omega)
        have hPl : T.paths.length ≤ 1000 := by rw [paths_len]; exact Nat.le_trans (below_few T []) hfew
        have hpr : ∀ j (hj : j < T.paths.length), right T.paths[j] = true := fun j hj => (path_at hU.inv hj).1
        unfold ptr at *
        replace hp := Lib.hid hp
        replace hth := Lib.hid hth
        replace hpu := Lib.hid hpu
        replace hU := Lib.hid hU
        replace hR := Lib.hid hR
        replace hB := Lib.hid hB
        replace hpr := Lib.hid hpr
        clear hO hP
        go_wp2_with fail
        (with_reducible refine (hp.out).mono ?_)
        rintro e w5 ⟨⟨pv, rfl, hS⟩, hB5⟩
        have hRd := Strs.rd hS
        obtain ⟨pA, pc, hpv, hpc1, hpc2⟩ := own_shape hS.own
        subst hpv
        unfold maxLen at hpc2
        have hB05 := below_step hB.out hB5
        have hU5 := hU.out.below hB5
        have hR5 := hR.out.below hB5
        replace hRd := Lib.hid hRd
        replace hB05 := Lib.hid hB05
        replace hU5 := Lib.hid hU5
        replace hR5 := Lib.hid hR5
        replace hS := Lib.hid hS
        clear hB5 hp
        go_wp2_with fail
        go_loopw [7] (fun i wq => ∃ j : Nat, i = .int .i64 j ∧ j ≤ T.paths.length ∧ Below w5.heap.size w5 wq) (fun i _ => T.paths.length - (intOf i).toNat)
        case atStart => exact ⟨0, rfl, Nat.zero_le _, Below.refl _ _⟩
        case round =>
          obtain ⟨j, rfl, hj, hBq⟩ := hrel
          by_cases hjl : j < T.paths.length
          · obtain ⟨g, o, e1, ck⟩ := ((hRd.out).below hBq).cell hjl
            subst e1
            have hrl : T.paths[j].length ≤ 200 := right_len (hpr.out j hjl)
            have hsz := mkS_size T.paths[j]
            have ht := hth.out _ (mkS T.paths[j]) (by omega) (hU5.out.below hBq) (hR5.out.below hBq)
            have hji : (j : Int) < (T.paths.length : Int) := by omega
            replace hBq := Lib.hid hBq
            replace ht := Lib.hid ht
            go_wp2_with fail
            (with_reducible refine (ht.out).mono ?_)
            rintro e w6 ⟨rfl, hB6⟩
            have hB56 := below_step hBq.out hB6
            replace hB56 := Lib.hid hB56
            clear hB6
            go_wp2
            go_roundw
            case rel => exact ⟨j + 1, by go_num, by omega, hB56.out⟩
            case measure => simp [intOf]; omega
          · have hB0q := below_step hB05.out hBq
            have hpq := hpu.out _ (hU5.out.below hBq)
            have hRdq := (hRd.out).below hBq
            obtain rfl : j = T.paths.length := by omega
            replace hBq := Lib.hid hBq
            replace hB0q := Lib.hid hB0q
            replace hpq := Lib.hid hpq
            replace hRdq := Lib.hid hRdq
            go_wp2_with fail
            (with_reducible refine (hpq.out).mono ?_)
            rintro e w7 ⟨⟨v7, rfl, s7⟩, hB7⟩
            obtain ⟨a7, c7, hv7, _, _⟩ := own_shape s7.own
            subst hv7
            have hB57 := below_step hBq.out hB7
            have hB07 := below_step hB0q.out hB7
            have hk1 := rtexts_calls _ _ _ _ w7 (Strs.rd s7) (hRdq.out.below hB7)
            rw [decide_eq_true rfl] at hk1
            replace hB57 := Lib.hid hB57
            replace hB07 := Lib.hid hB07
            replace hk1 := Lib.hid hk1
            replace s7 := Lib.hid s7
            clear hB7
            go_wp2_with fail
            (with_reducible refine (hk1.out).mono ?_)
            rintro e w8 ⟨rfl, hB8⟩
            have hB58 := below_step hB57.out hB8
            have hB08 := below_step hB07.out hB8
            have ht := hth.out w8 ⟨#[]⟩ (by decide) (hU5.out.below hB58) (hR5.out.below hB58)
            replace hB58 := Lib.hid hB58
            replace hB08 := Lib.hid hB08
            replace ht := Lib.hid ht
            clear hB8
            go_wp2_with fail
            (with_reducible refine (ht.out).mono ?_)
            rintro e w9 ⟨rfl, hB9⟩
            have hB09 := below_step hB08.out hB9
            replace hB09 := Lib.hid hB09
            clear hB9
            go_wp2_with fail
            (with_reducible refine (haw.out _).mono ?_)
            rintro e w10 ⟨rfl, hB10⟩
            have hB010 := below_step hB09.out hB10
            replace hB010 := Lib.hid hB010
            clear hB10
            go_wp2
            go_ret
            exact ⟨rfl, hB010.out⟩

end Go.Proofs.YtemdinjiplglgaaGreat
