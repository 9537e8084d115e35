/-
  remoralaw42.SnapBack.
-/
import Derived.Test.YtocbjhhnginebaaGreatSnapY
namespace Go.Proofs.YtocbjhhnginebaaGreat
open Go.RowKit
set_option linter.unusedSimpArgs false
set_option linter.unusedVariables false

set_option maxHeartbeats 16000000 in
set_option maxRecDepth 100000 in
theorem snapBack_walk (v : Value) (l : List Act17) (u : Value) (m : List Act17) (a : ByteArray) (q : Value) (la : List A42) (w : World) (hv : Acts w v l) (hu : Acts w u m) (hq : Acts42 w q la) (hbd : ∀ x ∈ la, x.n ≤ 9223372036854775807) (hsa : a.size ≤ 140737488351232) :
    Calls Tryz.prog 3 #[v, u, .string a, q] w fun e w' => e = .returned (.bool true) ∧ Below w.heap.size w w' := by
  have haw := fun W => awake42_calls W
  have hs1 := small_calls v l _ hv
  have hs2 := small_calls u m _ hu
  have hlg := light_calls q la w hq
  obtain ⟨vA, vc, rfl, -⟩ := id hv
  obtain ⟨uA, uc, rfl, -⟩ := id hu
  obtain ⟨qA, qc, rfl, hq1, hq2, -⟩ := id hq
  unfold maxLen at hq2
  replace haw := Lib.hid haw
  replace hv := Lib.hid hv
  replace hu := Lib.hid hu
  replace hq := Lib.hid hq
  replace hbd := Lib.hid hbd
  cases c1 : small l
  · rw [c1] at hs1
    replace hs1 := Lib.hid hs1
    replace hs2 := Lib.hid hs2
    replace hlg := Lib.hid hlg
    go_enter Tryz.func3, Tryz.ntmps3
    go_wp2_with fail
    (with_reducible refine (hs1.out).mono ?_)
    rintro e w1 ⟨rfl, rfl⟩
    go_wp2_with fail
    (with_reducible refine (haw.out _).mono ?_)
    rintro e w9 ⟨rfl, hB9⟩
    go_wp2
    go_ret
    exact ⟨rfl, hB9⟩
  · rw [c1] at hs1
    cases c2 : small m
    · rw [c2] at hs2
      replace hs1 := Lib.hid hs1
      replace hs2 := Lib.hid hs2
      replace hlg := Lib.hid hlg
      go_enter Tryz.func3, Tryz.ntmps3
      go_wp2_with fail
      (with_reducible refine (hs1.out).mono ?_)
      rintro e w1 ⟨rfl, rfl⟩
      go_wp2_with fail
      (with_reducible refine (hs2.out).mono ?_)
      rintro e w1 ⟨rfl, rfl⟩
      go_wp2_with fail
      (with_reducible refine (haw.out _).mono ?_)
      rintro e w9 ⟨rfl, hB9⟩
      go_wp2
      go_ret
      exact ⟨rfl, hB9⟩
    · rw [c2] at hs2
      cases hg : light42 la
      · rw [hg] at hlg
        replace hs1 := Lib.hid hs1
        replace hs2 := Lib.hid hs2
        replace hlg := Lib.hid hlg
        go_enter Tryz.func3, Tryz.ntmps3
        go_wp2_with fail
        (with_reducible refine (hs1.out).mono ?_)
        rintro e w1 ⟨rfl, rfl⟩
        go_wp2_with fail
        (with_reducible refine (hs2.out).mono ?_)
        rintro e w1 ⟨rfl, rfl⟩
        go_wp2_with fail
        (with_reducible refine (hlg.out).mono ?_)
        rintro e w2 ⟨rfl, hB2⟩
        go_wp2_with fail
        (with_reducible refine (haw.out _).mono ?_)
        rintro e w9 ⟨rfl, hB9⟩
        go_wp2
        go_ret
        exact ⟨rfl, below_step hB2 hB9⟩
      · rw [hg] at hlg
        by_cases c3 : 300 < a.size
        · have c3' : (300 : Int) < (a.size : Int) := by omega
          replace hs1 := Lib.hid hs1
          replace hs2 := Lib.hid hs2
          replace hlg := Lib.hid hlg
          go_enter Tryz.func3, Tryz.ntmps3
          go_wp2_with fail
          (with_reducible refine (hs1.out).mono ?_)
          rintro e w1 ⟨rfl, rfl⟩
          go_wp2_with fail
          (with_reducible refine (hs2.out).mono ?_)
          rintro e w1 ⟨rfl, rfl⟩
          go_wp2_with fail
          (with_reducible refine (hlg.out).mono ?_)
          rintro e w2 ⟨rfl, hB2⟩
          go_wp2_with fail
          (with_reducible refine (haw.out _).mono ?_)
          rintro e w9 ⟨rfl, hB9⟩
          go_wp2
          go_ret
          exact ⟨rfl, below_step hB2 hB9⟩
        · have c3' : ¬ (300 : Int) < (a.size : Int) := by omega
          obtain ⟨hla1, hla2⟩ := light_at hg
          obtain ⟨n1, n2⟩ := build_small c1
          obtain ⟨n3, n4⟩ := build_small c2
          have o1 := ok_build l
          have o2 := ok_build m
          have hptr := fun (W : World) (tb : Nat) => run_eql_nil_ptr (P := Tryz.prog) W ⟨tb, 0, none⟩ Tryz.underlying27
          replace hs1 := Lib.hid hs1
          replace hs2 := Lib.hid hs2
          replace hlg := Lib.hid hlg
          replace o1 := Lib.hid o1
          replace o2 := Lib.hid o2
          replace n1 := Lib.hid n1
          replace n2 := Lib.hid n2
          replace n3 := Lib.hid n3
          replace n4 := Lib.hid n4
          replace c1 := Lib.hid c1
          replace c2 := Lib.hid c2
          replace hg := Lib.hid hg
          replace hla2 := Lib.hid hla2
          replace hptr := Lib.hid hptr
          go_enter Tryz.func3, Tryz.ntmps3
          go_wp2_with fail
          (with_reducible refine (hs1.out).mono ?_)
          rintro e w0 ⟨rfl, rfl⟩
          go_wp2_with fail
          (with_reducible refine (hs2.out).mono ?_)
          rintro e w0 ⟨rfl, rfl⟩
          go_wp2_with fail
          (with_reducible refine (hlg.out).mono ?_)
          rintro e w1 ⟨rfl, hB1⟩
          have hbl1 := build_calls (.slice vA l.length vc) l w1 (acts_under hv.out hB1) c1.out
          replace hB1 := Lib.hid hB1
          replace hbl1 := Lib.hid hbl1
          go_wp2_with fail
          (with_reducible refine (hbl1.out).mono ?_)
          rintro e w2 ⟨vb, A, M, rfl, hV2, hVo2, hB2⟩
          have hB02 := below_step hB1.out hB2
          have hbl2 := build_calls (.slice uA m.length uc) m w2 (acts_under hu.out hB02) c2.out
          replace hV2 := Lib.hid hV2
          replace hVo2 := Lib.hid hVo2
          replace hB2 := Lib.hid hB2
          replace hB02 := Lib.hid hB02
          replace hbl2 := Lib.hid hbl2
          go_wp2_with fail
          (with_reducible refine (hbl2.out).mono ?_)
          rintro e w3 ⟨sb, B, N, rfl, hS3, hSo3, hB3⟩
          have hV3 := hV2.out.below hB3
          have hVlo : ∀ b, Own vb A M (Fs.build l) b → w.heap.size ≤ b := fun b hb => Nat.le_trans hB1.out.size (hVo2.out b hb)
          have hSlo : ∀ b, Own sb B N (Fs.build m) b → w.heap.size ≤ b := fun b hb => Nat.le_trans hB02.out.size (hSo3 b hb)
          have hap : ∀ b, Own sb B N (Fs.build m) b → ¬ Own vb A M (Fs.build l) b := fun b hb hb2 => by
            have := hV2.out.lt hb2
            have := hSo3 b hb
            omega
          have hB03 := below_step hB02.out hB3
          have hVi := hV3.inv
          have hSi := hS3.inv
          obtain ⟨na, rfl⟩ : ∃ na, a = mkS na := ⟨bl a, (mkS_bl a).symm⟩
          have hna : na.length ≤ 300 := by have := mkS_size na; omega
          have htk := take_calls vb A M (Fs.build l) sb B N (Fs.build m) na w3 hV3 hS3 o1.out.mt (by omega) (by have := n1.out; have := n3.out; omega) (by have := n2.out; have := n3.out; omega)
          have hg1 := take_grow (Fs.build l) na (Fs.build m)
          have hT1 := fun h => take_done (V := Fs.build l) (nm := na) (S := Fs.build m) hVi o1.out hSi o2.out h
          have hE1 := fun h => take_same (V := Fs.build l) (nm := na) (S := Fs.build m) h
          have hE9 := take_nine (V := Fs.build l) (nm := na) (S := Fs.build m)
          have o3 := ok_take o1.out na (Fs.build m)
          have hP4 := fun w4 h => Pw2.step (V' := (takeE (Fs.build l) na (Fs.build m)).1) (W' := w4) hV3 hS3 hVlo hSlo hap hB03 h
          have p1 := hptr.out w3 vb
          have p2 := hptr.out w3 sb
          have hn1 := n1.out
          have hn2 := n2.out
          have hn3 := n3.out
          have oS := o2.out
          have oV := o1.out
          unfold ptr at htk
          clear hV2 hVo2 hB2 hB02 hbl1 hbl2 hs1 hs2 hS3 hSo3 hB3 hV3 hVlo hSlo hap hB03 n1 n2 n3 n4 o1 o2 c1 c2
          generalize Fs.build l = V at *
          generalize Fs.build m = S at *
          generalize htE : takeE V na S = te at *
          obtain ⟨V1, e1⟩ := te
          dsimp only at *
          have hV13 := hB1
          replace hVi := Lib.hid hVi
          replace hSi := Lib.hid hSi
          replace hna := Lib.hid hna
          replace htk := Lib.hid htk
          replace hg1 := Lib.hid hg1
          replace hT1 := Lib.hid hT1
          replace hE1 := Lib.hid hE1
          replace hE9 := Lib.hid hE9
          replace o3 := Lib.hid o3
          replace hP4 := Lib.hid hP4
          replace hn1 := Lib.hid hn1
          replace hn2 := Lib.hid hn2
          replace hn3 := Lib.hid hn3
          replace oS := Lib.hid oS
          replace oV := Lib.hid oV
          replace htE := Lib.hid htE
          go_wp2_with fail
          (with_reducible refine (htk.out).mono ?_)
          rintro e w4 ⟨rfl, hst4⟩
          have hP := hP4.out w4 hst4
          obtain ⟨A4, M4, B4, N4, hR4, hS4, hVo4, hSo4, hap4, hBw4⟩ := id hP
          clear hst4 hP4 htk p1 p2
          by_cases d1 : e1 = 0
          · subst d1
            have hT := hT1.out rfl
            have hH := hT.holds oV.out
            have hr := restore_yes vb A4 M4 V1 na w4 hR4 o3.out.mt (by have := hna.out; omega) (by have := hg1.out; have := hn1.out; have := hn3.out; omega) (find_any hH.may (hH.snap hT.inv))
            have hback := hH.back hT.inv hT.ok hSi.out oS.out
            have hg1' : V1.names.length ≤ 100 ∧ V1.next ≤ 100 := by have := hg1.out; have := hn1.out; have := hn2.out; have := hn3.out; omega
            have hTi := hT.inv
            have hTo := hT.ok
            clear hVo4 hSo4 hap4
            replace hR4 := Lib.hid hR4
            replace hS4 := Lib.hid hS4
            replace hP := Lib.hid hP
            replace hBw4 := Lib.hid hBw4
            replace hr := Lib.hid hr
            replace hT := Lib.hid hT
            replace hH := Lib.hid hH
            replace hback := Lib.hid hback
            replace hg1' := Lib.hid hg1'
            replace hTi := Lib.hid hTi
            replace hTo := Lib.hid hTo
            go_wp2_with fail
            (with_reducible refine (hr.out).mono ?_)
            rintro e w5 ⟨tc, C, MC, rfl, hC5, hCo5, hB5⟩
            have htop := top_calls tc C MC (restE V1 na) sb B4 N4 S w5 hC5 (hS4.out.below hB5) hback.out
            replace hC5 := Lib.hid hC5
            replace hCo5 := Lib.hid hCo5
            replace hB5 := Lib.hid hB5
            replace htop := Lib.hid htop
            go_wp2_with fail
            (with_reducible refine (htop.out).mono ?_)
            rintro e w6 ⟨rfl, hB6⟩
            have hP6 := hP.out.below (below_step hB5.out hB6)
            clear hr hback hC5 hCo5 hB5 htop hB6 hT1 hE1 hE9 hg1 hV13 htE hP hR4 hS4 hBw4 hT hTi hVi o3
            replace hP6 := Lib.hid hP6
            go_wp2_with fail
            go_loopw [79] (fun i wr => ∃ (k : Nat) (V : Fs), i = .int .i64 k ∧ k ≤ la.length ∧ Pw2 w wr vb V sb S ∧ V.Ok ∧ Holds V na S ∧ V.names.length ≤ 100 + 100 * k ∧ V.next ≤ 100 + 100 * k) (fun i _ => la.length - (intOf i).toNat)
            case atStart => exact ⟨0, V1, rfl, Nat.zero_le _, hP6.out, hTo.out, hH.out, by have := hg1'.out; omega, by have := hg1'.out; omega⟩
            case round =>
              clear hP6 hTo hH hg1'
              obtain ⟨k, V1, rfl, hk, hP, hok, hH, hm1, hm2⟩ := hrel
              by_cases hlt : k < la.length
              · obtain ⟨A, M, B, N, hR, hS, hVo, hSo, hap, hB⟩ := id hP
                have hvr := acts42_under hq.out hB
                obtain ⟨g, o, sv, rfl, ha, c0, c1, c2, c3, c4⟩ := hvr.at hlt
                obtain ⟨hsa, hnl⟩ := hla2.out _ (List.getElem_mem hlt)
                have hbn := hbd.out _ (List.getElem_mem hlt)
                generalize la[k] = a at *
                obtain ⟨d, nm, src, x1, x2⟩ := a
                dsimp only at *
                obtain ⟨ms1, ms2⟩ := build_small hsa
                have hso := ok_build src
                have hki : (k : Int) < (la.length : Int) := by omega
                obtain ⟨sA, sc, rfl, -⟩ := id ha
                have hVi := hR.inv
                have hBa := below_alloc (Below.refl wr.heap.size wr) (.cells #[.int .i64 d, .string (mkS nm), .slice sA src.length sc, .int .i64 x1, .int .i64 x2] 35)
                have hbk := heap_alloc_new wr (.cells #[.int .i64 d, .string (mkS nm), .slice sA src.length sc, .int .i64 x1, .int .i64 x2] 35)
                have ha3 := acts_under ha hBa
                have hR3 := hR.below hBa
                have hS3 := hS.below hBa
                have hB3 := below_step hB hBa
                clear hvr ha
                replace hP := Lib.hid hP
                replace hok := Lib.hid hok
                replace hH := Lib.hid hH
                replace hm1 := Lib.hid hm1
                replace hm2 := Lib.hid hm2
                replace hR := Lib.hid hR
                replace hS := Lib.hid hS
                replace hVo := Lib.hid hVo
                replace hSo := Lib.hid hSo
                replace hap := Lib.hid hap
                replace hB := Lib.hid hB
                replace hsa := Lib.hid hsa
                replace hnl := Lib.hid hnl
                replace hbn := Lib.hid hbn
                replace ms1 := Lib.hid ms1
                replace ms2 := Lib.hid ms2
                replace hso := Lib.hid hso
                replace hBa := Lib.hid hBa
                replace hbk := Lib.hid hbk
                replace ha3 := Lib.hid ha3
                replace hR3 := Lib.hid hR3
                replace hS3 := Lib.hid hS3
                replace hB3 := Lib.hid hB3
                replace hVi := Lib.hid hVi
                go_upto_region 15 with fail
                generalize wr.alloc (.cells #[.int .i64 d, .string (mkS nm), .slice sA src.length sc, .int .i64 x1, .int .i64 x2] 35) = w3 at *
                clear c0 c1 c2 c3 c4
                have d0 := cell_of (j := 0) (v := .int .i64 d) hbk.out rfl
                by_cases hd : d = 0
                · subst hd
                  have d1 := cell_of (j := 1) (v := .string (mkS nm)) hbk.out rfl
                  have d2 := cell_of (j := 2) (v := .slice sA src.length sc) hbk.out rfl
                  go_upto_region 16 with fail
                  have hBd : Below w3.heap.size w3 w3.drew := below_drewN (Below.refl w3.heap.size w3) 1
                  have hbl6 := build_calls _ src w3.drew (acts_under ha3.out hBd) hsa.out
                  have hSS : ∀ W, Below w3.heap.size w3 W → W.cell? ⟨wr.heap.size, 1, none⟩ = some (.string (mkS nm)) ∧ W.cell? ⟨wr.heap.size, 2, none⟩ = some (.slice sA src.length sc) := fun W hW => ⟨(hW.cell (cell_lt d1)).trans d1, (hW.cell (cell_lt d2)).trans d2⟩
                  have htk : ∀ W sb2 B2 N2, Below w3.heap.size w3 W → Rep W sb2 B2 N2 (Fs.build src) → _ := fun W sb2 B2 N2 hW hS => take_calls vb A M V1 sb2 B2 N2 (Fs.build src) nm W (hR3.out.below hW) hS hok.out.mt (by have := hnl.out; omega) (by have := hm1.out; have := ms1.out; omega) (by have := hm2.out; have := ms1.out; omega)
                  unfold ptr at htk
                  clear d0 d1 d2
                  replace hBd := Lib.hid hBd
                  replace hbl6 := Lib.hid hbl6
                  replace hSS := Lib.hid hSS
                  replace htk := Lib.hid htk
                  go_region_held3 (fun W => W.cell? ⟨wr.heap.size, 1, none⟩ = some (.string (mkS nm)) ∧ W.cell? ⟨wr.heap.size, 2, none⟩ = some (.slice sA src.length sc)) (first | with_reducible exact hSS.out _ hBd.out | with_reducible exact hc7.out | with_reducible exact hSS.out _ hB56.out) (first
                    | (go_at_call 11; (with_reducible refine hbl6.out.mono ?_); rintro e w6 ⟨sb6, B6, N6, rfl, hS6, hSo6, hB6⟩; have hB56 := below_step hBd.out hB6; have htk6 := htk.out w6 sb6 B6 N6 hB56 hS6; replace htk6 := Lib.hid htk6; replace hB56 := Lib.hid hB56; replace hS6 := Lib.hid hS6; replace hSo6 := Lib.hid hSo6; replace hB6 := Lib.hid hB6)
                    | (go_at_call 12; (with_reducible refine htk6.out.mono ?_); rintro e wt ⟨rfl, hst5⟩; have hbk7 := (hst5.keeps (hR3.out.below hB56.out) ((hB56.out.block wr.heap.size (Array.getElem?_eq_some_iff.1 hbk.out).1).trans hbk.out) (by decide) (by decide)).trans ((hB56.out.block wr.heap.size (Array.getElem?_eq_some_iff.1 hbk.out).1).trans hbk.out); have hc7 := And.intro (cell_of (j := 1) (v := .string (mkS nm)) hbk7 rfl) (cell_of (j := 2) (v := .slice sA src.length sc) hbk7 rfl); replace hbk7 := Lib.hid hbk7; replace hc7 := Lib.hid hc7; replace hst5 := Lib.hid hst5))
                  try (rename_i hHeld; clear hHeld)
                  have hP8 := Pw2.step (hR3.out.below hB56.out) (hS3.out.below hB56.out) hVo.out hSo.out hap.out (below_step hB3.out hB56.out) hst5.out
                  have hok8 := ok_take hok.out nm (Fs.build src)
                  obtain ⟨hI0, hi8⟩ := hH.out.take (nm2 := nm) (S2 := Fs.build src) hVi.out hok.out hS6.out.inv hso.out
                  have hI8 : ((takeE V1 nm (Fs.build src)).1.stat na).2 = 0 → Holds (takeE V1 nm (Fs.build src)).1 na S := fun _ => hI0
                  have hn8 : (takeE V1 nm (Fs.build src)).1.names.length ≤ 100 + 100 * k + 100 ∧ (takeE V1 nm (Fs.build src)).1.next ≤ 100 + 100 * k + 100 := by
                    obtain ⟨g1, g2⟩ := take_grow V1 nm (Fs.build src)
                    have := hm1.out
                    have := hm2.out
                    have := ms1.out
                    omega
                  clear hI0
                  generalize (takeE V1 nm (Fs.build src)).1 = V2 at *
                  generalize (takeE V1 nm (Fs.build src)).2 = pe at *
                  clear hst5 hR3 hS3 hB3 hbk ha3 hP hR hS hB hBa hVo hSo hap hBd hbl6 hSS htk htk6 hB56 hS6 hSo6 hB6 hbk7 hc7
                  obtain ⟨A8, M8, B8, N8, hR8, hS8, _, _, _, hBw8⟩ := id hP8
                  have hst := stat_bl vb A8 M8 V2 na wt hR8 (by have := hna.out; omega)
                  have hres := fun W hB hz => restore_yes vb A8 M8 V2 na W (hR8.below hB) hok8.mt (by have := hna.out; omega) (by omega) hz
                  by_cases hz : (V2.stat na).2 = 0
                  · have hH8 := hI8 hz
                    have hfz := find_any hH8.may (hH8.snap hi8)
                    have hback := hH8.back hi8 hok8 hSi.out oS.out
                    generalize V2.stat na = st at *
                    obtain ⟨⟨s1, s2, s3, s4, ⟨m1, m2, m3, m4, m5⟩, s5⟩, se⟩ := st
                    unfold statV statCells ptr at hst
                    dsimp only at hst hz
                    subst hz
                    clear hI8
                    replace hP8 := Lib.hid hP8
                    replace hR8 := Lib.hid hR8
                    replace hS8 := Lib.hid hS8
                    replace hBw8 := Lib.hid hBw8
                    replace hst := Lib.hid hst
                    replace hres := Lib.hid hres
                    replace hH8 := Lib.hid hH8
                    replace hfz := Lib.hid hfz
                    replace hback := Lib.hid hback
                    replace hok8 := Lib.hid hok8
                    replace hi8 := Lib.hid hi8
                    replace hn8 := Lib.hid hn8
                    go_wp2_with fail
                    (with_reducible refine hst.out.mono ?_)
                    rintro e w9 ⟨rfl, hB9⟩
                    have hB10 := below_step hB9 (below_alloc (Below.refl w9.heap.size w9) (.cells #[.int .i64 s1, .int .i64 s2, .int .i64 s3, .int .i64 s4, .int .i64 m1, .int .i64 m2, .int .i64 m3, .int .i64 m4, .int .i64 m5, .string (mkS s5)] 42))
                    have hr := hres.out _ hB10 hfz.out
                    replace hB9 := Lib.hid hB9
                    replace hB10 := Lib.hid hB10
                    replace hr := Lib.hid hr
                    go_wp2_with fail
                    generalize w9.alloc (.cells #[.int .i64 s1, .int .i64 s2, .int .i64 s3, .int .i64 s4, .int .i64 m1, .int .i64 m2, .int .i64 m3, .int .i64 m4, .int .i64 m5, .string (mkS s5)] 42) = w10 at *
                    (with_reducible refine hr.out.mono ?_)
                    rintro e w11 ⟨tc, C, MC, rfl, hC, hCo, hB11⟩
                    have hB12 := below_step hB10.out hB11
                    have htop := top_calls tc C MC (restE V2 na) sb B8 N8 S w11 hC (hS8.out.below hB12) hback.out
                    replace hC := Lib.hid hC
                    replace hCo := Lib.hid hCo
                    replace hB11 := Lib.hid hB11
                    replace hB12 := Lib.hid hB12
                    replace htop := Lib.hid htop
                    go_wp2_with fail
                    (with_reducible refine htop.out.mono ?_)
                    rintro e w12 ⟨rfl, hB13⟩
                    have hP12 := hP8.out.below (below_step hB12.out hB13)
                    clear hB13
                    replace hP12 := Lib.hid hP12
                    go_wp2
                    go_roundw
                    case rel => exact ⟨k + 1, V2, by go_num, by omega, hP12.out, hok8.out, hH8.out, by have := hn8.out; omega, by have := hn8.out; omega⟩
                    case measure => simp [intOf]; omega
                  · have t5 : ((V2.stat na).2 != 0) = true := by simpa using hz
                    generalize V2.stat na = st at *
                    obtain ⟨⟨s1, s2, s3, s4, ⟨m1, m2, m3, m4, m5⟩, s5⟩, se⟩ := st
                    unfold statV statCells ptr at hst
                    dsimp only at hst hz t5
                    clear hI8 hres
                    replace hP8 := Lib.hid hP8
                    replace hR8 := Lib.hid hR8
                    replace hS8 := Lib.hid hS8
                    replace hBw8 := Lib.hid hBw8
                    replace hst := Lib.hid hst
                    replace hok8 := Lib.hid hok8
                    replace hi8 := Lib.hid hi8
                    replace hn8 := Lib.hid hn8
                    go_wp2_with fail
                    (with_reducible refine hst.out.mono ?_)
                    rintro e w9 ⟨rfl, hB9⟩
                    have hB10 := below_step hBw8.out (below_step hB9 (below_alloc (Below.refl w9.heap.size w9) (.cells #[.int .i64 s1, .int .i64 s2, .int .i64 s3, .int .i64 s4, .int .i64 m1, .int .i64 m2, .int .i64 m3, .int .i64 m4, .int .i64 m5, .string (mkS s5)] 42)))
                    replace hB9 := Lib.hid hB9
                    replace hB10 := Lib.hid hB10
                    go_wp2_with fail
                    generalize w9.alloc (.cells #[.int .i64 s1, .int .i64 s2, .int .i64 s3, .int .i64 s4, .int .i64 m1, .int .i64 m2, .int .i64 m3, .int .i64 m4, .int .i64 m5, .string (mkS s5)] 42) = w10 at *
                    (with_reducible refine (haw.out _).mono ?_)
                    rintro e w11 ⟨rfl, hB11⟩
                    have hB12 := below_step hB10.out hB11
                    clear hB11
                    replace hB12 := Lib.hid hB12
                    go_wp2
                    go_ret
                    exact ⟨rfl, hB12.out⟩
                · have t3 : (d == 0) = false := by simpa using hd
                  have d3 := cell_of (j := 3) (v := .int .i64 x1) hbk.out rfl
                  have d4 := cell_of (j := 4) (v := .int .i64 x2) hbk.out rfl
                  have hpr := prune_calls vb A M V1 x1 x2 w3 hR3.out hok.out.mt (by have := hm1.out; omega) hbn.out
                  have hg := prune_grow V1 x1 x2
                  have o8 := ok_prune hok.out x1 x2
                  obtain ⟨h81, h82⟩ := hH.out.prune hVi.out x1 x2
                  unfold ptr PruneRes at hpr
                  replace hpr := Lib.hid hpr
                  replace hg := Lib.hid hg
                  replace o8 := Lib.hid o8
                  replace h81 := Lib.hid h81
                  replace h82 := Lib.hid h82
                  go_wp2_with fail
                  (with_reducible refine hpr.out.mono ?_)
                  rintro e wt ⟨v', rfl, _, hst5⟩
                  have hP8 := Pw2.step hR3.out hS3.out hVo.out hSo.out hap.out hB3.out hst5
                  have hok8 := o8.out
                  have hi8 := h81.out
                  have hI8 := h82.out
                  have hn8 : (pruneE V1 x1 x2).1.names.length ≤ 100 + 100 * k + 100 ∧ (pruneE V1 x1 x2).1.next ≤ 100 + 100 * k + 100 := by
                    obtain ⟨g1, g2⟩ := hg.out
                    have := hm1.out
                    have := hm2.out
                    omega
                  generalize (pruneE V1 x1 x2).1 = V2 at *
                  generalize (pruneE V1 x1 x2).2.2 = pe at *
                  clear hst5 hpr hg o8 h81 h82 d0 d3 d4 hR3 hS3 hB3 hbk ha3 hP hR hS hB hBa hVo hSo hap
                  obtain ⟨A8, M8, B8, N8, hR8, hS8, _, _, _, hBw8⟩ := id hP8
                  have hst := stat_bl vb A8 M8 V2 na wt hR8 (by have := hna.out; omega)
                  have hres := fun W hB hz => restore_yes vb A8 M8 V2 na W (hR8.below hB) hok8.mt (by have := hna.out; omega) (by omega) hz
                  by_cases hz : (V2.stat na).2 = 0
                  · have hH8 := hI8 hz
                    have hfz := find_any hH8.may (hH8.snap hi8)
                    have hback := hH8.back hi8 hok8 hSi.out oS.out
                    generalize V2.stat na = st at *
                    obtain ⟨⟨s1, s2, s3, s4, ⟨m1, m2, m3, m4, m5⟩, s5⟩, se⟩ := st
                    unfold statV statCells ptr at hst
                    dsimp only at hst hz
                    subst hz
                    clear hI8
                    replace hP8 := Lib.hid hP8
                    replace hR8 := Lib.hid hR8
                    replace hS8 := Lib.hid hS8
                    replace hBw8 := Lib.hid hBw8
                    replace hst := Lib.hid hst
                    replace hres := Lib.hid hres
                    replace hH8 := Lib.hid hH8
                    replace hfz := Lib.hid hfz
                    replace hback := Lib.hid hback
                    replace hok8 := Lib.hid hok8
                    replace hi8 := Lib.hid hi8
                    replace hn8 := Lib.hid hn8
                    go_wp2_with fail
                    (with_reducible refine hst.out.mono ?_)
                    rintro e w9 ⟨rfl, hB9⟩
                    have hB10 := below_step hB9 (below_alloc (Below.refl w9.heap.size w9) (.cells #[.int .i64 s1, .int .i64 s2, .int .i64 s3, .int .i64 s4, .int .i64 m1, .int .i64 m2, .int .i64 m3, .int .i64 m4, .int .i64 m5, .string (mkS s5)] 42))
                    have hr := hres.out _ hB10 hfz.out
                    replace hB9 := Lib.hid hB9
                    replace hB10 := Lib.hid hB10
                    replace hr := Lib.hid hr
                    go_wp2_with fail
                    generalize w9.alloc (.cells #[.int .i64 s1, .int .i64 s2, .int .i64 s3, .int .i64 s4, .int .i64 m1, .int .i64 m2, .int .i64 m3, .int .i64 m4, .int .i64 m5, .string (mkS s5)] 42) = w10 at *
                    (with_reducible refine hr.out.mono ?_)
                    rintro e w11 ⟨tc, C, MC, rfl, hC, hCo, hB11⟩
                    have hB12 := below_step hB10.out hB11
                    have htop := top_calls tc C MC (restE V2 na) sb B8 N8 S w11 hC (hS8.out.below hB12) hback.out
                    replace hC := Lib.hid hC
                    replace hCo := Lib.hid hCo
                    replace hB11 := Lib.hid hB11
                    replace hB12 := Lib.hid hB12
                    replace htop := Lib.hid htop
                    go_wp2_with fail
                    (with_reducible refine htop.out.mono ?_)
                    rintro e w12 ⟨rfl, hB13⟩
                    have hP12 := hP8.out.below (below_step hB12.out hB13)
                    clear hB13
                    replace hP12 := Lib.hid hP12
                    go_wp2
                    go_roundw
                    case rel => exact ⟨k + 1, V2, by go_num, by omega, hP12.out, hok8.out, hH8.out, by have := hn8.out; omega, by have := hn8.out; omega⟩
                    case measure => simp [intOf]; omega
                  · have t5 : ((V2.stat na).2 != 0) = true := by simpa using hz
                    generalize V2.stat na = st at *
                    obtain ⟨⟨s1, s2, s3, s4, ⟨m1, m2, m3, m4, m5⟩, s5⟩, se⟩ := st
                    unfold statV statCells ptr at hst
                    dsimp only at hst hz t5
                    clear hI8 hres
                    replace hP8 := Lib.hid hP8
                    replace hR8 := Lib.hid hR8
                    replace hS8 := Lib.hid hS8
                    replace hBw8 := Lib.hid hBw8
                    replace hst := Lib.hid hst
                    replace hok8 := Lib.hid hok8
                    replace hi8 := Lib.hid hi8
                    replace hn8 := Lib.hid hn8
                    go_wp2_with fail
                    (with_reducible refine hst.out.mono ?_)
                    rintro e w9 ⟨rfl, hB9⟩
                    have hB10 := below_step hBw8.out (below_step hB9 (below_alloc (Below.refl w9.heap.size w9) (.cells #[.int .i64 s1, .int .i64 s2, .int .i64 s3, .int .i64 s4, .int .i64 m1, .int .i64 m2, .int .i64 m3, .int .i64 m4, .int .i64 m5, .string (mkS s5)] 42)))
                    replace hB9 := Lib.hid hB9
                    replace hB10 := Lib.hid hB10
                    go_wp2_with fail
                    generalize w9.alloc (.cells #[.int .i64 s1, .int .i64 s2, .int .i64 s3, .int .i64 s4, .int .i64 m1, .int .i64 m2, .int .i64 m3, .int .i64 m4, .int .i64 m5, .string (mkS s5)] 42) = w10 at *
                    (with_reducible refine (haw.out _).mono ?_)
                    rintro e w11 ⟨rfl, hB11⟩
                    have hB12 := below_step hB10.out hB11
                    clear hB11
                    replace hB12 := Lib.hid hB12
                    go_wp2
                    go_ret
                    exact ⟨rfl, hB12.out⟩
              · obtain ⟨_, _, _, _, _, _, _, _, _, hB⟩ := hP
                replace hB := Lib.hid hB
                go_wp2_with fail
                (with_reducible refine (haw.out _).mono ?_)
                rintro e w9 ⟨rfl, hB9⟩
                have hB10 := below_step hB.out hB9
                replace hB10 := Lib.hid hB10
                replace hB9 := Lib.hid hB9
                go_wp2
                go_ret
                exact ⟨rfl, hB10.out⟩
          · have t1 : (e1 != 0) = true := by simpa using d1
            obtain rfl := hE1.out d1
            have hres := fun hz => restore_yes vb A4 M4 V1 na w4 hR4 o3.out.mt (by have := hna.out; omega) (by have := hn1.out; omega) hz
            have hrno := fun hz => restore_no vb A4 M4 V1 na w4 hR4 o3.out.mt (by have := hna.out; omega) (by have := hn1.out; omega) hz
            have hF9 := find_nine (V := V1) (nm := na)
            generalize (findE V1 na).2.2 = fe at *
            cases hm : mayS na
            · obtain rfl := hE9.out.1 hm
              obtain rfl := hF9.1 hm
              have hr := hrno (by decide)
              have hBw := hBw4
              clear hR4 hS4 hVo4 hSo4 hap4 hres hrno hF9
              replace hr := Lib.hid hr
              replace hBw := Lib.hid hBw
              replace hP := Lib.hid hP
              replace hBw4 := Lib.hid hBw4
              go_wp2_with fail
              (with_reducible refine (hr.out).mono ?_)
              rintro e w5 ⟨rfl, hB5⟩
              have hB6 := below_step hBw.out hB5
              replace hB6 := Lib.hid hB6
              replace hB5 := Lib.hid hB5
              go_wp2_with fail
              (with_reducible refine (haw.out _).mono ?_)
              rintro e w9 ⟨rfl, hB9⟩
              have hB10 := below_step hB6.out hB9
              replace hB10 := Lib.hid hB10
              replace hB9 := Lib.hid hB9
              go_wp2
              go_ret
              exact ⟨rfl, hB10.out⟩
            · have t2 : (e1 == 9) = false := by simpa using hE9.out.2 hm
              rcases hF9.2 hm with rfl | rfl
              · have hr := hres rfl
                have hBw := hBw4
                clear hR4 hS4 hVo4 hSo4 hap4 hres hrno hF9
                replace hr := Lib.hid hr
                replace hBw := Lib.hid hBw
                replace hP := Lib.hid hP
                replace hBw4 := Lib.hid hBw4
                go_wp2_with fail
                (with_reducible refine (hr.out).mono ?_)
                rintro e w5 ⟨tc, C, MC, rfl, hC5, hCo5, hB5⟩
                have hB6 := below_step hBw.out hB5
                replace hB6 := Lib.hid hB6
                replace hB5 := Lib.hid hB5
                replace hC5 := Lib.hid hC5
                replace hCo5 := Lib.hid hCo5
                go_wp2_with fail
                (with_reducible refine (haw.out _).mono ?_)
                rintro e w9 ⟨rfl, hB9⟩
                have hB10 := below_step hB6.out hB9
                replace hB10 := Lib.hid hB10
                replace hB9 := Lib.hid hB9
                go_wp2
                go_ret
                exact ⟨rfl, hB10.out⟩
              · have hr := hrno (by decide)
                have hBw := hBw4
                clear hR4 hS4 hVo4 hSo4 hap4 hres hrno hF9
                replace hr := Lib.hid hr
                replace hBw := Lib.hid hBw
                replace hP := Lib.hid hP
                replace hBw4 := Lib.hid hBw4
                go_wp2_with fail
                (with_reducible refine (hr.out).mono ?_)
                rintro e w5 ⟨rfl, hB5⟩
                have hB6 := below_step hBw.out hB5
                replace hB6 := Lib.hid hB6
                replace hB5 := Lib.hid hB5
                go_wp2_with fail
                (with_reducible refine (haw.out _).mono ?_)
                rintro e w9 ⟨rfl, hB9⟩
                have hB10 := below_step hB6.out hB9
                replace hB10 := Lib.hid hB10
                replace hB9 := Lib.hid hB9
                go_wp2
                go_ret
                exact ⟨rfl, hB10.out⟩
end Go.Proofs.YtocbjhhnginebaaGreat
