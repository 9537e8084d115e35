/-
  remoralaw42.SnapTwice.
-/
import Derived.Test.YtocbjhhnginebaaGreatB6
namespace Go.Proofs.YtocbjhhnginebaaGreat
open Go.RowKit
set_option linter.unusedSimpArgs false
set_option linter.unusedVariables false

/-- Two trees of the call's own, apart. -/
def Pw (w W : World) (vb : Nat) (V : Fs) (sb : Nat) (S : Fs) : Prop :=
  ∃ A M B N, Rep W vb A M V ∧ Rep W sb B N S ∧ (∀ b, Own vb A M V b → w.heap.size ≤ b) ∧ (∀ b, Own sb B N S b → w.heap.size ≤ b) ∧ (∀ b, Own sb B N S b → ¬ Own vb A M V b) ∧ Below w.heap.size w W
section
variable {w W W' : World} {vb sb : Nat} {V S : Fs}
theorem Pw.below (h : Pw w W vb V sb S) (hB : Below W.heap.size W W') : Pw w W' vb V sb S := by
  obtain ⟨A, M, B, N, h1, h2, h3, h4, h5, h6⟩ := h
  exact ⟨A, M, B, N, h1.below hB, h2.below hB, h3, h4, h5, below_step h6 hB⟩
theorem pw_take (h : Pw w W vb V sb S) (nm : Bytes) (hM : MtAll V) (hn : nm.length ≤ 1000) (hf : V.names.length + S.names.length ≤ 500000) (hnx : V.next + S.names.length < 4611686018427387000) :
    Calls Tryz.prog 12 #[.pointer (some ⟨vb, 0, none⟩), .string (mkS nm), .pointer (some ⟨sb, 0, none⟩)] W fun e w' => e = .returned (.int .i64 (takeE V nm S).2) ∧ Pw w w' vb (takeE V nm S).1 sb S := by
  obtain ⟨A, M, B, N, h1, h2, h3, h4, h5, h6⟩ := h
  refine (take_calls vb A M V sb B N S nm W h1 h2 hM (by omega) hf hnx).mono ?_
  rintro e w' ⟨rfl, hst⟩
  obtain ⟨g1, A', M', g2, g3, g4⟩ := Stp.two h2 h1 (fun b hb hb2 => h5 b hb hb2) hst
  obtain ⟨hB, _⟩ := Stp.mine h6 h3 hst
  refine ⟨rfl, ⟨A', M', B, N, g2, g1, fun b hb => ?_, h4, g3, hB⟩⟩
  rcases g4 b hb with h | h
  · exact h3 b h
  · exact Nat.le_trans h6.size h
end

set_option maxHeartbeats 16000000 in
set_option maxRecDepth 100000 in
theorem snapTwice_walk (v : Value) (l : List Act17) (u : Value) (m : List Act17) (a b : ByteArray) (w : World) (hv : Acts w v l) (hu : Acts w u m) (hsa : a.size ≤ 140737488351232) (hsb : b.size ≤ 140737488351232) :
    Calls Tryz.prog 4 #[v, u, .string a, .string b] w fun e w' => e = .returned (.bool true) ∧ Below w.heap.size w w' := by
  have haw := fun W => awake42_calls W
  have hs1 := small_calls v l _ hv
  have hs2 := small_calls u m _ hu
  obtain ⟨vA, vc, rfl, -⟩ := id hv
  obtain ⟨uA, uc, rfl, -⟩ := id hu
  replace haw := Lib.hid haw
  replace hv := Lib.hid hv
  replace hu := Lib.hid hu
  cases c1 : small l
  · rw [c1] at hs1
    replace hs1 := Lib.hid hs1
    replace hs2 := Lib.hid hs2
    go_enter Tryz.func4, Tryz.ntmps4
    go_wp2_with fail
    (with_reducible refine (hs1.out).mono ?_)
    rintro e w1 ⟨rfl, rfl⟩
    go_wp2_with fail
    (with_reducible refine (haw.out _).mono ?_)
    rintro e w9 ⟨rfl, hB9⟩
    go_wp2
    go_ret
    exact ⟨rfl, hB9⟩
  · rw [c1] at hs1
    cases c2 : small m
    · rw [c2] at hs2
      replace hs1 := Lib.hid hs1
      replace hs2 := Lib.hid hs2
      go_enter Tryz.func4, Tryz.ntmps4
      go_wp2_with fail
      (with_reducible refine (hs1.out).mono ?_)
      rintro e w1 ⟨rfl, rfl⟩
      go_wp2_with fail
      (with_reducible refine (hs2.out).mono ?_)
      rintro e w1 ⟨rfl, rfl⟩
      go_wp2_with fail
      (with_reducible refine (haw.out _).mono ?_)
      rintro e w9 ⟨rfl, hB9⟩
      go_wp2
      go_ret
      exact ⟨rfl, hB9⟩
    · rw [c2] at hs2
      by_cases c3 : 300 < a.size
      · have c3' : (300 : Int) < (a.size : Int) := by omega
        replace hs1 := Lib.hid hs1
        replace hs2 := Lib.hid hs2
        go_enter Tryz.func4, Tryz.ntmps4
        go_wp2_with fail
        (with_reducible refine (hs1.out).mono ?_)
        rintro e w1 ⟨rfl, rfl⟩
        go_wp2_with fail
        (with_reducible refine (hs2.out).mono ?_)
        rintro e w1 ⟨rfl, rfl⟩
        go_wp2_with fail
        (with_reducible refine (haw.out _).mono ?_)
        rintro e w9 ⟨rfl, hB9⟩
        go_wp2
        go_ret
        exact ⟨rfl, hB9⟩
      · have c3' : ¬ (300 : Int) < (a.size : Int) := by omega
        by_cases c4 : 300 < b.size
        · have c4' : (300 : Int) < (b.size : Int) := by omega
          replace hs1 := Lib.hid hs1
          replace hs2 := Lib.hid hs2
          go_enter Tryz.func4, Tryz.ntmps4
          go_wp2_with fail
          (with_reducible refine (hs1.out).mono ?_)
          rintro e w1 ⟨rfl, rfl⟩
          go_wp2_with fail
          (with_reducible refine (hs2.out).mono ?_)
          rintro e w1 ⟨rfl, rfl⟩
          go_wp2_with fail
          (with_reducible refine (haw.out _).mono ?_)
          rintro e w9 ⟨rfl, hB9⟩
          go_wp2
          go_ret
          exact ⟨rfl, hB9⟩
        · have c4' : ¬ (300 : Int) < (b.size : Int) := by omega
          have hbl1 := build_calls (.slice vA l.length vc) l w hv.out c1
          obtain ⟨n1, n2⟩ := build_small c1
          obtain ⟨n3, n4⟩ := build_small c2
          have o1 := ok_build l
          have o2 := ok_build m
          have hptr := fun (W : World) (tb : Nat) => run_eql_nil_ptr (P := Tryz.prog) W ⟨tb, 0, none⟩ Tryz.underlying27
          replace hs1 := Lib.hid hs1
          replace hs2 := Lib.hid hs2
          replace hbl1 := Lib.hid hbl1
          replace o1 := Lib.hid o1
          replace o2 := Lib.hid o2
          replace n1 := Lib.hid n1
          replace n2 := Lib.hid n2
          replace n3 := Lib.hid n3
          replace n4 := Lib.hid n4
          replace c1 := Lib.hid c1
          replace c2 := Lib.hid c2
          replace hptr := Lib.hid hptr
          go_enter Tryz.func4, Tryz.ntmps4
          go_wp2_with fail
          (with_reducible refine (hs1.out).mono ?_)
          rintro e w1 ⟨rfl, rfl⟩
          go_wp2_with fail
          (with_reducible refine (hs2.out).mono ?_)
          rintro e w1 ⟨rfl, rfl⟩
          go_wp2_with fail
          (with_reducible refine (hbl1.out).mono ?_)
          rintro e w1 ⟨vb, A, M, rfl, hV1, hVo1, hB1⟩
          have hbl2 := build_calls (.slice uA m.length uc) m w1 (acts_under hu.out hB1) c2.out
          replace hbl2 := Lib.hid hbl2
          replace hV1 := Lib.hid hV1
          replace hVo1 := Lib.hid hVo1
          replace hB1 := Lib.hid hB1
          go_wp2_with fail
          (with_reducible refine (hbl2.out).mono ?_)
          rintro e w2 ⟨sb, B, N, rfl, hS2, hSo2, hB2⟩
          have hP : Pw w w2 vb (Fs.build l) sb (Fs.build m) := by
            refine ⟨A, M, B, N, hV1.out.below hB2, hS2, hVo1.out, fun b hb => Nat.le_trans hB1.out.size (hSo2 b hb), fun b hb hb2 => ?_, below_step hB1.out hB2⟩
            have := hV1.out.lt hb2
            have := hSo2 b hb
            omega
          have hVi := hV1.out.inv
          have hSi := hS2.inv
          obtain ⟨na, rfl⟩ : ∃ na, a = mkS na := ⟨bl a, (mkS_bl a).symm⟩
          obtain ⟨nb, rfl⟩ : ∃ nb, b = mkS nb := ⟨bl b, (mkS_bl b).symm⟩
          have hna : na.length ≤ 300 := by have := mkS_size na; omega
          have hnb : nb.length ≤ 300 := by have := mkS_size nb; omega
          have htk := pw_take hP na o1.out.mt (by omega) (by have := n1.out; have := n3.out; omega) (by have := n2.out; have := n3.out; omega)
          have hg1 := take_grow (Fs.build l) na (Fs.build m)
          have hT1 := fun h => take_done (V := Fs.build l) (nm := na) (S := Fs.build m) hVi o1.out hSi o2.out h
          have o3 := ok_take o1.out na (Fs.build m)
          have hdone := fun V1 h1 h2 => twice_done (V := Fs.build l) (V1 := V1) (a := na) (b := nb) (S := Fs.build m) hVi o1.out hSi o2.out h1 h2
          have p1 := hptr.out w2 vb
          have p2 := hptr.out w2 sb
          have hVn := n1.out
          have hVx := n2.out
          have hSn := n3.out
          clear hV1 hVo1 hB1 hbl2 hS2 hSo2 hB2 hbl1 hs1 hs2
          generalize Fs.build l = V at *
          generalize Fs.build m = S at *
          generalize htE : takeE V na S = te at *
          obtain ⟨V1, e1⟩ := te
          dsimp only at *
          replace hP := Lib.hid hP
          replace hVi := Lib.hid hVi
          replace hSi := Lib.hid hSi
          replace hna := Lib.hid hna
          replace hnb := Lib.hid hnb
          replace htk := Lib.hid htk
          replace hg1 := Lib.hid hg1
          replace hT1 := Lib.hid hT1
          replace o3 := Lib.hid o3
          replace hdone := Lib.hid hdone
          replace hVn := Lib.hid hVn
          replace hVx := Lib.hid hVx
          replace hSn := Lib.hid hSn
          replace htE := Lib.hid htE
          go_wp2_with fail
          (with_reducible refine (htk.out).mono ?_)
          rintro e w3 ⟨rfl, hP3⟩
          by_cases d1 : e1 = 0
          · subst d1
            have hT := hT1.out rfl
            have htk2 := pw_take hP3 nb o3.out.mt (by have := hnb.out; omega) (by have := hg1.out; have := hVn.out; have := hSn.out; omega) (by have := hg1.out; have := hVx.out; have := hSn.out; omega)
            have hg2 := take_grow V1 nb S
            have o4 := ok_take o3.out nb S
            have hd := fun h => hdone.out V1 hT h
            have hT2 := fun h => take_done (V := V1) (nm := nb) (S := S) hT.inv hT.ok hSi.out o2.out h
            generalize takeE V1 nb S = te2 at *
            obtain ⟨V2, e2⟩ := te2
            dsimp only at *
            replace hT := Lib.hid hT
            replace htk2 := Lib.hid htk2
            replace hg2 := Lib.hid hg2
            replace o4 := Lib.hid o4
            replace hd := Lib.hid hd
            replace hT2 := Lib.hid hT2
            replace hP3 := Lib.hid hP3
            go_wp2_with fail
            (with_reducible refine (htk2.out).mono ?_)
            rintro e w4 ⟨rfl, hP4⟩
            by_cases d2 : e2 = 0
            · subst d2
              obtain ⟨q1, q2, q3, q4, q5⟩ := hd.out rfl
              have hT2' := hT2.out rfl
              obtain ⟨A4, M4, B4, N4, hR4, hS4, _, _, _, hBw4⟩ := id hP4
              have hn4 : V2.names.length ≤ 1000 := by have := hg1.out; have := hg2.out; have := hVn.out; have := hSn.out; omega
              have hpa := paths_calls sb B4 N4 S w4 hS4 (by have := hSn.out; omega)
              have hlen : S.paths.length ≤ 1000 := by
                rw [paths_len]
                have := below_few S []
                have := hSn.out
                omega
              have hps := fun p hp => path_short hS4.inv (p := p) hp
              have hst := fun W p hB (hp : p.length ≤ 1000) => stat_bl sb B4 N4 S p W (hS4.below hB) (by omega)
              have hfl : S.files = (S.paths.filter fun p => decide ((S.stat p).1.kind = 1)).length := rfl
              have hsd := fun W hB => snapshared_calls vb A4 M4 V2 nb W (hR4.below hB) hT2'.ok.mt (by have := hnb.out; omega) (by omega)
              have hr1 := fun W hB => restore_yes vb A4 M4 V2 na W (hR4.below hB) hT2'.ok.mt (by have := hna.out; omega) (by omega) q2
              have hr2 := fun W hB => restore_yes vb A4 M4 V2 nb W (hR4.below hB) hT2'.ok.mt (by have := hnb.out; omega) (by omega) q3
              have hnm := fun W hB => snapnames_calls vb A4 M4 V2 W (hR4.below hB) hT2'.ok.mt (by omega)
              rw [q1] at hsd
              dsimp only at hsd
              have hp3 := hptr.out w4 vb
              have hp4 := hptr.out w4 sb
              unfold ptr at hpa hst hsd hnm
              generalize hsk : (fun p => decide ((S.stat p).1.kind = 1)) = sk at *
              generalize S.paths = PL at *
              generalize S.files = SF at *
              replace q1 := Lib.hid q1
              replace q2 := Lib.hid q2
              replace q3 := Lib.hid q3
              replace q4 := Lib.hid q4
              replace q5 := Lib.hid q5
              replace hT2' := Lib.hid hT2'
              replace hP4 := Lib.hid hP4
              replace hR4 := Lib.hid hR4
              replace hS4 := Lib.hid hS4
              replace hBw4 := Lib.hid hBw4
              replace hn4 := Lib.hid hn4
              replace hpa := Lib.hid hpa
              replace hlen := Lib.hid hlen
              replace hps := Lib.hid hps
              replace hst := Lib.hid hst
              replace hfl := Lib.hid hfl
              replace hsd := Lib.hid hsd
              replace hr1 := Lib.hid hr1
              replace hr2 := Lib.hid hr2
              replace hnm := Lib.hid hnm
              replace hsk := Lib.hid hsk
              go_wp2_with fail
              clear hp3 hp4 p1 p2
              (with_reducible refine hpa.out.mono ?_)
              rintro e w5 ⟨⟨vp, rfl, hPs⟩, hB5⟩
              obtain ⟨pA, pc, rfl, hp1, hp2⟩ := own_shape hPs.own
              unfold maxLen at hp2
              have hBw5 := below_step hBw4.out hB5
              replace hPs := Lib.hid hPs
              replace hB5 := Lib.hid hB5
              replace hBw5 := Lib.hid hBw5
              go_wp2_with fail
              go_loopw [11, 78] (fun c i wr => ∃ k : Nat, i = .int .i64 k ∧ k ≤ PL.length ∧ c = .int .i64 (((PL.take k).filter sk).length : Nat) ∧ Below w5.heap.size w5 wr) (fun _ i _ => PL.length - (intOf i).toNat)
              case atStart => exact ⟨0, rfl, Nat.zero_le _, rfl, Below.refl _ _⟩
              case round =>
                obtain ⟨k, rfl, hk, rfl, hB6⟩ := hrel
                by_cases hlt : k < PL.length
                · have hRw := Strs.rd (own_below hPs.out hB6)
                  obtain ⟨ga, oa, rfl, r1⟩ := hRw.cell hlt
                  have hp := hps.out _ (List.getElem_mem hlt)
                  have hyes := filter_yes (f := sk) hlt
                  have hno := filter_no (f := sk) hlt
                  have hsp : sk PL[k] = decide ((S.stat PL[k]).1.kind = 1) := by rw [← hsk.out]
                  have hB46 := below_step hB5.out hB6
                  have hs6 := hst.out wr PL[k] hB46 (by omega)
                  have hkk : (k : Int) < (PL.length : Int) := by omega
                  have hcnt : ((PL.take k).filter sk).length ≤ 1000 := by
                    have h1 := List.length_filter_le sk (PL.take k)
                    rw [List.length_take] at h1
                    have := hlen.out
                    omega
                  generalize hF2 : ((PL.take (k + 1)).filter sk) = F2 at *
                  generalize ((PL.take k).filter sk) = F1 at *
                  generalize PL[k] = p at *
                  generalize sk p = sp at *
                  generalize S.stat p = st at *
                  obtain ⟨⟨s1, s2, s3, s4, ⟨m1, m2, m3, m4, m5⟩, s5⟩, se⟩ := st
                  unfold statV statCells at hs6
                  dsimp only at *
                  clear hRw hp
                  replace hyes := Lib.hid hyes
                  replace hno := Lib.hid hno
                  replace hsp := Lib.hid hsp
                  replace hB46 := Lib.hid hB46
                  replace hs6 := Lib.hid hs6
                  replace hB6 := Lib.hid hB6
                  replace hcnt := Lib.hid hcnt
                  replace hF2 := Lib.hid hF2
                  go_wp2_with fail
                  (with_reducible refine (hs6.out).mono ?_)
                  rintro e w7 ⟨rfl, hB7⟩
                  have hB8 := below_step hB7 (below_alloc (Below.refl w7.heap.size w7) (.cells #[.int .i64 s1, .int .i64 s2, .int .i64 s3, .int .i64 s4, .int .i64 m1, .int .i64 m2, .int .i64 m3, .int .i64 m4, .int .i64 m5, .string (mkS s5)] 42))
                  have hB58 := below_step hB6.out hB8
                  have hb8 := heap_alloc_new w7 (.cells #[.int .i64 s1, .int .i64 s2, .int .i64 s3, .int .i64 s4, .int .i64 m1, .int .i64 m2, .int .i64 m3, .int .i64 m4, .int .i64 m5, .string (mkS s5)] 42)
                  have x0 := cell_of (j := 0) (v := .int .i64 s1) hb8 rfl
                  have hc2 := hcnt.out
                  have hwk : IntKind.i64.wrap ((F1.length : Int) + 1) = (F1.length : Int) + 1 := IntWalk.i64_in _ (by omega)
                  clear r1
                  replace hB7 := Lib.hid hB7
                  replace hB8 := Lib.hid hB8
                  replace hB58 := Lib.hid hB58
                  replace hb8 := Lib.hid hb8
                  by_cases z1 : s1 = 1
                  · have hsq := hsp.out
                    rw [decide_eq_true z1] at hsq
                    have hF := hyes.out hsq
                    subst z1
                    replace hF := Lib.hid hF
                    go_wp2
                    go_roundw
                    case rel => exact ⟨k + 1, by go_num, by omega, by rw [hF2.out, hF.out, List.length_append]; rfl, hB58.out⟩
                    case measure => simp [intOf]; omega
                  · have hsq := hsp.out
                    rw [decide_eq_false z1] at hsq
                    have hF := hno.out hsq
                    have t1 : (s1 == 1) = false := by simpa using z1
                    replace hF := Lib.hid hF
                    replace z1 := Lib.hid z1
                    go_wp2
                    go_roundw
                    case rel => exact ⟨k + 1, by go_num, by omega, by rw [hF2.out, hF.out], hB58.out⟩
                    case measure => simp [intOf]; omega
                · obtain rfl : k = PL.length := by omega
                  rw [List.take_length, ← hfl.out]
                  have hB46 := below_step hB5.out hB6
                  have hsd' := hsd.out wr hB46
                  have hl : V2.snaps.length = V.snaps.length + 2 := by rw [q5.out]; simp
                  have hl1 : ∀ h, V2.snaps[V.snaps.length + 1]'h = nb := fun h => by simp [q5.out]
                  have hl2 : ∀ h, V2.snaps[V.snaps.length]'h = na := fun h => by simp [q5.out]
                  have hl3 : V2.snaps.length ≤ 2000 := by
                    unfold Fs.snaps
                    rw [List.length_map]
                    have := shots_few hR4.out.inv
                    have := hn4.out
                    omega
                  generalize hk2 : V.snaps.length = k2 at *
                  replace hB46 := Lib.hid hB46
                  replace hsd' := Lib.hid hsd'
                  replace hB6 := Lib.hid hB6
                  replace hl := Lib.hid hl
                  replace hl1 := Lib.hid hl1
                  replace hl2 := Lib.hid hl2
                  replace hl3 := Lib.hid hl3
                  replace hk2 := Lib.hid hk2
                  go_wp2_with fail
                  (with_reducible refine (hsd'.out).mono ?_)
                  rintro e w6 ⟨rfl, hB7⟩
                  have hB47 := below_step hB46.out hB7
                  have hr1' := hr1.out w6 hB47
                  replace hr1' := Lib.hid hr1'
                  replace hB7 := Lib.hid hB7
                  replace hB47 := Lib.hid hB47
                  go_wp2_with fail
                  (with_reducible refine (hr1'.out).mono ?_)
                  rintro e w7 ⟨tx, CX, MX, rfl, hX, hXo, hB8⟩
                  have hB48 := below_step hB47.out hB8
                  have hr2' := hr2.out w7 hB48
                  replace hr2' := Lib.hid hr2'
                  replace hX := Lib.hid hX
                  replace hXo := Lib.hid hXo
                  replace hB8 := Lib.hid hB8
                  replace hB48 := Lib.hid hB48
                  go_wp2_with fail
                  (with_reducible refine (hr2'.out).mono ?_)
                  rintro e w8 ⟨ty, CY, MY, rfl, hY, hYo, hB9⟩
                  have hB49 := below_step hB48.out hB9
                  have hX8 := hX.out.below hB9
                  have hnm' := hnm.out w8 hB49
                  replace hY := Lib.hid hY
                  replace hYo := Lib.hid hYo
                  replace hB9 := Lib.hid hB9
                  replace hB49 := Lib.hid hB49
                  replace hX8 := Lib.hid hX8
                  replace hnm' := Lib.hid hnm'
                  go_wp2_with fail
                  (with_reducible refine (hnm'.out).mono ?_)
                  rintro e w9 ⟨⟨vn, rfl, hN⟩, hB10⟩
                  have hsm := same_calls tx CX MX _ ty CY MY _ w9 (hX8.out.below hB10) (hY.out.below hB10)
                  have hB4a := below_step hB49.out hB10
                  have hNr := Strs.rd hN
                  obtain ⟨nA, nc, rfl, hj1, hj2⟩ := own_shape hN.own
                  unfold maxLen at hj2
                  unfold ptr at hsm
                  have hlr := hl.out
                  replace hN := Lib.hid hN
                  replace hB10 := Lib.hid hB10
                  replace hsm := Lib.hid hsm
                  replace hB4a := Lib.hid hB4a
                  replace hNr := Lib.hid hNr
                  go_wp2_with fail
                  (with_reducible refine hsm.out.mono ?_)
                  rintro e w10 ⟨⟨r, rfl, hr⟩, hB11⟩
                  obtain rfl : r = true := hr.2 q4.out
                  obtain ⟨g, o, rfl, c1⟩ := (hNr.out.below hB11).cell (j := k2 + 1) (by omega)
                  obtain ⟨g', o', e2', c2'⟩ := (hNr.out.below hB11).cell (j := k2) (by omega)
                  cases e2'
                  rw [hl1.out] at c1
                  rw [hl2.out] at c2'
                  have hlz := hl3.out
                  have w1 : IntKind.i64.wrap ((V2.snaps.length : Int) - 1) = ((k2 + 1 : Nat) : Int) := by rw [IntWalk.i64_in _ (by omega)]; omega
                  have w2 : IntKind.i64.wrap ((V2.snaps.length : Int) - 2) = (k2 : Int) := by rw [IntWalk.i64_in _ (by omega)]; omega
                  have b1 : (1 : Int) < (V2.snaps.length : Int) := by omega
                  have b1' : 1 < V2.snaps.length := by omega
                  have b2 : ((k2 + 1 : Nat) : Int) < (V2.snaps.length : Int) := by omega
                  have b3 : (k2 : Int) < (V2.snaps.length : Int) := by omega
                  have b4 : (0 : Int) ≤ ((k2 + 1 : Nat) : Int) := by omega
                  have b5 : (0 : Int) ≤ (k2 : Int) := by omega
                  have hBf := below_step hBw4.out (below_step hB4a.out hB11)
                  clear hr hlr hlz
                  replace hBf := Lib.hid hBf
                  replace hB11 := Lib.hid hB11
                  go_wp2_with fail
                  (with_reducible refine (haw.out _).mono ?_)
                  rintro e w11 ⟨rfl, hB12⟩
                  have hfin := below_step hBf.out hB12
                  replace hfin := Lib.hid hfin
                  replace hB12 := Lib.hid hB12
                  clear c1 c2'
                  go_wp2
                  go_ret
                  exact ⟨rfl, hfin.out⟩
            · have t1 : (e2 != 0) = true := by simpa using d2
              have t2 : (e2 == 0) = false := by simpa using d2
              have hBw : Below w.heap.size w w4 := by obtain ⟨_, _, _, _, _, _, _, _, _, h⟩ := hP4; exact h
              have p3 := hptr.out w4 vb
              have p4 := hptr.out w4 sb
              replace hBw := Lib.hid hBw
              replace hP4 := Lib.hid hP4
              replace d2 := Lib.hid d2
              go_wp2_with fail
              (with_reducible refine (haw.out _).mono ?_)
              rintro e w9 ⟨rfl, hB9⟩
              have hfin := below_step hBw.out hB9
              replace hfin := Lib.hid hfin
              clear hB9
              go_wp2
              go_ret
              exact ⟨rfl, hfin.out⟩
          · have t1 : (e1 != 0) = true := by simpa using d1
            have t2 : (e1 == 0) = false := by simpa using d1
            have hBw : Below w.heap.size w w3 := by obtain ⟨_, _, _, _, _, _, _, _, _, h⟩ := hP3; exact h
            have p3 := hptr.out w3 vb
            have p4 := hptr.out w3 sb
            replace hBw := Lib.hid hBw
            replace hP3 := Lib.hid hP3
            replace d1 := Lib.hid d1
            go_wp2_with fail
            (with_reducible refine (haw.out _).mono ?_)
            rintro e w9 ⟨rfl, hB9⟩
            have hfin := below_step hBw.out hB9
            replace hfin := Lib.hid hfin
            clear hB9
            go_wp2
            go_ret
            exact ⟨rfl, hfin.out⟩
end Go.Proofs.YtocbjhhnginebaaGreat
