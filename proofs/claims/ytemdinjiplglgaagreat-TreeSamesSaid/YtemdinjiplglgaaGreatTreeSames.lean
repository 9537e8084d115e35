/-
  remoralaw17.TreeSames: copies, and whether two trees are the same.
-/
import Derived.Test.YtemdinjiplglgaaGreatB7
import Derived.Test.YtemdinjiplglgaaGreatB4
namespace Go.Proofs.YtemdinjiplglgaaGreat
open Go.RowKit

/-- A row of n bytes of the call's own, whatever they are. -/
def U8s (W : World) (A : Option Addr) (base n : Nat) : Prop :=
  n = 0 ∨ ∃ g cur, A = some ⟨g, 0, none⟩ ∧ base ≤ g ∧ W.heap[g]? = some (.cells cur 5 (0, 0)) ∧ ∀ j, j < n → ∃ z, cur[j]? = some (.int .u8 z)

theorem Byts.u8s {base : Nat} {W : World} {A : Option Addr} {c : Nat} {l : Bytes} (h : Byts base W (.slice A l.length c) l) : U8s W A base l.length := by
  by_cases hl : l.length = 0
  · exact Or.inl hl
  · refine Or.inr ?_
    rcases h.2 with ⟨_, h0⟩ | ⟨g, cap, cur, h1, h2, h3, h4, h5, h6, h7⟩
    · exact absurd h0 hl
    · simp only [Value.slice.injEq] at h1
      obtain ⟨rfl, _⟩ := h1
      refine ⟨g, cur, rfl, h2, h3, fun j hj => ⟨(l[j]).toNat, ?_⟩⟩
      have hget : cur[j]? = (byteCells l)[j]? := by rw [← h7, List.getElem?_take_of_lt (by omega), Array.getElem?_toList]
      rw [hget]
      simp [byteCells, hj]

theorem U8s.set {base n g j : Nat} {W : World} {cur : Array Value} (hg : base ≤ g) (h : W.heap[g]? = some (.cells cur 5 (0, 0))) (hc : ∀ j, j < n → ∃ z, cur[j]? = some (.int .u8 z)) (z : Int) : U8s (W.setCell ⟨g, j, none⟩ (.int .u8 z)) (some ⟨g, 0, none⟩) base n := by
  refine Or.inr ⟨g, _, rfl, hg, heap_set_same h j _, fun i hi => ?_⟩
  obtain ⟨y, hy⟩ := hc i hi
  by_cases e : j = i
  · subst e
    have hlt := (Array.getElem?_eq_some_iff.1 hy).1
    exact ⟨z, by simp [hlt]⟩
  · exact ⟨y, by simp [e, hy]⟩

set_option maxHeartbeats 8000000 in
set_option maxRecDepth 100000 in
theorem treeSames_walk (v : Value) (l : List Act17) (u : Value) (m : List Act17) (w : World) (hv : Acts w v l) (hu : Acts w u m) :
    Calls Tryz.prog 6 #[v, u] w fun e w' => e = .returned (.bool true) ∧ Below w.heap.size w w' := by
  have haw := fun W => awake17_calls W
  have hsl := small_calls v l _ hv
  have hsm := small_calls u m _ hu
  cases h1 : small l with
  | false =>
    rw [h1] at hsl
    replace haw := Lib.hid haw
    replace hsl := Lib.hid hsl
    replace hsm := Lib.hid hsm
    replace h1 := Lib.hid h1
    replace hv := Lib.hid hv
    replace hu := Lib.hid hu
    go_enter Tryz.func6, Tryz.ntmps6
    go_wp2_with fail
    (with_reducible refine (hsl.out).mono ?_)
    rintro e w1 ⟨rfl, rfl⟩
    go_wp2_with fail
    (with_reducible refine (haw.out _).mono ?_)
    rintro e w2 ⟨rfl, hB⟩
    replace hB := Lib.hid hB
    go_wp2
    go_ret
    exact ⟨rfl, hB.out⟩
  | true =>
    rw [h1] at hsl
    cases h2 : small m with
    | false =>
      rw [h2] at hsm
      replace haw := Lib.hid haw
      replace hsl := Lib.hid hsl
      replace hsm := Lib.hid hsm
      replace h1 := Lib.hid h1
      replace h2 := Lib.hid h2
      replace hv := Lib.hid hv
      replace hu := Lib.hid hu
      go_enter Tryz.func6, Tryz.ntmps6
      go_wp2_with fail
      (with_reducible refine (hsl.out).mono ?_)
      rintro e w1 ⟨rfl, rfl⟩
      go_wp2_with fail
      (with_reducible refine (hsm.out).mono ?_)
      rintro e w1 ⟨rfl, rfl⟩
      go_wp2_with fail
      (with_reducible refine (haw.out _).mono ?_)
      rintro e w2 ⟨rfl, hB⟩
      replace hB := Lib.hid hB
      go_wp2
      go_ret
      exact ⟨rfl, hB.out⟩
    | true =>
      rw [h2] at hsm
      obtain ⟨hm40, hsml⟩ := small_at h2
      have hl40 := (small_at h1).1
      have hbl := fun W hW => build_calls v l W hW h1
      have hbm := fun W hW => build_calls u m W hW h2
      have hrl := fun W hW => rbuild_calls v l W hW h1
      have hrm := fun W hW => rbuild_calls u m W hW h2
      have hfew : ∀ l : List Act17, l.length ≤ 40 → (Fs.build l).names.length ≤ 41 ∧ (Fs.build l).next ≤ 42 := fun l hl => by
        have hgr := acts_grow Fs.start l
        have h9 : Fs.start.names.length = 1 := rfl
        have h8 : Fs.start.next = 2 := rfl
        have e1 : (Fs.build l).names.length ≤ Fs.start.names.length + l.length := hgr.1
        have e2 : (Fs.build l).next ≤ Fs.start.next + l.length := hgr.2
        omega
      obtain ⟨hfT, hnT⟩ := hfew l hl40
      obtain ⟨hfU, _⟩ := hfew m hm40
      clear hfew
      generalize Fs.build l = T at *
      generalize Fs.build m = U at *
      have hss := fun tb A M ub B N W hR hS => same_calls tb A M T ub B N U W hR hS
      have hst := fun tb A M W hR => same_calls tb A M T tb A M T W hR hR
      have hrs := fun ab va A bb vb B W hR hS => rsame_calls ab va A T bb vb B U W hR hS (by omega) (by omega)
      have hcp := fun tb A M W hR => copy_calls tb A M T W hR
      have hrc := fun rb rv B W hR => rcopy_calls rb rv B T W hR (by omega)
      have hptr := fun (W : World) (tb : Nat) => run_eql_nil_ptr (P := Tryz.prog) W ⟨tb, 0, none⟩ Tryz.underlying28
      have hv0 := hv
      have hu0 := hu
      obtain ⟨A0, c0, rfl, g2, g3, g4⟩ := hu
      unfold maxLen at g3
      unfold ptr at *
      replace haw := Lib.hid haw
      replace hsl := Lib.hid hsl
      replace hsm := Lib.hid hsm
      replace h1 := Lib.hid h1
      replace h2 := Lib.hid h2
      replace hv := Lib.hid hv
      replace hv0 := Lib.hid hv0
      replace hu0 := Lib.hid hu0
      replace g4 := Lib.hid g4
      replace hsml := Lib.hid hsml
      replace hbl := Lib.hid hbl
      replace hbm := Lib.hid hbm
      replace hrl := Lib.hid hrl
      replace hrm := Lib.hid hrm
      replace hss := Lib.hid hss
      replace hst := Lib.hid hst
      replace hrs := Lib.hid hrs
      replace hcp := Lib.hid hcp
      replace hrc := Lib.hid hrc
      replace hptr := Lib.hid hptr
      go_enter Tryz.func6, Tryz.ntmps6
      go_wp2_with fail
      (with_reducible refine (hsl.out).mono ?_)
      rintro e w1 ⟨rfl, rfl⟩
      go_wp2_with fail
      (with_reducible refine (hsm.out).mono ?_)
      rintro e w1 ⟨rfl, rfl⟩
      go_wp2_with fail
      (with_reducible refine (hbl.out _ hv0.out).mono ?_)
      rintro e w1 ⟨tb, C, MC, rfl, hT1, hO1, hB1⟩
      try unfold ptr
      replace hT1 := Lib.hid hT1
      replace hB1 := Lib.hid hB1
      clear hO1
      go_wp2_with fail
      (with_reducible refine (hbm.out _ (hu0.out.below hB1.out)).mono ?_)
      rintro e w2 ⟨ub, D, MD, rfl, hU2, hO2, hB2⟩
      try unfold ptr
      have hB02 := below_step hB1.out hB2
      have hT2 := hT1.out.below hB2
      replace hT2 := Lib.hid hT2
      replace hU2 := Lib.hid hU2
      replace hB02 := Lib.hid hB02
      clear hO2 hB2 hB1 hT1
      go_wp2_with fail
      (with_reducible refine (hrl.out _ (hv0.out.below hB02.out)).mono ?_)
      rintro e w3 ⟨ab, av, E, rfl, hA3, hO3, hB3⟩
      try unfold ptr
      have hB03 := below_step hB02.out hB3
      have hT3 := hT2.out.below hB3
      have hU3 := hU2.out.below hB3
      replace hT3 := Lib.hid hT3
      replace hU3 := Lib.hid hU3
      replace hA3 := Lib.hid hA3
      replace hB03 := Lib.hid hB03
      clear hO3 hB3 hB02 hT2 hU2
      go_wp2_with fail
      (with_reducible refine (hrm.out _ (hu0.out.below hB03.out)).mono ?_)
      rintro e w4 ⟨bb, bv, F, rfl, hS4, hO4, hB4⟩
      try unfold ptr
      have hB04 := below_step hB03.out hB4
      have hT4 := hT3.out.below hB4
      have hU4 := hU3.out.below hB4
      have hA4 := hA3.out.below hB4
      replace hT4 := Lib.hid hT4
      replace hU4 := Lib.hid hU4
      replace hA4 := Lib.hid hA4
      replace hS4 := Lib.hid hS4
      replace hB04 := Lib.hid hB04
      clear hO4 hB4 hB03 hT3 hU3 hA3
      have hptr1 := fun W => hptr.out W tb
      have hptr2 := fun W => hptr.out W ub
      go_wp2_with fail
      (with_reducible refine (hss.out _ _ _ _ _ _ _ hT4.out hU4.out).mono ?_)
      rintro e w5 ⟨⟨r1, rfl, i1⟩, hB5⟩
      have hB05 := below_step hB04.out hB5
      replace hB05 := Lib.hid hB05
      replace hB5 := Lib.hid hB5
      replace i1 := Lib.hid i1
      go_wp2_with fail
      (with_reducible refine (hrs.out _ _ _ _ _ _ _ (hA4.out.below hB5.out) (hS4.out.below hB5.out)).mono ?_)
      rintro e w6 ⟨⟨r2, rfl, i2⟩, hB6⟩
      have hr : r1 = r2 := by
        have h := i1.out.trans i2.symm
        cases r1 <;> cases r2 <;> simp at h ⊢
      subst hr
      have hB06 := below_step hB05.out hB6
      have hB46 := below_step hB5.out hB6
      have hT6 := hT4.out.below hB46
      have hA6 := hA4.out.below hB46
      have hrr : (r1 != r1) = false := by simp
      replace hT6 := Lib.hid hT6
      replace hA6 := Lib.hid hA6
      replace hB06 := Lib.hid hB06
      clear hB5 hB6 hB46 hB05 hT4 hU4 hA4 hS4 i1 i2 hB04
      go_wp2_with fail
      (with_reducible refine (hst.out _ _ _ _ hT6.out).mono ?_)
      rintro e w7 ⟨⟨r3, rfl, i3⟩, hB7⟩
      have hr3 : r3 = true := i3.2 (SameFs.refl hT6.out.inv)
      subst hr3
      have hB07 := below_step hB06.out hB7
      have hT7 := hT6.out.below hB7
      have hA7 := hA6.out.below hB7
      replace hT7 := Lib.hid hT7
      replace hA7 := Lib.hid hA7
      replace hB07 := Lib.hid hB07
      clear hB7 hB06 hT6 hA6 i3
      go_wp2_with fail
      (with_reducible refine (hcp.out _ _ _ _ hT7.out).mono ?_)
      rintro e w8 ⟨cb, C1, MC1, rfl, hC8, hO8, hB8⟩
      try unfold ptr
      have hA8 := hA7.out.below hB8
      replace hC8 := Lib.hid hC8
      replace hO8 := Lib.hid hO8
      replace hB8 := Lib.hid hB8
      replace hA8 := Lib.hid hA8
      go_wp2_with fail
      (with_reducible refine (hrc.out _ _ _ _ hA8.out).mono ?_)
      rintro e w9 ⟨db, dv0, D1, rfl, hD9, hP9, hB9⟩
      try unfold ptr
      have hC9 := hC8.out.below hB9
      have hB79 := below_step hB8.out hB9
      have hP9' : ∀ b, ROwn db dv0 D1 T b → w7.heap.size ≤ b := fun b hb => Nat.le_trans hB8.out.size (hP9 b hb)
      have hptr3 := fun W => hptr.out W cb
      replace hC9 := Lib.hid hC9
      replace hD9 := Lib.hid hD9
      replace hB79 := Lib.hid hB79
      replace hP9' := Lib.hid hP9'
      clear hA8 hB8 hB9 hC8 hP9 hrr
      go_wp2_with fail
      go_loopw [11] (fun i wr => ∃ (k : Nat) (C2 MC2 D2 : Nat → Nat) (dw : Value), i = .int .i64 k ∧ k ≤ m.length ∧ Rep wr cb C2 MC2 (T.acts (m.take k)) ∧ (∀ b, Own cb C2 MC2 (T.acts (m.take k)) b → w7.heap.size ≤ b) ∧ RRep wr db dw D2 (T.acts (m.take k)) ∧ (∀ b, ROwn db dw D2 (T.acts (m.take k)) b → w7.heap.size ≤ b) ∧ Below w7.heap.size w7 wr) (fun i _ => m.length - (intOf i).toNat)
      case atStart => exact ⟨0, C1, MC1, D1, dv0, rfl, Nat.zero_le _, hC9.out, hO8.out, hD9.out, hP9'.out, hB79.out⟩
      case round =>
        clear hC9 hD9 hB79 hP9' hO8
        obtain ⟨k, C2, MC2, D2, dw, rfl, hk, hC, hO, hD, hP, hB⟩ := hrel
        have hgw : ∀ j, j ≤ m.length → (T.acts (m.take j)).names.length ≤ 81 ∧ (T.acts (m.take j)).next ≤ 82 := fun j hj => by
          have h8 : (m.take j).length ≤ j := List.length_take_le _ _
          have := acts_grow T (m.take j)
          omega
        by_cases hlt : k < m.length
        · obtain ⟨g, o, dv, rfl, hdv, hc⟩ := g4.out k hlt
          obtain ⟨h5, h6, h7⟩ := hsml.out _ (List.getElem_mem hlt)
          obtain ⟨hn1, hx1⟩ := hgw k hk
          obtain ⟨hn2, _⟩ := hgw (k + 1) hlt
          clear hgw
          have hglt : g < w.heap.size := cell_lt (a := ⟨g, o + k * 9 + 0, none⟩) (hc 0 (by decide))
          have hbs : ((T.acts (m.take k)).act m[k]).1 = T.acts (m.take (k + 1)) := by
            rw [List.take_succ_eq_append_getElem hlt]
            exact (acts_snoc _ _ _).symm
          have hNS : ∀ W, Below w.heap.size w W → (W.cell? ⟨g, o + k * 9, none⟩ = some (.int .i64 (m[k]).d) ∧ W.cell? ⟨g, o + k * 9 + 1, none⟩ = some (.string (mkS (m[k]).path)) ∧ W.cell? ⟨g, o + k * 9 + 2, none⟩ = some (.string (mkS (m[k]).arg)) ∧ W.cell? ⟨g, o + k * 9 + 3, none⟩ = some (dv) ∧ W.cell? ⟨g, o + k * 9 + 4, none⟩ = some (.int .i64 (m[k]).mt.mode) ∧ W.cell? ⟨g, o + k * 9 + 5, none⟩ = some (.int .i64 (m[k]).mt.sec) ∧ W.cell? ⟨g, o + k * 9 + 6, none⟩ = some (.int .i64 (m[k]).mt.nano) ∧ W.cell? ⟨g, o + k * 9 + 7, none⟩ = some (.int .i64 (m[k]).mt.uid) ∧ W.cell? ⟨g, o + k * 9 + 8, none⟩ = some (.int .i64 (m[k]).mt.gid)) := fun W hW => by
            have hc' : ∀ j, j < 9 → W.cell? ⟨g, o + k * 9 + j, none⟩ = (actCells m[k] dv)[j]? := fun j hj => by
              rw [← hc j hj]
              simp only [World.cell?, hW.block g hglt]
            exact ⟨hc' 0 (by decide), hc' 1 (by decide), hc' 2 (by decide), hc' 3 (by decide), hc' 4 (by decide), hc' 5 (by decide), hc' 6 (by decide), hc' 7 (by decide), hc' 8 (by decide)⟩
          have hB0r := below_step hB07.out hB
          have hsz := mkS_size (m[k]).path
          have hrd := read_calls cb C2 MC2 (T.acts (m.take k)) (mkS (m[k]).path) wr hC (by omega)
          have hd1 := fun W (hW : Rep W cb C2 MC2 (T.acts (m.take k))) (hd : RdB W dv m[k].data) => do_calls cb C2 MC2 (T.acts (m.take k)) m[k] dv W hW (by omega) (by omega) hd (by omega) (by omega) (by omega)
          have hd2 := fun W (hW : RRep W db dw D2 (T.acts (m.take k))) (hd : RdB W dv m[k].data) => rdo_calls db dw D2 (T.acts (m.take k)) m[k] dv W hW (by omega) (by omega) hd (by omega) (by omega) (by omega)
          rw [hbs] at hd1 hd2
          unfold actV actCells ptr at hd1 hd2
          unfold ptr at hrd
          have c1 := (hNS wr hB0r).2.1
          have hmine := fun W wa (hBW : Below w7.heap.size w7 W) (hst : Stp W wa cb C2 MC2 (T.acts (m.take k)) (T.acts (m.take (k + 1)))) => Stp.mine hBW hO hst
          have hrmine := fun W wa (hBW : Below w7.heap.size w7 W) (hst : RStp W wa db dw D2 (T.acts (m.take k)) (T.acts (m.take (k + 1)))) => RStp.mine hBW hP hst
          generalize ((T.acts (m.take k)).act m[k]).2 = er at hd1 hd2
          generalize hT1 : T.acts (m.take (k + 1)) = T1 at *
          generalize T.acts (m.take k) = T0 at *
          generalize T0.read (bl (mkS (m[k]).path)) = rd at *
          obtain ⟨rd, re⟩ := rd
          dsimp only at hrd
          have hkm : (k : Int) < (m.length : Int) := by omega
          replace hNS := Lib.hid hNS
          replace hd1 := Lib.hid hd1
          replace hd2 := Lib.hid hd2
          replace hbs := Lib.hid hbs
          replace hdv := Lib.hid hdv
          replace hrd := Lib.hid hrd
          replace hmine := Lib.hid hmine
          replace hrmine := Lib.hid hrmine
          replace hT1 := Lib.hid hT1
          replace hC := Lib.hid hC
          replace hO := Lib.hid hO
          replace hD := Lib.hid hD
          replace hP := Lib.hid hP
          replace hB := Lib.hid hB
          replace hB0r := Lib.hid hB0r
          replace hc := Lib.hid hc
          go_wp2_with fail
          (with_reducible refine (hrd.out).mono ?_)
          rintro e w10 ⟨⟨xv, rfl, hbx⟩, hBx⟩
          obtain ⟨xA, xc, hxe, hx1, hx2⟩ := own_shape hbx.own
          subst hxe
          unfold maxLen at hx2
          have hu8 := hbx.u8s
          obtain ⟨wo, rfl⟩ : ∃ wo : World, wo = wr := ⟨_, rfl⟩
          generalize rd.length = n at *
          replace hBx := Lib.hid hBx
          replace hu8 := Lib.hid hu8
          replace hbx := Lib.hid hbx
          clear c1 hrd
          go_wp2_with fail
          go_loopw [14] (fun i wr => ∃ j : Nat, i = .int .i64 j ∧ j ≤ n ∧ U8s wr xA wo.heap.size n ∧ Below wo.heap.size wo wr) (fun i _ => n - (intOf i).toNat)
          case atStart => exact ⟨0, rfl, Nat.zero_le _, hu8.out, hBx.out⟩
          case round =>
            clear hu8 hBx
            obtain ⟨j, rfl, hj, hu8, hBq⟩ := hrel
            by_cases hjn : j < n
            · rcases hu8 with h0 | ⟨xg, cur, rfl, hxg, hcur, hcz⟩
              · omega
              · obtain ⟨z, hz⟩ := hcz j hjn
                have cz : wr.cell? ⟨xg, j, none⟩ = some (.int .u8 z) := cell_of hcur hz
                have fz : wr.frozen? ⟨xg, j, none⟩ = false := by simp [World.frozen?, hcur]
                have hset := fun y => U8s.set hxg hcur hcz (j := j) y
                have hBs := fun y => hBq.setCell (p := ⟨xg, j, none⟩) hxg (.int .u8 y)
                have hjn2 : (j : Int) < (n : Int) := by omega
                replace hset := Lib.hid hset
                replace hBs := Lib.hid hBs
                replace hBq := Lib.hid hBq
                replace hcur := Lib.hid hcur
                replace hcz := Lib.hid hcz
                clear hz
                go_wp2
                go_roundw
                case rel => exact ⟨j + 1, by go_num, by omega, hset.out _, hBs.out _⟩
                case measure => simp [intOf]; omega
            · obtain rfl : j = n := by omega
              clear hu8
              have hBd := below_drewN hBq 1
              have hB7d := below_step hB.out hBd
              have hBwd := below_step hB0r.out hBd
              have hCd := hC.out.below hBd
              have hDd := hD.out.below hBd
              have hd1' := hd1.out wr.drew hCd (hdv.out.below hBwd)
              have hbe := fun W W' A M v B (hU : Rep W cb A M T1) (hT : RRep W db v B T0) (ht : RStp W W' db v B T0 T1) => Rep.besideR hU hT (rstp_turn ht)
              have hrb0 := fun W (ht : Stp wr.drew W cb C2 MC2 T0 T1) => RRep.beside hDd hCd (stp_turn ht)
              have h7w : ∀ W, Below w7.heap.size w7 W → Below w.heap.size w W := fun W hW => below_step hB07.out hW
              replace hBd := Lib.hid hBd
              replace hB7d := Lib.hid hB7d
              replace hBwd := Lib.hid hBwd
              replace hCd := Lib.hid hCd
              replace hDd := Lib.hid hDd
              replace hd1' := Lib.hid hd1'
              replace hbe := Lib.hid hbe
              replace hrb0 := Lib.hid hrb0
              replace hBq := Lib.hid hBq
              replace h7w := Lib.hid h7w
              clear hC hD hd1
              go_upto_region 18 with fail
              go_region_held3 (fun W => (W.cell? ⟨g, o + k * 9, none⟩ = some (.int .i64 (m[k]).d) ∧ W.cell? ⟨g, o + k * 9 + 1, none⟩ = some (.string (mkS (m[k]).path)) ∧ W.cell? ⟨g, o + k * 9 + 2, none⟩ = some (.string (mkS (m[k]).arg)) ∧ W.cell? ⟨g, o + k * 9 + 3, none⟩ = some (dv) ∧ W.cell? ⟨g, o + k * 9 + 4, none⟩ = some (.int .i64 (m[k]).mt.mode) ∧ W.cell? ⟨g, o + k * 9 + 5, none⟩ = some (.int .i64 (m[k]).mt.sec) ∧ W.cell? ⟨g, o + k * 9 + 6, none⟩ = some (.int .i64 (m[k]).mt.nano) ∧ W.cell? ⟨g, o + k * 9 + 7, none⟩ = some (.int .i64 (m[k]).mt.uid) ∧ W.cell? ⟨g, o + k * 9 + 8, none⟩ = some (.int .i64 (m[k]).mt.gid))) (first | exact hNS.out _ hBwd.out | exact hNS.out _ (h7w.out _ hBa.out) | exact hNS.out _ (h7w.out _ hBb.out)) (first
                | (go_at_call 16; (with_reducible refine hd1'.out.mono ?_); rintro e wa ⟨rfl, hsa⟩; obtain ⟨hBa, hRa⟩ := hmine.out _ wa hB7d.out hsa; replace hBa := Lib.hid hBa; replace hRa := Lib.hid hRa; replace hsa := Lib.hid hsa)
                | (go_at_call 17; (with_reducible refine (hd2.out _ (hrb0.out _ hsa.out) (hdv.out.below (h7w.out _ hBa.out))).mono ?_); rintro e wb ⟨rfl, hsb⟩; obtain ⟨hBb, hRb⟩ := hrmine.out _ _ hBa.out hsb; obtain ⟨C3, MC3, hUa, hOa⟩ := hRa.out; obtain ⟨v3, B3, hRb, hPb⟩ := hRb; have hUb := hbe.out _ _ _ _ _ _ hUa (hrb0.out _ hsa.out) hsb; replace hUb := Lib.hid hUb; replace hUa := Lib.hid hUa; replace hOa := Lib.hid hOa; replace hRb := Lib.hid hRb; replace hPb := Lib.hid hPb; replace hBb := Lib.hid hBb; replace hsb := Lib.hid hsb))
              go_wp2
              go_roundw
              case rel =>
                refine ⟨k + 1, C3, MC3, B3, v3, by go_num, by omega, ?_, ?_, ?_, ?_, hBb.out⟩
                all_goals rw [hT1.out]
                · exact hUb.out
                · exact hOa.out
                · exact hRb.out
                · exact hPb.out
              case measure => simp [intOf]; omega
        · obtain rfl : k = m.length := by omega
          obtain ⟨hf1, _⟩ := hgw _ (Nat.le_refl _)
          rw [List.take_length] at hC hO hD hP hf1
          generalize T.acts m = T1 at *
          have hpd := fun W hW => rpaths_calls db dw D2 T1 W hW (by omega)
          have hth := fun (W : World) (s : ByteArray) (hs : s.size ≤ 16777216) hU hR => thing_calls cb db dw C2 MC2 D2 T1 s W hU hR hs (by omega)
          have hl1 := fun W hU hR => lsame_calls tb ab av C MC E T W hU hR (by omega)
          have hl2 := fun W hU hR => lsame_calls cb db dw C2 MC2 D2 T1 W hU hR (by omega)
          have hs1 := fun W hR hS => same_calls tb C MC T cb C2 MC2 T1 W hR hS
          have hs2 := fun W hR hS => rsame_calls ab av E T db dw D2 T1 W hR hS (by omega) (by omega)
          have hPl : T1.paths.length ≤ 1000000 := by rw [paths_len]; exact Nat.le_trans (below_few T1 []) (by omega)
          have hpr : ∀ s ∈ T1.paths, s.length ≤ 200 := fun s hs => right_len ((mem_paths hC.inv).1 hs).1
          have hTr := hT7.out.below hB
          have hAr := hA7.out.below hB
          have hB0r := below_step hB07.out hB
          unfold ptr at *
          replace hpd := Lib.hid hpd
          replace hth := Lib.hid hth
          replace hl1 := Lib.hid hl1
          replace hl2 := Lib.hid hl2
          replace hs1 := Lib.hid hs1
          replace hs2 := Lib.hid hs2
          replace hpr := Lib.hid hpr
          replace hTr := Lib.hid hTr
          replace hAr := Lib.hid hAr
          replace hB0r := Lib.hid hB0r
          replace hC := Lib.hid hC
          replace hD := Lib.hid hD
          clear hO hP hgw hB hT7 hA7 hss hst hrs hcp hrc
          go_wp2_with fail
          (with_reducible refine (hpd.out _ hD.out).mono ?_)
          rintro e w10 ⟨⟨pv, rfl, hS⟩, hB10⟩
          have hRd := Strs.rd hS
          obtain ⟨pA, pc, hpv, hpc1, hpc2⟩ := own_shape hS.own
          subst hpv
          unfold maxLen at hpc2
          have hB010 := below_step hB0r.out hB10
          have hC10 := hC.out.below hB10
          have hD10 := hD.out.below hB10
          have hT10 := hTr.out.below hB10
          have hA10 := hAr.out.below hB10
          generalize T1.paths = P at *
          replace hRd := Lib.hid hRd
          replace hB010 := Lib.hid hB010
          replace hC10 := Lib.hid hC10
          replace hD10 := Lib.hid hD10
          replace hT10 := Lib.hid hT10
          replace hA10 := Lib.hid hA10
          clear hB10 hB0r hTr hAr hS hpd
          go_wp2_with fail
          go_loopw [16] (fun i wr => ∃ j : Nat, i = .int .i64 j ∧ j ≤ P.length ∧ Below w10.heap.size w10 wr) (fun i _ => P.length - (intOf i).toNat)
          case atStart => exact ⟨0, rfl, Nat.zero_le _, Below.refl _ _⟩
          case round =>
            obtain ⟨j, rfl, hj, hBq⟩ := hrel
            by_cases hjl : j < P.length
            · obtain ⟨g, o, rfl, ck⟩ := ((hRd.out).below hBq).cell hjl
              have hrl := hpr.out P[j] (List.getElem_mem hjl)
              generalize P[j] = s at *
              have hsz := mkS_size s
              have ht := hth.out _ (mkS s) (by omega) (hC10.out.below hBq) (hD10.out.below hBq)
              have hji : (j : Int) < (P.length : Int) := by omega
              replace hBq := Lib.hid hBq
              replace ht := Lib.hid ht
              go_wp2_with fail
              (with_reducible refine (ht.out).mono ?_)
              rintro e w11 ⟨rfl, hB11⟩
              have hB1011 := below_step hBq.out hB11
              replace hB1011 := Lib.hid hB1011
              clear hB11
              go_wp2
              go_roundw
              case rel => exact ⟨j + 1, by go_num, by omega, hB1011.out⟩
              case measure => simp [intOf]; omega
            · obtain rfl : j = P.length := by omega
              have hB0q := below_step hB010.out hBq
              have hCq := hC10.out.below hBq
              have hDq := hD10.out.below hBq
              have hTq := hT10.out.below hBq
              have hAq := hA10.out.below hBq
              replace hB0q := Lib.hid hB0q
              replace hCq := Lib.hid hCq
              replace hDq := Lib.hid hDq
              replace hTq := Lib.hid hTq
              replace hAq := Lib.hid hAq
              replace hBq := Lib.hid hBq
              go_wp2_with fail
              (with_reducible refine (hl1.out _ hTq.out hAq.out).mono ?_)
              rintro e w11 ⟨rfl, hB11⟩
              have hq11 := fun (W : World) (hW : Below w11.heap.size w11 W) => below_step hB11 hW
              have hB011 := below_step hB0q.out hB11
              replace hB11 := Lib.hid hB11
              replace hB011 := Lib.hid hB011
              replace hq11 := Lib.hid hq11
              go_wp2_with fail
              (with_reducible refine (hl2.out _ (hCq.out.below hB11.out) (hDq.out.below hB11.out)).mono ?_)
              rintro e w12 ⟨rfl, hB12⟩
              have hBq12 := below_step hB11.out hB12
              have hB012 := below_step hB0q.out hBq12
              replace hBq12 := Lib.hid hBq12
              replace hB012 := Lib.hid hB012
              clear hB12 hB11 hB011 hq11
              go_wp2_with fail
              (with_reducible refine (hs1.out _ (hTq.out.below hBq12.out) (hCq.out.below hBq12.out)).mono ?_)
              rintro e w13 ⟨⟨r4, rfl, i4⟩, hB13⟩
              have hBq13 := below_step hBq12.out hB13
              have hB013 := below_step hB0q.out hBq13
              replace hBq13 := Lib.hid hBq13
              replace hB013 := Lib.hid hB013
              replace i4 := Lib.hid i4
              clear hB13 hBq12 hB012
              go_wp2_with fail
              (with_reducible refine (hs2.out _ (hAq.out.below hBq13.out) (hDq.out.below hBq13.out)).mono ?_)
              rintro e w14 ⟨⟨r5, rfl, i5⟩, hB14⟩
              have hr : r4 = r5 := by
                have h := i4.out.trans i5.symm
                cases r4 <;> cases r5 <;> simp at h ⊢
              subst hr
              have hrr : (r4 == r4) = true := by simp
              have hB014 := below_step hB013.out hB14
              replace hB014 := Lib.hid hB014
              clear hB14 hBq13 i4 i5 hB013
              go_wp2_with fail
              (with_reducible refine (haw.out _).mono ?_)
              rintro e w15 ⟨rfl, hB15⟩
              replace hB15 := Lib.hid hB15
              go_wp2
              go_ret
              exact ⟨rfl, below_step hB014.out hB15.out⟩

end Go.Proofs.YtemdinjiplglgaaGreat
