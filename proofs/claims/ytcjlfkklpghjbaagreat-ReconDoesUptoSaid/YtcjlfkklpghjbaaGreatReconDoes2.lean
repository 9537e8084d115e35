/-
  The walk of remoralaw44.ReconDoes.
-/
import Derived.Test.YtcjlfkklpghjbaaGreatB7
import Derived.Test.YtcjlfkklpghjbaaGreatB5
import Derived.Test.YtcjlfkklpghjbaaGreatB3
namespace Go.Proofs.YtcjlfkklpghjbaaGreat
open Go.RowKit
set_option linter.unusedSimpArgs false
set_option linter.unusedVariables false

theorem build_few {l : List Act17} (h : small l = true) : (Fs.build l).names.length ≤ 41 ∧ (Fs.build l).next ≤ 42 := by
  have hl := (small_at h).1
  have h2 := acts_grow Fs.start l
  have h3 : Fs.start.names.length = 1 := rfl
  have h4 : Fs.start.next = 2 := rfl
  unfold Fs.build
  omega

set_option maxHeartbeats 8000000 in
set_option maxRecDepth 100000 in
theorem reconDoes_walk (v : Value) (la lb : List Act17) (u : Value) (l : Acts44) (w : World) (hv : Sides2 w v la lb) (hu : RdA w u l) (hpl : ∀ y ∈ l, y.1.length ≤ 2000000) :
    Calls Tryz.prog 3 #[v, u] w fun e w' => e = .returned (.bool true) ∧ Below w.heap.size w w' := by
  obtain ⟨x, y, rfl, hx, hy⟩ := hv
  have hB := below_alloc (Below.refl w.heap.size w) (.cells #[x, y] 24)
  have hblk := heap_alloc_new w (.cells #[x, y] 24)
  have hx1 := fun W (hW : Below w.heap.size w W) => hx.below hW
  have hy1 := fun W (hW : Below w.heap.size w W) => hy.below hW
  have haw := fun W => awake44_calls W
  have hs1 := small_calls x la _ (hx.below hB)
  have hs2 := small_calls y lb _ (hy.below hB)
  obtain ⟨Ad, c, rfl, huc, huc2⟩ := hu.shape
  unfold maxLen at huc2
  have hx' := hx
  have hy' := hy
  obtain ⟨A1, c1, rfl, hxc, hxc2, _⟩ := hx'
  obtain ⟨A2, c2, rfl, hyc, hyc2, _⟩ := hy'
  unfold maxLen at hxc2 hyc2
  have d0 := cell_of (j := 0) hblk rfl
  have d1 := cell_of (j := 1) hblk rfl
  cases hqa : small la with
  | false =>
    rw [hqa] at hs1
    replace hB := Lib.hid hB
    replace hblk := Lib.hid hblk
    replace hx1 := Lib.hid hx1
    replace hy1 := Lib.hid hy1
    replace haw := Lib.hid haw
    replace hs1 := Lib.hid hs1
    replace hs2 := Lib.hid hs2
    replace hx := Lib.hid hx
    replace hy := Lib.hid hy
    replace hu := Lib.hid hu
    replace hpl := Lib.hid hpl
    replace hqa := Lib.hid hqa
    go_enter Tryz.func3, Tryz.ntmps3
    go_wp2_with fail
    (with_reducible refine (hs1.out).mono ?_)
    rintro e w1 ⟨rfl, rfl⟩
    go_wp2_with fail
    (with_reducible refine (haw.out _).mono ?_)
    rintro e w2 ⟨rfl, hB2⟩
    have hB02 := below_step hB.out hB2
    replace hB02 := Lib.hid hB02
    go_wp2
    go_ret
    exact ⟨rfl, hB02.out⟩
  | true =>
    rw [hqa] at hs1
    cases hqb : small lb with
    | false =>
      rw [hqb] at hs2
      replace hB := Lib.hid hB
      replace hblk := Lib.hid hblk
      replace hx1 := Lib.hid hx1
      replace hy1 := Lib.hid hy1
      replace haw := Lib.hid haw
      replace hs1 := Lib.hid hs1
      replace hs2 := Lib.hid hs2
      replace hx := Lib.hid hx
      replace hy := Lib.hid hy
      replace hu := Lib.hid hu
      replace hpl := Lib.hid hpl
      replace hqa := Lib.hid hqa
      replace hqb := Lib.hid hqb
      go_enter Tryz.func3, Tryz.ntmps3
      go_wp2_with fail
      (with_reducible refine (hs1.out).mono ?_)
      rintro e w1 ⟨rfl, rfl⟩
      go_wp2_with fail
      (with_reducible refine (hs2.out).mono ?_)
      rintro e w1 ⟨rfl, rfl⟩
      go_wp2_with fail
      (with_reducible refine (haw.out _).mono ?_)
      rintro e w2 ⟨rfl, hB2⟩
      have hB02 := below_step hB.out hB2
      replace hB02 := Lib.hid hB02
      go_wp2
      go_ret
      exact ⟨rfl, hB02.out⟩
    | true =>
      rw [hqb] at hs2
      by_cases hl40 : 40 < l.length
      · have h40 : (40 : Int) < (l.length : Int) := by omega
        replace hB := Lib.hid hB
        replace hblk := Lib.hid hblk
        replace hx1 := Lib.hid hx1
        replace hy1 := Lib.hid hy1
        replace haw := Lib.hid haw
        replace hs1 := Lib.hid hs1
        replace hs2 := Lib.hid hs2
        replace hx := Lib.hid hx
        replace hy := Lib.hid hy
        replace hu := Lib.hid hu
        replace hpl := Lib.hid hpl
        replace hqa := Lib.hid hqa
        replace hqb := Lib.hid hqb
        replace hl40 := Lib.hid hl40
        go_enter Tryz.func3, Tryz.ntmps3
        go_wp2_with fail
        (with_reducible refine (hs1.out).mono ?_)
        rintro e w1 ⟨rfl, rfl⟩
        go_wp2_with fail
        (with_reducible refine (hs2.out).mono ?_)
        rintro e w1 ⟨rfl, rfl⟩
        go_wp2_with fail
        (with_reducible refine (haw.out _).mono ?_)
        rintro e w2 ⟨rfl, hB2⟩
        have hB02 := below_step hB.out hB2
        replace hB02 := Lib.hid hB02
        go_wp2
        go_ret
        exact ⟨rfl, hB02.out⟩
      · have h40 : ¬ (40 : Int) < (l.length : Int) := by omega
        have k1 := fun W hW => build_calls (.slice A1 la.length c1) la W (hx1 W hW) hqa
        have k2 := fun W hW => build_calls (.slice A2 lb.length c2) lb W (hy1 W hW) hqb
        have k3 := fun W hW => rbuild_calls (.slice A1 la.length c1) la W (hx1 W hW) hqa
        have k4 := fun W hW => rbuild_calls (.slice A2 lb.length c2) lb W (hy1 W hW) hqb
        have hfa := build_few hqa
        have hfb := build_few hqb
        have hSS : ∀ W, Below (w.alloc (.cells #[.slice A1 la.length c1, .slice A2 lb.length c2] 24)).heap.size (w.alloc (.cells #[.slice A1 la.length c1, .slice A2 lb.length c2] 24)) W → (W.cell? ⟨w.heap.size, 0, none⟩ = some (.slice A1 la.length c1) ∧ W.cell? ⟨w.heap.size, 1, none⟩ = some (.slice A2 lb.length c2)) := fun W hW => ⟨(hW.cell (cell_lt d0)).trans d0, (hW.cell (cell_lt d1)).trans d1⟩
        generalize Fs.build la = T at *
        generalize Fs.build lb = U at *
        replace hB := Lib.hid hB
        replace hblk := Lib.hid hblk
        replace hx1 := Lib.hid hx1
        replace hy1 := Lib.hid hy1
        replace haw := Lib.hid haw
        replace hs1 := Lib.hid hs1
        replace hs2 := Lib.hid hs2
        replace hx := Lib.hid hx
        replace hy := Lib.hid hy
        replace hu := Lib.hid hu
        replace hpl := Lib.hid hpl
        replace hqa := Lib.hid hqa
        replace hqb := Lib.hid hqb
        replace hl40 := Lib.hid hl40
        replace k1 := Lib.hid k1
        replace k2 := Lib.hid k2
        replace k3 := Lib.hid k3
        replace k4 := Lib.hid k4
        replace hfa := Lib.hid hfa
        replace hfb := Lib.hid hfb
        replace hSS := Lib.hid hSS
        go_enter Tryz.func3, Tryz.ntmps3
        go_wp2_with fail
        (with_reducible refine (hs1.out).mono ?_)
        rintro e w1 ⟨rfl, rfl⟩
        go_wp2_with fail
        (with_reducible refine (hs2.out).mono ?_)
        rintro e w1 ⟨rfl, rfl⟩
        go_upto_region 3 with fail
        generalize (w.alloc (.cells #[.slice A1 la.length c1, .slice A2 lb.length c2] 24)) = w1 at *
        have hBd : Below w1.heap.size w1 w1.drew := below_drewN (Below.refl w1.heap.size w1) 1
        have hB0d := below_step hB.out hBd
        replace hBd := Lib.hid hBd
        replace hB0d := Lib.hid hB0d
        clear hs1 hs2
        go_region_held3 (fun W => (W.cell? ⟨w.heap.size, 0, none⟩ = some (.slice A1 la.length c1) ∧ W.cell? ⟨w.heap.size, 1, none⟩ = some (.slice A2 lb.length c2))) (first | exact hSS.out _ hBd.out | exact hSS.out _ hBa.out | exact hSS.out _ hBb.out) (first
          | (go_at_call 6; first
              | ((with_reducible refine (k1.out _ hB0d.out).mono ?_); rintro e wa ⟨ta, Ca, Ma, rfl, hRa, hOa, hBa0⟩; have hBa := below_step hBd.out hBa0; have hB0a := below_step hB0d.out hBa0; have hOa' : ∀ b, Own ta Ca Ma T b → w.heap.size ≤ b := fun b hb => Nat.le_trans hB0d.out.size (hOa b hb); replace hBa := Lib.hid hBa; replace hB0a := Lib.hid hB0a; replace hRa := Lib.hid hRa; replace hOa' := Lib.hid hOa'; clear hBa0 hOa)
              | ((with_reducible refine (k2.out _ hB0a.out).mono ?_); rintro e wb ⟨tb, Cb, Mb, rfl, hRb, hOb, hBb0⟩; have hBb := below_step hBa.out hBb0; have hB0b := below_step hB0a.out hBb0; have hOb' : ∀ b, Own tb Cb Mb U b → w.heap.size ≤ b := fun b hb => Nat.le_trans hB0a.out.size (hOb b hb); have hPb : Pair wb ta tb Ca Ma Cb Mb (T, U) := ⟨hRa.out.below hBb0, hRb, fun b hb ho => by have h1 := hRa.out.lt hb; have h2 := hOb b ho; omega⟩; replace hBb := Lib.hid hBb; replace hB0b := Lib.hid hB0b; replace hOb' := Lib.hid hOb'; replace hPb := Lib.hid hPb; clear hBb0 hOb hRb)))
        try (rename_i hHeld; clear hHeld)
        have hBe : Below wb.heap.size wb wb.drew := below_drewN (Below.refl wb.heap.size wb) 1
        have hB1e := below_step hBb.out hBe
        have hB0e := below_step hB0b.out hBe
        have hPe := hPb.out.below hBe
        replace hBe := Lib.hid hBe
        replace hB1e := Lib.hid hB1e
        replace hB0e := Lib.hid hB0e
        replace hPe := Lib.hid hPe
        go_upto_region 4 with fail
        go_region_held3 (fun W => (W.cell? ⟨w.heap.size, 0, none⟩ = some (.slice A1 la.length c1) ∧ W.cell? ⟨w.heap.size, 1, none⟩ = some (.slice A2 lb.length c2))) (first | exact hSS.out _ hB1e.out | exact hSS.out _ hBf.out | exact hSS.out _ hBg.out) (first
          | (go_at_call 7; first
              | ((with_reducible refine (k3.out _ hB0e.out).mono ?_); rintro e wf ⟨ra, va, Ea, rfl, hRf, hOf, hBf0⟩; have hBf := below_step hB1e.out hBf0; have hB0f := below_step hB0e.out hBf0; have hOf' : ∀ b, ROwn ra va Ea T b → w.heap.size ≤ b := fun b hb => Nat.le_trans hB0e.out.size (hOf b hb); have hPf := hPe.out.below hBf0; replace hBf := Lib.hid hBf; replace hB0f := Lib.hid hB0f; replace hRf := Lib.hid hRf; replace hOf' := Lib.hid hOf'; replace hPf := Lib.hid hPf; clear hBf0 hOf)
              | ((with_reducible refine (k4.out _ hB0f.out).mono ?_); rintro e wg ⟨rb, vb, Eb, rfl, hRg, hOg, hBg0⟩; have hBg := below_step hBf.out hBg0; have hB0g := below_step hB0f.out hBg0; have hOg' : ∀ b, ROwn rb vb Eb U b → w.heap.size ≤ b := fun b hb => Nat.le_trans hB0f.out.size (hOg b hb); have hRP : RPair wg ra rb va vb Ea Eb (T, U) := ⟨hRf.out.below hBg0, hRg, fun b hb ho => by have h1 := hRf.out.lt hb; have h2 := hOg b ho; omega⟩; have hPg := hPf.out.below hBg0; replace hBg := Lib.hid hBg; replace hB0g := Lib.hid hB0g; replace hOg' := Lib.hid hOg'; replace hRP := Lib.hid hRP; replace hPg := Lib.hid hPg; clear hBg0 hOg hRg)))
        try (rename_i hHeld; clear hHeld)
        have hsmS : Small2 (2 * l.length + 900000) (T, U) := by
          have h1 := hfa.out
          have h2 := hfb.out
          unfold Small2
          dsimp only
          omega
        have hfin := doE_small hsmS
        have hof := oflaw_calls (.slice Ad l.length c) l wg (hu.out.below hB0g.out) (by omega)
        unfold ptr at *
        replace hof := Lib.hid hof
        replace hsmS := Lib.hid hsmS
        replace hfin := Lib.hid hfin
        clear hBa hB0a hRa hPb hBb hBe hB1e hPe hBf hB0f hRf hPf hBg hBd hB0d hB0b hB0e k1 k2 k3 k4 hSS d0 d1
        go_wp2_with fail
        (with_reducible refine (hof.out).mono ?_)
        rintro e wh ⟨⟨vo, rfl, hOo⟩, hBh⟩
        have hB0h := below_step hB0g.out hBh
        have hAT := actsT_own hOo
        have hPh := hPg.out.below hBh
        have hRh := hRP.out.below hBh
        have hdo := reDo_calls ta tb Ca Ma Cb Mb (T, U) vo l wh hPh hAT (fun y hy => Nat.le_trans (hpl.out y hy) (by omega)) (by omega) (hsmS.out.mono (by omega))
        obtain ⟨oA, oc, ho, ho1, ho2⟩ := own_shape hOo
        subst ho
        unfold maxLen at ho2
        unfold ptr at *
        replace hB0h := Lib.hid hB0h
        replace hAT := Lib.hid hAT
        replace hPh := Lib.hid hPh
        replace hRh := Lib.hid hRh
        replace hdo := Lib.hid hdo
        clear hOo hBh hof
        go_wp2_with fail
        (with_reducible refine hdo.out.mono ?_)
        rintro e wi ⟨rfl, hSi⟩
        obtain ⟨Ci, Mi, Di, Ni, hPi, hTi, hOi⟩ := hSi
        have hRi := hRh.out.beside hPh.out hTi
        have hlo1 : ∀ b, Own2 ta tb Ca Ma Cb Mb (T, U) b → w.heap.size ≤ b := fun b hb => hb.elim (hOa'.out b) (hOb'.out b)
        have hlo2 : ∀ b, ROwn2 ra rb va vb Ea Eb (T, U) b → w.heap.size ≤ b := fun b hb => hb.elim (hOf'.out b) (hOg'.out b)
        have hB0i := Turn.low hB0h.out hTi hlo1
        have hrd := refDo_calls ra rb va vb Ea Eb (T, U) (.slice Ad l.length c) l w wi hB0i hRi hlo2 hu.out (fun y hy => Nat.le_trans (hpl.out y hy) (by omega)) (by omega) (hsmS.out.mono (by omega))
        have hfin' := hfin.out
        clear hfin hdo
        generalize doE (T, U) l = r at *
        obtain ⟨⟨T', U'⟩, code⟩ := r
        have hfn : T'.names.length ≤ 100000 ∧ U'.names.length ≤ 100000 := by
          unfold Small2 at hfin'
          dsimp only at hfin'
          omega
        dsimp only at hrd
        unfold ptr at *
        replace hPi := Lib.hid hPi
        replace hRi := Lib.hid hRi
        replace hlo1 := Lib.hid hlo1
        replace hlo2 := Lib.hid hlo2
        replace hB0i := Lib.hid hB0i
        replace hrd := Lib.hid hrd
        replace hfin' := Lib.hid hfin'
        replace hfn := Lib.hid hfn
        replace hTi := Lib.hid hTi
        replace hOi := Lib.hid hOi
        go_wp2_with fail
        (with_reducible refine hrd.out.mono ?_)
        rintro e wj ⟨rfl, hB0j, hTj, rv1, rv2, F1, F2, hRj, hOj⟩
        have hPj := hPi.out.beside hRi.out hTj
        have q1 := lsame_calls ta ra rv1 Ci Mi F1 T' wj hPj.l hRj.l hfn.out.1
        have q2 := fun W hA hC => lsame_calls tb rb rv2 Di Ni F2 U' W hA hC hfn.out.2
        have n1 := fun W => reDo_nil1 (.pointer (some ⟨tb, 0, none⟩)) (.slice none 0 0) W
        have n2 := fun W => reDo_nil2 ta (.slice none 0 0) W
        unfold ptr at *
        replace hPj := Lib.hid hPj
        replace hRj := Lib.hid hRj
        replace hB0j := Lib.hid hB0j
        replace q1 := Lib.hid q1
        replace q2 := Lib.hid q2
        replace n1 := Lib.hid n1
        replace n2 := Lib.hid n2
        replace hTj := Lib.hid hTj
        replace hOj := Lib.hid hOj
        clear hrd hPi hRi
        go_wp2_with fail
        (with_reducible refine (q1.out).mono ?_)
        rintro e wk ⟨rfl, hBk⟩
        have hB0k := below_step hB0j.out hBk
        have hPk := hPj.out.below hBk
        have hRk := hRj.out.below hBk
        replace hB0k := Lib.hid hB0k
        replace hPk := Lib.hid hPk
        replace hRk := Lib.hid hRk
        clear hBk q1
        go_wp2_with fail
        (with_reducible refine (q2.out _ hPk.out.r hRk.out.r).mono ?_)
        rintro e wl ⟨rfl, hBl⟩
        have hB0l := below_step hB0k.out hBl
        replace hB0l := Lib.hid hB0l
        clear hBl q2
        go_wp2_with fail
        (with_reducible refine (n1.out _).mono ?_)
        rintro e wm ⟨rfl, rfl⟩
        go_wp2_with fail
        (with_reducible refine (n2.out _).mono ?_)
        rintro e wm ⟨rfl, rfl⟩
        go_wp2_with fail
        (with_reducible refine (haw.out _).mono ?_)
        rintro e wn ⟨rfl, hBn⟩
        have hB0n := below_step hB0l.out hBn
        replace hB0n := Lib.hid hB0n
        go_wp2
        go_ret
        exact ⟨rfl, hB0n.out⟩

end Go.Proofs.YtcjlfkklpghjbaaGreat
