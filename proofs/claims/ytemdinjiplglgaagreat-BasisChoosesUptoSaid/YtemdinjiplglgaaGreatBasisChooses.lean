/-
  remoralaw22.BasisChooses: of any tree what a file is made of, beside the reference.
-/
import Derived.Test.YtemdinjiplglgaaGreatB6
namespace Go.Proofs.YtemdinjiplglgaaGreat
open Go.RowKit

set_option maxRecDepth 100000 in
theorem choose_nil (p q : ByteArray) (fz : Bool) (w : World) :
    Calls Tryz.prog 9 #[.pointer none, .string p, .string q, .bool fz] w fun e w' => e = .returned (.tuple #[.string ⟨#[]⟩, .bool false]) ∧ w = w' := by
  go_enter Tryz.func9, Tryz.ntmps9
  go_wp2
  go_ret2
  exact ⟨rfl, rfl⟩

set_option maxHeartbeats 8000000 in
set_option maxRecDepth 100000 in
theorem basisChooses_walk (v : Value) (l : List Act17) (a b : ByteArray) (fz : Bool) (w : World) (hv : Acts w v l) (ha : a.size ≤ 2000000) (hb : b.size ≤ 2000000) :
    Calls Tryz.prog 3 #[v, .agg #[.string a, .string b], .bool fz] w fun e w' => e = .returned (.bool true) ∧ Below w.heap.size w w' := by
  have haw := fun W => awake22_calls W
  have hB0 : Below w.heap.size w (w.alloc (.cells #[.string a, .string b] 23)) := (Below.refl _ _).alloc (Nat.le_refl _) _
  have hv0 := hv.below hB0
  have hsm := small_calls v l _ hv0
  have hblk := (MapKept.heap_alloc w (.cells #[.string a, .string b] 23)).1
  have hlt0 : w.heap.size < (w.alloc (.cells #[.string a, .string b] 23)).heap.size := by simp
  replace haw := Lib.hid haw
  cases hs1 : small l with
  | true =>
    rw [hs1] at hsm
    have hl40 := (small_at hs1).1
    have hbl := fun W hW => build_calls v l W hW hs1
    have hrb := fun W hW => rbuild_calls v l W hW hs1
    have hgr := acts_grow Fs.start l
    have hfew : (Fs.build l).names.length ≤ 1000 := by
      have : (Fs.build l).names.length ≤ Fs.start.names.length + l.length := hgr.1
      have h9 : Fs.start.names.length = 1 := rfl
      omega
    clear hgr
    generalize Fs.build l = T at *
    have hch := fun tb A M W (hR : Rep W tb A M T) => choose_calls tb A M T a b fz W hR ha hb (by omega)
    have hrc := fun rb rv A W (hR : RRep W rb rv A T) => rchoose_calls rb rv A T a b fz W hR ha hb (by omega)
    have hcn := fun W => choose_nil a b fz W
    generalize T.choose (bl a) (bl b) fz = ch at *
    obtain ⟨r1, r2⟩ := ch
    generalize hW0 : w.alloc (.cells #[.string a, .string b] 23) = W0 at *
    generalize hn0 : w.heap.size = n0 at *
    unfold ptr at *
    dsimp only at *
    have hC : ∀ W, Below W0.heap.size W0 W → (W.cell? ⟨n0, 0, none⟩ = some (.string a) ∧ W.cell? ⟨n0, 1, none⟩ = some (.string b)) := fun W hW => ⟨cell_of ((hW.block _ hlt0).trans hblk) rfl, cell_of ((hW.block _ hlt0).trans hblk) rfl⟩
    replace hv := Lib.hid hv
    replace hv0 := Lib.hid hv0
    replace hsm := Lib.hid hsm
    replace hbl := Lib.hid hbl
    replace hrb := Lib.hid hrb
    replace hch := Lib.hid hch
    replace hrc := Lib.hid hrc
    replace hcn := Lib.hid hcn
    replace hB0 := Lib.hid hB0
    replace hblk := Lib.hid hblk
    replace hs1 := Lib.hid hs1
    replace hW0 := Lib.hid hW0
    replace hlt0 := Lib.hid hlt0
    replace hn0 := Lib.hid hn0
    replace hC := Lib.hid hC
    go_enter Tryz.func3, Tryz.ntmps3
    go_wp2_with fail
    try rw [hW0.out]
    (with_reducible refine hsm.out.mono ?_)
    rintro e w1 ⟨rfl, rfl⟩
    have hBd := below_drewN (Below.refl W0.heap.size W0) 1
    have hbl' := hbl.out W0.drew (hv0.out.below hBd)
    replace hBd := Lib.hid hBd
    replace hbl' := Lib.hid hbl'
    go_upto_region 3 with fail
    rw [hn0.out]
    go_region_held3 (fun W => (W.cell? ⟨n0, 0, none⟩ = some (.string a) ∧ W.cell? ⟨n0, 1, none⟩ = some (.string b))) (first | exact hC.out _ hBd.out | exact hC.out _ hBa.out | exact hC.out _ hBb.out) (first
      | (go_at_call 10; (with_reducible refine hbl'.out.mono ?_); rintro e wa ⟨tb, A, M, rfl, hUa, hOa, hBa0⟩; have hBa := below_step hBd.out hBa0; replace hBa := Lib.hid hBa; replace hUa := Lib.hid hUa; clear hBa0 hOa)
      | (go_at_call 9; (with_reducible refine (hch.out _ _ _ _ hUa.out).mono ?_); rintro e wb ⟨rfl, hBb0⟩; have hBb := below_step hBa.out hBb0; replace hBb := Lib.hid hBb; clear hBb0))
    have hBd2 := below_drewN hBb.out 1
    have hrb' := hrb.out wb.drew (hv0.out.below hBd2)
    replace hBd2 := Lib.hid hBd2
    replace hrb' := Lib.hid hrb'
    clear hUa hBa hBd hbl'
    go_upto_region 4 with fail
    go_region_held3 (fun W => (W.cell? ⟨n0, 0, none⟩ = some (.string a) ∧ W.cell? ⟨n0, 1, none⟩ = some (.string b))) (first | exact hC.out _ hBd2.out | exact hC.out _ hBc.out | exact hC.out _ hBe.out) (first
      | (go_at_call 12; (with_reducible refine hrb'.out.mono ?_); rintro e wc ⟨rb, rv, RA, rfl, hRc, hPc, hBc0⟩; unfold ptr; have hBc := below_step hBd2.out hBc0; replace hBc := Lib.hid hBc; replace hRc := Lib.hid hRc; clear hBc0 hPc)
      | (go_at_call 11; (with_reducible refine (hrc.out _ _ _ _ hRc.out).mono ?_); rintro e we ⟨rfl, hBe0⟩; have hBe := below_step hBc.out hBe0; replace hBe := Lib.hid hBe; clear hBe0))
    obtain ⟨c0, c1⟩ := hC.out _ hBe.out
    clear hBd2 hrb' hRc hBc hBb
    go_wp2_with fail
    (with_reducible refine (hcn.out _).mono ?_)
    rintro e w5 ⟨rfl, rfl⟩
    go_wp2_with fail
    refine (haw.out _).mono ?_
    rintro e w9 ⟨rfl, hB9⟩
    replace hB9 := Lib.hid hB9
    go_wp2
    go_ret
    have hB0' : Below w.heap.size w W0 := by rw [hn0.out]; exact hB0.out
    have hBf := below_step hB0' (below_step hBe.out hB9.out)
    rw [hn0.out] at hBf
    exact ⟨rfl, hBf⟩
  | false =>
    rw [hs1] at hsm
    generalize hW0 : w.alloc (.cells #[.string a, .string b] 23) = W0 at *
    replace hv := Lib.hid hv
    replace hv0 := Lib.hid hv0
    replace hsm := Lib.hid hsm
    replace hB0 := Lib.hid hB0
    replace hblk := Lib.hid hblk
    replace hs1 := Lib.hid hs1
    replace hW0 := Lib.hid hW0
    replace hlt0 := Lib.hid hlt0
    go_enter Tryz.func3, Tryz.ntmps3
    go_wp2_with fail
    try rw [hW0.out]
    (with_reducible refine hsm.out.mono ?_)
    rintro e w1 ⟨rfl, rfl⟩
    go_wp2_with fail
    refine (haw.out _).mono ?_
    rintro e w9 ⟨rfl, hB9⟩
    go_wp2
    go_ret
    exact ⟨rfl, below_step hB0.out hB9⟩

end Go.Proofs.YtemdinjiplglgaaGreat
