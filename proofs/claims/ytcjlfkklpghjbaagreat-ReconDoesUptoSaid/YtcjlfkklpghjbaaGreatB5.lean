/-
  remoraref17.Write.
  remoraref17: Link, gone, Remove.
  A region that draws its order, whose loads stand under one condition S, and whose last operations write what S speaks of: the head is walked under S, the tail in the text's order.
  remoraref17: gone, Remove.
  remoraref17: Remove.
  remoraref17: moved.
  remoraref17: Rename, the plain law of the moved row.
  remoraref17: Rename, its two last steps in memory.
  remoraref17: Rename.
  remoraref17: Do.
  remoraref17: New, Build.
  remoraref17: Count, Texts.
  What a call turns; the number of all names.
  recon.over: an act's second half.
  Two trees apart, in memory; acts beside them.
  Two of the reference's trees apart, in memory.
  remoraref44.away: an act's first half.
  remoraref44.one: an act's second half.
-/
import Derived.Test.YtcjlfkklpghjbaaGreatB4
import Derived.Test.YtcjlfkklpghjbaaGreatB2
import Derived.Test.YtcjlfkklpghjbaaGreatB1
import Derived.StillTail
import Derived.OrdersHeld
import Derived.Test.YtcjlfkklpghjbaaGreatB3
set_option linter.unusedVariables false
set_option linter.unusedSimpArgs false
open Go.Lib (hid)

namespace Go.Proofs.YtcjlfkklpghjbaaGreat
open Go.RowKit
theorem run_append_any {w : World} (base : Nat) (t e ty : TypeId) (ht : Tryz.prog.underlying t = some (.slice e)) (z : Value) (size bytes : Nat)
  (hinfo : (Tryz.prog.info? e).map (fun i => (i.zero, i.size, i.bytes)) = some (some z, size, bytes)) (hz : z.cells.size = size) (hsz : 0 < size) (v : Value) (n : Nat) (xs : List Value)
  (sv : Value) (m : Nat) (news : List Value) (hsv : Src w sv size m news) (hown : w.ownsRow base e size v n xs) (h1 : ∀ u ∈ news, u.oneCell' = true) (h63 : n + m ≤ maxLen) (hb : (n + m) * bytes ≤ 140737488355328) (hbase : base ≤ w.heap.size) :
  ∃ v1 w1, (Builtin.append_ #[t, t] ty #[v, sv]).run Tryz.prog w = .ok v1 w1 ∧ w1.ownsRow base e size v1 (n + m) (xs ++ news) ∧ w.grownBy w1 v.ownBlock ∧ (v1.ownBlock = v.ownBlock ∨ v1.ownBlock = some w.heap.size) := by
 obtain ⟨i0, hi, hzz⟩ := Option.map_eq_some_iff.1 hinfo
 simp only [Prod.mk.injEq] at hzz
 obtain ⟨hz0, hz1, hz2⟩ := hzz
 rcases hsv with ⟨rfl, rfl, A, c, rfl⟩ | ⟨ad, c, rfl, hl, hn⟩
 ·obtain ⟨A0, c0, rfl, hc0, _⟩ := own_shape hown
  exact ⟨_, _, run_append_zero w t e ty i0 ht hi A0 A n c0 c hc0, by rw [List.append_nil]; exact hown, ⟨rfl, rfl, rfl, Nat.le_refl _, fun _ _ _ => rfl⟩, Or.inl rfl⟩
 ·obtain ⟨v', w', hr, h2, h3, _, h5⟩ := run_append_own_at (P := Tryz.prog) w base t ty e i0 z size bytes ht hi hz0 hz1 hz2 hz hsz v n xs hown ad m c news hl hn h1 h63 hb hbase
  exact ⟨v', w', hr, h2, h3, h5⟩
section
variable (rb : Nat) (v : Value) (A : Nat → Nat) (T : Fs)
/-- Where nothing stands, a thing may come. -/
theorem look_new {T : Fs} (hI : T.Inv) {s : Bytes} (h0 : (T.look s).2.2 = 0) (h1 : (T.look s).1 = none) : right s = true ∧ s ≠ [] ∧ T.at (split s) = none ∧ ∃ d, ((split s).dropLast, d) ∈ T.names ∧ (T.nd d).kind = 2 := by
 have hf : (T.fresh s).2 = 0 := by
  unfold Fs.fresh
  rw [h0, h1]
  simp
 obtain ⟨k1, k2, k3, d, _, k5, k6⟩ := hI.fresh_ok hf
 exact ⟨k1, k2, k3, d, k5, k6⟩
theorem look_old {T : Fs} (hI : T.Inv) {s : Bytes} {i : Nat} (h0 : (T.look s).2.2 = 0) (h1 : (T.look s).1 = some i) : (split s, i) ∈ T.names := by
 obtain ⟨_, h2, _⟩ := hI.look_ok h0
 rw [h1] at h2
 exact hI.at_some.1 h2.symm
set_option maxHeartbeats 4000000 in
set_option maxRecDepth 100000 in
theorem rwrite_calls (s : ByteArray) (u : Value) (b : Bytes) (m : Mt) (w : World) (hR : RRep w rb v A T) (hs : s.size ≤ 16777216) (hv : RdB w u b) (hbl : b.length ≤ 1000000) (hnx : T.next < 4611686018427387904) (hf : T.names.length ≤ 1000000) :
  Calls Tryz.prog 46 #[ptr rb, .string s, u, mtV m] w fun e w' => e = .returned (.int .i64 (T.write (bl s) b m).2) ∧ RStp w w' rb v A T (T.write (bl s) b m).1 := by
 have h1 := fun W => rmay_calls s m W hs
 have h2 := fun W hW => rlook_calls rb v A T s W hW hs
 have hnew := look_new hR.inv (s := bl s)
 have hold := fun i => look_old hR.inv (s := bl s) (i := i)
 obtain ⟨uA, uc, hu, hu1, hu2⟩ : ∃ A c, u = .slice A b.length c ∧ b.length ≤ c ∧ c ≤ maxLen := by
  obtain ⟨A', c, h1, h2, h3, _⟩ := hv
  exact ⟨A', c, h1, h2, h3⟩
 subst hu
 unfold maxLen at hu2
 unfold Fs.write
 generalize mayE (bl s) m = me at *
 obtain ⟨a1, a2, a3, a4, a5⟩ := m
 unfold mtV mtCells ptr at *
 dsimp only at *
 have hB0 : Below w.heap.size w (w.alloc (.cells #[.int .i64 a1, .int .i64 a2, .int .i64 a3, .int .i64 a4, .int .i64 a5] 41)) := (Below.refl _ _).alloc (Nat.le_refl _) _
 have hblk := (MapKept.heap_alloc w (.cells #[.int .i64 a1, .int .i64 a2, .int .i64 a3, .int .i64 a4, .int .i64 a5] 41)).1
 have hlt0 : w.heap.size < (w.alloc (.cells #[.int .i64 a1, .int .i64 a2, .int .i64 a3, .int .i64 a4, .int .i64 a5] 41)).heap.size := by simp
 replace h1 := hid h1
 replace hblk := hid hblk
 replace hB0 := hid hB0
 replace hR := hid hR
 replace hlt0 := hid hlt0
 replace hv := hid hv
 by_cases he : me = 0
 ·subst he
  rw [if_neg (by simp)]
  by_cases hbig : 65536 < b.length
  ·rw [if_pos hbig]
   dsimp only
   have hbig2 : (65536 : Int) < (b.length : Int) := by omega
   replace h2 := hid h2
   replace hnew := hid hnew
   replace hold := hid hold
   go_enter Tryz.func46, Tryz.ntmps46
   go_wp2_with fail
   (with_reducible refine (h1.out _).mono ?_)
   rintro e w1 ⟨rfl, hB1⟩
   have hst := RStp.same hR.out (below_step hB0.out hB1)
   replace hst := hid hst
   clear hB1
   go_wp2
   go_ret
   exact ⟨rfl, hst.out⟩
  ·rw [if_neg hbig]
   have hbig2 : decide ((65536 : Int) < (b.length : Int)) = false := by simp; omega
   generalize hlk : T.look (bl s) = lk at *
   obtain ⟨n, d0, le⟩ := lk
   dsimp only at *
   by_cases hle : le = 0
   ·subst hle
    rw [if_neg (by simp)]
    cases n with
    | none =>
     obtain ⟨k1, k2, k3, d, k5, k6⟩ := hnew rfl rfl
     rw [optPtr_none] at h2
     dsimp only
     replace h2 := hid h2
     replace k1 := hid k1
     replace k2 := hid k2
     replace k3 := hid k3
     replace k5 := hid k5
     replace k6 := hid k6
     replace hlk := hid hlk
     replace hnew := hid hnew
     replace hold := hid hold
     go_enter Tryz.func46, Tryz.ntmps46
     go_wp2_with fail
     (with_reducible refine (h1.out _).mono ?_)
     rintro e w1 ⟨rfl, hB1⟩
     have hB01 := below_step hB0.out hB1
     have h2' := h2.out w1 (hR.out.below hB01)
     replace hB01 := hid hB01
     replace h2' := hid h2'
     go_wp2_with fail
     (with_reducible refine (h2'.out).mono ?_)
     rintro e w2 ⟨rfl, hB2⟩
     have hB02 := below_step hB01.out hB2
     have hR2 := hR.out.below hB02
     have hblk2 := (hB2.block _ (Nat.lt_of_lt_of_le hlt0.out hB1.size)).trans ((hB1.block _ hlt0.out).trans hblk.out)
     replace hB02 := hid hB02
     replace hR2 := hid hR2
     replace hblk2 := hid hblk2
     clear hB1 hB2 h2'
     go_upto_region 10 with fail
     have hB23 : Below w2.heap.size w2 (w2.drew.alloc (.cells #[] 5)) := below_alloc (below_drewN (Below.refl _ _) 1) _
     have hown := own_made w2.drew w2.heap.size 5 1 0 [] (Nat.le_refl _) rfl (by simp [maxLen])
     have hsrc := ((hv.out.below hB02.out).below hB23).src
     obtain ⟨v1, w4, hrun, ho4, hg4, _⟩ := run_append_any w2.heap.size 39 5 39 Tryz.underlying39 (.int .u8 0) 1 1 info_u8 rfl (by decide) (.slice (some ⟨w2.drew.heap.size, 0, none⟩) 0 0) 0 [] (.slice uA b.length uc) b.length (byteCells b) hsrc hown (by simp [byteCells, Value.oneCell']) (by simp only [maxLen]; omega) (by omega) hB23.size
     have hS4 : Byts w2.heap.size w4 v1 b := by
      unfold Byts
      simpa using ho4
     have hB4 : Below w2.heap.size w2 w4 := hB23.grown hg4 hB23.size (own_base hown)
     obtain ⟨vA, vc, hv1, _, _⟩ := own_shape hS4.own
     subst hv1
     have hR4 := hR2.out.below hB4
     have hblk4 := (hB4.block _ (Array.getElem?_eq_some_iff.1 hblk2.out).1).trans hblk2.out
     have hB45 := (Below.refl w4.heap.size w4).alloc (Nat.le_refl _) (.cells #[.int .i64 1, .int .i64 0, .slice vA b.length vc, .string ⟨#[]⟩, .int .i64 a1, .int .i64 a2, .int .i64 a3, .int .i64 a4, .int .i64 a5] 96)
     have hB5 := below_alloc (below_step hB02.out hB4) (.cells #[.int .i64 1, .int .i64 0, .slice vA b.length vc, .string ⟨#[]⟩, .int .i64 a1, .int .i64 a2, .int .i64 a3, .int .i64 a4, .int .i64 a5] 96)
     have hnb : ¬ ROwn rb v A T w4.heap.size := fun h => Nat.lt_irrefl _ (hR4.lt h)
     have hdat5 : Dat (w4.alloc (.cells #[.int .i64 1, .int .i64 0, .slice vA b.length vc, .string ⟨#[]⟩, .int .i64 a1, .int .i64 a2, .int .i64 a3, .int .i64 a4, .int .i64 a5] 96)) (.slice vA b.length vc) b := hS4.dat.kept fun g ⟨_, hg⟩ => hB45.block g (Array.getElem?_eq_some_iff.1 hg).1
     have hmk := rmake_calls rb v A T s d w4.heap.size ⟨1, 1, ⟨a1, a2, a3, a4, a5⟩, [], b⟩ (.slice vA b.length vc) _ (hR4.below hB45) k1.out k2.out k3.out k5.out k6.out rfl ⟨Or.inl rfl, by dsimp only; omega, by simp⟩ hnb (MapKept.heap_alloc w4 _).1 hdat5 hnx hf
     unfold ptr at hmk
     have hbs : w.heap.size ≤ w4.heap.size := Nat.le_trans hB02.out.size hB4.size
     have hkm : ∀ W, Below w2.heap.size w2 W → W.cell? ⟨w.heap.size, 0, none⟩ = some (.int .i64 a1) ∧ W.cell? ⟨w.heap.size, 1, none⟩ = some (.int .i64 a2) ∧ W.cell? ⟨w.heap.size, 2, none⟩ = some (.int .i64 a3) ∧ W.cell? ⟨w.heap.size, 3, none⟩ = some (.int .i64 a4) ∧ W.cell? ⟨w.heap.size, 4, none⟩ = some (.int .i64 a5) := fun W hW => by
      have hx := (hW.block _ (Array.getElem?_eq_some_iff.1 hblk2.out).1).trans hblk2.out
      exact ⟨cell_of hx rfl, cell_of hx rfl, cell_of hx rfl, cell_of hx rfl, cell_of hx rfl⟩
     have hq1 := hkm _ (below_drewN (Below.refl _ _) 1)
     have hq2 := hkm _ hB23
     have hq3 := hkm _ hB4
     have hq4 := hkm _ (below_step hB4 hB45)
     obtain ⟨p0, p1, p2, p3, p4⟩ := hkm _ (Below.refl _ _)
     obtain ⟨q0, q1, q2, q3, q4⟩ := hq3
     obtain ⟨z0, z1, z2, z3, z4⟩ := hkm (w2.alloc (.cells #[] 5)) (below_alloc (Below.refl _ _) _)
     replace hown := hid hown
     replace hsrc := hid hsrc
     replace hrun := hid hrun
     replace hS4 := hid hS4
     replace hB4 := hid hB4
     replace hR4 := hid hR4
     replace hblk4 := hid hblk4
     replace hB45 := hid hB45
     replace hB5 := hid hB5
     replace hnb := hid hnb
     replace hdat5 := hid hdat5
     replace hmk := hid hmk
     replace hbs := hid hbs
     replace hq1 := hid hq1
     replace hq2 := hid hq2
     replace hq4 := hid hq4
     replace hkm := hid hkm
     replace hB23 := hid hB23
     clear ho4 hg4
     go_region_law (first | (refine step_append_by rfl _ _ 39 rfl _ _ rfl rfl _ w4 hrun.out ?_) | (go_simp; (with_reducible refine hmk.out.mono ?_); rintro e w6 ⟨rfl, hmd⟩; replace hmd := hid hmd))
     all_goals
      have hst := RMade.stp hB5.out hbs.out hmd.out
      replace hst := hid hst
      clear hmd hmk p0 p1 p2 p3 p4 q0 q1 q2 q3 q4 z0 z1 z2 z3 z4
      go_wp2
      go_ret
      exact ⟨rfl, hst.out⟩
    | some i =>
     have hm := hold i rfl rfl
     rw [optPtr_some] at h2
     dsimp only
     have hkk := hR.out.inv.kinds _ _ hm
     replace h2 := hid h2
     replace hlk := hid hlk
     replace hnew := hid hnew
     replace hold := hid hold
     rcases hkk with hk | hk | hk
     ·have hnf : notFile (T.nd i) = 0 := by unfold notFile; rw [hk]; rfl
      rw [hnf, if_neg (by decide)]
      dsimp only
      go_enter Tryz.func46, Tryz.ntmps46
      go_wp2_with fail
      (with_reducible refine (h1.out _).mono ?_)
      rintro e w1 ⟨rfl, hB1⟩
      have hB01 := below_step hB0.out hB1
      have h2' := h2.out w1 (hR.out.below hB01)
      replace hB01 := hid hB01
      replace h2' := hid h2'
      go_wp2_with fail
      (with_reducible refine (h2'.out).mono ?_)
      rintro e w2 ⟨rfl, hB2⟩
      have hB02 := below_step hB01.out hB2
      have hR2 := hR.out.below hB02
      have hblk2 := (hB2.block _ (Nat.lt_of_lt_of_le hlt0.out hB1.size)).trans ((hB1.block _ hlt0.out).trans hblk.out)
      have hB23 := (Below.refl w2.heap.size w2).alloc (Nat.le_refl _) (.cells #[] 5)
      have hown := own_made w2 w2.heap.size 5 1 0 [] (Nat.le_refl _) rfl (by simp [maxLen])
      have hsrc := ((hv.out.below hB02).below hB23).src
      obtain ⟨_, _, n0, _⟩ := hR2.cells ⟨_, hm⟩
      rw [hk] at n0
      have n1 := (hB23.cell (cell_lt n0)).trans n0
      replace hB02 := hid hB02
      replace hR2 := hid hR2
      replace hblk2 := hid hblk2
      replace hB23 := hid hB23
      replace hown := hid hown
      replace hsrc := hid hsrc
      replace hk := hid hk
      replace hnf := hid hnf
      clear hB1 hB2 h2'
      go_wp2_with (at_builtin; refine wp_append_any w2.heap.size rfl (.tmp 52) (.tmp 53) 39 5 rfl Tryz.underlying39 (.int .u8 0) 1 1 info_u8 rfl (by decide) (.slice (some ⟨w2.heap.size, 0, none⟩) 0 0) 0 [] rfl (.slice uA b.length uc) b.length (byteCells b) rfl hsrc.out hown.out ?_ ?_ ?_ (by simp) ?_)
      ·simp [byteCells, Value.oneCell']
      ·simp only [maxLen]; omega
      ·omega
      ·intro v1 w3 g1 hg hat
       have hS3 : Byts w2.heap.size w3 v1 b := by
        unfold Byts
        simpa using g1
       have hB3 : Below w2.heap.size w2 w3 := hB23.out.grown hg (by simp) (own_base hown.out)
       obtain ⟨oA, oc, ho, _, _⟩ := own_shape hS3.own
       subst ho
       have hR3 := hR2.out.below hB3
       have hst := (rall_stp hR3 hm hk.out (by omega) hS3.dat a1 a2 a3 a4 a5).after (below_step hB02.out hB3)
       have hblk3 := (hB3.block _ (Array.getElem?_eq_some_iff.1 hblk2.out).1).trans hblk2.out
       obtain ⟨dv, _, hnode⟩ := hR3.node i ⟨_, hm⟩
       have f1 : ∀ k, w3.frozen? ⟨A i, k, none⟩ = false := fun k => by simp [World.frozen?, hnode]
       have c2 : w3.cell? ⟨A i, 2, none⟩ = some dv := cell_of hnode rfl
       have c4 : w3.cell? ⟨A i, 4, none⟩ = some (.int .i64 (T.nd i).mt.mode) := cell_of hnode rfl
       have c5 : w3.cell? ⟨A i, 5, none⟩ = some (.int .i64 (T.nd i).mt.sec) := cell_of hnode rfl
       have c6 : w3.cell? ⟨A i, 6, none⟩ = some (.int .i64 (T.nd i).mt.nano) := cell_of hnode rfl
       have c7 : w3.cell? ⟨A i, 7, none⟩ = some (.int .i64 (T.nd i).mt.uid) := cell_of hnode rfl
       have c8 : w3.cell? ⟨A i, 8, none⟩ = some (.int .i64 (T.nd i).mt.gid) := cell_of hnode rfl
       have hna : w.heap.size ≠ A i := types_apart hblk3 hnode (by decide)
       have hna2 : A i ≠ w.heap.size := Ne.symm hna
       have d0 := cell_of (j := 0) hblk3 (v := .int .i64 a1) rfl
       have d1 := cell_of (j := 1) hblk3 (v := .int .i64 a2) rfl
       have d2 := cell_of (j := 2) hblk3 (v := .int .i64 a3) rfl
       have d3 := cell_of (j := 3) hblk3 (v := .int .i64 a4) rfl
       have d4 := cell_of (j := 4) hblk3 (v := .int .i64 a5) rfl
       replace hst := hid hst
       replace hS3 := hid hS3
       replace hB3 := hid hB3
       replace hR3 := hid hR3
       replace hblk3 := hid hblk3
       replace hnode := hid hnode
       clear g1 hg hat n1
       go_wp2
       go_ret
       exact ⟨rfl, hst.out⟩
     ·have hnf : notFile (T.nd i) = 13 := by unfold notFile; rw [hk]; rfl
      rw [hnf, if_pos (by decide)]
      dsimp only
      go_enter Tryz.func46, Tryz.ntmps46
      go_wp2_with fail
      (with_reducible refine (h1.out _).mono ?_)
      rintro e w1 ⟨rfl, hB1⟩
      have hB01 := below_step hB0.out hB1
      have h2' := h2.out w1 (hR.out.below hB01)
      replace hB01 := hid hB01
      replace h2' := hid h2'
      go_wp2_with fail
      (with_reducible refine (h2'.out).mono ?_)
      rintro e w2 ⟨rfl, hB2⟩
      have hB02 := below_step hB01.out hB2
      have hR2 := hR.out.below hB02
      obtain ⟨_, _, n0, _⟩ := hR2.cells ⟨_, hm⟩
      rw [hk] at n0
      have hst := RStp.same hR.out hB02
      replace hst := hid hst
      replace hB02 := hid hB02
      replace hR2 := hid hR2
      replace hk := hid hk
      replace hnf := hid hnf
      clear hB1 hB2 h2'
      go_wp2
      go_ret
      exact ⟨rfl, hst.out⟩
     ·have hnf : notFile (T.nd i) = 17 := by unfold notFile; rw [hk]; rfl
      rw [hnf, if_pos (by decide)]
      dsimp only
      go_enter Tryz.func46, Tryz.ntmps46
      go_wp2_with fail
      (with_reducible refine (h1.out _).mono ?_)
      rintro e w1 ⟨rfl, hB1⟩
      have hB01 := below_step hB0.out hB1
      have h2' := h2.out w1 (hR.out.below hB01)
      replace hB01 := hid hB01
      replace h2' := hid h2'
      go_wp2_with fail
      (with_reducible refine (h2'.out).mono ?_)
      rintro e w2 ⟨rfl, hB2⟩
      have hB02 := below_step hB01.out hB2
      have hR2 := hR.out.below hB02
      obtain ⟨_, _, n0, _⟩ := hR2.cells ⟨_, hm⟩
      rw [hk] at n0
      have hst := RStp.same hR.out hB02
      replace hst := hid hst
      replace hB02 := hid hB02
      replace hR2 := hid hR2
      replace hk := hid hk
      replace hnf := hid hnf
      clear hB1 hB2 h2'
      go_wp2
      go_ret
      exact ⟨rfl, hst.out⟩
   ·rw [if_pos hle]
    have hle2 : (le == 0) = false := by simpa using hle
    have hle3 : (le != 0) = true := by simpa using hle
    have hn : ∃ a, optPtr A n = .pointer a := by cases n <;> exact ⟨_, rfl⟩
    obtain ⟨a, hn⟩ := hn
    simp only [hn] at h2
    replace h2 := hid h2
    replace hnew := hid hnew
    replace hold := hid hold
    replace hn := hid hn
    replace hle := hid hle
    replace hlk := hid hlk
    go_enter Tryz.func46, Tryz.ntmps46
    go_wp2_with fail
    (with_reducible refine (h1.out _).mono ?_)
    rintro e w1 ⟨rfl, hB1⟩
    have hB01 := below_step hB0.out hB1
    have h2' := h2.out w1 (hR.out.below hB01)
    replace hB01 := hid hB01
    replace h2' := hid h2'
    go_wp2_with fail
    (with_reducible refine (h2'.out).mono ?_)
    rintro e w2 ⟨rfl, hB2⟩
    have hst := RStp.same hR.out (below_step hB01.out hB2)
    replace hst := hid hst
    clear hB1 hB2 h2'
    go_wp2
    go_ret
    exact ⟨rfl, hst.out⟩
 ·rw [if_pos he]
  dsimp only
  have hme : (me == 0) = false := by simpa using he
  have hme2 : (me != 0) = true := by simpa using he
  replace he := hid he
  replace h2 := hid h2
  replace hnew := hid hnew
  replace hold := hid hold
  go_enter Tryz.func46, Tryz.ntmps46
  go_wp2_with fail
  (with_reducible refine (h1.out _).mono ?_)
  rintro e w1 ⟨rfl, hB1⟩
  have hst := RStp.same hR.out (below_step hB0.out hB1)
  replace hst := hid hst
  clear hB1
  go_wp2
  go_ret
  exact ⟨rfl, hst.out⟩
end
end Go.Proofs.YtcjlfkklpghjbaaGreat

namespace Go.Proofs.YtcjlfkklpghjbaaGreat
open Go.RowKit
section
variable (rb : Nat) (v : Value) (A : Nat → Nat) (T : Fs)
theorem name_rnode (T : Fs) (p : Pt) (i j : Nat) : rnode ((T.name p i).nd j) j = rnode (T.nd j) j ∧ ((T.name p i).nd j).data = (T.nd j).data := by
 simp only [Fs.name]
 split
 ·rename_i h
  subst h
  exact ⟨rfl, rfl⟩
 ·exact ⟨rfl, rfl⟩
theorem gone_rnode (T : Fs) (p : Pt) (i j : Nat) : rnode ((T.gone p i).nd j) j = rnode (T.nd j) j ∧ ((T.gone p i).nd j).data = (T.nd j).data := by
 simp only [Fs.gone]
 split
 ·rename_i h
  subst h
  exact ⟨rfl, rfl⟩
 ·exact ⟨rfl, rfl⟩
theorem link_file {T : Fs} (hI : T.Inv) (o p : Bytes) (hr : ¬ (right o = false ∨ right p = false)) :
  ((T.file o).2 ≠ 0 ∧ T.link o p = (T, (T.file o).2)) ∨ (∃ i, T.file o = (some i, 0) ∧ (split o, i) ∈ T.names ∧ (T.nd i).kind = 1 ∧ T.link o p = if (T.fresh p).2 ≠ 0 then (T, (T.fresh p).2) else (T.name (split p) i, 0)) := by
 unfold Fs.link
 rw [if_neg hr]
 rcases file_there hI o with ⟨hz, hfe⟩ | ⟨i, hz, h3, hm, hrs, hfe⟩
 ·rw [hfe]
  refine Or.inl ⟨hz, ?_⟩
  rw [if_pos hz]
 ·rw [if_neg (by simpa using hz), h3, hfe]
  dsimp only
  by_cases hn : notFile (T.nd i) = 0
  ·refine Or.inr ⟨i, by rw [hn], hm, ?_, ?_⟩
   ·unfold notFile at hn
    rcases hI.kinds _ _ hm with h | h | h
    ·exact h
    ·rw [if_pos h] at hn; cases hn
    ·rw [if_neg (by rw [h]; decide), if_pos h] at hn; cases hn
   ·rw [if_neg (by simpa using hn)]
  ·refine Or.inl ⟨hn, ?_⟩
   rw [if_pos hn]
set_option maxHeartbeats 2000000 in
set_option maxRecDepth 100000 in
theorem rlink_calls (o s : ByteArray) (w : World) (hR : RRep w rb v A T) (ho : o.size ≤ 16777216) (hs : s.size ≤ 16777216) (hf : T.names.length ≤ 1000000) :
  Calls Tryz.prog 48 #[ptr rb, .string o, .string s] w fun e w' => e = .returned (.int .i64 (T.link (bl o) (bl s)).2) ∧ RStp w w' rb v A T (T.link (bl o) (bl s)).1 := by
 have h0 := fun W => refright_calls o W ho
 have h1 := fun W => refright_calls s W hs
 have h2 := fun W hW => rfile_calls rb v A T o W hW ho
 have h3 := fun W hW => rfresh_calls rb v A T s W hW hs
 have hfo := hR.inv.fresh_ok (s := bl s)
 have hlf := link_file hR.inv (bl o) (bl s)
 cases hro : right (bl o) with
 | false =>
  have hl : T.link (bl o) (bl s) = (T, 9) := by unfold Fs.link; rw [if_pos (Or.inl hro)]
  rw [hl]
  rw [hro] at h0
  unfold ptr at *
  replace h0 := hid h0
  replace h1 := hid h1
  replace h2 := hid h2
  replace h3 := hid h3
  replace hfo := hid hfo
  replace hlf := hid hlf
  replace hro := hid hro
  replace hl := hid hl
  go_enter Tryz.func48, Tryz.ntmps48
  go_wp2_with fail
  (with_reducible refine (h0.out _).mono ?_)
  rintro e w1 ⟨rfl, hB1⟩
  have hst := RStp.same hR hB1
  replace hst := hid hst
  replace hB1 := hid hB1
  replace hR := hid hR
  go_wp2
  go_ret
  exact ⟨rfl, hst.out⟩
 | true =>
  rw [hro] at h0
  cases hrs : right (bl s) with
  | false =>
   have hl : T.link (bl o) (bl s) = (T, 9) := by unfold Fs.link; rw [if_pos (Or.inr hrs)]
   rw [hl]
   rw [hrs] at h1
   unfold ptr at *
   replace h0 := hid h0
   replace h1 := hid h1
   replace h2 := hid h2
   replace h3 := hid h3
   replace hfo := hid hfo
   replace hlf := hid hlf
   replace hro := hid hro
   replace hrs := hid hrs
   replace hl := hid hl
   go_enter Tryz.func48, Tryz.ntmps48
   go_wp2_with fail
   (with_reducible refine (h0.out _).mono ?_)
   rintro e w1 ⟨rfl, hB1⟩
   go_wp2_with fail
   (with_reducible refine (h1.out _).mono ?_)
   rintro e w2 ⟨rfl, hB2⟩
   have hst := RStp.same hR (below_step hB1 hB2)
   replace hst := hid hst
   replace hB1 := hid hB1
   replace hB2 := hid hB2
   replace hR := hid hR
   go_wp2
   go_ret
   exact ⟨rfl, hst.out⟩
  | true =>
   rw [hrs] at h1
   unfold Fs.fileOk at h2
   rcases hlf (by simp [hro, hrs]) with ⟨hz, hl⟩ | ⟨i, hfe, hm, hk1, hl⟩
   ·rw [hl]
    dsimp only
    simp only [hz, if_false, optPtr_none] at h2
    have he2 : ((T.file (bl o)).2 == 0) = false := by simpa using hz
    generalize (T.file (bl o)).2 = e at *
    unfold ptr at *
    replace h0 := hid h0
    replace h1 := hid h1
    replace h2 := hid h2
    replace h3 := hid h3
    replace hfo := hid hfo
    replace hro := hid hro
    replace hrs := hid hrs
    replace hl := hid hl
    replace hz := hid hz
    clear hlf
    go_enter Tryz.func48, Tryz.ntmps48
    go_wp2_with fail
    (with_reducible refine (h0.out _).mono ?_)
    rintro e w1 ⟨rfl, hB1⟩
    go_wp2_with fail
    (with_reducible refine (h1.out _).mono ?_)
    rintro e w2 ⟨rfl, hB2⟩
    have hB02 := below_step hB1 hB2
    have h2' := h2.out w2 (hR.below hB02)
    replace hB02 := hid hB02
    replace h2' := hid h2'
    replace hR := hid hR
    clear hB1 hB2
    go_wp2_with fail
    (with_reducible refine (h2'.out).mono ?_)
    rintro e w3 ⟨rfl, hB3⟩
    have hst := RStp.same hR.out (below_step hB02.out hB3)
    replace hst := hid hst
    clear hB3 h2'
    go_wp2
    go_ret
    exact ⟨rfl, hst.out⟩
   ·rw [hl]
    simp only [hfe, if_true, optPtr_some] at h2
    by_cases hf2 : (T.fresh (bl s)).2 = 0
    ·rw [if_neg (by simpa using hf2)]
     dsimp only
     obtain ⟨k1, k2, k3, d, k4, k5, k6⟩ := hfo hf2
     rw [hf2] at h3
     have hI' : (T.name (split (bl s)) i).Inv := name_inv hR.inv (split_ne_nil k2) ⟨_, k1, rfl⟩ k5 k6 k3 hm hk1
     have hlive : ∀ j, (T.name (split (bl s)) i).Live j → T.Live j := fun j hj => name_live hm hj
     have hfin := fun v1 W w' hW => @rrep_row_stp W w' rb v v1 A T (T.name (split (bl s)) i) hW hI' hlive (fun j _ => name_rnode T _ i j) rfl
     unfold ptr at *
     replace h0 := hid h0
     replace h1 := hid h1
     replace h2 := hid h2
     replace h3 := hid h3
     replace hro := hid hro
     replace hrs := hid hrs
     replace hl := hid hl
     replace hfe := hid hfe
     replace hm := hid hm
     replace hk1 := hid hk1
     replace hf2 := hid hf2
     replace k1 := hid k1
     replace k2 := hid k2
     replace k3 := hid k3
     replace k4 := hid k4
     replace k5 := hid k5
     replace k6 := hid k6
     replace hI' := hid hI'
     replace hlive := hid hlive
     replace hfin := hid hfin
     clear hlf hfo
     go_enter Tryz.func48, Tryz.ntmps48
     go_wp2_with fail
     (with_reducible refine (h0.out _).mono ?_)
     rintro e w1 ⟨rfl, hB1⟩
     go_wp2_with fail
     (with_reducible refine (h1.out _).mono ?_)
     rintro e w2 ⟨rfl, hB2⟩
     have hB02 := below_step hB1 hB2
     have h2' := h2.out w2 (hR.below hB02)
     replace hB02 := hid hB02
     replace h2' := hid h2'
     replace hR := hid hR
     clear hB1 hB2
     go_wp2_with fail
     (with_reducible refine (h2'.out).mono ?_)
     rintro e w3 ⟨rfl, hB3⟩
     have hB03 := below_step hB02.out hB3
     have h3' := h3.out w3 (hR.out.below hB03)
     replace hB03 := hid hB03
     replace h3' := hid h3'
     clear hB3 h2'
     go_wp2_with fail
     (with_reducible refine (h3'.out).mono ?_)
     rintro e w4 ⟨rfl, hB4⟩
     have hB04 := below_step hB03.out hB4
     have hR4 := hR.out.below hB04
     have hvr := hR4.tree_row
     have hrow := hR4.row
     have htree := hR4.tree
     obtain ⟨g, c, hv, hc1, hc2, hp, t0, _⟩ := hR4.at_
     subst hv
     unfold maxLen at hc2
     replace hB04 := hid hB04
     replace hR4 := hid hR4
     replace hrow := hid hrow
     replace htree := hid htree
     clear hB4 h3'
     go_wp2_with (at_builtin; refine wp_append1 0 rfl (.tmp 34) (.tmp 38) 58 98 rfl Tryz.underlying58 (.agg #[.string ⟨#[]⟩, .pointer none]) 2 24 info_name rfl (by decide) (.slice (some ⟨g, 0, none⟩) T.names.length c) _ _ rfl [.string s, .pointer (some ⟨A i, 0, none⟩)] rfl hrow.out rfl ?_ ?_ ?_ (Nat.zero_le _) ?_)
     ·simp [Value.oneCell']
     ·simp only [maxLen]; omega
     ·omega
     ·intro v1 w5 g1 hg hat
      obtain ⟨vA, vc, hv1, _, _⟩ := own_shape g1
      subst hv1
      have t5 := (hg.block rb (Array.getElem?_eq_some_iff.1 htree.out).1 (fun e => hvr e.symm)).trans htree.out
      have f5 : w5.frozen? ⟨rb, 0, none⟩ = false := by simp [World.frozen?, t5]
      have e5 : w5.cell? ⟨rb, 0, none⟩ = some (.slice (some ⟨g, 0, none⟩) T.names.length c) := cell_of t5 rfl
      have hv1r : (Value.slice vA (T.names.length + 1) vc).ownBlock ≠ some rb := fun e => by
       obtain ⟨_, cur, hc⟩ := own_cells g1 e
       exact types_apart t5 hc (by decide) rfl
      have ht : Turn w4 (w5.setCell ⟨rb, 0, none⟩ (.slice vA (T.names.length + 1) vc)) (fun b => b = rb ∨ (Value.slice (some ⟨g, 0, none⟩) T.names.length c).ownBlock = some b) :=
       Turn.set (S := fun b => b = rb ∨ (Value.slice (some ⟨g, 0, none⟩) T.names.length c).ownBlock = some b) (Turn.of_grown hg fun j hj => Or.inr hj) (Or.inl rfl) 0 _
      have hst := (hfin.out _ _ _ hR4.out ht (by have := heap_set_same t5 0 (.slice vA (T.names.length + 1) vc); simpa using this)
       (by
        have e1 : (T.name (split (bl s)) i).names = T.names ++ [(split (bl s), i)] := rfl
        rw [e1, List.length_append, rrow_append]
        have e2 : rrow A [(split (bl s), i)] = [.string s, .pointer (some ⟨A i, 0, none⟩)] := by
         simp only [rrow, List.flatMap_cons, List.flatMap_nil, List.append_nil, glue_split, mkS_bl]
         rfl
        rw [e2]
        exact own_blocks g1 fun b hb => heap_set_other w5 (fun e : b = rb => hv1r (by rw [← e]; exact hb)) 0 _) hat).after hB04.out
      replace t5 := hid t5
      replace hst := hid hst
      clear g1 hg hat hv1r ht
      go_wp2
      go_ret
      exact ⟨rfl, hst.out⟩
    ·rw [if_pos (by simpa using hf2)]
     dsimp only
     generalize (T.fresh (bl s)).2 = fe at *
     have hfe2 : (fe == 0) = false := by simpa using hf2
     unfold ptr at *
     replace h0 := hid h0
     replace h1 := hid h1
     replace h2 := hid h2
     replace h3 := hid h3
     replace hro := hid hro
     replace hrs := hid hrs
     replace hl := hid hl
     replace hfe := hid hfe
     replace hm := hid hm
     replace hk1 := hid hk1
     replace hf2 := hid hf2
     clear hlf hfo
     go_enter Tryz.func48, Tryz.ntmps48
     go_wp2_with fail
     (with_reducible refine (h0.out _).mono ?_)
     rintro e w1 ⟨rfl, hB1⟩
     go_wp2_with fail
     (with_reducible refine (h1.out _).mono ?_)
     rintro e w2 ⟨rfl, hB2⟩
     have hB02 := below_step hB1 hB2
     have h2' := h2.out w2 (hR.below hB02)
     replace hB02 := hid hB02
     replace h2' := hid h2'
     replace hR := hid hR
     clear hB1 hB2
     go_wp2_with fail
     (with_reducible refine (h2'.out).mono ?_)
     rintro e w3 ⟨rfl, hB3⟩
     have hB03 := below_step hB02.out hB3
     have h3' := h3.out w3 (hR.out.below hB03)
     replace hB03 := hid hB03
     replace h3' := hid h3'
     clear hB3 h2'
     go_wp2_with fail
     (with_reducible refine (h3'.out).mono ?_)
     rintro e w4 ⟨rfl, hB4⟩
     have hst := RStp.same hR.out (below_step hB03.out hB4)
     replace hst := hid hst
     clear hB4 h3'
     go_wp2
     go_ret
     exact ⟨rfl, hst.out⟩
end
end Go.Proofs.YtcjlfkklpghjbaaGreat

namespace Go.Proofs.YtcjlfkklpghjbaaGreat
open Go.RowKit
/-- Q, but T where the head has come to its end. -/
def TailQ (T : Act → World → Prop) (Q : Exit → Act → World → Prop) : Exit → Act → World → Prop
  | .normal, a, w => T a w
  | e, a, w => Q e a w
theorem oper_tailQ {P : Program} {T : Act → World → Prop} {Q : Exit → Act → World → Prop} {o : Oper} {a : Act} {w : World} {K : Act → World → Prop} (h : o.wp P a w K (TailQ T Q)) : o.wp P a w K Q := by
 unfold Oper.wp at *
 generalize (execOp a.eval o).run P w = r at *
 cases r with
 | ok n w' =>
  cases n <;> simp only [Oper.upon] at h ⊢ <;>
   first
    | exact h
    | exact Calls.mono h (fun e w'' he => by cases e <;> exact he)
    | exact Rows.mono h (fun _ _ he => he)
 | halt x w' => cases x <;> simp only [Oper.upon] at h ⊢ <;> exact h
def depsB (md : Region.Mode) (ops : Array Oper) (n : Nat) : Bool :=
  (List.range n).all fun j => ((ops[j]?).map fun o => o.after.all fun e => !Region.binds md e || decide (e.on < j)).getD false
def bareB (ops : Array Oper) (n : Nat) : Bool :=
  (List.range n).all fun j => ((ops[j]?).map fun o => o.guard.isNone).getD false
theorem depsB_spec {md : Region.Mode} {ops : Array Oper} {n : Nat} (h : depsB md ops n = true) {j : Nat} (hj : j < n) : ∃ o, ops[j]? = some o ∧ ∀ e ∈ o.after, Region.binds md e = true → e.on < j := by
 have := List.all_eq_true.1 h j (List.mem_range.2 hj)
 cases ho : ops[j]? with
 | none => simp [ho] at this
 | some o =>
  refine ⟨o, rfl, fun e he hb => ?_⟩
  simp only [ho, Option.map_some, Option.getD_some, Array.all_eq_true_iff_forall_mem] at this
  have := this e he
  simpa [hb] using this
theorem bareB_spec {ops : Array Oper} {n : Nat} (h : bareB ops n = true) {j : Nat} (hj : j < n) {o : Oper} (ho : ops[j]? = some o) : o.guard = none := by
 have := List.all_eq_true.1 h j (List.mem_range.2 hj)
 simpa [ho] using this
theorem getD_app_lt {x y : Array Bool} {i : Nat} (h : i < x.size) (d : Bool) : (x ++ y).getD i d = x.getD i d := by
 simp only [Array.getD_eq_getD_getElem?, Array.getElem?_append_left h]
theorem getD_app_false {x : Array Bool} {g i : Nat} (h : (x ++ Array.replicate g false).getD i false = true) : i < x.size ∧ x.getD i false = true := by
 rcases Nat.lt_or_ge i x.size with h1 | h1
 ·rw [getD_app_lt h1] at h
  exact ⟨h1, h⟩
 ·rw [Array.getD_eq_getD_getElem?, Array.getElem?_append_right h1, ← Array.getD_eq_getD_getElem?, getD_replicate_false] at h
  cases h
theorem wpAny_of_headH {P : Program} {md : Region.Mode} {l : List Oper} {n : Nat} {S : World → Prop} {Q : Exit → Act → World → Prop} (hn : n < l.length)
  (hs : Region.sinkB md l.toArray n = true) (hc : Region.chainB md l.toArray n = true) (hd : depsB md l.toArray n = true) (hb : bareB l.toArray n = true)
  (hq : Region.seqB md l.toArray (l.length - n) n (Array.replicate n true ++ Array.replicate (l.length - n) false) = true) :
  ∀ (f : Nat) (x : Array Bool) (a : Act) (w : World), x.size = n → x.toList.count false = f → HeadInv md l.toArray n (x ++ Array.replicate (l.length - n) false) →
   wpAnyH P md (l.take n).toArray (TailQ (wpList P l.toArray Q (l.drop n)) Q) S f x a w → wpAny P md l.toArray Q (f + (l.length - n)) (x ++ Array.replicate (l.length - n) false) a w
 | 0, x, a, w, hx, hcnt, inv, h => by
  have hxe : x = Array.replicate n true := by
   apply Array.toList_inj.1
   rw [Array.toList_replicate]
   refine List.eq_replicate_iff.2 ⟨by simpa using hx, fun b hb => ?_⟩
   cases b with
   | true => rfl
   | false => exact absurd hb (List.count_eq_zero.1 hcnt)
  subst hxe
  rw [Nat.zero_add]
  have h2 : wpList P l.toArray Q (l.drop n) a w := h.2
  have := wpAny_of_seq (md := md) (Q' := Q) (l.drop n) n _ a w (fun j => by simp [List.getElem?_drop]) (by rw [List.length_drop]; exact hq) h2
  rwa [List.length_drop] at this
 | f + 1, x, a, w, hx, hcnt, inv, h => by
  have hun : ∃ i, i < n ∧ x.getD i true = false := by
   have hm : false ∈ x.toList := List.count_pos_iff.1 (by omega)
   obtain ⟨i, hi, he⟩ := List.mem_iff_getElem.1 hm
   refine ⟨i, by simpa [hx] using hi, ?_⟩
   rw [Array.getD_eq_getD_getElem?, ← Array.getElem?_toList, List.getElem?_eq_getElem hi, he]
   rfl
  have hsz : n < l.toArray.size := by simpa using hn
  have hlt : ∀ i, i ∈ Region.ready md l.toArray (x ++ Array.replicate (l.length - n) false) → i < n := fun i hi => by
   obtain ⟨u, hu, hu2⟩ := hun
   rcases Nat.lt_or_ge i n with h1 | h1
   ·exact h1
   ·exact absurd hi (tail_waits hs hc hsz inv _ u rfl hu (by rw [getD_app_lt (by omega)]; exact hu2) i h1)
  rw [show f + 1 + (l.length - n) = (f + (l.length - n)) + 1 by omega]
  refine ⟨fun h0 => ?_, fun i hi => ?_⟩
  ·exfalso
   have key : ∀ k, ∀ i, i < k → i < n → x.getD i true = true := by
    intro k
    induction k with
    | zero => intro i hi; omega
    | succ k ih =>
     intro i hi hin
     rcases Nat.lt_or_ge i k with h1 | h1
     ·exact ih i h1 hin
     ·have : i = k := by omega
      subst this
      cases hg : x.getD i true with
      | true => rfl
      | false =>
       obtain ⟨o, ho, hdep⟩ := depsB_spec hd hin
       have hr : i ∈ Region.ready md l.toArray (x ++ Array.replicate (l.length - n) false) := mem_ready.2 ⟨by rw [getD_app_lt (by omega)]; exact hg, o, ho, fun e he hbi => by
        have h3 := hdep e he hbi
        rw [getD_app_lt (by omega)]
        have h4 := ih e.on h3 (by omega)
        have h5 : e.on < x.size := by omega
        simp only [Array.getD_eq_getD_getElem?, Array.getElem?_eq_getElem h5, Option.getD_some] at h4 ⊢
        exact h4⟩
       rw [h0] at hr
       cases hr
   obtain ⟨u, hu, hu2⟩ := hun
   rw [key (u + 1) u (by omega) hu] at hu2
   cases hu2
  ·have hin := hlt i hi
   obtain ⟨h1, o, ho, hall⟩ := mem_ready.1 hi
   rw [getD_app_lt (by omega)] at h1
   have hoh : (l.take n).toArray[i]? = some o := by
    rw [List.getElem?_toArray, List.getElem?_take, if_pos hin]
    simpa using ho
   have hih : i ∈ Region.ready md (l.take n).toArray x := mem_ready.2 ⟨h1, o, hoh, fun e he hbi => (getD_app_false (hall e he hbi)).2⟩
   have hstep := h.2 i hih
   have hg := bareB_spec hb hin ho
   have hset : (x ++ Array.replicate (l.length - n) false).setIfInBounds i true = x.setIfInBounds i true ++ Array.replicate (l.length - n) false := by
    apply Array.toList_inj.1
    simp only [Array.toList_setIfInBounds, Array.toList_append]
    rw [List.set_append_left _ _ (by simpa using (by omega : i < x.size))]
   have hnext : ∀ a' w', (S w' ∧ wpAnyH P md (l.take n).toArray (TailQ (wpList P l.toArray Q (l.drop n)) Q) S f (x.setIfInBounds i true) a' w') → wpAny P md l.toArray Q (f + (l.length - n)) ((x ++ Array.replicate (l.length - n) false).setIfInBounds i true) a' w' := fun a' w' hh => by
    rw [hset]
    refine wpAny_of_headH hn hs hc hd hb hq f _ a' w' (by simpa using hx) ?_ ?_ hh.2
    ·rw [Array.toList_setIfInBounds]
     have hix : i < x.toList.length := by simpa using (by omega : i < x.size)
     have hxi : x.toList[i] = false := by
      have h5 : i < x.size := by omega
      simp only [Array.getD_eq_getD_getElem?, Array.getElem?_eq_getElem h5, Option.getD_some] at h1
      simpa using h1
     rw [List.count_set hix, hxi, hcnt]
     simp
    ·rw [← hset]
     exact inv.set hi hin
   unfold wpOp at hstep ⊢
   rw [hoh] at hstep
   rw [ho]
   have hw1 : ∀ y, Region.wanted o y = true := fun y => by simp [Region.wanted, hg]
   simp only [hw1, if_true] at hstep ⊢
   rcases hstep with hstep | ⟨h6, h7⟩
   ·exact Or.inl (Oper.wp_mono hnext (oper_tailQ hstep))
   ·exact Or.inr ⟨h6, h7⟩
theorem wp_region_held_tail {P : Program} {id : Nat} {l : List Oper} {S : World → Prop} {Q : Exit → Act → World → Prop} {a : Act} {w : World} (n : Nat) (hm : P.follows .mixedOrders = true)
  (hB : (decide (n < l.length) && Region.sinkB .any l.toArray n && Region.chainB .any l.toArray n && depsB .any l.toArray n && bareB l.toArray n && Region.seqB .any l.toArray (l.length - n) n (Array.replicate n true ++ Array.replicate (l.length - n) false)) = true)
  (hS : S w.drew) (h : S w.drew → wpAnyH P .any (l.take n).toArray (TailQ (wpList P l.toArray Q (l.drop n)) Q) S n (Array.replicate n false) a w.drew) : (Code.region id l.toArray true).wp P Q a w := by
 simp only [Bool.and_eq_true, decide_eq_true_eq] at hB
 obtain ⟨⟨⟨⟨⟨hn, hs⟩, hc⟩, hd⟩, hb⟩, hq⟩ := hB
 refine wp_region_any hm ?_
 have happ : Array.replicate l.toArray.size false = Array.replicate n false ++ Array.replicate (l.length - n) false := by
  rw [List.size_toArray, Array.replicate_append_replicate, show n + (l.length - n) = l.length by omega]
 have := wpAny_of_headH (P := P) (Q := Q) hn hs hc hd hb hq n (Array.replicate n false) a w.drew (by simp) (by simp) (by
  rw [← happ]
  exact ⟨by simp, fun j oj _ hl => (by rw [getD_replicate_false] at hl; cases hl), fun t _ ht => getD_in (by simpa using ht) (getD_replicate_false _ _)⟩) (h hS)
 rw [happ, List.size_toArray, show l.length = n + (l.length - n) by omega]
 rw [show n + (l.length - n) - n = l.length - n by omega]
 exact this
end Go.Proofs.YtcjlfkklpghjbaaGreat

namespace Go.Proofs.YtcjlfkklpghjbaaGreat
open Go.RowKit
theorem filter_drop {l : List (Pt × Nat)} (hnd : (l.map (·.1)).Nodup) {k : Nat} {p : Pt} {i : Nat} (h : l[k]? = some (p, i)) : l.filter (fun x => x.1 ≠ p) = l.take k ++ l.drop (k + 1) := by
 obtain ⟨hk, he⟩ := List.getElem?_eq_some_iff.1 h
 have hl : l = l.take k ++ (p, i) :: l.drop (k + 1) := by
  rw [← he, ← List.drop_eq_getElem_cons hk, List.take_append_drop]
 have hne : ∀ x ∈ l.take k ++ l.drop (k + 1), x.1 ≠ p := by
  have h2 := hnd
  rw [hl, List.map_append, List.map_cons] at h2
  have h3 := (List.perm_middle.nodup_iff).1 h2
  rw [← List.map_append] at h3
  intro x hx e
  exact (List.nodup_cons.1 h3).1 (e ▸ List.mem_map.2 ⟨x, hx, rfl⟩)
 conv => lhs; rw [hl]
 rw [List.filter_append, List.filter_cons_of_neg (by simp)]
 rw [List.filter_eq_self.2 fun x hx => by simpa using hne x (List.mem_append_left _ hx), List.filter_eq_self.2 fun x hx => by simpa using hne x (List.mem_append_right _ hx)]
theorem rrow_take (A : Nat → Nat) : ∀ (l : List (Pt × Nat)) (k : Nat), (rrow A l).take (k * 2) = rrow A (l.take k)
 | [], k => by simp [rrow]
 | x :: l, 0 => by simp [rrow]
 | x :: l, k + 1 => by
  have e : rrow A (x :: l) = [.string (mkS (glue x.1)), ptr (A x.2)] ++ rrow A l := rfl
  have e2 : rrow A ((x :: l).take (k + 1)) = [.string (mkS (glue x.1)), ptr (A x.2)] ++ rrow A (l.take k) := rfl
  rw [e, e2, ← rrow_take A l k, show (k + 1) * 2 = k * 2 + 2 by omega]
  simp
theorem rrow_drop (A : Nat → Nat) : ∀ (l : List (Pt × Nat)) (k : Nat), (rrow A l).drop (k * 2) = rrow A (l.drop k)
 | [], k => by simp [rrow]
 | x :: l, 0 => by simp
 | x :: l, k + 1 => by
  have e : rrow A (x :: l) = [.string (mkS (glue x.1)), ptr (A x.2)] ++ rrow A l := rfl
  rw [e, List.drop_succ_cons, ← rrow_drop A l k, show (k + 1) * 2 = k * 2 + 2 by omega]
  simp
theorem row_src_take {w : World} {e : TypeId} {g n c : Nat} {xs : List Value} (h : w.ownsRow 0 e 2 (.slice (some ⟨g, 0, none⟩) n c) n xs) (k : Nat) (hk : k ≤ n) : Src w (.slice (some ⟨g, 0, none⟩) k c) 2 k (xs.take (k * 2)) := by
 have hl := h.1
 by_cases hn : n = 0
 ·have : k = 0 := by omega
  subst this
  exact Or.inl ⟨rfl, by simp, _, _, rfl⟩
 ·obtain ⟨g', c', e', _, _, _, _, hc⟩ := own_at h (by omega)
  simp only [Value.slice.injEq, Option.some.injEq, Addr.mk.injEq, true_and, and_true] at e'
  obtain ⟨rfl, rfl⟩ := e'
  refine Or.inr ⟨_, _, rfl, by rw [List.length_take]; omega, fun j u hj => ?_⟩
  rw [add_at, Nat.zero_add]
  refine hc j u ?_
  rw [List.getElem?_take] at hj
  split at hj
  ·exact hj
  ·cases hj
theorem row_src_drop {w : World} {e : TypeId} {g n c : Nat} {xs : List Value} (h : w.ownsRow 0 e 2 (.slice (some ⟨g, 0, none⟩) n c) n xs) (k : Nat) (hk : k ≤ n) (a : Addr) (ha : k < n → a = ⟨g, k * 2, none⟩) : Src w (.slice (some a) (n - k) (c - k)) 2 (n - k) (xs.drop (k * 2)) := by
 have hl := h.1
 by_cases hn : n = k
 ·subst hn
  refine Or.inl ⟨by omega, ?_, _, _, by rw [Nat.sub_self]⟩
  rw [List.drop_of_length_le (by omega)]
 ·obtain ⟨g', c', e', _, _, _, _, hc⟩ := own_at h (by omega)
  simp only [Value.slice.injEq, Option.some.injEq, Addr.mk.injEq, true_and, and_true] at e'
  obtain ⟨rfl, rfl⟩ := e'
  rw [ha (by omega)]
  refine Or.inr ⟨_, _, rfl, by rw [List.length_drop]; omega, fun j u hj => ?_⟩
  rw [add_at]
  refine hc _ u ?_
  rw [List.getElem?_drop] at hj
  exact hj
theorem rrow_one (A : Nat → Nat) (l : List (Pt × Nat)) : ∀ u ∈ rrow A l, u.oneCell' = true := by
 intro u hu
 simp only [rrow, List.mem_flatMap] at hu
 obtain ⟨x, _, hx⟩ := hu
 simp only [List.mem_cons, List.not_mem_nil, or_false] at hx
 rcases hx with rfl | rfl <;> rfl
/-- What a cell holds. -/
def pickC (W : World) (a : Addr) : Value := (W.cell? a).getD (.bool false)
section
variable (rb : Nat) (v : Value) (A : Nat → Nat) (T : Fs)
set_option maxHeartbeats 1000000 in
set_option maxRecDepth 100000 in
theorem rgone_none (s : ByteArray) (w : World) (hR : RRep w rb v A T) (hn : T.at (split (bl s)) = none) :
  Calls Tryz.prog 95 #[ptr rb, .string s] w fun e w' => e = .returned (.tuple #[]) ∧ w = w' := by
 have h1 := rat_calls rb v A T s w hR
 rcases atIdx_at hR.inv (bl s) with ⟨e1, _⟩ | ⟨k, i, _, _, e3⟩
 ·rw [e1] at h1
  unfold ptr at *
  replace h1 := hid h1
  replace hR := hid hR
  replace hn := hid hn
  replace e1 := hid e1
  go_enter Tryz.func95, Tryz.ntmps95
  go_wp2_with fail
  (with_reducible refine (h1.out).mono ?_)
  rintro e w1 ⟨rfl, rfl⟩
  go_wp2
  go_end0
  exact ⟨rfl, rfl⟩
 ·rw [hn] at e3
  cases e3
set_option maxHeartbeats 4000000 in
set_option maxRecDepth 100000 in
theorem rgone_calls (s : ByteArray) (j : Nat) (w : World) (hR : RRep w rb v A T) (hne : bl s ≠ []) (hm : (split (bl s), j) ∈ T.names) (hkids : T.kids (split (bl s)) = []) (hf : T.names.length ≤ 1000000) :
  Calls Tryz.prog 95 #[ptr rb, .string s] w fun e w' => e = .returned (.tuple #[]) ∧ RStp w w' rb v A T (T.gone (split (bl s)) j) := by
 have h1 := rat_calls rb v A T s w hR
 have hI' := gone_inv hR.inv hm (split_ne_nil hne) hkids
 have hlive : ∀ i, (T.gone (split (bl s)) j).Live i → T.Live i := fun i ⟨q, hq⟩ => ⟨q, (mem_gone q i).1 hq |>.1⟩
 have hfin := fun v1 W w' hW => @rrep_row_stp W w' rb v v1 A T (T.gone (split (bl s)) j) hW hI' hlive (fun i _ => gone_rnode T _ j i) rfl
 rcases atIdx_at hR.inv (bl s) with ⟨_, e2⟩ | ⟨k, i, e1, e2, e3⟩
 ·exact absurd hm (Fs.at_none.1 e2 j)
 rw [e1] at h1
 have hkl : k < T.names.length := (List.getElem?_eq_some_iff.1 e2).1
 have hk0 : 0 < k := by
  rcases Nat.eq_zero_or_pos k with h | h
  ·subst h
   obtain ⟨r, hr⟩ := hR.inv.top
   rw [hr, List.getElem?_cons_zero] at e2
   simp only [Option.some.injEq, Prod.mk.injEq] at e2
   exact absurd e2.1.symm (split_ne_nil hne)
  ·exact h
 have hnames : (T.gone (split (bl s)) j).names = T.names.take k ++ T.names.drop (k + 1) := filter_drop hR.inv.nodup e2
 have hrowE : rrow A (T.gone (split (bl s)) j).names = (rrow A T.names).take (k * 2) ++ (rrow A T.names).drop ((k + 1) * 2) := by
  rw [hnames, rrow_append, rrow_take, rrow_drop]
 have hlenE : (T.gone (split (bl s)) j).names.length = k + (T.names.length - (k + 1)) := by
  rw [hnames, List.length_append, List.length_take, List.length_drop]
  omega
 have hone := rrow_one A T.names
 have hvr := hR.tree_row
 have hrow := hR.row
 have htree := hR.tree
 obtain ⟨g, c, hv, hc1, hc2, hp, t0, _⟩ := hR.at_
 subst hv
 unfold maxLen at hc2
 have hB1 : Below w.heap.size w (w.drew.alloc (.cells #[] 98)) := below_alloc (below_drewN (Below.refl _ _) 1) _
 have hown := own_made w.drew w.heap.size 98 2 0 [] (Nat.le_refl _) rfl (by simp [maxLen])
 have hrow1 := own_below hrow hB1
 obtain ⟨v1, w1, hrun1, ho1, hg1, _⟩ := run_append_any w.heap.size 58 98 58 Tryz.underlying58 (.agg #[.string ⟨#[]⟩, .pointer none]) 2 24 info_name rfl (by decide) (.slice (some ⟨w.drew.heap.size, 0, none⟩) 0 0) 0 [] (.slice (some ⟨g, 0, none⟩) k c) k _ (row_src_take hrow1 k (by omega)) hown (fun u hu => hone u (List.mem_of_mem_take hu)) (by simp only [maxLen]; omega) (by omega) hB1.size
 have hB2 : Below w.heap.size w w1 := hB1.grown hg1 hB1.size (own_base hown)
 have hrow2 := own_below hrow hB2
 unfold ptr at *
 have hgn : g < w.heap.size := by
  obtain ⟨_, cur, hc⟩ := own_cells hrow rfl
  exact (Array.getElem?_eq_some_iff.1 hc).1
 obtain ⟨vA1, vc1, hv1, hd1, hd2⟩ := own_shape ho1
 subst hv1
 have hwr : IntKind.i64.wrap ((k : Int) + 1) = (k : Int) + 1 := IntWalk.i64_in _ (by omega)
 have hnt : ((k : Int) + 1).toNat = k + 1 := by omega
 have hi1 : (0 : Int) ≤ (k : Int) + 1 := by omega
 have hi2 : (k : Int) + 1 ≤ (T.names.length : Int) := by omega
 have hi3 : (k : Int) ≤ (c : Int) := by omega
 have hi4 : (0 : Int) < (k : Int) := by omega
 have hi5 : ¬ k = 0 := by omega
 by_cases hck : c = k + 1
 ·have hif : (c = k + 1) = True := eq_true hck
  replace hck := hid hck
  obtain ⟨v2, w2, hrun2, ho2, hg2, _⟩ := run_append_any w.heap.size 58 98 58 Tryz.underlying58 (.agg #[.string ⟨#[]⟩, .pointer none]) 2 24 info_name rfl (by decide) (.slice vA1 (0 + k) vc1) (0 + k) _ (.slice (some (⟨g, 0, none⟩ : Addr)) (T.names.length - (k + 1)) (c - (k + 1))) (T.names.length - (k + 1)) _ (row_src_drop hrow2 (k + 1) (by omega) (⟨g, 0, none⟩ : Addr) (fun h => by have := hck.out; omega)) ho1 (fun u hu => hone u (List.mem_of_mem_drop hu)) (by simp only [maxLen]; omega) (by omega) hB2.size
  have hB3 : Below w.heap.size w w2 := hB2.grown hg2 hB2.size (own_base ho1)
  obtain ⟨vA2, vc2, hv2, _, _⟩ := own_shape ho2
  subst hv2
  have t2 := (hB3.block rb (Array.getElem?_eq_some_iff.1 htree).1).trans htree
  have e5 : w2.cell? ⟨rb, 0, none⟩ = some (.slice (some ⟨g, 0, none⟩) T.names.length c) := cell_of t2 rfl
  have f5 : w2.frozen? ⟨rb, 0, none⟩ = false := by simp [World.frozen?, t2]
  have e4 : w1.cell? ⟨rb, 0, none⟩ = some (.slice (some ⟨g, 0, none⟩) T.names.length c) := (hB2.cell (cell_lt t0)).trans t0
  have e3' : (w.alloc (.cells #[] 98)).cell? ⟨rb, 0, none⟩ = some (.slice (some ⟨g, 0, none⟩) T.names.length c) := ((below_alloc (Below.refl w.heap.size w) _).cell (cell_lt t0)).trans t0
  have e6 : (w2.setCell ⟨rb, 0, none⟩ (.slice vA2 (k + (T.names.length - (k + 1))) vc2)).cell? ⟨rb, 0, none⟩ = some (.slice vA2 (k + (T.names.length - (k + 1))) vc2) := cell_of (j := 0) (heap_set_same t2 0 _) rfl
  have hb2 : ∀ b, (Value.slice vA2 (0 + k + (T.names.length - (k + 1))) vc2).ownBlock = some b → w.heap.size ≤ b := own_base ho2
  have hst : RStp w (w2.setCell ⟨rb, 0, none⟩ (.slice vA2 (0 + k + (T.names.length - (k + 1))) vc2)) rb (.slice (some ⟨g, 0, none⟩) T.names.length c) A T (T.gone (split (bl s)) j) := by
   have ht : Turn w (w2.setCell ⟨rb, 0, none⟩ (.slice vA2 (0 + k + (T.names.length - (k + 1))) vc2)) (fun b => b = rb ∨ (Value.slice (some ⟨g, 0, none⟩) T.names.length c).ownBlock = some b) :=
    Turn.set (S := fun b => b = rb ∨ (Value.slice (some ⟨g, 0, none⟩) T.names.length c).ownBlock = some b) (Turn.of_below hB3 _) (Or.inl rfl) 0 _
   refine hfin (.slice vA2 (0 + k + (T.names.length - (k + 1))) vc2) _ _ hR ht ?_ ?_ ?_
   ·have := heap_set_same t2 0 (.slice vA2 (0 + k + (T.names.length - (k + 1))) vc2)
    simpa using this
   ·rw [hlenE, hrowE]
    have h6 := own_blocks (own_low ho2 (Nat.zero_le _)) fun b hb => heap_set_other w2 (fun e : b = rb => by have := hb2 b hb; have := (Array.getElem?_eq_some_iff.1 htree).1; omega) 0 (.slice vA2 (0 + k + (T.names.length - (k + 1))) vc2)
    simpa using h6
   ·cases hvo : (Value.slice vA2 (0 + k + (T.names.length - (k + 1))) vc2).ownBlock with
    | none =>
     obtain ⟨g3, _, _, _, _, _, e6, _⟩ := own_at ho2 (by omega)
     rw [hvo] at e6
     cases e6
    | some b => exact Or.inr ⟨b, rfl, hb2 b hvo⟩
  simp only [Nat.zero_add] at hrun1 hrun2 hst
  replace h1 := hid h1
  replace hrun1 := hid hrun1
  replace hrun2 := hid hrun2
  replace hst := hid hst
  replace hR := hid hR
  replace hrow := hid hrow
  replace htree := hid htree
  replace hrow1 := hid hrow1
  replace hrow2 := hid hrow2
  replace hB1 := hid hB1
  replace hB2 := hid hB2
  replace hB3 := hid hB3
  replace ho1 := hid ho1
  replace ho2 := hid ho2
  replace hown := hid hown
  replace hfin := hid hfin
  replace hI' := hid hI'
  replace hlive := hid hlive
  replace hnames := hid hnames
  replace hrowE := hid hrowE
  replace hlenE := hid hlenE
  replace hone := hid hone
  replace e1 := hid e1
  replace e2 := hid e2
  replace e3 := hid e3
  replace hb2 := hid hb2
  replace t2 := hid t2
  replace hm := hid hm
  replace hne := hid hne
  replace hkids := hid hkids
  clear hg1 hg2
  go_enter Tryz.func95, Tryz.ntmps95
  go_wp2_with fail
  (with_reducible refine (h1.out).mono ?_)
  rintro e w9 ⟨rfl, rfl⟩
  go_wp2_with fail
  refine wp_region_held_tail (S := fun W => W.cell? ⟨rb, 0, none⟩ = some (.slice (some ⟨g, 0, none⟩) T.names.length c)) 17 (by kernel_rfl) (by kernel_rfl) t0 (fun hHeld => ?_)
  simp only [List.take_succ_cons, List.take_zero, List.drop_succ_cons, List.drop_zero]
  simp only [Array.replicate, List.replicate]
  refine wpAnyH_take (i := 0) (v := ?_) rfl (by kernel_rfl) (by kernel_rfl) (by kernel_rfl) (fun _ _ _ h => h) (Or.inl ⟨by rfl, ?_⟩) (by assumption) ?_
  rotate_left 1
  ·intro W hSw
   (try dsimp only at hSw)
   go_simp
   try with_reducible rfl
  simp only [Act.put, List.setIfInBounds_toArray, List.set_cons_zero, List.set_cons_succ]
  refine wpAnyH_take (i := 2) (v := ?_) rfl (by kernel_rfl) (by kernel_rfl) (by kernel_rfl) (fun _ _ _ h => h) (Or.inl ⟨by rfl, ?_⟩) (by assumption) ?_
  rotate_left 1
  ·intro W hSw
   (try dsimp only at hSw)
   go_simp
   try with_reducible rfl
  simp only [Act.put, List.setIfInBounds_toArray, List.set_cons_zero, List.set_cons_succ]
  refine wpAnyH_take (i := 3) (v := ?_) rfl (by kernel_rfl) (by kernel_rfl) (by kernel_rfl) (fun _ _ _ h => h) (Or.inl ⟨by rfl, ?_⟩) (by assumption) ?_
  rotate_left 1
  ·intro W hSw
   (try dsimp only at hSw)
   go_simp
   try with_reducible rfl
  simp only [Act.put, List.setIfInBounds_toArray, List.set_cons_zero, List.set_cons_succ]
  refine wpAnyH_take (i := 4) (v := ?_) rfl (by kernel_rfl) (by kernel_rfl) (by kernel_rfl) (fun _ _ _ h => h) (Or.inl ⟨by rfl, ?_⟩) (by assumption) ?_
  rotate_left 1
  ·intro W hSw
   (try dsimp only at hSw)
   go_simp
   try with_reducible rfl
  simp only [Act.put, List.setIfInBounds_toArray, List.set_cons_zero, List.set_cons_succ]
  refine wpAnyH_take (i := 5) (v := ?_) rfl (by kernel_rfl) (by kernel_rfl) (by kernel_rfl) (fun _ _ _ h => h) (Or.inl ⟨by rfl, ?_⟩) (by assumption) ?_
  rotate_left 1
  ·intro W hSw
   (try dsimp only at hSw)
   go_simp
   try with_reducible rfl
  simp only [Act.put, List.setIfInBounds_toArray, List.set_cons_zero, List.set_cons_succ]
  refine wpAnyH_take (i := 6) (v := ?_) rfl (by kernel_rfl) (by kernel_rfl) (by kernel_rfl) (fun _ _ _ h => h) (Or.inl ⟨by rfl, ?_⟩) (by assumption) ?_
  rotate_left 1
  ·intro W hSw
   (try dsimp only at hSw)
   go_simp
   try with_reducible rfl
  simp only [Act.put, List.setIfInBounds_toArray, List.set_cons_zero, List.set_cons_succ]
  refine wpAnyH_take (i := 7) (v := ?_) rfl (by kernel_rfl) (by kernel_rfl) (by kernel_rfl) (fun _ _ _ h => h) (Or.inl ⟨by rfl, ?_⟩) (by assumption) ?_
  rotate_left 1
  ·intro W hSw
   (try dsimp only at hSw)
   go_simp
   try with_reducible rfl
  simp only [Act.put, List.setIfInBounds_toArray, List.set_cons_zero, List.set_cons_succ]
  refine wpAnyH_take (i := 9) (v := ?_) rfl (by kernel_rfl) (by kernel_rfl) (by kernel_rfl) (fun _ _ _ h => h) (Or.inl ⟨by rfl, ?_⟩) (by assumption) ?_
  rotate_left 1
  ·intro W hSw
   (try dsimp only at hSw)
   go_simp
   try with_reducible rfl
  simp only [Act.put, List.setIfInBounds_toArray, List.set_cons_zero, List.set_cons_succ]
  refine wpAnyH_take (i := 10) (v := ?_) rfl (by kernel_rfl) (by kernel_rfl) (by kernel_rfl) (fun _ _ _ h => h) (Or.inl ⟨by rfl, ?_⟩) (by assumption) ?_
  rotate_left 1
  ·intro W hSw
   (try dsimp only at hSw)
   go_simp
   try with_reducible rfl
  simp only [Act.put, List.setIfInBounds_toArray, List.set_cons_zero, List.set_cons_succ]
  refine wpAnyH_take (i := 11) (v := ?_) rfl (by kernel_rfl) (by kernel_rfl) (by kernel_rfl) (fun _ _ _ h => h) (Or.inl ⟨by rfl, ?_⟩) (by assumption) ?_
  rotate_left 1
  ·intro W hSw
   (try dsimp only at hSw)
   go_simp
   try with_reducible rfl
  simp only [Act.put, List.setIfInBounds_toArray, List.set_cons_zero, List.set_cons_succ]
  refine wpAnyH_take (i := 12) (v := ?_) rfl (by kernel_rfl) (by kernel_rfl) (by kernel_rfl) (fun _ _ _ h => h) (Or.inl ⟨by rfl, ?_⟩) (by assumption) ?_
  rotate_left 1
  ·intro W hSw
   (try dsimp only at hSw)
   go_simp
   try with_reducible rfl
  simp only [Act.put, List.setIfInBounds_toArray, List.set_cons_zero, List.set_cons_succ]
  refine wpAnyH_take (i := 13) (v := ?_) rfl (by kernel_rfl) (by kernel_rfl) (by kernel_rfl) (fun _ _ _ h => h) (Or.inl ⟨by rfl, ?_⟩) (by assumption) ?_
  rotate_left 1
  ·intro W hSw
   (try dsimp only at hSw)
   go_simp
   try with_reducible rfl
  simp only [Act.put, List.setIfInBounds_toArray, List.set_cons_zero, List.set_cons_succ]
  refine wpAnyH_take (i := 14) (v := ?_) rfl (by kernel_rfl) (by kernel_rfl) (by kernel_rfl) (fun _ _ _ h => h) (Or.inl ⟨by rfl, ?_⟩) (by assumption) ?_
  rotate_left 1
  ·intro W hSw
   (try dsimp only at hSw)
   go_simp
   try with_reducible rfl
  simp only [Act.put, List.setIfInBounds_toArray, List.set_cons_zero, List.set_cons_succ]
  refine wpAnyH_take (i := 15) (v := ?_) rfl (by kernel_rfl) (by kernel_rfl) (by kernel_rfl) (fun _ _ _ h => h) (Or.inl ⟨by rfl, ?_⟩) (by assumption) ?_
  rotate_left 1
  ·intro W hSw
   (try dsimp only at hSw)
   go_simp
   try with_reducible rfl
  simp only [Act.put, List.setIfInBounds_toArray, List.set_cons_zero, List.set_cons_succ]
  refine wpAnyH_ready (rs := [1]) (by kernel_rfl) (by simp) ?_
  refine AllReadyH.cons rfl (fun K hK => ?_) AllReadyH.nil
  go_simp
  refine hK.out _ _ e3' (fun hHeld => ?_)
  clear hK K
  simp only [Act.put, List.setIfInBounds_toArray, List.set_cons_zero, List.set_cons_succ]
  refine wpAnyH_ready (rs := [8]) (by kernel_rfl) (by simp) ?_
  refine AllReadyH.cons rfl (fun K hK => ?_) AllReadyH.nil
  refine step_append_by rfl _ _ 58 rfl _ _ rfl rfl _ w1 hrun1.out ?_
  refine hK.out _ _ e4 (fun hHeld => ?_)
  clear hK K
  simp only [Act.put, List.setIfInBounds_toArray, List.set_cons_zero, List.set_cons_succ]
  refine wpAnyH_ready (rs := [16]) (by kernel_rfl) (by simp) ?_
  refine AllReadyH.cons rfl (fun K hK => ?_) AllReadyH.nil
  refine step_append_by rfl _ _ 58 rfl _ _ rfl rfl _ w2 hrun2.out ?_
  refine hK.out _ _ e5 (fun hHeld => ?_)
  clear hK K
  simp only [Act.put, List.setIfInBounds_toArray, List.set_cons_zero, List.set_cons_succ]
  refine wpAnyH_done (by kernel_rfl) ?_ _
  change wpList _ _ _ _ _ w2
  go_wp2
  go_end0
  exact ⟨rfl, hst.out⟩
 ·obtain ⟨v2, w2, hrun2, ho2, hg2, _⟩ := run_append_any w.heap.size 58 98 58 Tryz.underlying58 (.agg #[.string ⟨#[]⟩, .pointer none]) 2 24 info_name rfl (by decide) (.slice vA1 (0 + k) vc1) (0 + k) _ (.slice (some (⟨g, (k + 1) * 2, none⟩ : Addr)) (T.names.length - (k + 1)) (c - (k + 1))) (T.names.length - (k + 1)) _ (row_src_drop hrow2 (k + 1) (by omega) (⟨g, (k + 1) * 2, none⟩ : Addr) (fun _ => rfl)) ho1 (fun u hu => hone u (List.mem_of_mem_drop hu)) (by simp only [maxLen]; omega) (by omega) hB2.size
  have hB3 : Below w.heap.size w w2 := hB2.grown hg2 hB2.size (own_base ho1)
  obtain ⟨vA2, vc2, hv2, _, _⟩ := own_shape ho2
  subst hv2
  have t2 := (hB3.block rb (Array.getElem?_eq_some_iff.1 htree).1).trans htree
  have e5 : w2.cell? ⟨rb, 0, none⟩ = some (.slice (some ⟨g, 0, none⟩) T.names.length c) := cell_of t2 rfl
  have f5 : w2.frozen? ⟨rb, 0, none⟩ = false := by simp [World.frozen?, t2]
  have e4 : w1.cell? ⟨rb, 0, none⟩ = some (.slice (some ⟨g, 0, none⟩) T.names.length c) := (hB2.cell (cell_lt t0)).trans t0
  have e3' : (w.alloc (.cells #[] 98)).cell? ⟨rb, 0, none⟩ = some (.slice (some ⟨g, 0, none⟩) T.names.length c) := ((below_alloc (Below.refl w.heap.size w) _).cell (cell_lt t0)).trans t0
  have e6 : (w2.setCell ⟨rb, 0, none⟩ (.slice vA2 (k + (T.names.length - (k + 1))) vc2)).cell? ⟨rb, 0, none⟩ = some (.slice vA2 (k + (T.names.length - (k + 1))) vc2) := cell_of (j := 0) (heap_set_same t2 0 _) rfl
  have hb2 : ∀ b, (Value.slice vA2 (0 + k + (T.names.length - (k + 1))) vc2).ownBlock = some b → w.heap.size ≤ b := own_base ho2
  have hst : RStp w (w2.setCell ⟨rb, 0, none⟩ (.slice vA2 (0 + k + (T.names.length - (k + 1))) vc2)) rb (.slice (some ⟨g, 0, none⟩) T.names.length c) A T (T.gone (split (bl s)) j) := by
   have ht : Turn w (w2.setCell ⟨rb, 0, none⟩ (.slice vA2 (0 + k + (T.names.length - (k + 1))) vc2)) (fun b => b = rb ∨ (Value.slice (some ⟨g, 0, none⟩) T.names.length c).ownBlock = some b) :=
    Turn.set (S := fun b => b = rb ∨ (Value.slice (some ⟨g, 0, none⟩) T.names.length c).ownBlock = some b) (Turn.of_below hB3 _) (Or.inl rfl) 0 _
   refine hfin (.slice vA2 (0 + k + (T.names.length - (k + 1))) vc2) _ _ hR ht ?_ ?_ ?_
   ·have := heap_set_same t2 0 (.slice vA2 (0 + k + (T.names.length - (k + 1))) vc2)
    simpa using this
   ·rw [hlenE, hrowE]
    have h6 := own_blocks (own_low ho2 (Nat.zero_le _)) fun b hb => heap_set_other w2 (fun e : b = rb => by have := hb2 b hb; have := (Array.getElem?_eq_some_iff.1 htree).1; omega) 0 (.slice vA2 (0 + k + (T.names.length - (k + 1))) vc2)
    simpa using h6
   ·cases hvo : (Value.slice vA2 (0 + k + (T.names.length - (k + 1))) vc2).ownBlock with
    | none =>
     obtain ⟨g3, _, _, _, _, _, e6, _⟩ := own_at ho2 (by omega)
     rw [hvo] at e6
     cases e6
    | some b => exact Or.inr ⟨b, rfl, hb2 b hvo⟩
  simp only [Nat.zero_add] at hrun1 hrun2 hst
  replace h1 := hid h1
  replace hrun1 := hid hrun1
  replace hrun2 := hid hrun2
  replace hst := hid hst
  replace hR := hid hR
  replace hrow := hid hrow
  replace htree := hid htree
  replace hrow1 := hid hrow1
  replace hrow2 := hid hrow2
  replace hB1 := hid hB1
  replace hB2 := hid hB2
  replace hB3 := hid hB3
  replace ho1 := hid ho1
  replace ho2 := hid ho2
  replace hown := hid hown
  replace hfin := hid hfin
  replace hI' := hid hI'
  replace hlive := hid hlive
  replace hnames := hid hnames
  replace hrowE := hid hrowE
  replace hlenE := hid hlenE
  replace hone := hid hone
  replace e1 := hid e1
  replace e2 := hid e2
  replace e3 := hid e3
  replace hb2 := hid hb2
  replace t2 := hid t2
  replace hm := hid hm
  replace hne := hid hne
  replace hkids := hid hkids
  clear hg1 hg2
  go_enter Tryz.func95, Tryz.ntmps95
  go_wp2_with fail
  (with_reducible refine (h1.out).mono ?_)
  rintro e w9 ⟨rfl, rfl⟩
  go_wp2_with fail
  refine wp_region_held_tail (S := fun W => W.cell? ⟨rb, 0, none⟩ = some (.slice (some ⟨g, 0, none⟩) T.names.length c)) 17 (by kernel_rfl) (by kernel_rfl) t0 (fun hHeld => ?_)
  simp only [List.take_succ_cons, List.take_zero, List.drop_succ_cons, List.drop_zero]
  simp only [Array.replicate, List.replicate]
  refine wpAnyH_take (i := 0) (v := ?_) rfl (by kernel_rfl) (by kernel_rfl) (by kernel_rfl) (fun _ _ _ h => h) (Or.inl ⟨by rfl, ?_⟩) (by assumption) ?_
  rotate_left 1
  ·intro W hSw
   (try dsimp only at hSw)
   go_simp
   try with_reducible rfl
  simp only [Act.put, List.setIfInBounds_toArray, List.set_cons_zero, List.set_cons_succ]
  refine wpAnyH_take (i := 2) (v := ?_) rfl (by kernel_rfl) (by kernel_rfl) (by kernel_rfl) (fun _ _ _ h => h) (Or.inl ⟨by rfl, ?_⟩) (by assumption) ?_
  rotate_left 1
  ·intro W hSw
   (try dsimp only at hSw)
   go_simp
   try with_reducible rfl
  simp only [Act.put, List.setIfInBounds_toArray, List.set_cons_zero, List.set_cons_succ]
  refine wpAnyH_take (i := 3) (v := ?_) rfl (by kernel_rfl) (by kernel_rfl) (by kernel_rfl) (fun _ _ _ h => h) (Or.inl ⟨by rfl, ?_⟩) (by assumption) ?_
  rotate_left 1
  ·intro W hSw
   (try dsimp only at hSw)
   go_simp
   try with_reducible rfl
  simp only [Act.put, List.setIfInBounds_toArray, List.set_cons_zero, List.set_cons_succ]
  refine wpAnyH_take (i := 4) (v := ?_) rfl (by kernel_rfl) (by kernel_rfl) (by kernel_rfl) (fun _ _ _ h => h) (Or.inl ⟨by rfl, ?_⟩) (by assumption) ?_
  rotate_left 1
  ·intro W hSw
   (try dsimp only at hSw)
   go_simp
   try with_reducible rfl
  simp only [Act.put, List.setIfInBounds_toArray, List.set_cons_zero, List.set_cons_succ]
  refine wpAnyH_take (i := 5) (v := ?_) rfl (by kernel_rfl) (by kernel_rfl) (by kernel_rfl) (fun _ _ _ h => h) (Or.inl ⟨by rfl, ?_⟩) (by assumption) ?_
  rotate_left 1
  ·intro W hSw
   (try dsimp only at hSw)
   go_simp
   try with_reducible rfl
  simp only [Act.put, List.setIfInBounds_toArray, List.set_cons_zero, List.set_cons_succ]
  refine wpAnyH_take (i := 6) (v := ?_) rfl (by kernel_rfl) (by kernel_rfl) (by kernel_rfl) (fun _ _ _ h => h) (Or.inl ⟨by rfl, ?_⟩) (by assumption) ?_
  rotate_left 1
  ·intro W hSw
   (try dsimp only at hSw)
   go_simp
   try with_reducible rfl
  simp only [Act.put, List.setIfInBounds_toArray, List.set_cons_zero, List.set_cons_succ]
  refine wpAnyH_take (i := 7) (v := ?_) rfl (by kernel_rfl) (by kernel_rfl) (by kernel_rfl) (fun _ _ _ h => h) (Or.inl ⟨by rfl, ?_⟩) (by assumption) ?_
  rotate_left 1
  ·intro W hSw
   (try dsimp only at hSw)
   go_simp
   try with_reducible rfl
  simp only [Act.put, List.setIfInBounds_toArray, List.set_cons_zero, List.set_cons_succ]
  refine wpAnyH_take (i := 9) (v := ?_) rfl (by kernel_rfl) (by kernel_rfl) (by kernel_rfl) (fun _ _ _ h => h) (Or.inl ⟨by rfl, ?_⟩) (by assumption) ?_
  rotate_left 1
  ·intro W hSw
   (try dsimp only at hSw)
   go_simp
   try with_reducible rfl
  simp only [Act.put, List.setIfInBounds_toArray, List.set_cons_zero, List.set_cons_succ]
  refine wpAnyH_take (i := 10) (v := ?_) rfl (by kernel_rfl) (by kernel_rfl) (by kernel_rfl) (fun _ _ _ h => h) (Or.inl ⟨by rfl, ?_⟩) (by assumption) ?_
  rotate_left 1
  ·intro W hSw
   (try dsimp only at hSw)
   go_simp
   try with_reducible rfl
  simp only [Act.put, List.setIfInBounds_toArray, List.set_cons_zero, List.set_cons_succ]
  refine wpAnyH_take (i := 11) (v := ?_) rfl (by kernel_rfl) (by kernel_rfl) (by kernel_rfl) (fun _ _ _ h => h) (Or.inl ⟨by rfl, ?_⟩) (by assumption) ?_
  rotate_left 1
  ·intro W hSw
   (try dsimp only at hSw)
   go_simp
   try with_reducible rfl
  simp only [Act.put, List.setIfInBounds_toArray, List.set_cons_zero, List.set_cons_succ]
  refine wpAnyH_take (i := 12) (v := ?_) rfl (by kernel_rfl) (by kernel_rfl) (by kernel_rfl) (fun _ _ _ h => h) (Or.inl ⟨by rfl, ?_⟩) (by assumption) ?_
  rotate_left 1
  ·intro W hSw
   (try dsimp only at hSw)
   go_simp
   try with_reducible rfl
  simp only [Act.put, List.setIfInBounds_toArray, List.set_cons_zero, List.set_cons_succ]
  refine wpAnyH_take (i := 13) (v := ?_) rfl (by kernel_rfl) (by kernel_rfl) (by kernel_rfl) (fun _ _ _ h => h) (Or.inl ⟨by rfl, ?_⟩) (by assumption) ?_
  rotate_left 1
  ·intro W hSw
   (try dsimp only at hSw)
   go_simp
   try with_reducible rfl
  simp only [Act.put, List.setIfInBounds_toArray, List.set_cons_zero, List.set_cons_succ]
  refine wpAnyH_take (i := 14) (v := ?_) rfl (by kernel_rfl) (by kernel_rfl) (by kernel_rfl) (fun _ _ _ h => h) (Or.inl ⟨by rfl, ?_⟩) (by assumption) ?_
  rotate_left 1
  ·intro W hSw
   (try dsimp only at hSw)
   go_simp
   try with_reducible rfl
  simp only [Act.put, List.setIfInBounds_toArray, List.set_cons_zero, List.set_cons_succ]
  refine wpAnyH_take (i := 15) (v := ?_) rfl (by kernel_rfl) (by kernel_rfl) (by kernel_rfl) (fun _ _ _ h => h) (Or.inl ⟨by rfl, ?_⟩) (by assumption) ?_
  rotate_left 1
  ·intro W hSw
   (try dsimp only at hSw)
   go_simp
   try with_reducible rfl
  simp only [Act.put, List.setIfInBounds_toArray, List.set_cons_zero, List.set_cons_succ]
  refine wpAnyH_ready (rs := [1]) (by kernel_rfl) (by simp) ?_
  refine AllReadyH.cons rfl (fun K hK => ?_) AllReadyH.nil
  go_simp
  refine hK.out _ _ e3' (fun hHeld => ?_)
  clear hK K
  simp only [Act.put, List.setIfInBounds_toArray, List.set_cons_zero, List.set_cons_succ]
  refine wpAnyH_ready (rs := [8]) (by kernel_rfl) (by simp) ?_
  refine AllReadyH.cons rfl (fun K hK => ?_) AllReadyH.nil
  refine step_append_by rfl _ _ 58 rfl _ _ rfl rfl _ w1 hrun1.out ?_
  refine hK.out _ _ e4 (fun hHeld => ?_)
  clear hK K
  simp only [Act.put, List.setIfInBounds_toArray, List.set_cons_zero, List.set_cons_succ]
  refine wpAnyH_ready (rs := [16]) (by kernel_rfl) (by simp) ?_
  refine AllReadyH.cons rfl (fun K hK => ?_) AllReadyH.nil
  refine step_append_by rfl _ _ 58 rfl _ _ rfl rfl _ w2 hrun2.out ?_
  refine hK.out _ _ e5 (fun hHeld => ?_)
  clear hK K
  simp only [Act.put, List.setIfInBounds_toArray, List.set_cons_zero, List.set_cons_succ]
  refine wpAnyH_done (by kernel_rfl) ?_ _
  change wpList _ _ _ _ _ w2
  go_wp2
  go_end0
  exact ⟨rfl, hst.out⟩
end
end Go.Proofs.YtcjlfkklpghjbaaGreat

namespace Go.Proofs.YtcjlfkklpghjbaaGreat
open Go.RowKit
theorem remove_top (T : Fs) : T.remove [] = (T, 2) := by
 unfold Fs.remove
 rw [if_neg (by decide), if_pos rfl]
theorem there_wrong {T : Fs} {s : Bytes} (h : right s = false) : (T.there s).2.2 = 9 := by
 unfold Fs.there Fs.look
 simp [h]
theorem remove_fault {T : Fs} {s : Bytes} (hn : s ≠ []) (hz : (T.there s).2.2 ≠ 0) : T.remove s = (T, (T.there s).2.2) := by
 unfold Fs.remove
 cases hr : right s with
 | false => rw [if_pos rfl, there_wrong hr]
 | true => rw [if_neg (by simp), if_neg hn, if_pos hz]
theorem remove_is {T : Fs} {s : Bytes} {i : Nat} (hn : s ≠ []) (hr : right s = true) (hz : (T.there s).2.2 = 0) (h3 : (T.there s).1 = some i) : T.remove s = if T.kids (split s) ≠ [] then (T, 14) else (T.gone (split s) i, 0) := by
 unfold Fs.remove
 rw [hr, if_neg (by simp), if_neg hn, if_neg (by simpa using hz), h3]
section
variable (rb : Nat) (v : Value) (A : Nat → Nat) (T : Fs)
set_option maxHeartbeats 2000000 in
set_option maxRecDepth 100000 in
theorem rremove_calls (s : ByteArray) (w : World) (hR : RRep w rb v A T) (hs : s.size ≤ 16777216) (hf : T.names.length ≤ 1000000) :
  Calls Tryz.prog 49 #[ptr rb, .string s] w fun e w' => e = .returned (.int .i64 (T.remove (bl s)).2) ∧ RStp w w' rb v A T (T.remove (bl s)).1 := by
 have hI := hR.inv
 have h1 := fun W hW => rthere_calls rb v A T s W hW hs
 have h2 := fun W hW => rin_calls rb v A T s W hW hf
 have hn := str_nil s
 by_cases hnil : bl s = []
 ·have hn2 : s.toList.isEmpty = true := by rw [hn, hnil]; rfl
  have hrm : T.remove (bl s) = (T, 2) := by rw [hnil, remove_top]
  rw [hrm]
  have hst := RStp.same hR (Below.refl _ _)
  replace h1 := hid h1
  replace h2 := hid h2
  replace hR := hid hR
  replace hst := hid hst
  replace hI := hid hI
  replace hrm := hid hrm
  replace hnil := hid hnil
  replace hn := hid hn
  go_enter Tryz.func49, Tryz.ntmps49
  go_wp2
  go_ret
  exact ⟨rfl, hst.out⟩
 have hn2 : s.toList.isEmpty = false := by rw [hn]; simpa using hnil
 rcases file_there hI (bl s) with ⟨hz, _⟩ | ⟨i, hz, h3, hm, hrs, _⟩
 ·rw [remove_fault hnil hz]
  dsimp only
  have he2 : ((T.there (bl s)).2.2 == 0) = false := by simpa using hz
  have he3 : ((T.there (bl s)).2.2 != 0) = true := by simpa using hz
  generalize (T.there (bl s)).2.2 = e at *
  generalize (T.there (bl s)).1 = n at *
  have hp : ∃ a, optPtr A n = .pointer a := by cases n <;> exact ⟨_, rfl⟩
  obtain ⟨a, hp⟩ := hp
  simp only [hp] at h1
  unfold ptr at *
  replace h1 := hid h1
  replace h2 := hid h2
  replace hR := hid hR
  replace hz := hid hz
  replace hp := hid hp
  replace hI := hid hI
  replace hnil := hid hnil
  replace hn := hid hn
  go_enter Tryz.func49, Tryz.ntmps49
  go_wp2_with fail
  (with_reducible refine (h1.out _ hR.out).mono ?_)
  rintro e w1 ⟨rfl, hB⟩
  have hst := RStp.same hR.out hB
  replace hst := hid hst
  clear hB
  go_wp2
  go_ret
  exact ⟨rfl, hst.out⟩
 ·rw [remove_is hnil hrs hz h3]
  simp only [hz, h3, optPtr_some] at h1
  by_cases hkd : T.kids (split (bl s)) = []
  ·rw [if_neg (by simpa using hkd)]
   dsimp only
   have h4 := fun W hW => rgone_calls rb v A T s i W hW hnil hm hkd hf
   rw [hkd] at h2
   have hs0 : sortB (([] : List (Bytes × Nat)).map (·.1)) = [] := List.mergeSort_nil
   rw [hs0] at h2
   by_cases hk : (T.nd i).kind = 2
   ·unfold ptr at *
    replace h1 := hid h1
    replace h2 := hid h2
    replace h4 := hid h4
    replace hR := hid hR
    replace hI := hid hI
    replace hz := hid hz
    replace hnil := hid hnil
    replace hn := hid hn
    replace hkd := hid hkd
    replace hrs := hid hrs
    replace h3 := hid h3
    go_enter Tryz.func49, Tryz.ntmps49
    go_wp2_with fail
    (with_reducible refine (h1.out _ hR.out).mono ?_)
    rintro e w1 ⟨rfl, hB1⟩
    have hR1 := hR.out.below hB1
    obtain ⟨_, _, c0, _⟩ := hR1.cells ⟨_, hm⟩
    rw [hk] at c0
    have h2' := h2.out w1 hR1
    replace h2' := hid h2'
    replace hB1 := hid hB1
    replace hR1 := hid hR1
    replace hk := hid hk
    go_wp2_with fail
    (with_reducible refine (h2'.out).mono ?_)
    rintro e w2 ⟨⟨nv, rfl, hS⟩, hB2⟩
    obtain ⟨nA, nc, hnv, hnc1, hnc2⟩ := own_shape hS.own
    subst hnv
    have hB := below_step hB1.out hB2
    have h4' := h4.out w2 (hR.out.below hB)
    replace h4' := hid h4'
    replace hB := hid hB
    clear hB2 hS h2'
    go_wp2_with fail
    (with_reducible refine (h4'.out).mono ?_)
    rintro e w3 ⟨rfl, hst⟩
    replace hst := hst.after hB.out
    replace hst := hid hst
    go_wp2
    go_ret
    exact ⟨rfl, hst.out⟩
   ·have hk2 : ((T.nd i).kind == 2) = false := by simpa using hk
    unfold ptr at *
    replace h1 := hid h1
    replace h2 := hid h2
    replace h4 := hid h4
    replace hR := hid hR
    replace hI := hid hI
    replace hz := hid hz
    replace hnil := hid hnil
    replace hn := hid hn
    replace hkd := hid hkd
    replace hrs := hid hrs
    replace h3 := hid h3
    go_enter Tryz.func49, Tryz.ntmps49
    go_wp2_with fail
    (with_reducible refine (h1.out _ hR.out).mono ?_)
    rintro e w1 ⟨rfl, hB1⟩
    have hR1 := hR.out.below hB1
    obtain ⟨_, _, c0, _⟩ := hR1.cells ⟨_, hm⟩
    have h4' := h4.out w1 hR1
    replace h4' := hid h4'
    replace hB1 := hid hB1
    replace hR1 := hid hR1
    go_wp2_with fail
    (with_reducible refine (h4'.out).mono ?_)
    rintro e w3 ⟨rfl, hst⟩
    replace hst := hst.after hB1.out
    replace hst := hid hst
    go_wp2
    go_ret
    exact ⟨rfl, hst.out⟩
  ·rw [if_pos (by simpa using hkd)]
   dsimp only
   have hk : (T.nd i).kind = 2 := by
    by_cases hk : (T.nd i).kind = 2
    ·exact hk
    ·exact absurd (kids_file hI hm hk) hkd
   have hl : (sortB ((T.kids (split (bl s))).map (·.1))).length = (T.kids (split (bl s))).length := by rw [(sortB_perm _).length_eq, List.length_map]
   have hpos : 0 < (sortB ((T.kids (split (bl s))).map (·.1))).length := by rw [hl]; exact List.length_pos_iff.2 hkd
   generalize sortB ((T.kids (split (bl s))).map (·.1)) = L at *
   have hpos2 : (0 : Int) < (L.length : Int) := by omega
   have hpos3 : L ≠ [] := List.length_pos_iff.1 hpos
   unfold ptr at *
   replace h1 := hid h1
   replace h2 := hid h2
   replace hR := hid hR
   replace hI := hid hI
   replace hz := hid hz
   replace hnil := hid hnil
   replace hn := hid hn
   replace hkd := hid hkd
   replace hrs := hid hrs
   replace h3 := hid h3
   replace hl := hid hl
   go_enter Tryz.func49, Tryz.ntmps49
   go_wp2_with fail
   (with_reducible refine (h1.out _ hR.out).mono ?_)
   rintro e w1 ⟨rfl, hB1⟩
   have hR1 := hR.out.below hB1
   obtain ⟨_, _, c0, _⟩ := hR1.cells ⟨_, hm⟩
   rw [hk] at c0
   have h2' := h2.out w1 hR1
   replace h2' := hid h2'
   replace hB1 := hid hB1
   replace hR1 := hid hR1
   replace hk := hid hk
   go_wp2_with fail
   (with_reducible refine (h2'.out).mono ?_)
   rintro e w2 ⟨⟨nv, rfl, hS⟩, hB2⟩
   obtain ⟨nA, nc, hnv, hnc1, hnc2⟩ := own_shape hS.own
   subst hnv
   have hst := RStp.same hR.out (below_step hB1.out hB2)
   replace hst := hid hst
   clear hB2 hS h2'
   go_wp2
   go_ret
   exact ⟨rfl, hst.out⟩
end
end Go.Proofs.YtcjlfkklpghjbaaGreat

namespace Go.Proofs.YtcjlfkklpghjbaaGreat
open Go.RowKit
/-- A name's text behind the move. -/
def mvd (o p : Bytes) (q : Pt) : Bytes := if under (glue q) o then p ++ (glue q).drop o.length else glue q
def mrow (o p : Bytes) (A : Nat → Nat) (l : List (Pt × Nat)) : List Value := l.flatMap fun x => [.string (mkS (mvd o p x.1)), ptr (A x.2)]
theorem mrow_append (o p : Bytes) (A : Nat → Nat) (l r : List (Pt × Nat)) : mrow o p A (l ++ r) = mrow o p A l ++ mrow o p A r := by simp [mrow]
theorem under_text {s o : Bytes} (h : under s o = true) : ∃ z, s = o ++ z := by
 obtain ⟨t, ht⟩ := List.isPrefixOf_iff_prefix.1 h
 have e : s = glue (split o ++ t) := by rw [ht, glue_split]
 by_cases ho : o = []
 ·exact ⟨s, by rw [ho]; rfl⟩
 by_cases hn : t = []
 ·subst hn
  rw [List.append_nil, glue_split] at e
  exact ⟨[], by simp [e]⟩
 ·have h47 : ∀ x ∈ t, (47 : UInt8) ∉ x := fun x hx => split_parts _ _ (by rw [← ht]; exact List.mem_append_right _ hx)
  have h2 := split_below ho hn h47
  exact ⟨47 :: glue t, by rw [e, ← h2, glue_split]⟩
section
variable (rb : Nat) (v : Value) (A : Nat → Nat) (T : Fs)
set_option maxHeartbeats 2000000 in
set_option maxRecDepth 100000 in
theorem rmoved_calls (o p : ByteArray) (w : World) (hR : RRep w rb v A T) (ho : o.size ≤ 1000000) (hp : p.size ≤ 1000000) (hf : T.names.length ≤ 1000000) :
    Calls Tryz.prog 97 #[ptr rb, .string o, .string p] w fun e w' => Below w.heap.size w w' ∧
      (((∀ x ∈ T.names, right (mvd (bl o) (bl p) x.1) = true) ∧ ∃ v', e = .returned (.tuple #[v', .bool true]) ∧ w'.ownsRow w.heap.size 98 2 v' T.names.length (mrow (bl o) (bl p) A T.names)) ∨
       ((∃ x ∈ T.names, right (mvd (bl o) (bl p) x.1) = false) ∧ e = .returned (.tuple #[.slice none 0 0, .bool false]))) := by
  have hI := hR.inv
  have hpt := hI.pth
  obtain ⟨g, c, rfl, hc1, hc2, hpp, t0, hcs⟩ := hR.at_
  unfold maxLen at hc2
  have hnil : w.ownsRow w.heap.size 98 2 (.slice none 0 0) 0 [] := ⟨rfl, Or.inl ⟨rfl, rfl⟩⟩
  unfold ptr at *
  replace hR := hid hR
  replace hcs := hid hcs
  replace hI := hid hI
  replace hpt := hid hpt
  replace hnil := hid hnil
  go_enter Tryz.func97, Tryz.ntmps97
  go_wp2
  go_loopw [8, 9] (fun l i wr => ∃ k : Nat, i = .int .i64 k ∧ k ≤ T.names.length ∧ (∀ x ∈ T.names.take k, right (mvd (bl o) (bl p) x.1) = true) ∧ wr.ownsRow w.heap.size 98 2 l k (mrow (bl o) (bl p) A (T.names.take k)) ∧ Below w.heap.size w wr) (fun _ i _ => T.names.length - (intOf i).toNat)
  case atStart => exact ⟨0, rfl, Nat.zero_le _, by simp, hnil.out, Below.refl _ _⟩
  case round =>
    obtain ⟨k, rfl, hk, hok, hS, hB⟩ := hrel
    have t1 := (hB.cell (cell_lt t0)).trans t0
    by_cases hlt : k < T.names.length
    · obtain ⟨ca, cb⟩ := hcs.out k _ (List.getElem?_eq_getElem hlt)
      have ca1 := (hB.cell (cell_lt ca)).trans ca
      have cb1 := (hB.cell (cell_lt cb)).trans cb
      obtain ⟨oA, oc, hoe, ho1, ho2⟩ := own_shape hS
      subst hoe
      unfold maxLen at ho2
      have hkn : (k : Int) < (T.names.length : Int) := by omega
      clear ca cb
      have hx : T.names[k] ∈ T.names := List.getElem_mem hlt
      have htk : T.names.take (k + 1) = T.names.take k ++ [T.names[k]] := List.take_succ_eq_append_getElem hlt
      generalize T.names[k] = x at *
      obtain ⟨q, j⟩ := x
      dsimp only at *
      have hpx := (hpt.out _ _ hx)
      have hgl : (glue q).length ≤ 200 := right_len hpx.text.1
      have hgr : right (glue q) = true := hpx.text.1
      have hxz := mkS_size (glue q)
      have hun := fun W => refunder_calls (mkS (glue q)) o W (by omega) (by omega)
      have hB0 := hB.alloc hB.size (.cells #[.string (mkS (glue q)), .pointer (some ⟨A j, 0, none⟩)] 98)
      rw [bl_mkS] at hun
      have hB0s : Below wr.heap.size wr (wr.alloc (.cells #[.string (mkS (glue q)), .pointer (some ⟨A j, 0, none⟩)] 98)) := below_alloc (Below.refl _ _) _
      replace hS := hid hS
      replace hB := hid hB
      replace hok := hid hok
      replace hun := hid hun
      replace hpx := hid hpx
      replace hx := hid hx
      replace htk := hid htk
      replace hgr := hid hgr
      have hlo : w.heap.size ≤ wr.heap.size := hB.out.size
      have hblk : (wr.alloc (.cells #[.string (mkS (glue q)), .pointer (some ⟨A j, 0, none⟩)] 98)).heap[wr.heap.size]? = some (.cells #[.string (mkS (glue q)), .pointer (some ⟨A j, 0, none⟩)] 98 (0, 0)) := (MapKept.heap_alloc wr _).1
      have hS0 := own_below hS.out hB0s
      clear hB0s
      have hSlt : ∀ b, (Value.slice oA k oc).ownBlock = some b → b < wr.heap.size := fun b hb => by
        obtain ⟨_, cur, hc⟩ := own_cells hS.out hb
        exact (Array.getElem?_eq_some_iff.1 hc).1
      go_upto_region 6 with fail
      generalize wr.alloc (.cells #[.string (mkS (glue q)), .pointer (some ⟨A j, 0, none⟩)] 98) = W at *
      generalize wr.heap.size = n1 at *
      have q0 := cell_of (j := 0) hblk rfl
      replace hblk := hid hblk
      replace hS0 := hid hS0
      replace hB0 := hid hB0
      replace hlo := hid hlo
      replace hSlt := hid hSlt
      clear hS hB t1 ca1 cb1
      cases hu : under (glue q) (bl o) with
      | false =>
        have hm : mvd (bl o) (bl p) q = glue q := by unfold mvd; rw [hu]; rfl
        rw [hu] at hun
        replace hu := hid hu
        replace hm := hid hm
        go_wp2_with fail
        (with_reducible refine (hun.out _).mono ?_)
        rintro e w1 ⟨rfl, hB1⟩
        have hblk1 := (hB1.block n1 (Array.getElem?_eq_some_iff.1 hblk.out).1).trans hblk.out
        have hS1 := own_below hS0.out hB1
        have hB01 := below_step hB0.out hB1
        clear q0 hB1
        go_upto_region 8 with fail
        have hblkT := hblk1
        have hST := hS1
        have hBT := hB01
        clear hblk1 hS1 hB01
        generalize glue q = m at *
        have hml : m.length ≤ 1000200 := by omega
        have q0T := cell_of (j := 0) hblkT rfl
        have hrt := fun W' => refright_calls (mkS m) W' (by rw [mkS_size]; omega)
        rw [bl_mkS] at hrt
        cases hr : right m with
        | false =>
          rw [hr] at hrt
          replace hr := hid hr
          replace hblkT := hid hblkT
          replace hST := hid hST
          replace hBT := hid hBT
          replace hrt := hid hrt
          go_wp2_with fail
          (with_reducible refine (hrt.out _).mono ?_)
          rintro e w3 ⟨rfl, hB3⟩
          replace hB3 := hid hB3
          go_wp2
          go_ret2
          exact ⟨below_step hBT.out hB3.out, Or.inr ⟨⟨_, hx.out, by dsimp only; rw [hm.out]; exact hr.out⟩, rfl⟩⟩
        | true =>
          rw [hr] at hrt
          replace hr := hid hr
          replace hblkT := hid hblkT
          replace hST := hid hST
          replace hBT := hid hBT
          replace hrt := hid hrt
          go_wp2_with fail
          (with_reducible refine (hrt.out _).mono ?_)
          rintro e w3 ⟨rfl, hB3⟩
          have hblk3 := (hB3.block n1 (Array.getElem?_eq_some_iff.1 hblkT.out).1).trans hblkT.out
          have r0 := cell_of (j := 0) hblk3 rfl
          have r1 := cell_of (j := 1) hblk3 rfl
          have hS3 := own_below hST.out hB3
          have hB03 := below_step hBT.out hB3
          clear q0T hB3
          replace hblk3 := hid hblk3
          replace hS3 := hid hS3
          replace hB03 := hid hB03
          go_wp2_with (at_builtin; refine wp_append1 w.heap.size rfl (.tmp 43) (.tmp 45) 58 98 rfl Tryz.underlying58 (.agg #[.string ⟨#[]⟩, .pointer none]) 2 24 info_name rfl (by decide) (.slice oA k oc) _ _ rfl [.string (mkS m), .pointer (some ⟨A j, 0, none⟩)] rfl hS3.out rfl ?_ ?_ ?_ hB03.out.size ?_)
          · simp [Value.oneCell']
          · simp only [maxLen]; omega
          · omega
          · intro v1 w4 g1 hg hat
            have hB4 := hB03.out.grown hg hB03.out.size (own_base hS3.out)
            replace g1 := hid g1
            replace hB4 := hid hB4
            clear hg hat
            go_wp2
            go_roundw
            case rel =>
              refine ⟨k + 1, by go_num, by omega, ?_, ?_, hB4.out⟩
              · rw [htk.out]
                intro y hy
                rcases List.mem_append.1 hy with h | h
                · exact hok.out y h
                · rw [List.mem_singleton.1 h]
                  dsimp only
                  rw [hm.out]
                  exact hr.out
              · rw [htk.out, mrow_append]
                have e2 : mrow (bl o) (bl p) A [(q, j)] = [.string (mkS m), .pointer (some ⟨A j, 0, none⟩)] := by
                  simp only [mrow, List.flatMap_cons, List.flatMap_nil, List.append_nil, hm.out]
                  rfl
                rw [e2]
                exact g1.out
            case measure => simp [intOf]; omega
      | true =>
        obtain ⟨z, hz⟩ := under_text hu
        have hm : mvd (bl o) (bl p) q = bl p ++ z := by unfold mvd; rw [hu, if_pos rfl, hz, List.drop_left]
        rw [hu] at hun
        have hzl : o.size + z.length = (glue q).length := by rw [hz, List.length_append, bl_length]
        have hbo := bl_length o
        have hbp := bl_length p
        have hext : p ++ (mkS (glue q)).extract o.size (glue q).length = mkS (bl p ++ z) := by
          rw [extract_mkS, bl_mkS, List.take_length, hz, ← bl_length o, List.drop_left, ← mkS_append, mkS_bl]
        have hi0 : (o.size : Int) ≤ ((glue q).length : Int) := by omega
        replace hu := hid hu
        replace hm := hid hm
        replace hz := hid hz
        go_wp2_with fail
        (with_reducible refine (hun.out _).mono ?_)
        rintro e w1 ⟨rfl, hB1⟩
        have hblk1 := (hB1.block n1 (Array.getElem?_eq_some_iff.1 hblk.out).1).trans hblk.out
        have q1 := cell_of (j := 0) hblk1 rfl
        have f1 : w1.frozen? ⟨n1, 0, none⟩ = false := by simp [World.frozen?, hblk1]
        have hS1 := own_below hS0.out hB1
        have hB01 := below_step hB0.out hB1
        clear q0 hB1
        replace hblk1 := hid hblk1
        replace hS1 := hid hS1
        replace hB01 := hid hB01
        go_upto_region 8 with fail
        rw [hext] at *
        have hblk2 := heap_set_same hblk1.out 0 (.string (mkS (bl p ++ z)))
        have hST := own_blocks hS1.out fun b hb => heap_set_other w1 (Nat.ne_of_lt (hSlt.out b hb)) 0 (.string (mkS (bl p ++ z)))
        have hBT := hB01.out.setCell (p := ⟨n1, 0, none⟩) hlo.out (.string (mkS (bl p ++ z)))
        have hblkT : (w1.setCell ⟨n1, 0, none⟩ (.string (mkS (bl p ++ z)))).heap[n1]? = some (.cells #[.string (mkS (bl p ++ z)), .pointer (some ⟨A j, 0, none⟩)] 98 (0, 0)) := hblk2
        have hml : (bl p ++ z).length ≤ 1000200 := by rw [List.length_append]; omega
        clear hblk2 hblk1 hS1 hB01 q1 f1 hext
        generalize w1.setCell ⟨n1, 0, none⟩ (.string (mkS (bl p ++ z))) = w2 at *
        generalize bl p ++ z = m at *
        have q0T := cell_of (j := 0) hblkT rfl
        have hrt := fun W' => refright_calls (mkS m) W' (by rw [mkS_size]; omega)
        rw [bl_mkS] at hrt
        cases hr : right m with
        | false =>
          rw [hr] at hrt
          replace hr := hid hr
          replace hblkT := hid hblkT
          replace hST := hid hST
          replace hBT := hid hBT
          replace hrt := hid hrt
          go_wp2_with fail
          (with_reducible refine (hrt.out _).mono ?_)
          rintro e w3 ⟨rfl, hB3⟩
          replace hB3 := hid hB3
          go_wp2
          go_ret2
          exact ⟨below_step hBT.out hB3.out, Or.inr ⟨⟨_, hx.out, by dsimp only; rw [hm.out]; exact hr.out⟩, rfl⟩⟩
        | true =>
          rw [hr] at hrt
          replace hr := hid hr
          replace hblkT := hid hblkT
          replace hST := hid hST
          replace hBT := hid hBT
          replace hrt := hid hrt
          go_wp2_with fail
          (with_reducible refine (hrt.out _).mono ?_)
          rintro e w3 ⟨rfl, hB3⟩
          have hblk3 := (hB3.block n1 (Array.getElem?_eq_some_iff.1 hblkT.out).1).trans hblkT.out
          have r0 := cell_of (j := 0) hblk3 rfl
          have r1 := cell_of (j := 1) hblk3 rfl
          have hS3 := own_below hST.out hB3
          have hB03 := below_step hBT.out hB3
          clear q0T hB3
          replace hblk3 := hid hblk3
          replace hS3 := hid hS3
          replace hB03 := hid hB03
          go_wp2_with (at_builtin; refine wp_append1 w.heap.size rfl (.tmp 43) (.tmp 45) 58 98 rfl Tryz.underlying58 (.agg #[.string ⟨#[]⟩, .pointer none]) 2 24 info_name rfl (by decide) (.slice oA k oc) _ _ rfl [.string (mkS m), .pointer (some ⟨A j, 0, none⟩)] rfl hS3.out rfl ?_ ?_ ?_ hB03.out.size ?_)
          · simp [Value.oneCell']
          · simp only [maxLen]; omega
          · omega
          · intro v1 w4 g1 hg hat
            have hB4 := hB03.out.grown hg hB03.out.size (own_base hS3.out)
            replace g1 := hid g1
            replace hB4 := hid hB4
            clear hg hat
            go_wp2
            go_roundw
            case rel =>
              refine ⟨k + 1, by go_num, by omega, ?_, ?_, hB4.out⟩
              · rw [htk.out]
                intro y hy
                rcases List.mem_append.1 hy with h | h
                · exact hok.out y h
                · rw [List.mem_singleton.1 h]
                  dsimp only
                  rw [hm.out]
                  exact hr.out
              · rw [htk.out, mrow_append]
                have e2 : mrow (bl o) (bl p) A [(q, j)] = [.string (mkS m), .pointer (some ⟨A j, 0, none⟩)] := by
                  simp only [mrow, List.flatMap_cons, List.flatMap_nil, List.append_nil, hm.out]
                  rfl
                rw [e2]
                exact g1.out
            case measure => simp [intOf]; omega
    · obtain rfl : k = T.names.length := by omega
      rw [List.take_length] at hS hok
      obtain ⟨oA, oc, hoe, ho1, ho2⟩ := own_shape hS
      subst hoe
      replace hS := hid hS
      replace hB := hid hB
      replace hok := hid hok
      go_wp2
      go_ret2
      exact ⟨hB.out, Or.inl ⟨hok.out, _, rfl, hS.out⟩⟩
end
end Go.Proofs.YtcjlfkklpghjbaaGreat

namespace Go.Proofs.YtcjlfkklpghjbaaGreat
open Go.RowKit
theorem glue_below {o : Bytes} (ho : o ≠ []) {t : Pt} (ht : t ≠ []) (h47 : ∀ x ∈ t, (47 : UInt8) ∉ x) : glue (split o ++ t) = o ++ 47 :: glue t := by
 rw [← split_below ho ht h47, glue_split]
theorem mvd_other {o p : Bytes} {q : Pt} (hq : Pth q) (h : ¬ split o <+: q) : mvd o p q = glue q := by
 unfold mvd
 rw [if_neg]
 intro hu
 rw [under_prefix, hq.text.2] at hu
 exact h hu
theorem mvd_under {o p : Bytes} {t : Pt} (hq : Pth (split o ++ t)) (ho : o ≠ []) : mvd o p (split o ++ t) = if t = [] then p else p ++ 47 :: glue t := by
 have h47 : ∀ x ∈ t, (47 : UInt8) ∉ x := fun x hx => hq.no_slash (List.mem_append_right _ hx)
 have hu : under (glue (split o ++ t)) o = true := by
  rw [under_prefix]
  rw [hq.text.2]
  exact List.prefix_append _ _
 unfold mvd
 rw [if_pos hu]
 by_cases ht : t = []
 ·subst ht
  rw [if_pos rfl, List.append_nil, glue_split, List.drop_of_length_le (Nat.le_refl _), List.append_nil]
 ·rw [if_neg ht, glue_below ho ht h47, List.drop_left]
theorem mvd_move {o p : Bytes} {q : Pt} (hq : Pth q) (ho : o ≠ []) (hp : p ≠ []) : mvd o p q = glue (moveP (split o) (split p) q) := by
 rcases moveP_cases (split o) (split p) q with ⟨t, rfl, e⟩ | ⟨h, e⟩
 ·rw [e, mvd_under hq ho]
  by_cases ht : t = []
  ·subst ht
   rw [if_pos rfl, List.append_nil, glue_split]
  ·rw [if_neg ht, glue_below hp ht fun x hx => hq.no_slash (List.mem_append_right _ hx)]
 ·rw [e, mvd_other hq h]
theorem mrow_move {T : Fs} (hI : T.Inv) {o p : Bytes} (ho : o ≠ []) (hp : p ≠ []) (A : Nat → Nat) : mrow o p A T.names = rrow A (T.move (split o) (split p)).names := by
 have h : ∀ l : List (Pt × Nat), (∀ x ∈ l, Pth x.1) → mrow o p A l = rrow A (l.map fun x => (moveP (split o) (split p) x.1, x.2)) := by
  intro l
  induction l with
  | nil => intro _; rfl
  | cons x l ih =>
   intro hl
   have e1 : mrow o p A (x :: l) = [.string (mkS (mvd o p x.1)), ptr (A x.2)] ++ mrow o p A l := rfl
   have e2 : rrow A ((x :: l).map fun x => (moveP (split o) (split p) x.1, x.2)) = [.string (mkS (glue (moveP (split o) (split p) x.1))), ptr (A x.2)] ++ rrow A (l.map fun x => (moveP (split o) (split p) x.1, x.2)) := rfl
   rw [e1, e2, ih fun y hy => hl y (List.mem_cons_of_mem _ hy), mvd_move (hl x (List.mem_cons_self ..)) ho hp]
 exact h T.names fun x hx => hI.pth _ _ hx
theorem fits_mvd {T : Fs} (hI : T.Inv) {o p : Bytes} (ho : o ≠ []) (hrp : right p = true) : T.fits o p = true ↔ ∀ x ∈ T.names, right (mvd o p x.1) = true := by
 unfold Fs.fits
 rw [List.all_eq_true]
 constructor
 ·intro h x hx
  have hpx := hI.pth _ _ hx
  rcases moveP_cases (split o) (split p) x.1 with ⟨t, e, _⟩ | ⟨h2, _⟩
  ·rw [e] at hpx ⊢
   rw [mvd_under hpx ho]
   by_cases ht : t = []
   ·rw [if_pos ht]; exact hrp
   ·rw [if_neg ht]
    exact h (t, x.2) (mem_below.2 ⟨ht, by rw [← e]; exact hx⟩)
  ·rw [mvd_other hpx h2]
   exact hpx.text.1
 ·intro h y hy
  obtain ⟨h1, h2⟩ := mem_below.1 hy
  have h3 := h _ h2
  rw [mvd_under (hI.pth _ _ h2) ho, if_neg h1] at h3
  exact h3
end Go.Proofs.YtcjlfkklpghjbaaGreat

namespace Go.Proofs.YtcjlfkklpghjbaaGreat
open Go.RowKit
theorem RStp.trans {w w1 w2 : World} {rb : Nat} {v v1 : Value} {A A1 : Nat → Nat} {T T1 T2 : Fs} (h1 : Turn w w1 (ROwn rb v A T)) (h2 : ∀ b, ROwn rb v1 A1 T1 b → ROwn rb v A T b ∨ w.heap.size ≤ b) (h : RStp w1 w2 rb v1 A1 T1 T2) : RStp w w2 rb v A T T2 := by
 obtain ⟨v2, A2, g1, g2, g3⟩ := h
 refine ⟨v2, A2, g1, h1.trans (g2.mono fun i _ hi => h2 i hi), fun b hb => ?_⟩
 rcases g3 b hb with h | h
 ·exact h2 b h
 ·exact Or.inr (Nat.le_trans h1.size h)
theorem rrow_set (A : Nat → Nat) (q : Pt) : ∀ (l : List (Pt × Nat)) (k : Nat) (p : Pt) (i : Nat), l[k]? = some (p, i) → rrow A (l.set k (q, i)) = (rrow A l).set (k * 2) (.string (mkS (glue q)))
 | [], k, p, i, h => by simp at h
 | y :: l, 0, p, i, h => by
  simp only [List.getElem?_cons_zero, Option.some.injEq] at h
  subst h
  rfl
 | y :: l, k + 1, p, i, h => by
  simp only [List.getElem?_cons_succ] at h
  have e : rrow A (y :: l) = [.string (mkS (glue y.1)), ptr (A y.2)] ++ rrow A l := rfl
  have e2 : rrow A (y :: l.set k (q, i)) = [.string (mkS (glue y.1)), ptr (A y.2)] ++ rrow A (l.set k (q, i)) := rfl
  rw [List.set_cons_succ, e, e2, rrow_set A q l k p i h, List.set_append_right _ _ (by simp; omega)]
  congr 2
  simp
  omega
theorem none_below {T : Fs} (hI : T.Inv) {o : Pt} {i : Nat} (hi : (o, i) ∈ T.names) (hk : (T.nd i).kind ≠ 2) {t : Pt} {j : Nat} (h : (o ++ t, j) ∈ T.names) : t = [] := by
 cases t with
 | nil => rfl
 | cons a t =>
  exfalso
  have h2 : (o ++ [a]) ++ t = o ++ a :: t := by simp
  obtain ⟨x, hx⟩ := hI.above (r := o ++ [a]) (t := t) (by rw [h2]; exact h)
  have h3 : (a, x) ∈ T.kids o := mem_kidsL.2 hx
  rw [kids_file hI hi hk] at h3
  cases h3
theorem move_file {T : Fs} (hI : T.Inv) {o p : Pt} {k i : Nat} (hm : T.names[k]? = some (o, i)) (hk : (T.nd i).kind ≠ 2) : (T.move o p).names = T.names.set k (p, i) := by
 obtain ⟨hkl, hke⟩ := List.getElem?_eq_some_iff.1 hm
 have hmem : (o, i) ∈ T.names := hke ▸ List.getElem_mem hkl
 apply List.ext_getElem?
 intro n
 show (T.names.map fun x => (moveP o p x.1, x.2))[n]? = _
 rw [List.getElem?_map, List.getElem?_set]
 by_cases hn : k = n
 ·subst hn
  rw [if_pos rfl, if_pos hkl, hm]
  have := moveP_under o p []
  rw [List.append_nil, List.append_nil] at this
  simp [this]
 ·rw [if_neg hn]
  cases hx : T.names[n]? with
  | none => rfl
  | some x =>
   obtain ⟨hnl, hne⟩ := List.getElem?_eq_some_iff.1 hx
   have hxm : x ∈ T.names := hne ▸ List.getElem_mem hnl
   have : ¬ o <+: x.1 := fun ⟨t, ht⟩ => by
    have h1 : t = [] := none_below hI hmem hk (j := x.2) (by rw [ht]; exact hxm)
    subst h1
    rw [List.append_nil] at ht
    have h2 := hI.nodup
    have h3 : (T.names.map (·.1))[k]? = (T.names.map (·.1))[n]? := by
     rw [List.getElem?_map, List.getElem?_map, hm, hx]
     simp [ht]
    exact hn ((List.getElem?_inj (by simpa using hkl) h2).1 h3)
   simp [moveP_other this]
section
variable {W : World} {rb : Nat} {v : Value} {A : Nat → Nat} {T : Fs}
theorem move_live {o p : Pt} {i : Nat} (h : (T.move o p).Live i) : T.Live i := by
 obtain ⟨q, hq⟩ := h
 obtain ⟨r, hr, _⟩ := (mem_move q i).1 hq
 exact ⟨r, hr⟩
/-- The name's text, in its place. -/
theorem rmove_file {g c k i d : Nat} {o p : Bytes} (hR : RRep W rb (.slice (some ⟨g, 0, none⟩) T.names.length c) A T) (hM : Moves T (split o) (split p) i d) (hm : T.names[k]? = some (split o, i)) (hk : (T.nd i).kind ≠ 2) :
  RStp W (W.setCell ⟨g, k * 2, none⟩ (.string (mkS p))) rb (.slice (some ⟨g, 0, none⟩) T.names.length c) A T (T.move (split o) (split p)) := by
 have hgr : rb ≠ g := fun e => by
  have := hR.tree_row
  rw [e] at this
  exact this rfl
 have hnm := move_file (p := split p) hR.inv hm hk
 refine rrep_row_stp hR (move_inv hR.inv hM) (fun j hj => move_live hj) (fun j _ => ⟨rfl, rfl⟩) rfl (Turn.set (Turn.of_below (Below.refl _ _) _) (Or.inr rfl) _ _) ((heap_set_other W hgr _ _).trans hR.tree) ?_ (Or.inl rfl)
 rw [hnm, List.length_set, rrow_set A (split p) T.names k _ i hm, glue_split]
 exact (hR.row.stored (k * 2) _).1
/-- The whole row anew. -/
theorem rmove_dir {w : World} {i d : Nat} {o p : Bytes} {u : Value} (hR : RRep w rb v A T) (hM : Moves T (split o) (split p) i d) (ho : o ≠ []) (hp : p ≠ []) (hB : Below w.heap.size w W)
  (hrow : W.ownsRow w.heap.size 98 2 u T.names.length (mrow o p A T.names)) (hpos : 0 < T.names.length) : RStp w (W.setCell ⟨rb, 0, none⟩ u) rb v A T (T.move (split o) (split p)) := by
 have htree := (hB.block rb (Array.getElem?_eq_some_iff.1 hR.tree).1).trans hR.tree
 have hlt := (Array.getElem?_eq_some_iff.1 hR.tree).1
 have hlow : ∀ b, u.ownBlock = some b → w.heap.size ≤ b := fun b hb => own_base hrow b hb
 have hlen : (T.move (split o) (split p)).names.length = T.names.length := List.length_map ..
 refine rrep_row_stp hR (move_inv hR.inv hM) (fun j hj => move_live hj) (fun j _ => ⟨rfl, rfl⟩) rfl (Turn.set (Turn.of_below hB _) (Or.inl rfl) _ _) (by have := heap_set_same htree 0 u; simpa using this) ?_ ?_
 ·rw [hlen, ← mrow_move hR.inv ho hp A]
  exact own_blocks (own_low hrow (Nat.zero_le _)) fun b hb => heap_set_other W (fun e : b = rb => by have := hlow b hb; omega) _ _
 ·cases hu : u.ownBlock with
  | none =>
   obtain ⟨g3, _, e1, _, _, _, e6, _⟩ := own_at hrow hpos
   rw [hu] at e6
   cases e6
  | some b => exact Or.inr ⟨b, rfl, hlow b hu⟩
end
end Go.Proofs.YtcjlfkklpghjbaaGreat

namespace Go.Proofs.YtcjlfkklpghjbaaGreat
open Go.RowKit
theorem ren_wrong {T : Fs} {o p : Bytes} (h : right o = false ∨ right p = false) : T.rename o p = (T, 9) := by
 unfold Fs.rename
 rw [if_pos h]
theorem ren_top {T : Fs} {o p : Bytes} (hro : right o = true) (hrp : right p = true) (h : o = [] ∨ p = []) : T.rename o p = (T, 2) := by
 unfold Fs.rename
 rw [if_neg (by simp [hro, hrp])]
 unfold Fs.ren2
 rw [if_pos h]
theorem ren_fault {T : Fs} {o p : Bytes} (hro : right o = true) (hrp : right p = true) (ho : o ≠ []) (hp : p ≠ []) (hz : (T.there o).2.2 ≠ 0) : T.rename o p = (T, (T.there o).2.2) := by
 unfold Fs.rename
 rw [if_neg (by simp [hro, hrp])]
 unfold Fs.ren2
 rw [if_neg (by simp [ho, hp]), if_pos hz]
theorem ren_go {T : Fs} {o p : Bytes} {i : Nat} (hro : right o = true) (hrp : right p = true) (ho : o ≠ []) (hp : p ≠ []) (hz : (T.there o).2.2 = 0) (h3 : (T.there o).1 = some i) : T.rename o p = T.ren3 o p i (T.look p).1 (T.look p).2.2 := by
 unfold Fs.rename
 rw [if_neg (by simp [hro, hrp])]
 unfold Fs.ren2
 rw [if_neg (by simp [ho, hp]), if_neg (by simpa using hz), h3]
theorem look_of_there {T : Fs} {o : Bytes} {i : Nat} (hz : (T.there o).2.2 = 0) (h3 : (T.there o).1 = some i) : (T.look o).1 = some i ∧ (T.look o).2.2 = 0 := by
 have h1 : (T.look o).1 = some i := h3
 refine ⟨h1, ?_⟩
 have h2 : (if (T.look o).2.2 = 0 ∧ (T.look o).1 = none then (10 : Int) else (T.look o).2.2) = 0 := hz
 rwa [if_neg (by rw [h1]; simp)] at h2
theorem at_here {T : Fs} (hI : T.Inv) {s : Bytes} {i : Nat} (h : (split s, i) ∈ T.names) : ∃ k : Nat, atIdx T.names s = k ∧ T.names[k]? = some (split s, i) := by
 rcases atIdx_at hI s with ⟨_, e⟩ | ⟨k, j, e1, e2, e3⟩
 ·exact absurd h (Fs.at_none.1 e i)
 ·rw [hI.at_some.2 h] at e3
  cases e3
  exact ⟨k, e1, e2⟩
section
variable (rb : Nat) (v : Value) (A : Nat → Nat) (T : Fs)
set_option maxHeartbeats 4000000 in
set_option maxRecDepth 100000 in
theorem rrename_calls (o p : ByteArray) (w : World) (hR : RRep w rb v A T) (ho : o.size ≤ 1000000) (hp : p.size ≤ 1000000) (hf : T.names.length ≤ 1000000) :
  Calls Tryz.prog 50 #[ptr rb, .string o, .string p] w fun e w' => e = .returned (.int .i64 (T.rename (bl o) (bl p)).2) ∧ RStp w w' rb v A T (T.rename (bl o) (bl p)).1 := by
 have hI := hR.inv
 have h0 := fun W => refright_calls o W (by omega)
 have h1 := fun W => refright_calls p W (by omega)
 have h2 := fun W hW => rthere_calls rb v A T o W hW (by omega)
 have h3 := fun W hW => rlook_calls rb v A T p W hW (by omega)
 have h4 := fun W => refunder_calls p o W (by omega) (by omega)
 have h5 := fun W hW => rmoved_calls rb v A T o p W hW ho hp hf
 have hno := str_nil o
 have hnp := str_nil p
 have hne := str_same p o
 unfold ptr at *
 replace h0 := hid h0
 replace h1 := hid h1
 replace h2 := hid h2
 replace h3 := hid h3
 replace h4 := hid h4
 replace h5 := hid h5
 replace hR := hid hR
 replace hI := hid hI
 replace hne := hid hne
 cases hro : right (bl o) with
 | false =>
  rw [ren_wrong (Or.inl hro)]
  replace h0 := h0.out
  rw [hro] at h0
  replace h0 := hid h0
  replace hro := hid hro
  replace hno := hid hno
  replace hnp := hid hnp
  go_enter Tryz.func50, Tryz.ntmps50
  go_wp2_with fail
  (with_reducible refine (h0.out _).mono ?_)
  rintro e w1 ⟨rfl, hB1⟩
  have hst := RStp.same hR.out hB1
  replace hst := hid hst
  clear hB1
  go_wp2
  go_ret
  exact ⟨rfl, hst.out⟩
 | true =>
 replace h0 := h0.out
 rw [hro] at h0
 replace h0 := hid h0
 cases hrp : right (bl p) with
 | false =>
  rw [ren_wrong (Or.inr hrp)]
  replace h1 := h1.out
  rw [hrp] at h1
  replace h1 := hid h1
  replace hro := hid hro
  replace hrp := hid hrp
  replace hno := hid hno
  replace hnp := hid hnp
  go_enter Tryz.func50, Tryz.ntmps50
  go_wp2_with fail
  (with_reducible refine (h0.out _).mono ?_)
  rintro e w1 ⟨rfl, hB1⟩
  go_wp2_with fail
  (with_reducible refine (h1.out _).mono ?_)
  rintro e w2 ⟨rfl, hB2⟩
  have hst := RStp.same hR.out (below_step hB1 hB2)
  replace hst := hid hst
  clear hB1 hB2
  go_wp2
  go_ret
  exact ⟨rfl, hst.out⟩
 | true =>
 replace h1 := h1.out
 rw [hrp] at h1
 replace h1 := hid h1
 by_cases ho0 : bl o = []
 ·rw [ren_top hro hrp (Or.inl ho0)]
  have hno2 : o.toList.isEmpty = true := by rw [hno, ho0]; rfl
  replace hro := hid hro
  replace hrp := hid hrp
  replace hno := hid hno
  replace hnp := hid hnp
  replace ho0 := hid ho0
  go_enter Tryz.func50, Tryz.ntmps50
  go_wp2_with fail
  (with_reducible refine (h0.out _).mono ?_)
  rintro e w1 ⟨rfl, hB1⟩
  go_wp2_with fail
  (with_reducible refine (h1.out _).mono ?_)
  rintro e w2 ⟨rfl, hB2⟩
  have hst := RStp.same hR.out (below_step hB1 hB2)
  replace hst := hid hst
  clear hB1 hB2
  go_wp2
  go_ret
  exact ⟨rfl, hst.out⟩
 have hno2 : o.toList.isEmpty = false := by rw [hno]; simpa using ho0
 by_cases hp0 : bl p = []
 ·rw [ren_top hro hrp (Or.inr hp0)]
  have hnp2 : p.toList.isEmpty = true := by rw [hnp, hp0]; rfl
  replace hro := hid hro
  replace hrp := hid hrp
  replace hno := hid hno
  replace hnp := hid hnp
  replace ho0 := hid ho0
  replace hp0 := hid hp0
  go_enter Tryz.func50, Tryz.ntmps50
  go_wp2_with fail
  (with_reducible refine (h0.out _).mono ?_)
  rintro e w1 ⟨rfl, hB1⟩
  go_wp2_with fail
  (with_reducible refine (h1.out _).mono ?_)
  rintro e w2 ⟨rfl, hB2⟩
  have hst := RStp.same hR.out (below_step hB1 hB2)
  replace hst := hid hst
  clear hB1 hB2
  go_wp2
  go_ret
  exact ⟨rfl, hst.out⟩
 have hnp2 : p.toList.isEmpty = false := by rw [hnp]; simpa using hp0
 replace hno := hid hno
 replace hnp := hid hnp
 rcases file_there hI.out (bl o) with ⟨hz, _⟩ | ⟨i, hz, hth, hm, _, _⟩
 ·rw [ren_fault hro hrp ho0 hp0 hz]
  dsimp only
  have he2 : ((T.there (bl o)).2.2 == 0) = false := by simpa using hz
  have he3 : ((T.there (bl o)).2.2 != 0) = true := by simpa using hz
  replace h2 := h2.out
  generalize (T.there (bl o)).2.2 = e at *
  generalize (T.there (bl o)).1 = n at *
  have hpn : ∃ a, optPtr A n = .pointer a := by cases n <;> exact ⟨_, rfl⟩
  obtain ⟨a, hpn⟩ := hpn
  simp only [hpn] at h2
  replace h2 := hid h2
  replace hz := hid hz
  replace hpn := hid hpn
  replace hro := hid hro
  replace hrp := hid hrp
  replace ho0 := hid ho0
  replace hp0 := hid hp0
  go_enter Tryz.func50, Tryz.ntmps50
  go_wp2_with fail
  (with_reducible refine (h0.out _).mono ?_)
  rintro e w1 ⟨rfl, hB1⟩
  go_wp2_with fail
  (with_reducible refine (h1.out _).mono ?_)
  rintro e w2 ⟨rfl, hB2⟩
  have hB02 := below_step hB1 hB2
  have h2' := h2.out w2 (hR.out.below hB02)
  replace hB02 := hid hB02
  replace h2' := hid h2'
  clear hB1 hB2
  go_wp2_with fail
  (with_reducible refine (h2'.out).mono ?_)
  rintro e w3 ⟨rfl, hB3⟩
  have hB03 := below_step hB02.out hB3
  have hR3 := hR.out.below hB03
  clear hB3 h2'
  have hst := RStp.same hR.out hB03
  replace hst := hid hst
  replace hR3 := hid hR3
  replace hB03 := hid hB03
  go_wp2
  go_ret
  exact ⟨rfl, hst.out⟩
 rw [ren_go hro hrp ho0 hp0 hz hth]
 replace h2 := h2.out
 simp only [hz, hth, optPtr_some] at h2
 have hlt := fun e : bl p = bl o => look_of_there hz hth
 have hlo := hI.out.look_ok (s := bl p)
 replace h2 := hid h2
 replace hz := hid hz
 replace hth := hid hth
 replace hro := hid hro
 replace hrp := hid hrp
 replace ho0 := hid ho0
 replace hp0 := hid hp0
 replace hm := hid hm
 replace hlt := hid hlt
 replace hlo := hid hlo
 by_cases hk : (T.nd i).kind = 2
 ·by_cases hpo : bl p = bl o
  ·have hs2 : p.toList = o.toList := hne.out.2 hpo
   obtain ⟨g1, g2⟩ := hlt.out hpo
   replace h3 := h3.out
   rw [hpo, g1, g2, optPtr_some] at h3
   have hl : T.ren3 (bl o) (bl p) i (T.look (bl p)).1 (T.look (bl p)).2.2 = (T, 11) := by
    unfold Fs.ren3
    rw [hpo, g1, g2, if_neg (by simp), if_neg (by simp), if_pos ⟨hk, by simp⟩]
   rw [hl]
   replace h3 := hid h3
   replace hpo := hid hpo
   replace g1 := hid g1
   replace g2 := hid g2
   replace hl := hid hl
   replace hk := hid hk
   go_enter Tryz.func50, Tryz.ntmps50
   go_wp2_with fail
   (with_reducible refine (h0.out _).mono ?_)
   rintro e w1 ⟨rfl, hB1⟩
   go_wp2_with fail
   (with_reducible refine (h1.out _).mono ?_)
   rintro e w2 ⟨rfl, hB2⟩
   have hB02 := below_step hB1 hB2
   have h2' := h2.out w2 (hR.out.below hB02)
   replace hB02 := hid hB02
   replace h2' := hid h2'
   clear hB1 hB2
   go_wp2_with fail
   (with_reducible refine (h2'.out).mono ?_)
   rintro e w3 ⟨rfl, hB3⟩
   have hB03 := below_step hB02.out hB3
   have hR3 := hR.out.below hB03
   clear hB3 h2'
   obtain ⟨_, _, c0, _⟩ := hR3.cells ⟨_, hm.out⟩
   rw [hk.out] at c0
   have h3' := h3.out w3 hR3
   replace h3' := hid h3'
   replace hB03 := hid hB03
   go_wp2_with fail
   (with_reducible refine (h3'.out).mono ?_)
   rintro e w4 ⟨rfl, hB4⟩
   have hB04 := below_step hB03.out hB4
   have c4 := (hB4.cell (cell_lt c0)).trans c0
   clear hB4 h3' c0
   have hst := RStp.same hR.out hB04
   replace hst := hid hst
   replace hR3 := hid hR3
   replace hB04 := hid hB04
   go_wp2
   go_ret
   exact ⟨rfl, hst.out⟩
  ·have hs2 : ¬ p.toList = o.toList := fun e => hpo (hne.out.1 e)
   have hs3 : (p.toList == o.toList) = false := by simpa using hs2
   cases hu : under (bl p) (bl o) with
   | true =>
    replace h4 := h4.out
    rw [hu] at h4
    have hl : T.ren3 (bl o) (bl p) i (T.look (bl p)).1 (T.look (bl p)).2.2 = (T, 2) := by
     unfold Fs.ren3
     rw [if_pos ⟨hk, hpo, hu⟩]
    rw [hl]
    replace h4 := hid h4
    replace hpo := hid hpo
    replace hl := hid hl
    replace hk := hid hk
    replace hu := hid hu
    go_enter Tryz.func50, Tryz.ntmps50
    go_wp2_with fail
    (with_reducible refine (h0.out _).mono ?_)
    rintro e w1 ⟨rfl, hB1⟩
    go_wp2_with fail
    (with_reducible refine (h1.out _).mono ?_)
    rintro e w2 ⟨rfl, hB2⟩
    have hB02 := below_step hB1 hB2
    have h2' := h2.out w2 (hR.out.below hB02)
    replace hB02 := hid hB02
    replace h2' := hid h2'
    clear hB1 hB2
    go_wp2_with fail
    (with_reducible refine (h2'.out).mono ?_)
    rintro e w3 ⟨rfl, hB3⟩
    have hB03 := below_step hB02.out hB3
    have hR3 := hR.out.below hB03
    clear hB3 h2'
    obtain ⟨_, _, c0, _⟩ := hR3.cells ⟨_, hm.out⟩
    rw [hk.out] at c0
    replace hB03 := hid hB03
    replace hR3 := hid hR3
    go_wp2_with fail
    (with_reducible refine (h4.out _).mono ?_)
    rintro e w4 ⟨rfl, hB4⟩
    have hst := RStp.same hR.out (below_step hB03.out hB4)
    replace hst := hid hst
    clear hB4
    go_wp2
    go_ret
    exact ⟨rfl, hst.out⟩
   | false =>
    replace h4 := h4.out
    rw [hu] at h4
    have hg1 : ¬ ((T.nd i).kind = 2 ∧ bl p ≠ bl o ∧ under (bl p) (bl o) = true) := fun h => by rw [hu] at h; exact absurd h.2.2 (by simp)
    replace h3 := h3.out
    by_cases hle : (T.look (bl p)).2.2 = 0
    ·obtain ⟨_, hwn, hd⟩ := hlo.out hle
     rcases hd with ⟨h, _⟩ | ⟨_, d, _, hd1, hd2⟩
     ·exact absurd h hp0.out
     rw [hle] at h3
     cases hw : (T.look (bl p)).1 with
     | some j =>
      rw [hw, optPtr_some] at h3
      have hl : T.ren3 (bl o) (bl p) i (some j) (T.look (bl p)).2.2 = (T, 11) := by
       unfold Fs.ren3
       rw [if_neg hg1, hle, if_neg (by simp), if_pos ⟨hk, by simp⟩]
      rw [hl]
      replace h3 := hid h3
      replace h4 := hid h4
      replace hpo := hid hpo
      replace hl := hid hl
      replace hk := hid hk
      replace hu := hid hu
      replace hg1 := hid hg1
      replace hle := hid hle
      replace hwn := hid hwn
      replace hd1 := hid hd1
      replace hd2 := hid hd2
      replace hw := hid hw
      go_enter Tryz.func50, Tryz.ntmps50
      go_wp2_with fail
      (with_reducible refine (h0.out _).mono ?_)
      rintro e w1 ⟨rfl, hB1⟩
      go_wp2_with fail
      (with_reducible refine (h1.out _).mono ?_)
      rintro e w2 ⟨rfl, hB2⟩
      have hB02 := below_step hB1 hB2
      have h2' := h2.out w2 (hR.out.below hB02)
      replace hB02 := hid hB02
      replace h2' := hid h2'
      clear hB1 hB2
      go_wp2_with fail
      (with_reducible refine (h2'.out).mono ?_)
      rintro e w3 ⟨rfl, hB3⟩
      have hB03 := below_step hB02.out hB3
      have hR3 := hR.out.below hB03
      clear hB3 h2'
      obtain ⟨_, _, c0, _⟩ := hR3.cells ⟨_, hm.out⟩
      rw [hk.out] at c0
      replace hB03 := hid hB03
      replace hR3 := hid hR3
      go_wp2_with fail
      (with_reducible refine (h4.out _).mono ?_)
      rintro e w4 ⟨rfl, hB4⟩
      have hB04 := below_step hB03.out hB4
      have c4 := (hB4.cell (cell_lt c0)).trans c0
      have hR4 := hR.out.below hB04
      have h3' := h3.out w4 hR4
      clear c0 hB4
      replace h3' := hid h3'
      replace hB04 := hid hB04
      go_wp2_with fail
      (with_reducible refine (h3'.out).mono ?_)
      rintro e w5 ⟨rfl, hB5⟩
      have hB05 := below_step hB04.out hB5
      have c5 := (hB5.cell (cell_lt c4)).trans c4
      clear c4 hB5 h3'
      have hst := RStp.same hR.out hB05
      replace hst := hid hst
      replace hR4 := hid hR4
      replace hB04 := hid hB04
      replace hB05 := hid hB05
      go_wp2
      go_ret
      exact ⟨rfl, hst.out⟩
     | none =>
      rw [hw, optPtr_none] at h3
      have hfit := fits_mvd (p := bl p) hI.out ho0.out hrp.out
      cases hft : T.fits (bl o) (bl p) with
      | true =>
       have hM := moves_of (o := bl o) hI.out hrp.out ho0.out hp0.out hm.out hd1 hd2 (by rw [← hwn, hw]) hg1 (fun h => by rw [hft] at h; exact absurd h.2 (by simp))
       have hl : T.ren3 (bl o) (bl p) i none (T.look (bl p)).2.2 = (T.move (split (bl o)) (split (bl p)), 0) := by
        unfold Fs.ren3
        rw [if_neg hg1, hle, if_neg (by simp), if_neg (fun h => h.2 rfl), if_neg (fun h => by rw [hft] at h; exact absurd h.2 (by simp))]
       rw [hl]
       dsimp only
       replace h3 := hid h3
       replace h4 := hid h4
       replace hpo := hid hpo
       replace hl := hid hl
       replace hk := hid hk
       replace hu := hid hu
       replace hg1 := hid hg1
       replace hle := hid hle
       replace hwn := hid hwn
       replace hd1 := hid hd1
       replace hd2 := hid hd2
       replace hw := hid hw
       replace hM := hid hM
       replace hft := hid hft
       replace hfit := hid hfit
       go_enter Tryz.func50, Tryz.ntmps50
       go_wp2_with fail
       (with_reducible refine (h0.out _).mono ?_)
       rintro e w1 ⟨rfl, hB1⟩
       go_wp2_with fail
       (with_reducible refine (h1.out _).mono ?_)
       rintro e w2 ⟨rfl, hB2⟩
       have hB02 := below_step hB1 hB2
       have h2' := h2.out w2 (hR.out.below hB02)
       replace hB02 := hid hB02
       replace h2' := hid h2'
       clear hB1 hB2
       go_wp2_with fail
       (with_reducible refine (h2'.out).mono ?_)
       rintro e w3 ⟨rfl, hB3⟩
       have hB03 := below_step hB02.out hB3
       have hR3 := hR.out.below hB03
       clear hB3 h2'
       obtain ⟨_, _, c0, _⟩ := hR3.cells ⟨_, hm.out⟩
       rw [hk.out] at c0
       replace hB03 := hid hB03
       replace hR3 := hid hR3
       go_wp2_with fail
       (with_reducible refine (h4.out _).mono ?_)
       rintro e w4 ⟨rfl, hB4⟩
       have hB04 := below_step hB03.out hB4
       have c4 := (hB4.cell (cell_lt c0)).trans c0
       have hR4 := hR.out.below hB04
       have h3' := h3.out w4 hR4
       clear c0 hB4
       replace h3' := hid h3'
       replace hB04 := hid hB04
       go_wp2_with fail
       (with_reducible refine (h3'.out).mono ?_)
       rintro e w5 ⟨rfl, hB5⟩
       have hB05 := below_step hB04.out hB5
       have c5 := (hB5.cell (cell_lt c4)).trans c4
       clear c4 hB5 h3'
       have hR5 := hR.out.below hB05
       have h5' := h5.out w5 hR5
       replace hR4 := hid hR4
       replace hB04 := hid hB04
       replace hB05 := hid hB05
       replace hR5 := hid hR5
       replace h5' := hid h5'
       go_wp2_with fail
       (with_reducible refine (h5'.out).mono ?_)
       rintro e w6 ⟨hB6, hr⟩
       rcases hr with ⟨_, u, rfl, hrow⟩ | ⟨⟨x, hx, hxf⟩, rfl⟩
       ·obtain ⟨g, c, _, _, _, hpos, t0, _⟩ := hR5.out.at_
        have t6 := (hB6.cell (cell_lt t0)).trans t0
        have f6 : w6.frozen? ⟨rb, 0, none⟩ = false := by
         have h := (hB6.block rb (Array.getElem?_eq_some_iff.1 hR5.out.tree).1).trans hR5.out.tree
         simp [World.frozen?, h]
        have hst := (rmove_dir hR5.out hM.out ho0.out hp0.out hB6 hrow hpos).after hB05.out
        obtain ⟨uA, uc, hue, _, _⟩ := own_shape hrow
        subst hue
        replace hst := hid hst
        replace hrow := hid hrow
        clear hB6 t0 h5'
        go_wp2
        go_ret
        exact ⟨rfl, hst.out⟩
       ·have := hfit.out.1 hft.out x hx
        rw [hxf] at this
        cases this
      | false =>
       have hl : T.ren3 (bl o) (bl p) i none (T.look (bl p)).2.2 = (T, 7) := by
        unfold Fs.ren3
        rw [if_neg hg1, hle, if_neg (by simp), if_neg (fun h => h.2 rfl), if_pos ⟨hk, hft⟩]
       rw [hl]
       dsimp only
       replace h3 := hid h3
       replace h4 := hid h4
       replace hpo := hid hpo
       replace hl := hid hl
       replace hk := hid hk
       replace hu := hid hu
       replace hg1 := hid hg1
       replace hle := hid hle
       replace hwn := hid hwn
       replace hd1 := hid hd1
       replace hd2 := hid hd2
       replace hw := hid hw
       replace hft := hid hft
       replace hfit := hid hfit
       go_enter Tryz.func50, Tryz.ntmps50
       go_wp2_with fail
       (with_reducible refine (h0.out _).mono ?_)
       rintro e w1 ⟨rfl, hB1⟩
       go_wp2_with fail
       (with_reducible refine (h1.out _).mono ?_)
       rintro e w2 ⟨rfl, hB2⟩
       have hB02 := below_step hB1 hB2
       have h2' := h2.out w2 (hR.out.below hB02)
       replace hB02 := hid hB02
       replace h2' := hid h2'
       clear hB1 hB2
       go_wp2_with fail
       (with_reducible refine (h2'.out).mono ?_)
       rintro e w3 ⟨rfl, hB3⟩
       have hB03 := below_step hB02.out hB3
       have hR3 := hR.out.below hB03
       clear hB3 h2'
       obtain ⟨_, _, c0, _⟩ := hR3.cells ⟨_, hm.out⟩
       rw [hk.out] at c0
       replace hB03 := hid hB03
       replace hR3 := hid hR3
       go_wp2_with fail
       (with_reducible refine (h4.out _).mono ?_)
       rintro e w4 ⟨rfl, hB4⟩
       have hB04 := below_step hB03.out hB4
       have c4 := (hB4.cell (cell_lt c0)).trans c0
       have hR4 := hR.out.below hB04
       have h3' := h3.out w4 hR4
       clear c0 hB4
       replace h3' := hid h3'
       replace hB04 := hid hB04
       go_wp2_with fail
       (with_reducible refine (h3'.out).mono ?_)
       rintro e w5 ⟨rfl, hB5⟩
       have hB05 := below_step hB04.out hB5
       have c5 := (hB5.cell (cell_lt c4)).trans c4
       clear c4 hB5 h3'
       have hR5 := hR.out.below hB05
       have h5' := h5.out w5 hR5
       replace hR4 := hid hR4
       replace hB04 := hid hB04
       replace hB05 := hid hB05
       replace hR5 := hid hR5
       replace h5' := hid h5'
       go_wp2_with fail
       (with_reducible refine (h5'.out).mono ?_)
       rintro e w6 ⟨hB6, hr⟩
       rcases hr with ⟨hall, u, rfl, hrow⟩ | ⟨_, rfl⟩
       ·have := hfit.out.2 hall
        rw [hft.out] at this
        cases this
       ·have hst := RStp.same hR.out (below_step hB05.out hB6)
        replace hst := hid hst
        clear hB6 h5'
        go_wp2
        go_ret
        exact ⟨rfl, hst.out⟩
    ·have hl : T.ren3 (bl o) (bl p) i (T.look (bl p)).1 (T.look (bl p)).2.2 = (T, (T.look (bl p)).2.2) := by
      unfold Fs.ren3
      rw [if_neg hg1, if_pos hle]
     rw [hl]
     dsimp only
     have he2 : ((T.look (bl p)).2.2 == 0) = false := by simpa using hle
     have he3 : ((T.look (bl p)).2.2 != 0) = true := by simpa using hle
     clear hlo hlt hg1
     generalize (T.look (bl p)).2.2 = e at *
     generalize (T.look (bl p)).1 = n at *
     have hpn : ∃ a, optPtr A n = .pointer a := by cases n <;> exact ⟨_, rfl⟩
     obtain ⟨a, hpn⟩ := hpn
     simp only [hpn] at h3
     replace h3 := hid h3
     replace h4 := hid h4
     replace hpo := hid hpo
     replace hl := hid hl
     replace hk := hid hk
     replace hu := hid hu
     replace hle := hid hle
     replace hpn := hid hpn
     go_enter Tryz.func50, Tryz.ntmps50
     go_wp2_with fail
     (with_reducible refine (h0.out _).mono ?_)
     rintro e w1 ⟨rfl, hB1⟩
     go_wp2_with fail
     (with_reducible refine (h1.out _).mono ?_)
     rintro e w2 ⟨rfl, hB2⟩
     have hB02 := below_step hB1 hB2
     have h2' := h2.out w2 (hR.out.below hB02)
     replace hB02 := hid hB02
     replace h2' := hid h2'
     clear hB1 hB2
     go_wp2_with fail
     (with_reducible refine (h2'.out).mono ?_)
     rintro e w3 ⟨rfl, hB3⟩
     have hB03 := below_step hB02.out hB3
     have hR3 := hR.out.below hB03
     clear hB3 h2'
     obtain ⟨_, _, c0, _⟩ := hR3.cells ⟨_, hm.out⟩
     rw [hk.out] at c0
     replace hB03 := hid hB03
     replace hR3 := hid hR3
     go_wp2_with fail
     (with_reducible refine (h4.out _).mono ?_)
     rintro e w4 ⟨rfl, hB4⟩
     have hB04 := below_step hB03.out hB4
     have c4 := (hB4.cell (cell_lt c0)).trans c0
     have hR4 := hR.out.below hB04
     have h3' := h3.out w4 hR4
     clear c0 hB4
     replace h3' := hid h3'
     replace hB04 := hid hB04
     go_wp2_with fail
     (with_reducible refine (h3'.out).mono ?_)
     rintro e w5 ⟨rfl, hB5⟩
     have hB05 := below_step hB04.out hB5
     have c5 := (hB5.cell (cell_lt c4)).trans c4
     clear c4 hB5 h3'
     have hst := RStp.same hR.out hB05
     replace hst := hid hst
     replace hR4 := hid hR4
     replace hB04 := hid hB04
     replace hB05 := hid hB05
     go_wp2
     go_ret
     exact ⟨rfl, hst.out⟩
 ·have hk2 : ((T.nd i).kind == 2) = false := by simpa using hk
  replace h3 := h3.out
  by_cases hle : (T.look (bl p)).2.2 = 0
  ·obtain ⟨_, hwn, hd⟩ := hlo.out hle
   rcases hd with ⟨h, _⟩ | ⟨_, d, _, hd1, hd2⟩
   ·exact absurd h hp0.out
   rw [hle] at h3
   cases hw : (T.look (bl p)).1 with
   | none =>
    rw [hw, optPtr_none] at h3
    have hM := moves_of (o := bl o) hI.out hrp.out ho0.out hp0.out hm.out hd1 hd2 (by rw [← hwn, hw]) (fun h => hk h.1) (fun h => hk h.1)
    have hl : T.ren3 (bl o) (bl p) i none (T.look (bl p)).2.2 = (T.move (split (bl o)) (split (bl p)), 0) := by
     unfold Fs.ren3
     rw [if_neg (fun h => hk h.1), hle, if_neg (by simp), if_neg (fun h => hk h.1), if_neg (fun h => hk h.1)]
    rw [hl]
    dsimp only
    have h6 := fun W hW => rgone_none rb v A T p W hW (by rw [← hwn, hw])
    unfold ptr at h6
    replace h3 := hid h3
    replace h4 := hid h4
    replace hl := hid hl
    replace hk := hid hk
    replace hle := hid hle
    replace hwn := hid hwn
    replace hd1 := hid hd1
    replace hd2 := hid hd2
    replace hw := hid hw
    replace hM := hid hM
    replace h6 := hid h6
    go_enter Tryz.func50, Tryz.ntmps50
    go_wp2_with fail
    (with_reducible refine (h0.out _).mono ?_)
    rintro e w1 ⟨rfl, hB1⟩
    go_wp2_with fail
    (with_reducible refine (h1.out _).mono ?_)
    rintro e w2 ⟨rfl, hB2⟩
    have hB02 := below_step hB1 hB2
    have h2' := h2.out w2 (hR.out.below hB02)
    replace hB02 := hid hB02
    replace h2' := hid h2'
    clear hB1 hB2
    go_wp2_with fail
    (with_reducible refine (h2'.out).mono ?_)
    rintro e w3 ⟨rfl, hB3⟩
    have hB03 := below_step hB02.out hB3
    have hR3 := hR.out.below hB03
    clear hB3 h2'
    obtain ⟨_, _, c0, _⟩ := hR3.cells ⟨_, hm.out⟩
    replace hR3 := hid hR3
    have h3' := h3.out w3 hR3.out
    replace h3' := hid h3'
    replace hB03 := hid hB03
    go_wp2_with fail
    (with_reducible refine (h3'.out).mono ?_)
    rintro e w4 ⟨rfl, hB4⟩
    have hB04 := below_step hB03.out hB4
    have c4 := (hB4.cell (cell_lt c0)).trans c0
    clear hB4 h3' c0
    have hR4 := hR.out.below hB04
    replace hB04 := hid hB04
    replace hR4 := hid hR4
    go_wp2_with fail
    go_quiet (fail)
    go_wp2_with fail
    (with_reducible refine (h6.out _ (hR4.out.drewN _)).mono ?_)
    rintro e w5 ⟨rfl, hw5⟩
    have hR5 : RRep w5 rb v A T := by rw [← hw5]; exact hR4.out.drewN _
    have hB05 : Below w.heap.size w w5 := by rw [← hw5]; exact below_drewN hB04.out _
    replace hR5 := hid hR5
    replace hB05 := hid hB05
    clear hw5 c4
    obtain ⟨k, hat1, hat2⟩ := at_here hR5.out.inv (hM.out).hold
    obtain ⟨g, c, hv, hc1, hc2, hpos, t0, hcs⟩ := hR5.out.at_
    subst hv
    unfold maxLen at hc2
    have ck := (hcs _ _ hat2).1
    have fz := hR5.out.row.frozenAt (k * 2)
    have hkl : k < (T).names.length := (List.getElem?_eq_some_iff.1 hat2).1
    have hki : (k : Int) < ((T).names.length : Int) := by omega
    have hcall := rat_calls rb _ A T o (w5).drew (hR5.out.below (below_drewN (Below.refl _ _) 1))
    rw [hat1] at hcall
    have hst := rmove_file (W := (w5).drew) (p := bl p) (hR5.out.below (below_drewN (Below.refl _ _) 1)) hM.out hat2 (hk.out)
    rw [mkS_bl] at hst
    unfold ptr at hcall
    replace hcall := hid hcall
    replace hst := hid hst
    replace hat1 := hid hat1
    replace hat2 := hid hat2
    replace hcs := hid hcs
    go_wp2_with fail
    refine wp_region_still_tail 8 (by kernel_rfl) (by kernel_rfl) ?_
    simp only [List.take_succ_cons, List.take_zero, List.drop_succ_cons, List.drop_zero]
    iterate 6 still_step
    still_call (hcall.out.mono fun e w' hh => ⟨hh.1, hh.2.symm⟩)
    still_step
    refine wpStill_nil ?_
    change wpList _ _ _ _ _ (w5).drew
    go_wp2
    go_ret
    exact ⟨rfl, hst.out.after (below_drewN hB05.out 1)⟩
   | some j =>
    rw [hw, optPtr_some] at h3
    have hj : (split (bl p), j) ∈ T.names := hI.out.at_some.1 (by rw [← hwn, hw])
    by_cases hjk : (T.nd j).kind = 2
    ·have hl : T.ren3 (bl o) (bl p) i (some j) (T.look (bl p)).2.2 = (T, 13) := by
      unfold Fs.ren3
      rw [if_neg (fun h => hk h.1), hle, if_neg (by simp), if_neg (fun h => hk h.1), if_neg (fun h => hk h.1)]
      exact if_pos hjk
     rw [hl]
     dsimp only
     replace h3 := hid h3
     replace h4 := hid h4
     replace hl := hid hl
     replace hk := hid hk
     replace hle := hid hle
     replace hwn := hid hwn
     replace hd1 := hid hd1
     replace hd2 := hid hd2
     replace hw := hid hw
     replace hj := hid hj
     go_enter Tryz.func50, Tryz.ntmps50
     go_wp2_with fail
     (with_reducible refine (h0.out _).mono ?_)
     rintro e w1 ⟨rfl, hB1⟩
     go_wp2_with fail
     (with_reducible refine (h1.out _).mono ?_)
     rintro e w2 ⟨rfl, hB2⟩
     have hB02 := below_step hB1 hB2
     have h2' := h2.out w2 (hR.out.below hB02)
     replace hB02 := hid hB02
     replace h2' := hid h2'
     clear hB1 hB2
     go_wp2_with fail
     (with_reducible refine (h2'.out).mono ?_)
     rintro e w3 ⟨rfl, hB3⟩
     have hB03 := below_step hB02.out hB3
     have hR3 := hR.out.below hB03
     clear hB3 h2'
     obtain ⟨_, _, c0, _⟩ := hR3.cells ⟨_, hm.out⟩
     replace hR3 := hid hR3
     have h3' := h3.out w3 hR3.out
     replace h3' := hid h3'
     replace hB03 := hid hB03
     go_wp2_with fail
     (with_reducible refine (h3'.out).mono ?_)
     rintro e w4 ⟨rfl, hB4⟩
     have hB04 := below_step hB03.out hB4
     have c4 := (hB4.cell (cell_lt c0)).trans c0
     clear hB4 h3' c0
     have hR4 := hR.out.below hB04
     obtain ⟨_, _, d0, _⟩ := hR4.cells ⟨_, hj.out⟩
     rw [hjk] at d0
     have hst := RStp.same hR.out hB04
     replace hst := hid hst
     replace hB04 := hid hB04
     replace hR4 := hid hR4
     replace hjk := hid hjk
     go_wp2
     go_ret
     exact ⟨rfl, hst.out⟩
    ·have hjk2 : ((T.nd j).kind == 2) = false := by simpa using hjk
     by_cases hij : j = i
     ·have hl : T.ren3 (bl o) (bl p) i (some j) (T.look (bl p)).2.2 = (T, 0) := by
       unfold Fs.ren3
       rw [if_neg (fun h => hk h.1), hle, if_neg (by simp), if_neg (fun h => hk h.1), if_neg (fun h => hk h.1)]
       exact (if_neg hjk).trans (if_pos hij)
      rw [hl]
      dsimp only
      subst hij
      replace h3 := hid h3
      replace h4 := hid h4
      replace hl := hid hl
      replace hk := hid hk
      replace hle := hid hle
      replace hwn := hid hwn
      replace hd1 := hid hd1
      replace hd2 := hid hd2
      replace hw := hid hw
      replace hj := hid hj
      replace hjk := hid hjk
      go_enter Tryz.func50, Tryz.ntmps50
      go_wp2_with fail
      (with_reducible refine (h0.out _).mono ?_)
      rintro e w1 ⟨rfl, hB1⟩
      go_wp2_with fail
      (with_reducible refine (h1.out _).mono ?_)
      rintro e w2 ⟨rfl, hB2⟩
      have hB02 := below_step hB1 hB2
      have h2' := h2.out w2 (hR.out.below hB02)
      replace hB02 := hid hB02
      replace h2' := hid h2'
      clear hB1 hB2
      go_wp2_with fail
      (with_reducible refine (h2'.out).mono ?_)
      rintro e w3 ⟨rfl, hB3⟩
      have hB03 := below_step hB02.out hB3
      have hR3 := hR.out.below hB03
      clear hB3 h2'
      obtain ⟨_, _, c0, _⟩ := hR3.cells ⟨_, hm.out⟩
      replace hR3 := hid hR3
      have h3' := h3.out w3 hR3.out
      replace h3' := hid h3'
      replace hB03 := hid hB03
      go_wp2_with fail
      (with_reducible refine (h3'.out).mono ?_)
      rintro e w4 ⟨rfl, hB4⟩
      have hB04 := below_step hB03.out hB4
      have c4 := (hB4.cell (cell_lt c0)).trans c0
      clear hB4 h3' c0
      have hR4 := hR.out.below hB04
      obtain ⟨_, _, _, d1, _⟩ := hR4.cells ⟨_, hm.out⟩
      have hst := RStp.same hR.out hB04
      replace hst := hid hst
      replace hB04 := hid hB04
      replace hR4 := hid hR4
      go_wp2_with fail
      go_quiet (fail)
      go_wp2
      go_ret
      exact ⟨rfl, hst.out.then (below_drewN (Below.refl _ _) _)⟩
     ·have hl : T.ren3 (bl o) (bl p) i (some j) (T.look (bl p)).2.2 = ((T.gone (split (bl p)) j).move (split (bl o)) (split (bl p)), 0) := by
       unfold Fs.ren3
       rw [if_neg (fun h => hk h.1), hle, if_neg (by simp), if_neg (fun h => hk h.1), if_neg (fun h => hk h.1)]
       exact (if_neg hjk).trans (if_neg hij)
      rw [hl]
      dsimp only
      have hM := (moves_over hI.out hrp.out ho0.out hp0.out hm.out hd1 hd2 hj hjk hij hk).2
      have h6 := fun W hW => rgone_calls rb v A T p j W hW hp0.out hj (kids_file hI.out hj hjk) hf
      have t2 : (j == i) = false := by simpa using hij
      have t3 : ((j : Int) == (i : Int)) = false := by
       rw [beq_eq_false_iff_ne]
       omega
      have hkg : ((T.gone (split (bl p)) j).nd i).kind ≠ 2 := by rw [gone_kind]; exact hk
      unfold ptr at h6
      replace h3 := hid h3
      replace h4 := hid h4
      replace hl := hid hl
      replace hk := hid hk
      replace hle := hid hle
      replace hwn := hid hwn
      replace hd1 := hid hd1
      replace hd2 := hid hd2
      replace hw := hid hw
      replace hj := hid hj
      replace hjk := hid hjk
      replace hij := hid hij
      replace hM := hid hM
      replace h6 := hid h6
      replace hkg := hid hkg
      go_enter Tryz.func50, Tryz.ntmps50
      go_wp2_with fail
      (with_reducible refine (h0.out _).mono ?_)
      rintro e w1 ⟨rfl, hB1⟩
      go_wp2_with fail
      (with_reducible refine (h1.out _).mono ?_)
      rintro e w2 ⟨rfl, hB2⟩
      have hB02 := below_step hB1 hB2
      have h2' := h2.out w2 (hR.out.below hB02)
      replace hB02 := hid hB02
      replace h2' := hid h2'
      clear hB1 hB2
      go_wp2_with fail
      (with_reducible refine (h2'.out).mono ?_)
      rintro e w3 ⟨rfl, hB3⟩
      have hB03 := below_step hB02.out hB3
      have hR3 := hR.out.below hB03
      clear hB3 h2'
      obtain ⟨_, _, c0, _⟩ := hR3.cells ⟨_, hm.out⟩
      replace hR3 := hid hR3
      have h3' := h3.out w3 hR3.out
      replace h3' := hid h3'
      replace hB03 := hid hB03
      go_wp2_with fail
      (with_reducible refine (h3'.out).mono ?_)
      rintro e w4 ⟨rfl, hB4⟩
      have hB04 := below_step hB03.out hB4
      have c4 := (hB4.cell (cell_lt c0)).trans c0
      clear hB4 h3' c0
      have hR4 := hR.out.below hB04
      obtain ⟨_, _, d1, d2, _⟩ := hR4.cells ⟨_, hj.out⟩
      obtain ⟨_, _, _, d3, _⟩ := hR4.cells ⟨_, hm.out⟩
      replace hB04 := hid hB04
      replace hR4 := hid hR4
      go_wp2_with fail
      go_quiet (fail)
      go_wp2_with fail
      (with_reducible refine (h6.out _ (hR4.out.drewN _)).mono ?_)
      rintro e w6 ⟨rfl, hs6⟩
      obtain ⟨v1, A1, hR6, ht6, ho6⟩ := hs6.after (below_drewN hB04.out _)
      replace hR6 := hid hR6
      replace ht6 := hid ht6
      replace ho6 := hid ho6
      replace hs6 := hid hs6
      clear c4 d1 d2 d3
      obtain ⟨k, hat1, hat2⟩ := at_here hR6.out.inv (hM.out).hold
      obtain ⟨g, c, hv, hc1, hc2, hpos, t0, hcs⟩ := hR6.out.at_
      subst hv
      unfold maxLen at hc2
      have ck := (hcs _ _ hat2).1
      have fz := hR6.out.row.frozenAt (k * 2)
      have hkl : k < ((T.gone (split (bl p)) j)).names.length := (List.getElem?_eq_some_iff.1 hat2).1
      have hki : (k : Int) < (((T.gone (split (bl p)) j)).names.length : Int) := by omega
      have hcall := rat_calls rb _ A1 (T.gone (split (bl p)) j) o (w6).drew (hR6.out.below (below_drewN (Below.refl _ _) 1))
      rw [hat1] at hcall
      have hst := rmove_file (W := (w6).drew) (p := bl p) (hR6.out.below (below_drewN (Below.refl _ _) 1)) hM.out hat2 (hkg.out)
      rw [mkS_bl] at hst
      unfold ptr at hcall
      replace hcall := hid hcall
      replace hst := hid hst
      replace hat1 := hid hat1
      replace hat2 := hid hat2
      replace hcs := hid hcs
      go_wp2_with fail
      refine wp_region_still_tail 8 (by kernel_rfl) (by kernel_rfl) ?_
      simp only [List.take_succ_cons, List.take_zero, List.drop_succ_cons, List.drop_zero]
      iterate 6 still_step
      still_call (hcall.out.mono fun e w' hh => ⟨hh.1, hh.2.symm⟩)
      still_step
      refine wpStill_nil ?_
      change wpList _ _ _ _ _ (w6).drew
      go_wp2
      go_ret
      exact ⟨rfl, RStp.trans ht6.out ho6.out (hst.out.after (below_drewN (Below.refl _ _) 1))⟩
  ·have hl : T.ren3 (bl o) (bl p) i (T.look (bl p)).1 (T.look (bl p)).2.2 = (T, (T.look (bl p)).2.2) := by
    unfold Fs.ren3
    rw [if_neg (fun h => hk h.1), if_pos hle]
   rw [hl]
   dsimp only
   have he2 : ((T.look (bl p)).2.2 == 0) = false := by simpa using hle
   have he3 : ((T.look (bl p)).2.2 != 0) = true := by simpa using hle
   clear hlo hlt
   generalize (T.look (bl p)).2.2 = e at *
   generalize (T.look (bl p)).1 = n at *
   have hpn : ∃ a, optPtr A n = .pointer a := by cases n <;> exact ⟨_, rfl⟩
   obtain ⟨a, hpn⟩ := hpn
   simp only [hpn] at h3
   replace h3 := hid h3
   replace h4 := hid h4
   replace hl := hid hl
   replace hk := hid hk
   replace hle := hid hle
   replace hpn := hid hpn
   go_enter Tryz.func50, Tryz.ntmps50
   go_wp2_with fail
   (with_reducible refine (h0.out _).mono ?_)
   rintro e w1 ⟨rfl, hB1⟩
   go_wp2_with fail
   (with_reducible refine (h1.out _).mono ?_)
   rintro e w2 ⟨rfl, hB2⟩
   have hB02 := below_step hB1 hB2
   have h2' := h2.out w2 (hR.out.below hB02)
   replace hB02 := hid hB02
   replace h2' := hid h2'
   clear hB1 hB2
   go_wp2_with fail
   (with_reducible refine (h2'.out).mono ?_)
   rintro e w3 ⟨rfl, hB3⟩
   have hB03 := below_step hB02.out hB3
   have hR3 := hR.out.below hB03
   clear hB3 h2'
   obtain ⟨_, _, c0, _⟩ := hR3.cells ⟨_, hm.out⟩
   replace hR3 := hid hR3
   have h3' := h3.out w3 hR3.out
   replace h3' := hid h3'
   replace hB03 := hid hB03
   go_wp2_with fail
   (with_reducible refine (h3'.out).mono ?_)
   rintro e w4 ⟨rfl, hB4⟩
   have hB04 := below_step hB03.out hB4
   have c4 := (hB4.cell (cell_lt c0)).trans c0
   clear hB4 h3' c0
   have hst := RStp.same hR.out hB04
   replace hst := hid hst
   replace hB04 := hid hB04
   go_wp2
   go_ret
   exact ⟨rfl, hst.out⟩
end
end Go.Proofs.YtcjlfkklpghjbaaGreat

namespace Go.Proofs.YtcjlfkklpghjbaaGreat
open Go.RowKit
set_option maxHeartbeats 2000000 in
set_option maxRecDepth 100000 in
theorem rdo_calls (rb : Nat) (rv : Value) (A : Nat → Nat) (T : Fs) (a : Act17) (v : Value) (w : World) (hR : RRep w rb rv A T) (hp : a.path.length ≤ 1000000) (ht : a.arg.length ≤ 1000000) (hv : RdB w v a.data) (hd : a.data.length ≤ 1000000) (hnx : T.next < 4611686018427387904) (hf : T.names.length ≤ 1000000) :
  Calls Tryz.prog 17 #[ptr rb, actV a v] w fun e w' => e = .returned (.int .i64 (T.act a).2) ∧ RStp w w' rb rv A T (T.act a).1 := by
 obtain ⟨d, p, t, b, m⟩ := a
 obtain ⟨m1, m2, m3, m4, m5⟩ := m
 dsimp only at hp ht hv hd
 have hps := mkS_size p
 have hts := mkS_size t
 obtain ⟨dA, dc, rfl, hl1, hl2⟩ : ∃ A c, v = .slice A b.length c ∧ b.length ≤ c ∧ c ≤ maxLen := by
  obtain ⟨A', c, h1, h2, h3, _⟩ := hv
  exact ⟨A', c, h1, h2, h3⟩
 have hB0 : Below w.heap.size w (w.alloc (.cells #[.int .i64 d, .string (mkS p), .string (mkS t), .slice dA b.length dc, .int .i64 m1, .int .i64 m2, .int .i64 m3, .int .i64 m4, .int .i64 m5] 43)) := (Below.refl _ _).alloc (Nat.le_refl _) _
 have hR0 := hR.below hB0
 have hv0 := hv.below hB0
 have q0 := rmkdir_calls rb rv A T (mkS p) ⟨m1, m2, m3, m4, m5⟩ _ hR0 (by omega) hnx hf
 have q1 := rwrite_calls rb rv A T (mkS p) _ b ⟨m1, m2, m3, m4, m5⟩ _ hR0 (by omega) hv0 (by omega) hnx hf
 have q2 := rsymlink_calls rb rv A T (mkS p) (mkS t) ⟨m1, m2, m3, m4, m5⟩ _ hR0 (by omega) hnx hf
 have q3 := rlink_calls rb rv A T (mkS p) (mkS t) _ hR0 (by omega) (by omega) hf
 have q4 := rremove_calls rb rv A T (mkS p) _ hR0 (by omega) hf
 have q5 := rrename_calls rb rv A T (mkS p) (mkS t) _ hR0 (by omega) (by omega) hf
 have q6 := rset_calls rb rv A T (mkS p) ⟨m1, m2, m3, m4, m5⟩ _ hR0 (by omega)
 have q7 := rappend_calls rb rv A T (mkS p) _ b _ hR0 (by omega) hv0 (by omega)
 simp only [bl_mkS] at q0 q1 q2 q3 q4 q5 q6 q7
 unfold mtV mtCells ptr at *
 unfold actV actCells Fs.act
 dsimp only at *
 replace q0 := hid q0
 replace q1 := hid q1
 replace q2 := hid q2
 replace q3 := hid q3
 replace q4 := hid q4
 replace q5 := hid q5
 replace q6 := hid q6
 replace q7 := hid q7
 replace hR0 := hid hR0
 replace hR := hid hR
 replace hv0 := hid hv0
 replace hv := hid hv
 replace hB0 := hid hB0
 by_cases e0 : d = 0
 ·subst e0
  rw [if_pos rfl]
  go_enter Tryz.func17, Tryz.ntmps17
  go_wp2_with fail
  refine q0.out.mono ?_
  rintro e w1 ⟨rfl, hst⟩
  replace hst := hid hst
  go_wp2
  go_ret
  exact ⟨rfl, hst.out.after hB0.out⟩
 by_cases e1 : d = 1
 ·subst e1
  rw [if_neg (by decide)]; rw [if_pos rfl]
  go_enter Tryz.func17, Tryz.ntmps17
  go_wp2_with fail
  refine q1.out.mono ?_
  rintro e w1 ⟨rfl, hst⟩
  replace hst := hid hst
  go_wp2
  go_ret
  exact ⟨rfl, hst.out.after hB0.out⟩
 by_cases e2 : d = 2
 ·subst e2
  rw [if_neg (by decide)]; rw [if_neg (by decide)]; rw [if_pos rfl]
  go_enter Tryz.func17, Tryz.ntmps17
  go_wp2_with fail
  refine q2.out.mono ?_
  rintro e w1 ⟨rfl, hst⟩
  replace hst := hid hst
  go_wp2
  go_ret
  exact ⟨rfl, hst.out.after hB0.out⟩
 by_cases e3 : d = 3
 ·subst e3
  rw [if_neg (by decide)]; rw [if_neg (by decide)]; rw [if_neg (by decide)]; rw [if_pos rfl]
  go_enter Tryz.func17, Tryz.ntmps17
  go_wp2_with fail
  refine q3.out.mono ?_
  rintro e w1 ⟨rfl, hst⟩
  replace hst := hid hst
  go_wp2
  go_ret
  exact ⟨rfl, hst.out.after hB0.out⟩
 by_cases e4 : d = 4
 ·subst e4
  rw [if_neg (by decide)]; rw [if_neg (by decide)]; rw [if_neg (by decide)]; rw [if_neg (by decide)]; rw [if_pos rfl]
  go_enter Tryz.func17, Tryz.ntmps17
  go_wp2_with fail
  refine q4.out.mono ?_
  rintro e w1 ⟨rfl, hst⟩
  replace hst := hid hst
  go_wp2
  go_ret
  exact ⟨rfl, hst.out.after hB0.out⟩
 by_cases e5 : d = 5
 ·subst e5
  rw [if_neg (by decide)]; rw [if_neg (by decide)]; rw [if_neg (by decide)]; rw [if_neg (by decide)]; rw [if_neg (by decide)]; rw [if_pos rfl]
  go_enter Tryz.func17, Tryz.ntmps17
  go_wp2_with fail
  refine q5.out.mono ?_
  rintro e w1 ⟨rfl, hst⟩
  replace hst := hid hst
  go_wp2
  go_ret
  exact ⟨rfl, hst.out.after hB0.out⟩
 by_cases e6 : d = 6
 ·subst e6
  rw [if_neg (by decide)]; rw [if_neg (by decide)]; rw [if_neg (by decide)]; rw [if_neg (by decide)]; rw [if_neg (by decide)]; rw [if_neg (by decide)]; rw [if_pos rfl]
  go_enter Tryz.func17, Tryz.ntmps17
  go_wp2_with fail
  refine q6.out.mono ?_
  rintro e w1 ⟨rfl, hst⟩
  replace hst := hid hst
  go_wp2
  go_ret
  exact ⟨rfl, hst.out.after hB0.out⟩
 by_cases e7 : d = 7
 ·subst e7
  rw [if_neg (by decide)]; rw [if_neg (by decide)]; rw [if_neg (by decide)]; rw [if_neg (by decide)]; rw [if_neg (by decide)]; rw [if_neg (by decide)]; rw [if_neg (by decide)]; rw [if_pos rfl]
  go_enter Tryz.func17, Tryz.ntmps17
  go_wp2_with fail
  refine q7.out.mono ?_
  rintro e w1 ⟨rfl, hst⟩
  replace hst := hid hst
  go_wp2
  go_ret
  exact ⟨rfl, hst.out.after hB0.out⟩
 have f0 : (d == 0) = false := by simpa using e0
 have f1 : (d == 1) = false := by simpa using e1
 have f2 : (d == 2) = false := by simpa using e2
 have f3 : (d == 3) = false := by simpa using e3
 have f4 : (d == 4) = false := by simpa using e4
 have f5 : (d == 5) = false := by simpa using e5
 have f6 : (d == 6) = false := by simpa using e6
 have f7 : (d == 7) = false := by simpa using e7
 rw [if_neg e0, if_neg e1, if_neg e2, if_neg e3, if_neg e4, if_neg e5, if_neg e6, if_neg e7]
 clear e0 e1 e2 e3 e4 e5 e6 e7 q0 q1 q2 q3 q4 q5 q6 q7
 go_enter Tryz.func17, Tryz.ntmps17
 go_wp2
 go_ret
 exact ⟨rfl, RStp.same hR.out hB0.out⟩
end Go.Proofs.YtcjlfkklpghjbaaGreat

namespace Go.Proofs.YtcjlfkklpghjbaaGreat
open Go.RowKit
/-- A call that has made the reference's tree T. -/
def RNewTree (w : World) (T : Fs) (e : Ending) (w' : World) : Prop :=
  ∃ (rb : Nat) (v : Value) (A : Nat → Nat), e = .returned (ptr rb) ∧ RRep w' rb v A T ∧ (∀ b, ROwn rb v A T b → w.heap.size ≤ b) ∧ Below w.heap.size w w'
theorem start_live {i : Nat} (h : Fs.start.Live i) : i = 1 := by
 obtain ⟨q, hq⟩ := h
 have : (q, i) ∈ [(([] : Pt), 1)] := hq
 simp only [List.mem_singleton, Prod.mk.injEq] at this
 exact this.2
theorem rnew_rep (w : World) : RRep (((w.alloc (.cells #[.int .i64 2, .int .i64 1, .slice none 0 0, .string ⟨#[]⟩, .int .i64 493, .int .i64 0, .int .i64 0, .int .i64 0, .int .i64 0] 96)).alloc (.cells #[.string ⟨#[]⟩, .pointer (some ⟨w.heap.size, 0, none⟩)] 98)).alloc (.cells #[.slice (some ⟨w.heap.size + 1, 0, none⟩) 1 1, .int .i64 2] 60)) (w.heap.size + 1 + 1) (.slice (some ⟨w.heap.size + 1, 0, none⟩) 1 1) (fun _ => w.heap.size) Fs.start := by
 have s1 : (w.alloc (.cells #[.int .i64 2, .int .i64 1, .slice none 0 0, .string ⟨#[]⟩, .int .i64 493, .int .i64 0, .int .i64 0, .int .i64 0, .int .i64 0] 96)).heap.size = w.heap.size + 1 := by simp
 have s2 : ((w.alloc (.cells #[.int .i64 2, .int .i64 1, .slice none 0 0, .string ⟨#[]⟩, .int .i64 493, .int .i64 0, .int .i64 0, .int .i64 0, .int .i64 0] 96)).alloc (.cells #[.string ⟨#[]⟩, .pointer (some ⟨w.heap.size, 0, none⟩)] 98)).heap.size = w.heap.size + 1 + 1 := by simp
 have a0 := (MapKept.heap_alloc w (.cells #[.int .i64 2, .int .i64 1, .slice none 0 0, .string ⟨#[]⟩, .int .i64 493, .int .i64 0, .int .i64 0, .int .i64 0, .int .i64 0] 96)).1
 have a1 := (MapKept.heap_alloc (w.alloc (.cells #[.int .i64 2, .int .i64 1, .slice none 0 0, .string ⟨#[]⟩, .int .i64 493, .int .i64 0, .int .i64 0, .int .i64 0, .int .i64 0] 96)) (.cells #[.string ⟨#[]⟩, .pointer (some ⟨w.heap.size, 0, none⟩)] 98)).1
 have a2 := (MapKept.heap_alloc ((w.alloc (.cells #[.int .i64 2, .int .i64 1, .slice none 0 0, .string ⟨#[]⟩, .int .i64 493, .int .i64 0, .int .i64 0, .int .i64 0, .int .i64 0] 96)).alloc (.cells #[.string ⟨#[]⟩, .pointer (some ⟨w.heap.size, 0, none⟩)] 98)) (.cells #[.slice (some ⟨w.heap.size + 1, 0, none⟩) 1 1, .int .i64 2] 60)).1
 have hB2 : Below ((w.alloc (.cells #[.int .i64 2, .int .i64 1, .slice none 0 0, .string ⟨#[]⟩, .int .i64 493, .int .i64 0, .int .i64 0, .int .i64 0, .int .i64 0] 96)).alloc (.cells #[.string ⟨#[]⟩, .pointer (some ⟨w.heap.size, 0, none⟩)] 98)).heap.size ((w.alloc (.cells #[.int .i64 2, .int .i64 1, .slice none 0 0, .string ⟨#[]⟩, .int .i64 493, .int .i64 0, .int .i64 0, .int .i64 0, .int .i64 0] 96)).alloc (.cells #[.string ⟨#[]⟩, .pointer (some ⟨w.heap.size, 0, none⟩)] 98)) (((w.alloc (.cells #[.int .i64 2, .int .i64 1, .slice none 0 0, .string ⟨#[]⟩, .int .i64 493, .int .i64 0, .int .i64 0, .int .i64 0, .int .i64 0] 96)).alloc (.cells #[.string ⟨#[]⟩, .pointer (some ⟨w.heap.size, 0, none⟩)] 98)).alloc (.cells #[.slice (some ⟨w.heap.size + 1, 0, none⟩) 1 1, .int .i64 2] 60)) := below_alloc (Below.refl _ _) _
 have hB1 : Below (w.alloc (.cells #[.int .i64 2, .int .i64 1, .slice none 0 0, .string ⟨#[]⟩, .int .i64 493, .int .i64 0, .int .i64 0, .int .i64 0, .int .i64 0] 96)).heap.size (w.alloc (.cells #[.int .i64 2, .int .i64 1, .slice none 0 0, .string ⟨#[]⟩, .int .i64 493, .int .i64 0, .int .i64 0, .int .i64 0, .int .i64 0] 96)) ((w.alloc (.cells #[.int .i64 2, .int .i64 1, .slice none 0 0, .string ⟨#[]⟩, .int .i64 493, .int .i64 0, .int .i64 0, .int .i64 0, .int .i64 0] 96)).alloc (.cells #[.string ⟨#[]⟩, .pointer (some ⟨w.heap.size, 0, none⟩)] 98)) := below_alloc (Below.refl _ _) _
 have b1 := (hB2.block _ (by omega)).trans a1
 have b0 := (hB2.block _ (by omega)).trans ((hB1.block _ (by omega)).trans a0)
 rw [s1] at b1
 rw [s2] at a2
 generalize (((w.alloc (.cells #[.int .i64 2, .int .i64 1, .slice none 0 0, .string ⟨#[]⟩, .int .i64 493, .int .i64 0, .int .i64 0, .int .i64 0, .int .i64 0] 96)).alloc (.cells #[.string ⟨#[]⟩, .pointer (some ⟨w.heap.size, 0, none⟩)] 98)).alloc (.cells #[.slice (some ⟨w.heap.size + 1, 0, none⟩) 1 1, .int .i64 2] 60)) = W at *
 refine ⟨start_inv, a2, ⟨rfl, Or.inr ⟨w.heap.size + 1, 1, _, rfl, Nat.zero_le _, b1, Nat.le_refl _, by simp [maxLen], rfl, rfl⟩⟩, fun i hi => ⟨.slice none 0 0, ?_, ?_⟩, fun i j hi hj _ => by rw [start_live hi, start_live hj]⟩
 ·exact dat_nil W
 ·rw [start_live hi]
  exact b0
set_option maxHeartbeats 2000000 in
set_option maxRecDepth 100000 in
theorem rnew_calls (w : World) : Calls Tryz.prog 16 #[] w (RNewTree w Fs.start) := by
 go_enter Tryz.func16, Tryz.ntmps16
 go_wp2
 go_ret
 refine ⟨w.heap.size + 1 + 1, _, _, rfl, rnew_rep w, fun b hb => ?_, below_alloc (below_alloc (below_alloc (Below.refl _ _) _) _) _⟩
 rcases hb with rfl | h | ⟨_, _, rfl⟩
 ·omega
 ·cases h
  exact Nat.le_succ _
 ·exact Nat.le_refl _
set_option maxHeartbeats 2000000 in
set_option maxRecDepth 100000 in
theorem rbuild_calls (v : Value) (l : List Act17) (w : World) (hv : Acts w v l) (hs : small l = true) :
  Calls Tryz.prog 7 #[v] w (RNewTree w (Fs.build l)) := by
 obtain ⟨hl40, hsm⟩ := small_at hs
 have hv0 := hv
 obtain ⟨A, c, rfl, h2, h3, h4⟩ := hv
 unfold maxLen at h3
 have hnew := rnew_calls w
 replace h4 := hid h4
 replace hsm := hid hsm
 replace hnew := hid hnew
 replace hv0 := hid hv0
 clear hs
 go_enter Tryz.func7, Tryz.ntmps7
 go_wp2_with fail
 refine hnew.out.mono ?_
 rintro e w0 ⟨tc, C, MC, rfl, hR0, hO0, hB0⟩
 replace hR0 := hid hR0
 replace hO0 := hid hO0
 replace hB0 := hid hB0
 go_wp2_with fail
 go_loopw [4] (fun i wr => ∃ (k : Nat) (C1 : Value) (MC1 : Nat → Nat), i = .int .i64 k ∧ k ≤ l.length ∧ RRep wr tc C1 MC1 (Fs.build (l.take k)) ∧ (∀ b, ROwn tc C1 MC1 (Fs.build (l.take k)) b → w.heap.size ≤ b) ∧ Below w.heap.size w wr) (fun i _ => l.length - (intOf i).toNat)
 case atStart => exact ⟨0, C, MC, rfl, Nat.zero_le _, hR0.out, hO0.out, hB0.out⟩
 case round =>
  clear hR0 hO0 hB0
  obtain ⟨k, C1, MC1, rfl, hk, hR, hO, hB⟩ := hrel
  by_cases hlt : k < l.length
  ·obtain ⟨g, o, dv, rfl, hdv, hc⟩ := h4.out k hlt
   obtain ⟨h5, h6, h7⟩ := hsm.out _ (List.getElem_mem hlt)
   have hgr := acts_grow Fs.start (l.take k)
   have hnm : (Fs.build (l.take k)).names.length ≤ 1000000 := by
    have h8 : (l.take k).length ≤ k := List.length_take_le _ _
    have : (Fs.build (l.take k)).names.length ≤ Fs.start.names.length + (l.take k).length := hgr.1
    have h9 : Fs.start.names.length = 1 := rfl
    omega
   have hnx : (Fs.build (l.take k)).next < 4611686018427387904 := by
    have h8 : (l.take k).length ≤ k := List.length_take_le _ _
    have : (Fs.build (l.take k)).next ≤ Fs.start.next + (l.take k).length := hgr.2
    have h9 : Fs.start.next = 2 := rfl
    omega
   have hdv' := hdv.below hB
   have hglt : g < w.heap.size := cell_lt (a := ⟨g, o + k * 9 + 0, none⟩) (hc 0 (by decide))
   have hc' : ∀ j, j < 9 → wr.cell? ⟨g, o + k * 9 + j, none⟩ = (actCells l[k] dv)[j]? := fun j hj => by
    rw [← hc j hj]
    simp only [World.cell?, hB.block g hglt]
   have hcall := rdo_calls tc C1 MC1 (Fs.build (l.take k)) l[k] dv wr hR (by omega) (by omega) hdv' (by omega) hnx hnm
   have hbs : ((Fs.build (l.take k)).act l[k]).1 = Fs.build (l.take (k + 1)) := by
    rw [List.take_succ_eq_append_getElem hlt]
    exact (acts_snoc _ _ _).symm
   rw [hbs] at hcall
   have d0 : wr.cell? ⟨g, o + k * 9, none⟩ = some (.int .i64 (l[k]).d) := hc' 0 (by decide)
   have d1 : wr.cell? ⟨g, o + k * 9 + 1, none⟩ = some (.string (mkS (l[k]).path)) := hc' 1 (by decide)
   have d2 : wr.cell? ⟨g, o + k * 9 + 2, none⟩ = some (.string (mkS (l[k]).arg)) := hc' 2 (by decide)
   have d3 : wr.cell? ⟨g, o + k * 9 + 3, none⟩ = some dv := hc' 3 (by decide)
   have d4 : wr.cell? ⟨g, o + k * 9 + 4, none⟩ = some (.int .i64 (l[k]).mt.mode) := hc' 4 (by decide)
   have d5 : wr.cell? ⟨g, o + k * 9 + 5, none⟩ = some (.int .i64 (l[k]).mt.sec) := hc' 5 (by decide)
   have d6 : wr.cell? ⟨g, o + k * 9 + 6, none⟩ = some (.int .i64 (l[k]).mt.nano) := hc' 6 (by decide)
   have d7 : wr.cell? ⟨g, o + k * 9 + 7, none⟩ = some (.int .i64 (l[k]).mt.uid) := hc' 7 (by decide)
   have d8 : wr.cell? ⟨g, o + k * 9 + 8, none⟩ = some (.int .i64 (l[k]).mt.gid) := hc' 8 (by decide)
   have hfin := fun w' (hst : RStp wr w' tc C1 MC1 (Fs.build (l.take k)) (Fs.build (l.take (k + 1)))) => RStp.mine hB hO hst
   unfold actV actCells ptr at hcall
   replace hcall := hid hcall
   replace hfin := hid hfin
   clear hR hO hB hc hc' hdv hdv' hbs hgr hnm hnx
   go_wp2_with fail
   refine hcall.out.mono ?_
   rintro e w1 ⟨rfl, hst⟩
   obtain ⟨hB1, C2, MC2, hR2, hO2⟩ := hfin.out w1 hst
   replace hB1 := hid hB1
   replace hR2 := hid hR2
   replace hO2 := hid hO2
   clear hst hfin hcall
   go_wp2
   go_roundw
   case rel => exact ⟨k + 1, C2, MC2, by go_num, by omega, hR2.out, hO2.out, hB1.out⟩
   case measure => simp [intOf]; omega
  ·obtain rfl : k = l.length := by omega
   rw [List.take_length] at hR hO
   replace hR := hid hR
   replace hO := hid hO
   replace hB := hid hB
   go_wp2
   go_ret
   exact ⟨tc, C1, MC1, rfl, hR.out, hO.out, hB.out⟩
end Go.Proofs.YtcjlfkklpghjbaaGreat

namespace Go.Proofs.YtcjlfkklpghjbaaGreat
open Go.RowKit
set_option maxHeartbeats 1000000 in
set_option maxRecDepth 100000 in
theorem rcounted_calls (rb : Nat) (v : Value) (A : Nat → Nat) (T : Fs) (w : World) (hR : RRep w rb v A T) (hf : T.names.length ≤ 1000000) :
  Calls Tryz.prog 27 #[ptr rb] w fun e w' => e = .returned (.int .i64 ((T.names.length : Int) - 1)) ∧ w = w' := by
 obtain ⟨g, c, rfl, hc1, hc2, hp, t0, hcs⟩ := hR.at_
 unfold maxLen at hc2
 have hwr : IntKind.i64.wrap ((T.names.length : Int) - 1) = (T.names.length : Int) - 1 := IntWalk.i64_in _ (by omega)
 unfold ptr at *
 replace hR := hid hR
 replace hcs := hid hcs
 go_enter Tryz.func27, Tryz.ntmps27
 go_wp2
 go_ret
 exact ⟨rfl, rfl⟩
set_option maxHeartbeats 2000000 in
set_option maxRecDepth 100000 in
theorem rtexts_calls (a b : Value) (x y : List Bytes) (w : World) (ha : Rd w a x) (hb : Rd w b y) :
  Calls Tryz.prog 23 #[a, b] w fun e w' => e = .returned (.bool (decide (x = y))) ∧ Below w.heap.size w w' := by
 obtain ⟨aA, ac, rfl, ha1, ha2, hca⟩ := ha
 obtain ⟨bA, bc, rfl, hb1, hb2, hcb⟩ := hb
 unfold maxLen at *
 by_cases hl : x.length = y.length
 ·have hl2 : (x.length : Int) = (y.length : Int) := by omega
  have hl3 : ((x.length : Int) == (y.length : Int)) = true := by rw [hl2]; simp
  replace hca := hid hca
  replace hcb := hid hcb
  replace hl := hid hl
  go_enter Tryz.func23, Tryz.ntmps23
  go_wp2
  go_loopw [5] (fun i wr => ∃ k : Nat, i = .int .i64 k ∧ k ≤ x.length ∧ x.take k = y.take k ∧ Below w.heap.size w wr) (fun i _ => x.length - (intOf i).toNat)
  case atStart => exact ⟨0, rfl, Nat.zero_le _, rfl, Below.refl _ _⟩
  case round =>
   obtain ⟨k, rfl, hk, hpre, hB⟩ := hrel
   by_cases hlt : k < x.length
   ·have hlt2 : k < y.length := by rw [← hl.out]; exact hlt
    obtain ⟨g1, o1, e1, c1⟩ := hca.out k _ (List.getElem?_eq_getElem hlt)
    obtain ⟨g2, o2, e2, c2⟩ := hcb.out k _ (List.getElem?_eq_getElem hlt2)
    have hk1 : (k : Int) < (x.length : Int) := by omega
    have hk2 : (k : Int) < (y.length : Int) := by omega
    have htx : x.take (k + 1) = x.take k ++ [x[k]] := List.take_succ_eq_append_getElem hlt
    have hty : y.take (k + 1) = y.take k ++ [y[k]] := List.take_succ_eq_append_getElem hlt2
    have hxy : x = y → x[k] = y[k] := fun e => by subst e; rfl
    generalize x[k] = s at *
    generalize y[k] = t at *
    subst e1 e2
    replace c1 := (hB.cell (cell_lt c1)).trans c1
    replace c2 := (hB.cell (cell_lt c2)).trans c2
    by_cases hst : s = t
    ·subst hst
     have hnx : x.take (k + 1) = y.take (k + 1) := by rw [htx, hty, hpre]
     replace htx := hid htx
     replace hty := hid hty
     replace hxy := hid hxy
     replace hpre := hid hpre
     replace hnx := hid hnx
     replace hB := hid hB
     go_upto_region 6 with fail
     go_quiet (fail)
     go_wp2
     go_roundw
     case rel => exact ⟨k + 1, by go_num, by omega, hnx.out, below_drewN hB.out _⟩
     case measure => simp [intOf]; omega
    ·have t3 : ¬ (mkS s).toList = (mkS t).toList := by rw [toList_bl, toList_bl, bl_mkS, bl_mkS]; exact hst
     have t2 : ((mkS s).toList == (mkS t).toList) = false := by simpa using t3
     have hd : decide (x = y) = false := decide_eq_false fun e => hst (hxy e)
     replace htx := hid htx
     replace hty := hid hty
     replace hxy := hid hxy
     replace hpre := hid hpre
     replace hst := hid hst
     replace hd := hid hd
     replace hB := hid hB
     go_upto_region 6 with fail
     go_quiet (fail)
     go_wp2
     go_ret
     exact ⟨ret_bool hd.out.symm, below_drewN hB.out _⟩
   ·obtain rfl : k = x.length := by omega
    have hd : decide (x = y) = true := by
     rw [List.take_length, hl.out, List.take_length] at hpre
     exact decide_eq_true hpre
    replace hpre := hid hpre
    replace hd := hid hd
    replace hB := hid hB
    go_wp2
    go_ret
    exact ⟨ret_bool hd.out.symm, hB.out⟩
 ·have hne : x ≠ y := fun e => hl (by rw [e])
  have hl3 : ((x.length : Int) == (y.length : Int)) = false := by
   rw [beq_eq_false_iff_ne]
   omega
  have hl4 : ¬ ((x.length : Int) = (y.length : Int)) := by omega
  rw [decide_eq_false hne]
  replace hca := hid hca
  replace hcb := hid hcb
  replace hl := hid hl
  replace hne := hid hne
  go_enter Tryz.func23, Tryz.ntmps23
  go_wp2
  go_ret
  exact ⟨rfl, Below.refl _ _⟩
end Go.Proofs.YtcjlfkklpghjbaaGreat

namespace Go.Proofs.YtcjlfkklpghjbaaGreat
open Go.RowKit
theorem stp_turn {w w' : World} {tb : Nat} {A M : Nat → Nat} {T T' : Fs} (h : Stp w w' tb A M T T') : Turn w w' (Own tb A M T) := by
 obtain ⟨_, _, _, t, _⟩ := h
 exact t
theorem rstp_turn {w w' : World} {rb : Nat} {v : Value} {A : Nat → Nat} {T T' : Fs} (h : RStp w w' rb v A T T') : Turn w w' (ROwn rb v A T) := by
 obtain ⟨_, _, _, t, _⟩ := h
 exact t
theorem below_top_len {T : Fs} (hI : T.Inv) : ((T.below []).length : Int) = (T.names.length : Int) - 1 := by
 obtain ⟨r, hr⟩ := hI.top
 have h1 := paths_rest hI hr
 have h2 := paths_len T
 rw [h1, (sortP_perm _).length_eq, List.length_map] at h2
 rw [hr, List.length_cons]
 omega
theorem count_same (tb : Nat) (A M : Nat → Nat) (T : Fs) (w : World) (hR : Rep w tb A M T) (hf : T.names.length ≤ 1000000) :
  Calls Tryz.prog 26 #[ptr tb] w fun e w' => e = .returned (.int .i64 ((T.names.length : Int) - 1)) ∧ Below w.heap.size w w' := by
 have h := count_calls tb A M T w hR hf
 rw [below_top_len hR.inv] at h
 exact h
end Go.Proofs.YtcjlfkklpghjbaaGreat

namespace Go.Proofs.YtcjlfkklpghjbaaGreat
open Go.RowKit
set_option maxHeartbeats 8000000 in
set_option maxRecDepth 100000 in
theorem reover_calls (gb tb : Nat) (A M B N : Nat → Nat) (G T : Fs) (p : Bytes) (w : World) (hG : Rep w gb A M G) (hT : Rep w tb B N T) (hd : ∀ b, Own gb A M G b → ¬ Own tb B N T b) (hp : p.length ≤ 16777216) (hf : T.names.length ≤ 1000000) (hnx : T.next < 4611686018427387904) :
  Calls Tryz.prog 54 #[ptr gb, ptr tb, .string (mkS p)] w fun e w' => e = .returned (.int .i64 (overF G T p).2) ∧ Stp w w' tb B N T (overF G T p).1 := by
 have h1 := restat_calls gb A M G p w hG hp
 have h2 := fun W hW => restat_calls tb B N T p W hW hp
 have hps : (mkS p).size ≤ 16777216 := by rw [mkS_size]; omega
 have hset := fun m W hW => set_calls tb B N T (mkS p) m W hW hps
 have hmk := fun m W hW => mkdir_calls tb B N T (mkS p) m W hW hps hnx
 have hrm := fun W hW => remove_calls tb B N T (mkS p) W hW hps hf
 have hrd := fun W hW => read_calls gb A M G (mkS p) W hW hps
 have hsl := fun B' N' T' m tg W hW hx => symlink_calls tb B' N' T' (mkS p) (mkS tg) m W hW hps hx
 have hwr := fun B' N' T' v b m W hW hv hb hx => write_calls tb B' N' T' (mkS p) v b m W hW hps hv hb hx
 simp only [bl_mkS] at hset hmk hrm hrd hsl hwr
 have hgl := read_len hG.inv p
 have hrl := (remove_less T p).2
 have hput : ∀ T' s, putF G T' p s = if s.kind = 3 then T'.symlink p s.target s.mt else if (G.read p).2 ≠ 0 then (T', (G.read p).2) else T'.write p (G.read p).1 s.mt := fun _ _ => rfl
 have hov : overF G T p = if (G.standing p).2.2 ≠ 0 ∨ (G.standing p).2.1 = false then (T, (G.standing p).2.2) else if (T.standing p).2.2 ≠ 0 then (T, (T.standing p).2.2) else if (G.standing p).1.kind = 2 then (if (T.standing p).2.1 = true ∧ (T.standing p).1.kind = 2 then T.setM p (G.standing p).1.mt else T.mkdir p (G.standing p).1.mt) else if (T.standing p).2.1 = true then (if (T.remove p).2 ≠ 0 then T.remove p else putF G (T.remove p).1 p (G.standing p).1) else putF G T p (G.standing p).1 := rfl
 generalize overF G T p = ov at *
 generalize T.remove p = r at *
 obtain ⟨T1, er⟩ := r
 generalize T.standing p = y at *
 generalize G.standing p = x at *
 generalize G.read p = rd at *
 obtain ⟨rb, re⟩ := rd
 obtain ⟨⟨k1, i1, z1, l1, ⟨a1, a2, a3, a4, a5⟩, t1⟩, u1, e1⟩ := x
 obtain ⟨⟨k2, i2, z2, l2, ⟨b1, b2, b3, b4, b5⟩, t2⟩, u2, e2⟩ := y
 unfold statV statCells mtV mtCells at *
 dsimp only at *
 unfold ptr at *
 replace h1 := hid h1
 replace h2 := hid h2
 replace hset := hid hset
 replace hmk := hid hmk
 replace hrm := hid hrm
 replace hrd := hid hrd
 replace hsl := hid hsl
 replace hwr := hid hwr
 replace hG := hid hG
 replace hT := hid hT
 replace hd := hid hd
 replace hgl := hid hgl
 replace hrl := hid hrl
 replace hput := hid hput
 replace hnx := hid hnx
 replace hps := hid hps
 replace hov := hid hov
 have hz := hov.out
 go_enter Tryz.func54, Tryz.ntmps54
 go_wp2_with fail
 (with_reducible refine (h1.out).mono ?_)
 rintro e w1 ⟨rfl, hB1⟩
 have hb1 := heap_alloc_new w1 (.cells #[.int .i64 k1, .int .i64 i1, .int .i64 z1, .int .i64 l1, .int .i64 a1, .int .i64 a2, .int .i64 a3, .int .i64 a4, .int .i64 a5, .string (mkS t1)] 84)
 have hB2 := below_alloc hB1 (.cells #[.int .i64 k1, .int .i64 i1, .int .i64 z1, .int .i64 l1, .int .i64 a1, .int .i64 a2, .int .i64 a3, .int .i64 a4, .int .i64 a5, .string (mkS t1)] 84)
 replace hb1 := hid hb1
 replace hB2 := hid hB2
 replace hz := hid hz
 clear hB1
 go_upto_region 2 with fail
 generalize (w1.alloc (.cells #[.int .i64 k1, .int .i64 i1, .int .i64 z1, .int .i64 l1, .int .i64 a1, .int .i64 a2, .int .i64 a3, .int .i64 a4, .int .i64 a5, .string (mkS t1)] 84)) = w2 at *
 generalize w1.heap.size = n1 at *
 replace hz := hz.out
 by_cases he1 : e1 = 0
 rotate_left 1
 ·have t0 : (e1 != 0) = true := by simpa using he1
  rw [if_pos (Or.inl he1)] at hz
  replace he1 := hid he1
  cases u1 with
  | false =>
   have hS := Stp.same hT.out hB2.out
   replace hz := hid hz
   replace hS := hid hS
   go_wp2
   go_ret
   exact ⟨by rw [hz.out]; rfl, by rw [hz.out]; exact hS.out⟩
  | true =>
   have hS := Stp.same hT.out hB2.out
   replace hz := hid hz
   replace hS := hid hS
   go_wp2
   go_ret
   exact ⟨by rw [hz.out]; rfl, by rw [hz.out]; exact hS.out⟩
 subst he1
 cases u1 with
 | false =>
  rw [if_pos (by simp)] at hz
  have hS := Stp.same hT.out hB2.out
  replace hz := hid hz
  replace hS := hid hS
  go_wp2
  go_ret
  exact ⟨by rw [hz.out]; rfl, by rw [hz.out]; exact hS.out⟩
 | true =>
  rw [if_neg (by simp)] at hz
  replace hz := hid hz
  go_wp2_with fail
  (with_reducible refine (h2.out _ (hT.out.below hB2.out)).mono ?_)
  rintro e w3 ⟨rfl, hB3⟩
  have hb1' := (hB3.block _ (Array.getElem?_eq_some_iff.1 hb1.out).1).trans hb1.out
  have hA := below_alloc (Below.refl _ w3) (.cells #[.int .i64 k2, .int .i64 i2, .int .i64 z2, .int .i64 l2, .int .i64 b1, .int .i64 b2, .int .i64 b3, .int .i64 b4, .int .i64 b5, .string (mkS t2)] 84)
  have hb1'' := (hA.block _ (Array.getElem?_eq_some_iff.1 hb1').1).trans hb1'
  have hb2 := heap_alloc_new w3 (.cells #[.int .i64 k2, .int .i64 i2, .int .i64 z2, .int .i64 l2, .int .i64 b1, .int .i64 b2, .int .i64 b3, .int .i64 b4, .int .i64 b5, .string (mkS t2)] 84)
  have hB4 := below_alloc (below_step hB2.out hB3) (.cells #[.int .i64 k2, .int .i64 i2, .int .i64 z2, .int .i64 l2, .int .i64 b1, .int .i64 b2, .int .i64 b3, .int .i64 b4, .int .i64 b5, .string (mkS t2)] 84)
  have x0 := cell_of (j := 0) hb1'' rfl
  have x4 := cell_of (j := 4) hb1'' rfl
  have x5 := cell_of (j := 5) hb1'' rfl
  have x6 := cell_of (j := 6) hb1'' rfl
  have x7 := cell_of (j := 7) hb1'' rfl
  have x8 := cell_of (j := 8) hb1'' rfl
  have x9 := cell_of (j := 9) hb1'' rfl
  have y0 := cell_of (j := 0) hb2 rfl
  replace hb1'' := hid hb1''
  replace hb2 := hid hb2
  replace hB4 := hid hB4
  clear hB3 hb1' hA hb1 hB2
  go_upto_region 5 with fail
  generalize (w3.alloc (.cells #[.int .i64 k2, .int .i64 i2, .int .i64 z2, .int .i64 l2, .int .i64 b1, .int .i64 b2, .int .i64 b3, .int .i64 b4, .int .i64 b5, .string (mkS t2)] 84)) = w4 at *
  generalize w3.heap.size = n3 at *
  replace hz := hz.out
  by_cases he2 : e2 = 0
  rotate_left 1
  ·have t0 : (e2 != 0) = true := by simpa using he2
   rw [if_pos he2] at hz
   replace he2 := hid he2
   have hS := Stp.same hT.out hB4.out
   replace hz := hid hz
   replace hS := hid hS
   go_wp2
   go_ret
   exact ⟨by rw [hz.out]; rfl, by rw [hz.out]; exact hS.out⟩
  subst he2
  rw [if_neg (by simp)] at hz
  by_cases hk2 : k1 = 2
  ·have t2' : (k1 == 2) = true := by simpa using hk2
   rw [if_pos hk2] at hz
   replace hk2 := hid hk2
   cases u2 with
   | false =>
    rw [if_neg (by simp)] at hz
    replace hz := hid hz
    go_wp2_with fail
    (with_reducible refine (hmk.out ⟨a1, a2, a3, a4, a5⟩ _ (hT.out.below hB4.out)).mono ?_)
    rintro e w9 ⟨rfl, hS5⟩
    have hS := Stp.after hB4.out hS5
    replace hS := hid hS
    go_wp2
    go_ret
    exact ⟨by rw [hz.out]; rfl, by rw [hz.out]; exact hS.out⟩
   | true =>
    by_cases hkk : k2 = 2
    ·have t5 : (k2 == 2) = true := by simpa using hkk
     rw [if_pos ⟨rfl, hkk⟩] at hz
     replace hkk := hid hkk
     replace hz := hid hz
     go_wp2_with fail
     (with_reducible refine (hset.out ⟨a1, a2, a3, a4, a5⟩ _ (hT.out.below hB4.out)).mono ?_)
     rintro e w9 ⟨rfl, hS5⟩
     have hS := Stp.after hB4.out hS5
     replace hS := hid hS
     go_wp2
     go_ret
     exact ⟨by rw [hz.out]; rfl, by rw [hz.out]; exact hS.out⟩
    ·have t5 : (k2 == 2) = false := by simpa using hkk
     rw [if_neg (fun h => hkk h.2)] at hz
     replace hkk := hid hkk
     replace hz := hid hz
     go_wp2_with fail
     (with_reducible refine (hmk.out ⟨a1, a2, a3, a4, a5⟩ _ (hT.out.below hB4.out)).mono ?_)
     rintro e w9 ⟨rfl, hS5⟩
     have hS := Stp.after hB4.out hS5
     replace hS := hid hS
     go_wp2
     go_ret
     exact ⟨by rw [hz.out]; rfl, by rw [hz.out]; exact hS.out⟩
  ·have t2' : (k1 == 2) = false := by simpa using hk2
   rw [if_neg hk2] at hz
   replace hk2 := hid hk2
   cases u2 with
   | false =>
    rw [if_neg (by simp)] at hz
    have hbX := hb1''
    rw [hput.out] at hz
    by_cases hk3 : k1 = 3
    ·have t3 : (k1 == 3) = true := by simpa using hk3
     rw [if_pos hk3] at hz
     replace hk3 := hid hk3
     replace hz := hid hz
     go_wp2_with fail
     (with_reducible refine (hsl.out B N T ⟨a1, a2, a3, a4, a5⟩ t1 w4 (hT.out.below hB4.out) hnx.out).mono ?_)
     rintro e w9 ⟨rfl, hS5⟩
     have hS := Stp.after hB4.out hS5
     replace hS := hid hS
     go_wp2
     go_ret
     exact ⟨by rw [hz.out]; rfl, by rw [hz.out]; exact hS.out⟩
    ·have t3 : (k1 == 3) = false := by simpa using hk3
     rw [if_neg hk3] at hz
     replace hk3 := hid hk3
     replace hz := hid hz
     go_wp2_with fail
     (with_reducible refine (hrd.out w4 (hG.out.below hB4.out)).mono ?_)
     rintro e w7 ⟨⟨v7, rfl, hO7⟩, hB7⟩
     have hb7 := ((hB7.block _ (Array.getElem?_eq_some_iff.1 hbX.out).1).trans hbX.out)
     clear x0 x4 x5 x6 x7 x8 x9
     have x0 := cell_of (j := 0) hb7 rfl
     have x4 := cell_of (j := 4) hb7 rfl
     have x5 := cell_of (j := 5) hb7 rfl
     have x6 := cell_of (j := 6) hb7 rfl
     have x7 := cell_of (j := 7) hb7 rfl
     have x8 := cell_of (j := 8) hb7 rfl
     have x9 := cell_of (j := 9) hb7 rfl
     have hR7 := hO7.rdb
     obtain ⟨vA, vc, hve, hv1, hv2⟩ := own_shape hO7
     subst hve
     unfold maxLen at hv2
     have hT7 := ((hT.out.below hB4.out)).below hB7
     replace hz := hz.out
     replace hb7 := hid hb7
     replace hR7 := hid hR7
     replace hB7 := hid hB7
     replace hO7 := hid hO7
     replace hT7 := hid hT7
     by_cases hre : re = 0
     ·subst hre
      rw [if_neg (by simp)] at hz
      replace hz := hid hz
      go_wp2_with fail
      (with_reducible refine (hwr.out B N T (.slice vA rb.length vc) rb ⟨a1, a2, a3, a4, a5⟩ w7 hT7.out hR7.out (by have := hgl.out; omega) hnx.out).mono ?_)
      rintro e w9 ⟨rfl, hS5⟩
      have hS := Stp.after hB4.out (Stp.after hB7.out hS5)
      replace hS := hid hS
      go_wp2
      go_ret
      exact ⟨by rw [hz.out]; rfl, by rw [hz.out]; exact hS.out⟩
     ·have t4 : (re != 0) = true := by simpa using hre
      rw [if_pos hre] at hz
      replace hre := hid hre
      have hS := Stp.after hB4.out (Stp.same (hT.out.below hB4.out) hB7.out)
      replace hz := hid hz
      replace hS := hid hS
      go_wp2
      go_ret
      exact ⟨by rw [hz.out]; rfl, by rw [hz.out]; exact hS.out⟩
   | true =>
    rw [if_pos rfl] at hz
    replace hz := hid hz
    go_wp2_with fail
    (with_reducible refine (hrm.out _ (hT.out.below hB4.out)).mono ?_)
    rintro e w5 ⟨rfl, hS5⟩
    replace hz := hz.out
    by_cases her : er = 0
    ·subst her
     rw [if_neg (by simp)] at hz
     have hT4 := hT.out.below hB4.out
     have hno := hT4.not_own hb1''.out (by decide) (by decide)
     have hbX := ((stp_turn hS5).block _ (Array.getElem?_eq_some_iff.1 hb1''.out).1 hno).trans hb1''.out
     obtain ⟨hG5, B', N', hT5, hd5, ho5⟩ := Stp.two (hG.out.below hB4.out) hT4 hd.out hS5
     have htu := stp_turn hS5
     clear x0 x4 x5 x6 x7 x8 x9 y0
     have x0 := cell_of (j := 0) hbX rfl
     have x4 := cell_of (j := 4) hbX rfl
     have x5 := cell_of (j := 5) hbX rfl
     have x6 := cell_of (j := 6) hbX rfl
     have x7 := cell_of (j := 7) hbX rfl
     have x8 := cell_of (j := 8) hbX rfl
     have x9 := cell_of (j := 9) hbX rfl
     have hnx5 : T1.next < 4611686018427387904 := by rw [hrl.out]; exact hnx.out
     clear hS5
     replace hG5 := hid hG5
     replace hT5 := hid hT5
     replace hd5 := hid hd5
     replace ho5 := hid ho5
     replace htu := hid htu
     replace hbX := hid hbX
     replace hno := hid hno
     replace hT4 := hid hT4
     replace hnx5 := hid hnx5
     rw [hput.out] at hz
     by_cases hk3 : k1 = 3
     ·have t3 : (k1 == 3) = true := by simpa using hk3
      rw [if_pos hk3] at hz
      replace hk3 := hid hk3
      replace hz := hid hz
      go_wp2_with fail
      (with_reducible refine (hsl.out B' N' T1 ⟨a1, a2, a3, a4, a5⟩ t1 w5 hT5.out hnx5.out).mono ?_)
      rintro e w9 ⟨rfl, hS5⟩
      have hS := (fun h => Stp.after hB4.out (Stp.trans htu.out ho5.out h)) hS5
      replace hS := hid hS
      go_wp2
      go_ret
      exact ⟨by rw [hz.out]; rfl, by rw [hz.out]; exact hS.out⟩
     ·have t3 : (k1 == 3) = false := by simpa using hk3
      rw [if_neg hk3] at hz
      replace hk3 := hid hk3
      replace hz := hid hz
      go_wp2_with fail
      (with_reducible refine (hrd.out w5 hG5.out).mono ?_)
      rintro e w7 ⟨⟨v7, rfl, hO7⟩, hB7⟩
      have hb7 := ((hB7.block _ (Array.getElem?_eq_some_iff.1 hbX.out).1).trans hbX.out)
      clear x0 x4 x5 x6 x7 x8 x9
      have x0 := cell_of (j := 0) hb7 rfl
      have x4 := cell_of (j := 4) hb7 rfl
      have x5 := cell_of (j := 5) hb7 rfl
      have x6 := cell_of (j := 6) hb7 rfl
      have x7 := cell_of (j := 7) hb7 rfl
      have x8 := cell_of (j := 8) hb7 rfl
      have x9 := cell_of (j := 9) hb7 rfl
      have hR7 := hO7.rdb
      obtain ⟨vA, vc, hve, hv1, hv2⟩ := own_shape hO7
      subst hve
      unfold maxLen at hv2
      have hT7 := (hT5.out).below hB7
      replace hz := hz.out
      replace hb7 := hid hb7
      replace hR7 := hid hR7
      replace hB7 := hid hB7
      replace hO7 := hid hO7
      replace hT7 := hid hT7
      by_cases hre : re = 0
      ·subst hre
       rw [if_neg (by simp)] at hz
       replace hz := hid hz
       go_wp2_with fail
       (with_reducible refine (hwr.out B' N' T1 (.slice vA rb.length vc) rb ⟨a1, a2, a3, a4, a5⟩ w7 hT7.out hR7.out (by have := hgl.out; omega) hnx5.out).mono ?_)
       rintro e w9 ⟨rfl, hS5⟩
       have hS := (fun h => Stp.after hB4.out (Stp.trans htu.out ho5.out h)) (Stp.after hB7.out hS5)
       replace hS := hid hS
       go_wp2
       go_ret
       exact ⟨by rw [hz.out]; rfl, by rw [hz.out]; exact hS.out⟩
      ·have t4 : (re != 0) = true := by simpa using hre
       rw [if_pos hre] at hz
       replace hre := hid hre
       have hS := (fun h => Stp.after hB4.out (Stp.trans htu.out ho5.out h)) (Stp.same hT5.out hB7.out)
       replace hz := hid hz
       replace hS := hid hS
       go_wp2
       go_ret
       exact ⟨by rw [hz.out]; rfl, by rw [hz.out]; exact hS.out⟩
    ·have t6 : (er != 0) = true := by simpa using her
     rw [if_pos her] at hz
     replace her := hid her
     have hS := Stp.after hB4.out hS5
     replace hz := hid hz
     replace hS := hid hS
     go_wp2
     go_ret
     exact ⟨by rw [hz.out]; rfl, by rw [hz.out]; exact hS.out⟩
end Go.Proofs.YtcjlfkklpghjbaaGreat

namespace Go.Proofs.YtcjlfkklpghjbaaGreat
open Go.RowKit
/-- The trees S lie in blocks tb and ub, apart. -/
structure Pair (w : World) (tb ub : Nat) (A M B N : Nat → Nat) (S : Fs × Fs) : Prop where
  l : Rep w tb A M S.1
  r : Rep w ub B N S.2
  apart : ∀ b, Own tb A M S.1 b → ¬ Own ub B N S.2 b
def Own2 (tb ub : Nat) (A M B N : Nat → Nat) (S : Fs × Fs) (b : Nat) : Prop := Own tb A M S.1 b ∨ Own ub B N S.2 b
/-- A call on both. -/
def Stp2 (w w' : World) (tb ub : Nat) (A M B N : Nat → Nat) (S S' : Fs × Fs) : Prop :=
  ∃ A' M' B' N', Pair w' tb ub A' M' B' N' S' ∧ Turn w w' (Own2 tb ub A M B N S) ∧ ∀ b, Own2 tb ub A' M' B' N' S' b → Own2 tb ub A M B N S b ∨ w.heap.size ≤ b
section
variable {w w1 w' : World} {tb ub : Nat} {A M B N A' M' B' N' : Nat → Nat} {S S1 S2 : Fs × Fs}
theorem Pair.below (h : Pair w tb ub A M B N S) (hb : Below w.heap.size w w') : Pair w' tb ub A M B N S := ⟨h.l.below hb, h.r.below hb, h.apart⟩
theorem Pair.not_own (h : Pair w tb ub A M B N S) {g : Nat} {cs : Array Value} {t : TypeId} {f : Nat × Nat} (hg : w.heap[g]? = some (.cells cs t f)) (h1 : t ≠ 82) (h2 : t ≠ 87) : ¬ Own2 tb ub A M B N S g := by
 rintro (k | k)
 ·exact h.l.not_own hg h1 h2 k
 ·exact h.r.not_own hg h1 h2 k
theorem Stp2.same (h : Pair w tb ub A M B N S) (hb : Below w.heap.size w w') : Stp2 w w' tb ub A M B N S S := ⟨A, M, B, N, h.below hb, Turn.of_below hb _, fun _ h => Or.inl h⟩
theorem Stp2.after (hb : Below w.heap.size w w1) (h : Stp2 w1 w' tb ub A M B N S S2) : Stp2 w w' tb ub A M B N S S2 := by
 obtain ⟨A2, M2, B2, N2, h1, h2, h3⟩ := h
 exact ⟨A2, M2, B2, N2, h1, (Turn.of_below hb _).trans (h2.mono fun i _ hi => Or.inl hi), fun b hb2 => (h3 b hb2).imp id (fun h => Nat.le_trans hb.size h)⟩
theorem Stp2.then (h : Stp2 w w1 tb ub A M B N S S2) (hb : Below w1.heap.size w1 w') : Stp2 w w' tb ub A M B N S S2 := by
 obtain ⟨A2, M2, B2, N2, h1, h2, h3⟩ := h
 exact ⟨A2, M2, B2, N2, h1.below hb, h2.trans (Turn.of_below hb _), h3⟩
theorem Stp2.trans (t1 : Turn w w1 (Own2 tb ub A M B N S)) (o1 : ∀ b, Own2 tb ub A' M' B' N' S1 b → Own2 tb ub A M B N S b ∨ w.heap.size ≤ b) (h : Stp2 w1 w' tb ub A' M' B' N' S1 S2) : Stp2 w w' tb ub A M B N S S2 := by
 obtain ⟨A2, M2, B2, N2, h1, h2, h3⟩ := h
 refine ⟨A2, M2, B2, N2, h1, t1.trans (h2.mono fun i _ hi => o1 i hi), fun b hb => ?_⟩
 rcases h3 b hb with h | h
 ·exact o1 b h
 ·exact Or.inr (Nat.le_trans t1.size h)
theorem Stp2.ofLeft (hP : Pair w tb ub A M B N S) {T' : Fs} (h : Stp w w' tb A M S.1 T') : Stp2 w w' tb ub A M B N S (T', S.2) := by
 obtain ⟨hU, A2, M2, hT2, hd2, ho2⟩ := Stp.two hP.r hP.l (fun b hb ho => hP.apart b ho hb) h
 refine ⟨A2, M2, B, N, ⟨hT2, hU, fun b hb ho => hd2 b ho hb⟩, (stp_turn h).mono fun i _ hi => Or.inl hi, fun b hb => ?_⟩
 rcases hb with hb | hb
 ·exact (ho2 b hb).imp Or.inl id
 ·exact Or.inl (Or.inr hb)
theorem Stp2.ofRight (hP : Pair w tb ub A M B N S) {T' : Fs} (h : Stp w w' ub B N S.2 T') : Stp2 w w' tb ub A M B N S (S.1, T') := by
 obtain ⟨hU, B2, N2, hT2, hd2, ho2⟩ := Stp.two hP.l hP.r (fun b hb ho => hP.apart b hb ho) h
 refine ⟨A, M, B2, N2, ⟨hU, hT2, fun b hb ho => hd2 b hb ho⟩, (stp_turn h).mono fun i _ hi => Or.inr hi, fun b hb => ?_⟩
 rcases hb with hb | hb
 ·exact Or.inl (Or.inl hb)
 ·exact (ho2 b hb).imp Or.inr id
/-- Acts, in a block of acts. -/
def ActsT (w : World) (v : Value) (l : Acts44) : Prop :=
  ∃ A c, v = .slice A l.length c ∧ l.length ≤ c ∧ c ≤ maxLen ∧ ∀ k (hk : k < l.length), ∃ g o cs, A = some ⟨g, o, none⟩ ∧ w.heap[g]? = some (.cells cs 56 (0, 0)) ∧ w.cell? ⟨g, o + k * 2, none⟩ = some (.string (mkS l[k].1)) ∧ w.cell? ⟨g, o + k * 2 + 1, none⟩ = some (.int .i64 l[k].2)
theorem ActsT.kept {v : Value} {l : Acts44} (h : ActsT w v l) (hk : ∀ (g : Nat) (cs : Array Value), w.heap[g]? = some (Obj.cells cs 56 (0, 0)) → w'.heap[g]? = w.heap[g]?) : ActsT w' v l := by
 obtain ⟨A, c, h1, h2, h3, h4⟩ := h
 refine ⟨A, c, h1, h2, h3, fun k hkl => ?_⟩
 obtain ⟨g, o, cs, e, hg, c1, c2⟩ := h4 k hkl
 have hh := hk g cs hg
 exact ⟨g, o, cs, e, hh.trans hg, by rw [← c1]; simp only [World.cell?, hh], by rw [← c2]; simp only [World.cell?, hh]⟩
theorem ActsT.turn {v : Value} {l : Acts44} (h : ActsT w v l) (hP : Pair w tb ub A M B N S) (ht : Turn w w' (Own2 tb ub A M B N S)) : ActsT w' v l :=
 ActsT.kept h fun g cs hg => ht.block g (Array.getElem?_eq_some_iff.1 hg).1 (hP.not_own hg (by decide) (by decide))
theorem ActsT.below {v : Value} {l : Acts44} (h : ActsT w v l) (hb : Below w.heap.size w w') : ActsT w' v l :=
 ActsT.kept h fun g cs hg => hb.block g (Array.getElem?_eq_some_iff.1 hg).1
theorem ActsT.at {Ad : Option Addr} {n c : Nat} {l : Acts44} (h : ActsT w (.slice Ad n c) l) {k : Nat} (hk : k < l.length) : ∃ g o, Ad = some ⟨g, o, none⟩ ∧ w.cell? ⟨g, o + k * 2, none⟩ = some (.string (mkS l[k].1)) ∧ w.cell? ⟨g, o + k * 2 + 1, none⟩ = some (.int .i64 l[k].2) := by
 obtain ⟨A', c', h1, _, _, h4⟩ := h
 cases h1
 obtain ⟨g, o, cs, e, _, c1, c2⟩ := h4 k hk
 exact ⟨g, o, e, c1, c2⟩
end
end Go.Proofs.YtcjlfkklpghjbaaGreat

namespace Go.Proofs.YtcjlfkklpghjbaaGreat
open Go.RowKit
theorem RStp.two {w w' : World} {lb rb : Nat} {v u : Value} {A B : Nat → Nat} {T T' U : Fs} (hU : RRep w rb u B U) (hT : RRep w lb v A T) (hd : ∀ b, ROwn rb u B U b → ¬ ROwn lb v A T b) (hs : RStp w w' lb v A T T') :
  RRep w' rb u B U ∧ ∃ v' A', RRep w' lb v' A' T' ∧ (∀ b, ROwn rb u B U b → ¬ ROwn lb v' A' T' b) ∧ ∀ b, ROwn lb v' A' T' b → ROwn lb v A T b ∨ w.heap.size ≤ b := by
 obtain ⟨v', A', h1, h2, h3⟩ := hs
 refine ⟨hU.kept (fun b hb => h2.block b (hU.lt hb) (hd b hb)) (fun i hi dv hdv _ => hdv.kept fun g hg => hT.bytes_kept h2 hg), v', A', h1, fun b hb hb2 => ?_, h3⟩
 rcases h3 b hb2 with h | h
 ·exact hd b hb h
 ·have := hU.lt hb
  omega
structure RPair (w : World) (lb rb : Nat) (v u : Value) (A B : Nat → Nat) (S : Fs × Fs) : Prop where
  l : RRep w lb v A S.1
  r : RRep w rb u B S.2
  apart : ∀ b, ROwn lb v A S.1 b → ¬ ROwn rb u B S.2 b
def ROwn2 (lb rb : Nat) (v u : Value) (A B : Nat → Nat) (S : Fs × Fs) (b : Nat) : Prop := ROwn lb v A S.1 b ∨ ROwn rb u B S.2 b
def RStp2 (w w' : World) (lb rb : Nat) (v u : Value) (A B : Nat → Nat) (S S' : Fs × Fs) : Prop :=
  ∃ v' u' A' B', RPair w' lb rb v' u' A' B' S' ∧ Turn w w' (ROwn2 lb rb v u A B S) ∧ ∀ b, ROwn2 lb rb v' u' A' B' S' b → ROwn2 lb rb v u A B S b ∨ w.heap.size ≤ b
section
variable {w w1 w' : World} {lb rb : Nat} {v u v' u' : Value} {A B A' B' : Nat → Nat} {S S1 S2 : Fs × Fs}
theorem RPair.below (h : RPair w lb rb v u A B S) (hb : Below w.heap.size w w') : RPair w' lb rb v u A B S := ⟨h.l.below hb, h.r.below hb, h.apart⟩
theorem RStp2.ofLeft (hP : RPair w lb rb v u A B S) {T' : Fs} (h : RStp w w' lb v A S.1 T') : RStp2 w w' lb rb v u A B S (T', S.2) := by
 obtain ⟨hU, v2, A2, hT2, hd2, ho2⟩ := RStp.two hP.r hP.l (fun b hb ho => hP.apart b ho hb) h
 refine ⟨v2, u, A2, B, ⟨hT2, hU, fun b hb ho => hd2 b ho hb⟩, (rstp_turn h).mono fun i _ hi => Or.inl hi, fun b hb => ?_⟩
 rcases hb with hb | hb
 ·exact (ho2 b hb).imp Or.inl id
 ·exact Or.inl (Or.inr hb)
theorem RStp2.ofRight (hP : RPair w lb rb v u A B S) {T' : Fs} (h : RStp w w' rb u B S.2 T') : RStp2 w w' lb rb v u A B S (S.1, T') := by
 obtain ⟨hU, v2, A2, hT2, hd2, ho2⟩ := RStp.two hP.l hP.r (fun b hb ho => hP.apart b hb ho) h
 refine ⟨v, v2, A, A2, ⟨hU, hT2, fun b hb ho => hd2 b hb ho⟩, (rstp_turn h).mono fun i _ hi => Or.inr hi, fun b hb => ?_⟩
 rcases hb with hb | hb
 ·exact Or.inl (Or.inl hb)
 ·exact (ho2 b hb).imp Or.inr id
end
end Go.Proofs.YtcjlfkklpghjbaaGreat

namespace Go.Proofs.YtcjlfkklpghjbaaGreat
open Go.RowKit
set_option linter.unusedSimpArgs false
set_option linter.unusedVariables false
set_option maxHeartbeats 4000000 in
set_option maxRecDepth 100000 in
theorem refaway_calls (gb tb : Nat) (gv tv : Value) (A B : Nat → Nat) (G T : Fs) (p : Bytes) (w : World) (hG : RRep w gb gv A G) (hT : RRep w tb tv B T) (hp : p.length ≤ 16777216) (hf : T.names.length ≤ 1000000) (hfg : G.names.length ≤ 1000000) :
  Calls Tryz.prog 21 #[ptr gb, ptr tb, .string (mkS p)] w fun e w' => e = .returned (.int .i64 (outF G T p).2) ∧ RStp w w' tb tv B T (outF G T p).1 := by
 have h1 := rethere_calls tb tv B T p w hT hp hf
 have h2 := fun W hW => rethere_calls gb gv A G p W hW hp hfg
 have h3 := fun W hW => rremove_calls tb tv B T (mkS p) W hW (by rw [mkS_size]; omega) hf
 simp only [bl_mkS] at h3
 have hee : (T.standing p).2.2 = 0 → (G.standing p).2.2 = 0 := fun h => by rw [standing_e] at h ⊢; exact h
 unfold outF
 generalize T.remove p = r at *
 generalize T.standing p = x at *
 generalize G.standing p = y at *
 obtain ⟨⟨k1, i1, z1, l1, ⟨a1, a2, a3, a4, a5⟩, t1⟩, u1, e1⟩ := x
 obtain ⟨⟨k2, i2, z2, l2, ⟨b1, b2, b3, b4, b5⟩, t2⟩, u2, e2⟩ := y
 unfold statV statCells at *
 dsimp only at *
 unfold ptr at *
 replace h1 := hid h1
 replace h2 := hid h2
 replace h3 := hid h3
 replace hG := hid hG
 replace hT := hid hT
 by_cases he1 : e1 = 0
 ·subst he1
  cases u1 with
  | false =>
   rw [if_pos (by simp)]
   have he2 := hee rfl
   subst he2
   clear hee
   go_enter Tryz.func21, Tryz.ntmps21
   go_wp2_with fail
   (with_reducible refine (h1.out).mono ?_)
   rintro e w1 ⟨rfl, hB1⟩
   have hb1 := heap_alloc_new w1 (.cells #[.int .i64 k1, .int .i64 i1, .int .i64 z1, .int .i64 l1, .int .i64 a1, .int .i64 a2, .int .i64 a3, .int .i64 a4, .int .i64 a5, .string (mkS t1)] 84)
   have hB2 := below_alloc hB1 (.cells #[.int .i64 k1, .int .i64 i1, .int .i64 z1, .int .i64 l1, .int .i64 a1, .int .i64 a2, .int .i64 a3, .int .i64 a4, .int .i64 a5, .string (mkS t1)] 84)
   replace hb1 := hid hb1
   replace hB2 := hid hB2
   clear hB1
   go_upto_region 2 with fail
   generalize (w1.alloc (.cells #[.int .i64 k1, .int .i64 i1, .int .i64 z1, .int .i64 l1, .int .i64 a1, .int .i64 a2, .int .i64 a3, .int .i64 a4, .int .i64 a5, .string (mkS t1)] 84)) = w2 at *
   generalize w1.heap.size = n1 at *
   go_wp2_with fail
   (with_reducible refine (h2.out _ (hG.out.below hB2.out)).mono ?_)
   rintro e w3 ⟨rfl, hB3⟩
   have hb1' := (hB3.block _ (Array.getElem?_eq_some_iff.1 hb1.out).1).trans hb1.out
   have hA := below_alloc (Below.refl _ w3) (.cells #[.int .i64 k2, .int .i64 i2, .int .i64 z2, .int .i64 l2, .int .i64 b1, .int .i64 b2, .int .i64 b3, .int .i64 b4, .int .i64 b5, .string (mkS t2)] 84)
   have hb1'' := (hA.block _ (Array.getElem?_eq_some_iff.1 hb1').1).trans hb1'
   have hb2 := heap_alloc_new w3 (.cells #[.int .i64 k2, .int .i64 i2, .int .i64 z2, .int .i64 l2, .int .i64 b1, .int .i64 b2, .int .i64 b3, .int .i64 b4, .int .i64 b5, .string (mkS t2)] 84)
   have hB4 := below_alloc (below_step hB2.out hB3) (.cells #[.int .i64 k2, .int .i64 i2, .int .i64 z2, .int .i64 l2, .int .i64 b1, .int .i64 b2, .int .i64 b3, .int .i64 b4, .int .i64 b5, .string (mkS t2)] 84)
   have x0 := cell_of (j := 0) hb1'' rfl
   have y0 := cell_of (j := 0) hb2 rfl
   replace hb1'' := hid hb1''
   replace hb2 := hid hb2
   replace hB4 := hid hB4
   clear hB3 hb1' hA hb1 hB2
   go_upto_region 5 with fail
   generalize (w3.alloc (.cells #[.int .i64 k2, .int .i64 i2, .int .i64 z2, .int .i64 l2, .int .i64 b1, .int .i64 b2, .int .i64 b3, .int .i64 b4, .int .i64 b5, .string (mkS t2)] 84)) = w4 at *
   generalize w3.heap.size = n3 at *
   go_wp2
   go_ret
   exact ⟨rfl, RStp.same hT.out hB4.out⟩
  | true =>
   rw [if_neg (by simp)]
   have he2 := hee rfl
   subst he2
   clear hee
   cases u2 with
   | false =>
    rw [if_neg (by simp)]
    go_enter Tryz.func21, Tryz.ntmps21
    go_wp2_with fail
    (with_reducible refine (h1.out).mono ?_)
    rintro e w1 ⟨rfl, hB1⟩
    have hb1 := heap_alloc_new w1 (.cells #[.int .i64 k1, .int .i64 i1, .int .i64 z1, .int .i64 l1, .int .i64 a1, .int .i64 a2, .int .i64 a3, .int .i64 a4, .int .i64 a5, .string (mkS t1)] 84)
    have hB2 := below_alloc hB1 (.cells #[.int .i64 k1, .int .i64 i1, .int .i64 z1, .int .i64 l1, .int .i64 a1, .int .i64 a2, .int .i64 a3, .int .i64 a4, .int .i64 a5, .string (mkS t1)] 84)
    replace hb1 := hid hb1
    replace hB2 := hid hB2
    clear hB1
    go_upto_region 2 with fail
    generalize (w1.alloc (.cells #[.int .i64 k1, .int .i64 i1, .int .i64 z1, .int .i64 l1, .int .i64 a1, .int .i64 a2, .int .i64 a3, .int .i64 a4, .int .i64 a5, .string (mkS t1)] 84)) = w2 at *
    generalize w1.heap.size = n1 at *
    go_wp2_with fail
    (with_reducible refine (h2.out _ (hG.out.below hB2.out)).mono ?_)
    rintro e w3 ⟨rfl, hB3⟩
    have hb1' := (hB3.block _ (Array.getElem?_eq_some_iff.1 hb1.out).1).trans hb1.out
    have hA := below_alloc (Below.refl _ w3) (.cells #[.int .i64 k2, .int .i64 i2, .int .i64 z2, .int .i64 l2, .int .i64 b1, .int .i64 b2, .int .i64 b3, .int .i64 b4, .int .i64 b5, .string (mkS t2)] 84)
    have hb1'' := (hA.block _ (Array.getElem?_eq_some_iff.1 hb1').1).trans hb1'
    have hb2 := heap_alloc_new w3 (.cells #[.int .i64 k2, .int .i64 i2, .int .i64 z2, .int .i64 l2, .int .i64 b1, .int .i64 b2, .int .i64 b3, .int .i64 b4, .int .i64 b5, .string (mkS t2)] 84)
    have hB4 := below_alloc (below_step hB2.out hB3) (.cells #[.int .i64 k2, .int .i64 i2, .int .i64 z2, .int .i64 l2, .int .i64 b1, .int .i64 b2, .int .i64 b3, .int .i64 b4, .int .i64 b5, .string (mkS t2)] 84)
    have x0 := cell_of (j := 0) hb1'' rfl
    have y0 := cell_of (j := 0) hb2 rfl
    replace hb1'' := hid hb1''
    replace hb2 := hid hb2
    replace hB4 := hid hB4
    clear hB3 hb1' hA hb1 hB2
    go_upto_region 5 with fail
    generalize (w3.alloc (.cells #[.int .i64 k2, .int .i64 i2, .int .i64 z2, .int .i64 l2, .int .i64 b1, .int .i64 b2, .int .i64 b3, .int .i64 b4, .int .i64 b5, .string (mkS t2)] 84)) = w4 at *
    generalize w3.heap.size = n3 at *
    go_wp2_with fail
    (with_reducible refine (h3.out _ (hT.out.below hB4.out)).mono ?_)
    rintro e w5 ⟨rfl, hS5⟩
    have hS := RStp.after hB4.out hS5
    replace hS := hid hS
    go_wp2
    go_ret
    exact ⟨rfl, hS.out⟩
   | true =>
    by_cases hk : k1 = k2
    ·have t0 : (k1 == k2) = true := by simpa using hk
     rw [if_pos (Or.inr ⟨rfl, hk⟩)]
     replace hk := hid hk
     go_enter Tryz.func21, Tryz.ntmps21
     go_wp2_with fail
     (with_reducible refine (h1.out).mono ?_)
     rintro e w1 ⟨rfl, hB1⟩
     have hb1 := heap_alloc_new w1 (.cells #[.int .i64 k1, .int .i64 i1, .int .i64 z1, .int .i64 l1, .int .i64 a1, .int .i64 a2, .int .i64 a3, .int .i64 a4, .int .i64 a5, .string (mkS t1)] 84)
     have hB2 := below_alloc hB1 (.cells #[.int .i64 k1, .int .i64 i1, .int .i64 z1, .int .i64 l1, .int .i64 a1, .int .i64 a2, .int .i64 a3, .int .i64 a4, .int .i64 a5, .string (mkS t1)] 84)
     replace hb1 := hid hb1
     replace hB2 := hid hB2
     clear hB1
     go_upto_region 2 with fail
     generalize (w1.alloc (.cells #[.int .i64 k1, .int .i64 i1, .int .i64 z1, .int .i64 l1, .int .i64 a1, .int .i64 a2, .int .i64 a3, .int .i64 a4, .int .i64 a5, .string (mkS t1)] 84)) = w2 at *
     generalize w1.heap.size = n1 at *
     go_wp2_with fail
     (with_reducible refine (h2.out _ (hG.out.below hB2.out)).mono ?_)
     rintro e w3 ⟨rfl, hB3⟩
     have hb1' := (hB3.block _ (Array.getElem?_eq_some_iff.1 hb1.out).1).trans hb1.out
     have hA := below_alloc (Below.refl _ w3) (.cells #[.int .i64 k2, .int .i64 i2, .int .i64 z2, .int .i64 l2, .int .i64 b1, .int .i64 b2, .int .i64 b3, .int .i64 b4, .int .i64 b5, .string (mkS t2)] 84)
     have hb1'' := (hA.block _ (Array.getElem?_eq_some_iff.1 hb1').1).trans hb1'
     have hb2 := heap_alloc_new w3 (.cells #[.int .i64 k2, .int .i64 i2, .int .i64 z2, .int .i64 l2, .int .i64 b1, .int .i64 b2, .int .i64 b3, .int .i64 b4, .int .i64 b5, .string (mkS t2)] 84)
     have hB4 := below_alloc (below_step hB2.out hB3) (.cells #[.int .i64 k2, .int .i64 i2, .int .i64 z2, .int .i64 l2, .int .i64 b1, .int .i64 b2, .int .i64 b3, .int .i64 b4, .int .i64 b5, .string (mkS t2)] 84)
     have x0 := cell_of (j := 0) hb1'' rfl
     have y0 := cell_of (j := 0) hb2 rfl
     replace hb1'' := hid hb1''
     replace hb2 := hid hb2
     replace hB4 := hid hB4
     clear hB3 hb1' hA hb1 hB2
     go_upto_region 5 with fail
     generalize (w3.alloc (.cells #[.int .i64 k2, .int .i64 i2, .int .i64 z2, .int .i64 l2, .int .i64 b1, .int .i64 b2, .int .i64 b3, .int .i64 b4, .int .i64 b5, .string (mkS t2)] 84)) = w4 at *
     generalize w3.heap.size = n3 at *
     go_wp2
     go_ret
     exact ⟨rfl, RStp.same hT.out hB4.out⟩
    ·have t0 : (k1 == k2) = false := by simpa using hk
     rw [if_neg (by simpa using hk)]
     replace hk := hid hk
     go_enter Tryz.func21, Tryz.ntmps21
     go_wp2_with fail
     (with_reducible refine (h1.out).mono ?_)
     rintro e w1 ⟨rfl, hB1⟩
     have hb1 := heap_alloc_new w1 (.cells #[.int .i64 k1, .int .i64 i1, .int .i64 z1, .int .i64 l1, .int .i64 a1, .int .i64 a2, .int .i64 a3, .int .i64 a4, .int .i64 a5, .string (mkS t1)] 84)
     have hB2 := below_alloc hB1 (.cells #[.int .i64 k1, .int .i64 i1, .int .i64 z1, .int .i64 l1, .int .i64 a1, .int .i64 a2, .int .i64 a3, .int .i64 a4, .int .i64 a5, .string (mkS t1)] 84)
     replace hb1 := hid hb1
     replace hB2 := hid hB2
     clear hB1
     go_upto_region 2 with fail
     generalize (w1.alloc (.cells #[.int .i64 k1, .int .i64 i1, .int .i64 z1, .int .i64 l1, .int .i64 a1, .int .i64 a2, .int .i64 a3, .int .i64 a4, .int .i64 a5, .string (mkS t1)] 84)) = w2 at *
     generalize w1.heap.size = n1 at *
     go_wp2_with fail
     (with_reducible refine (h2.out _ (hG.out.below hB2.out)).mono ?_)
     rintro e w3 ⟨rfl, hB3⟩
     have hb1' := (hB3.block _ (Array.getElem?_eq_some_iff.1 hb1.out).1).trans hb1.out
     have hA := below_alloc (Below.refl _ w3) (.cells #[.int .i64 k2, .int .i64 i2, .int .i64 z2, .int .i64 l2, .int .i64 b1, .int .i64 b2, .int .i64 b3, .int .i64 b4, .int .i64 b5, .string (mkS t2)] 84)
     have hb1'' := (hA.block _ (Array.getElem?_eq_some_iff.1 hb1').1).trans hb1'
     have hb2 := heap_alloc_new w3 (.cells #[.int .i64 k2, .int .i64 i2, .int .i64 z2, .int .i64 l2, .int .i64 b1, .int .i64 b2, .int .i64 b3, .int .i64 b4, .int .i64 b5, .string (mkS t2)] 84)
     have hB4 := below_alloc (below_step hB2.out hB3) (.cells #[.int .i64 k2, .int .i64 i2, .int .i64 z2, .int .i64 l2, .int .i64 b1, .int .i64 b2, .int .i64 b3, .int .i64 b4, .int .i64 b5, .string (mkS t2)] 84)
     have x0 := cell_of (j := 0) hb1'' rfl
     have y0 := cell_of (j := 0) hb2 rfl
     replace hb1'' := hid hb1''
     replace hb2 := hid hb2
     replace hB4 := hid hB4
     clear hB3 hb1' hA hb1 hB2
     go_upto_region 5 with fail
     generalize (w3.alloc (.cells #[.int .i64 k2, .int .i64 i2, .int .i64 z2, .int .i64 l2, .int .i64 b1, .int .i64 b2, .int .i64 b3, .int .i64 b4, .int .i64 b5, .string (mkS t2)] 84)) = w4 at *
     generalize w3.heap.size = n3 at *
     go_wp2_with fail
     (with_reducible refine (h3.out _ (hT.out.below hB4.out)).mono ?_)
     rintro e w5 ⟨rfl, hS5⟩
     have hS := RStp.after hB4.out hS5
     replace hS := hid hS
     go_wp2
     go_ret
     exact ⟨rfl, hS.out⟩
 ·clear hee
  have t0 : (e1 != 0) = true := by simpa using he1
  rw [if_pos (Or.inl he1)]
  replace he1 := hid he1
  go_enter Tryz.func21, Tryz.ntmps21
  go_wp2_with fail
  (with_reducible refine (h1.out).mono ?_)
  rintro e w1 ⟨rfl, hB1⟩
  have hb1 := heap_alloc_new w1 (.cells #[.int .i64 k1, .int .i64 i1, .int .i64 z1, .int .i64 l1, .int .i64 a1, .int .i64 a2, .int .i64 a3, .int .i64 a4, .int .i64 a5, .string (mkS t1)] 84)
  have hB2 := below_alloc hB1 (.cells #[.int .i64 k1, .int .i64 i1, .int .i64 z1, .int .i64 l1, .int .i64 a1, .int .i64 a2, .int .i64 a3, .int .i64 a4, .int .i64 a5, .string (mkS t1)] 84)
  replace hb1 := hid hb1
  replace hB2 := hid hB2
  clear hB1
  go_upto_region 2 with fail
  generalize (w1.alloc (.cells #[.int .i64 k1, .int .i64 i1, .int .i64 z1, .int .i64 l1, .int .i64 a1, .int .i64 a2, .int .i64 a3, .int .i64 a4, .int .i64 a5, .string (mkS t1)] 84)) = w2 at *
  generalize w1.heap.size = n1 at *
  go_wp2
  go_ret
  exact ⟨rfl, RStp.same hT.out hB2.out⟩
end Go.Proofs.YtcjlfkklpghjbaaGreat

namespace Go.Proofs.YtcjlfkklpghjbaaGreat
open Go.RowKit
set_option linter.unusedSimpArgs false
set_option linter.unusedVariables false
set_option maxHeartbeats 8000000 in
set_option maxRecDepth 100000 in
theorem refone_calls (gb tb : Nat) (gv tv : Value) (A B : Nat → Nat) (G T : Fs) (p : Bytes) (w : World) (hG : RRep w gb gv A G) (hT : RRep w tb tv B T) (hd : ∀ b, ROwn gb gv A G b → ¬ ROwn tb tv B T b) (hp : p.length ≤ 16777216) (hf : T.names.length ≤ 1000000) (hfg : G.names.length ≤ 1000000) (hnx : T.next < 4611686018427387904) :
  Calls Tryz.prog 22 #[ptr gb, ptr tb, .string (mkS p)] w fun e w' => e = .returned (.int .i64 (overF G T p).2) ∧ RStp w w' tb tv B T (overF G T p).1 := by
 have h1 := rethere_calls gb gv A G p w hG hp hfg
 have h2 := fun W hW => rethere_calls tb tv B T p W hW hp hf
 have hps : (mkS p).size ≤ 16777216 := by rw [mkS_size]; omega
 have hset := fun m W hW => rset_calls tb tv B T (mkS p) m W hW hps
 have hmk := fun m W hW => rmkdir_calls tb tv B T (mkS p) m W hW hps hnx hf
 have hrm := fun W hW => rremove_calls tb tv B T (mkS p) W hW hps hf
 have hrd := fun W hW => rread_calls gb gv A G (mkS p) W hW hps
 have hsl := fun tv' B' (T' : Fs) m tg W hW (hx : T'.next < 4611686018427387904 ∧ T'.names.length ≤ 1000000) => rsymlink_calls tb tv' B' T' (mkS p) (mkS tg) m W hW hps hx.1 hx.2
 have hwr := fun tv' B' (T' : Fs) v b m W hW hv hb (hx : T'.next < 4611686018427387904 ∧ T'.names.length ≤ 1000000) => rwrite_calls tb tv' B' T' (mkS p) v b m W hW hps hv hb hx.1 hx.2
 simp only [bl_mkS] at hset hmk hrm hrd hsl hwr
 have hgl := read_len hG.inv p
 have hrl := (remove_less T p).2
 have hrn := (remove_less T p).1
 have hno2 : (T.standing p).2.1 = false → (T.standing p).1 = noSt := standing_none
 have hput : ∀ T' s, putF G T' p s = if s.kind = 3 then T'.symlink p s.target s.mt else if (G.read p).2 ≠ 0 then (T', (G.read p).2) else T'.write p (G.read p).1 s.mt := fun _ _ => rfl
 have hov : overF G T p = if (G.standing p).2.2 ≠ 0 ∨ (G.standing p).2.1 = false then (T, (G.standing p).2.2) else if (T.standing p).2.2 ≠ 0 then (T, (T.standing p).2.2) else if (G.standing p).1.kind = 2 then (if (T.standing p).2.1 = true ∧ (T.standing p).1.kind = 2 then T.setM p (G.standing p).1.mt else T.mkdir p (G.standing p).1.mt) else if (T.standing p).2.1 = true then (if (T.remove p).2 ≠ 0 then T.remove p else putF G (T.remove p).1 p (G.standing p).1) else putF G T p (G.standing p).1 := rfl
 generalize overF G T p = ov at *
 generalize T.remove p = r at *
 obtain ⟨T1, er⟩ := r
 generalize T.standing p = y at *
 generalize G.standing p = x at *
 generalize G.read p = rd at *
 obtain ⟨rb, re⟩ := rd
 obtain ⟨⟨k1, i1, z1, l1, ⟨a1, a2, a3, a4, a5⟩, t1⟩, u1, e1⟩ := x
 obtain ⟨⟨k2, i2, z2, l2, ⟨b1, b2, b3, b4, b5⟩, t2⟩, u2, e2⟩ := y
 unfold statV statCells mtV mtCells at *
 dsimp only at *
 unfold ptr at *
 replace h1 := hid h1
 replace h2 := hid h2
 replace hset := hid hset
 replace hmk := hid hmk
 replace hrm := hid hrm
 replace hrd := hid hrd
 replace hsl := hid hsl
 replace hwr := hid hwr
 replace hG := hid hG
 replace hT := hid hT
 replace hd := hid hd
 replace hgl := hid hgl
 replace hrl := hid hrl
 replace hput := hid hput
 replace hnx := hid hnx
 replace hps := hid hps
 replace hov := hid hov
 replace hrn := hid hrn
 replace hno2 := hid hno2
 replace hf := hid hf
 replace hfg := hid hfg
 have hz := hov.out
 go_enter Tryz.func22, Tryz.ntmps22
 go_wp2_with fail
 (with_reducible refine (h1.out).mono ?_)
 rintro e w1 ⟨rfl, hB1⟩
 have hb1 := heap_alloc_new w1 (.cells #[.int .i64 k1, .int .i64 i1, .int .i64 z1, .int .i64 l1, .int .i64 a1, .int .i64 a2, .int .i64 a3, .int .i64 a4, .int .i64 a5, .string (mkS t1)] 84)
 have hB2 := below_alloc hB1 (.cells #[.int .i64 k1, .int .i64 i1, .int .i64 z1, .int .i64 l1, .int .i64 a1, .int .i64 a2, .int .i64 a3, .int .i64 a4, .int .i64 a5, .string (mkS t1)] 84)
 replace hb1 := hid hb1
 replace hB2 := hid hB2
 replace hz := hid hz
 clear hB1
 go_upto_region 2 with fail
 generalize (w1.alloc (.cells #[.int .i64 k1, .int .i64 i1, .int .i64 z1, .int .i64 l1, .int .i64 a1, .int .i64 a2, .int .i64 a3, .int .i64 a4, .int .i64 a5, .string (mkS t1)] 84)) = w2 at *
 generalize w1.heap.size = n1 at *
 replace hz := hz.out
 by_cases he1 : e1 = 0
 rotate_left 1
 ·have t0 : (e1 != 0) = true := by simpa using he1
  rw [if_pos (Or.inl he1)] at hz
  replace he1 := hid he1
  cases u1 with
  | false =>
   have hS := RStp.same hT.out hB2.out
   replace hz := hid hz
   replace hS := hid hS
   go_wp2
   go_ret
   exact ⟨by rw [hz.out]; rfl, by rw [hz.out]; exact hS.out⟩
  | true =>
   have hS := RStp.same hT.out hB2.out
   replace hz := hid hz
   replace hS := hid hS
   go_wp2
   go_ret
   exact ⟨by rw [hz.out]; rfl, by rw [hz.out]; exact hS.out⟩
 subst he1
 cases u1 with
 | false =>
  rw [if_pos (by simp)] at hz
  have hS := RStp.same hT.out hB2.out
  replace hz := hid hz
  replace hS := hid hS
  go_wp2
  go_ret
  exact ⟨by rw [hz.out]; rfl, by rw [hz.out]; exact hS.out⟩
 | true =>
  rw [if_neg (by simp)] at hz
  replace hz := hid hz
  go_wp2_with fail
  (with_reducible refine (h2.out _ (hT.out.below hB2.out)).mono ?_)
  rintro e w3 ⟨rfl, hB3⟩
  have hb1' := (hB3.block _ (Array.getElem?_eq_some_iff.1 hb1.out).1).trans hb1.out
  have hA := below_alloc (Below.refl _ w3) (.cells #[.int .i64 k2, .int .i64 i2, .int .i64 z2, .int .i64 l2, .int .i64 b1, .int .i64 b2, .int .i64 b3, .int .i64 b4, .int .i64 b5, .string (mkS t2)] 84)
  have hb1'' := (hA.block _ (Array.getElem?_eq_some_iff.1 hb1').1).trans hb1'
  have hb2 := heap_alloc_new w3 (.cells #[.int .i64 k2, .int .i64 i2, .int .i64 z2, .int .i64 l2, .int .i64 b1, .int .i64 b2, .int .i64 b3, .int .i64 b4, .int .i64 b5, .string (mkS t2)] 84)
  have hB4 := below_alloc (below_step hB2.out hB3) (.cells #[.int .i64 k2, .int .i64 i2, .int .i64 z2, .int .i64 l2, .int .i64 b1, .int .i64 b2, .int .i64 b3, .int .i64 b4, .int .i64 b5, .string (mkS t2)] 84)
  have x0 := cell_of (j := 0) hb1'' rfl
  have x4 := cell_of (j := 4) hb1'' rfl
  have x5 := cell_of (j := 5) hb1'' rfl
  have x6 := cell_of (j := 6) hb1'' rfl
  have x7 := cell_of (j := 7) hb1'' rfl
  have x8 := cell_of (j := 8) hb1'' rfl
  have x9 := cell_of (j := 9) hb1'' rfl
  have y0 := cell_of (j := 0) hb2 rfl
  replace hb1'' := hid hb1''
  replace hb2 := hid hb2
  replace hB4 := hid hB4
  clear hB3 hb1' hA hb1 hB2
  go_upto_region 5 with fail
  generalize (w3.alloc (.cells #[.int .i64 k2, .int .i64 i2, .int .i64 z2, .int .i64 l2, .int .i64 b1, .int .i64 b2, .int .i64 b3, .int .i64 b4, .int .i64 b5, .string (mkS t2)] 84)) = w4 at *
  generalize w3.heap.size = n3 at *
  replace hz := hz.out
  by_cases he2 : e2 = 0
  rotate_left 1
  ·have t0 : (e2 != 0) = true := by simpa using he2
   rw [if_pos he2] at hz
   replace he2 := hid he2
   have hS := RStp.same hT.out hB4.out
   replace hz := hid hz
   replace hS := hid hS
   go_wp2
   go_ret
   exact ⟨by rw [hz.out]; rfl, by rw [hz.out]; exact hS.out⟩
  subst he2
  rw [if_neg (by simp)] at hz
  by_cases hk2 : k1 = 2
  ·have t2' : (k1 == 2) = true := by simpa using hk2
   rw [if_pos hk2] at hz
   replace hk2 := hid hk2
   cases u2 with
   | false =>
    rw [if_neg (by simp)] at hz
    have hk0 : k2 = 0 := congrArg St.kind (hno2.out rfl)
    have t5 : (k2 == 2) = false := by rw [hk0]; rfl
    replace hk0 := hid hk0
    replace hz := hid hz
    go_wp2_with fail
    (with_reducible refine (hmk.out ⟨a1, a2, a3, a4, a5⟩ _ (hT.out.below hB4.out)).mono ?_)
    rintro e w9 ⟨rfl, hS5⟩
    have hS := RStp.after hB4.out hS5
    replace hS := hid hS
    go_wp2
    go_ret
    exact ⟨by rw [hz.out]; rfl, by rw [hz.out]; exact hS.out⟩
   | true =>
    by_cases hkk : k2 = 2
    ·have t5 : (k2 == 2) = true := by simpa using hkk
     rw [if_pos ⟨rfl, hkk⟩] at hz
     replace hkk := hid hkk
     replace hz := hid hz
     go_wp2_with fail
     (with_reducible refine (hset.out ⟨a1, a2, a3, a4, a5⟩ _ (hT.out.below hB4.out)).mono ?_)
     rintro e w9 ⟨rfl, hS5⟩
     have hS := RStp.after hB4.out hS5
     replace hS := hid hS
     go_wp2
     go_ret
     exact ⟨by rw [hz.out]; rfl, by rw [hz.out]; exact hS.out⟩
    ·have t5 : (k2 == 2) = false := by simpa using hkk
     rw [if_neg (fun h => hkk h.2)] at hz
     replace hkk := hid hkk
     replace hz := hid hz
     go_wp2_with fail
     (with_reducible refine (hmk.out ⟨a1, a2, a3, a4, a5⟩ _ (hT.out.below hB4.out)).mono ?_)
     rintro e w9 ⟨rfl, hS5⟩
     have hS := RStp.after hB4.out hS5
     replace hS := hid hS
     go_wp2
     go_ret
     exact ⟨by rw [hz.out]; rfl, by rw [hz.out]; exact hS.out⟩
  ·have t2' : (k1 == 2) = false := by simpa using hk2
   rw [if_neg hk2] at hz
   replace hk2 := hid hk2
   cases u2 with
   | false =>
    rw [if_neg (by simp)] at hz
    have hbX := hb1''
    rw [hput.out] at hz
    by_cases hk3 : k1 = 3
    ·have t3 : (k1 == 3) = true := by simpa using hk3
     rw [if_pos hk3] at hz
     replace hk3 := hid hk3
     replace hz := hid hz
     go_wp2_with fail
     (with_reducible refine (hsl.out tv B T ⟨a1, a2, a3, a4, a5⟩ t1 w4 (hT.out.below hB4.out) ⟨hnx.out, hf.out⟩).mono ?_)
     rintro e w9 ⟨rfl, hS5⟩
     have hS := RStp.after hB4.out hS5
     replace hS := hid hS
     go_wp2
     go_ret
     exact ⟨by rw [hz.out]; rfl, by rw [hz.out]; exact hS.out⟩
    ·have t3 : (k1 == 3) = false := by simpa using hk3
     rw [if_neg hk3] at hz
     replace hk3 := hid hk3
     replace hz := hid hz
     go_wp2_with fail
     (with_reducible refine (hrd.out w4 (hG.out.below hB4.out)).mono ?_)
     rintro e w7 ⟨⟨v7, rfl, hO7⟩, hB7⟩
     have hb7 := ((hB7.block _ (Array.getElem?_eq_some_iff.1 hbX.out).1).trans hbX.out)
     clear x0 x4 x5 x6 x7 x8 x9
     have x0 := cell_of (j := 0) hb7 rfl
     have x4 := cell_of (j := 4) hb7 rfl
     have x5 := cell_of (j := 5) hb7 rfl
     have x6 := cell_of (j := 6) hb7 rfl
     have x7 := cell_of (j := 7) hb7 rfl
     have x8 := cell_of (j := 8) hb7 rfl
     have x9 := cell_of (j := 9) hb7 rfl
     have hR7 := hO7.rdb
     obtain ⟨vA, vc, hve, hv1, hv2⟩ := own_shape hO7
     subst hve
     unfold maxLen at hv2
     have hT7 := ((hT.out.below hB4.out)).below hB7
     replace hz := hz.out
     replace hb7 := hid hb7
     replace hR7 := hid hR7
     replace hB7 := hid hB7
     replace hO7 := hid hO7
     replace hT7 := hid hT7
     by_cases hre : re = 0
     ·subst hre
      rw [if_neg (by simp)] at hz
      replace hz := hid hz
      go_wp2_with fail
      (with_reducible refine (hwr.out tv B T (.slice vA rb.length vc) rb ⟨a1, a2, a3, a4, a5⟩ w7 hT7.out hR7.out (by have := hgl.out; omega) ⟨hnx.out, hf.out⟩).mono ?_)
      rintro e w9 ⟨rfl, hS5⟩
      have hS := RStp.after hB4.out (RStp.after hB7.out hS5)
      replace hS := hid hS
      go_wp2
      go_ret
      exact ⟨by rw [hz.out]; rfl, by rw [hz.out]; exact hS.out⟩
     ·have t4 : (re != 0) = true := by simpa using hre
      rw [if_pos hre] at hz
      replace hre := hid hre
      have hS := RStp.after hB4.out (RStp.same (hT.out.below hB4.out) hB7.out)
      replace hz := hid hz
      replace hS := hid hS
      go_wp2
      go_ret
      exact ⟨by rw [hz.out]; rfl, by rw [hz.out]; exact hS.out⟩
   | true =>
    rw [if_pos rfl] at hz
    replace hz := hid hz
    go_wp2_with fail
    (with_reducible refine (hrm.out _ (hT.out.below hB4.out)).mono ?_)
    rintro e w5 ⟨rfl, hS5⟩
    replace hz := hz.out
    by_cases her : er = 0
    ·subst her
     rw [if_neg (by simp)] at hz
     have hT4 := hT.out.below hB4.out
     have hno := hT4.not_own hb1''.out (by decide) (by decide) (by decide)
     have hbX := ((rstp_turn hS5).block _ (Array.getElem?_eq_some_iff.1 hb1''.out).1 hno).trans hb1''.out
     obtain ⟨hG5, tv', B', hT5, hd5, ho5⟩ := RStp.two (hG.out.below hB4.out) hT4 hd.out hS5
     have htu := rstp_turn hS5
     clear x0 x4 x5 x6 x7 x8 x9 y0
     have x0 := cell_of (j := 0) hbX rfl
     have x4 := cell_of (j := 4) hbX rfl
     have x5 := cell_of (j := 5) hbX rfl
     have x6 := cell_of (j := 6) hbX rfl
     have x7 := cell_of (j := 7) hbX rfl
     have x8 := cell_of (j := 8) hbX rfl
     have x9 := cell_of (j := 9) hbX rfl
     have hnx5 : T1.next < 4611686018427387904 ∧ T1.names.length ≤ 1000000 := ⟨by rw [hrl.out]; exact hnx.out, Nat.le_trans hrn.out hf.out⟩
     clear hS5
     replace hG5 := hid hG5
     replace hT5 := hid hT5
     replace hd5 := hid hd5
     replace ho5 := hid ho5
     replace htu := hid htu
     replace hbX := hid hbX
     replace hno := hid hno
     replace hT4 := hid hT4
     replace hnx5 := hid hnx5
     rw [hput.out] at hz
     by_cases hk3 : k1 = 3
     ·have t3 : (k1 == 3) = true := by simpa using hk3
      rw [if_pos hk3] at hz
      replace hk3 := hid hk3
      replace hz := hid hz
      go_wp2_with fail
      (with_reducible refine (hsl.out tv' B' T1 ⟨a1, a2, a3, a4, a5⟩ t1 w5 hT5.out hnx5.out).mono ?_)
      rintro e w9 ⟨rfl, hS5⟩
      have hS := (fun h => RStp.after hB4.out (RStp.trans htu.out ho5.out h)) hS5
      replace hS := hid hS
      go_wp2
      go_ret
      exact ⟨by rw [hz.out]; rfl, by rw [hz.out]; exact hS.out⟩
     ·have t3 : (k1 == 3) = false := by simpa using hk3
      rw [if_neg hk3] at hz
      replace hk3 := hid hk3
      replace hz := hid hz
      go_wp2_with fail
      (with_reducible refine (hrd.out w5 hG5.out).mono ?_)
      rintro e w7 ⟨⟨v7, rfl, hO7⟩, hB7⟩
      have hb7 := ((hB7.block _ (Array.getElem?_eq_some_iff.1 hbX.out).1).trans hbX.out)
      clear x0 x4 x5 x6 x7 x8 x9
      have x0 := cell_of (j := 0) hb7 rfl
      have x4 := cell_of (j := 4) hb7 rfl
      have x5 := cell_of (j := 5) hb7 rfl
      have x6 := cell_of (j := 6) hb7 rfl
      have x7 := cell_of (j := 7) hb7 rfl
      have x8 := cell_of (j := 8) hb7 rfl
      have x9 := cell_of (j := 9) hb7 rfl
      have hR7 := hO7.rdb
      obtain ⟨vA, vc, hve, hv1, hv2⟩ := own_shape hO7
      subst hve
      unfold maxLen at hv2
      have hT7 := (hT5.out).below hB7
      replace hz := hz.out
      replace hb7 := hid hb7
      replace hR7 := hid hR7
      replace hB7 := hid hB7
      replace hO7 := hid hO7
      replace hT7 := hid hT7
      by_cases hre : re = 0
      ·subst hre
       rw [if_neg (by simp)] at hz
       replace hz := hid hz
       go_wp2_with fail
       (with_reducible refine (hwr.out tv' B' T1 (.slice vA rb.length vc) rb ⟨a1, a2, a3, a4, a5⟩ w7 hT7.out hR7.out (by have := hgl.out; omega) hnx5.out).mono ?_)
       rintro e w9 ⟨rfl, hS5⟩
       have hS := (fun h => RStp.after hB4.out (RStp.trans htu.out ho5.out h)) (RStp.after hB7.out hS5)
       replace hS := hid hS
       go_wp2
       go_ret
       exact ⟨by rw [hz.out]; rfl, by rw [hz.out]; exact hS.out⟩
      ·have t4 : (re != 0) = true := by simpa using hre
       rw [if_pos hre] at hz
       replace hre := hid hre
       have hS := (fun h => RStp.after hB4.out (RStp.trans htu.out ho5.out h)) (RStp.same hT5.out hB7.out)
       replace hz := hid hz
       replace hS := hid hS
       go_wp2
       go_ret
       exact ⟨by rw [hz.out]; rfl, by rw [hz.out]; exact hS.out⟩
    ·have t6 : (er != 0) = true := by simpa using her
     rw [if_pos her] at hz
     replace her := hid her
     have hS := RStp.after hB4.out hS5
     replace hz := hid hz
     replace hS := hid hS
     go_wp2
     go_ret
     exact ⟨by rw [hz.out]; rfl, by rw [hz.out]; exact hS.out⟩
end Go.Proofs.YtcjlfkklpghjbaaGreat
