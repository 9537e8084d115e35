/-
  remoralaw17.TreeRefuses: a call that tells an error has changed nothing.
-/
import Derived.Test.YtemdinjiplglgaaB4
namespace Go.Proofs.Ytemdinjiplglgaa
open Go.RowKit

def ErrKeeps (T : Fs) (r : Fs × Int) : Prop := r.2 ≠ 0 → r.1 = T
theorem err_same (T : Fs) (e : Int) : ErrKeeps T (T, e) := fun _ => rfl
theorem err_ok (T T' : Fs) : ErrKeeps T (T', 0) := fun h => absurd rfl h

/-- ALL OR NOTHING, the plain law. -/
theorem act_err (T : Fs) (a : Act17) : ErrKeeps T (T.act a) := by
  have g1 : ∀ s m, ErrKeeps T (T.mkdir s m) := fun s m => by unfold Fs.mkdir; (repeat' split); all_goals first | exact err_same T _ | exact err_ok T _
  have g2 : ∀ s b m, ErrKeeps T (T.write s b m) := fun s b m => by unfold Fs.write; (repeat' split); all_goals first | exact err_same T _ | exact err_ok T _
  have g3 : ∀ s t m, ErrKeeps T (T.symlink s t m) := fun s t m => by unfold Fs.symlink; (repeat' split); all_goals first | exact err_same T _ | exact err_ok T _
  have g4 : ∀ o p, ErrKeeps T (T.link o p) := fun o p => by unfold Fs.link; (repeat' split); all_goals first | exact err_same T _ | exact err_ok T _
  have g5 : ∀ s, ErrKeeps T (T.remove s) := fun s => by unfold Fs.remove; (repeat' split); all_goals first | exact err_same T _ | exact err_ok T _
  have g6 : ∀ o p, ErrKeeps T (T.rename o p) := fun o p => by unfold Fs.rename Fs.ren2 Fs.ren3; (repeat' split); all_goals first | exact err_same T _ | exact err_ok T _
  have g7 : ∀ s m, ErrKeeps T (T.setM s m) := fun s m => by unfold Fs.setM; (repeat' split); all_goals first | exact err_same T _ | exact err_ok T _
  have g8 : ∀ s b, ErrKeeps T (T.append s b) := fun s b => by unfold Fs.append; (repeat' split); all_goals first | exact err_same T _ | exact err_ok T _
  unfold Fs.act
  repeat' split
  all_goals first | exact g1 _ _ | exact g2 _ _ _ | exact g3 _ _ _ | exact g4 _ _ | exact g5 _ | exact g6 _ _ | exact g7 _ _ | exact g8 _ _ | exact err_same T _

/-- A tree apart from another one stays where the other one turns. -/
theorem Rep.beside {w w' : World} {tb ub : Nat} {A M B N : Nat → Nat} {T U : Fs} (hU : Rep w ub B N U) (hT : Rep w tb A M T) (hd : ∀ b, Own ub B N U b → ¬ Own tb A M T b) (ht : Turn w w' (Own tb A M T)) : Rep w' ub B N U :=
  hU.kept (fun b hb => ht.block b (hU.lt hb) (hd b hb)) (fun g ⟨cs, hg⟩ => ht.block g (Array.getElem?_eq_some_iff.1 hg).1 (hT.not_own hg (by decide) (by decide)))

/-- .. and so do both, apart still. -/
theorem Stp.two {w w' : World} {tb ub : Nat} {A M B N : Nat → Nat} {T T' U : Fs} (hU : Rep w ub B N U) (hT : Rep w tb A M T) (hd : ∀ b, Own ub B N U b → ¬ Own tb A M T b) (hs : Stp w w' tb A M T T') :
    Rep w' ub B N U ∧ ∃ A' M', Rep w' tb A' M' T' ∧ (∀ b, Own ub B N U b → ¬ Own tb A' M' T' b) ∧ ∀ b, Own tb A' M' T' b → Own tb A M T b ∨ w.heap.size ≤ b := by
  obtain ⟨A', M', h1, h2, h3⟩ := hs
  refine ⟨hU.beside hT hd h2, A', M', h1, fun b hb hb2 => ?_, h3⟩
  rcases h3 b hb2 with h | h
  · exact hd b hb h
  · have := hU.lt hb
    omega

theorem small_not {l : List Act17} (h : small l ≠ true) : small l = false := by
  cases hs : small l with
  | true => exact absurd hs h
  | false => rfl

/-- An act in a block of its own, as a list. -/
theorem acts_one (w : World) (a : Act17) (dv : Value) (C : Array Value) (hC : C.toList = actCells a dv) (hv : RdB w dv a.data) : Acts (w.alloc (.cells C 27)) (.slice (some ⟨w.heap.size, 0, none⟩) 1 1) [a] := by
  refine ⟨_, 1, rfl, Nat.le_refl _, by simp [maxLen], fun k hk => ?_⟩
  have : k = 0 := by simp at hk; omega
  subst this
  refine ⟨_, 0, dv, rfl, hv.below ((Below.refl _ _).alloc (Nat.le_refl _) _), fun j hj => ?_⟩
  have h := (MapKept.heap_alloc w (.cells C 27)).1
  have h2 : C[j]? = (actCells a dv)[j]? := by rw [← hC, Array.getElem?_toList]
  simp only [World.cell?, h, Nat.zero_mul, Nat.zero_add, h2]
  rfl

set_option maxHeartbeats 4000000 in
set_option maxRecDepth 100000 in
theorem treeRefuses_walk (v : Value) (l : List Act17) (a : Act17) (dv : Value) (w : World) (hv : Acts w v l) (hd : RdB w dv a.data) :
    Calls Try.prog 3 #[v, actV a dv] w fun e w' => e = .returned (.bool true) ∧ Below w.heap.size w w' := by
  obtain ⟨d, p, t, b, m⟩ := a
  obtain ⟨m1, m2, m3, m4, m5⟩ := m
  dsimp only at hd
  have haw := fun W => awake17_calls W
  have hB0 : Below w.heap.size w (w.alloc (.cells #[.int .i64 d, .string (mkS p), .string (mkS t), dv, .int .i64 m1, .int .i64 m2, .int .i64 m3, .int .i64 m4, .int .i64 m5] 27)) := (Below.refl _ _).alloc (Nat.le_refl _) _
  have hv0 := hv.below hB0
  have hd0 := hd.below hB0
  have hsm := small_calls v l _ hv0
  have hone := acts_one _ ⟨d, p, t, b, ⟨m1, m2, m3, m4, m5⟩⟩ dv #[.int .i64 d, .string (mkS p), .string (mkS t), dv, .int .i64 m1, .int .i64 m2, .int .i64 m3, .int .i64 m4, .int .i64 m5] rfl hd0
  have hblk := (MapKept.heap_alloc w (.cells #[.int .i64 d, .string (mkS p), .string (mkS t), dv, .int .i64 m1, .int .i64 m2, .int .i64 m3, .int .i64 m4, .int .i64 m5] 27)).1
  obtain ⟨vA, vc, rfl, _, _⟩ := id hv
  have hval : actV ⟨d, p, t, b, ⟨m1, m2, m3, m4, m5⟩⟩ dv = (.agg #[.int .i64 d, .string (mkS p), .string (mkS t), dv, .int .i64 m1, .int .i64 m2, .int .i64 m3, .int .i64 m4, .int .i64 m5]) := rfl
  rw [hval]
  clear hval
  replace haw := Lib.hid haw
  by_cases hs1 : small l = true
  · rw [hs1] at hsm
    have hsm2 := small_calls _ [⟨d, p, t, b, ⟨m1, m2, m3, m4, m5⟩⟩] _ hone
    rw [show (w.alloc (.cells #[.int .i64 d, .string (mkS p), .string (mkS t), dv, .int .i64 m1, .int .i64 m2, .int .i64 m3, .int .i64 m4, .int .i64 m5] 27)).heap.size = w.heap.size + 1 by simp] at hsm2
    by_cases hs2 : small [⟨d, p, t, b, ⟨m1, m2, m3, m4, m5⟩⟩] = true
    · rw [hs2] at hsm2
      obtain ⟨h1, h2, h3⟩ := (small_at hs2).2 _ (List.mem_singleton_self _)
      dsimp only at h1 h2 h3
      have hl40 := (small_at hs1).1
      have hB1 : Below w.heap.size w ((w.alloc (.cells #[.int .i64 d, .string (mkS p), .string (mkS t), dv, .int .i64 m1, .int .i64 m2, .int .i64 m3, .int .i64 m4, .int .i64 m5] 27)).alloc (.cells #[.int .i64 d, .string (mkS p), .string (mkS t), dv, .int .i64 m1, .int .i64 m2, .int .i64 m3, .int .i64 m4, .int .i64 m5] 27)) := below_alloc hB0 _
      have hbl := build_calls _ l _ (hv.below hB1) hs1
      have hgr := acts_grow Fs.start l
      have hfew : (Fs.build l).names.length ≤ 1000 := by
        have : (Fs.build l).names.length ≤ Fs.start.names.length + l.length := hgr.1
        have h9 : Fs.start.names.length = 1 := rfl
        omega
      have hnx : (Fs.build l).next < 1000 := by
        have : (Fs.build l).next ≤ Fs.start.next + l.length := hgr.2
        have h9 : Fs.start.next = 2 := rfl
        omega
      generalize Fs.build l = T at *
      have herr := act_err T ⟨d, p, t, b, ⟨m1, m2, m3, m4, m5⟩⟩
      have hdo := fun tb A M W (hR : Rep W tb A M T) hv => do_calls tb A M T ⟨d, p, t, b, ⟨m1, m2, m3, m4, m5⟩⟩ dv W hR (by dsimp only; omega) (by dsimp only; omega) hv (by dsimp only; omega) (by omega) (by omega)
      generalize T.act ⟨d, p, t, b, ⟨m1, m2, m3, m4, m5⟩⟩ = res at *
      obtain ⟨T', er⟩ := res
      have hcp := fun tb A M W (hR : Rep W tb A M T) => copy_calls tb A M T W hR
      have hsame := fun tb A M ub B N W (hR : Rep W tb A M T) (hS : Rep W ub B N T) => same_calls tb A M T ub B N T W hR hS
      have hmk := fun tb A M W (hR : Rep W tb A M T) => mkdir_calls tb A M T ⟨#[122, 122, 45, 110, 101, 119]⟩ noMt W hR (by decide) (by omega)
      generalize T.mkdir (bl ⟨#[122, 122, 45, 110, 101, 119]⟩) noMt = mk at *
      obtain ⟨T2, me⟩ := mk
      have hst := fun tb A M W (hR : Rep W tb A M T2) => stat_calls tb A M T2 ⟨#[122, 122, 45, 110, 101, 119]⟩ W hR (by decide)
      generalize T2.stat (bl ⟨#[122, 122, 45, 110, 101, 119]⟩) = st at *
      obtain ⟨⟨s1, s2, s3, s4, ⟨s5, s6, s7, s8, s9⟩, s10⟩, se⟩ := st
      unfold actV actCells noMt mtV mtCells statV statCells ptr at *
      dsimp only at *
      have c0 := cell_of (j := 0) hblk rfl
      have c1 := cell_of (j := 1) hblk rfl
      have c2 := cell_of (j := 2) hblk rfl
      have c3 := cell_of (j := 3) hblk rfl
      have c4 := cell_of (j := 4) hblk rfl
      have c5 := cell_of (j := 5) hblk rfl
      have c6 := cell_of (j := 6) hblk rfl
      have c7 := cell_of (j := 7) hblk rfl
      have c8 := cell_of (j := 8) hblk rfl
      have hd1 := hd.below hB1
      replace hs2 := Lib.hid hs2
      replace hs1 := Lib.hid hs1
      replace hsm := Lib.hid hsm
      replace hsm2 := Lib.hid hsm2
      replace hbl := Lib.hid hbl
      replace herr := Lib.hid herr
      replace hdo := Lib.hid hdo
      replace hcp := Lib.hid hcp
      replace hsame := Lib.hid hsame
      replace hmk := Lib.hid hmk
      replace hst := Lib.hid hst
      replace hv := Lib.hid hv
      replace hv0 := Lib.hid hv0
      replace hd := Lib.hid hd
      replace hd0 := Lib.hid hd0
      replace hd1 := Lib.hid hd1
      replace hone := Lib.hid hone
      replace hB0 := Lib.hid hB0
      replace hB1 := Lib.hid hB1
      replace hblk := Lib.hid hblk
      go_enter Try.func3, Try.ntmps3
      go_wp2_with fail
      refine hsm.out.mono ?_
      rintro e w1 ⟨rfl, rfl⟩
      go_wp2_with fail
      (with_reducible refine hsm2.out.mono ?_)
      rintro e w1 ⟨rfl, rfl⟩
      go_wp2_with fail
      (with_reducible refine hbl.out.mono ?_)
      rintro e w2 ⟨tc, C, M, rfl, hR2, hO2, hB2⟩
      have hblk2 : ((w.alloc (.cells #[.int .i64 d, .string (mkS p), .string (mkS t), dv, .int .i64 m1, .int .i64 m2, .int .i64 m3, .int .i64 m4, .int .i64 m5] 27)).alloc (.cells #[.int .i64 d, .string (mkS p), .string (mkS t), dv, .int .i64 m1, .int .i64 m2, .int .i64 m3, .int .i64 m4, .int .i64 m5] 27)).heap[w.heap.size]? = some (.cells #[.int .i64 d, .string (mkS p), .string (mkS t), dv, .int .i64 m1, .int .i64 m2, .int .i64 m3, .int .i64 m4, .int .i64 m5] 27 (0, 0)) := (two_blocks w _ _).1
      have hBw2 := below_step hB1.out hB2
      have hlt2 : w.heap.size < w2.heap.size := by have := hB2.size; simp at this; omega
      have hO2' : ∀ b, Own tc C M T b → w.heap.size ≤ b := fun b hb => by have := hO2 b hb; simp at this; omega
      have hbk2 := (hB2.block w.heap.size (by simp; omega)).trans hblk2
      have hcp2 := hcp.out tc C M w2 hR2
      replace hcp2 := Lib.hid hcp2
      replace hR2 := Lib.hid hR2
      replace hO2 := Lib.hid hO2
      replace hO2' := Lib.hid hO2'
      replace hB2 := Lib.hid hB2
      replace hblk2 := Lib.hid hblk2
      replace hbk2 := Lib.hid hbk2
      replace hBw2 := Lib.hid hBw2
      clear c0 c1 c2 c3 c4 c5 c6 c7 c8
      go_wp2_with fail
      (with_reducible refine hcp2.out.mono ?_)
      rintro e w3 ⟨cc, C3, M3, rfl, hR3c, hO3, hB3⟩
      have hR3 := hR2.out.below hB3
      have hdis : ∀ b, Own cc C3 M3 T b → ¬ Own tc C M T b := fun b h1 h2 => by
        have := hO3 b h1
        have := hR2.out.lt h2
        omega
      have hBw3 := below_step hBw2.out hB3
      have hO3' : ∀ b, Own cc C3 M3 T b → w.heap.size ≤ b := fun b hb => Nat.le_trans hBw2.out.size (hO3 b hb)
      have hbk := (hB3.block w.heap.size hlt2).trans hbk2.out
      have g0 := cell_of (j := 0) hbk rfl
      have g1 := cell_of (j := 1) hbk rfl
      have g2 := cell_of (j := 2) hbk rfl
      have g3 := cell_of (j := 3) hbk rfl
      have g4 := cell_of (j := 4) hbk rfl
      have g5 := cell_of (j := 5) hbk rfl
      have g6 := cell_of (j := 6) hbk rfl
      have g7 := cell_of (j := 7) hbk rfl
      have g8 := cell_of (j := 8) hbk rfl
      have hdo3 := hdo.out tc C M w3 hR3 (hd.out.below hBw3)
      replace hdo3 := Lib.hid hdo3
      replace hR3 := Lib.hid hR3
      replace hR3c := Lib.hid hR3c
      replace hO3 := Lib.hid hO3
      replace hO3' := Lib.hid hO3'
      replace hdis := Lib.hid hdis
      replace hBw3 := Lib.hid hBw3
      replace hbk := Lib.hid hbk
      replace hB3 := Lib.hid hB3
      go_wp2_with fail
      (with_reducible refine hdo3.out.mono ?_)
      rintro e w4 ⟨rfl, hst4⟩
      by_cases he : er = 0
      · have he2 : (er == 0) = true := by simpa using he
        obtain ⟨hB4, _⟩ := Stp.mine hBw3.out hO2'.out hst4
        replace he := Lib.hid he
        replace hB4 := Lib.hid hB4
        clear hst4 g0 g1 g2 g3 g4 g5 g6 g7 g8
        go_wp2_with fail
        refine (haw.out _).mono ?_
        rintro e w5 ⟨rfl, hB5⟩
        go_wp2
        go_ret
        exact ⟨rfl, below_step hB4.out hB5⟩
      · have he2 : (er == 0) = false := by simpa using he
        have hT' : T' = T := herr.out he
        subst hT'
        obtain ⟨hB4, _⟩ := Stp.mine hBw3.out hO2'.out hst4
        obtain ⟨hR4c, A4, M4, hR4, hdis4, hown4⟩ := Stp.two hR3c.out hR3.out hdis.out hst4
        have hO4 : ∀ b, Own tc A4 M4 T' b → w.heap.size ≤ b := fun b hb => by
          rcases hown4 b hb with h | h
          · exact hO2'.out b h
          · exact Nat.le_trans hBw3.out.size h
        have hsm4 := hsame.out tc A4 M4 cc C3 M3 w4 hR4 hR4c
        replace hsm4 := Lib.hid hsm4
        replace hB4 := Lib.hid hB4
        replace hR4 := Lib.hid hR4
        replace hR4c := Lib.hid hR4c
        replace hdis4 := Lib.hid hdis4
        replace hO4 := Lib.hid hO4
        replace he := Lib.hid he
        clear hst4 hown4 g0 g1 g2 g3 g4 g5 g6 g7 g8
        go_wp2_with fail
        (with_reducible refine hsm4.out.mono ?_)
        rintro e w5 ⟨⟨r, rfl, hr⟩, hB5⟩
        have hrt : r = true := hr.2 (SameFs.refl hR4.out.inv)
        subst hrt
        have hBw5 := below_step hB4.out hB5
        have hR5 := hR4.out.below hB5
        have hR5c := hR4c.out.below hB5
        have hmk5 := hmk.out tc A4 M4 w5 hR5
        replace hmk5 := Lib.hid hmk5
        replace hBw5 := Lib.hid hBw5
        replace hR5 := Lib.hid hR5
        replace hR5c := Lib.hid hR5c
        clear hr hB5
        go_wp2_with fail
        (with_reducible refine hmk5.out.mono ?_)
        rintro e w6 ⟨rfl, hst6⟩
        obtain ⟨hB6, _⟩ := Stp.mine hBw5.out hO4.out hst6
        obtain ⟨hR6c, A6, M6, hR6, hdis6, _⟩ := Stp.two hR5c.out hR5.out hdis4.out hst6
        have hmk6 := hmk.out cc C3 M3 w6 hR6c
        replace hmk6 := Lib.hid hmk6
        replace hB6 := Lib.hid hB6
        replace hR6 := Lib.hid hR6
        replace hR6c := Lib.hid hR6c
        replace hdis6 := Lib.hid hdis6
        clear hst6
        go_wp2_with fail
        (with_reducible refine hmk6.out.mono ?_)
        rintro e w7 ⟨rfl, hst7⟩
        obtain ⟨hB7, _⟩ := Stp.mine hB6.out hO3'.out hst7
        obtain ⟨hR7, A7, M7, hR7c, _, _⟩ := Stp.two hR6.out hR6c.out (fun b h1 h2 => hdis6.out b h2 h1) hst7
        have hst7a := hst.out tc A6 M6 w7 hR7
        replace hst7a := Lib.hid hst7a
        replace hB7 := Lib.hid hB7
        replace hR7 := Lib.hid hR7
        replace hR7c := Lib.hid hR7c
        clear hst7
        go_wp2_with fail
        (with_reducible refine hst7a.out.mono ?_)
        rintro e w8 ⟨rfl, hB8⟩
        have hBw8 := below_step hB7.out hB8
        have hR8c := hR7c.out.below (below_alloc hB8 (.cells #[.int .i64 s1, .int .i64 s2, .int .i64 s3, .int .i64 s4, .int .i64 s5, .int .i64 s6, .int .i64 s7, .int .i64 s8, .int .i64 s9, .string (mkS s10)] 38))
        have hst8a := hst.out cc A7 M7 _ hR8c
        have hBw8a := below_alloc hBw8 (.cells #[.int .i64 s1, .int .i64 s2, .int .i64 s3, .int .i64 s4, .int .i64 s5, .int .i64 s6, .int .i64 s7, .int .i64 s8, .int .i64 s9, .string (mkS s10)] 38)
        have hblk8 := (MapKept.heap_alloc w8 (.cells #[.int .i64 s1, .int .i64 s2, .int .i64 s3, .int .i64 s4, .int .i64 s5, .int .i64 s6, .int .i64 s7, .int .i64 s8, .int .i64 s9, .string (mkS s10)] 38)).1
        replace hst8a := Lib.hid hst8a
        replace hBw8 := Lib.hid hBw8
        replace hBw8a := Lib.hid hBw8a
        replace hR8c := Lib.hid hR8c
        replace hblk8 := Lib.hid hblk8
        clear hB8
        go_wp2_with fail
        (with_reducible refine hst8a.out.mono ?_)
        rintro e w9 ⟨rfl, hB9⟩
        have hBw9 := below_step hBw8a.out hB9
        have hlt8 : w8.heap.size < w9.heap.size := by have := hB9.size; simp at this; omega
        have hbk := (hB9.block w8.heap.size (by simp)).trans hblk8.out
        have g0 := cell_of (j := 0) hbk rfl
        have g1 := cell_of (j := 1) hbk rfl
        have g2 := cell_of (j := 2) hbk rfl
        have g3 := cell_of (j := 3) hbk rfl
        have g4 := cell_of (j := 4) hbk rfl
        have g5 := cell_of (j := 5) hbk rfl
        have g6 := cell_of (j := 6) hbk rfl
        have g7 := cell_of (j := 7) hbk rfl
        have g8 := cell_of (j := 8) hbk rfl
        have g9 := cell_of (j := 9) hbk rfl
        replace hBw9 := Lib.hid hBw9
        replace hbk := Lib.hid hbk
        clear hB9
        go_wp2_with fail
        refine (haw.out _).mono ?_
        rintro e w10 ⟨rfl, hB10⟩
        go_wp2
        go_ret
        exact ⟨rfl, below_step (below_alloc hBw9.out _) hB10⟩
    · rw [small_not hs2] at hsm2
      replace hs2 := Lib.hid hs2
      replace hs1 := Lib.hid hs1
      replace hsm := Lib.hid hsm
      replace hsm2 := Lib.hid hsm2
      have c0 := cell_of (j := 0) hblk rfl
      have c1 := cell_of (j := 1) hblk rfl
      have c2 := cell_of (j := 2) hblk rfl
      have c3 := cell_of (j := 3) hblk rfl
      have c4 := cell_of (j := 4) hblk rfl
      have c5 := cell_of (j := 5) hblk rfl
      have c6 := cell_of (j := 6) hblk rfl
      have c7 := cell_of (j := 7) hblk rfl
      have c8 := cell_of (j := 8) hblk rfl
      replace hv := Lib.hid hv
      replace hv0 := Lib.hid hv0
      replace hd := Lib.hid hd
      replace hd0 := Lib.hid hd0
      replace hone := Lib.hid hone
      replace hB0 := Lib.hid hB0
      replace hblk := Lib.hid hblk
      go_enter Try.func3, Try.ntmps3
      go_wp2_with fail
      refine hsm.out.mono ?_
      rintro e w1 ⟨rfl, rfl⟩
      go_wp2_with fail
      (with_reducible refine hsm2.out.mono ?_)
      rintro e w1 ⟨rfl, rfl⟩
      go_wp2_with fail
      refine (haw.out _).mono ?_
      rintro e w1 ⟨rfl, hB1⟩
      go_wp2
      go_ret
      exact ⟨rfl, below_step (below_alloc hB0.out _) hB1⟩
  · rw [small_not hs1] at hsm
    replace hs1 := Lib.hid hs1
    replace hsm := Lib.hid hsm
    replace hv := Lib.hid hv
    replace hv0 := Lib.hid hv0
    replace hd := Lib.hid hd
    replace hd0 := Lib.hid hd0
    replace hone := Lib.hid hone
    replace hB0 := Lib.hid hB0
    replace hblk := Lib.hid hblk
    go_enter Try.func3, Try.ntmps3
    go_wp2_with fail
    refine hsm.out.mono ?_
    rintro e w1 ⟨rfl, rfl⟩
    go_wp2_with fail
    refine (haw.out _).mono ?_
    rintro e w1 ⟨rfl, hB1⟩
    go_wp2
    go_ret
    exact ⟨rfl, below_step hB0.out hB1⟩

end Go.Proofs.Ytemdinjiplglgaa
