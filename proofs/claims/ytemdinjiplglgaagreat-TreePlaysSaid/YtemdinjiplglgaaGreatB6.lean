/-
  remoraref17: New, Build.
  remoraref17: Count, Texts.
  One file of several names: the plain law.
  What stays where a tree of its own turns: rows of names, bytes, records.
  remoralaw17.thing: both trees tell the same of a path.
  What P17.11 says of any tree, the plain law.
-/
import Derived.Test.YtemdinjiplglgaaGreatB5
import Derived.Test.YtemdinjiplglgaaGreatB4
import Derived.Shelf.Bytes.SlSmallAll
set_option linter.unusedVariables false
set_option linter.unusedSimpArgs false

namespace Go.Proofs.YtemdinjiplglgaaGreat
open Go.RowKit

/-- A call that has made the reference's tree T. -/
def RNewTree (w : World) (T : Fs) (e : Ending) (w' : World) : Prop :=
  ∃ (rb : Nat) (v : Value) (A : Nat → Nat), e = .returned (ptr rb) ∧ RRep w' rb v A T ∧ (∀ b, ROwn rb v A T b → w.heap.size ≤ b) ∧ Below w.heap.size w w'

theorem start_live {i : Nat} (h : Fs.start.Live i) : i = 1 := by
  obtain ⟨q, hq⟩ := h
  have : (q, i) ∈ [(([] : Pt), 1)] := hq
  simp only [List.mem_singleton, Prod.mk.injEq] at this
  exact this.2
theorem rnew_rep (w : World) : RRep (((w.alloc (.cells #[.int .i64 2, .int .i64 1, .slice none 0 0, .string ⟨#[]⟩, .int .i64 493, .int .i64 0, .int .i64 0, .int .i64 0, .int .i64 0] 80)).alloc (.cells #[.string ⟨#[]⟩, .pointer (some ⟨w.heap.size, 0, none⟩)] 82)).alloc (.cells #[.slice (some ⟨w.heap.size + 1, 0, none⟩) 1 1, .int .i64 2] 85)) (w.heap.size + 1 + 1) (.slice (some ⟨w.heap.size + 1, 0, none⟩) 1 1) (fun _ => w.heap.size) Fs.start := by
  have s1 : (w.alloc (.cells #[.int .i64 2, .int .i64 1, .slice none 0 0, .string ⟨#[]⟩, .int .i64 493, .int .i64 0, .int .i64 0, .int .i64 0, .int .i64 0] 80)).heap.size = w.heap.size + 1 := by simp
  have s2 : ((w.alloc (.cells #[.int .i64 2, .int .i64 1, .slice none 0 0, .string ⟨#[]⟩, .int .i64 493, .int .i64 0, .int .i64 0, .int .i64 0, .int .i64 0] 80)).alloc (.cells #[.string ⟨#[]⟩, .pointer (some ⟨w.heap.size, 0, none⟩)] 82)).heap.size = w.heap.size + 1 + 1 := by simp
  have a0 := (MapKept.heap_alloc w (.cells #[.int .i64 2, .int .i64 1, .slice none 0 0, .string ⟨#[]⟩, .int .i64 493, .int .i64 0, .int .i64 0, .int .i64 0, .int .i64 0] 80)).1
  have a1 := (MapKept.heap_alloc (w.alloc (.cells #[.int .i64 2, .int .i64 1, .slice none 0 0, .string ⟨#[]⟩, .int .i64 493, .int .i64 0, .int .i64 0, .int .i64 0, .int .i64 0] 80)) (.cells #[.string ⟨#[]⟩, .pointer (some ⟨w.heap.size, 0, none⟩)] 82)).1
  have a2 := (MapKept.heap_alloc ((w.alloc (.cells #[.int .i64 2, .int .i64 1, .slice none 0 0, .string ⟨#[]⟩, .int .i64 493, .int .i64 0, .int .i64 0, .int .i64 0, .int .i64 0] 80)).alloc (.cells #[.string ⟨#[]⟩, .pointer (some ⟨w.heap.size, 0, none⟩)] 82)) (.cells #[.slice (some ⟨w.heap.size + 1, 0, none⟩) 1 1, .int .i64 2] 85)).1
  have hB2 : Below ((w.alloc (.cells #[.int .i64 2, .int .i64 1, .slice none 0 0, .string ⟨#[]⟩, .int .i64 493, .int .i64 0, .int .i64 0, .int .i64 0, .int .i64 0] 80)).alloc (.cells #[.string ⟨#[]⟩, .pointer (some ⟨w.heap.size, 0, none⟩)] 82)).heap.size ((w.alloc (.cells #[.int .i64 2, .int .i64 1, .slice none 0 0, .string ⟨#[]⟩, .int .i64 493, .int .i64 0, .int .i64 0, .int .i64 0, .int .i64 0] 80)).alloc (.cells #[.string ⟨#[]⟩, .pointer (some ⟨w.heap.size, 0, none⟩)] 82)) (((w.alloc (.cells #[.int .i64 2, .int .i64 1, .slice none 0 0, .string ⟨#[]⟩, .int .i64 493, .int .i64 0, .int .i64 0, .int .i64 0, .int .i64 0] 80)).alloc (.cells #[.string ⟨#[]⟩, .pointer (some ⟨w.heap.size, 0, none⟩)] 82)).alloc (.cells #[.slice (some ⟨w.heap.size + 1, 0, none⟩) 1 1, .int .i64 2] 85)) := below_alloc (Below.refl _ _) _
  have hB1 : Below (w.alloc (.cells #[.int .i64 2, .int .i64 1, .slice none 0 0, .string ⟨#[]⟩, .int .i64 493, .int .i64 0, .int .i64 0, .int .i64 0, .int .i64 0] 80)).heap.size (w.alloc (.cells #[.int .i64 2, .int .i64 1, .slice none 0 0, .string ⟨#[]⟩, .int .i64 493, .int .i64 0, .int .i64 0, .int .i64 0, .int .i64 0] 80)) ((w.alloc (.cells #[.int .i64 2, .int .i64 1, .slice none 0 0, .string ⟨#[]⟩, .int .i64 493, .int .i64 0, .int .i64 0, .int .i64 0, .int .i64 0] 80)).alloc (.cells #[.string ⟨#[]⟩, .pointer (some ⟨w.heap.size, 0, none⟩)] 82)) := below_alloc (Below.refl _ _) _
  have b1 := (hB2.block _ (by omega)).trans a1
  have b0 := (hB2.block _ (by omega)).trans ((hB1.block _ (by omega)).trans a0)
  rw [s1] at b1
  rw [s2] at a2
  generalize (((w.alloc (.cells #[.int .i64 2, .int .i64 1, .slice none 0 0, .string ⟨#[]⟩, .int .i64 493, .int .i64 0, .int .i64 0, .int .i64 0, .int .i64 0] 80)).alloc (.cells #[.string ⟨#[]⟩, .pointer (some ⟨w.heap.size, 0, none⟩)] 82)).alloc (.cells #[.slice (some ⟨w.heap.size + 1, 0, none⟩) 1 1, .int .i64 2] 85)) = W at *
  refine ⟨start_inv, a2, ⟨rfl, Or.inr ⟨w.heap.size + 1, 1, _, rfl, Nat.zero_le _, b1, Nat.le_refl _, by simp [maxLen], rfl, rfl⟩⟩, fun i hi => ⟨.slice none 0 0, ?_, ?_⟩, fun i j hi hj _ => by rw [start_live hi, start_live hj]⟩
  · exact dat_nil W
  · rw [start_live hi]
    exact b0

set_option maxHeartbeats 2000000 in
set_option maxRecDepth 100000 in
theorem rnew_calls (w : World) : Calls Tryz.prog 15 #[] w (RNewTree w Fs.start) := by
  go_enter Tryz.func15, Tryz.ntmps15
  go_wp2

  go_ret
  refine ⟨w.heap.size + 1 + 1, _, _, rfl, rnew_rep w, fun b hb => ?_, below_alloc (below_alloc (below_alloc (Below.refl _ _) _) _) _⟩
  rcases hb with rfl | h | ⟨_, _, rfl⟩
  · omega
  · cases h
    exact Nat.le_succ _
  · exact Nat.le_refl _

set_option maxHeartbeats 2000000 in
set_option maxRecDepth 100000 in
theorem rbuild_calls (v : Value) (l : List Act17) (w : World) (hv : Acts w v l) (hs : small l = true) :
    Calls Tryz.prog 12 #[v] w (RNewTree w (Fs.build l)) := by
  obtain ⟨hl40, hsm⟩ := small_at hs
  have hv0 := hv
  obtain ⟨A, c, rfl, h2, h3, h4⟩ := hv
  unfold maxLen at h3
  have hnew := rnew_calls w
  replace h4 := Lib.hid h4
  replace hsm := Lib.hid hsm
  replace hnew := Lib.hid hnew
  replace hv0 := Lib.hid hv0
  clear hs
  go_enter Tryz.func12, Tryz.ntmps12
  go_wp2_with fail
  refine hnew.out.mono ?_
  rintro e w0 ⟨tc, C, MC, rfl, hR0, hO0, hB0⟩
  replace hR0 := Lib.hid hR0
  replace hO0 := Lib.hid hO0
  replace hB0 := Lib.hid hB0
  go_wp2_with fail
  go_loopw [4] (fun i wr => ∃ (k : Nat) (C1 : Value) (MC1 : Nat → Nat), i = .int .i64 k ∧ k ≤ l.length ∧ RRep wr tc C1 MC1 (Fs.build (l.take k)) ∧ (∀ b, ROwn tc C1 MC1 (Fs.build (l.take k)) b → w.heap.size ≤ b) ∧ Below w.heap.size w wr) (fun i _ => l.length - (intOf i).toNat)
  case atStart => exact ⟨0, C, MC, rfl, Nat.zero_le _, hR0.out, hO0.out, hB0.out⟩
  case round =>
    clear hR0 hO0 hB0
    obtain ⟨k, C1, MC1, rfl, hk, hR, hO, hB⟩ := hrel
    by_cases hlt : k < l.length
    · obtain ⟨g, o, dv, rfl, hdv, hc⟩ := h4.out k hlt
      obtain ⟨h5, h6, h7⟩ := hsm.out _ (List.getElem_mem hlt)
      have hgr := acts_grow Fs.start (l.take k)
      have hnm : (Fs.build (l.take k)).names.length ≤ 1000000 := by
        have h8 : (l.take k).length ≤ k := List.length_take_le _ _
        have : (Fs.build (l.take k)).names.length ≤ Fs.start.names.length + (l.take k).length := hgr.1
        have h9 : Fs.start.names.length = 1 := rfl
        omega
      have hnx : (Fs.build (l.take k)).next < 4611686018427387904 := by
        have h8 : (l.take k).length ≤ k := List.length_take_le _ _
        have : (Fs.build (l.take k)).next ≤ Fs.start.next + (l.take k).length := hgr.2
        have h9 : Fs.start.next = 2 := rfl
        omega
      have hdv' := hdv.below hB
      have hglt : g < w.heap.size := cell_lt (a := ⟨g, o + k * 9 + 0, none⟩) (hc 0 (by decide))
      have hc' : ∀ j, j < 9 → wr.cell? ⟨g, o + k * 9 + j, none⟩ = (actCells l[k] dv)[j]? := fun j hj => by
        rw [← hc j hj]
        simp only [World.cell?, hB.block g hglt]
      have hcall := rdo_calls tc C1 MC1 (Fs.build (l.take k)) l[k] dv wr hR (by omega) (by omega) hdv' (by omega) hnx hnm
      have hbs : ((Fs.build (l.take k)).act l[k]).1 = Fs.build (l.take (k + 1)) := by
        rw [List.take_succ_eq_append_getElem hlt]
        exact (acts_snoc _ _ _).symm
      rw [hbs] at hcall
      have d0 : wr.cell? ⟨g, o + k * 9, none⟩ = some (.int .i64 (l[k]).d) := hc' 0 (by decide)
      have d1 : wr.cell? ⟨g, o + k * 9 + 1, none⟩ = some (.string (mkS (l[k]).path)) := hc' 1 (by decide)
      have d2 : wr.cell? ⟨g, o + k * 9 + 2, none⟩ = some (.string (mkS (l[k]).arg)) := hc' 2 (by decide)
      have d3 : wr.cell? ⟨g, o + k * 9 + 3, none⟩ = some dv := hc' 3 (by decide)
      have d4 : wr.cell? ⟨g, o + k * 9 + 4, none⟩ = some (.int .i64 (l[k]).mt.mode) := hc' 4 (by decide)
      have d5 : wr.cell? ⟨g, o + k * 9 + 5, none⟩ = some (.int .i64 (l[k]).mt.sec) := hc' 5 (by decide)
      have d6 : wr.cell? ⟨g, o + k * 9 + 6, none⟩ = some (.int .i64 (l[k]).mt.nano) := hc' 6 (by decide)
      have d7 : wr.cell? ⟨g, o + k * 9 + 7, none⟩ = some (.int .i64 (l[k]).mt.uid) := hc' 7 (by decide)
      have d8 : wr.cell? ⟨g, o + k * 9 + 8, none⟩ = some (.int .i64 (l[k]).mt.gid) := hc' 8 (by decide)
      have hfin := fun w' (hst : RStp wr w' tc C1 MC1 (Fs.build (l.take k)) (Fs.build (l.take (k + 1)))) => RStp.mine hB hO hst
      unfold actV actCells ptr at hcall
      replace hcall := Lib.hid hcall
      replace hfin := Lib.hid hfin
      clear hR hO hB hc hc' hdv hdv' hbs hgr hnm hnx
      go_wp2_with fail
      refine hcall.out.mono ?_
      rintro e w1 ⟨rfl, hst⟩
      obtain ⟨hB1, C2, MC2, hR2, hO2⟩ := hfin.out w1 hst
      replace hB1 := Lib.hid hB1
      replace hR2 := Lib.hid hR2
      replace hO2 := Lib.hid hO2
      clear hst hfin hcall
      go_wp2
      go_roundw
      case rel => exact ⟨k + 1, C2, MC2, by go_num, by omega, hR2.out, hO2.out, hB1.out⟩
      case measure => simp [intOf]; omega
    · obtain rfl : k = l.length := by omega
      rw [List.take_length] at hR hO
      replace hR := Lib.hid hR
      replace hO := Lib.hid hO
      replace hB := Lib.hid hB
      go_wp2
      go_ret
      exact ⟨tc, C1, MC1, rfl, hR.out, hO.out, hB.out⟩

end Go.Proofs.YtemdinjiplglgaaGreat

namespace Go.Proofs.YtemdinjiplglgaaGreat
open Go.RowKit

set_option maxHeartbeats 1000000 in
set_option maxRecDepth 100000 in
theorem rcounted_calls (rb : Nat) (v : Value) (A : Nat → Nat) (T : Fs) (w : World) (hR : RRep w rb v A T) (hf : T.names.length ≤ 1000000) :
    Calls Tryz.prog 19 #[ptr rb] w fun e w' => e = .returned (.int .i64 ((T.names.length : Int) - 1)) ∧ w = w' := by
  obtain ⟨g, c, rfl, hc1, hc2, hp, t0, hcs⟩ := hR.at_
  unfold maxLen at hc2
  have hwr : IntKind.i64.wrap ((T.names.length : Int) - 1) = (T.names.length : Int) - 1 := IntWalk.i64_in _ (by omega)
  unfold ptr at *
  replace hR := Lib.hid hR
  replace hcs := Lib.hid hcs
  go_enter Tryz.func19, Tryz.ntmps19
  go_wp2
  go_ret
  exact ⟨rfl, rfl⟩

set_option maxHeartbeats 2000000 in
set_option maxRecDepth 100000 in
theorem rtexts_calls (a b : Value) (x y : List Bytes) (w : World) (ha : Rd w a x) (hb : Rd w b y) :
    Calls Tryz.prog 22 #[a, b] w fun e w' => e = .returned (.bool (decide (x = y))) ∧ Below w.heap.size w w' := by
  obtain ⟨aA, ac, rfl, ha1, ha2, hca⟩ := ha
  obtain ⟨bA, bc, rfl, hb1, hb2, hcb⟩ := hb
  unfold maxLen at *
  by_cases hl : x.length = y.length
  · have hl2 : (x.length : Int) = (y.length : Int) := by omega
    have hl3 : ((x.length : Int) == (y.length : Int)) = true := by rw [hl2]; simp
    replace hca := Lib.hid hca
    replace hcb := Lib.hid hcb
    replace hl := Lib.hid hl
    go_enter Tryz.func22, Tryz.ntmps22
    go_wp2
    go_loopw [5] (fun i wr => ∃ k : Nat, i = .int .i64 k ∧ k ≤ x.length ∧ x.take k = y.take k ∧ Below w.heap.size w wr) (fun i _ => x.length - (intOf i).toNat)
    case atStart => exact ⟨0, rfl, Nat.zero_le _, rfl, Below.refl _ _⟩
    case round =>
      obtain ⟨k, rfl, hk, hpre, hB⟩ := hrel
      by_cases hlt : k < x.length
      · have hlt2 : k < y.length := by rw [← hl.out]; exact hlt
        obtain ⟨g1, o1, e1, c1⟩ := hca.out k _ (List.getElem?_eq_getElem hlt)
        obtain ⟨g2, o2, e2, c2⟩ := hcb.out k _ (List.getElem?_eq_getElem hlt2)
        have hk1 : (k : Int) < (x.length : Int) := by omega
        have hk2 : (k : Int) < (y.length : Int) := by omega
        have htx : x.take (k + 1) = x.take k ++ [x[k]] := List.take_succ_eq_append_getElem hlt
        have hty : y.take (k + 1) = y.take k ++ [y[k]] := List.take_succ_eq_append_getElem hlt2
        have hxy : x = y → x[k] = y[k] := fun e => by subst e; rfl
        generalize x[k] = s at *
        generalize y[k] = t at *
        subst e1 e2
        replace c1 := (hB.cell (cell_lt c1)).trans c1
        replace c2 := (hB.cell (cell_lt c2)).trans c2
        by_cases hst : s = t
        · subst hst
          have hnx : x.take (k + 1) = y.take (k + 1) := by rw [htx, hty, hpre]
          replace htx := Lib.hid htx
          replace hty := Lib.hid hty
          replace hxy := Lib.hid hxy
          replace hpre := Lib.hid hpre
          replace hnx := Lib.hid hnx
          replace hB := Lib.hid hB
          go_upto_region 6 with fail
          go_quiet (fail)
          go_wp2
          go_roundw
          case rel => exact ⟨k + 1, by go_num, by omega, hnx.out, below_drewN hB.out _⟩
          case measure => simp [intOf]; omega
        · have t3 : ¬ (mkS s).toList = (mkS t).toList := by rw [toList_bl, toList_bl, bl_mkS, bl_mkS]; exact hst
          have t2 : ((mkS s).toList == (mkS t).toList) = false := by simpa using t3
          have hd : decide (x = y) = false := decide_eq_false fun e => hst (hxy e)
          replace htx := Lib.hid htx
          replace hty := Lib.hid hty
          replace hxy := Lib.hid hxy
          replace hpre := Lib.hid hpre
          replace hst := Lib.hid hst
          replace hd := Lib.hid hd
          replace hB := Lib.hid hB
          go_upto_region 6 with fail
          go_quiet (fail)
          go_wp2
          go_ret
          exact ⟨ret_bool hd.out.symm, below_drewN hB.out _⟩
      · obtain rfl : k = x.length := by omega
        have hd : decide (x = y) = true := by
          rw [List.take_length, hl.out, List.take_length] at hpre
          exact decide_eq_true hpre
        replace hpre := Lib.hid hpre
        replace hd := Lib.hid hd
        replace hB := Lib.hid hB
        go_wp2
        go_ret
        exact ⟨ret_bool hd.out.symm, hB.out⟩
  · have hne : x ≠ y := fun e => hl (by rw [e])
    have hl3 : ((x.length : Int) == (y.length : Int)) = false := by
      rw [beq_eq_false_iff_ne]
      omega
    have hl4 : ¬ ((x.length : Int) = (y.length : Int)) := by omega
    rw [decide_eq_false hne]
    replace hca := Lib.hid hca
    replace hcb := Lib.hid hcb
    replace hl := Lib.hid hl
    replace hne := Lib.hid hne
    go_enter Tryz.func22, Tryz.ntmps22
    go_wp2
    go_ret
    exact ⟨rfl, Below.refl _ _⟩

end Go.Proofs.YtemdinjiplglgaaGreat

namespace Go.Proofs.YtemdinjiplglgaaGreat

/-! ### how long the files of a built tree are -/

structure DataLe (T : Fs) (n : Nat) : Prop where
  le : ∀ j, (T.nd j).data.length ≤ n
theorem dl_mono {T : Fs} {n m : Nat} (h : DataLe T n) (hm : n ≤ m) : DataLe T m := ⟨fun j => Nat.le_trans (h.le j) hm⟩
theorem dl_upd {T : Fs} {n m : Nat} (h : DataLe T n) (hm : n ≤ m) {f : Nat → Nd} {i : Nat} {x : Nd} (hx : x.data.length ≤ m) (hf : f = fun j => if j = i then x else T.nd j) (j : Nat) : (f j).data.length ≤ m := by
  subst hf
  dsimp only
  split
  · exact hx
  · exact Nat.le_trans (h.le j) hm
theorem dl_add {T : Fs} {n m : Nat} (h : DataLe T n) (hm : n ≤ m) (p : Pt) {x : Nd} (hx : x.data.length ≤ m) : DataLe (T.add p x) m := ⟨dl_upd h hm hx rfl⟩
theorem dl_set {T : Fs} {n m : Nat} (h : DataLe T n) (hm : n ≤ m) (i : Nat) {x : Nd} (hx : x.data.length ≤ m) : DataLe (T.set i x) m := ⟨dl_upd h hm hx rfl⟩
theorem dl_name {T : Fs} {n m : Nat} (h : DataLe T n) (hm : n ≤ m) (p : Pt) (i : Nat) : DataLe (T.name p i) m := ⟨dl_upd h hm (x := { T.nd i with links := (T.nd i).links + 1 }) (Nat.le_trans (h.le i) hm) rfl⟩
theorem dl_gone {T : Fs} {n m : Nat} (h : DataLe T n) (hm : n ≤ m) (p : Pt) (i : Nat) : DataLe (T.gone p i) m := ⟨dl_upd h hm (x := { T.nd i with links := (T.nd i).links - 1 }) (Nat.le_trans (h.le i) hm) rfl⟩
theorem dl_move {T : Fs} {n m : Nat} (h : DataLe T n) (hm : n ≤ m) (o p : Pt) : DataLe (T.move o p) m := ⟨(dl_mono h hm).le⟩
theorem dl_over {T : Fs} {n m : Nat} (h : DataLe T n) (hm : n ≤ m) (o p : Pt) (j : Nat) : DataLe ((T.gone p j).move o p) m := ⟨(dl_gone h hm p j).le⟩

set_option maxHeartbeats 2000000 in
theorem dl_act {T : Fs} {n : Nat} (h : DataLe T n) (a : Act17) (ha : a.data.length ≤ 400) : DataLe (T.act a).1 (n + 400) := by
  have hm : n ≤ n + 400 := by omega
  have h0 : DataLe T (n + 400) := dl_mono h hm
  have g1 : ∀ s m, DataLe (T.mkdir s m).1 (n + 400) := fun s m => by unfold Fs.mkdir; (repeat' split); all_goals first | exact h0 | exact dl_add h hm _ (by simp)
  have g2 : ∀ s m, DataLe (T.write s a.data m).1 (n + 400) := fun s m => by unfold Fs.write; (repeat' split); all_goals first | exact h0 | exact dl_add h hm _ (by dsimp only; omega) | exact dl_set h hm _ (by dsimp only; omega)
  have g3 : ∀ s t m, DataLe (T.symlink s t m).1 (n + 400) := fun s t m => by unfold Fs.symlink; (repeat' split); all_goals first | exact h0 | exact dl_add h hm _ (by simp)
  have g4 : ∀ o p, DataLe (T.link o p).1 (n + 400) := fun o p => by unfold Fs.link; (repeat' split); all_goals first | exact h0 | exact dl_name h hm _ _
  have g5 : ∀ s, DataLe (T.remove s).1 (n + 400) := fun s => by unfold Fs.remove; (repeat' split); all_goals first | exact h0 | exact dl_gone h hm _ _
  have g6 : ∀ o p, DataLe (T.rename o p).1 (n + 400) := fun o p => by unfold Fs.rename Fs.ren2 Fs.ren3; (repeat' split); all_goals first | exact h0 | exact dl_move h hm _ _ | exact dl_over h hm _ _ _
  have g7 : ∀ s m, DataLe (T.setM s m).1 (n + 400) := fun s m => by unfold Fs.setM; (repeat' split); all_goals first | exact h0 | exact dl_set h hm _ (Nat.le_trans (h.le _) hm)
  have g8 : ∀ s, DataLe (T.append s a.data).1 (n + 400) := fun s => by
    unfold Fs.append
    (repeat' split)
    all_goals first
      | exact h0
      | (refine dl_set h hm _ ?_
         dsimp only
         rw [List.length_append]
         exact Nat.add_le_add (h.le _) ha)
  unfold Fs.act
  repeat' split
  all_goals first | exact g1 _ _ | exact g2 _ _ | exact g3 _ _ _ | exact g4 _ _ | exact g5 _ | exact g6 _ _ | exact g7 _ _ | exact g8 _ | exact h0

set_option maxHeartbeats 2000000 in
theorem dl_acts {T : Fs} (hT : DataLe T 0) : ∀ l : List Act17, (∀ a ∈ l, a.data.length ≤ 400) → DataLe (T.acts l) (400 * l.length) := by
  refine snoc_rec (fun _ => by simpa [Fs.acts] using hT) fun l a ih h => ?_
  rw [acts_snoc]
  have := dl_act (ih fun x hx => h x (List.mem_append_left _ hx)) a (h a (by simp))
  simpa [Nat.mul_add] using this

theorem dl_build {l : List Act17} (h : small l = true) : DataLe (Fs.build l) 16000 := by
  obtain ⟨h1, h2⟩ := small_at h
  have h3 : DataLe Fs.start 0 := ⟨fun j => by simp [Fs.start]⟩
  exact dl_mono (dl_acts h3 l fun a ha => (h2 a ha).1) (by omega)

/-! ### the names of a file -/

section
variable {T : Fs}

theorem stat_kind (hI : T.Inv) {p : Bytes} (h : (T.stat p).1.kind = 1) : right p = true ∧ ∃ i, (split p, i) ∈ T.names ∧ (T.nd i).kind = 1 ∧ T.stat p = (T.tell (split p) i, 0) := by
  have hz : (T.there p).2.2 = 0 := by
    unfold Fs.stat at h
    by_cases hz : (T.there p).2.2 = 0
    · exact hz
    · rw [if_neg hz] at h
      cases h
  obtain ⟨h1, i, _, h3⟩ := there_zero hI hz
  have h4 := stat_name hI h1 h3
  rw [h4] at h
  exact ⟨h1, i, h3, h, h4⟩

theorem not_top (hI : T.Inv) {i : Nat} (hk : (T.nd i).kind = 1) : i ≠ 1 := fun e => by
  subst e
  rw [hI.topKind] at hk
  cases hk
theorem not_empty (hI : T.Inv) {p : Bytes} {i : Nat} (hm : (split p, i) ∈ T.names) (hk : (T.nd i).kind = 1) : p ≠ [] := fun e => by
  subst e
  exact not_top hI hk (hI.at_one hm hI.one)

theorem nameList_file (hI : T.Inv) {p : Bytes} {i : Nat} (hr : right p = true) (hm : (split p, i) ∈ T.names) (hk : (T.nd i).kind = 1) :
    T.nameList p = sortP (((T.below []).filter fun y => y.2 = i).map fun y => glue y.1) := by
  obtain ⟨h1, h2⟩ := there_name hI hr hm
  unfold Fs.nameList
  rw [if_neg (by simp [h2, not_empty hI hm hk]), h1]
  dsimp only
  rw [if_pos hk]

theorem names_len (hI : T.Inv) {p : Bytes} {i : Nat} (hr : right p = true) (hm : (split p, i) ∈ T.names) (hk : (T.nd i).kind = 1) : ((T.nameList p).length : Int) = (T.nd i).links := by
  rw [nameList_file hI hr hm hk, (sortP_perm _).length_eq, List.length_map, hI.links _ _ hm, count_names hI (not_top hI hk)]

theorem names_mem (hI : T.Inv) {p : Bytes} {i : Nat} (hr : right p = true) (hm : (split p, i) ∈ T.names) (hk : (T.nd i).kind = 1) {n : Bytes} (hn : n ∈ T.nameList p) : right n = true ∧ (split n, i) ∈ T.names := by
  rw [nameList_file hI hr hm hk, (sortP_perm _).mem_iff, List.mem_map] at hn
  obtain ⟨⟨t, j⟩, h1, rfl⟩ := hn
  obtain ⟨h2, h3⟩ := List.mem_filter.1 h1
  simp only [decide_eq_true_eq] at h3
  subst h3
  obtain ⟨_, h4⟩ := mem_below.1 h2
  rw [List.nil_append] at h4
  obtain ⟨g1, g2⟩ := (hI.pth _ _ h4).text
  exact ⟨g1, by dsimp only; rw [g2]; exact h4⟩

theorem names_nodup (hI : T.Inv) {p : Bytes} {i : Nat} (hr : right p = true) (hm : (split p, i) ∈ T.names) (hk : (T.nd i).kind = 1) : (T.nameList p).Nodup := by
  rw [nameList_file hI hr hm hk, (sortP_perm _).nodup_iff]
  exact (List.filter_sublist.map _).nodup (below_glue_nodup hI)

/-- What the walk finds. -/
structure OneFile (T T2 : Fs) (f : Int) (p b : Bytes) (m : Mt) (n0 : Bytes) : Prop where
  set : f = 0 → (T2.stat p).1.mt = m
  data : ∃ c, (T2.read p).1 = c ++ b
  all : ∀ n ∈ T.nameList p, T2.read n = ((T2.read p).1, 0) ∧ T2.stat n = ((T2.stat p).1, 0)
  out : (T2.remove n0).2 = 0
  rest : ∀ n ∈ T.nameList p, n ≠ n0 → ((T2.remove n0).1.read n).1 = (T2.read p).1 ∧ (T2.remove n0).1.stat n = ({ (T2.stat p).1 with links := (T.nameList p).length - 1 }, 0)
  none : ((T2.remove n0).1.stat n0).2 = 10
  short : ∀ n ∈ T.nameList p, n.length ≤ 200
  few : T2.names = T.names

theorem set_names (i : Nat) (n : Nd) : (T.set i n).names = T.names := rfl
theorem set_nd (i : Nat) (n : Nd) : (T.set i n).nd i = n := by simp [Fs.set]

theorem one_file (hI : T.Inv) {p b : Bytes} {m : Mt} {n0 : Bytes} (hk : (T.stat p).1.kind = 1) (hd : DataLe T 16000) (hb : b.length ≤ 400) (hn : n0 ∈ T.nameList p) : (T.append p b).2 = 0 ∧ OneFile T ((T.append p b).1.setM n0 m).1 ((T.append p b).1.setM n0 m).2 p b m n0 := by
  obtain ⟨hr, i, hm, hki, _⟩ := stat_kind hI hk
  have hnm := fun n (h : n ∈ T.nameList p) => names_mem hI hr hm hki h
  have hln := names_len hI hr hm hki
  have hne := fun n (h : n ∈ T.nameList p) => not_empty hI (hnm n h).2 hki
  have hdi := hd.le i
  have hE : T.append p b = (T.set i { T.nd i with data := (T.nd i).data ++ b }, 0) := by
    unfold Fs.append
    rw [file_name hI hr hm hki, if_neg (by simp)]
    dsimp only
    rw [if_neg (by omega)]
  obtain ⟨q1, q2, q3⟩ := hI.plain _ _ hm
  have hI1 : (T.set i { T.nd i with data := (T.nd i).data ++ b }).Inv := by
    refine set_inv hI ⟨hI.kinds _ _ hm, ?_, ⟨?_, q2, q3⟩⟩ rfl rfl
    · dsimp only; rw [List.length_append]; omega
    · intro h; exact absurd hki h
  obtain ⟨hr0, hm0⟩ := hnm n0 hn
  -- behind Set
  have hS : ∃ N : Nd, N.kind = 1 ∧ N.links = (T.nd i).links ∧ N.data = (T.nd i).data ++ b ∧ ((T.append p b).1.setM n0 m).1.names = T.names ∧ ((T.append p b).1.setM n0 m).1.nd i = N ∧ ((T.append p b).1.setM n0 m).1.Inv ∧
      (((T.append p b).1.setM n0 m).2 = 0 → N.mt = m) ∧ ∀ j, (T.nd j).kind = 2 → (((T.append p b).1.setM n0 m).1.nd j).kind = 2 := by
    rw [hE]
    dsimp only
    generalize hT1 : T.set i { T.nd i with data := (T.nd i).data ++ b } = T1 at *
    have hn1 : T1.names = T.names := by rw [← hT1]; rfl
    have hd1 : T1.nd i = { T.nd i with data := (T.nd i).data ++ b } := by rw [← hT1]; exact set_nd _ _
    have hk1 : ∀ j, (T.nd j).kind = 2 → (T1.nd j).kind = 2 := fun j hj => by
      have : j ≠ i := fun e => by subst e; rw [hki] at hj; cases hj
      rw [← hT1]
      simp [Fs.set, this, hj]
    obtain ⟨t1, t2⟩ := there_name hI1 hr0 (by rw [hn1]; exact hm0)
    unfold Fs.setM
    by_cases hme : mayE n0 m ≠ 0
    · rw [if_pos hme]
      exact ⟨T1.nd i, by rw [hd1]; exact hki, by rw [hd1], by rw [hd1], hn1, rfl, hI1, fun h => absurd h hme, hk1⟩
    · rw [if_neg hme, if_neg (by simp [t2]), t1]
      dsimp only
      refine ⟨{ T1.nd i with mt := m }, by rw [hd1]; exact hki, by rw [hd1], by rw [hd1], hn1, set_nd _ _, ?_, fun _ => rfl, fun j hj => ?_⟩
      · have hm1 : (split p, i) ∈ T1.names := by rw [hn1]; exact hm
        obtain ⟨r1, r2, r3⟩ := hI1.plain _ _ hm1
        exact set_inv hI1 ⟨hI1.kinds _ _ hm1, hI1.data _ _ hm1, ⟨r1, r2, r3⟩⟩ rfl rfl
      · have : j ≠ i := fun e => by subst e; rw [hki] at hj; cases hj
        simp [Fs.set, this, hk1 j hj]
  obtain ⟨N, n1, n2, n3, e1, e2, hI2, e3, e4⟩ := hS
  have hput : (T.append p b).2 = 0 := by rw [hE]
  refine ⟨hput, ?_⟩
  clear hput hE
  generalize ((T.append p b).1.setM n0 m).2 = f at *
  generalize ((T.append p b).1.setM n0 m).1 = T2 at *
  have hk2 : (T2.nd i).kind = 1 := by rw [e2]; exact n1
  have hm2 : (split p, i) ∈ T2.names := by rw [e1]; exact hm
  have hnm2 := fun n (h : n ∈ T.nameList p) => (show (split n, i) ∈ T2.names by rw [e1]; exact (hnm n h).2)
  have htell : ∀ q, T2.tell q i = ⟨1, i, (T2.nd i).data.length, N.links, N.mt, (T2.nd i).target⟩ := fun q => by
    unfold Fs.tell Fs.size
    rw [if_pos hk2, hk2]
    rw [e2]
  have hrm : T2.remove n0 = (T2.gone (split n0) i, 0) := by
    obtain ⟨t1, t2⟩ := there_name hI2 hr0 (hnm2 n0 hn)
    unfold Fs.remove
    rw [if_neg (by simp [hr0]), if_neg (hne n0 hn), if_neg (by simp [t2]), t1]
    dsimp only
    rw [if_neg (by simp [kids_file hI2 (hnm2 n0 hn) (by rw [hk2]; decide)])]
  have hs0 : split n0 ≠ [] := split_ne_nil (hne n0 hn)
  have hI3 : (T2.gone (split n0) i).Inv := gone_inv hI2 (hnm2 n0 hn) hs0 (kids_file hI2 (hnm2 n0 hn) (by rw [hk2]; decide))
  have hnd3 : (T2.gone (split n0) i).nd i = { T2.nd i with links := (T2.nd i).links - 1 } := by simp [Fs.gone]
  have hk3 : ((T2.gone (split n0) i).nd i).kind = 1 := by rw [hnd3]; exact hk2
  refine ⟨?_, ?_, ?_, ?_, ?_, ?_, ?_, e1⟩
  · intro h
    rw [stat_name hI2 hr hm2, htell]
    exact e3 h
  · exact ⟨(T.nd i).data, by rw [read_name hI2 hr hm2 hk2, e2, n3]⟩
  · intro n h
    rw [read_name hI2 hr hm2 hk2, read_name hI2 (hnm n h).1 (hnm2 n h) hk2, stat_name hI2 hr hm2, stat_name hI2 (hnm n h).1 (hnm2 n h), htell, htell]
    exact ⟨rfl, rfl⟩
  · rw [hrm]
  · intro n h hne0
    have hsn : split n ≠ split n0 := fun e => hne0 (by have := congrArg glue e; rwa [glue_split, glue_split] at this)
    have hm3 : (split n, i) ∈ (T2.gone (split n0) i).names := (mem_gone _ _).2 ⟨hnm2 n h, hsn⟩
    rw [hrm]
    dsimp only
    rw [read_name hI3 (hnm n h).1 hm3 hk3, read_name hI2 hr hm2 hk2, stat_name hI3 (hnm n h).1 hm3, stat_name hI2 hr hm2, htell, hnd3]
    refine ⟨rfl, ?_⟩
    unfold Fs.tell Fs.size
    rw [hk3, if_pos rfl, hnd3, e2]
    dsimp only
    rw [hln, ← n2]
  · rw [hrm]
    dsimp only
    obtain ⟨d, hd1, hd2⟩ := hI.up _ _ hm0 hs0
    rw [stat_missing hI3 hr0 (hne n0 hn) (d := d) ((mem_gone _ _).2 ⟨by rw [e1]; exact hd1, dropLast_ne hs0⟩) (by rw [gone_kind]; exact e4 d hd2) (Fs.at_none.2 fun k hk => ((mem_gone _ _).1 hk).2 rfl)]
  · intro n h
    have := (hnm n h).1
    simp only [right, Bool.and_eq_true, decide_eq_true_eq] at this
    exact this.2

end

end Go.Proofs.YtemdinjiplglgaaGreat

namespace Go.Proofs.YtemdinjiplglgaaGreat
open Go.RowKit

theorem RdB.string {W : World} {v : Value} {l : Bytes} (h : RdB W v l) : (convert 38 9 v).run Tryz.prog W = .ok (.string (mkS l)) W := by
  obtain ⟨A, c, rfl, h2, h3, h4⟩ := h
  by_cases hl : l = []
  · subst hl
    exact run_convert_bytes_zero W 38 5 Tryz.underlying38 Tryz.underlying5 A c 9 Tryz.underlying9
  · have hp : 0 < l.length := List.length_pos_iff.2 hl
    obtain ⟨g, o, rfl, _⟩ := h4 0 hp
    rw [← strOfNums_bytes l]
    refine run_convert_bytes_arg W 38 5 Tryz.underlying38 Tryz.underlying5 g o l.length c (l.map fun b => (b.toNat : Int)) (by simp) (fun i hi => ?_) 9 Tryz.underlying9
    obtain ⟨g', o', e', hc⟩ := h4 i hi
    cases e'
    rw [hc]
    simp [hi]

/-- The end of a file's bytes, as a slice of them. -/
theorem Dat.tail {W : World} {bA : Option Addr} {D cp b : Bytes} {bc : Nat} (h : Dat W (.slice bA D.length bc) D) (hD : D = cp ++ b) :
    RdB W (.slice (if bc = D.length - b.length then bA else Option.map (fun x => x.add (D.length - b.length)) bA) (D.length - (D.length - b.length)) (bc - (D.length - b.length))) b := by
  have hl : D.length = cp.length + b.length := by rw [hD, List.length_append]
  rcases h with ⟨h1, h2⟩ | ⟨g, c, cur, h1, h2, h3, h4, h5, h6⟩
  · have hb : b = [] := by
      rw [h2] at hD
      exact (List.append_eq_nil_iff.1 hD.symm).2
    subst hb
    simp only [Value.slice.injEq] at h1
    obtain ⟨rfl, h0, rfl⟩ := h1
    exact ⟨none, 0, by simp [h2], Nat.zero_le _, by simp [maxLen], fun k hk => by simp at hk⟩
  · simp only [Value.slice.injEq, true_and] at h1
    obtain ⟨rfl, rfl⟩ := h1
    refine ⟨if bc = D.length - b.length then some ⟨g, 0, none⟩ else Option.map (fun x : Addr => x.add (D.length - b.length)) (some ⟨g, 0, none⟩), bc - (D.length - b.length), ?_, by omega, by omega, fun k hk => ⟨g, D.length - b.length, ?_, ?_⟩⟩
    · rw [show D.length - (D.length - b.length) = b.length by omega]
    · rw [if_neg (by omega)]
      simp only [Option.map_some, Addr.add, Nat.zero_add]
      split
      · rename_i h0
        rw [h0]
      · rfl
    · refine cell_of (j := D.length - b.length + k) h2 ?_
      have e : cur.toList[D.length - b.length + k]? = (byteCells D)[D.length - b.length + k]? := by
        rw [← h6, List.getElem?_take_of_lt (by omega)]
      rw [← Array.getElem?_toList, e]
      unfold byteCells
      rw [List.getElem?_map, hD, List.getElem?_append_right (by rw [List.length_append]; omega)]
      rw [show (cp ++ b).length - b.length + k - cp.length = k by rw [List.length_append]; omega]
      simp [hk]

/-- A row of names as one block. -/
theorem row_block {B : Nat} {W : World} {v : Value} {l : List Bytes} (h : Strs B W v l) (hl : 0 < l.length) : ∃ g c X, v = .slice (some ⟨g, 0, none⟩) l.length c ∧ l.length ≤ c ∧ c ≤ maxLen ∧ B ≤ g ∧ W.heap[g]? = some (.cells X 9 (0, 0)) ∧
    ∀ W' : World, W'.heap[g]? = some (.cells X 9 (0, 0)) → ∀ k (hk : k < l.length), W'.cell? ⟨g, k, none⟩ = some (.string (mkS l[k])) := by
  rcases h.block with ⟨_, _, rfl, _⟩ | ⟨g, c, pad, rfl, h1, h2, h3, h4, h5⟩
  · simp at hl
  · refine ⟨g, c, _, rfl, h3, h4, h1, h2, fun W' hW' k hk => cell_of (j := k) hW' ?_⟩
    rw [List.getElem?_toArray, List.getElem?_append_left (by simpa [strs] using hk)]
    simp [strs, hk]

theorem Stp.turn {w w' : World} {tb : Nat} {A M : Nat → Nat} {T T' : Fs} (h : Stp w w' tb A M T T') : Turn w w' (Own tb A M T) := by
  obtain ⟨_, _, _, h2, _⟩ := h
  exact h2

/-- A block of another type stays. -/
theorem Stp.cells {w w' : World} {tb : Nat} {A M : Nat → Nat} {T T' : Fs} (h : Stp w w' tb A M T T') (hR : Rep w tb A M T) {g : Nat} {cs : Array Value} {t : TypeId} {f : Nat × Nat} (hg : w.heap[g]? = some (.cells cs t f)) (h1 : t ≠ 74) (h2 : t ≠ 77) :
    w'.heap[g]? = some (.cells cs t f) := (h.turn.block g (Array.getElem?_eq_some_iff.1 hg).1 (hR.not_own hg h1 h2)).trans hg

theorem Dat.stp {w w' : World} {tb : Nat} {A M : Nat → Nat} {T T' : Fs} {v : Value} {l : Bytes} (h : Dat w v l) (hR : Rep w tb A M T) (hs : Stp w w' tb A M T T') : Dat w' v l :=
  h.kept fun g ⟨cs, hg⟩ => (hs.turn.block g (Array.getElem?_eq_some_iff.1 hg).1 (hR.not_own hg (by decide) (by decide)))
theorem Dat.below {w w' : World} {v : Value} {l : Bytes} (h : Dat w v l) (hB : Below w.heap.size w w') : Dat w' v l :=
  h.kept fun g ⟨_, hg⟩ => hB.block g (Array.getElem?_eq_some_iff.1 hg).1

theorem type_ne {w : World} {x g : Nat} {cs ds : Array Value} {t u : TypeId} {f f' : Nat × Nat} (hx : w.heap[x]? = some (.cells cs t f)) (hg : w.heap[g]? = some (.cells ds u f')) (h : t ≠ u) : g ≠ x := by
  rintro rfl
  rw [hx] at hg
  cases hg
  exact h rfl

/-- .. and where a record of another type is written. -/
theorem Dat.setCell {w : World} {v : Value} {l : Bytes} (h : Dat w v l) {x : Nat} {cs : Array Value} {t : TypeId} {f : Nat × Nat} (hx : w.heap[x]? = some (.cells cs t f)) (ht : t ≠ 5) (k : Nat) (u : Value) : Dat (w.setCell ⟨x, k, none⟩ u) v l :=
  h.kept fun _ ⟨_, hg⟩ => heap_set_other w (type_ne hx hg ht) k u
theorem Rep.setCell {w : World} {tb : Nat} {A M : Nat → Nat} {T : Fs} (h : Rep w tb A M T) {x : Nat} {cs : Array Value} {t : TypeId} {f : Nat × Nat} (hx : w.heap[x]? = some (.cells cs t f)) (h1 : t ≠ 5) (h2 : t ≠ 74) (h3 : t ≠ 77) (k : Nat) (u : Value) : Rep (w.setCell ⟨x, k, none⟩ u) tb A M T :=
  h.kept (fun b hb => heap_set_other w (by rintro rfl; exact h.not_own hx h2 h3 hb) k u) (fun _ ⟨_, hg⟩ => heap_set_other w (type_ne hx hg h1) k u)

end Go.Proofs.YtemdinjiplglgaaGreat

namespace Go.Proofs.YtemdinjiplglgaaGreat
open Go.RowKit

set_option maxHeartbeats 2000000 in
set_option maxRecDepth 100000 in
theorem thing_calls (tb rb : Nat) (v : Value) (A M B : Nat → Nat) (T : Fs) (s : ByteArray) (w : World) (hU : Rep w tb A M T) (hR : RRep w rb v B T) (hs : s.size ≤ 16777216) (hf : T.names.length ≤ 1000000) :
    Calls Tryz.prog 21 #[ptr tb, ptr rb, .string s, .bool true] w fun e w' => e = .returned (.bool true) ∧ Below w.heap.size w w' := by
  have h1 := fun W hW => stat_calls tb A M T s W hW hs
  have h2 := fun W hW => rstat_calls rb v B T s W hW hs hf
  have h3 := fun W hW => read_calls tb A M T s W hW hs
  have h4 := fun W hW => rread_calls rb v B T s W hW hs
  have h5 := fun W hW => list_calls tb A M T s W hW hs hf
  have h6 := fun W hW => rlist_calls rb v B T s W hW hs hf
  have h7 := fun W hW => namesof_calls tb A M T s W hW hs hf
  have h8 := fun W hW => rnames_calls rb v B T s W hW hs hf
  generalize T.stat (bl s) = st at *
  obtain ⟨st, se⟩ := st
  obtain ⟨kd, ino, sz, ln, mt, tg⟩ := st
  obtain ⟨m1, m2, m3, m4, m5⟩ := mt
  unfold statV statCells ptr at *
  dsimp only at *
  replace h1 := Lib.hid h1
  replace h2 := Lib.hid h2
  replace h3 := Lib.hid h3
  replace h4 := Lib.hid h4
  replace h5 := Lib.hid h5
  replace h6 := Lib.hid h6
  replace h7 := Lib.hid h7
  replace h8 := Lib.hid h8
  go_enter Tryz.func21, Tryz.ntmps21
  go_wp2_with fail
  (with_reducible refine (h1.out _ hU).mono ?_)
  rintro e w1 ⟨rfl, hB1⟩
  have e1 := (MapKept.heap_alloc w1 (.cells #[.int .i64 kd, .int .i64 ino, .int .i64 sz, .int .i64 ln, .int .i64 m1, .int .i64 m2, .int .i64 m3, .int .i64 m4, .int .i64 m5, .string (mkS tg)] 50)).1
  have hB2 := below_step hB1 (below_alloc (Below.refl _ _) (.cells #[.int .i64 kd, .int .i64 ino, .int .i64 sz, .int .i64 ln, .int .i64 m1, .int .i64 m2, .int .i64 m3, .int .i64 m4, .int .i64 m5, .string (mkS tg)] 50))
  have hU2 := hU.below hB2
  have hR2 := hR.below hB2
  have hsz1 := hB1.size
  go_upto_region 2 with fail
  generalize w1.alloc (.cells #[.int .i64 kd, .int .i64 ino, .int .i64 sz, .int .i64 ln, .int .i64 m1, .int .i64 m2, .int .i64 m3, .int .i64 m4, .int .i64 m5, .string (mkS tg)] 50) = W1 at *
  generalize w1.heap.size = n1 at *
  replace e1 := Lib.hid e1
  replace hB2 := Lib.hid hB2
  replace hU2 := Lib.hid hU2
  replace hR2 := Lib.hid hR2
  replace hB1 := Lib.hid hB1
  go_wp2_with fail
  (with_reducible refine (h2.out _ hR2.out).mono ?_)
  rintro e w2 ⟨rfl, hB3⟩
  have e2 := (hB3.block n1 (Array.getElem?_eq_some_iff.1 e1.out).1).trans e1.out
  have e3 := (MapKept.heap_alloc w2 (.cells #[.int .i64 kd, .int .i64 ino, .int .i64 sz, .int .i64 ln, .int .i64 m1, .int .i64 m2, .int .i64 m3, .int .i64 m4, .int .i64 m5, .string (mkS tg)] 50)).1
  have hA2 := below_alloc (Below.refl w2.heap.size w2) (.cells #[.int .i64 kd, .int .i64 ino, .int .i64 sz, .int .i64 ln, .int .i64 m1, .int .i64 m2, .int .i64 m3, .int .i64 m4, .int .i64 m5, .string (mkS tg)] 50)
  have hlt2 := (Array.getElem?_eq_some_iff.1 e2).1
  have e4 := (hA2.block n1 hlt2).trans e2
  have hB4 := below_step (below_step hB2.out hB3) hA2
  have hU4 := hU.below hB4
  have hR4 := hR.below hB4
  clear e2 hB3 hU2 hR2 e1 hA2
  go_upto_region 5 with fail
  generalize w2.alloc (.cells #[.int .i64 kd, .int .i64 ino, .int .i64 sz, .int .i64 ln, .int .i64 m1, .int .i64 m2, .int .i64 m3, .int .i64 m4, .int .i64 m5, .string (mkS tg)] 50) = W2 at *
  generalize w2.heap.size = n2 at *
  replace e3 := Lib.hid e3
  replace e4 := Lib.hid e4
  replace hB4 := Lib.hid hB4
  replace hU4 := Lib.hid hU4
  replace hR4 := Lib.hid hR4
  go_wp2_with fail
  (with_reducible refine (h3.out _ hU4.out).mono ?_)
  rintro e w3 ⟨⟨v3, rfl, b3⟩, hB5⟩
  obtain ⟨a3, c3, hv3, _, _⟩ := own_shape b3.own
  subst hv3
  have hB5' := below_step hB4.out hB5
  have hR5 := hR.below hB5'
  replace b3 := Lib.hid b3
  replace hB5' := Lib.hid hB5'
  replace hR5 := Lib.hid hR5
  replace hB5 := Lib.hid hB5
  go_wp2_with fail
  (with_reducible refine (h4.out _ hR5.out).mono ?_)
  rintro e w4 ⟨⟨v4, rfl, b4⟩, hB6⟩
  obtain ⟨a4, c4, hv4, _, _⟩ := own_shape b4.own
  subst hv4
  have hB6' := below_step hB5'.out hB6
  have hU6 := hU.below hB6'
  replace b4 := Lib.hid b4
  replace hB6' := Lib.hid hB6'
  replace hU6 := Lib.hid hU6
  replace hB6 := Lib.hid hB6
  go_wp2_with fail
  (with_reducible refine (h5.out _ hU6.out).mono ?_)
  rintro e w5 ⟨⟨v5, rfl, s5⟩, hB7⟩
  obtain ⟨a5, c5, hv5, _, _⟩ := own_shape s5.own
  subst hv5
  have hB7' := below_step hB6'.out hB7
  have hR7 := hR.below hB7'
  replace s5 := Lib.hid s5
  replace hB7' := Lib.hid hB7'
  replace hR7 := Lib.hid hR7
  replace hB7 := Lib.hid hB7
  go_wp2_with fail
  (with_reducible refine (h6.out _ hR7.out).mono ?_)
  rintro e w6 ⟨⟨v6, rfl, s6⟩, hB8⟩
  obtain ⟨a6, c6, hv6, _, _⟩ := own_shape s6.own
  subst hv6
  have hB8' := below_step hB7'.out hB8
  replace s6 := Lib.hid s6
  replace hB8' := Lib.hid hB8'
  replace hB8 := Lib.hid hB8
  have hB68 := below_step hB7.out hB8.out
  have hB58 := below_step hB6.out hB68
  have hB48 := below_step hB5.out hB58
  have cv1 := RdB.string ((Byts.rdb b3.out).below hB58)
  have cv2 := RdB.string ((Byts.rdb b4.out).below hB68)
  have e3' := (hB48.block n2 (Array.getElem?_eq_some_iff.1 e3.out).1).trans e3.out
  have e4' := (hB48.block n1 (Array.getElem?_eq_some_iff.1 e4.out).1).trans e4.out
  have hU8 := hU.below hB8'.out
  have hR8 := hR.below hB8'.out
  have k1 := rtexts_calls _ _ _ _ w6 ((Strs.rd s5.out).below hB8.out) (Strs.rd s6.out)
  rw [decide_eq_true rfl] at k1
  have p0 := cell_of (j := 0) e4' rfl
  have q0 := cell_of (j := 0) e3' rfl
  have p1 := cell_of (j := 1) e4' rfl
  have q1 := cell_of (j := 1) e3' rfl
  have p2 := cell_of (j := 2) e4' rfl
  have q2 := cell_of (j := 2) e3' rfl
  have p3 := cell_of (j := 3) e4' rfl
  have q3 := cell_of (j := 3) e3' rfl
  have p4 := cell_of (j := 4) e4' rfl
  have q4 := cell_of (j := 4) e3' rfl
  have p5 := cell_of (j := 5) e4' rfl
  have q5 := cell_of (j := 5) e3' rfl
  have p6 := cell_of (j := 6) e4' rfl
  have q6 := cell_of (j := 6) e3' rfl
  have p7 := cell_of (j := 7) e4' rfl
  have q7 := cell_of (j := 7) e3' rfl
  have p8 := cell_of (j := 8) e4' rfl
  have q8 := cell_of (j := 8) e3' rfl
  have p9 := cell_of (j := 9) e4' rfl
  have q9 := cell_of (j := 9) e3' rfl
  replace cv1 := cv1
  replace e3' := Lib.hid e3'
  replace e4' := Lib.hid e4'
  replace hU8 := Lib.hid hU8
  replace hR8 := Lib.hid hR8
  replace k1 := Lib.hid k1
  clear hB68 hB58 hB48
  go_wp2_with fail
  (with_reducible refine (k1.out).mono ?_)
  rintro e w7 ⟨rfl, hB9⟩
  have hU9 := hU8.out.below hB9
  have hB9' := below_step hB8'.out hB9
  replace hU9 := Lib.hid hU9
  replace hB9' := Lib.hid hB9'
  replace hB9 := Lib.hid hB9
  go_wp2_with fail
  (with_reducible refine (h7.out _ hU9.out).mono ?_)
  rintro e w8 ⟨⟨v8, rfl, s8⟩, hB10⟩
  obtain ⟨a8, c8, hv8, _, _⟩ := own_shape s8.own
  subst hv8
  have hB10' := below_step hB9'.out hB10
  have hR10 := hR.below hB10'
  replace s8 := Lib.hid s8
  replace hR10 := Lib.hid hR10
  replace hB10' := Lib.hid hB10'
  replace hB10 := Lib.hid hB10
  go_wp2_with fail
  (with_reducible refine (h8.out _ hR10.out).mono ?_)
  rintro e w9 ⟨⟨v9, rfl, s9⟩, hB11⟩
  obtain ⟨a9, c9, hv9, _, _⟩ := own_shape s9.own
  subst hv9
  have hB11' := below_step hB10'.out hB11
  have k2 := rtexts_calls _ _ _ _ w9 ((Strs.rd s8.out).below hB11) (Strs.rd s9)
  rw [decide_eq_true rfl] at k2
  replace s9 := Lib.hid s9
  replace hB11' := Lib.hid hB11'
  replace hB11 := Lib.hid hB11
  replace k2 := Lib.hid k2
  go_wp2_with fail
  (with_reducible refine (k2.out).mono ?_)
  rintro e w10 ⟨rfl, hB12⟩
  have hB12' := below_step hB11'.out hB12
  replace hB12' := Lib.hid hB12'
  replace hB12 := Lib.hid hB12
  go_wp2
  go_ret
  exact ⟨rfl, hB12'.out⟩

end Go.Proofs.YtemdinjiplglgaaGreat

namespace Go.Proofs.YtemdinjiplglgaaGreat

/-- How many of the first paths stand right in a directory, and how many are names of a thing. -/
def inCnt (P : List Bytes) (s : Bytes) (k : Nat) : Nat := ((P.take k).filter fun x => decide (parent x = s)).length
def linkCnt (T : Fs) (i : Nat) (k : Nat) : Nat := ((T.paths.take k).filter fun x => decide ((T.stat x).1.ino = i)).length

theorem cnt_snoc {α : Type} (f : α → Bool) (l : List α) {k : Nat} (hk : k < l.length) : ((l.take (k + 1)).filter f).length = ((l.take k).filter f).length + if f l[k] = true then 1 else 0 := by
  rw [List.take_succ_eq_append_getElem hk, List.filter_append, List.length_append]
  congr 1
  by_cases h : f l[k] = true <;> simp [h]

section
variable {T : Fs}

theorem filter_len_congr {α : Type} {f g : α → Bool} {l : List α} (h : ∀ x ∈ l, f x = g x) : (l.filter f).length = (l.filter g).length := by
  rw [List.filter_congr h]

theorem parent_is {x s : Bytes} (hx : right x = true) : parent x = s ↔ (split x).dropLast = split s := by
  rw [← split_parent hx]
  exact ⟨fun e => by rw [e], fun e => split_inj e⟩

theorem inCnt_all (hI : T.Inv) (s : Bytes) : inCnt T.paths s T.paths.length = (T.kids (split s)).length := by
  unfold inCnt
  rw [List.take_length, paths_count, ← count_kids hI]
  refine filter_len_congr ?_
  rintro ⟨t, j⟩ hm
  obtain ⟨h1, h2⟩ := mem_below.1 hm
  rw [List.nil_append] at h2
  obtain ⟨h3, h4⟩ := (hI.pth _ _ h2).text
  rw [Bool.eq_iff_iff, decide_eq_true_eq, decide_eq_true_eq, parent_is h3, h4]

theorem linkCnt_all (hI : T.Inv) {i : Nat} (hi : i ≠ 1) : linkCnt T i T.paths.length = namesOf T.names i := by
  unfold linkCnt
  rw [List.take_length, paths_count, ← count_names hI hi]
  refine filter_len_congr ?_
  rintro ⟨t, j⟩ hm
  obtain ⟨h1, h2⟩ := mem_below.1 hm
  rw [List.nil_append] at h2
  obtain ⟨h3, h4⟩ := (hI.pth _ _ h2).text
  have := stat_name hI h3 (i := j) (by rw [h4]; exact h2)
  rw [Bool.eq_iff_iff, decide_eq_true_eq, decide_eq_true_eq, this]
  show ((j : Int) = i) ↔ j = i
  omega

/-- One of the paths: what is told of it and of the directory above it. -/
theorem path_at (hI : T.Inv) {k : Nat} (hk : k < T.paths.length) : right (T.paths[k]) = true ∧ T.paths[k] ≠ [] ∧ ∃ i, (split T.paths[k], i) ∈ T.names ∧ i ≠ 1 ∧ 2 ≤ i ∧ T.stat T.paths[k] = (T.tell (split T.paths[k]) i, 0) ∧
    ∃ d, ((split T.paths[k]).dropLast, d) ∈ T.names ∧ (T.nd d).kind = 2 ∧ T.stat (parent T.paths[k]) = (T.tell ((split T.paths[k]).dropLast) d, 0) := by
  obtain ⟨h1, h2, i, h3⟩ := (mem_paths hI).1 (List.getElem_mem hk)
  have hne : i ≠ 1 := fun e => by
    subst e
    exact split_ne_nil h2 (top_nil hI h3)
  have hlt := (hI.lt _ _ h3).1
  obtain ⟨d, h4, h5⟩ := hI.up _ _ h3 (split_ne_nil h2)
  refine ⟨h1, h2, i, h3, hne, by omega, stat_name hI h1 h3, d, h4, h5, ?_⟩
  have hp := split_parent h1
  obtain ⟨h6, h7⟩ := (hI.pth _ _ h4).text
  have := stat_name hI (s := parent T.paths[k]) (i := d) (by unfold parent; exact h6) (by rw [hp]; exact h4)
  rw [hp] at this
  exact this

theorem path_rise (hI : T.Inv) {k : Nat} (hk : k + 1 < T.paths.length) : lessP T.paths[k] T.paths[k + 1] = true := (List.pairwise_iff_getElem.1 (paths_rising hI)) k (k + 1) (by omega) hk (Nat.lt_succ_self k)

/-- What P17.11 says of a name. -/
theorem holds_at (hI : T.Inv) {s : Bytes} {i : Nat} (hr : right s = true) (hs : s ≠ []) (hm : (split s, i) ∈ T.names) (hi : i ≠ 1) :
    ((T.nd i).kind = 2 → T.size (split s) i = inCnt T.paths s T.paths.length) ∧ ((T.nd i).kind ≠ 2 → inCnt T.paths s T.paths.length = 0) ∧ (T.nd i).links = linkCnt T i T.paths.length ∧
      (T.nameList s).length = linkCnt T i T.paths.length ∧ ((T.nd i).kind ≠ 1 → linkCnt T i T.paths.length = 1) := by
  rw [inCnt_all hI, linkCnt_all hI hi]
  have h1 : (T.nd i).kind ≠ 1 → namesOf T.names i = 1 := fun hk => by
    unfold namesOf
    have hsing := hI.single _ i hm hk
    obtain ⟨a, b, e1, e2⟩ := split_at hI.nodup hm
    rw [e1, List.filter_append, List.filter_cons]
    simp only [decide_true, if_true]
    have hno : ∀ x, x ∈ a ∨ x ∈ b → x.2 ≠ i := by
      rintro ⟨q, j⟩ hx rfl
      have hq : (q, j) ∈ T.names := by rw [e1]; rcases hx with h | h <;> simp [h]
      have := hsing q hq
      subst this
      have hm2 : (split s, j) ∈ T.names.filter (fun x => x.1 ≠ split s) := by rw [e2]; rcases hx with h | h <;> simp [h]
      simp at hm2
    rw [List.filter_eq_nil_iff.2 (fun x hx => by simpa using hno x (Or.inl hx)), List.filter_eq_nil_iff.2 (fun x hx => by simpa using hno x (Or.inr hx))]
    rfl
  refine ⟨fun hk => ?_, fun hk => ?_, hI.links _ _ hm, ?_, h1⟩
  · unfold Fs.size
    rw [if_neg (by rw [hk]; decide), if_pos hk]
  · rw [kids_file hI hm hk]
    rfl
  · obtain ⟨g1, g2⟩ := there_name hI hr hm
    unfold Fs.nameList
    rw [if_neg (by simp [g2, hs]), g1]
    dsimp only
    by_cases hk : (T.nd i).kind = 1
    · rw [if_pos hk, (sortP_perm _).length_eq, List.length_map, count_names hI hi]
    · rw [if_neg hk, h1 hk]
      rfl

end

end Go.Proofs.YtemdinjiplglgaaGreat
