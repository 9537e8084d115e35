/-
  remoraref17: New, Build.
  remoraref17: Count, Texts.
  One file of several names: the plain law.
  What stays where a tree of its own turns: rows of names, bytes, records.
  remoralaw17.thing: both trees tell the same of a path.
  What P17.11 says of any tree, the plain law.
  The distance of two strings: what the walks of basis.Apart and of the reference's Apart compute, as a plain function of lists.
  The distance of two strings is a metric: plain laws, no Go in sight.
  The table of distances is the distance of lists; its laws, for strings.
  Score: the walk of the program's, and of what it calls.
  remoralaw22.awake: the chapter's small case.
  What a file is made of, the plain law: itself, a part, or a file beside it whose name is most alike.
  basis.Choose: what a file is made of, in the program.
  An array of 2 strings as an argument.
  The reference's distance (remoraref22.Apart): its walk computes the same plain function of lists.
  What the reference's Score calls: the end of a text.
  The reference's Score (remoraref22.Score): its walk computes the same plain function; and the chapter's small case.
  What the reference chooses: the plain law.
  remoraref22.Choose: what a file is made of, in the reference.
  The calls of a nil tree: all are refused, or tell nothing.
  What a call turns; the number of all names.
  When two trees are the same, path by path: the plain law.
-/
import Derived.Test.YtemdinjiplglgaaGreatB5
import Derived.Test.YtemdinjiplglgaaGreatB4
import Derived.Shelf.Bytes.SlSmallAll
import Derived.Test.YtemdinjiplglgaaGreatB1
import Derived.Test.YtemdinjiplglgaaGreatB2
import Derived.OpenShut
import Derived.Test.YtemdinjiplglgaaGreatB3
set_option linter.unusedVariables false
set_option linter.unusedSimpArgs false

namespace Go.Proofs.YtemdinjiplglgaaGreat
open Go.RowKit

/-- A call that has made the reference's tree T. -/
def RNewTree (w : World) (T : Fs) (e : Ending) (w' : World) : Prop :=
  ∃ (rb : Nat) (v : Value) (A : Nat → Nat), e = .returned (ptr rb) ∧ RRep w' rb v A T ∧ (∀ b, ROwn rb v A T b → w.heap.size ≤ b) ∧ Below w.heap.size w w'

theorem start_live {i : Nat} (h : Fs.start.Live i) : i = 1 := by
  obtain ⟨q, hq⟩ := h
  have : (q, i) ∈ [(([] : Pt), 1)] := hq
  simp only [List.mem_singleton, Prod.mk.injEq] at this
  exact this.2
theorem rnew_rep (w : World) : RRep (((w.alloc (.cells #[.int .i64 2, .int .i64 1, .slice none 0 0, .string ⟨#[]⟩, .int .i64 493, .int .i64 0, .int .i64 0, .int .i64 0, .int .i64 0] 80)).alloc (.cells #[.string ⟨#[]⟩, .pointer (some ⟨w.heap.size, 0, none⟩)] 82)).alloc (.cells #[.slice (some ⟨w.heap.size + 1, 0, none⟩) 1 1, .int .i64 2] 85)) (w.heap.size + 1 + 1) (.slice (some ⟨w.heap.size + 1, 0, none⟩) 1 1) (fun _ => w.heap.size) Fs.start := by
  have s1 : (w.alloc (.cells #[.int .i64 2, .int .i64 1, .slice none 0 0, .string ⟨#[]⟩, .int .i64 493, .int .i64 0, .int .i64 0, .int .i64 0, .int .i64 0] 80)).heap.size = w.heap.size + 1 := by simp
  have s2 : ((w.alloc (.cells #[.int .i64 2, .int .i64 1, .slice none 0 0, .string ⟨#[]⟩, .int .i64 493, .int .i64 0, .int .i64 0, .int .i64 0, .int .i64 0] 80)).alloc (.cells #[.string ⟨#[]⟩, .pointer (some ⟨w.heap.size, 0, none⟩)] 82)).heap.size = w.heap.size + 1 + 1 := by simp
  have a0 := (MapKept.heap_alloc w (.cells #[.int .i64 2, .int .i64 1, .slice none 0 0, .string ⟨#[]⟩, .int .i64 493, .int .i64 0, .int .i64 0, .int .i64 0, .int .i64 0] 80)).1
  have a1 := (MapKept.heap_alloc (w.alloc (.cells #[.int .i64 2, .int .i64 1, .slice none 0 0, .string ⟨#[]⟩, .int .i64 493, .int .i64 0, .int .i64 0, .int .i64 0, .int .i64 0] 80)) (.cells #[.string ⟨#[]⟩, .pointer (some ⟨w.heap.size, 0, none⟩)] 82)).1
  have a2 := (MapKept.heap_alloc ((w.alloc (.cells #[.int .i64 2, .int .i64 1, .slice none 0 0, .string ⟨#[]⟩, .int .i64 493, .int .i64 0, .int .i64 0, .int .i64 0, .int .i64 0] 80)).alloc (.cells #[.string ⟨#[]⟩, .pointer (some ⟨w.heap.size, 0, none⟩)] 82)) (.cells #[.slice (some ⟨w.heap.size + 1, 0, none⟩) 1 1, .int .i64 2] 85)).1
  have hB2 : Below ((w.alloc (.cells #[.int .i64 2, .int .i64 1, .slice none 0 0, .string ⟨#[]⟩, .int .i64 493, .int .i64 0, .int .i64 0, .int .i64 0, .int .i64 0] 80)).alloc (.cells #[.string ⟨#[]⟩, .pointer (some ⟨w.heap.size, 0, none⟩)] 82)).heap.size ((w.alloc (.cells #[.int .i64 2, .int .i64 1, .slice none 0 0, .string ⟨#[]⟩, .int .i64 493, .int .i64 0, .int .i64 0, .int .i64 0, .int .i64 0] 80)).alloc (.cells #[.string ⟨#[]⟩, .pointer (some ⟨w.heap.size, 0, none⟩)] 82)) (((w.alloc (.cells #[.int .i64 2, .int .i64 1, .slice none 0 0, .string ⟨#[]⟩, .int .i64 493, .int .i64 0, .int .i64 0, .int .i64 0, .int .i64 0] 80)).alloc (.cells #[.string ⟨#[]⟩, .pointer (some ⟨w.heap.size, 0, none⟩)] 82)).alloc (.cells #[.slice (some ⟨w.heap.size + 1, 0, none⟩) 1 1, .int .i64 2] 85)) := below_alloc (Below.refl _ _) _
  have hB1 : Below (w.alloc (.cells #[.int .i64 2, .int .i64 1, .slice none 0 0, .string ⟨#[]⟩, .int .i64 493, .int .i64 0, .int .i64 0, .int .i64 0, .int .i64 0] 80)).heap.size (w.alloc (.cells #[.int .i64 2, .int .i64 1, .slice none 0 0, .string ⟨#[]⟩, .int .i64 493, .int .i64 0, .int .i64 0, .int .i64 0, .int .i64 0] 80)) ((w.alloc (.cells #[.int .i64 2, .int .i64 1, .slice none 0 0, .string ⟨#[]⟩, .int .i64 493, .int .i64 0, .int .i64 0, .int .i64 0, .int .i64 0] 80)).alloc (.cells #[.string ⟨#[]⟩, .pointer (some ⟨w.heap.size, 0, none⟩)] 82)) := below_alloc (Below.refl _ _) _
  have b1 := (hB2.block _ (by omega)).trans a1
  have b0 := (hB2.block _ (by omega)).trans ((hB1.block _ (by omega)).trans a0)
  rw [s1] at b1
  rw [s2] at a2
  generalize (((w.alloc (.cells #[.int .i64 2, .int .i64 1, .slice none 0 0, .string ⟨#[]⟩, .int .i64 493, .int .i64 0, .int .i64 0, .int .i64 0, .int .i64 0] 80)).alloc (.cells #[.string ⟨#[]⟩, .pointer (some ⟨w.heap.size, 0, none⟩)] 82)).alloc (.cells #[.slice (some ⟨w.heap.size + 1, 0, none⟩) 1 1, .int .i64 2] 85)) = W at *
  refine ⟨start_inv, a2, ⟨rfl, Or.inr ⟨w.heap.size + 1, 1, _, rfl, Nat.zero_le _, b1, Nat.le_refl _, by simp [maxLen], rfl, rfl⟩⟩, fun i hi => ⟨.slice none 0 0, ?_, ?_⟩, fun i j hi hj _ => by rw [start_live hi, start_live hj]⟩
  · exact dat_nil W
  · rw [start_live hi]
    exact b0

set_option maxHeartbeats 2000000 in
set_option maxRecDepth 100000 in
theorem rnew_calls (w : World) : Calls Tryz.prog 15 #[] w (RNewTree w Fs.start) := by
  go_enter Tryz.func15, Tryz.ntmps15
  go_wp2

  go_ret
  refine ⟨w.heap.size + 1 + 1, _, _, rfl, rnew_rep w, fun b hb => ?_, below_alloc (below_alloc (below_alloc (Below.refl _ _) _) _) _⟩
  rcases hb with rfl | h | ⟨_, _, rfl⟩
  · omega
  · cases h
    exact Nat.le_succ _
  · exact Nat.le_refl _

set_option maxHeartbeats 2000000 in
set_option maxRecDepth 100000 in
theorem rbuild_calls (v : Value) (l : List Act17) (w : World) (hv : Acts w v l) (hs : small l = true) :
    Calls Tryz.prog 12 #[v] w (RNewTree w (Fs.build l)) := by
  obtain ⟨hl40, hsm⟩ := small_at hs
  have hv0 := hv
  obtain ⟨A, c, rfl, h2, h3, h4⟩ := hv
  unfold maxLen at h3
  have hnew := rnew_calls w
  replace h4 := Lib.hid h4
  replace hsm := Lib.hid hsm
  replace hnew := Lib.hid hnew
  replace hv0 := Lib.hid hv0
  clear hs
  go_enter Tryz.func12, Tryz.ntmps12
  go_wp2_with fail
  refine hnew.out.mono ?_
  rintro e w0 ⟨tc, C, MC, rfl, hR0, hO0, hB0⟩
  replace hR0 := Lib.hid hR0
  replace hO0 := Lib.hid hO0
  replace hB0 := Lib.hid hB0
  go_wp2_with fail
  go_loopw [4] (fun i wr => ∃ (k : Nat) (C1 : Value) (MC1 : Nat → Nat), i = .int .i64 k ∧ k ≤ l.length ∧ RRep wr tc C1 MC1 (Fs.build (l.take k)) ∧ (∀ b, ROwn tc C1 MC1 (Fs.build (l.take k)) b → w.heap.size ≤ b) ∧ Below w.heap.size w wr) (fun i _ => l.length - (intOf i).toNat)
  case atStart => exact ⟨0, C, MC, rfl, Nat.zero_le _, hR0.out, hO0.out, hB0.out⟩
  case round =>
    clear hR0 hO0 hB0
    obtain ⟨k, C1, MC1, rfl, hk, hR, hO, hB⟩ := hrel
    by_cases hlt : k < l.length
    · obtain ⟨g, o, dv, rfl, hdv, hc⟩ := h4.out k hlt
      obtain ⟨h5, h6, h7⟩ := hsm.out _ (List.getElem_mem hlt)
      have hgr := acts_grow Fs.start (l.take k)
      have hnm : (Fs.build (l.take k)).names.length ≤ 1000000 := by
        have h8 : (l.take k).length ≤ k := List.length_take_le _ _
        have : (Fs.build (l.take k)).names.length ≤ Fs.start.names.length + (l.take k).length := hgr.1
        have h9 : Fs.start.names.length = 1 := rfl
        omega
      have hnx : (Fs.build (l.take k)).next < 4611686018427387904 := by
        have h8 : (l.take k).length ≤ k := List.length_take_le _ _
        have : (Fs.build (l.take k)).next ≤ Fs.start.next + (l.take k).length := hgr.2
        have h9 : Fs.start.next = 2 := rfl
        omega
      have hdv' := hdv.below hB
      have hglt : g < w.heap.size := cell_lt (a := ⟨g, o + k * 9 + 0, none⟩) (hc 0 (by decide))
      have hc' : ∀ j, j < 9 → wr.cell? ⟨g, o + k * 9 + j, none⟩ = (actCells l[k] dv)[j]? := fun j hj => by
        rw [← hc j hj]
        simp only [World.cell?, hB.block g hglt]
      have hcall := rdo_calls tc C1 MC1 (Fs.build (l.take k)) l[k] dv wr hR (by omega) (by omega) hdv' (by omega) hnx hnm
      have hbs : ((Fs.build (l.take k)).act l[k]).1 = Fs.build (l.take (k + 1)) := by
        rw [List.take_succ_eq_append_getElem hlt]
        exact (acts_snoc _ _ _).symm
      rw [hbs] at hcall
      have d0 : wr.cell? ⟨g, o + k * 9, none⟩ = some (.int .i64 (l[k]).d) := hc' 0 (by decide)
      have d1 : wr.cell? ⟨g, o + k * 9 + 1, none⟩ = some (.string (mkS (l[k]).path)) := hc' 1 (by decide)
      have d2 : wr.cell? ⟨g, o + k * 9 + 2, none⟩ = some (.string (mkS (l[k]).arg)) := hc' 2 (by decide)
      have d3 : wr.cell? ⟨g, o + k * 9 + 3, none⟩ = some dv := hc' 3 (by decide)
      have d4 : wr.cell? ⟨g, o + k * 9 + 4, none⟩ = some (.int .i64 (l[k]).mt.mode) := hc' 4 (by decide)
      have d5 : wr.cell? ⟨g, o + k * 9 + 5, none⟩ = some (.int .i64 (l[k]).mt.sec) := hc' 5 (by decide)
      have d6 : wr.cell? ⟨g, o + k * 9 + 6, none⟩ = some (.int .i64 (l[k]).mt.nano) := hc' 6 (by decide)
      have d7 : wr.cell? ⟨g, o + k * 9 + 7, none⟩ = some (.int .i64 (l[k]).mt.uid) := hc' 7 (by decide)
      have d8 : wr.cell? ⟨g, o + k * 9 + 8, none⟩ = some (.int .i64 (l[k]).mt.gid) := hc' 8 (by decide)
      have hfin := fun w' (hst : RStp wr w' tc C1 MC1 (Fs.build (l.take k)) (Fs.build (l.take (k + 1)))) => RStp.mine hB hO hst
      unfold actV actCells ptr at hcall
      replace hcall := Lib.hid hcall
      replace hfin := Lib.hid hfin
      clear hR hO hB hc hc' hdv hdv' hbs hgr hnm hnx
      go_wp2_with fail
      refine hcall.out.mono ?_
      rintro e w1 ⟨rfl, hst⟩
      obtain ⟨hB1, C2, MC2, hR2, hO2⟩ := hfin.out w1 hst
      replace hB1 := Lib.hid hB1
      replace hR2 := Lib.hid hR2
      replace hO2 := Lib.hid hO2
      clear hst hfin hcall
      go_wp2
      go_roundw
      case rel => exact ⟨k + 1, C2, MC2, by go_num, by omega, hR2.out, hO2.out, hB1.out⟩
      case measure => simp [intOf]; omega
    · obtain rfl : k = l.length := by omega
      rw [List.take_length] at hR hO
      replace hR := Lib.hid hR
      replace hO := Lib.hid hO
      replace hB := Lib.hid hB
      go_wp2
      go_ret
      exact ⟨tc, C1, MC1, rfl, hR.out, hO.out, hB.out⟩

end Go.Proofs.YtemdinjiplglgaaGreat

namespace Go.Proofs.YtemdinjiplglgaaGreat
open Go.RowKit

set_option maxHeartbeats 1000000 in
set_option maxRecDepth 100000 in
theorem rcounted_calls (rb : Nat) (v : Value) (A : Nat → Nat) (T : Fs) (w : World) (hR : RRep w rb v A T) (hf : T.names.length ≤ 1000000) :
    Calls Tryz.prog 19 #[ptr rb] w fun e w' => e = .returned (.int .i64 ((T.names.length : Int) - 1)) ∧ w = w' := by
  obtain ⟨g, c, rfl, hc1, hc2, hp, t0, hcs⟩ := hR.at_
  unfold maxLen at hc2
  have hwr : IntKind.i64.wrap ((T.names.length : Int) - 1) = (T.names.length : Int) - 1 := IntWalk.i64_in _ (by omega)
  unfold ptr at *
  replace hR := Lib.hid hR
  replace hcs := Lib.hid hcs
  go_enter Tryz.func19, Tryz.ntmps19
  go_wp2
  go_ret
  exact ⟨rfl, rfl⟩

set_option maxHeartbeats 2000000 in
set_option maxRecDepth 100000 in
theorem rtexts_calls (a b : Value) (x y : List Bytes) (w : World) (ha : Rd w a x) (hb : Rd w b y) :
    Calls Tryz.prog 22 #[a, b] w fun e w' => e = .returned (.bool (decide (x = y))) ∧ Below w.heap.size w w' := by
  obtain ⟨aA, ac, rfl, ha1, ha2, hca⟩ := ha
  obtain ⟨bA, bc, rfl, hb1, hb2, hcb⟩ := hb
  unfold maxLen at *
  by_cases hl : x.length = y.length
  · have hl2 : (x.length : Int) = (y.length : Int) := by omega
    have hl3 : ((x.length : Int) == (y.length : Int)) = true := by rw [hl2]; simp
    replace hca := Lib.hid hca
    replace hcb := Lib.hid hcb
    replace hl := Lib.hid hl
    go_enter Tryz.func22, Tryz.ntmps22
    go_wp2
    go_loopw [5] (fun i wr => ∃ k : Nat, i = .int .i64 k ∧ k ≤ x.length ∧ x.take k = y.take k ∧ Below w.heap.size w wr) (fun i _ => x.length - (intOf i).toNat)
    case atStart => exact ⟨0, rfl, Nat.zero_le _, rfl, Below.refl _ _⟩
    case round =>
      obtain ⟨k, rfl, hk, hpre, hB⟩ := hrel
      by_cases hlt : k < x.length
      · have hlt2 : k < y.length := by rw [← hl.out]; exact hlt
        obtain ⟨g1, o1, e1, c1⟩ := hca.out k _ (List.getElem?_eq_getElem hlt)
        obtain ⟨g2, o2, e2, c2⟩ := hcb.out k _ (List.getElem?_eq_getElem hlt2)
        have hk1 : (k : Int) < (x.length : Int) := by omega
        have hk2 : (k : Int) < (y.length : Int) := by omega
        have htx : x.take (k + 1) = x.take k ++ [x[k]] := List.take_succ_eq_append_getElem hlt
        have hty : y.take (k + 1) = y.take k ++ [y[k]] := List.take_succ_eq_append_getElem hlt2
        have hxy : x = y → x[k] = y[k] := fun e => by subst e; rfl
        generalize x[k] = s at *
        generalize y[k] = t at *
        subst e1 e2
        replace c1 := (hB.cell (cell_lt c1)).trans c1
        replace c2 := (hB.cell (cell_lt c2)).trans c2
        by_cases hst : s = t
        · subst hst
          have hnx : x.take (k + 1) = y.take (k + 1) := by rw [htx, hty, hpre]
          replace htx := Lib.hid htx
          replace hty := Lib.hid hty
          replace hxy := Lib.hid hxy
          replace hpre := Lib.hid hpre
          replace hnx := Lib.hid hnx
          replace hB := Lib.hid hB
          go_upto_region 6 with fail
          go_quiet (fail)
          go_wp2
          go_roundw
          case rel => exact ⟨k + 1, by go_num, by omega, hnx.out, below_drewN hB.out _⟩
          case measure => simp [intOf]; omega
        · have t3 : ¬ (mkS s).toList = (mkS t).toList := by rw [toList_bl, toList_bl, bl_mkS, bl_mkS]; exact hst
          have t2 : ((mkS s).toList == (mkS t).toList) = false := by simpa using t3
          have hd : decide (x = y) = false := decide_eq_false fun e => hst (hxy e)
          replace htx := Lib.hid htx
          replace hty := Lib.hid hty
          replace hxy := Lib.hid hxy
          replace hpre := Lib.hid hpre
          replace hst := Lib.hid hst
          replace hd := Lib.hid hd
          replace hB := Lib.hid hB
          go_upto_region 6 with fail
          go_quiet (fail)
          go_wp2
          go_ret
          exact ⟨ret_bool hd.out.symm, below_drewN hB.out _⟩
      · obtain rfl : k = x.length := by omega
        have hd : decide (x = y) = true := by
          rw [List.take_length, hl.out, List.take_length] at hpre
          exact decide_eq_true hpre
        replace hpre := Lib.hid hpre
        replace hd := Lib.hid hd
        replace hB := Lib.hid hB
        go_wp2
        go_ret
        exact ⟨ret_bool hd.out.symm, hB.out⟩
  · have hne : x ≠ y := fun e => hl (by rw [e])
    have hl3 : ((x.length : Int) == (y.length : Int)) = false := by
      rw [beq_eq_false_iff_ne]
      omega
    have hl4 : ¬ ((x.length : Int) = (y.length : Int)) := by omega
    rw [decide_eq_false hne]
    replace hca := Lib.hid hca
    replace hcb := Lib.hid hcb
    replace hl := Lib.hid hl
    replace hne := Lib.hid hne
    go_enter Tryz.func22, Tryz.ntmps22
    go_wp2
    go_ret
    exact ⟨rfl, Below.refl _ _⟩

end Go.Proofs.YtemdinjiplglgaaGreat

namespace Go.Proofs.YtemdinjiplglgaaGreat

/-! ### how long the files of a built tree are -/

structure DataLe (T : Fs) (n : Nat) : Prop where
  le : ∀ j, (T.nd j).data.length ≤ n
theorem dl_mono {T : Fs} {n m : Nat} (h : DataLe T n) (hm : n ≤ m) : DataLe T m := ⟨fun j => Nat.le_trans (h.le j) hm⟩
theorem dl_upd {T : Fs} {n m : Nat} (h : DataLe T n) (hm : n ≤ m) {f : Nat → Nd} {i : Nat} {x : Nd} (hx : x.data.length ≤ m) (hf : f = fun j => if j = i then x else T.nd j) (j : Nat) : (f j).data.length ≤ m := by
  subst hf
  dsimp only
  split
  · exact hx
  · exact Nat.le_trans (h.le j) hm
theorem dl_add {T : Fs} {n m : Nat} (h : DataLe T n) (hm : n ≤ m) (p : Pt) {x : Nd} (hx : x.data.length ≤ m) : DataLe (T.add p x) m := ⟨dl_upd h hm hx rfl⟩
theorem dl_set {T : Fs} {n m : Nat} (h : DataLe T n) (hm : n ≤ m) (i : Nat) {x : Nd} (hx : x.data.length ≤ m) : DataLe (T.set i x) m := ⟨dl_upd h hm hx rfl⟩
theorem dl_name {T : Fs} {n m : Nat} (h : DataLe T n) (hm : n ≤ m) (p : Pt) (i : Nat) : DataLe (T.name p i) m := ⟨dl_upd h hm (x := { T.nd i with links := (T.nd i).links + 1 }) (Nat.le_trans (h.le i) hm) rfl⟩
theorem dl_gone {T : Fs} {n m : Nat} (h : DataLe T n) (hm : n ≤ m) (p : Pt) (i : Nat) : DataLe (T.gone p i) m := ⟨dl_upd h hm (x := { T.nd i with links := (T.nd i).links - 1 }) (Nat.le_trans (h.le i) hm) rfl⟩
theorem dl_move {T : Fs} {n m : Nat} (h : DataLe T n) (hm : n ≤ m) (o p : Pt) : DataLe (T.move o p) m := ⟨(dl_mono h hm).le⟩
theorem dl_over {T : Fs} {n m : Nat} (h : DataLe T n) (hm : n ≤ m) (o p : Pt) (j : Nat) : DataLe ((T.gone p j).move o p) m := ⟨(dl_gone h hm p j).le⟩

set_option maxHeartbeats 2000000 in
theorem dl_act {T : Fs} {n : Nat} (h : DataLe T n) (a : Act17) (ha : a.data.length ≤ 400) : DataLe (T.act a).1 (n + 400) := by
  have hm : n ≤ n + 400 := by omega
  have h0 : DataLe T (n + 400) := dl_mono h hm
  have g1 : ∀ s m, DataLe (T.mkdir s m).1 (n + 400) := fun s m => by unfold Fs.mkdir; (repeat' split); all_goals first | exact h0 | exact dl_add h hm _ (by simp)
  have g2 : ∀ s m, DataLe (T.write s a.data m).1 (n + 400) := fun s m => by unfold Fs.write; (repeat' split); all_goals first | exact h0 | exact dl_add h hm _ (by dsimp only; omega) | exact dl_set h hm _ (by dsimp only; omega)
  have g3 : ∀ s t m, DataLe (T.symlink s t m).1 (n + 400) := fun s t m => by unfold Fs.symlink; (repeat' split); all_goals first | exact h0 | exact dl_add h hm _ (by simp)
  have g4 : ∀ o p, DataLe (T.link o p).1 (n + 400) := fun o p => by unfold Fs.link; (repeat' split); all_goals first | exact h0 | exact dl_name h hm _ _
  have g5 : ∀ s, DataLe (T.remove s).1 (n + 400) := fun s => by unfold Fs.remove; (repeat' split); all_goals first | exact h0 | exact dl_gone h hm _ _
  have g6 : ∀ o p, DataLe (T.rename o p).1 (n + 400) := fun o p => by unfold Fs.rename Fs.ren2 Fs.ren3; (repeat' split); all_goals first | exact h0 | exact dl_move h hm _ _ | exact dl_over h hm _ _ _
  have g7 : ∀ s m, DataLe (T.setM s m).1 (n + 400) := fun s m => by unfold Fs.setM; (repeat' split); all_goals first | exact h0 | exact dl_set h hm _ (Nat.le_trans (h.le _) hm)
  have g8 : ∀ s, DataLe (T.append s a.data).1 (n + 400) := fun s => by
    unfold Fs.append
    (repeat' split)
    all_goals first
      | exact h0
      | (refine dl_set h hm _ ?_
         dsimp only
         rw [List.length_append]
         exact Nat.add_le_add (h.le _) ha)
  unfold Fs.act
  repeat' split
  all_goals first | exact g1 _ _ | exact g2 _ _ | exact g3 _ _ _ | exact g4 _ _ | exact g5 _ | exact g6 _ _ | exact g7 _ _ | exact g8 _ | exact h0

set_option maxHeartbeats 2000000 in
theorem dl_acts {T : Fs} (hT : DataLe T 0) : ∀ l : List Act17, (∀ a ∈ l, a.data.length ≤ 400) → DataLe (T.acts l) (400 * l.length) := by
  refine snoc_rec (fun _ => by simpa [Fs.acts] using hT) fun l a ih h => ?_
  rw [acts_snoc]
  have := dl_act (ih fun x hx => h x (List.mem_append_left _ hx)) a (h a (by simp))
  simpa [Nat.mul_add] using this

theorem dl_build {l : List Act17} (h : small l = true) : DataLe (Fs.build l) 16000 := by
  obtain ⟨h1, h2⟩ := small_at h
  have h3 : DataLe Fs.start 0 := ⟨fun j => by simp [Fs.start]⟩
  exact dl_mono (dl_acts h3 l fun a ha => (h2 a ha).1) (by omega)

/-! ### the names of a file -/

section
variable {T : Fs}

theorem stat_kind (hI : T.Inv) {p : Bytes} (h : (T.stat p).1.kind = 1) : right p = true ∧ ∃ i, (split p, i) ∈ T.names ∧ (T.nd i).kind = 1 ∧ T.stat p = (T.tell (split p) i, 0) := by
  have hz : (T.there p).2.2 = 0 := by
    unfold Fs.stat at h
    by_cases hz : (T.there p).2.2 = 0
    · exact hz
    · rw [if_neg hz] at h
      cases h
  obtain ⟨h1, i, _, h3⟩ := there_zero hI hz
  have h4 := stat_name hI h1 h3
  rw [h4] at h
  exact ⟨h1, i, h3, h, h4⟩

theorem not_top (hI : T.Inv) {i : Nat} (hk : (T.nd i).kind = 1) : i ≠ 1 := fun e => by
  subst e
  rw [hI.topKind] at hk
  cases hk
theorem not_empty (hI : T.Inv) {p : Bytes} {i : Nat} (hm : (split p, i) ∈ T.names) (hk : (T.nd i).kind = 1) : p ≠ [] := fun e => by
  subst e
  exact not_top hI hk (hI.at_one hm hI.one)

theorem nameList_file (hI : T.Inv) {p : Bytes} {i : Nat} (hr : right p = true) (hm : (split p, i) ∈ T.names) (hk : (T.nd i).kind = 1) :
    T.nameList p = sortP (((T.below []).filter fun y => y.2 = i).map fun y => glue y.1) := by
  obtain ⟨h1, h2⟩ := there_name hI hr hm
  unfold Fs.nameList
  rw [if_neg (by simp [h2, not_empty hI hm hk]), h1]
  dsimp only
  rw [if_pos hk]

theorem names_len (hI : T.Inv) {p : Bytes} {i : Nat} (hr : right p = true) (hm : (split p, i) ∈ T.names) (hk : (T.nd i).kind = 1) : ((T.nameList p).length : Int) = (T.nd i).links := by
  rw [nameList_file hI hr hm hk, (sortP_perm _).length_eq, List.length_map, hI.links _ _ hm, count_names hI (not_top hI hk)]

theorem names_mem (hI : T.Inv) {p : Bytes} {i : Nat} (hr : right p = true) (hm : (split p, i) ∈ T.names) (hk : (T.nd i).kind = 1) {n : Bytes} (hn : n ∈ T.nameList p) : right n = true ∧ (split n, i) ∈ T.names := by
  rw [nameList_file hI hr hm hk, (sortP_perm _).mem_iff, List.mem_map] at hn
  obtain ⟨⟨t, j⟩, h1, rfl⟩ := hn
  obtain ⟨h2, h3⟩ := List.mem_filter.1 h1
  simp only [decide_eq_true_eq] at h3
  subst h3
  obtain ⟨_, h4⟩ := mem_below.1 h2
  rw [List.nil_append] at h4
  obtain ⟨g1, g2⟩ := (hI.pth _ _ h4).text
  exact ⟨g1, by dsimp only; rw [g2]; exact h4⟩

theorem names_nodup (hI : T.Inv) {p : Bytes} {i : Nat} (hr : right p = true) (hm : (split p, i) ∈ T.names) (hk : (T.nd i).kind = 1) : (T.nameList p).Nodup := by
  rw [nameList_file hI hr hm hk, (sortP_perm _).nodup_iff]
  exact (List.filter_sublist.map _).nodup (below_glue_nodup hI)

/-- What the walk finds. -/
structure OneFile (T T2 : Fs) (f : Int) (p b : Bytes) (m : Mt) (n0 : Bytes) : Prop where
  set : f = 0 → (T2.stat p).1.mt = m
  data : ∃ c, (T2.read p).1 = c ++ b
  all : ∀ n ∈ T.nameList p, T2.read n = ((T2.read p).1, 0) ∧ T2.stat n = ((T2.stat p).1, 0)
  out : (T2.remove n0).2 = 0
  rest : ∀ n ∈ T.nameList p, n ≠ n0 → ((T2.remove n0).1.read n).1 = (T2.read p).1 ∧ (T2.remove n0).1.stat n = ({ (T2.stat p).1 with links := (T.nameList p).length - 1 }, 0)
  none : ((T2.remove n0).1.stat n0).2 = 10
  short : ∀ n ∈ T.nameList p, n.length ≤ 200
  few : T2.names = T.names

theorem set_names (i : Nat) (n : Nd) : (T.set i n).names = T.names := rfl
theorem set_nd (i : Nat) (n : Nd) : (T.set i n).nd i = n := by simp [Fs.set]

theorem one_file (hI : T.Inv) {p b : Bytes} {m : Mt} {n0 : Bytes} (hk : (T.stat p).1.kind = 1) (hd : DataLe T 16000) (hb : b.length ≤ 400) (hn : n0 ∈ T.nameList p) : (T.append p b).2 = 0 ∧ OneFile T ((T.append p b).1.setM n0 m).1 ((T.append p b).1.setM n0 m).2 p b m n0 := by
  obtain ⟨hr, i, hm, hki, _⟩ := stat_kind hI hk
  have hnm := fun n (h : n ∈ T.nameList p) => names_mem hI hr hm hki h
  have hln := names_len hI hr hm hki
  have hne := fun n (h : n ∈ T.nameList p) => not_empty hI (hnm n h).2 hki
  have hdi := hd.le i
  have hE : T.append p b = (T.set i { T.nd i with data := (T.nd i).data ++ b }, 0) := by
    unfold Fs.append
    rw [file_name hI hr hm hki, if_neg (by simp)]
    dsimp only
    rw [if_neg (by omega)]
  obtain ⟨q1, q2, q3⟩ := hI.plain _ _ hm
  have hI1 : (T.set i { T.nd i with data := (T.nd i).data ++ b }).Inv := by
    refine set_inv hI ⟨hI.kinds _ _ hm, ?_, ⟨?_, q2, q3⟩⟩ rfl rfl
    · dsimp only; rw [List.length_append]; omega
    · intro h; exact absurd hki h
  obtain ⟨hr0, hm0⟩ := hnm n0 hn
  -- behind Set
  have hS : ∃ N : Nd, N.kind = 1 ∧ N.links = (T.nd i).links ∧ N.data = (T.nd i).data ++ b ∧ ((T.append p b).1.setM n0 m).1.names = T.names ∧ ((T.append p b).1.setM n0 m).1.nd i = N ∧ ((T.append p b).1.setM n0 m).1.Inv ∧
      (((T.append p b).1.setM n0 m).2 = 0 → N.mt = m) ∧ ∀ j, (T.nd j).kind = 2 → (((T.append p b).1.setM n0 m).1.nd j).kind = 2 := by
    rw [hE]
    dsimp only
    generalize hT1 : T.set i { T.nd i with data := (T.nd i).data ++ b } = T1 at *
    have hn1 : T1.names = T.names := by rw [← hT1]; rfl
    have hd1 : T1.nd i = { T.nd i with data := (T.nd i).data ++ b } := by rw [← hT1]; exact set_nd _ _
    have hk1 : ∀ j, (T.nd j).kind = 2 → (T1.nd j).kind = 2 := fun j hj => by
      have : j ≠ i := fun e => by subst e; rw [hki] at hj; cases hj
      rw [← hT1]
      simp [Fs.set, this, hj]
    obtain ⟨t1, t2⟩ := there_name hI1 hr0 (by rw [hn1]; exact hm0)
    unfold Fs.setM
    by_cases hme : mayE n0 m ≠ 0
    · rw [if_pos hme]
      exact ⟨T1.nd i, by rw [hd1]; exact hki, by rw [hd1], by rw [hd1], hn1, rfl, hI1, fun h => absurd h hme, hk1⟩
    · rw [if_neg hme, if_neg (by simp [t2]), t1]
      dsimp only
      refine ⟨{ T1.nd i with mt := m }, by rw [hd1]; exact hki, by rw [hd1], by rw [hd1], hn1, set_nd _ _, ?_, fun _ => rfl, fun j hj => ?_⟩
      · have hm1 : (split p, i) ∈ T1.names := by rw [hn1]; exact hm
        obtain ⟨r1, r2, r3⟩ := hI1.plain _ _ hm1
        exact set_inv hI1 ⟨hI1.kinds _ _ hm1, hI1.data _ _ hm1, ⟨r1, r2, r3⟩⟩ rfl rfl
      · have : j ≠ i := fun e => by subst e; rw [hki] at hj; cases hj
        simp [Fs.set, this, hk1 j hj]
  obtain ⟨N, n1, n2, n3, e1, e2, hI2, e3, e4⟩ := hS
  have hput : (T.append p b).2 = 0 := by rw [hE]
  refine ⟨hput, ?_⟩
  clear hput hE
  generalize ((T.append p b).1.setM n0 m).2 = f at *
  generalize ((T.append p b).1.setM n0 m).1 = T2 at *
  have hk2 : (T2.nd i).kind = 1 := by rw [e2]; exact n1
  have hm2 : (split p, i) ∈ T2.names := by rw [e1]; exact hm
  have hnm2 := fun n (h : n ∈ T.nameList p) => (show (split n, i) ∈ T2.names by rw [e1]; exact (hnm n h).2)
  have htell : ∀ q, T2.tell q i = ⟨1, i, (T2.nd i).data.length, N.links, N.mt, (T2.nd i).target⟩ := fun q => by
    unfold Fs.tell Fs.size
    rw [if_pos hk2, hk2]
    rw [e2]
  have hrm : T2.remove n0 = (T2.gone (split n0) i, 0) := by
    obtain ⟨t1, t2⟩ := there_name hI2 hr0 (hnm2 n0 hn)
    unfold Fs.remove
    rw [if_neg (by simp [hr0]), if_neg (hne n0 hn), if_neg (by simp [t2]), t1]
    dsimp only
    rw [if_neg (by simp [kids_file hI2 (hnm2 n0 hn) (by rw [hk2]; decide)])]
  have hs0 : split n0 ≠ [] := split_ne_nil (hne n0 hn)
  have hI3 : (T2.gone (split n0) i).Inv := gone_inv hI2 (hnm2 n0 hn) hs0 (kids_file hI2 (hnm2 n0 hn) (by rw [hk2]; decide))
  have hnd3 : (T2.gone (split n0) i).nd i = { T2.nd i with links := (T2.nd i).links - 1 } := by simp [Fs.gone]
  have hk3 : ((T2.gone (split n0) i).nd i).kind = 1 := by rw [hnd3]; exact hk2
  refine ⟨?_, ?_, ?_, ?_, ?_, ?_, ?_, e1⟩
  · intro h
    rw [stat_name hI2 hr hm2, htell]
    exact e3 h
  · exact ⟨(T.nd i).data, by rw [read_name hI2 hr hm2 hk2, e2, n3]⟩
  · intro n h
    rw [read_name hI2 hr hm2 hk2, read_name hI2 (hnm n h).1 (hnm2 n h) hk2, stat_name hI2 hr hm2, stat_name hI2 (hnm n h).1 (hnm2 n h), htell, htell]
    exact ⟨rfl, rfl⟩
  · rw [hrm]
  · intro n h hne0
    have hsn : split n ≠ split n0 := fun e => hne0 (by have := congrArg glue e; rwa [glue_split, glue_split] at this)
    have hm3 : (split n, i) ∈ (T2.gone (split n0) i).names := (mem_gone _ _).2 ⟨hnm2 n h, hsn⟩
    rw [hrm]
    dsimp only
    rw [read_name hI3 (hnm n h).1 hm3 hk3, read_name hI2 hr hm2 hk2, stat_name hI3 (hnm n h).1 hm3, stat_name hI2 hr hm2, htell, hnd3]
    refine ⟨rfl, ?_⟩
    unfold Fs.tell Fs.size
    rw [hk3, if_pos rfl, hnd3, e2]
    dsimp only
    rw [hln, ← n2]
  · rw [hrm]
    dsimp only
    obtain ⟨d, hd1, hd2⟩ := hI.up _ _ hm0 hs0
    rw [stat_missing hI3 hr0 (hne n0 hn) (d := d) ((mem_gone _ _).2 ⟨by rw [e1]; exact hd1, dropLast_ne hs0⟩) (by rw [gone_kind]; exact e4 d hd2) (Fs.at_none.2 fun k hk => ((mem_gone _ _).1 hk).2 rfl)]
  · intro n h
    have := (hnm n h).1
    simp only [right, Bool.and_eq_true, decide_eq_true_eq] at this
    exact this.2

end

end Go.Proofs.YtemdinjiplglgaaGreat

namespace Go.Proofs.YtemdinjiplglgaaGreat
open Go.RowKit

theorem RdB.string {W : World} {v : Value} {l : Bytes} (h : RdB W v l) : (convert 38 9 v).run Tryz.prog W = .ok (.string (mkS l)) W := by
  obtain ⟨A, c, rfl, h2, h3, h4⟩ := h
  by_cases hl : l = []
  · subst hl
    exact run_convert_bytes_zero W 38 5 Tryz.underlying38 Tryz.underlying5 A c 9 Tryz.underlying9
  · have hp : 0 < l.length := List.length_pos_iff.2 hl
    obtain ⟨g, o, rfl, _⟩ := h4 0 hp
    rw [← strOfNums_bytes l]
    refine run_convert_bytes_arg W 38 5 Tryz.underlying38 Tryz.underlying5 g o l.length c (l.map fun b => (b.toNat : Int)) (by simp) (fun i hi => ?_) 9 Tryz.underlying9
    obtain ⟨g', o', e', hc⟩ := h4 i hi
    cases e'
    rw [hc]
    simp [hi]

/-- The end of a file's bytes, as a slice of them. -/
theorem Dat.tail {W : World} {bA : Option Addr} {D cp b : Bytes} {bc : Nat} (h : Dat W (.slice bA D.length bc) D) (hD : D = cp ++ b) :
    RdB W (.slice (if bc = D.length - b.length then bA else Option.map (fun x => x.add (D.length - b.length)) bA) (D.length - (D.length - b.length)) (bc - (D.length - b.length))) b := by
  have hl : D.length = cp.length + b.length := by rw [hD, List.length_append]
  rcases h with ⟨h1, h2⟩ | ⟨g, c, cur, h1, h2, h3, h4, h5, h6⟩
  · have hb : b = [] := by
      rw [h2] at hD
      exact (List.append_eq_nil_iff.1 hD.symm).2
    subst hb
    simp only [Value.slice.injEq] at h1
    obtain ⟨rfl, h0, rfl⟩ := h1
    exact ⟨none, 0, by simp [h2], Nat.zero_le _, by simp [maxLen], fun k hk => by simp at hk⟩
  · simp only [Value.slice.injEq, true_and] at h1
    obtain ⟨rfl, rfl⟩ := h1
    refine ⟨if bc = D.length - b.length then some ⟨g, 0, none⟩ else Option.map (fun x : Addr => x.add (D.length - b.length)) (some ⟨g, 0, none⟩), bc - (D.length - b.length), ?_, by omega, by omega, fun k hk => ⟨g, D.length - b.length, ?_, ?_⟩⟩
    · rw [show D.length - (D.length - b.length) = b.length by omega]
    · rw [if_neg (by omega)]
      simp only [Option.map_some, Addr.add, Nat.zero_add]
      split
      · rename_i h0
        rw [h0]
      · rfl
    · refine cell_of (j := D.length - b.length + k) h2 ?_
      have e : cur.toList[D.length - b.length + k]? = (byteCells D)[D.length - b.length + k]? := by
        rw [← h6, List.getElem?_take_of_lt (by omega)]
      rw [← Array.getElem?_toList, e]
      unfold byteCells
      rw [List.getElem?_map, hD, List.getElem?_append_right (by rw [List.length_append]; omega)]
      rw [show (cp ++ b).length - b.length + k - cp.length = k by rw [List.length_append]; omega]
      simp [hk]

/-- A row of names as one block. -/
theorem row_block {B : Nat} {W : World} {v : Value} {l : List Bytes} (h : Strs B W v l) (hl : 0 < l.length) : ∃ g c X, v = .slice (some ⟨g, 0, none⟩) l.length c ∧ l.length ≤ c ∧ c ≤ maxLen ∧ B ≤ g ∧ W.heap[g]? = some (.cells X 9 (0, 0)) ∧
    ∀ W' : World, W'.heap[g]? = some (.cells X 9 (0, 0)) → ∀ k (hk : k < l.length), W'.cell? ⟨g, k, none⟩ = some (.string (mkS l[k])) := by
  rcases h.block with ⟨_, _, rfl, _⟩ | ⟨g, c, pad, rfl, h1, h2, h3, h4, h5⟩
  · simp at hl
  · refine ⟨g, c, _, rfl, h3, h4, h1, h2, fun W' hW' k hk => cell_of (j := k) hW' ?_⟩
    rw [List.getElem?_toArray, List.getElem?_append_left (by simpa [strs] using hk)]
    simp [strs, hk]

theorem Stp.turn {w w' : World} {tb : Nat} {A M : Nat → Nat} {T T' : Fs} (h : Stp w w' tb A M T T') : Turn w w' (Own tb A M T) := by
  obtain ⟨_, _, _, h2, _⟩ := h
  exact h2

/-- A block of another type stays. -/
theorem Stp.cells {w w' : World} {tb : Nat} {A M : Nat → Nat} {T T' : Fs} (h : Stp w w' tb A M T T') (hR : Rep w tb A M T) {g : Nat} {cs : Array Value} {t : TypeId} {f : Nat × Nat} (hg : w.heap[g]? = some (.cells cs t f)) (h1 : t ≠ 74) (h2 : t ≠ 77) :
    w'.heap[g]? = some (.cells cs t f) := (h.turn.block g (Array.getElem?_eq_some_iff.1 hg).1 (hR.not_own hg h1 h2)).trans hg

theorem Dat.stp {w w' : World} {tb : Nat} {A M : Nat → Nat} {T T' : Fs} {v : Value} {l : Bytes} (h : Dat w v l) (hR : Rep w tb A M T) (hs : Stp w w' tb A M T T') : Dat w' v l :=
  h.kept fun g ⟨cs, hg⟩ => (hs.turn.block g (Array.getElem?_eq_some_iff.1 hg).1 (hR.not_own hg (by decide) (by decide)))
theorem Dat.below {w w' : World} {v : Value} {l : Bytes} (h : Dat w v l) (hB : Below w.heap.size w w') : Dat w' v l :=
  h.kept fun g ⟨_, hg⟩ => hB.block g (Array.getElem?_eq_some_iff.1 hg).1

theorem type_ne {w : World} {x g : Nat} {cs ds : Array Value} {t u : TypeId} {f f' : Nat × Nat} (hx : w.heap[x]? = some (.cells cs t f)) (hg : w.heap[g]? = some (.cells ds u f')) (h : t ≠ u) : g ≠ x := by
  rintro rfl
  rw [hx] at hg
  cases hg
  exact h rfl

/-- .. and where a record of another type is written. -/
theorem Dat.setCell {w : World} {v : Value} {l : Bytes} (h : Dat w v l) {x : Nat} {cs : Array Value} {t : TypeId} {f : Nat × Nat} (hx : w.heap[x]? = some (.cells cs t f)) (ht : t ≠ 5) (k : Nat) (u : Value) : Dat (w.setCell ⟨x, k, none⟩ u) v l :=
  h.kept fun _ ⟨_, hg⟩ => heap_set_other w (type_ne hx hg ht) k u
theorem Rep.setCell {w : World} {tb : Nat} {A M : Nat → Nat} {T : Fs} (h : Rep w tb A M T) {x : Nat} {cs : Array Value} {t : TypeId} {f : Nat × Nat} (hx : w.heap[x]? = some (.cells cs t f)) (h1 : t ≠ 5) (h2 : t ≠ 74) (h3 : t ≠ 77) (k : Nat) (u : Value) : Rep (w.setCell ⟨x, k, none⟩ u) tb A M T :=
  h.kept (fun b hb => heap_set_other w (by rintro rfl; exact h.not_own hx h2 h3 hb) k u) (fun _ ⟨_, hg⟩ => heap_set_other w (type_ne hx hg h1) k u)

end Go.Proofs.YtemdinjiplglgaaGreat

namespace Go.Proofs.YtemdinjiplglgaaGreat
open Go.RowKit

set_option maxHeartbeats 2000000 in
set_option maxRecDepth 100000 in
theorem thing_calls (tb rb : Nat) (v : Value) (A M B : Nat → Nat) (T : Fs) (s : ByteArray) (w : World) (hU : Rep w tb A M T) (hR : RRep w rb v B T) (hs : s.size ≤ 16777216) (hf : T.names.length ≤ 1000000) :
    Calls Tryz.prog 21 #[ptr tb, ptr rb, .string s, .bool true] w fun e w' => e = .returned (.bool true) ∧ Below w.heap.size w w' := by
  have h1 := fun W hW => stat_calls tb A M T s W hW hs
  have h2 := fun W hW => rstat_calls rb v B T s W hW hs hf
  have h3 := fun W hW => read_calls tb A M T s W hW hs
  have h4 := fun W hW => rread_calls rb v B T s W hW hs
  have h5 := fun W hW => list_calls tb A M T s W hW hs hf
  have h6 := fun W hW => rlist_calls rb v B T s W hW hs hf
  have h7 := fun W hW => namesof_calls tb A M T s W hW hs hf
  have h8 := fun W hW => rnames_calls rb v B T s W hW hs hf
  generalize T.stat (bl s) = st at *
  obtain ⟨st, se⟩ := st
  obtain ⟨kd, ino, sz, ln, mt, tg⟩ := st
  obtain ⟨m1, m2, m3, m4, m5⟩ := mt
  unfold statV statCells ptr at *
  dsimp only at *
  replace h1 := Lib.hid h1
  replace h2 := Lib.hid h2
  replace h3 := Lib.hid h3
  replace h4 := Lib.hid h4
  replace h5 := Lib.hid h5
  replace h6 := Lib.hid h6
  replace h7 := Lib.hid h7
  replace h8 := Lib.hid h8
  go_enter Tryz.func21, Tryz.ntmps21
  go_wp2_with fail
  (with_reducible refine (h1.out _ hU).mono ?_)
  rintro e w1 ⟨rfl, hB1⟩
  have e1 := (MapKept.heap_alloc w1 (.cells #[.int .i64 kd, .int .i64 ino, .int .i64 sz, .int .i64 ln, .int .i64 m1, .int .i64 m2, .int .i64 m3, .int .i64 m4, .int .i64 m5, .string (mkS tg)] 50)).1
  have hB2 := below_step hB1 (below_alloc (Below.refl _ _) (.cells #[.int .i64 kd, .int .i64 ino, .int .i64 sz, .int .i64 ln, .int .i64 m1, .int .i64 m2, .int .i64 m3, .int .i64 m4, .int .i64 m5, .string (mkS tg)] 50))
  have hU2 := hU.below hB2
  have hR2 := hR.below hB2
  have hsz1 := hB1.size
  go_upto_region 2 with fail
  generalize w1.alloc (.cells #[.int .i64 kd, .int .i64 ino, .int .i64 sz, .int .i64 ln, .int .i64 m1, .int .i64 m2, .int .i64 m3, .int .i64 m4, .int .i64 m5, .string (mkS tg)] 50) = W1 at *
  generalize w1.heap.size = n1 at *
  replace e1 := Lib.hid e1
  replace hB2 := Lib.hid hB2
  replace hU2 := Lib.hid hU2
  replace hR2 := Lib.hid hR2
  replace hB1 := Lib.hid hB1
  go_wp2_with fail
  (with_reducible refine (h2.out _ hR2.out).mono ?_)
  rintro e w2 ⟨rfl, hB3⟩
  have e2 := (hB3.block n1 (Array.getElem?_eq_some_iff.1 e1.out).1).trans e1.out
  have e3 := (MapKept.heap_alloc w2 (.cells #[.int .i64 kd, .int .i64 ino, .int .i64 sz, .int .i64 ln, .int .i64 m1, .int .i64 m2, .int .i64 m3, .int .i64 m4, .int .i64 m5, .string (mkS tg)] 50)).1
  have hA2 := below_alloc (Below.refl w2.heap.size w2) (.cells #[.int .i64 kd, .int .i64 ino, .int .i64 sz, .int .i64 ln, .int .i64 m1, .int .i64 m2, .int .i64 m3, .int .i64 m4, .int .i64 m5, .string (mkS tg)] 50)
  have hlt2 := (Array.getElem?_eq_some_iff.1 e2).1
  have e4 := (hA2.block n1 hlt2).trans e2
  have hB4 := below_step (below_step hB2.out hB3) hA2
  have hU4 := hU.below hB4
  have hR4 := hR.below hB4
  clear e2 hB3 hU2 hR2 e1 hA2
  go_upto_region 5 with fail
  generalize w2.alloc (.cells #[.int .i64 kd, .int .i64 ino, .int .i64 sz, .int .i64 ln, .int .i64 m1, .int .i64 m2, .int .i64 m3, .int .i64 m4, .int .i64 m5, .string (mkS tg)] 50) = W2 at *
  generalize w2.heap.size = n2 at *
  replace e3 := Lib.hid e3
  replace e4 := Lib.hid e4
  replace hB4 := Lib.hid hB4
  replace hU4 := Lib.hid hU4
  replace hR4 := Lib.hid hR4
  go_wp2_with fail
  (with_reducible refine (h3.out _ hU4.out).mono ?_)
  rintro e w3 ⟨⟨v3, rfl, b3⟩, hB5⟩
  obtain ⟨a3, c3, hv3, _, _⟩ := own_shape b3.own
  subst hv3
  have hB5' := below_step hB4.out hB5
  have hR5 := hR.below hB5'
  replace b3 := Lib.hid b3
  replace hB5' := Lib.hid hB5'
  replace hR5 := Lib.hid hR5
  replace hB5 := Lib.hid hB5
  go_wp2_with fail
  (with_reducible refine (h4.out _ hR5.out).mono ?_)
  rintro e w4 ⟨⟨v4, rfl, b4⟩, hB6⟩
  obtain ⟨a4, c4, hv4, _, _⟩ := own_shape b4.own
  subst hv4
  have hB6' := below_step hB5'.out hB6
  have hU6 := hU.below hB6'
  replace b4 := Lib.hid b4
  replace hB6' := Lib.hid hB6'
  replace hU6 := Lib.hid hU6
  replace hB6 := Lib.hid hB6
  go_wp2_with fail
  (with_reducible refine (h5.out _ hU6.out).mono ?_)
  rintro e w5 ⟨⟨v5, rfl, s5⟩, hB7⟩
  obtain ⟨a5, c5, hv5, _, _⟩ := own_shape s5.own
  subst hv5
  have hB7' := below_step hB6'.out hB7
  have hR7 := hR.below hB7'
  replace s5 := Lib.hid s5
  replace hB7' := Lib.hid hB7'
  replace hR7 := Lib.hid hR7
  replace hB7 := Lib.hid hB7
  go_wp2_with fail
  (with_reducible refine (h6.out _ hR7.out).mono ?_)
  rintro e w6 ⟨⟨v6, rfl, s6⟩, hB8⟩
  obtain ⟨a6, c6, hv6, _, _⟩ := own_shape s6.own
  subst hv6
  have hB8' := below_step hB7'.out hB8
  replace s6 := Lib.hid s6
  replace hB8' := Lib.hid hB8'
  replace hB8 := Lib.hid hB8
  have hB68 := below_step hB7.out hB8.out
  have hB58 := below_step hB6.out hB68
  have hB48 := below_step hB5.out hB58
  have cv1 := RdB.string ((Byts.rdb b3.out).below hB58)
  have cv2 := RdB.string ((Byts.rdb b4.out).below hB68)
  have e3' := (hB48.block n2 (Array.getElem?_eq_some_iff.1 e3.out).1).trans e3.out
  have e4' := (hB48.block n1 (Array.getElem?_eq_some_iff.1 e4.out).1).trans e4.out
  have hU8 := hU.below hB8'.out
  have hR8 := hR.below hB8'.out
  have k1 := rtexts_calls _ _ _ _ w6 ((Strs.rd s5.out).below hB8.out) (Strs.rd s6.out)
  rw [decide_eq_true rfl] at k1
  have p0 := cell_of (j := 0) e4' rfl
  have q0 := cell_of (j := 0) e3' rfl
  have p1 := cell_of (j := 1) e4' rfl
  have q1 := cell_of (j := 1) e3' rfl
  have p2 := cell_of (j := 2) e4' rfl
  have q2 := cell_of (j := 2) e3' rfl
  have p3 := cell_of (j := 3) e4' rfl
  have q3 := cell_of (j := 3) e3' rfl
  have p4 := cell_of (j := 4) e4' rfl
  have q4 := cell_of (j := 4) e3' rfl
  have p5 := cell_of (j := 5) e4' rfl
  have q5 := cell_of (j := 5) e3' rfl
  have p6 := cell_of (j := 6) e4' rfl
  have q6 := cell_of (j := 6) e3' rfl
  have p7 := cell_of (j := 7) e4' rfl
  have q7 := cell_of (j := 7) e3' rfl
  have p8 := cell_of (j := 8) e4' rfl
  have q8 := cell_of (j := 8) e3' rfl
  have p9 := cell_of (j := 9) e4' rfl
  have q9 := cell_of (j := 9) e3' rfl
  replace cv1 := cv1
  replace e3' := Lib.hid e3'
  replace e4' := Lib.hid e4'
  replace hU8 := Lib.hid hU8
  replace hR8 := Lib.hid hR8
  replace k1 := Lib.hid k1
  clear hB68 hB58 hB48
  go_wp2_with fail
  (with_reducible refine (k1.out).mono ?_)
  rintro e w7 ⟨rfl, hB9⟩
  have hU9 := hU8.out.below hB9
  have hB9' := below_step hB8'.out hB9
  replace hU9 := Lib.hid hU9
  replace hB9' := Lib.hid hB9'
  replace hB9 := Lib.hid hB9
  go_wp2_with fail
  (with_reducible refine (h7.out _ hU9.out).mono ?_)
  rintro e w8 ⟨⟨v8, rfl, s8⟩, hB10⟩
  obtain ⟨a8, c8, hv8, _, _⟩ := own_shape s8.own
  subst hv8
  have hB10' := below_step hB9'.out hB10
  have hR10 := hR.below hB10'
  replace s8 := Lib.hid s8
  replace hR10 := Lib.hid hR10
  replace hB10' := Lib.hid hB10'
  replace hB10 := Lib.hid hB10
  go_wp2_with fail
  (with_reducible refine (h8.out _ hR10.out).mono ?_)
  rintro e w9 ⟨⟨v9, rfl, s9⟩, hB11⟩
  obtain ⟨a9, c9, hv9, _, _⟩ := own_shape s9.own
  subst hv9
  have hB11' := below_step hB10'.out hB11
  have k2 := rtexts_calls _ _ _ _ w9 ((Strs.rd s8.out).below hB11) (Strs.rd s9)
  rw [decide_eq_true rfl] at k2
  replace s9 := Lib.hid s9
  replace hB11' := Lib.hid hB11'
  replace hB11 := Lib.hid hB11
  replace k2 := Lib.hid k2
  go_wp2_with fail
  (with_reducible refine (k2.out).mono ?_)
  rintro e w10 ⟨rfl, hB12⟩
  have hB12' := below_step hB11'.out hB12
  replace hB12' := Lib.hid hB12'
  replace hB12 := Lib.hid hB12
  go_wp2
  go_ret
  exact ⟨rfl, hB12'.out⟩

end Go.Proofs.YtemdinjiplglgaaGreat

namespace Go.Proofs.YtemdinjiplglgaaGreat

/-- How many of the first paths stand right in a directory, and how many are names of a thing. -/
def inCnt (P : List Bytes) (s : Bytes) (k : Nat) : Nat := ((P.take k).filter fun x => decide (parent x = s)).length
def linkCnt (T : Fs) (i : Nat) (k : Nat) : Nat := ((T.paths.take k).filter fun x => decide ((T.stat x).1.ino = i)).length

theorem cnt_snoc {α : Type} (f : α → Bool) (l : List α) {k : Nat} (hk : k < l.length) : ((l.take (k + 1)).filter f).length = ((l.take k).filter f).length + if f l[k] = true then 1 else 0 := by
  rw [List.take_succ_eq_append_getElem hk, List.filter_append, List.length_append]
  congr 1
  by_cases h : f l[k] = true <;> simp [h]

section
variable {T : Fs}

theorem filter_len_congr {α : Type} {f g : α → Bool} {l : List α} (h : ∀ x ∈ l, f x = g x) : (l.filter f).length = (l.filter g).length := by
  rw [List.filter_congr h]

theorem parent_is {x s : Bytes} (hx : right x = true) : parent x = s ↔ (split x).dropLast = split s := by
  rw [← split_parent hx]
  exact ⟨fun e => by rw [e], fun e => split_inj e⟩

theorem inCnt_all (hI : T.Inv) (s : Bytes) : inCnt T.paths s T.paths.length = (T.kids (split s)).length := by
  unfold inCnt
  rw [List.take_length, paths_count, ← count_kids hI]
  refine filter_len_congr ?_
  rintro ⟨t, j⟩ hm
  obtain ⟨h1, h2⟩ := mem_below.1 hm
  rw [List.nil_append] at h2
  obtain ⟨h3, h4⟩ := (hI.pth _ _ h2).text
  rw [Bool.eq_iff_iff, decide_eq_true_eq, decide_eq_true_eq, parent_is h3, h4]

theorem linkCnt_all (hI : T.Inv) {i : Nat} (hi : i ≠ 1) : linkCnt T i T.paths.length = namesOf T.names i := by
  unfold linkCnt
  rw [List.take_length, paths_count, ← count_names hI hi]
  refine filter_len_congr ?_
  rintro ⟨t, j⟩ hm
  obtain ⟨h1, h2⟩ := mem_below.1 hm
  rw [List.nil_append] at h2
  obtain ⟨h3, h4⟩ := (hI.pth _ _ h2).text
  have := stat_name hI h3 (i := j) (by rw [h4]; exact h2)
  rw [Bool.eq_iff_iff, decide_eq_true_eq, decide_eq_true_eq, this]
  show ((j : Int) = i) ↔ j = i
  omega

/-- One of the paths: what is told of it and of the directory above it. -/
theorem path_at (hI : T.Inv) {k : Nat} (hk : k < T.paths.length) : right (T.paths[k]) = true ∧ T.paths[k] ≠ [] ∧ ∃ i, (split T.paths[k], i) ∈ T.names ∧ i ≠ 1 ∧ 2 ≤ i ∧ T.stat T.paths[k] = (T.tell (split T.paths[k]) i, 0) ∧
    ∃ d, ((split T.paths[k]).dropLast, d) ∈ T.names ∧ (T.nd d).kind = 2 ∧ T.stat (parent T.paths[k]) = (T.tell ((split T.paths[k]).dropLast) d, 0) := by
  obtain ⟨h1, h2, i, h3⟩ := (mem_paths hI).1 (List.getElem_mem hk)
  have hne : i ≠ 1 := fun e => by
    subst e
    exact split_ne_nil h2 (top_nil hI h3)
  have hlt := (hI.lt _ _ h3).1
  obtain ⟨d, h4, h5⟩ := hI.up _ _ h3 (split_ne_nil h2)
  refine ⟨h1, h2, i, h3, hne, by omega, stat_name hI h1 h3, d, h4, h5, ?_⟩
  have hp := split_parent h1
  obtain ⟨h6, h7⟩ := (hI.pth _ _ h4).text
  have := stat_name hI (s := parent T.paths[k]) (i := d) (by unfold parent; exact h6) (by rw [hp]; exact h4)
  rw [hp] at this
  exact this

theorem path_rise (hI : T.Inv) {k : Nat} (hk : k + 1 < T.paths.length) : lessP T.paths[k] T.paths[k + 1] = true := (List.pairwise_iff_getElem.1 (paths_rising hI)) k (k + 1) (by omega) hk (Nat.lt_succ_self k)

/-- What P17.11 says of a name. -/
theorem holds_at (hI : T.Inv) {s : Bytes} {i : Nat} (hr : right s = true) (hs : s ≠ []) (hm : (split s, i) ∈ T.names) (hi : i ≠ 1) :
    ((T.nd i).kind = 2 → T.size (split s) i = inCnt T.paths s T.paths.length) ∧ ((T.nd i).kind ≠ 2 → inCnt T.paths s T.paths.length = 0) ∧ (T.nd i).links = linkCnt T i T.paths.length ∧
      (T.nameList s).length = linkCnt T i T.paths.length ∧ ((T.nd i).kind ≠ 1 → linkCnt T i T.paths.length = 1) := by
  rw [inCnt_all hI, linkCnt_all hI hi]
  have h1 : (T.nd i).kind ≠ 1 → namesOf T.names i = 1 := fun hk => by
    unfold namesOf
    have hsing := hI.single _ i hm hk
    obtain ⟨a, b, e1, e2⟩ := split_at hI.nodup hm
    rw [e1, List.filter_append, List.filter_cons]
    simp only [decide_true, if_true]
    have hno : ∀ x, x ∈ a ∨ x ∈ b → x.2 ≠ i := by
      rintro ⟨q, j⟩ hx rfl
      have hq : (q, j) ∈ T.names := by rw [e1]; rcases hx with h | h <;> simp [h]
      have := hsing q hq
      subst this
      have hm2 : (split s, j) ∈ T.names.filter (fun x => x.1 ≠ split s) := by rw [e2]; rcases hx with h | h <;> simp [h]
      simp at hm2
    rw [List.filter_eq_nil_iff.2 (fun x hx => by simpa using hno x (Or.inl hx)), List.filter_eq_nil_iff.2 (fun x hx => by simpa using hno x (Or.inr hx))]
    rfl
  refine ⟨fun hk => ?_, fun hk => ?_, hI.links _ _ hm, ?_, h1⟩
  · unfold Fs.size
    rw [if_neg (by rw [hk]; decide), if_pos hk]
  · rw [kids_file hI hm hk]
    rfl
  · obtain ⟨g1, g2⟩ := there_name hI hr hm
    unfold Fs.nameList
    rw [if_neg (by simp [g2, hs]), g1]
    dsimp only
    by_cases hk : (T.nd i).kind = 1
    · rw [if_pos hk, (sortP_perm _).length_eq, List.length_map, count_names hI hi]
    · rw [if_neg hk, h1 hk]
      rfl

end

end Go.Proofs.YtemdinjiplglgaaGreat

namespace Go.Proofs.YtemdinjiplglgaaGreat
open Go.RowKit
set_option linter.unusedVariables false
set_option linter.unusedSimpArgs false

def rd (xs : List Int) (i : Nat) : Int := xs.getD i 0

/-- The next row's first k + 1 numbers. -/
def stepRow (a b : ByteArray) (i : Nat) (row : List Int) : Nat → List Int
  | 0 => [(i : Int) + 1]
  | k + 1 => stepRow a b i row k ++ [mn (mn (if bt a i = bt b k then rd row k else rd row k + 1) (rd row (k + 1) + 1)) (rd (stepRow a b i row k) k + 1)]
def rowAt (a b : ByteArray) : Nat → List Int
  | 0 => (List.range (b.size + 1)).map fun (k : Nat) => (k : Int)
  | i + 1 => stepRow a b i (rowAt a b i) b.size
def cutS (s : ByteArray) : ByteArray := s.extract 0 (min s.size 200)
def dist (a b : ByteArray) : Int := rd (rowAt a b a.size) b.size
def ints (xs : List Int) : Array Value := (xs.map fun x => Value.int .i64 x).toArray

set_option maxHeartbeats 1000000 in
set_option maxRecDepth 100000 in
theorem short_calls (s : ByteArray) (w : World) : Calls Tryz.prog 78 #[.string s] w fun e w' => e = .returned (.string (cutS s)) ∧ w = w' := by
  have h0 : 0 ≤ mn (s.size : Int) 200 := by unfold mn; split <;> omega
  have h1 : mn (s.size : Int) 200 ≤ (s.size : Int) := by unfold mn; split <;> omega
  have h2 : (mn (s.size : Int) 200).toNat = min s.size 200 := by unfold mn; split <;> omega
  have H := Lib.hid h2
  clear h2
  go_enter Tryz.func78, Tryz.ntmps78
  go_wp2
  go_ret
  exact ⟨ret_str (by unfold cutS; rw [H.out]), rfl⟩

theorem cutS_size (s : ByteArray) : (cutS s).size ≤ 200 := by unfold cutS; simp; omega
theorem info_int : (Tryz.prog.info? 3).map (fun i => (i.zero, i.size, i.bytes)) = some (some (.int .i64 0), 1, 8) := by kernel_rfl

/-- Two rows of the call's own, each a block that is known whole; what was there before is as it was. -/
structure Two (w W : World) (g1 g2 : Nat) (xs ys : List Int) : Prop where
  b1 : w.heap.size ≤ g1
  b2 : w.heap.size ≤ g2
  ne : g1 ≠ g2
  h1 : W.heap[g1]? = some (.cells (ints xs) 3 (0, 0))
  h2 : W.heap[g2]? = some (.cells (ints ys) 3 (0, 0))
  below : Below w.heap.size w W
theorem Two.swap {w W : World} {g1 g2 : Nat} {xs ys : List Int} (h : Two w W g1 g2 xs ys) : Two w W g2 g1 ys xs := ⟨h.b2, h.b1, h.ne.symm, h.h2, h.h1, h.below⟩
theorem Two.drewN {w W : World} {g1 g2 : Nat} {xs ys : List Int} (h : Two w W g1 g2 xs ys) (n : Nat) : Two w (W.drewN n) g1 g2 xs ys := ⟨h.b1, h.b2, h.ne, h.h1, h.h2, below_drewN h.below n⟩
theorem ints_get {xs : List Int} {i : Nat} (h : i < xs.length) : (ints xs)[i]? = some (.int .i64 (rd xs i)) := by
  simp [ints, rd, h]
theorem Two.cell {w W : World} {g1 g2 : Nat} {xs ys : List Int} (h : Two w W g1 g2 xs ys) {i : Nat} (hi : i < xs.length) : W.cell? ⟨g1, i, none⟩ = some (.int .i64 (rd xs i)) := by
  rw [cell_of_row W g1 i (ints xs) 3 (0, 0) h.h1]; exact ints_get hi
theorem Two.free {w W : World} {g1 g2 : Nat} {xs ys : List Int} (h : Two w W g1 g2 xs ys) (i : Nat) : W.frozen? ⟨g1, i, none⟩ = false := by simp [World.frozen?, h.h1]
theorem blk_setA {w : World} {g : Nat} {t : TypeId} {cs : Array Value} (h : w.heap[g]? = some (.cells cs t (0, 0))) (i : Nat) (u : Value) : (w.setCell ⟨g, i, none⟩ u).heap[g]? = some (.cells (cs.setIfInBounds i u) t (0, 0)) := by
  have hlt : g < w.heap.size := (Array.getElem?_eq_some_iff.1 h).1
  have h' : w.heap[g] = .cells cs t (0, 0) := (Array.getElem?_eq_some_iff.1 h).2
  show (w.heap.modify g _)[g]? = _
  rw [Array.getElem?_eq_getElem (by simpa using hlt), Array.getElem_modify_self, h']
  rfl
theorem Two.set {w W : World} {g1 g2 : Nat} {xs ys : List Int} (h : Two w W g1 g2 xs ys) (i : Nat) (v : Int) : Two w (W.setCell ⟨g1, i, none⟩ (.int .i64 v)) g1 g2 (xs.set i v) ys := by
  refine ⟨h.b1, h.b2, h.ne, ?_, ?_, h.below.setCell h.b1 _⟩
  · rw [blk_setA h.h1]
    congr 2
    simp only [ints, List.map_set, List.setIfInBounds_toArray]
  · rw [Below.heap_setCell _ _ _ _ (fun e => h.ne e.symm)]; exact h.h2
theorem Two.sets {w : World} {g1 g2 : Nat} {ys : List Int} : ∀ (zs : List Int) (W : World) (xs : List Int) (o : Nat), Two w W g1 g2 xs ys → ∃ xs', Two w (W.setCells g1 o (zs.map fun z => .int .i64 z)) g1 g2 xs' ys ∧ xs'.length = xs.length ∧ (∀ j, j < o → rd xs' j = rd xs j) ∧ ∀ j, o ≤ j → j < xs.length → j < o + zs.length → rd xs' j = rd zs (j - o)
  | [], W, xs, o, h => ⟨xs, h, rfl, fun _ _ => rfl, fun j h1 _ h2 => by simp at h2; omega⟩
  | z :: r, W, xs, o, h => by
    obtain ⟨xs', h1, h2, h3, h4⟩ := Two.sets r _ _ (o + 1) (h.set o z)
    refine ⟨xs', h1, by simpa using h2, fun j hj => ?_, fun j hj hl hl2 => ?_⟩
    · rw [h3 j (by omega)]; simp [rd, List.getElem?_set, show o ≠ j by omega]
    · by_cases e : j = o
      · subst e
        rw [h3 _ (by omega)]; simp [rd, List.getElem?_set, hl]
      · rw [h4 j (by omega) (by simpa using hl) (by simp at hl2; omega)]
        obtain ⟨q, rfl⟩ : ∃ q, j = o + 1 + q := ⟨j - o - 1, by omega⟩
        simp [rd, show o + 1 + q - o = q + 1 by omega]
theorem rd_ext {xs ys : List Int} (hl : xs.length = ys.length) (h : ∀ j, j < xs.length → rd xs j = rd ys j) : xs = ys := by
  apply List.ext_getElem hl
  intro i h1 h2
  have := h i h1
  simpa [rd, h1, h2] using this
/-- clear(next). -/
theorem Two.clear {w W : World} {g1 g2 n : Nat} {xs ys : List Int} (h : Two w W g1 g2 xs ys) (hl : xs.length = n + 1) (ty : TypeId) :
    ∃ W', (Builtin.clear_ #[101] ty #[.slice (some ⟨g1, 0, none⟩) (n + 1) (n + 1)]).run Tryz.prog W = .ok (.tuple #[]) W' ∧ Two w W' g1 g2 (List.replicate (n + 1) 0) ys := by
  refine ⟨_, Lib.run_clear_slice W 101 3 ty (.int .i64 0) Tryz.underlying101 (fun w => by kernel_rfl) rfl rfl g1 0 (n + 1) (n + 1) (by omega) (fun j hj => ?_) (fun j _ => ?_), ?_⟩
  · rw [Nat.zero_add, h.cell (by omega)]; rfl
  · exact h.free _
  · obtain ⟨xs', h1, h2, _, h4⟩ := Two.sets (List.replicate (n + 1) 0) W xs 0 h
    have e : xs' = List.replicate (n + 1) 0 := rd_ext (by rw [h2, hl]; simp) (fun j hj => by
      have hj' : j < n + 1 := by omega
      rw [h4 j (Nat.zero_le _) (by omega) (by simp; omega)]; simp [rd])
    rw [e] at h1
    simpa using h1

/-- The first row while it is filled. -/
def iota (m k : Nat) : List Int := (List.range (m + 1)).map fun (j : Nat) => if j < k then (j : Int) else 0
theorem iota_length (m k : Nat) : (iota m k).length = m + 1 := by simp [iota]
theorem iota_zero (m : Nat) : iota m 0 = List.replicate (m + 1) 0 := by
  apply List.ext_getElem <;> simp [iota]
theorem iota_set (m k : Nat) (h : k < m + 1) : (iota m k).set k (k : Int) = iota m (k + 1) := by
  apply List.ext_getElem
  · simp [iota]
  · intro i h1 h2
    simp only [iota, List.getElem_set, List.getElem_map, List.getElem_range]
    split
    · rename_i e; subst e; simp
    · rename_i e
      split <;> split <;> first | rfl | omega
theorem iota_all (a b : ByteArray) : iota b.size (b.size + 1) = rowAt a b 0 := by
  apply List.ext_getElem
  · simp [iota, rowAt]
  · intro i h1 h2
    simp only [iota, List.length_map, List.length_range] at h1
    simp [iota, rowAt, h1]

theorem stepRow_length (a b : ByteArray) (i : Nat) (row : List Int) : ∀ k, (stepRow a b i row k).length = k + 1
  | 0 => rfl
  | k + 1 => by simp [stepRow, stepRow_length a b i row k]
theorem rowAt_length (a b : ByteArray) : ∀ i, (rowAt a b i).length = b.size + 1
  | 0 => by simp [rowAt]
  | i + 1 => stepRow_length ..
/-- The next row while it is filled. -/
def part (a b : ByteArray) (i : Nat) (row : List Int) (k : Nat) : List Int := stepRow a b i row k ++ List.replicate (b.size - k) 0
theorem part_length (a b : ByteArray) (i : Nat) (row : List Int) (k : Nat) (h : k ≤ b.size) : (part a b i row k).length = b.size + 1 := by
  simp [part, stepRow_length]; omega
theorem part_zero (a b : ByteArray) (i : Nat) (row : List Int) : (List.replicate (b.size + 1) (0 : Int)).set 0 ((i : Int) + 1) = part a b i row 0 := by
  simp [part, stepRow, List.replicate_succ]
theorem part_rd (a b : ByteArray) (i : Nat) (row : List Int) (k : Nat) : rd (part a b i row k) k = rd (stepRow a b i row k) k := by
  simp [rd, part, List.getElem?_append, stepRow_length]
theorem part_set (a b : ByteArray) (i : Nat) (row : List Int) (k : Nat) (h : k < b.size) (v : Int)
    (hv : v = mn (mn (if bt a i = bt b k then rd row k else rd row k + 1) (rd row (k + 1) + 1)) (rd (part a b i row k) k + 1)) : (part a b i row k).set (k + 1) v = part a b i row (k + 1) := by
  rw [part_rd] at hv
  subst hv
  have e : List.replicate (b.size - k) (0 : Int) = 0 :: List.replicate (b.size - (k + 1)) 0 := by
    rw [show b.size - k = (b.size - (k + 1)) + 1 by omega, List.replicate_succ]
  unfold part
  rw [e, List.set_append]
  simp [stepRow_length, stepRow]
theorem part_all (a b : ByteArray) (i : Nat) : part a b i (rowAt a b i) b.size = rowAt a b (i + 1) := by simp [part, rowAt]
theorem mn_bd {a b : Int} (ha : 0 ≤ a) (hb : 0 ≤ b) {c : Int} (h : a ≤ c ∨ b ≤ c) : 0 ≤ mn a b ∧ mn a b ≤ c := by
  unfold mn; split <;> omega
theorem rd_snoc (xs : List Int) (v : Int) (j : Nat) : rd (xs ++ [v]) j = if j = xs.length then v else rd xs j := by
  simp only [rd, List.getD_eq_getElem?_getD, List.getElem?_append]
  split
  · rw [if_neg (by omega)]
  · split
    · rename_i h; simp [h]
    · rw [List.getElem?_eq_none (by simp; omega), List.getElem?_eq_none (by omega)]
theorem step_bd (a b : ByteArray) (i m : Nat) (row : List Int) (h : ∀ j, j ≤ m → 0 ≤ rd row j ∧ rd row j ≤ (i : Int) + j) : ∀ k, k ≤ m → ∀ j, j ≤ k → 0 ≤ rd (stepRow a b i row k) j ∧ rd (stepRow a b i row k) j ≤ (i : Int) + 1 + j
  | 0, _, j, hj => by
    obtain rfl : j = 0 := by omega
    simp [stepRow, rd]; omega
  | k + 1, hk, j, hj => by
    have ih := step_bd a b i m row h k (by omega)
    simp only [stepRow]
    rw [rd_snoc, stepRow_length]
    split
    · rename_i e
      subst e
      have h1 := h k (by omega)
      have h2 := h (k + 1) (by omega)
      have h3 := ih k (by omega)
      refine mn_bd ?_ (by omega) (.inr (by omega))
      refine (mn_bd (c := (i : Int) + (k + 1) + 1) ?_ (by omega) (.inr (by omega))).1
      split <;> omega
    · exact ih j (by omega)
theorem row_bd (a b : ByteArray) : ∀ i j, j ≤ b.size → 0 ≤ rd (rowAt a b i) j ∧ rd (rowAt a b i) j ≤ (i : Int) + j
  | 0, j, hj => by
    have : rd (rowAt a b 0) j = j := by simp [rd, rowAt, show j < b.size + 1 by omega]
    rw [this]; omega
  | i + 1, j, hj => by
    have h := step_bd a b i b.size (rowAt a b i) (row_bd a b i) b.size (Nat.le_refl _) j hj
    simp only [rowAt]
    exact ⟨h.1, by have := h.2; omega⟩
theorem part_bd (a b : ByteArray) (i k : Nat) (hk : k ≤ b.size) : 0 ≤ rd (part a b i (rowAt a b i) k) k ∧ rd (part a b i (rowAt a b i) k) k ≤ (i : Int) + 1 + k := by
  rw [part_rd]
  exact step_bd a b i b.size (rowAt a b i) (row_bd a b i) k hk k (Nat.le_refl _)

theorem made_ints (m : Nat) : madeCells #[.int .i64 0] (m + 1) = ints (List.replicate (m + 1) 0) := by
  apply Array.ext
  · simp [madeCells, ints]
  · intro i h1 h2
    simp [madeCells, ints, Nat.mod_one]
theorem two_made (w : World) (m : Nat) : Two w ((w.alloc (.cells (madeCells #[.int .i64 0] (m + 1)) 3)).alloc (.cells (madeCells #[.int .i64 0] (m + 1)) 3)) w.heap.size (w.heap.size + 1) (List.replicate (m + 1) 0) (List.replicate (m + 1) 0) := by
  rw [made_ints]
  refine ⟨Nat.le_refl _, by omega, by omega, ?_, ?_, ((Below.refl _ _).alloc (Nat.le_refl _) _).alloc (by simp) _⟩
  · rw [Below.heap_alloc _ _ _ (by simp)]; exact heap_alloc_new w _
  · have := heap_alloc_new (w.alloc (.cells (ints (List.replicate (m + 1) 0)) 3)) (.cells (ints (List.replicate (m + 1) 0)) 3)
    simpa using this

set_option maxHeartbeats 1000000 in
set_option maxRecDepth 100000 in
theorem apart_calls (a b : ByteArray) (w : World) :
    Calls Tryz.prog 33 #[.string a, .string b] w fun e w' => e = .returned (.int .i64 (dist (cutS a) (cutS b))) ∧ Below w.heap.size w w' := by
  have HA := cutS_size a
  have HB := cutS_size b
  have ha := fun W => short_calls a W
  have hb := fun W => short_calls b W
  generalize cutS a = A at *
  generalize cutS b = B at *
  have Ha := Lib.hid ha
  have Hb := Lib.hid hb
  clear ha hb
  obtain ⟨n, hn⟩ : ∃ n, n = A.size := ⟨_, rfl⟩
  obtain ⟨m, hm⟩ : ∃ m, m = B.size := ⟨_, rfl⟩
  have hmk := run_make_row' (P := Tryz.prog) 101 3 (.int .i64 0) 8 Tryz.underlying101 info_int rfl .i64 .i64 (B.size + 1) (by omega) (by omega)
  have ec : ((B.size + 1 : Nat) : Int) = (B.size : Int) + 1 := by omega
  rw [ec] at hmk
  clear ec hm hn
  go_enter Tryz.func33, Tryz.ntmps33
  go_wp2_with fail
  refine (Ha.out _).mono ?_
  rintro e w1 ⟨rfl, rfl⟩
  go_wp2_with fail
  refine (Hb.out _).mono ?_
  rintro e w1 ⟨rfl, rfl⟩
  go_upto_region 2 with fail
  go_cut [5, 6] (fun r n W => ∃ g1 g2, r = .slice (some ⟨g1, 0, none⟩) (B.size + 1) (B.size + 1) ∧ n = .slice (some ⟨g2, 0, none⟩) (B.size + 1) (B.size + 1) ∧ Two w W g1 g2 (List.replicate (B.size + 1) 0) (List.replicate (B.size + 1) 0))
  case first =>
    go_region
    all_goals go_wp2
    all_goals go_meet
    · exact ⟨w.heap.size, w.heap.size + 1, rfl, rfl, (two_made w B.size).drewN 1⟩
    · exact ⟨w.heap.size + 1, w.heap.size, rfl, rfl, ((two_made w B.size).drewN 1).swap⟩
  case rest =>
    obtain ⟨g1, g2, rfl, rfl, HT⟩ := hcut
    clear hmk
    rw [← iota_zero] at HT
    go_wp2
    go_loopw [25] (fun i W => ∃ k : Nat, i = .int .i64 k ∧ k ≤ B.size + 1 ∧ Two w W g1 g2 (iota B.size k) (iota B.size 0)) (fun i _ => B.size + 1 - (intOf i).toNat)
    case atStart => exact ⟨0, rfl, by omega, HT⟩
    case round =>
      clear HT
      obtain ⟨k, rfl, hk, HT⟩ := hrel
      by_cases hlt : k < B.size + 1
      · have hc := HT.cell (i := k) (by rw [iota_length]; omega)
        have hf := HT.free k
        go_wp2
        go_roundw
        case measure => simp [intOf]; omega
        case rel => exact ⟨k + 1, by go_num, by omega, by rw [← iota_set _ _ hlt]; exact HT.set k k⟩
      · obtain rfl : k = B.size + 1 := by omega
        rw [iota_all A B, iota_zero] at HT
        clear hk hlt
        go_wp2
        go_loopw [5, 6, 35] (fun r n i W => ∃ (k g1 g2 : Nat) (ys : List Int), i = .int .i64 k ∧ k ≤ A.size ∧ r = .slice (some ⟨g1, 0, none⟩) (B.size + 1) (B.size + 1) ∧ n = .slice (some ⟨g2, 0, none⟩) (B.size + 1) (B.size + 1) ∧ ys.length = B.size + 1 ∧ Two w W g1 g2 (rowAt A B k) ys) (fun _ _ i _ => A.size - (intOf i).toNat)
        case atStart => exact ⟨0, g1, g2, _, rfl, by omega, rfl, rfl, by simp, HT⟩
        case round =>
          clear HT
          obtain ⟨k, g1, g2, ys, rfl, hk, rfl, rfl, hy, HT⟩ := hrel
          by_cases hlt : k < A.size
          · obtain ⟨W1, hcl, HT1⟩ := HT.swap.clear hy 0
            have hc1 := HT1.cell (i := 0) (by simp)
            have hf1 := HT1.free 0
            have HT2 := HT1.set 0 ((k : Int) + 1)
            rw [part_zero A B k (rowAt A B k)] at HT2
            have Hy := Lib.hid hy
            clear hy HT HT1
            go_wp2
            go_loopw [45] (fun i W => ∃ j : Nat, i = .int .i64 j ∧ j ≤ B.size ∧ Two w W g2 g1 (part A B k (rowAt A B k) j) (rowAt A B k)) (fun i _ => B.size - (intOf i).toNat)
            case atStart => exact ⟨0, rfl, by omega, HT2⟩
            case round =>
              clear HT2 hcl hc1 hf1
              obtain ⟨j, rfl, hj, HT⟩ := hrel
              by_cases hlj : j < B.size
              · have hr1 := HT.swap.cell (i := j) (by rw [rowAt_length]; omega)
                have hr2 := HT.swap.cell (i := j + 1) (by rw [rowAt_length]; omega)
                have hn1 := HT.cell (i := j) (by rw [part_length _ _ _ _ _ hj]; omega)
                have hn2 := HT.cell (i := j + 1) (by rw [part_length _ _ _ _ _ hj]; omega)
                have hf := HT.free (j + 1)
                have hba := bt_at A k hlt
                have hbb := bt_at B j hlj
                have hp := part_set A B k (rowAt A B k) j hlj
                have bd1 := row_bd A B k j hj
                have bd2 := row_bd A B k (j + 1) hlj
                have bd3 := part_bd A B k j hj
                have s1 := HT.set (j + 1) (mn (mn (rd (rowAt A B k) j) (rd (rowAt A B k) (j + 1) + 1)) (rd (part A B k (rowAt A B k) j) j + 1))
                have s2 := HT.set (j + 1) (mn (mn (rd (rowAt A B k) j + 1) (rd (rowAt A B k) (j + 1) + 1)) (rd (part A B k (rowAt A B k) j) j + 1))
                generalize rd (rowAt A B k) j = x at *
                generalize rd (rowAt A B k) (j + 1) = y at *
                generalize rd (part A B k (rowAt A B k) j) j = z at *
                generalize rd (part A B k (rowAt A B k) j) (j + 1) = u at *
                generalize part A B k (rowAt A B k) j = pr at *
                have Hp := Lib.hid hp
                clear hp
                by_cases hbt : bt A k = bt B j
                · have Hp2 : Hid (pr.set (j + 1) (mn (mn x (y + 1)) (z + 1)) = part A B k (rowAt A B k) (j + 1)) := Hp.out _ (by rw [if_pos hbt])
                  clear Hp s2
                  go_wp2
                  go_quiet (fail)
                  go_wp2
                  go_region
                  all_goals go_wp2
                  all_goals go_roundw
                  case measure => simp [intOf]; omega
                  case rel => exact ⟨j + 1, by go_num, by omega, by rw [← Hp2.out]; exact s1.drewN (nq + 1)⟩
                · have Hp2 : Hid (pr.set (j + 1) (mn (mn (x + 1) (y + 1)) (z + 1)) = part A B k (rowAt A B k) (j + 1)) := Hp.out _ (by rw [if_neg hbt])
                  have hbf : (bt A k == bt B j) = false := by simpa using hbt
                  have hbg : (bt A k != bt B j) = true := by simpa using hbt
                  clear Hp s1 hbt
                  go_wp2
                  go_quiet (fail)
                  go_wp2
                  go_region
                  all_goals go_wp2
                  all_goals go_roundw
                  case measure => simp [intOf]; omega
                  case rel => exact ⟨j + 1, by go_num, by omega, by rw [← Hp2.out]; exact s2.drewN (nq + 1)⟩
              · obtain rfl : j = B.size := by omega
                rw [part_all] at HT
                clear hlj hj
                go_wp2
                go_roundw
                case measure => simp [intOf]; omega
                case rel => exact ⟨k + 1, g2, g1, _, by go_num, by omega, rfl, rfl, rowAt_length _ _ _, HT⟩
          · obtain rfl : k = A.size := by omega
            have hc := HT.cell (i := B.size) (by rw [rowAt_length]; omega)
            have Hy := Lib.hid hy
            clear hy hlt hk
            go_wp2
            go_ret
            exact ⟨rfl, HT.below⟩

end Go.Proofs.YtemdinjiplglgaaGreat

namespace Go.Proofs.YtemdinjiplglgaaGreat

/-- The distance of two lists, from their heads on. -/
def lev {α : Type} [DecidableEq α] : List α → List α → Int
  | [], ys => ys.length
  | _ :: xs, [] => xs.length + 1
  | x :: xs, y :: ys => mn (mn (lev xs ys + if x = y then 0 else 1) (lev xs (y :: ys) + 1)) (lev (x :: xs) ys + 1)
termination_by xs ys => xs.length + ys.length

section
variable {α : Type} [DecidableEq α]
theorem lev_nil_left (ys : List α) : lev [] ys = ys.length := by cases ys <;> simp [lev]
theorem lev_nil_right (xs : List α) : lev xs [] = xs.length := by cases xs <;> simp [lev]
theorem lev_cons (x y : α) (xs ys : List α) : lev (x :: xs) (y :: ys) = mn (mn (lev xs ys + if x = y then 0 else 1) (lev xs (y :: ys) + 1)) (lev (x :: xs) ys + 1) := by rw [lev]
theorem mn_comm (a b : Int) : mn a b = mn b a := by unfold mn; split <;> split <;> omega
theorem mn_le_left (a b : Int) : mn a b ≤ a := by unfold mn; split <;> omega
theorem mn_le_right (a b : Int) : mn a b ≤ b := by unfold mn; split <;> omega
theorem le_mn {a b c : Int} (h : c ≤ a) (k : c ≤ b) : c ≤ mn a b := by unfold mn; split <;> omega
theorem mn_cases (a b : Int) : mn a b = a ∨ mn a b = b := by unfold mn; split <;> simp

theorem lev_symm : ∀ (n : Nat) (xs ys : List α), xs.length + ys.length ≤ n → lev xs ys = lev ys xs
  | n, [], ys, _ => by rw [lev_nil_left, lev_nil_right]
  | n, x :: xs, [], _ => by rw [lev_nil_left, lev_nil_right]
  | 0, x :: xs, y :: ys, h => by simp at h
  | n + 1, x :: xs, y :: ys, h => by
    simp only [List.length_cons] at h
    rw [lev_cons, lev_cons, lev_symm n xs ys (by omega), lev_symm n xs (y :: ys) (by simp; omega), lev_symm n (x :: xs) ys (by simp; omega)]
    have e : (if x = y then (0 : Int) else 1) = if y = x then 0 else 1 := by simp only [eq_comm]
    rw [e]
    unfold mn
    repeat' split
    all_goals omega
theorem lev_comm (xs ys : List α) : lev xs ys = lev ys xs := lev_symm _ xs ys (Nat.le_refl _)

theorem lev_cons_le (x : α) (xs ys : List α) : lev (x :: xs) ys ≤ lev xs ys + 1 := by
  cases ys with
  | nil => simp [lev_nil_right]
  | cons y ys => rw [lev_cons]; exact Int.le_trans (mn_le_left _ _) (mn_le_right _ _)
theorem lev_le_cons (y : α) (xs ys : List α) : lev xs (y :: ys) ≤ lev xs ys + 1 := by
  rw [lev_comm xs, lev_comm xs]; exact lev_cons_le y ys xs
theorem lev_cons_cons_le (x y : α) (xs ys : List α) : lev (x :: xs) (y :: ys) ≤ lev xs ys + if x = y then 0 else 1 := by
  rw [lev_cons]; exact Int.le_trans (mn_le_left _ _) (mn_le_left _ _)

theorem lev_nonneg : ∀ (n : Nat) (xs ys : List α), xs.length + ys.length ≤ n → 0 ≤ lev xs ys
  | n, [], ys, _ => by rw [lev_nil_left]; omega
  | n, x :: xs, [], _ => by rw [lev_nil_right]; omega
  | 0, x :: xs, y :: ys, h => by simp at h
  | n + 1, x :: xs, y :: ys, h => by
    simp only [List.length_cons] at h
    rw [lev_cons]
    have h1 := lev_nonneg n xs ys (by omega)
    have h2 := lev_nonneg n xs (y :: ys) (by simp; omega)
    have h3 := lev_nonneg n (x :: xs) ys (by simp; omega)
    exact le_mn (le_mn (by split <;> omega) (by omega)) (by omega)
theorem lev_ge (xs ys : List α) : 0 ≤ lev xs ys := lev_nonneg _ xs ys (Nat.le_refl _)

theorem lev_len_le (ys zs : List α) : (zs.length : Int) ≤ ys.length + lev ys zs := by
  induction ys generalizing zs with
  | nil => rw [lev_nil_left]; simp
  | cons y ys ih =>
    induction zs with
    | nil => have := lev_ge (y :: ys) ([] : List α); simp; omega
    | cons z zs ihz =>
      rw [lev_cons]
      have h1 := ih zs
      have h2 := ih (z :: zs)
      simp only [List.length_cons] at h2 ihz ⊢
      rcases mn_cases (mn (lev ys zs + if y = z then 0 else 1) (lev ys (z :: zs) + 1)) (lev (y :: ys) zs + 1) with e | e
      · rcases mn_cases (lev ys zs + if y = z then 0 else 1) (lev ys (z :: zs) + 1) with e' | e'
        · have : 0 ≤ (if y = z then (0 : Int) else 1) := by split <;> omega
          rw [e, e']; push_cast; omega
        · rw [e, e']; push_cast at h2 ⊢; omega
      · rw [e]; push_cast at ihz ⊢; omega
theorem lev_max_le (xs zs : List α) : lev xs zs ≤ xs.length + zs.length := by
  induction xs with
  | nil => rw [lev_nil_left]; simp
  | cons x xs ih => have := lev_cons_le x xs zs; simp only [List.length_cons]; push_cast; omega

theorem lev_triangle : ∀ (n : Nat) (xs ys zs : List α), xs.length + ys.length + zs.length ≤ n → lev xs zs ≤ lev xs ys + lev ys zs
  | n, [], ys, zs, _ => by
    rw [lev_nil_left, lev_nil_left]
    exact lev_len_le ys zs
  | n, xs, ys, [], _ => by
    rw [lev_nil_right, lev_nil_right, lev_comm xs ys]
    have := lev_len_le ys xs
    omega
  | n, xs, [], zs, _ => by
    rw [lev_nil_left, lev_nil_right]
    exact lev_max_le xs zs
  | 0, x :: xs, y :: ys, z :: zs, h => by simp at h
  | n + 1, x :: xs, y :: ys, z :: zs, h => by
    simp only [List.length_cons] at h
    have t1 := lev_triangle n xs ys zs (by omega)
    have t2 := lev_triangle n xs (y :: ys) (z :: zs) (by simp; omega)
    have t3 := lev_triangle n (x :: xs) ys (z :: zs) (by simp; omega)
    have t4 := lev_triangle n (x :: xs) (y :: ys) zs (by simp; omega)
    have c1 := lev_cons_cons_le x z xs zs
    have c2 := lev_cons_le x xs (z :: zs)
    have c3 := lev_le_cons z (x :: xs) zs
    have hx : (if x = z then (0 : Int) else 1) ≤ (if x = y then 0 else 1) + if y = z then 0 else 1 := by
      by_cases h1 : x = y
      · subst h1; simp
      · rw [if_neg h1]; split <;> split <;> omega
    have e1 := lev_cons x y xs ys
    have e2 := lev_cons y z ys zs
    rcases mn_cases (mn (lev xs ys + if x = y then 0 else 1) (lev xs (y :: ys) + 1)) (lev (x :: xs) ys + 1) with h1 | h1
    · rcases mn_cases (lev xs ys + if x = y then 0 else 1) (lev xs (y :: ys) + 1) with h2 | h2
      · rcases mn_cases (mn (lev ys zs + if y = z then 0 else 1) (lev ys (z :: zs) + 1)) (lev (y :: ys) zs + 1) with h3 | h3
        · rcases mn_cases (lev ys zs + if y = z then 0 else 1) (lev ys (z :: zs) + 1) with h4 | h4
          · omega
          · have t5 := lev_triangle n xs ys (z :: zs) (by simp; omega)
            have : 0 ≤ (if x = y then (0 : Int) else 1) := by split <;> omega
            omega
        · omega
      · omega
    · rcases mn_cases (mn (lev ys zs + if y = z then 0 else 1) (lev ys (z :: zs) + 1)) (lev (y :: ys) zs + 1) with h3 | h3
      · rcases mn_cases (lev ys zs + if y = z then 0 else 1) (lev ys (z :: zs) + 1) with h4 | h4
        · have t6 := lev_triangle n (x :: xs) ys zs (by simp; omega)
          have : 0 ≤ (if y = z then (0 : Int) else 1) := by split <;> omega
          omega
        · omega
      · omega
theorem lev_tri (xs ys zs : List α) : lev xs zs ≤ lev xs ys + lev ys zs := lev_triangle _ xs ys zs (Nat.le_refl _)
theorem lev_len (ys zs : List α) : (zs.length : Int) ≤ ys.length + lev ys zs := lev_len_le ys zs
theorem lev_max : ∀ (n : Nat) (xs ys : List α), xs.length + ys.length ≤ n → lev xs ys ≤ max xs.length ys.length
  | n, [], ys, _ => by rw [lev_nil_left]; omega
  | n, x :: xs, [], _ => by rw [lev_nil_right]; omega
  | 0, x :: xs, y :: ys, h => by simp at h
  | n + 1, x :: xs, y :: ys, h => by
    simp only [List.length_cons] at h ⊢
    have h1 := lev_max n xs ys (by omega)
    have h2 := lev_cons_cons_le x y xs ys
    have : (if x = y then (0 : Int) else 1) ≤ 1 := by split <;> omega
    omega
theorem lev_self (xs : List α) : lev xs xs = 0 := by
  induction xs with
  | nil => rw [lev_nil_left]; rfl
  | cons x xs ih =>
    have h1 := lev_cons_cons_le x x xs xs
    have h2 := lev_ge (x :: xs) (x :: xs)
    rw [if_pos rfl, ih] at h1
    omega
theorem lev_eq : ∀ (n : Nat) (xs ys : List α), xs.length + ys.length ≤ n → lev xs ys = 0 → xs = ys
  | n, [], ys, _, h => by rw [lev_nil_left] at h; exact (List.eq_nil_of_length_eq_zero (by omega)).symm
  | n, x :: xs, [], _, h => by rw [lev_nil_right] at h; simp at h; omega
  | 0, x :: xs, y :: ys, hl, h => by simp at hl
  | n + 1, x :: xs, y :: ys, hl, h => by
    simp only [List.length_cons] at hl
    rw [lev_cons] at h
    have g1 := lev_ge xs ys
    have g2 := lev_ge xs (y :: ys)
    have g3 := lev_ge (x :: xs) ys
    rcases mn_cases (mn (lev xs ys + if x = y then 0 else 1) (lev xs (y :: ys) + 1)) (lev (x :: xs) ys + 1) with e | e
    · rcases mn_cases (lev xs ys + if x = y then 0 else 1) (lev xs (y :: ys) + 1) with e' | e'
      · rw [e, e'] at h
        by_cases hxy : x = y
        · rw [if_pos hxy] at h
          rw [hxy, lev_eq n xs ys (by omega) (by omega)]
        · rw [if_neg hxy] at h; omega
      · omega
    · omega

/-- The same head. -/
theorem lev_same (c : α) (xs ys : List α) : lev (c :: xs) (c :: ys) = lev xs ys := by
  have h := lev_cons c c xs ys
  rw [if_pos rfl] at h
  have h1 := lev_le_cons c xs ys
  have h2 : lev xs ys ≤ lev xs (c :: ys) + 1 := by
    have := lev_tri xs (c :: ys) ys
    have k : lev (c :: ys) ys ≤ 1 := by
      have := lev_cons_le c ys ys
      rw [lev_self] at this; omega
    omega
  have h3 : lev xs ys ≤ lev (c :: xs) ys + 1 := by
    have := lev_tri xs (c :: xs) ys
    have k : lev xs (c :: xs) ≤ 1 := by
      have := lev_le_cons c xs xs
      rw [lev_self] at this; omega
    omega
  rw [h]
  unfold mn
  repeat' split
  all_goals omega
theorem lev_one (c : α) (zs : List α) : lev [c] (zs ++ [c]) = zs.length := by
  induction zs with
  | nil => exact lev_self _
  | cons y ys ih =>
    simp only [List.cons_append, List.length_cons] at ih ⊢
    rw [lev_cons, lev_nil_left, lev_nil_left, ih]
    simp only [List.length_cons, List.length_append, List.length_nil]
    unfold mn
    repeat' split
    all_goals omega
/-- The same last. -/
theorem lev_snoc (c : α) : ∀ (n : Nat) (xs ys : List α), xs.length + ys.length ≤ n → lev (xs ++ [c]) (ys ++ [c]) = lev xs ys
  | n, [], ys, _ => by rw [lev_nil_left, List.nil_append]; exact lev_one c ys
  | n, x :: xs, [], _ => by
    rw [lev_comm, lev_nil_right, List.nil_append]
    exact lev_one c (x :: xs)
  | 0, x :: xs, y :: ys, h => by simp at h
  | n + 1, x :: xs, y :: ys, h => by
    simp only [List.length_cons] at h
    simp only [List.cons_append]
    rw [lev_cons, lev_cons]
    have h1 := lev_snoc c n xs ys (by omega)
    have h2 := lev_snoc c n xs (y :: ys) (by simp; omega)
    have h3 := lev_snoc c n (x :: xs) ys (by simp; omega)
    simp only [List.cons_append] at h2 h3
    rw [h1, h2, h3]
end
end Go.Proofs.YtemdinjiplglgaaGreat

namespace Go.Proofs.YtemdinjiplglgaaGreat

theorem bt_bl (s : ByteArray) (i : Nat) (h : i < s.size) : bt s i = ((bl s)[i]'(by rw [bl_length]; exact h)).toNat := by
  simp [bt, h, bl]
  rfl
theorem bt_eq (s t : ByteArray) (i j : Nat) (hi : i < s.size) (hj : j < t.size) : bt s i = bt t j ↔ (bl s)[i]'(by rw [bl_length]; exact hi) = (bl t)[j]'(by rw [bl_length]; exact hj) := by
  rw [bt_bl s i hi, bt_bl t j hj]
  constructor
  · intro h
    exact UInt8.toNat_inj.1 (by omega)
  · intro h; rw [h]
theorem take_rev (l : List UInt8) (i : Nat) (h : i < l.length) : (l.take (i + 1)).reverse = l[i] :: (l.take i).reverse := by
  rw [List.take_succ_eq_append_getElem h]; simp

theorem stepRow_lev (a b : ByteArray) (i : Nat) (hi : i < a.size) (row : List Int) (h : ∀ j, j ≤ b.size → rd row j = lev ((bl a).take i).reverse ((bl b).take j).reverse) :
    ∀ k, k ≤ b.size → ∀ j, j ≤ k → rd (stepRow a b i row k) j = lev ((bl a).take (i + 1)).reverse ((bl b).take j).reverse
  | 0, _, j, hj => by
    obtain rfl : j = 0 := by omega
    rw [List.take_zero, List.reverse_nil, lev_nil_right, List.length_reverse, List.length_take, bl_length, show min (i + 1) a.size = i + 1 by omega]
    simp [stepRow, rd]
  | k + 1, hk, j, hj => by
    have ih := stepRow_lev a b i hi row h k (by omega)
    simp only [stepRow]
    rw [rd_snoc, stepRow_length]
    split
    · rename_i e
      subst e
      rw [take_rev (bl a) i (by rw [bl_length]; exact hi), take_rev (bl b) k (by rw [bl_length]; omega), lev_cons, h k (by omega), h (k + 1) hk, ih k (Nat.le_refl _),
        take_rev (bl a) i (by rw [bl_length]; exact hi), take_rev (bl b) k (by rw [bl_length]; omega)]
      by_cases hb : bt a i = bt b k
      · rw [if_pos hb, if_pos ((bt_eq a b i k hi (by omega)).1 hb), Int.add_zero]
      · rw [if_neg hb, if_neg (fun hh => hb ((bt_eq a b i k hi (by omega)).2 hh))]
    · exact ih j (by omega)
theorem rowAt_lev (a b : ByteArray) : ∀ i, i ≤ a.size → ∀ j, j ≤ b.size → rd (rowAt a b i) j = lev ((bl a).take i).reverse ((bl b).take j).reverse
  | 0, _, j, hj => by
    rw [List.take_zero, List.reverse_nil, lev_nil_left, List.length_reverse, List.length_take, bl_length, show min j b.size = j by omega]
    simp [rd, rowAt, show j < b.size + 1 by omega]
  | i + 1, hi, j, hj => stepRow_lev a b i (by omega) _ (rowAt_lev a b i (by omega)) b.size (Nat.le_refl _) j hj
theorem dist_lev (a b : ByteArray) : dist a b = lev (bl a).reverse (bl b).reverse := by
  unfold dist
  rw [rowAt_lev a b a.size (Nat.le_refl _) b.size (Nat.le_refl _), ← bl_length a, ← bl_length b, List.take_length, List.take_length]

theorem dist_comm (a b : ByteArray) : dist a b = dist b a := by rw [dist_lev, dist_lev, lev_comm]
theorem dist_ge (a b : ByteArray) : 0 ≤ dist a b := by rw [dist_lev]; exact lev_ge _ _
theorem dist_le (a b : ByteArray) : dist a b ≤ max a.size b.size := by
  have := lev_max _ (bl a).reverse (bl b).reverse (Nat.le_refl _)
  simpa [dist_lev, bl_length] using this
theorem dist_len (a b : ByteArray) : (b.size : Int) ≤ a.size + dist a b := by
  have := lev_len (bl a).reverse (bl b).reverse
  simpa [dist_lev, bl_length] using this
theorem dist_tri (a b c : ByteArray) : dist a c ≤ dist a b + dist b c := by rw [dist_lev, dist_lev, dist_lev]; exact lev_tri _ _ _
theorem dist_self (a : ByteArray) : dist a a = 0 := by rw [dist_lev]; exact lev_self _
theorem dist_eq {a b : ByteArray} (h : dist a b = 0) : a = b := by
  rw [dist_lev] at h
  exact bl_inj (List.reverse_inj.1 (lev_eq _ _ _ (Nat.le_refl _) h))
theorem dist_pre (c a b : ByteArray) : dist (c ++ a) (c ++ b) = dist a b := by
  simp only [dist_lev, bl_append, List.reverse_append]
  generalize (bl a).reverse = x
  generalize (bl b).reverse = y
  induction (bl c) with
  | nil => simp
  | cons z zs ih =>
    rw [List.reverse_cons, ← List.append_assoc, ← List.append_assoc, lev_snoc z _ _ _ (Nat.le_refl _)]
    exact ih
theorem dist_post (c a b : ByteArray) : dist (a ++ c) (b ++ c) = dist a b := by
  simp only [dist_lev, bl_append, List.reverse_append]
  generalize (bl a).reverse = x
  generalize (bl b).reverse = y
  induction (bl c).reverse with
  | nil => simp
  | cons z zs ih => simp only [List.cons_append]; rw [lev_same]; exact ih
theorem dist_nil (a : ByteArray) : dist (⟨#[]⟩ : ByteArray) a = a.size := by
  rw [dist_lev]
  have : bl (⟨#[]⟩ : ByteArray) = [] := rfl
  rw [this, List.reverse_nil, lev_nil_left, List.length_reverse, bl_length]
end Go.Proofs.YtemdinjiplglgaaGreat

namespace Go.Proofs.YtemdinjiplglgaaGreat
open Go.RowKit
set_option linter.unusedVariables false
set_option linter.unusedSimpArgs false

def hasPt (s : ByteArray) : Bool := decide (0 ≤ lastAt s 46 s.size)
def tailS (s : ByteArray) : ByteArray := if hasPt s then s.extract (lastAt s 46 s.size).toNat s.size else ⟨#[]⟩

set_option maxHeartbeats 1000000 in
set_option maxRecDepth 100000 in
theorem end_calls (s : ByteArray) (w : World) (hs : s.size ≤ maxLen) :
    Calls Tryz.prog 79 #[.string s] w fun e w' => e = .returned (.tuple #[.string (tailS s), .bool (hasPt s)]) ∧ w = w' := by
  have hb := lastAt_bd s 46 s.size
  have hl := last_calls s 46 w hs
  have hm := hs
  unfold maxLen at hm
  by_cases h : 0 ≤ lastAt s 46 s.size
  · have e1 : tailS s = s.extract (lastAt s 46 s.size).toNat s.size := by simp [tailS, hasPt, h]
    have e2 : hasPt s = true := by simp [hasPt, h]
    rw [e1, e2]
    clear e1 e2
    generalize lastAt s 46 s.size = n at *
    obtain ⟨n, rfl⟩ := Int.eq_ofNat_of_zero_le h
    have Hl := Lib.hid hl
    clear hl
    go_enter Tryz.func79, Tryz.ntmps79
    go_wp2_with fail
    refine Hl.out.mono ?_
    rintro e w1 ⟨rfl, rfl⟩
    go_wp2
    go_ret2
    exact ⟨rfl, rfl⟩
  · have e1 : tailS s = ⟨#[]⟩ := by simp [tailS, hasPt, h]
    have e2 : hasPt s = false := by simp [hasPt, h]
    rw [e1, e2]
    clear e1 e2
    generalize lastAt s 46 s.size = n at *
    obtain rfl : n = -1 := by omega
    have Hl := Lib.hid hl
    clear hl
    go_enter Tryz.func79, Tryz.ntmps79
    go_wp2_with fail
    refine Hl.out.mono ?_
    rintro e w1 ⟨rfl, rfl⟩
    go_wp2
    go_ret2
    exact ⟨rfl, rfl⟩

theorem cutS_cut (s : ByteArray) : cutS (cutS s) = cutS s := by
  have h := cutS_size s
  generalize cutS s = t at *
  unfold cutS
  rw [show min t.size 200 = t.size by omega, extract_whole]

/-- What the two contents are worth without the ends. -/
def worth (a b : ByteArray) : Int := if mx a.size b.size = 0 then 1000 else 1000 * (mx a.size b.size - dist a b) / mx a.size b.size
def bonus (a b : ByteArray) : Bool := hasPt a && hasPt b && decide (tailS a = tailS b)
def scoreC (a b : ByteArray) : Int := if bonus a b then worth a b + 100 else worth a b
def scoreF (a b : ByteArray) : Int := scoreC (cutS a) (cutS b)

theorem mx_max (a b : Nat) : mx (a : Int) (b : Int) = max a b := by unfold mx; split <;> omega
theorem worth_bd (a b : ByteArray) : 0 ≤ worth a b ∧ worth a b ≤ 1000 := by
  unfold worth
  split
  · omega
  · rename_i h
    have h1 := dist_ge a b
    have h2 := dist_le a b
    rw [mx_max] at *
    generalize dist a b = d at *
    generalize hm : max a.size b.size = m at *
    have hm0 : 0 < (m : Int) := by omega
    have h3 : d ≤ (m : Int) := by omega
    refine ⟨Int.ediv_nonneg (by omega) (by omega), ?_⟩
    have := Int.ediv_le_ediv hm0 (show 1000 * ((m : Int) - d) ≤ 1000 * m by omega)
    rwa [Int.mul_ediv_cancel _ (by omega)] at this

set_option maxHeartbeats 1000000 in
set_option maxRecDepth 100000 in
theorem score_calls (a b : ByteArray) (w : World) :
    Calls Tryz.prog 34 #[.string a, .string b] w fun e w' => e = .returned (.int .i64 (scoreF a b)) ∧ Below w.heap.size w w' := by
  unfold scoreF
  have ha := fun W => short_calls a W
  have hb := fun W => short_calls b W
  have hd := fun W => apart_calls (cutS a) (cutS b) W
  rw [cutS_cut, cutS_cut] at hd
  have HA := cutS_size a
  have HB := cutS_size b
  generalize cutS a = A at *
  generalize cutS b = B at *
  have hx := fun W => end_calls A W (by simp [maxLen]; omega)
  have hy := fun W => end_calls B W (by simp [maxLen]; omega)
  have hw := worth_bd A B
  have d1 := dist_ge A B
  have d2 := dist_le A B
  have Ha := Lib.hid ha
  have Hb := Lib.hid hb
  have Hd := Lib.hid hd
  have Hx := Lib.hid hx
  have Hy := Lib.hid hy
  clear ha hb hd hx hy
  have hs : scoreC A B = if hasPt A && hasPt B && decide (tailS A = tailS B) then worth A B + 100 else worth A B := rfl
  have hwd : worth A B = if mx A.size B.size = 0 then 1000 else 1000 * (mx A.size B.size - dist A B) / mx A.size B.size := rfl
  have hm1 : 0 ≤ mx (A.size : Int) (B.size : Int) := by rw [mx_max]; omega
  have hm2 : mx (A.size : Int) (B.size : Int) ≤ 200 := by rw [mx_max]; omega
  have hm3 : dist A B ≤ mx (A.size : Int) (B.size : Int) := by rw [mx_max]; omega
  generalize scoreC A B = sc at *
  generalize worth A B = wo at *
  generalize dist A B = d at *
  generalize hmx : mx (A.size : Int) (B.size : Int) = m at *
  generalize hasPt A = p at *
  generalize hasPt B = q at *
  generalize tailS A = x at *
  generalize tailS B = y at *
  have hxy : (x = y ∧ (x.toList == y.toList) = true) ∨ (¬ x = y ∧ (x.toList == y.toList) = false) := by
    rw [str_eq]
    by_cases h : x = y
    · exact .inl ⟨h, by simp [h]⟩
    · exact .inr ⟨h, by simp [h]⟩
  clear d2
  by_cases hm0 : m = 0
  · subst hm0
    rw [if_pos rfl] at hwd
    subst hwd
    have Hs := Lib.hid hs
    clear hs
    cases p <;> cases q <;> rcases hxy with ⟨h1, h2⟩ | ⟨h1, h2⟩
    all_goals
      have Hs2 := Hs.out
      simp only [Bool.true_and, Bool.false_and, Bool.and_true, Bool.and_false, h1, decide_true, decide_false, if_true, if_false, Bool.false_eq_true] at Hs2
      replace Hs2 := Lib.hid Hs2
      clear Hs h1
      go_enter Tryz.func34, Tryz.ntmps34
      go_wp2_with fail
      refine (Ha.out _).mono ?_
      rintro e w1 ⟨rfl, rfl⟩
      go_wp2_with fail
      refine (Hb.out _).mono ?_
      rintro e w1 ⟨rfl, rfl⟩
      go_wp2_with fail
      refine (Hx.out _).mono ?_
      rintro e w1 ⟨rfl, rfl⟩
      go_wp2_with fail
      refine (Hy.out _).mono ?_
      rintro e w1 ⟨rfl, rfl⟩
      go_wp2
      go_ret
      exact ⟨ret_int Hs2.out.symm, by first | exact HBL | exact Below.refl _ _⟩
  · rw [if_neg hm0] at hwd
    have hq0 : 0 ≤ 1000 * (m - d) / m := by rw [← hwd]; exact hw.1
    have hq1 : 1000 * (m - d) / m ≤ 1000 := by rw [← hwd]; exact hw.2
    have hmp : 0 < m := by omega
    subst hwd
    clear hw
    have Hs := Lib.hid hs
    clear hs
    cases p <;> cases q <;> rcases hxy with ⟨h1, h2⟩ | ⟨h1, h2⟩
    all_goals
      have Hs2 := Hs.out
      simp only [Bool.true_and, Bool.false_and, Bool.and_true, Bool.and_false, h1, decide_true, decide_false, if_true, if_false, Bool.false_eq_true] at Hs2
      replace Hs2 := Lib.hid Hs2
      clear Hs h1
      go_enter Tryz.func34, Tryz.ntmps34
      go_wp2_with fail
      refine (Ha.out _).mono ?_
      rintro e w1 ⟨rfl, rfl⟩
      go_wp2_with fail
      refine (Hb.out _).mono ?_
      rintro e w1 ⟨rfl, rfl⟩
      go_wp2_with fail
      refine (Hd.out _).mono ?_
      rintro e w1 ⟨rfl, HBL⟩
      go_wp2_with fail
      refine (Hx.out _).mono ?_
      rintro e w1 ⟨rfl, rfl⟩
      go_wp2_with fail
      refine (Hy.out _).mono ?_
      rintro e w1 ⟨rfl, rfl⟩
      go_wp2
      go_ret
      exact ⟨ret_int Hs2.out.symm, by first | exact HBL | exact Below.refl _ _⟩
end Go.Proofs.YtemdinjiplglgaaGreat

namespace Go.Proofs.YtemdinjiplglgaaGreat
open Go.RowKit
set_option linter.unusedVariables false
set_option linter.unusedSimpArgs false

theorem awake_apart : dist (cutS ⟨#[107, 105, 116, 116, 101, 110]⟩) (cutS ⟨#[115, 105, 116, 116, 105, 110, 103]⟩) = 3 := by decide +kernel
theorem awake_score1 : scoreF ⟨#[97, 46, 116, 120, 116]⟩ ⟨#[98, 46, 116, 120, 116]⟩ = 900 := by decide +kernel
theorem awake_score2 : scoreF ⟨#[111, 108, 100, 46, 116, 120, 116]⟩ ⟨#[110, 101, 119, 46, 116, 120, 116]⟩ = 671 := by decide +kernel

set_option maxHeartbeats 1000000 in
theorem awake22_calls (w : World) : Calls Tryz.prog 8 #[] w fun e w' => e = .returned (.bool true) ∧ Below w.heap.size w w' := by
  go_enter Tryz.func8, Tryz.ntmps8
  go_wp2_with fail
  refine (apart_calls _ _ _).mono ?_
  rintro e w1 ⟨rfl, hb1⟩
  rw [awake_apart]
  go_wp2_with fail
  refine (score_calls _ _ _).mono ?_
  rintro e w2 ⟨rfl, hb2⟩
  rw [awake_score1]
  go_wp2_with fail
  refine (score_calls _ _ _).mono ?_
  rintro e w3 ⟨rfl, hb3⟩
  rw [awake_score2]
  go_wp2
  go_ret
  exact ⟨rfl, below_step (below_step hb1 hb2) hb3⟩
end Go.Proofs.YtemdinjiplglgaaGreat

namespace Go.Proofs.YtemdinjiplglgaaGreat

def scoreB (a b : Bytes) : Int := scoreF (mkS a) (mkS b)
def Fs.isFile (T : Fs) (s : Bytes) : Bool := decide ((T.stat s).2 = 0) && decide ((T.stat s).1.kind = 1)
def beside (p x : Bytes) : Bytes := if parent p = [] then x else parent p ++ 47 :: x
def betterOf (ok : Bytes → Bool) (nm : Bytes → Bytes) (sc : Bytes → Int) (b : Bytes × Int) (x : Bytes) : Bytes × Int := if b.2 < sc x ∧ ok (nm x) = true then (nm x, sc x) else b
def bestOf (ok : Bytes → Bool) (nm : Bytes → Bytes) (sc : Bytes → Int) (l : List Bytes) : Bytes × Int := l.foldl (betterOf ok nm sc) ([], 499)
def Fs.better (T : Fs) (p : Bytes) (b : Bytes × Int) (x : Bytes) : Bytes × Int := betterOf T.isFile (beside p) (fun x => scoreB x (base p)) b x
def Fs.best (T : Fs) (p : Bytes) (l : List Bytes) : Bytes × Int := bestOf T.isFile (beside p) (fun x => scoreB x (base p)) l
def Fs.choose (T : Fs) (p q : Bytes) (fuzzy : Bool) : Bytes × Bool :=
  if right p = false then ([], false) else if T.isFile p = true then (p, true) else if q ≠ [] ∧ T.isFile q = true then (q, true) else if fuzzy = false then ([], false) else
  ((T.best p (T.list (parent p)).1).1, decide (500 ≤ (T.best p (T.list (parent p)).1).2))

theorem bestOf_snoc (ok : Bytes → Bool) (nm : Bytes → Bytes) (sc : Bytes → Int) (l : List Bytes) (x : Bytes) : bestOf ok nm sc (l ++ [x]) = betterOf ok nm sc (bestOf ok nm sc l) x := by simp [bestOf]
theorem best_snoc (T : Fs) (p : Bytes) (l : List Bytes) (x : Bytes) : T.best p (l ++ [x]) = T.better p (T.best p l) x := bestOf_snoc _ _ _ l x
theorem best_take (T : Fs) (p : Bytes) {l : List Bytes} {k : Nat} (h : k < l.length) : T.best p (l.take (k + 1)) = T.better p (T.best p (l.take k)) l[k] := by
  rw [List.take_succ_eq_append_getElem h, best_snoc]
theorem better_is (T : Fs) (p : Bytes) (b : Bytes × Int) (x : Bytes) : T.better p b x = if b.2 < scoreB x (base p) ∧ T.isFile (beside p x) = true then (beside p x, scoreB x (base p)) else b := rfl

theorem isFile_iff {T : Fs} {s : Bytes} : T.isFile s = true ↔ (T.stat s).2 = 0 ∧ (T.stat s).1.kind = 1 := by simp [Fs.isFile]

/-- What the best one is. -/
structure BestIs (ok : Bytes → Bool) (nm : Bytes → Bytes) (sc : Bytes → Int) (l : List Bytes) (b : Bytes × Int) : Prop where
  start : b = ([], 499) ∨ (∃ x ∈ l, b.1 = nm x ∧ ok b.1 = true ∧ b.2 = sc x ∧ 500 ≤ b.2)
  most : ∀ x ∈ l, ok (nm x) = true → sc x ≤ b.2 ∨ sc x ≤ 499

theorem best_is (ok : Bytes → Bool) (nm : Bytes → Bytes) (sc : Bytes → Int) : ∀ l, BestIs ok nm sc l (bestOf ok nm sc l) := by
  refine snoc_rec ⟨Or.inl rfl, by simp⟩ fun l x ih => ?_
  rw [bestOf_snoc]
  unfold betterOf
  generalize bestOf ok nm sc l = b at *
  obtain ⟨b1, b2⟩ := b
  obtain ⟨i1, i2⟩ := ih
  dsimp only at *
  by_cases h : b2 < sc x ∧ ok (nm x) = true
  · rw [if_pos h]
    have h499 : 499 ≤ b2 := by
      rcases i1 with e | ⟨_, _, _, _, _, e⟩
      · simp only [Prod.mk.injEq] at e
        omega
      · omega
    obtain ⟨h1, h2⟩ := h
    refine ⟨Or.inr ⟨x, by simp, rfl, h2, rfl, by dsimp only; omega⟩, fun y hy hf => ?_⟩
    rcases List.mem_append.1 hy with hy | hy
    · rcases i2 y hy hf with e | e
      · exact Or.inl (by dsimp only; omega)
      · exact Or.inr e
    · rw [List.mem_singleton.1 hy]
      exact Or.inl (Int.le_refl _)
  · rw [if_neg h]
    refine ⟨i1.imp id fun ⟨y, hy, r⟩ => ⟨y, List.mem_append_left _ hy, r⟩, fun y hy hf => ?_⟩
    rcases List.mem_append.1 hy with hy | hy
    · exact i2 y hy hf
    · obtain rfl := List.mem_singleton.1 hy
      refine Or.inl ?_
      dsimp only
      by_cases hlt : b2 < sc y
      · exact absurd ⟨hlt, hf⟩ h
      · omega

section
variable {T : Fs}

theorem right_list {s : Bytes} (h : right s = true) : (∀ x ∈ split s, partOk x = true) ∧ (split s).length ≤ 12 ∧ s.length ≤ 200 := by
  refine ⟨right_part h, ?_⟩
  simp only [right, Bool.and_eq_true, decide_eq_true_eq] at h
  exact ⟨h.1.2, h.2⟩

theorem right_parent {s : Bytes} (h : right s = true) : right (parent s) = true := by
  obtain ⟨h1, h2, h3⟩ := right_list h
  have h4 := split_parent h
  simp only [right, Bool.and_eq_true, decide_eq_true_eq, List.all_eq_true]
  refine ⟨⟨fun x hx => h1 x ?_, ?_⟩, ?_⟩
  · rw [h4] at hx
    exact List.dropLast_subset _ hx
  · rw [h4, List.length_dropLast]
    omega
  · exact Nat.le_trans (parent_le s) h3

/-- What the directory of a path tells. -/
theorem list_names (hI : T.Inv) {s : Bytes} {x : Bytes} (hx : x ∈ (T.list s).1) : right s = true ∧ ∃ i, (split s ++ [x], i) ∈ T.names := by
  unfold Fs.list at hx
  by_cases hz : (T.there s).2.2 = 0
  · obtain ⟨hr, i, h1, h2⟩ := there_zero hI hz
    rw [if_pos hz, h1] at hx
    dsimp only at hx
    by_cases hk : (T.nd i).kind = 2
    · rw [if_pos hk] at hx
      dsimp only at hx
      unfold sortB at hx
      rw [List.mem_mergeSort, List.mem_map] at hx
      obtain ⟨⟨y, j⟩, hy, rfl⟩ := hx
      exact ⟨hr, j, mem_kidsL.1 hy⟩
    · rw [if_neg hk] at hx
      simp at hx
  · rw [if_neg hz] at hx
    simp at hx

theorem names_list (hI : T.Inv) {s : Bytes} {x : Bytes} {i : Nat} (hr : right s = true) (hx : (split s ++ [x], i) ∈ T.names) : x ∈ (T.list s).1 := by
  obtain ⟨j, hj, hk⟩ := hI.up _ _ hx (by simp)
  rw [List.dropLast_concat] at hj
  obtain ⟨h1, h2⟩ := there_name hI hr hj
  unfold Fs.list
  rw [if_pos h2, h1]
  dsimp only
  rw [if_pos hk]
  dsimp only
  unfold sortB
  rw [List.mem_mergeSort, List.mem_map]
  exact ⟨(x, i), mem_kidsL.2 hx, rfl⟩

theorem kid_part (hI : T.Inv) {q : Pt} {x : Bytes} {i : Nat} (h : (q ++ [x], i) ∈ T.names) : (47 : UInt8) ∉ x := by
  obtain ⟨s, h1, h2⟩ := hI.pth _ _ h
  exact split_parts s x (by rw [h2]; simp)

theorem beside_parent {p x : Bytes} (hx : (47 : UInt8) ∉ x) : parent (beside p x) = parent p ∧ base (beside p x) = x := by
  unfold beside
  by_cases h : parent p = []
  · rw [if_pos h]
    exact ⟨by rw [parent_none hx, h], base_none hx⟩
  · rw [if_neg h]
    exact ⟨parent_slash _ _ hx, base_slash _ _ hx⟩

theorem beside_split {p x : Bytes} (hp : right p = true) (hx : (47 : UInt8) ∉ x) (hx0 : x ≠ []) : split (beside p x) = split (parent p) ++ [x] := by
  have h1 : beside p x = glue (split (parent p) ++ [x]) := by
    rw [glue_snoc, glue_split]
    unfold beside
    by_cases h : parent p = []
    · rw [if_pos h, h, if_pos split_nil]
    · rw [if_neg h, if_neg (fun e => h (split_eq_nil e))]
  rw [h1]
  refine split_glue (fun y hy => ?_) (fun y hy => ?_)
  · rcases List.mem_append.1 hy with hy | hy
    · exact split_parts _ y hy
    · rw [List.mem_singleton.1 hy]
      exact hx
  · rcases List.mem_append.1 hy with hy | hy
    · exact partOk_ne (right_part (right_parent hp) y hy)
    · rw [List.mem_singleton.1 hy]
      exact hx0

theorem isFile_at (hI : T.Inv) {s : Bytes} (h : T.isFile s = true) : right s = true ∧ ∃ i, (split s, i) ∈ T.names ∧ (T.nd i).kind = 1 := by
  obtain ⟨h1, h2⟩ := isFile_iff.1 h
  obtain ⟨hr, i, hm, e⟩ := stat_zero hI h1
  rw [e] at h2
  exact ⟨hr, i, hm, h2⟩
theorem isFile_of (hI : T.Inv) {s : Bytes} {i : Nat} (hr : right s = true) (hm : (split s, i) ∈ T.names) (hk : (T.nd i).kind = 1) : T.isFile s = true := by
  rw [isFile_iff, stat_name hI hr hm]
  exact ⟨rfl, hk⟩
theorem isFile_ne (hI : T.Inv) {s : Bytes} (h : T.isFile s = true) : s ≠ [] := fun e => by
  subst e
  obtain ⟨_, i, hm, hk⟩ := isFile_at hI h
  have h1 := hI.at_some.2 hm
  have h2 : T.at [] = some 1 := hI.at_top
  rw [split_nil, h2] at h1
  cases h1
  rw [hI.topKind] at hk
  cases hk

/-- P22.2. -/
structure FileIs (T : Fs) (p q : Bytes) (r : Bytes × Bool) : Prop where
  no : r.2 = false → r.1 = []
  file : r.2 = true → T.isFile r.1 = true
  own : r.2 = true → T.isFile p = true → r.1 = p
  rest : r.2 = true → T.isFile p = false → r.1 = q ∨ (500 ≤ scoreB (base r.1) (base p) ∧ parent r.1 = parent p ∧
    ∀ a ∈ T.paths, parent a = parent p → T.isFile a = true → scoreB (base a) (base p) ≤ scoreB (base r.1) (base p))

theorem file_is (hI : T.Inv) (p q : Bytes) : FileIs T p q (T.choose p q true) := by
  unfold Fs.choose
  by_cases hr : right p = false
  · rw [if_pos hr]
    exact ⟨fun _ => rfl, (fun h => by cases h), (fun h => by cases h), (fun h => by cases h)⟩
  rw [if_neg hr]
  replace hr : right p = true := by simpa using hr
  by_cases hf : T.isFile p = true
  · rw [if_pos hf]
    exact ⟨(fun h => by cases h), fun _ => hf, fun _ _ => rfl, (fun _ h => by rw [hf] at h; cases h)⟩
  rw [if_neg hf]
  by_cases hq : q ≠ [] ∧ T.isFile q = true
  · rw [if_pos hq]
    exact ⟨(fun h => by cases h), fun _ => hq.2, fun _ h => absurd hf (by simp [h]), fun _ _ => Or.inl rfl⟩
  rw [if_neg hq, if_neg (by simp)]
  have hb := best_is T.isFile (beside p) (fun x => scoreB x (base p)) (T.list (parent p)).1
  change FileIs T p q ((bestOf T.isFile (beside p) (fun x => scoreB x (base p)) (T.list (parent p)).1).1, decide (500 ≤ (bestOf T.isFile (beside p) (fun x => scoreB x (base p)) (T.list (parent p)).1).2))
  generalize bestOf T.isFile (beside p) (fun x => scoreB x (base p)) (T.list (parent p)).1 = b at *
  have hsc : ∃ f : Bytes → Int, ∀ x, scoreB x (base p) = f x := ⟨_, fun _ => rfl⟩
  obtain ⟨sc, hsc⟩ := hsc
  simp only [hsc] at hb
  rcases hb.start with rfl | ⟨x, hx, h1, h2, h3, h4⟩
  · refine ⟨fun _ => rfl, fun h => ?_, fun h => ?_, fun h => ?_⟩ <;> simp at h
  · obtain ⟨_, i, hm⟩ := list_names hI hx
    obtain ⟨g1, g2⟩ := beside_parent (p := p) (kid_part hI hm)
    refine ⟨fun h => ?_, fun _ => h2, fun _ h => absurd h hf, fun _ _ => Or.inr ⟨?_, ?_, fun a ha hpa hfa => ?_⟩⟩
    · simp only [decide_eq_false_iff_not] at h
      exact absurd h4 h
    · rw [h1, g2, hsc, ← h3]
      exact h4
    · rw [h1, g1]
    · obtain ⟨ra, na, j, hj⟩ := (mem_paths hI).1 ha
      have hsa := split_base na
      rw [← split_parent ra, hpa] at hsa
      have hxa : base a ∈ (T.list (parent p)).1 := names_list hI (i := j) (right_parent hr) (by rw [hsa]; exact hj)
      have hba : beside p (base a) = a := by
        refine split_inj ?_
        have hpart : partOk (base a) = true := right_part ra _ (by rw [← split_base na]; simp)
        rw [beside_split hr (kid_part hI (q := split (parent p)) (i := j) (by rw [hsa]; exact hj)) (partOk_ne hpart), hsa]
      rw [h1, g2, hsc, hsc, ← h3]
      rcases hb.most _ hxa (by rw [hba]; exact hfa) with e | e
      · exact e
      · omega
end

end Go.Proofs.YtemdinjiplglgaaGreat

namespace Go.Proofs.YtemdinjiplglgaaGreat
open Go.RowKit

set_option maxHeartbeats 1000000 in
set_option maxRecDepth 100000 in
theorem bfile_calls (tb : Nat) (A M : Nat → Nat) (T : Fs) (s : ByteArray) (w : World) (hR : Rep w tb A M T) (hs : s.size ≤ 16777216) :
    Calls Tryz.prog 36 #[ptr tb, .string s] w fun e w' => e = .returned (.bool (T.isFile (bl s))) ∧ Below w.heap.size w w' := by
  have h1 := stat_calls tb A M T s w hR hs
  unfold Fs.isFile
  generalize T.stat (bl s) = st at *
  obtain ⟨⟨a1, a2, a3, a4, ⟨a5, a6, a7, a8, a9⟩, a10⟩, ea⟩ := st
  unfold statV statCells ptr at *
  dsimp only at *
  replace h1 := Lib.hid h1
  replace hR := Lib.hid hR
  go_enter Tryz.func36, Tryz.ntmps36
  go_wp2_with fail
  (with_reducible refine (h1.out).mono ?_)
  rintro e w1 ⟨rfl, hB⟩
  replace hB := Lib.hid hB
  by_cases e0 : ea = 0
  · subst e0
    go_wp2
    go_ret
    exact ⟨ret_bool (by rw [Bool.eq_iff_iff]; simp), below_alloc hB.out _⟩
  · have e1 : (ea == 0) = false := by simpa using e0
    replace e0 := Lib.hid e0
    go_wp2
    go_ret
    exact ⟨ret_bool (by simp [e0.out]), below_alloc hB.out _⟩

theorem bl_str (s t : ByteArray) : bl (s ++ ⟨#[47]⟩ ++ t) = bl s ++ 47 :: bl t := by
  rw [bl_append, bl_append]
  simp [bl]

set_option maxHeartbeats 4000000 in
set_option maxRecDepth 100000 in
theorem choose_calls (tb : Nat) (A M : Nat → Nat) (T : Fs) (p q : ByteArray) (fz : Bool) (w : World) (hR : Rep w tb A M T) (hp : p.size ≤ 2000000) (hq : q.size ≤ 2000000) (hf : T.names.length ≤ 1000000) :
    Calls Tryz.prog 9 #[ptr tb, .string p, .string q, .bool fz] w fun e w' => e = .returned (.tuple #[.string (mkS (T.choose (bl p) (bl q) fz).1), .bool (T.choose (bl p) (bl q) fz).2]) ∧ Below w.heap.size w w' := by
  have hI := hR.inv
  have h1 := fun W => right_calls p W (by omega)
  have h2 := fun W hW => bfile_calls tb A M T p W hW (by omega)
  have h3 := fun W hW => bfile_calls tb A M T q W hW (by omega)
  have h4 := fun W => parent_calls p W (by unfold maxLen; omega)
  have hpl := parent_le (bl p)
  rw [bl_length] at hpl
  have h5 := fun W hW => list_calls tb A M T (mkS (parent (bl p))) W hW (by rw [mkS_size]; exact Nat.le_trans hpl (by omega)) hf
  rw [bl_mkS] at h5
  have h6 := fun W => base_calls p W (by unfold maxLen; omega)
  have h7 : ∀ W x, Calls Tryz.prog 34 #[.string (mkS x), .string (mkS (base (bl p)))] W fun e w' => e = .returned (.int .i64 (scoreB x (base (bl p)))) ∧ Below W.heap.size W w' := fun W x => score_calls (mkS x) (mkS (base (bl p))) W
  have h8 := fun W s hs hW => bfile_calls tb A M T s W hW hs
  replace hpl : (parent (bl p)).length ≤ 2000000 := Nat.le_trans hpl hp
  have hnm := fun x hx => @list_names T hI (parent (bl p)) x hx
  have hbt := fun k (h : k < (T.list (parent (bl p))).1.length) => best_take T (bl p) h
  have hbl : ∀ x, (47 : UInt8) ∉ x → (parent (bl p) = [] → beside (bl p) x = x) ∧ (parent (bl p) ≠ [] → beside (bl p) x = parent (bl p) ++ 47 :: x) := fun x _ => ⟨fun h => by unfold beside; rw [if_pos h], fun h => by unfold beside; rw [if_neg h]⟩
  unfold Fs.choose
  by_cases hr : right (bl p) = true
  · rw [hr] at h1
    rw [if_neg (by simp [hr])]
    by_cases hfi : T.isFile (bl p) = true
    · rw [if_pos hfi]
      rw [hfi] at h2
      unfold ptr at *
      replace h1 := Lib.hid h1
      replace h2 := Lib.hid h2
      replace hR := Lib.hid hR
      clear h3 h4 h5 h6 h7 h8 hr hfi hpl hnm hbt hbl
      go_enter Tryz.func9, Tryz.ntmps9
      go_wp2_with fail
      (with_reducible refine (h1.out _).mono ?_)
      rintro e w1 ⟨rfl, hB1⟩
      have h2' := h2.out w1 (hR.out.below hB1)
      replace hB1 := Lib.hid hB1
      replace h2' := Lib.hid h2'
      go_wp2_with fail
      (with_reducible refine (h2'.out).mono ?_)
      rintro e w2 ⟨rfl, hB2⟩
      replace hB2 := Lib.hid hB2
      go_wp2
      go_ret2
      exact ⟨by rw [mkS_bl]; rfl, below_step hB1.out hB2.out⟩
    · rw [if_neg hfi]
      replace hfi : T.isFile (bl p) = false := by simpa using hfi
      rw [hfi] at h2
      by_cases hq2 : bl q ≠ [] ∧ T.isFile (bl q) = true
      · rw [if_pos hq2]
        rw [hq2.2] at h3
        have hqe : q.toList.isEmpty = false := by rw [str_nil]; simpa using hq2.1
        unfold ptr at *
        replace h1 := Lib.hid h1
        replace h2 := Lib.hid h2
        replace h3 := Lib.hid h3
        replace hR := Lib.hid hR
        replace hq2 := Lib.hid hq2
        clear h4 h5 h6 h7 h8 hr hfi hpl hnm hbt hbl
        go_enter Tryz.func9, Tryz.ntmps9
        go_wp2_with fail
        (with_reducible refine (h1.out _).mono ?_)
        rintro e w1 ⟨rfl, hB1⟩
        have h2' := h2.out w1 (hR.out.below hB1)
        replace hB1 := Lib.hid hB1
        replace h2' := Lib.hid h2'
        go_wp2_with fail
        (with_reducible refine (h2'.out).mono ?_)
        rintro e w2 ⟨rfl, hB2⟩
        have hB02 := below_step hB1.out hB2
        have h3' := h3.out w2 (hR.out.below hB02)
        replace hB02 := Lib.hid hB02
        replace h3' := Lib.hid h3'
        clear hB1 hB2 h2' h1 h2
        go_wp2_with fail
        (with_reducible refine (h3'.out).mono ?_)
        rintro e w3 ⟨rfl, hB3⟩
        replace hB3 := Lib.hid hB3
        go_wp2
        go_ret2
        exact ⟨by rw [mkS_bl]; rfl, below_step hB02.out hB3.out⟩
      · rw [if_neg hq2]
        by_cases hfz : fz = false
        · subst hfz
          rw [if_pos rfl]
          by_cases hq0 : bl q = []
          · have hqe : q.toList.isEmpty = true := by rw [str_nil]; simpa using hq0
            unfold ptr at *
            replace h1 := Lib.hid h1
            replace h2 := Lib.hid h2
            replace h3 := Lib.hid h3
            replace hR := Lib.hid hR
            replace hq2 := Lib.hid hq2
            replace hq0 := Lib.hid hq0
            clear h4 h5 h6 h7 h8 hr hfi hpl hnm hbt hbl
            go_enter Tryz.func9, Tryz.ntmps9
            go_wp2_with fail
            (with_reducible refine (h1.out _).mono ?_)
            rintro e w1 ⟨rfl, hB1⟩
            have h2' := h2.out w1 (hR.out.below hB1)
            replace hB1 := Lib.hid hB1
            replace h2' := Lib.hid h2'
            go_wp2_with fail
            (with_reducible refine (h2'.out).mono ?_)
            rintro e w2 ⟨rfl, hB2⟩
            have hB02 := below_step hB1.out hB2
            have h3' := h3.out w2 (hR.out.below hB02)
            replace hB02 := Lib.hid hB02
            replace h3' := Lib.hid h3'
            clear hB1 hB2 h2' h1 h2
            go_wp2
            go_ret2
            exact ⟨rfl, hB02.out⟩
          · have hqe : q.toList.isEmpty = false := by rw [str_nil]; simpa using hq0
            have hqf : T.isFile (bl q) = false := by
              cases hc : T.isFile (bl q) with
              | true => exact absurd ⟨hq0, hc⟩ hq2
              | false => rfl
            rw [hqf] at h3
            unfold ptr at *
            replace h1 := Lib.hid h1
            replace h2 := Lib.hid h2
            replace h3 := Lib.hid h3
            replace hR := Lib.hid hR
            replace hq2 := Lib.hid hq2
            replace hq0 := Lib.hid hq0
            replace hqf := Lib.hid hqf
            clear h4 h5 h6 h7 h8 hr hfi hpl hnm hbt hbl
            go_enter Tryz.func9, Tryz.ntmps9
            go_wp2_with fail
            (with_reducible refine (h1.out _).mono ?_)
            rintro e w1 ⟨rfl, hB1⟩
            have h2' := h2.out w1 (hR.out.below hB1)
            replace hB1 := Lib.hid hB1
            replace h2' := Lib.hid h2'
            go_wp2_with fail
            (with_reducible refine (h2'.out).mono ?_)
            rintro e w2 ⟨rfl, hB2⟩
            have hB02 := below_step hB1.out hB2
            have h3' := h3.out w2 (hR.out.below hB02)
            replace hB02 := Lib.hid hB02
            replace h3' := Lib.hid h3'
            clear hB1 hB2 h2' h1 h2
            go_wp2_with fail
            (with_reducible refine (h3'.out).mono ?_)
            rintro e w3 ⟨rfl, hB3⟩
            replace hB3 := Lib.hid hB3
            go_wp2
            go_ret2
            exact ⟨rfl, below_step hB02.out hB3.out⟩
        · replace hfz : fz = true := by simpa using hfz
          subst hfz
          rw [if_neg (by simp)]
          generalize hL : T.list (parent (bl p)) = L at *
          obtain ⟨L, el⟩ := L
          dsimp only at hnm hbt h5 ⊢
          by_cases hq0 : bl q = []
          · have hqe : q.toList.isEmpty = true := by rw [str_nil]; simpa using hq0
            unfold ptr at *
            replace h1 := Lib.hid h1
            replace h2 := Lib.hid h2
            replace h3 := Lib.hid h3
            replace h4 := Lib.hid h4
            replace h5 := Lib.hid h5
            replace h6 := Lib.hid h6
            replace h7 := Lib.hid h7
            replace h8 := Lib.hid h8
            replace hR := Lib.hid hR
            replace hq2 := Lib.hid hq2
            replace hq0 := Lib.hid hq0
            replace hnm := Lib.hid hnm
            replace hbt := Lib.hid hbt
            replace hbl := Lib.hid hbl
            replace hI := Lib.hid hI
            replace hL := Lib.hid hL
            clear hr hfi
            go_enter Tryz.func9, Tryz.ntmps9
            go_wp2_with fail
            (with_reducible refine (h1.out _).mono ?_)
            rintro e w1 ⟨rfl, hB1⟩
            have h2' := h2.out w1 (hR.out.below hB1)
            replace hB1 := Lib.hid hB1
            replace h2' := Lib.hid h2'
            go_wp2_with fail
            (with_reducible refine (h2'.out).mono ?_)
            rintro e w2 ⟨rfl, hB2⟩
            have hB02 := below_step hB1.out hB2
            have h3' := h3.out w2 (hR.out.below hB02)
            replace hB02 := Lib.hid hB02
            replace h3' := Lib.hid h3'
            clear hB1 hB2 h2' h1 h2
            go_wp2_with fail
            (with_reducible refine (h4.out _).mono ?_)
            rintro e wx ⟨rfl, rfl⟩
            have h5' := h5.out w2 (hR.out.below hB02.out)
            replace h5' := Lib.hid h5'
            go_wp2_with fail
            (with_reducible refine (h5'.out).mono ?_)
            rintro e w4 ⟨⟨v, rfl, hS⟩, hB4⟩
            have hRd := hS.rd
            obtain ⟨vA, vc, rfl, hv1, hv2⟩ := hRd.shape
            unfold maxLen at hv2
            have hB04 := below_step hB02.out hB4
            replace hRd := Lib.hid hRd
            replace hB04 := Lib.hid hB04
            replace hS := Lib.hid hS
            clear hB4 h5'
            go_wp2_with fail
            go_loopw [10, 11, 53] (fun b s i wr => ∃ k : Nat, i = .int .i64 k ∧ k ≤ L.length ∧ b = .string (mkS (T.best (bl p) (L.take k)).1) ∧ s = .int .i64 (T.best (bl p) (L.take k)).2 ∧ Below w4.heap.size w4 wr) (fun _ _ i _ => L.length - (intOf i).toNat)
            case atStart => exact ⟨0, rfl, Nat.zero_le _, rfl, rfl, Below.refl _ _⟩
            case round =>
              obtain ⟨k, rfl, hk, rfl, rfl, hB⟩ := hrel
              by_cases hlt : k < L.length
              · obtain ⟨g, o, rfl, hck⟩ := (hRd.out.below hB).cell hlt
                have hb1 := hbt.out k hlt
                obtain ⟨_, ii, hmm⟩ := hnm.out L[k] (List.getElem_mem hlt)
                have h47 := kid_part hI.out hmm
                obtain ⟨hpth, hxlen⟩ : (47 : UInt8) ∉ L[k] ∧ (L[k]).length ≤ 1000 := by
                  refine ⟨h47, ?_⟩
                  obtain ⟨s, hs1, hs2⟩ := hI.out.pth _ _ hmm
                  have := right_part hs1 L[k] (by rw [hs2]; simp)
                  simp only [partOk, Bool.and_eq_true, decide_eq_true_eq] at this
                  omega
                obtain ⟨hbn, hbp⟩ := hbl.out L[k] hpth
                generalize L[k] = x at *
                have hRr := hR.out.below (below_step hB04.out hB)
                generalize T.best (bl p) (L.take k) = bb at *
                obtain ⟨b1, b2⟩ := bb
                have hsc := fun W => h7.out W x
                have hfl := fun W s hs (hW : Below wr.heap.size wr W) => h8.out W s hs (hRr.below hW)
                rw [better_is] at hb1
                generalize scoreB x (base (bl p)) = sc at *
                replace hb1 := Lib.hid hb1
                replace hbn := Lib.hid hbn
                replace hbp := Lib.hid hbp
                replace hRr := Lib.hid hRr
                replace hB := Lib.hid hB
                replace hsc := Lib.hid hsc
                replace hfl := Lib.hid hfl
                replace hmm := Lib.hid hmm
                replace hpth := Lib.hid hpth
                replace h47 := Lib.hid h47
                have hpm : (mkS x).size = x.length := mkS_size x
                have hum : (mkS (parent (bl p))).size = (parent (bl p)).length := mkS_size _
                have hbs : (beside (bl p) x).length ≤ 4000000 := by
                  unfold beside
                  split
                  · omega
                  · simp
                    omega
                have hfl' := fun W hW => hfl.out W (mkS (beside (bl p) x)) (by rw [mkS_size]; omega) hW
                rw [bl_mkS] at hfl'
                by_cases hpe : parent (bl p) = []
                · have hq3 := hbn.out hpe
                  have hue : (mkS (parent (bl p))).toList.isEmpty = true := by rw [str_nil, bl_mkS]; simpa using hpe
                  have hqs : mkS (beside (bl p) x) = mkS x := by rw [hq3]
                  rw [hqs] at hfl'
                  replace hb1 := hb1.out
                  replace hq3 := Lib.hid hq3
                  replace hfl' := Lib.hid hfl'
                  replace hqs := Lib.hid hqs
                  replace hpe := Lib.hid hpe
                  go_wp2_with fail
                  (with_reducible refine (h4.out _).mono ?_)
                  rintro e wx ⟨rfl, rfl⟩
                  go_wp2_with fail
                  (with_reducible refine (h6.out _).mono ?_)
                  rintro e wx ⟨rfl, rfl⟩
                  go_wp2_with fail
                  (with_reducible refine (hsc.out _).mono ?_)
                  rintro e w5 ⟨rfl, hB5⟩
                  have hfl5 := hfl'.out w5 hB5
                  have hB05 := below_step hB.out hB5
                  replace hB5 := Lib.hid hB5
                  replace hfl5 := Lib.hid hfl5
                  replace hB05 := Lib.hid hB05
                  by_cases hgt : b2 < sc
                  · cases hif : T.isFile (beside (bl p) x) with
                    | true =>
                      rw [hif] at hfl5
                      rw [hif, if_pos ⟨hgt, rfl⟩] at hb1
                      replace hif := Lib.hid hif
                      replace hb1 := Lib.hid hb1
                      replace hfl5 := Lib.hid hfl5
                      go_wp2_with fail
                      (with_reducible refine (hfl5.out.out).mono ?_)
                      rintro e w6 ⟨rfl, hB6⟩
                      replace hB6 := Lib.hid hB6
                      go_wp2
                      go_roundw
                      case rel => exact ⟨k + 1, by go_num, by omega, by rw [hb1.out]; exact congrArg Value.string hqs.out.symm, by rw [hb1.out], below_step hB05.out hB6.out⟩
                      case measure => simp [intOf]; omega
                    | false =>
                      rw [hif] at hfl5
                      rw [hif, if_neg (by simp)] at hb1
                      replace hif := Lib.hid hif
                      replace hb1 := Lib.hid hb1
                      replace hfl5 := Lib.hid hfl5
                      go_wp2_with fail
                      (with_reducible refine (hfl5.out.out).mono ?_)
                      rintro e w6 ⟨rfl, hB6⟩
                      replace hB6 := Lib.hid hB6
                      go_wp2
                      go_roundw
                      case rel => exact ⟨k + 1, by go_num, by omega, by rw [hb1.out], by rw [hb1.out], below_step hB05.out hB6.out⟩
                      case measure => simp [intOf]; omega
                  · have hng : decide (b2 < sc) = false := by simpa using hgt
                    rw [if_neg (fun h => hgt h.1)] at hb1
                    replace hb1 := Lib.hid hb1
                    replace hgt := Lib.hid hgt
                    go_wp2
                    go_roundw
                    case rel => exact ⟨k + 1, by go_num, by omega, by rw [hb1.out], by rw [hb1.out], hB05.out⟩
                    case measure => simp [intOf]; omega
                · have hq3 := hbp.out hpe
                  have hue : (mkS (parent (bl p))).toList.isEmpty = false := by rw [str_nil, bl_mkS]; simpa using hpe
                  have hqs : mkS (beside (bl p) x) = mkS (parent (bl p)) ++ ⟨#[47]⟩ ++ mkS x := bl_inj (by rw [bl_mkS, bl_str, bl_mkS, bl_mkS, hq3])
                  rw [hqs] at hfl'
                  replace hb1 := hb1.out
                  replace hq3 := Lib.hid hq3
                  replace hfl' := Lib.hid hfl'
                  replace hpe := Lib.hid hpe
                  replace hqs := Lib.hid hqs
                  go_wp2_with fail
                  (with_reducible refine (h4.out _).mono ?_)
                  rintro e wx ⟨rfl, rfl⟩
                  go_wp2_with fail
                  (with_reducible refine (h6.out _).mono ?_)
                  rintro e wx ⟨rfl, rfl⟩
                  go_wp2_with fail
                  (with_reducible refine (hsc.out _).mono ?_)
                  rintro e w5 ⟨rfl, hB5⟩
                  have hfl5 := hfl'.out w5 hB5
                  have hB05 := below_step hB.out hB5
                  replace hB5 := Lib.hid hB5
                  replace hfl5 := Lib.hid hfl5
                  replace hB05 := Lib.hid hB05
                  by_cases hgt : b2 < sc
                  · cases hif : T.isFile (beside (bl p) x) with
                    | true =>
                      rw [hif] at hfl5
                      rw [hif, if_pos ⟨hgt, rfl⟩] at hb1
                      replace hif := Lib.hid hif
                      replace hb1 := Lib.hid hb1
                      replace hfl5 := Lib.hid hfl5
                      go_wp2_with fail
                      (with_reducible refine (hfl5.out.out).mono ?_)
                      rintro e w6 ⟨rfl, hB6⟩
                      replace hB6 := Lib.hid hB6
                      go_wp2
                      go_roundw
                      case rel => exact ⟨k + 1, by go_num, by omega, by rw [hb1.out]; exact congrArg Value.string hqs.out.symm, by rw [hb1.out], below_step hB05.out hB6.out⟩
                      case measure => simp [intOf]; omega
                    | false =>
                      rw [hif] at hfl5
                      rw [hif, if_neg (by simp)] at hb1
                      replace hif := Lib.hid hif
                      replace hb1 := Lib.hid hb1
                      replace hfl5 := Lib.hid hfl5
                      go_wp2_with fail
                      (with_reducible refine (hfl5.out.out).mono ?_)
                      rintro e w6 ⟨rfl, hB6⟩
                      replace hB6 := Lib.hid hB6
                      go_wp2
                      go_roundw
                      case rel => exact ⟨k + 1, by go_num, by omega, by rw [hb1.out], by rw [hb1.out], below_step hB05.out hB6.out⟩
                      case measure => simp [intOf]; omega
                  · have hng : decide (b2 < sc) = false := by simpa using hgt
                    rw [if_neg (fun h => hgt h.1)] at hb1
                    replace hb1 := Lib.hid hb1
                    replace hgt := Lib.hid hgt
                    go_wp2
                    go_roundw
                    case rel => exact ⟨k + 1, by go_num, by omega, by rw [hb1.out], by rw [hb1.out], hB05.out⟩
                    case measure => simp [intOf]; omega
              · obtain rfl : k = L.length := by omega
                rw [List.take_length] at *
                generalize hbb : T.best (bl p) L = bb at *
                obtain ⟨b1, b2⟩ := bb
                dsimp only at *
                replace hB := Lib.hid hB
                replace hbb := Lib.hid hbb
                go_wp2
                go_ret2
                rw [hbb.out]
                exact ⟨rfl, below_step hB04.out hB.out⟩
          · have hqe : q.toList.isEmpty = false := by rw [str_nil]; simpa using hq0
            have hqf : T.isFile (bl q) = false := by
              cases hc : T.isFile (bl q) with
              | true => exact absurd ⟨hq0, hc⟩ hq2
              | false => rfl
            rw [hqf] at h3
            unfold ptr at *
            replace h1 := Lib.hid h1
            replace h2 := Lib.hid h2
            replace h3 := Lib.hid h3
            replace h4 := Lib.hid h4
            replace h5 := Lib.hid h5
            replace h6 := Lib.hid h6
            replace h7 := Lib.hid h7
            replace h8 := Lib.hid h8
            replace hR := Lib.hid hR
            replace hq2 := Lib.hid hq2
            replace hq0 := Lib.hid hq0
            replace hqf := Lib.hid hqf
            replace hnm := Lib.hid hnm
            replace hbt := Lib.hid hbt
            replace hbl := Lib.hid hbl
            replace hI := Lib.hid hI
            replace hL := Lib.hid hL
            clear hr hfi
            go_enter Tryz.func9, Tryz.ntmps9
            go_wp2_with fail
            (with_reducible refine (h1.out _).mono ?_)
            rintro e w1 ⟨rfl, hB1⟩
            have h2' := h2.out w1 (hR.out.below hB1)
            replace hB1 := Lib.hid hB1
            replace h2' := Lib.hid h2'
            go_wp2_with fail
            (with_reducible refine (h2'.out).mono ?_)
            rintro e w2 ⟨rfl, hB2⟩
            have hB02 := below_step hB1.out hB2
            have h3' := h3.out w2 (hR.out.below hB02)
            replace hB02 := Lib.hid hB02
            replace h3' := Lib.hid h3'
            clear hB1 hB2 h2' h1 h2
            go_wp2_with fail
            (with_reducible refine (h3'.out).mono ?_)
            rintro e w3 ⟨rfl, hB3⟩
            have hB03 := below_step hB02.out hB3
            replace hB03 := Lib.hid hB03
            clear hB02 hB3 h3'
            go_wp2_with fail
            (with_reducible refine (h4.out _).mono ?_)
            rintro e wx ⟨rfl, rfl⟩
            have h5' := h5.out w3 (hR.out.below hB03.out)
            replace h5' := Lib.hid h5'
            go_wp2_with fail
            (with_reducible refine (h5'.out).mono ?_)
            rintro e w4 ⟨⟨v, rfl, hS⟩, hB4⟩
            have hRd := hS.rd
            obtain ⟨vA, vc, rfl, hv1, hv2⟩ := hRd.shape
            unfold maxLen at hv2
            have hB04 := below_step hB03.out hB4
            replace hRd := Lib.hid hRd
            replace hB04 := Lib.hid hB04
            replace hS := Lib.hid hS
            clear hB4 h5'
            go_wp2_with fail
            go_loopw [10, 11, 53] (fun b s i wr => ∃ k : Nat, i = .int .i64 k ∧ k ≤ L.length ∧ b = .string (mkS (T.best (bl p) (L.take k)).1) ∧ s = .int .i64 (T.best (bl p) (L.take k)).2 ∧ Below w4.heap.size w4 wr) (fun _ _ i _ => L.length - (intOf i).toNat)
            case atStart => exact ⟨0, rfl, Nat.zero_le _, rfl, rfl, Below.refl _ _⟩
            case round =>
              obtain ⟨k, rfl, hk, rfl, rfl, hB⟩ := hrel
              by_cases hlt : k < L.length
              · obtain ⟨g, o, rfl, hck⟩ := (hRd.out.below hB).cell hlt
                have hb1 := hbt.out k hlt
                obtain ⟨_, ii, hmm⟩ := hnm.out L[k] (List.getElem_mem hlt)
                have h47 := kid_part hI.out hmm
                obtain ⟨hpth, hxlen⟩ : (47 : UInt8) ∉ L[k] ∧ (L[k]).length ≤ 1000 := by
                  refine ⟨h47, ?_⟩
                  obtain ⟨s, hs1, hs2⟩ := hI.out.pth _ _ hmm
                  have := right_part hs1 L[k] (by rw [hs2]; simp)
                  simp only [partOk, Bool.and_eq_true, decide_eq_true_eq] at this
                  omega
                obtain ⟨hbn, hbp⟩ := hbl.out L[k] hpth
                generalize L[k] = x at *
                have hRr := hR.out.below (below_step hB04.out hB)
                generalize T.best (bl p) (L.take k) = bb at *
                obtain ⟨b1, b2⟩ := bb
                have hsc := fun W => h7.out W x
                have hfl := fun W s hs (hW : Below wr.heap.size wr W) => h8.out W s hs (hRr.below hW)
                rw [better_is] at hb1
                generalize scoreB x (base (bl p)) = sc at *
                replace hb1 := Lib.hid hb1
                replace hbn := Lib.hid hbn
                replace hbp := Lib.hid hbp
                replace hRr := Lib.hid hRr
                replace hB := Lib.hid hB
                replace hsc := Lib.hid hsc
                replace hfl := Lib.hid hfl
                replace hmm := Lib.hid hmm
                replace hpth := Lib.hid hpth
                replace h47 := Lib.hid h47
                have hpm : (mkS x).size = x.length := mkS_size x
                have hum : (mkS (parent (bl p))).size = (parent (bl p)).length := mkS_size _
                have hbs : (beside (bl p) x).length ≤ 4000000 := by
                  unfold beside
                  split
                  · omega
                  · simp
                    omega
                have hfl' := fun W hW => hfl.out W (mkS (beside (bl p) x)) (by rw [mkS_size]; omega) hW
                rw [bl_mkS] at hfl'
                by_cases hpe : parent (bl p) = []
                · have hq3 := hbn.out hpe
                  have hue : (mkS (parent (bl p))).toList.isEmpty = true := by rw [str_nil, bl_mkS]; simpa using hpe
                  have hqs : mkS (beside (bl p) x) = mkS x := by rw [hq3]
                  rw [hqs] at hfl'
                  replace hb1 := hb1.out
                  replace hq3 := Lib.hid hq3
                  replace hfl' := Lib.hid hfl'
                  replace hqs := Lib.hid hqs
                  replace hpe := Lib.hid hpe
                  go_wp2_with fail
                  (with_reducible refine (h4.out _).mono ?_)
                  rintro e wx ⟨rfl, rfl⟩
                  go_wp2_with fail
                  (with_reducible refine (h6.out _).mono ?_)
                  rintro e wx ⟨rfl, rfl⟩
                  go_wp2_with fail
                  (with_reducible refine (hsc.out _).mono ?_)
                  rintro e w5 ⟨rfl, hB5⟩
                  have hfl5 := hfl'.out w5 hB5
                  have hB05 := below_step hB.out hB5
                  replace hB5 := Lib.hid hB5
                  replace hfl5 := Lib.hid hfl5
                  replace hB05 := Lib.hid hB05
                  by_cases hgt : b2 < sc
                  · cases hif : T.isFile (beside (bl p) x) with
                    | true =>
                      rw [hif] at hfl5
                      rw [hif, if_pos ⟨hgt, rfl⟩] at hb1
                      replace hif := Lib.hid hif
                      replace hb1 := Lib.hid hb1
                      replace hfl5 := Lib.hid hfl5
                      go_wp2_with fail
                      (with_reducible refine (hfl5.out.out).mono ?_)
                      rintro e w6 ⟨rfl, hB6⟩
                      replace hB6 := Lib.hid hB6
                      go_wp2
                      go_roundw
                      case rel => exact ⟨k + 1, by go_num, by omega, by rw [hb1.out]; exact congrArg Value.string hqs.out.symm, by rw [hb1.out], below_step hB05.out hB6.out⟩
                      case measure => simp [intOf]; omega
                    | false =>
                      rw [hif] at hfl5
                      rw [hif, if_neg (by simp)] at hb1
                      replace hif := Lib.hid hif
                      replace hb1 := Lib.hid hb1
                      replace hfl5 := Lib.hid hfl5
                      go_wp2_with fail
                      (with_reducible refine (hfl5.out.out).mono ?_)
                      rintro e w6 ⟨rfl, hB6⟩
                      replace hB6 := Lib.hid hB6
                      go_wp2
                      go_roundw
                      case rel => exact ⟨k + 1, by go_num, by omega, by rw [hb1.out], by rw [hb1.out], below_step hB05.out hB6.out⟩
                      case measure => simp [intOf]; omega
                  · have hng : decide (b2 < sc) = false := by simpa using hgt
                    rw [if_neg (fun h => hgt h.1)] at hb1
                    replace hb1 := Lib.hid hb1
                    replace hgt := Lib.hid hgt
                    go_wp2
                    go_roundw
                    case rel => exact ⟨k + 1, by go_num, by omega, by rw [hb1.out], by rw [hb1.out], hB05.out⟩
                    case measure => simp [intOf]; omega
                · have hq3 := hbp.out hpe
                  have hue : (mkS (parent (bl p))).toList.isEmpty = false := by rw [str_nil, bl_mkS]; simpa using hpe
                  have hqs : mkS (beside (bl p) x) = mkS (parent (bl p)) ++ ⟨#[47]⟩ ++ mkS x := bl_inj (by rw [bl_mkS, bl_str, bl_mkS, bl_mkS, hq3])
                  rw [hqs] at hfl'
                  replace hb1 := hb1.out
                  replace hq3 := Lib.hid hq3
                  replace hfl' := Lib.hid hfl'
                  replace hpe := Lib.hid hpe
                  replace hqs := Lib.hid hqs
                  go_wp2_with fail
                  (with_reducible refine (h4.out _).mono ?_)
                  rintro e wx ⟨rfl, rfl⟩
                  go_wp2_with fail
                  (with_reducible refine (h6.out _).mono ?_)
                  rintro e wx ⟨rfl, rfl⟩
                  go_wp2_with fail
                  (with_reducible refine (hsc.out _).mono ?_)
                  rintro e w5 ⟨rfl, hB5⟩
                  have hfl5 := hfl'.out w5 hB5
                  have hB05 := below_step hB.out hB5
                  replace hB5 := Lib.hid hB5
                  replace hfl5 := Lib.hid hfl5
                  replace hB05 := Lib.hid hB05
                  by_cases hgt : b2 < sc
                  · cases hif : T.isFile (beside (bl p) x) with
                    | true =>
                      rw [hif] at hfl5
                      rw [hif, if_pos ⟨hgt, rfl⟩] at hb1
                      replace hif := Lib.hid hif
                      replace hb1 := Lib.hid hb1
                      replace hfl5 := Lib.hid hfl5
                      go_wp2_with fail
                      (with_reducible refine (hfl5.out.out).mono ?_)
                      rintro e w6 ⟨rfl, hB6⟩
                      replace hB6 := Lib.hid hB6
                      go_wp2
                      go_roundw
                      case rel => exact ⟨k + 1, by go_num, by omega, by rw [hb1.out]; exact congrArg Value.string hqs.out.symm, by rw [hb1.out], below_step hB05.out hB6.out⟩
                      case measure => simp [intOf]; omega
                    | false =>
                      rw [hif] at hfl5
                      rw [hif, if_neg (by simp)] at hb1
                      replace hif := Lib.hid hif
                      replace hb1 := Lib.hid hb1
                      replace hfl5 := Lib.hid hfl5
                      go_wp2_with fail
                      (with_reducible refine (hfl5.out.out).mono ?_)
                      rintro e w6 ⟨rfl, hB6⟩
                      replace hB6 := Lib.hid hB6
                      go_wp2
                      go_roundw
                      case rel => exact ⟨k + 1, by go_num, by omega, by rw [hb1.out], by rw [hb1.out], below_step hB05.out hB6.out⟩
                      case measure => simp [intOf]; omega
                  · have hng : decide (b2 < sc) = false := by simpa using hgt
                    rw [if_neg (fun h => hgt h.1)] at hb1
                    replace hb1 := Lib.hid hb1
                    replace hgt := Lib.hid hgt
                    go_wp2
                    go_roundw
                    case rel => exact ⟨k + 1, by go_num, by omega, by rw [hb1.out], by rw [hb1.out], hB05.out⟩
                    case measure => simp [intOf]; omega
              · obtain rfl : k = L.length := by omega
                rw [List.take_length] at *
                generalize hbb : T.best (bl p) L = bb at *
                obtain ⟨b1, b2⟩ := bb
                dsimp only at *
                replace hB := Lib.hid hB
                replace hbb := Lib.hid hbb
                go_wp2
                go_ret2
                rw [hbb.out]
                exact ⟨rfl, below_step hB04.out hB.out⟩
  · replace hr : right (bl p) = false := by simpa using hr
    rw [hr] at h1
    rw [if_pos hr]
    unfold ptr at *
    replace h1 := Lib.hid h1
    replace hR := Lib.hid hR
    clear h2 h3 h4 h5 h6 h7 h8 hr hpl hnm hbt hbl
    go_enter Tryz.func9, Tryz.ntmps9
    go_wp2_with fail
    (with_reducible refine (h1.out _).mono ?_)
    rintro e w1 ⟨rfl, hB1⟩
    replace hB1 := Lib.hid hB1
    go_wp2
    go_ret2
    exact ⟨rfl, hB1.out⟩

end Go.Proofs.YtemdinjiplglgaaGreat

namespace Go.Proofs.YtemdinjiplglgaaGreat
open Go.RowKit Go.ChangeShapes Go.WideShapes Go.Deep

set_option maxRecDepth 100000 in
theorem open_arr2 {H : Type} {enc : TypeId × Value → H} {W : World} {spare : Nat → Bool} {held : Bool} {v : Value} {d : DataW H} {ps : List MemPlace} {r : Reach} {b0 : Nat} (hv : Value.okWide Tryz.prog W r b0 23 v) (h : DataW.Trod enc Tryz.prog W 0 spare held 23 v d ps) :
    ∃ s0 s1 : ByteArray, v = .agg #[.string s0, .string s1] ∧ d = .agg [.lit (.string s0.data.toList), .lit (.string s1.data.toList)] := by
  obtain ⟨cs, rfl, hsz, _⟩ : ∃ cs, v = .agg cs ∧ cs.size = Tryz.prog.cellsOf 23 ∧ Row.okWide Tryz.prog W r b0 23 cs := by
    have := hv
    simpa [Value.okWide, Tryz.underlying23] using this
  have hcn : Tryz.prog.cellsOf 23 = 2 := by kernel_rfl
  rw [hcn] at hsz
  obtain ⟨l⟩ := cs
  obtain ⟨fuel, hf⟩ := h
  have hf' : DataW.trod enc Tryz.prog W 0 spare held fuel 23 l = some (d, ps) := hf
  have hl : l.length = 2 := hsz
  match l, hl with
  | [c0, c1], _ =>
    obtain ⟨xs, m, _, ex, _, hxl, hel⟩ := DataW.trod_array Tryz.underlying23 hf'
    have kc : Tryz.prog.cellsOf 9 = 1 := by kernel_rfl
    rw [kc] at hel
    have hx : ∀ i, i < 2 → ∃ y, xs[i]? = some y := fun i hi => ⟨_, List.getElem?_eq_getElem (by rw [hxl]; exact hi)⟩
    obtain ⟨y0, e0⟩ := hx 0 (by decide)
    have f0 : DataW.trod enc Tryz.prog W 0 spare held m 9 (([c0, c1].drop (0 * 1)).take 1) = some y0 := (hel 0 (by decide)).trans e0
    simp only [Nat.mul_one, List.drop_zero, List.drop_succ_cons, List.take_succ_cons, List.take_zero] at f0
    obtain ⟨s0, q0, z0, _⟩ := DataW.trod_string Tryz.underlying9 f0
    obtain ⟨y1, e1⟩ := hx 1 (by decide)
    have f1 : DataW.trod enc Tryz.prog W 0 spare held m 9 (([c0, c1].drop (1 * 1)).take 1) = some y1 := (hel 1 (by decide)).trans e1
    simp only [Nat.mul_one, List.drop_zero, List.drop_succ_cons, List.take_succ_cons, List.take_zero] at f1
    obtain ⟨s1, q1, z1, _⟩ := DataW.trod_string Tryz.underlying9 f1
    simp only [List.cons.injEq, and_true] at q0 q1
    subst q0 q1
    refine ⟨s0, s1, rfl, ?_⟩
    have hxs : xs = [y0, y1] := by
      match xs, hxl with
      | [x0, x1], _ =>
        simp only [List.getElem?_cons_zero, List.getElem?_cons_succ, Option.some.injEq] at e0 e1
        rw [e0, e1]
    simp only [Prod.mk.injEq] at ex
    rw [ex.1, hxs]
    simp only [List.map_cons, List.map_nil, z0, z1]

end Go.Proofs.YtemdinjiplglgaaGreat

namespace Go.Proofs.YtemdinjiplglgaaGreat
open Go.RowKit
set_option linter.unusedVariables false
set_option linter.unusedSimpArgs false

set_option maxHeartbeats 1000000 in
set_option maxRecDepth 100000 in
theorem cut_calls (s : ByteArray) (w : World) : Calls Tryz.prog 87 #[.string s] w fun e w' => e = .returned (.string (cutS s)) ∧ w = w' := by
  by_cases h : 200 < s.size
  · have e : s.extract 0 200 = cutS s := by unfold cutS; rw [show min s.size 200 = 200 by omega]
    have H := Lib.hid e
    clear e
    go_enter Tryz.func87, Tryz.ntmps87
    go_wp2
    go_ret
    exact ⟨ret_str H.out, rfl⟩
  · have e : s = cutS s := by unfold cutS; rw [show min s.size 200 = s.size by omega, extract_whole]
    have H := Lib.hid e
    clear e
    go_enter Tryz.func87, Tryz.ntmps87
    go_wp2
    go_ret
    exact ⟨ret_str H.out, rfl⟩

/-- A row of the call's own that holds whole numbers. -/
def Ints (w W : World) (v : Value) (xs : List Int) : Prop := W.ownsRow w.heap.size 3 1 v xs.length (xs.map fun x => .int .i64 x)
theorem Ints.own {w W : World} {v : Value} {xs : List Int} (h : Ints w W v xs) : W.ownsRow w.heap.size 3 1 v xs.length (xs.map fun x => .int .i64 x) := h
theorem Ints.at_ {w W : World} {v : Value} {xs : List Int} (h : Ints w W v xs) (hn : 0 < xs.length) : ∃ g c, v = .slice (some ⟨g, 0, none⟩) xs.length c ∧ ∀ j, j < xs.length → W.cell? ⟨g, j, none⟩ = some (.int .i64 (rd xs j)) := by
  obtain ⟨g, c, rfl, _, _, _, _, hc⟩ := own_at h hn
  exact ⟨g, c, rfl, fun j hj => hc j _ (by simp [rd, hj])⟩
theorem Ints.snoc {w W : World} {v : Value} {xs : List Int} {x : Int} (h : W.ownsRow w.heap.size 3 1 v (xs.length + 1) ((xs.map fun x => .int .i64 x) ++ [.int .i64 x])) : Ints w W v (xs ++ [x]) := by
  unfold Ints; simpa using h

def upto (n : Nat) : List Int := (List.range n).map fun (k : Nat) => (k : Int)

set_option maxHeartbeats 2000000 in
set_option maxRecDepth 100000 in
theorem refapart_calls (a b : ByteArray) (w : World) :
    Calls Tryz.prog 88 #[.string a, .string b] w fun e w' => e = .returned (.int .i64 (dist (cutS a) (cutS b))) ∧ Below w.heap.size w w' := by
  have HA := cutS_size a
  have HB := cutS_size b
  have ha := fun W => cut_calls a W
  have hb := fun W => cut_calls b W
  generalize cutS a = A at *
  generalize cutS b = B at *
  have Ha := Lib.hid ha
  have Hb := Lib.hid hb
  clear ha hb
  go_enter Tryz.func88, Tryz.ntmps88
  go_wp2_with fail
  refine (Ha.out _).mono ?_
  rintro e w1 ⟨rfl, rfl⟩
  go_wp2_with fail
  refine (Hb.out _).mono ?_
  rintro e w1 ⟨rfl, rfl⟩
  go_wp2
  go_loopw [5, 6] (fun r i W => ∃ k : Nat, i = .int .i64 k ∧ k ≤ B.size + 1 ∧ Ints w W r (upto k) ∧ Below w.heap.size w W) (fun _ i _ => B.size + 1 - (intOf i).toNat)
  case atStart => exact ⟨0, rfl, by omega, World.ownsRow_nil _ _ _ _, Below.refl _ _⟩
  case round =>
    obtain ⟨k, rfl, hk, HO, HW⟩ := hrel
    by_cases hlt : k ≤ B.size
    · have hs := HW.size
      have ho := HO.own
      have hl : (upto k).length = k := by simp [upto]
      have hm : (upto k).length + 1 ≤ maxLen := by simp [maxLen]; omega
      have hz : ((upto k).length + 1) * 8 ≤ 140737488355328 := by omega
      have Ho := Lib.hid ho
      have Hl := Lib.hid hl
      have Hm := Lib.hid hm
      have Hz := Lib.hid hz
      clear ho hl hm hz
      go_wp2_with (at_builtin; refine wp_append1 w.heap.size rfl (.tmp 21) (.tmp 23) 101 3 rfl Tryz.underlying101 (.int .i64 0) 1 8 info_int rfl (by decide) u5 _ _ rfl [.int .i64 (k : Int)] rfl Ho.out rfl ?_ Hm.out Hz.out hs ?_)
      · simp [Value.oneCell']
      · intro v1 w1 ho1 hg1 _
        have hO : Ints w w1 v1 (upto (k + 1)) := by
          have e : upto (k + 1) = upto k ++ [(k : Int)] := by simp [upto, List.range_succ]
          rw [e]; exact Ints.snoc ho1
        have hB : Below w.heap.size w w1 := HW.grown hg1 hs (fun b hb => by
          rcases own_rel Ho.out with h | ⟨q, h, h', _⟩
          · rw [h] at hb; cases hb
          · rw [h] at hb; cases hb; exact h')
        clear ho1 hg1
        go_wp2
        go_roundw
        case measure => simp [intOf]; omega
        case rel => exact ⟨k + 1, by go_num, by omega, hO, hB⟩
    · obtain rfl : k = B.size + 1 := by omega
      have e : upto (B.size + 1) = rowAt A B 0 := rfl
      rw [e] at HO
      clear e hk
      have hlt' : ¬ ((B.size : Int) + 1 ≤ (B.size : Int)) := by omega
      go_wp2
      go_loopw [5, 7] (fun r i W => ∃ k : Nat, i = .int .i64 k ∧ k ≤ A.size ∧ Ints w W r (rowAt A B k) ∧ Below w.heap.size w W) (fun _ i _ => A.size - (intOf i).toNat)
      case atStart => exact ⟨0, rfl, by omega, HO, HW⟩
      case round =>
        clear HO HW hlt hlt'
        obtain ⟨k, rfl, hk, HO, HW⟩ := hrel
        obtain ⟨g, c, rfl, hc⟩ := HO.at_ (by rw [rowAt_length]; omega)
        rw [rowAt_length] at hc
        have hl := rowAt_length A B k
        by_cases hlt : k < A.size
        · have hs := HW.size
          have HN0 : Ints w (wr.alloc (.cells #[.int .i64 ((k : Int) + 1)] 3)) (.slice (some ⟨wr.heap.size, 0, none⟩) 1 1) (stepRow A B k (rowAt A B k) 0) := own_made wr w.heap.size 3 1 1 [.int .i64 ((k : Int) + 1)] hs rfl (by simp [maxLen])
          have HO0 : Ints w (wr.alloc (.cells #[.int .i64 ((k : Int) + 1)] 3)) (.slice (some ⟨g, 0, none⟩) (rowAt A B k).length c) (rowAt A B k) := HO.own.alloc _
          have HW0 := HW.alloc hs (.cells #[.int .i64 ((k : Int) + 1)] 3)
          have hg : g < wr.heap.size := (HO.own.lt g rfl).2
          rw [hl] at HO0 ⊢
          clear hc HO HW hl
          go_wp2
          go_loopw [8, 9] (fun nv i W => ∃ j : Nat, i = .int .i64 j ∧ j ≤ B.size ∧ Ints w W nv (stepRow A B k (rowAt A B k) j) ∧ Ints w W (.slice (some ⟨g, 0, none⟩) (B.size + 1) c) (rowAt A B k) ∧ nv.ownBlock ≠ some g ∧ Below w.heap.size w W) (fun _ i _ => B.size - (intOf i).toNat)
          case atStart => exact ⟨0, rfl, by omega, HN0, HO0, by simp [Value.ownBlock]; omega, HW0⟩
          case round =>
            clear HN0 HO0 HW0 hg hs
            obtain ⟨j, rfl, hj, HN, HO, hne, HW⟩ := hrel
            have hs := HW.size
            have hlr := rowAt_length A B k
            have hls := stepRow_length A B k (rowAt A B k) j
            by_cases hlj : j < B.size
            · obtain ⟨g', c', e', hc'⟩ := HN.at_ (by omega)
              obtain ⟨g2, c2, e2, hc2⟩ := HO.at_ (by omega)
              rw [hlr] at hc2 e2
              simp only [Value.slice.injEq, Option.some.injEq, Addr.mk.injEq] at e2
              obtain ⟨⟨rfl, _, _⟩, _, rfl⟩ := e2
              have hr1 := hc2 j (by omega)
              have hr2 := hc2 (j + 1) (by omega)
              have hn1 := hc' j (by omega)
              clear hc' hc2
              have hba := bt_at A k hlt
              have hbb := bt_at B j hlj
              have hp : stepRow A B k (rowAt A B k) (j + 1) = stepRow A B k (rowAt A B k) j ++ [mn (mn (if bt A k = bt B j then rd (rowAt A B k) j else rd (rowAt A B k) j + 1) (rd (rowAt A B k) (j + 1) + 1)) (rd (stepRow A B k (rowAt A B k) j) j + 1)] := rfl
              have bd1 := row_bd A B k j hj
              have bd2 := row_bd A B k (j + 1) hlj
              have bd3 := step_bd A B k B.size (rowAt A B k) (row_bd A B k) j hj j (Nat.le_refl _)
              have bd4 : 0 ≤ mn (rd (rowAt A B k) j) (rd (rowAt A B k) (j + 1) + 1) ∧ mn (rd (rowAt A B k) j) (rd (rowAt A B k) (j + 1) + 1) ≤ 1000 := mn_bd (by omega) (by omega) (.inr (by omega))
              have HN0 := HN.own
              subst e'
              clear HN
              generalize hx : rd (rowAt A B k) j = x at *
              generalize hy : rd (rowAt A B k) (j + 1) = y at *
              generalize hz : rd (stepRow A B k (rowAt A B k) j) j = z at *
              clear hx hy hz
              replace hls := Lib.hid hls
              replace hp := Lib.hid hp
              clear hlr
              rw [hls.out]
              by_cases hbt : bt A k = bt B j
              · have hbe : (if bt A k = bt B j then x else x + 1) = x := if_pos hbt
                replace hbe := Lib.hid hbe
                have ho : wr.ownsRow w.heap.size 3 1 (.slice (some ⟨g', 0, none⟩) (j + 1) c') (j + 1) ((stepRow A B k (rowAt A B k) j).map fun x => .int .i64 x) := by rw [hls.out] at HN0; exact HN0
                have Ho := Lib.hid ho
                have hpp : Hid (stepRow A B k (rowAt A B k) (j + 1) = stepRow A B k (rowAt A B k) j ++ [mn (mn x (y + 1)) (z + 1)]) := by rw [hp.out, hbe.out]; exact Lib.hid rfl
                clear ho hp HN0
                go_wp2
                go_quiet (fail)
                go_wp2_with (at_builtin; refine wp_append1 w.heap.size rfl (.tmp 68) (.tmp 70) 101 3 rfl Tryz.underlying101 (.int .i64 0) 1 8 info_int rfl (by decide) (.slice (some ⟨g', 0, none⟩) (j + 1) c') _ _ rfl [.int .i64 (mn (mn x (y + 1)) (z + 1))] rfl Ho.out rfl ?_ ?_ ?_ hs ?_)
                · simp [Value.oneCell']
                · simp [maxLen]; omega
                · omega
                · intro v1 w1 ho1 hg1 hat
                  have hg2 : wr.grownBy w1 (some g') := grown_drewN (by simpa [Value.ownBlock] using hg1)
                  have hO : Ints w w1 v1 (stepRow A B k (rowAt A B k) (j + 1)) := by
                    rw [hpp.out]
                    refine Ints.snoc ?_
                    rw [hls.out]; exact ho1
                  have hO2 : Ints w w1 (.slice (some ⟨g, 0, none⟩) (B.size + 1) c) (rowAt A B k) := own_kept HO.own hg2 (fun b hb => by
                    simp only [Value.ownBlock, Option.some.injEq] at hb
                    subst hb
                    simpa [Value.ownBlock] using hne.symm)
                  have hB : Below w.heap.size w w1 := HW.grown hg2 hs (fun b hb => by cases hb; exact (Ho.out.lt g' rfl).1)
                  have hne2 : v1.ownBlock ≠ some g := by
                    rcases hat with h | ⟨b, h, h'⟩
                    · rw [h]; exact hne
                    · rw [h]
                      have := (HO.own.lt g rfl).2
                      simp at h' ⊢; omega
                  clear ho1 hg1 hat hg2 hpp
                  go_wp2
                  go_roundw
                  case measure => simp [intOf]; omega
                  case rel => exact ⟨j + 1, by go_num, by omega, hO, hO2, hne2, hB⟩
              · have hbe : (if bt A k = bt B j then x else x + 1) = x + 1 := if_neg hbt
                replace hbe := Lib.hid hbe
                have hbf : (bt A k == bt B j) = false := by simpa using hbt
                have hbg : (bt A k != bt B j) = true := by simpa using hbt
                clear hbt
                have ho : wr.ownsRow w.heap.size 3 1 (.slice (some ⟨g', 0, none⟩) (j + 1) c') (j + 1) ((stepRow A B k (rowAt A B k) j).map fun x => .int .i64 x) := by rw [hls.out] at HN0; exact HN0
                have Ho := Lib.hid ho
                have hpp : Hid (stepRow A B k (rowAt A B k) (j + 1) = stepRow A B k (rowAt A B k) j ++ [mn (mn (x + 1) (y + 1)) (z + 1)]) := by rw [hp.out, hbe.out]; exact Lib.hid rfl
                clear ho hp HN0
                go_wp2
                go_quiet (fail)
                go_wp2_with (at_builtin; refine wp_append1 w.heap.size rfl (.tmp 68) (.tmp 70) 101 3 rfl Tryz.underlying101 (.int .i64 0) 1 8 info_int rfl (by decide) (.slice (some ⟨g', 0, none⟩) (j + 1) c') _ _ rfl [.int .i64 (mn (mn (x + 1) (y + 1)) (z + 1))] rfl Ho.out rfl ?_ ?_ ?_ hs ?_)
                · simp [Value.oneCell']
                · simp [maxLen]; omega
                · omega
                · intro v1 w1 ho1 hg1 hat
                  have hg2 : wr.grownBy w1 (some g') := grown_drewN (by simpa [Value.ownBlock] using hg1)
                  have hO : Ints w w1 v1 (stepRow A B k (rowAt A B k) (j + 1)) := by
                    rw [hpp.out]
                    refine Ints.snoc ?_
                    rw [hls.out]; exact ho1
                  have hO2 : Ints w w1 (.slice (some ⟨g, 0, none⟩) (B.size + 1) c) (rowAt A B k) := own_kept HO.own hg2 (fun b hb => by
                    simp only [Value.ownBlock, Option.some.injEq] at hb
                    subst hb
                    simpa [Value.ownBlock] using hne.symm)
                  have hB : Below w.heap.size w w1 := HW.grown hg2 hs (fun b hb => by cases hb; exact (Ho.out.lt g' rfl).1)
                  have hne2 : v1.ownBlock ≠ some g := by
                    rcases hat with h | ⟨b, h, h'⟩
                    · rw [h]; exact hne
                    · rw [h]
                      have := (HO.own.lt g rfl).2
                      simp at h' ⊢; omega
                  clear ho1 hg1 hat hg2 hpp
                  go_wp2
                  go_roundw
                  case measure => simp [intOf]; omega
                  case rel => exact ⟨j + 1, by go_num, by omega, hO, hO2, hne2, hB⟩
            · obtain rfl : j = B.size := by omega
              have HF : Ints w wr u8 (rowAt A B (k + 1)) := HN
              clear hlj hj HN HO
              go_wp2
              go_roundw
              case measure => simp [intOf]; omega
              case rel => exact ⟨k + 1, by go_num, by omega, HF, HW⟩
        · obtain rfl : k = A.size := by omega
          have hr := hc B.size (by omega)
          rw [hl]
          clear hc hl hlt hk
          go_wp2
          go_ret
          exact ⟨rfl, HW⟩

end Go.Proofs.YtemdinjiplglgaaGreat

namespace Go.Proofs.YtemdinjiplglgaaGreat
open Go.RowKit
set_option linter.unusedVariables false
set_option linter.unusedSimpArgs false

set_option maxHeartbeats 1000000 in
set_option maxRecDepth 100000 in
theorem refend_calls (s : ByteArray) (w : World) (hs : s.size ≤ maxLen) :
    Calls Tryz.prog 89 #[.string s] w fun e w' => e = .returned (.string (tailS s)) ∧ w = w' := by
  unfold maxLen at hs
  have hd : Hid (tailS s = if 0 ≤ lastAt s 46 s.size then s.extract (lastAt s 46 s.size).toNat s.size else ⟨#[]⟩) := by simp [tailS, hasPt, Hid]
  go_enter Tryz.func89, Tryz.ntmps89
  go_wp2
  go_loop [3] (fun i => ∃ k : Nat, k ≤ s.size ∧ i = .int .i64 ((k : Int) - 1) ∧ Hid (lastAt s 46 s.size = lastAt s 46 k)) (fun i => (intOf i + 1).toNat)
  case atStart => exact ⟨s.size, Nat.le_refl _, rfl, rfl⟩
  case round =>
    obtain ⟨k, hk, rfl, hl⟩ := hrel
    by_cases hz : k = 0
    · subst hz
      have h1 : ¬ (0 ≤ ((0 : Nat) : Int) - 1) := by omega
      go_wp2
      go_ret
      exact ⟨ret_str (by rw [hd.out, hl.out]; rfl), rfl⟩
    · obtain ⟨j, rfl⟩ : ∃ j, k = j + 1 := ⟨k - 1, by omega⟩
      have e : ((j + 1 : Nat) : Int) - 1 = (j : Int) := by omega
      rw [e]
      clear e
      have hb := bt_at s j (by omega)
      have hj : j < s.size := by omega
      have hl2 : Hid (lastAt s 46 s.size = if bt s j = 46 then (j : Int) else lastAt s 46 j) := hl
      clear hl hz
      by_cases hc : bt s j = 46
      · have hc1 : (bt s j == 46) = true := by simpa using hc
        have hl3 : Hid (lastAt s 46 s.size = (j : Int)) := by rw [hl2.out, if_pos hc]; exact Lib.hid rfl
        clear hl2 hc
        go_wp2
        go_ret
        exact ⟨ret_str (by rw [hd.out, hl3.out, if_pos (by omega)]; rfl), rfl⟩
      · have hc1 : (bt s j == 46) = false := by simpa using hc
        have hl3 : Hid (lastAt s 46 s.size = lastAt s 46 j) := by rw [hl2.out, if_neg hc]; exact Lib.hid rfl
        clear hl2 hc
        go_wp2
        go_round
        case rel => exact ⟨j, by omega, rfl, hl3⟩
        case measure => simp [intOf]

end Go.Proofs.YtemdinjiplglgaaGreat

namespace Go.Proofs.YtemdinjiplglgaaGreat
open Go.RowKit
set_option linter.unusedVariables false
set_option linter.unusedSimpArgs false

theorem tailS_empty (s : ByteArray) (hs : s.size ≤ maxLen) : (tailS s).toList.isEmpty = !hasPt s := by
  rw [str_empty]
  unfold tailS
  have hb := lastAt_bd s 46 s.size
  cases h : hasPt s with
  | false => simp; rfl
  | true =>
    simp only [hasPt, decide_eq_true_eq] at h
    simp; omega
theorem bonus_ref (a b : ByteArray) (ha : a.size ≤ maxLen) (hb : b.size ≤ maxLen) : bonus a b = (hasPt a && decide (tailS a = tailS b)) := by
  unfold bonus
  cases h : hasPt a with
  | false => simp
  | true =>
    by_cases e : tailS a = tailS b
    · have h1 := tailS_empty a ha
      have h2 := tailS_empty b hb
      rw [e, h2, h] at h1
      simp at h1
      simp [e, h1]
    · simp [e]

set_option maxHeartbeats 1000000 in
set_option maxRecDepth 100000 in
theorem refscore_calls (a b : ByteArray) (w : World) :
    Calls Tryz.prog 43 #[.string a, .string b] w fun e w' => e = .returned (.int .i64 (scoreF a b)) ∧ Below w.heap.size w w' := by
  unfold scoreF
  have ha := fun W => cut_calls a W
  have hb := fun W => cut_calls b W
  have hd := fun W => refapart_calls (cutS a) (cutS b) W
  rw [cutS_cut, cutS_cut] at hd
  have HA := cutS_size a
  have HB := cutS_size b
  generalize cutS a = A at *
  generalize cutS b = B at *
  have hA : A.size ≤ maxLen := by simp [maxLen]; omega
  have hB : B.size ≤ maxLen := by simp [maxLen]; omega
  have hx := fun W => refend_calls A W hA
  have hy := fun W => refend_calls B W hB
  have hw := worth_bd A B
  have d1 := dist_ge A B
  have d2 := dist_le A B
  have Ha := Lib.hid ha
  have Hb := Lib.hid hb
  have Hd := Lib.hid hd
  have Hx := Lib.hid hx
  have Hy := Lib.hid hy
  clear ha hb hd hx hy
  have hs : scoreC A B = if hasPt A && decide (tailS A = tailS B) then worth A B + 100 else worth A B := by rw [← bonus_ref A B hA hB]; rfl
  have hwd : worth A B = if mx A.size B.size = 0 then 1000 else 1000 * (mx A.size B.size - dist A B) / mx A.size B.size := rfl
  have hm1 : 0 ≤ mx (A.size : Int) (B.size : Int) := by rw [mx_max]; omega
  have hm2 : mx (A.size : Int) (B.size : Int) ≤ 200 := by rw [mx_max]; omega
  have hm3 : dist A B ≤ mx (A.size : Int) (B.size : Int) := by rw [mx_max]; omega
  have hemp := tailS_empty A hA
  generalize scoreC A B = sc at *
  generalize worth A B = wo at *
  generalize dist A B = d at *
  generalize hmx : mx (A.size : Int) (B.size : Int) = m at *
  generalize hasPt A = p at *
  generalize tailS A = x at *
  generalize tailS B = y at *
  have hxy : (x = y ∧ (x.toList == y.toList) = true) ∨ (¬ x = y ∧ (x.toList == y.toList) = false) := by
    rw [str_eq]
    by_cases h : x = y
    · exact .inl ⟨h, by simp [h]⟩
    · exact .inr ⟨h, by simp [h]⟩
  clear d2 hA hB
  by_cases hm0 : m = 0
  · subst hm0
    rw [if_pos rfl] at hwd
    subst hwd
    have Hs := Lib.hid hs
    clear hs
    cases p <;> rcases hxy with ⟨h1, h2⟩ | ⟨h1, h2⟩
    all_goals
      have Hs2 := Hs.out
      simp only [Bool.true_and, Bool.false_and, Bool.and_true, Bool.and_false, h1, decide_true, decide_false, if_true, if_false, Bool.false_eq_true] at Hs2
      replace Hs2 := Lib.hid Hs2
      simp only [Bool.not_true, Bool.not_false] at hemp
      clear Hs h1
      go_enter Tryz.func43, Tryz.ntmps43
      go_wp2_with fail
      refine (Ha.out _).mono ?_
      rintro e w1 ⟨rfl, rfl⟩
      go_wp2_with fail
      refine (Hb.out _).mono ?_
      rintro e w1 ⟨rfl, rfl⟩
      go_wp2_with fail
      refine (Hx.out _).mono ?_
      rintro e w1 ⟨rfl, rfl⟩
      go_wp2_with fail
      try (refine (Hx.out _).mono ?_; rintro e w1 ⟨rfl, rfl⟩; go_wp2_with fail; refine (Hy.out _).mono ?_; rintro e w1 ⟨rfl, rfl⟩; go_wp2)
      go_ret
      exact ⟨ret_int Hs2.out.symm, by first | exact HBL | exact Below.refl _ _⟩
  · rw [if_neg hm0] at hwd
    have hq0 : 0 ≤ 1000 * (m - d) / m := by rw [← hwd]; exact hw.1
    have hq1 : 1000 * (m - d) / m ≤ 1000 := by rw [← hwd]; exact hw.2
    have hmp : 0 < m := by omega
    subst hwd
    clear hw
    have Hs := Lib.hid hs
    clear hs
    cases p <;> rcases hxy with ⟨h1, h2⟩ | ⟨h1, h2⟩
    all_goals
      have Hs2 := Hs.out
      simp only [Bool.true_and, Bool.false_and, Bool.and_true, Bool.and_false, h1, decide_true, decide_false, if_true, if_false, Bool.false_eq_true] at Hs2
      replace Hs2 := Lib.hid Hs2
      simp only [Bool.not_true, Bool.not_false] at hemp
      clear Hs h1
      go_enter Tryz.func43, Tryz.ntmps43
      go_wp2_with fail
      refine (Ha.out _).mono ?_
      rintro e w1 ⟨rfl, rfl⟩
      go_wp2_with fail
      refine (Hb.out _).mono ?_
      rintro e w1 ⟨rfl, rfl⟩
      go_wp2_with fail
      refine (Hd.out _).mono ?_
      rintro e w1 ⟨rfl, HBL⟩
      go_wp2_with fail
      refine (Hx.out _).mono ?_
      rintro e w1 ⟨rfl, rfl⟩
      go_wp2_with fail
      try (refine (Hx.out _).mono ?_; rintro e w1 ⟨rfl, rfl⟩; go_wp2_with fail; refine (Hy.out _).mono ?_; rintro e w1 ⟨rfl, rfl⟩; go_wp2)
      go_ret
      exact ⟨ret_int Hs2.out.symm, by first | exact HBL | exact Below.refl _ _⟩

end Go.Proofs.YtemdinjiplglgaaGreat

namespace Go.Proofs.YtemdinjiplglgaaGreat

theorem cmpL_left : ∀ (l a b : List Bytes), cmpL (l ++ a) (l ++ b) = cmpL a b
  | [], _, _ => rfl
  | x :: l, a, b => by
    simp only [List.cons_append, cmpL]
    rw [cmpB_self, if_neg (by simp)]
    exact cmpL_left l a b

theorem foldl_congr_mem {α β : Type} {f g : β → α → β} : ∀ {l : List α} {b : β}, (∀ b x, x ∈ l → f b x = g b x) → l.foldl f b = l.foldl g b
  | [], _, _ => rfl
  | x :: l, b, h => by
    rw [List.foldl_cons, List.foldl_cons, h b x (List.mem_cons_self ..)]
    exact foldl_congr_mem fun b y hy => h b y (List.mem_cons_of_mem _ hy)

theorem foldl_skip {α β : Type} {g : β → α → β} {c : α → Bool} (h : ∀ b x, c x = false → g b x = b) : ∀ (l : List α) (b : β), l.foldl g b = (l.filter c).foldl g b
  | [], _ => rfl
  | x :: l, b => by
    cases hc : c x with
    | true => rw [List.filter_cons_of_pos hc, List.foldl_cons, List.foldl_cons]; exact foldl_skip h l _
    | false => rw [List.filter_cons_of_neg (by simp [hc]), List.foldl_cons, h b x hc]; exact foldl_skip h l b

theorem base_part {x : Bytes} (hx : right x = true) (h0 : x ≠ []) : base x ≠ [] ∧ (47 : UInt8) ∉ base x := by
  have hm : base x ∈ split x := by rw [← split_base h0]; simp
  exact ⟨partOk_ne (right_part hx _ hm), split_parts x _ hm⟩

theorem beside_base {p x : Bytes} (hp : right p = true) (hx : right x = true) (h0 : x ≠ []) (h : parent x = parent p) : beside p (base x) = x := by
  obtain ⟨h1, h2⟩ := base_part hx h0
  refine split_inj ?_
  rw [beside_split hp h2 h1, ← h, split_parent hx]
  exact split_base h0

theorem beside_sorted {p : Bytes} (hp : right p = true) {l : List Bytes} (hl : ∀ x ∈ l, x ≠ [] ∧ (47 : UInt8) ∉ x) (h : Sorted l) : Sorted (l.map (beside p)) := by
  unfold Sorted at *
  rw [List.pairwise_map]
  refine List.Pairwise.imp_of_mem ?_ h
  intro a b ha hb hab
  obtain ⟨a1, a2⟩ := hl a ha
  obtain ⟨b1, b2⟩ := hl b hb
  unfold leP cmpP at *
  rw [beside_split hp a2 a1, beside_split hp b2 b1, cmpL_left]
  rw [split_ne a1, split_ne b1, splitL_one a2, splitL_one b2] at hab
  exact hab

section
variable {T : Fs}

theorem near_list (hI : T.Inv) {p : Bytes} (hp : right p = true) : (T.paths.filter fun x => decide (parent x = parent p)) = ((T.list (parent p)).1).map (beside p) := by
  obtain ⟨r, hr⟩ := hI.top
  have hpp := right_parent hp
  have hL : (T.list (parent p)).1 = sortB ((T.kids (split (parent p))).map (·.1)) := by
    have h : (T.list (parent p)).1 = sortB ((T.kids (split (parent p))).map (·.1)) ∨ (T.list (parent p)).1 = [] := by
      unfold Fs.list
      (repeat' split) <;> simp
    rcases h with h | h
    · exact h
    · rw [h]
      cases hk : T.kids (split (parent p)) with
      | nil => simp [sortB]
      | cons a k =>
        obtain ⟨x, i⟩ := a
        have hm := mem_kidsL.1 (show (x, i) ∈ kidsL T.names (split (parent p)) by show (x, i) ∈ T.kids (split (parent p)); rw [hk]; exact List.mem_cons_self ..)
        have := names_list hI hpp hm
        rw [h] at this
        cases this
  rw [hL, ← in_sorted hI hr, paths_rest hI hr]
  have hin : ∀ x ∈ inL r (parent p), x ≠ [] ∧ (47 : UInt8) ∉ x := fun x hx => by
    rw [in_kids hI hr] at hx
    exact kids_parts hI hx
  have h1 : ((sortP (r.map fun x => glue x.1)).filter fun x => decide (parent x = parent p)) = sortP ((r.map fun x => glue x.1).filter fun x => decide (parent x = parent p)) :=
    sortP_eq ((sortP_perm _).filter _) (List.Pairwise.filter _ (sortP_sorted _))
  have h2 : (sortP (inL r (parent p))).map (beside p) = sortP ((inL r (parent p)).map (beside p)) :=
    sortP_eq ((sortP_perm _).map _) (beside_sorted hp (fun x hx => hin x ((sortP_perm _).mem_iff.1 hx)) (sortP_sorted _))
  have h3 : (inL r (parent p)).map (beside p) = ((r.map fun x => glue x.1).filter fun x => decide (parent x = parent p)) := by
    unfold inL
    rw [List.map_map, List.filter_map]
    refine List.map_congr_left fun x hx => ?_
    obtain ⟨hx1, hx2⟩ := List.mem_filter.1 hx
    obtain ⟨g1, g2⟩ := rest_path hI hr hx1
    obtain ⟨g3, _⟩ := g1.text
    exact beside_base hp g3 (glue_ne g1 g2) (by simpa using hx2)
  rw [h1, h2, h3]

/-- How the reference goes through all paths. -/
def Fs.rbetter (T : Fs) (p : Bytes) (b : Bytes × Int) (x : Bytes) : Bytes × Int := if parent x = parent p ∧ T.isFile x = true ∧ b.2 < scoreB (base x) (base p) then (x, scoreB (base x) (base p)) else b
def Fs.rbest (T : Fs) (p : Bytes) (l : List Bytes) : Bytes × Int := l.foldl (T.rbetter p) ([], 499)
theorem rbest_take (T : Fs) (p : Bytes) {l : List Bytes} {k : Nat} (h : k < l.length) : T.rbest p (l.take (k + 1)) = T.rbetter p (T.rbest p (l.take k)) l[k] := by
  unfold Fs.rbest
  rw [List.take_succ_eq_append_getElem h, List.foldl_append]
  rfl

theorem rbest_is (hI : T.Inv) {p : Bytes} (hp : right p = true) : T.rbest p T.paths = T.best p (T.list (parent p)).1 := by
  unfold Fs.rbest Fs.best bestOf
  rw [foldl_skip (g := T.rbetter p) (c := fun x => decide (parent x = parent p)) (fun b x hx => if_neg fun h => absurd h.1 (by simpa using hx)), near_list hI hp, List.foldl_map]
  refine foldl_congr_mem fun b x hx => ?_
  obtain ⟨_, i, hm⟩ := list_names hI hx
  obtain ⟨e1, e2⟩ := beside_parent (p := p) (kid_part hI hm)
  show T.rbetter p b (beside p x) = T.better p b x
  rw [better_is]
  unfold Fs.rbetter
  rw [e1, e2]
  by_cases h : b.2 < scoreB x (base p) ∧ T.isFile (beside p x) = true
  · rw [if_pos h, if_pos ⟨rfl, h.2, h.1⟩]
  · rw [if_neg h, if_neg fun k => h ⟨k.2.2, k.2.1⟩]

theorem best_found (hI : T.Inv) (p : Bytes) (l : List Bytes) : ((T.best p l).1 ≠ [] ↔ 500 ≤ (T.best p l).2) := by
  rcases (best_is T.isFile (beside p) (fun x => scoreB x (base p)) l).start with h | ⟨x, _, h1, h2, h3, h4⟩
  · have e : T.best p l = ([], 499) := h
    rw [e]
    simp
  · exact ⟨fun _ => h4, fun _ => isFile_ne hI h2⟩

end

end Go.Proofs.YtemdinjiplglgaaGreat

namespace Go.Proofs.YtemdinjiplglgaaGreat
open Go.RowKit

theorem paths_few {T : Fs} (_ : T.Inv) (hf : T.names.length ≤ 1000000) : T.paths.length ≤ 1000000 := by
  rw [paths_len]
  exact Nat.le_trans (below_few T []) hf

set_option maxHeartbeats 1000000 in
set_option maxRecDepth 100000 in
theorem rfile22_calls (rb : Nat) (v : Value) (A : Nat → Nat) (T : Fs) (s : ByteArray) (w : World) (hR : RRep w rb v A T) (hs : s.size ≤ 16777216) (hf : T.names.length ≤ 1000000) :
    Calls Tryz.prog 40 #[ptr rb, .string s] w fun e w' => e = .returned (.bool (T.isFile (bl s))) ∧ Below w.heap.size w w' := by
  have h1 := rstat_calls rb v A T s w hR hs hf
  unfold Fs.isFile
  generalize T.stat (bl s) = st at *
  obtain ⟨⟨a1, a2, a3, a4, ⟨a5, a6, a7, a8, a9⟩, a10⟩, ea⟩ := st
  unfold statV statCells ptr at *
  dsimp only at *
  replace h1 := Lib.hid h1
  replace hR := Lib.hid hR
  go_enter Tryz.func40, Tryz.ntmps40
  go_wp2_with fail
  (with_reducible refine (h1.out).mono ?_)
  rintro e w1 ⟨rfl, hB⟩
  replace hB := Lib.hid hB
  by_cases e0 : ea = 0
  · subst e0
    go_wp2
    go_ret
    exact ⟨ret_bool (by rw [Bool.eq_iff_iff]; simp), below_alloc hB.out _⟩
  · have e1 : (ea == 0) = false := by simpa using e0
    replace e0 := Lib.hid e0
    go_wp2
    go_ret
    exact ⟨ret_bool (by simp [e0.out]), below_alloc hB.out _⟩

set_option maxHeartbeats 4000000 in
set_option maxRecDepth 100000 in
theorem rchoose_calls (rb : Nat) (rv : Value) (A : Nat → Nat) (T : Fs) (p q : ByteArray) (fz : Bool) (w : World) (hR : RRep w rb rv A T) (hp : p.size ≤ 2000000) (hq : q.size ≤ 2000000) (hf : T.names.length ≤ 1000000) :
    Calls Tryz.prog 11 #[ptr rb, .string p, .string q, .bool fz] w fun e w' => e = .returned (.tuple #[.string (mkS (T.choose (bl p) (bl q) fz).1), .bool (T.choose (bl p) (bl q) fz).2]) ∧ Below w.heap.size w w' := by
  have hI := hR.inv
  have h1 := fun W => refright_calls p W (by omega)
  have h2 := fun W hW => rfile22_calls rb rv A T p W hW (by omega) hf
  have h3 := fun W hW => rfile22_calls rb rv A T q W hW (by omega) hf
  have h4 := fun W => refparent_calls p W (by omega)
  have h5 := fun W hW => rpaths_calls rb rv A T W hW hf
  have h6 := fun W v hW => refsort_calls 1000000 v T.paths W (paths_few hI hf) hW (paths_few hI hf) (fun y hy => by
    obtain ⟨hr, _⟩ := (mem_paths hI).1 hy
    have := right_len hr
    omega)
  rw [show sortP T.paths = T.paths from (sortP_eq (List.Perm.refl _) (sortP_sorted _)).symm] at h6
  have h7 := fun W => refbase_calls p W (by omega)
  have h8 := fun W s hs hW => rfile22_calls rb rv A T s W hW hs hf
  have h9 := fun (s : ByteArray) W hs => refparent_calls s W hs
  have h10 := fun (s : ByteArray) W hs => refbase_calls s W hs
  have h11 : ∀ W x, Calls Tryz.prog 43 #[.string (mkS x), .string (mkS (base (bl p)))] W fun e w' => e = .returned (.int .i64 (scoreB x (base (bl p)))) ∧ Below W.heap.size W w' := fun W x => refscore_calls (mkS x) (mkS (base (bl p))) W
  have hpr : ∀ x, x ∈ T.paths → right x = true ∧ x ≠ [] := fun x hx => ⟨((mem_paths hI).1 hx).1, ((mem_paths hI).1 hx).2.1⟩
  have hPl := paths_few hI hf
  have hbt := fun k (h : k < T.paths.length) => rbest_take T (bl p) h
  unfold Fs.choose
  by_cases hr : right (bl p) = true
  · have hrb := rbest_is hI hr
    have hfo := best_found hI (bl p) (T.list (parent (bl p))).1
    rw [← hrb] at hfo ⊢
    rw [hr] at h1
    rw [if_neg (by simp [hr])]
    by_cases hfi : T.isFile (bl p) = true
    · rw [if_pos hfi]
      rw [hfi] at h2
      unfold ptr at *
      replace h1 := Lib.hid h1
      replace h2 := Lib.hid h2
      replace hR := Lib.hid hR
      clear h3 h4 h5 h6 h7 h8 h9 h10 h11 hr hfi hpr hbt hrb hfo
      go_enter Tryz.func11, Tryz.ntmps11
      go_wp2_with fail
      (with_reducible refine (h1.out _).mono ?_)
      rintro e w1 ⟨rfl, hB1⟩
      have h2' := h2.out w1 (hR.out.below hB1)
      replace hB1 := Lib.hid hB1
      replace h2' := Lib.hid h2'
      go_wp2_with fail
      (with_reducible refine (h2'.out).mono ?_)
      rintro e w2 ⟨rfl, hB2⟩
      replace hB2 := Lib.hid hB2
      go_wp2
      go_ret2
      exact ⟨by rw [mkS_bl]; rfl, below_step hB1.out hB2.out⟩
    · rw [if_neg hfi]
      replace hfi : T.isFile (bl p) = false := by simpa using hfi
      rw [hfi] at h2
      by_cases hq2 : bl q ≠ [] ∧ T.isFile (bl q) = true
      · rw [if_pos hq2]
        rw [hq2.2] at h3
        have hqe : q.toList.isEmpty = false := by rw [str_nil]; simpa using hq2.1
        unfold ptr at *
        replace h1 := Lib.hid h1
        replace h2 := Lib.hid h2
        replace h3 := Lib.hid h3
        replace hR := Lib.hid hR
        replace hq2 := Lib.hid hq2
        clear h4 h5 h6 h7 h8 h9 h10 h11 hr hfi hpr hbt hrb hfo
        go_enter Tryz.func11, Tryz.ntmps11
        go_wp2_with fail
        (with_reducible refine (h1.out _).mono ?_)
        rintro e w1 ⟨rfl, hB1⟩
        have h2' := h2.out w1 (hR.out.below hB1)
        replace hB1 := Lib.hid hB1
        replace h2' := Lib.hid h2'
        go_wp2_with fail
        (with_reducible refine (h2'.out).mono ?_)
        rintro e w2 ⟨rfl, hB2⟩
        have hB02 := below_step hB1.out hB2
        have h3' := h3.out w2 (hR.out.below hB02)
        replace hB02 := Lib.hid hB02
        replace h3' := Lib.hid h3'
        clear hB1 hB2 h2' h1 h2
        go_wp2_with fail
        (with_reducible refine (h3'.out).mono ?_)
        rintro e w3 ⟨rfl, hB3⟩
        replace hB3 := Lib.hid hB3
        go_wp2
        go_ret2
        exact ⟨by rw [mkS_bl]; rfl, below_step hB02.out hB3.out⟩
      · rw [if_neg hq2]
        by_cases hfz : fz = false
        · subst hfz
          rw [if_pos rfl]
          by_cases hq0 : bl q = []
          · have hqe : q.toList.isEmpty = true := by rw [str_nil]; simpa using hq0
            unfold ptr at *
            replace h1 := Lib.hid h1
            replace h2 := Lib.hid h2
            replace h3 := Lib.hid h3
            replace hR := Lib.hid hR
            replace hq2 := Lib.hid hq2
            replace hq0 := Lib.hid hq0
            clear h4 h5 h6 h7 h8 h9 h10 h11 hr hfi hpr hbt hrb hfo
            go_enter Tryz.func11, Tryz.ntmps11
            go_wp2_with fail
            (with_reducible refine (h1.out _).mono ?_)
            rintro e w1 ⟨rfl, hB1⟩
            have h2' := h2.out w1 (hR.out.below hB1)
            replace hB1 := Lib.hid hB1
            replace h2' := Lib.hid h2'
            go_wp2_with fail
            (with_reducible refine (h2'.out).mono ?_)
            rintro e w2 ⟨rfl, hB2⟩
            have hB02 := below_step hB1.out hB2
            have h3' := h3.out w2 (hR.out.below hB02)
            replace hB02 := Lib.hid hB02
            replace h3' := Lib.hid h3'
            clear hB1 hB2 h2' h1 h2
            go_wp2
            go_ret2
            exact ⟨rfl, hB02.out⟩
          · have hqe : q.toList.isEmpty = false := by rw [str_nil]; simpa using hq0
            have hqf : T.isFile (bl q) = false := by
              cases hc : T.isFile (bl q) with
              | true => exact absurd ⟨hq0, hc⟩ hq2
              | false => rfl
            rw [hqf] at h3
            unfold ptr at *
            replace h1 := Lib.hid h1
            replace h2 := Lib.hid h2
            replace h3 := Lib.hid h3
            replace hR := Lib.hid hR
            replace hq2 := Lib.hid hq2
            replace hq0 := Lib.hid hq0
            replace hqf := Lib.hid hqf
            clear h4 h5 h6 h7 h8 h9 h10 h11 hr hfi hpr hbt hrb hfo
            go_enter Tryz.func11, Tryz.ntmps11
            go_wp2_with fail
            (with_reducible refine (h1.out _).mono ?_)
            rintro e w1 ⟨rfl, hB1⟩
            have h2' := h2.out w1 (hR.out.below hB1)
            replace hB1 := Lib.hid hB1
            replace h2' := Lib.hid h2'
            go_wp2_with fail
            (with_reducible refine (h2'.out).mono ?_)
            rintro e w2 ⟨rfl, hB2⟩
            have hB02 := below_step hB1.out hB2
            have h3' := h3.out w2 (hR.out.below hB02)
            replace hB02 := Lib.hid hB02
            replace h3' := Lib.hid h3'
            clear hB1 hB2 h2' h1 h2
            go_wp2_with fail
            (with_reducible refine (h3'.out).mono ?_)
            rintro e w3 ⟨rfl, hB3⟩
            replace hB3 := Lib.hid hB3
            go_wp2
            go_ret2
            exact ⟨rfl, below_step hB02.out hB3.out⟩
        · replace hfz : fz = true := by simpa using hfz
          subst hfz
          rw [if_neg (by simp)]
          generalize hL : T.paths = L at *
          by_cases hq0 : bl q = []
          · have hqe : q.toList.isEmpty = true := by rw [str_nil]; simpa using hq0
            unfold ptr at *
            replace h1 := Lib.hid h1
            replace h2 := Lib.hid h2
            replace h3 := Lib.hid h3
            replace h4 := Lib.hid h4
            replace h5 := Lib.hid h5
            replace h6 := Lib.hid h6
            replace h7 := Lib.hid h7
            replace h8 := Lib.hid h8
            replace h9 := Lib.hid h9
            replace h10 := Lib.hid h10
            replace h11 := Lib.hid h11
            replace hR := Lib.hid hR
            replace hq2 := Lib.hid hq2
            replace hq0 := Lib.hid hq0
            replace hpr := Lib.hid hpr
            replace hbt := Lib.hid hbt
            replace hI := Lib.hid hI
            replace hL := Lib.hid hL
            replace hfo := Lib.hid hfo
            clear hr hfi hrb
            go_enter Tryz.func11, Tryz.ntmps11
            go_wp2_with fail
            (with_reducible refine (h1.out _).mono ?_)
            rintro e w1 ⟨rfl, hB1⟩
            have h2' := h2.out w1 (hR.out.below hB1)
            replace hB1 := Lib.hid hB1
            replace h2' := Lib.hid h2'
            go_wp2_with fail
            (with_reducible refine (h2'.out).mono ?_)
            rintro e w2 ⟨rfl, hB2⟩
            have hB02 := below_step hB1.out hB2
            have h3' := h3.out w2 (hR.out.below hB02)
            replace hB02 := Lib.hid hB02
            replace h3' := Lib.hid h3'
            clear hB1 hB2 h2' h1 h2
            have h5' := h5.out w2 (hR.out.below hB02.out)
            replace h5' := Lib.hid h5'
            go_wp2_with fail
            (with_reducible refine (h5'.out).mono ?_)
            rintro e w4 ⟨⟨v, rfl, hS⟩, hB4⟩
            have hRd4 := hS.rd
            have h6' := h6.out w4 v hRd4
            obtain ⟨vA, vc, rfl, hv1, hv2⟩ := hRd4.shape
            have hB04 := below_step hB02.out hB4
            replace h6' := Lib.hid h6'
            replace hB04 := Lib.hid hB04
            clear hRd4 hv1 hv2 hS hB4 h5'
            go_wp2_with fail
            (with_reducible refine (h6'.out).mono ?_)
            rintro e w5 ⟨⟨v, rfl, hS⟩, hB5⟩
            have hRd := hS.rd
            obtain ⟨vA, vc, rfl, hv1, hv2⟩ := hRd.shape
            unfold maxLen at hv2
            have hB05 := below_step hB04.out hB5
            replace hRd := Lib.hid hRd
            replace hB05 := Lib.hid hB05
            replace hS := Lib.hid hS
            clear hB5 h6' hB04
            go_wp2_with fail
            go_loopw [10, 11, 13] (fun b s i wr => ∃ k : Nat, i = .int .i64 k ∧ k ≤ L.length ∧ b = .string (mkS (T.rbest (bl p) (L.take k)).1) ∧ s = .int .i64 (T.rbest (bl p) (L.take k)).2 ∧ Below w5.heap.size w5 wr) (fun _ _ i _ => L.length - (intOf i).toNat)
            case atStart => exact ⟨0, rfl, Nat.zero_le _, rfl, rfl, Below.refl _ _⟩
            case round =>
              obtain ⟨k, rfl, hk, rfl, rfl, hB⟩ := hrel
              by_cases hlt : k < L.length
              · obtain ⟨g, o, rfl, hck⟩ := (hRd.out.below hB).cell hlt
                have hb1 := hbt.out k hlt
                obtain ⟨hx1, hx2⟩ := hpr.out L[k] (List.getElem_mem hlt)
                have hxl := right_len hx1
                generalize L[k] = x at *
                generalize T.rbest (bl p) (L.take k) = bb at *
                obtain ⟨b1, b2⟩ := bb
                have hRr := hR.out.below (below_step hB05.out hB)
                have hgk := fun y : Gr wr => Gr.cell hck y
                have hxs := mkS_size x
                have hpx := fun W => h9.out (mkS x) W (by omega)
                have hbx := fun W => h10.out (mkS x) W (by omega)
                have hsc := fun W => h11.out W (base x)
                have hfl := fun W (hW : Below wr.heap.size wr W) => h8.out W (mkS x) (by omega) (hRr.below hW)
                rw [bl_mkS] at hpx hbx hfl
                unfold Fs.rbetter at hb1
                generalize scoreB (base x) (base (bl p)) = sc at *
                have hxe : (mkS x).toList.isEmpty = false := by rw [str_nil, bl_mkS]; simpa using hx2
                replace hRr := Lib.hid hRr
                replace hpx := Lib.hid hpx
                replace hbx := Lib.hid hbx
                replace hsc := Lib.hid hsc
                replace hfl := Lib.hid hfl
                replace hx1 := Lib.hid hx1
                replace hx2 := Lib.hid hx2
                replace hB := Lib.hid hB
                have hki : (k : Int) < (L.length : Int) := by omega
                by_cases hpp : parent x = parent (bl p)
                · have hp1 : (mkS (parent x)).toList = (mkS (parent (bl p))).toList := by rw [hpp]
                  have hp2 : ((mkS (parent x)).toList == (mkS (parent (bl p))).toList) = true := by simp [hp1]
                  cases hif : T.isFile x with
                  | false =>
                    rw [hif, if_neg (by simp)] at hb1
                    rw [hif] at hfl
                    replace hfl := Lib.hid hfl
                    replace hb1 := Lib.hid hb1
                    replace hpp := Lib.hid hpp
                    replace hif := Lib.hid hif
                    replace hfl := hfl.out
                    go_wp2_with fail
                    (with_reducible refine (hpx.out _).mono ?_)
                    rintro e w6 ⟨rfl, hB6⟩
                    replace hB6 := Lib.hid hB6
                    go_wp2_with fail
                    (with_reducible refine (h4.out _).mono ?_)
                    rintro e w7 ⟨rfl, hB7⟩
                    have hB67 := below_step hB6.out hB7
                    have hck7 := (hB67.cell (cell_lt hck)).trans hck
                    have hB07 := below_step hB.out hB67
                    have hfl7 := hfl.out _ hB67
                    replace hB67 := Lib.hid hB67
                    replace hB07 := Lib.hid hB07
                    replace hfl7 := Lib.hid hfl7
                    clear hB7 hB6
                    go_wp2_with fail
                    (with_reducible refine (hfl7.out).mono ?_)
                    rintro e w8 ⟨rfl, hB8⟩
                    have hB08 := below_step hB07.out hB8
                    replace hB08 := Lib.hid hB08
                    clear hB8
                    go_wp2
                    go_roundw
                    case rel => exact ⟨k + 1, by go_num, by omega, by rw [hb1.out], by rw [hb1.out], hB08.out⟩
                    case measure => simp [intOf]; omega
                  | true =>
                    rw [hif, hpp] at hb1
                    rw [hif] at hfl
                    replace hfl := Lib.hid hfl
                    replace hpp := Lib.hid hpp
                    replace hif := Lib.hid hif
                    replace hb1 := Lib.hid hb1
                    replace hfl := hfl.out
                    go_wp2_with fail
                    (with_reducible refine (hpx.out _).mono ?_)
                    rintro e w6 ⟨rfl, hB6⟩
                    replace hB6 := Lib.hid hB6
                    go_wp2_with fail
                    (with_reducible refine (h4.out _).mono ?_)
                    rintro e w7 ⟨rfl, hB7⟩
                    have hB67 := below_step hB6.out hB7
                    have hck7 := (hB67.cell (cell_lt hck)).trans hck
                    have hB07 := below_step hB.out hB67
                    have hfl7 := hfl.out _ hB67
                    replace hB67 := Lib.hid hB67
                    replace hB07 := Lib.hid hB07
                    replace hfl7 := Lib.hid hfl7
                    clear hB7 hB6
                    go_wp2_with fail
                    (with_reducible refine (hfl7.out).mono ?_)
                    rintro e w8 ⟨rfl, hB8⟩
                    have hB08 := below_step hB07.out hB8
                    have hck8 := (hB8.cell (cell_lt hck7)).trans hck7
                    replace hB08 := Lib.hid hB08
                    replace hB8 := Lib.hid hB8
                    go_wp2_with fail
                    (with_reducible refine (hbx.out _).mono ?_)
                    rintro e w9 ⟨rfl, hB9⟩
                    replace hB9 := Lib.hid hB9
                    go_wp2_with fail
                    (with_reducible refine (h7.out _).mono ?_)
                    rintro e w10 ⟨rfl, hB10⟩
                    replace hB10 := Lib.hid hB10
                    go_wp2_with fail
                    (with_reducible refine (hsc.out _).mono ?_)
                    rintro e w11 ⟨rfl, hB11⟩
                    have hB811 := below_step (below_step hB9.out hB10.out) hB11
                    have hck11 := (hB811.cell (cell_lt hck8)).trans hck8
                    have hB011 := below_step hB08.out hB811
                    replace hB011 := Lib.hid hB011
                    clear hB9 hB10 hB11 hB811
                    by_cases hgt : b2 < sc
                    · replace hb1 := hb1.out
                      rw [if_pos (by simpa using hgt)] at hb1
                      replace hb1 := Lib.hid hb1
                      go_wp2
                      go_roundw
                      case rel => exact ⟨k + 1, by go_num, by omega, by rw [hb1.out], by rw [hb1.out], hB011.out⟩
                      case measure => simp [intOf]; omega
                    · have hng : decide (b2 < sc) = false := by simpa using hgt
                      replace hb1 := hb1.out
                      rw [if_neg (by simpa using hgt)] at hb1
                      replace hb1 := Lib.hid hb1
                      replace hgt := Lib.hid hgt
                      go_wp2
                      go_roundw
                      case rel => exact ⟨k + 1, by go_num, by omega, by rw [hb1.out], by rw [hb1.out], hB011.out⟩
                      case measure => simp [intOf]; omega
                · have hp1 : ¬ (mkS (parent x)).toList = (mkS (parent (bl p))).toList := by rw [mkS_toList, mkS_toList]; exact hpp
                  have hp2 : ((mkS (parent x)).toList == (mkS (parent (bl p))).toList) = false := by simpa using hp1
                  rw [if_neg (fun h => hpp h.1)] at hb1
                  replace hb1 := Lib.hid hb1
                  replace hpp := Lib.hid hpp
                  go_wp2_with fail
                  (with_reducible refine (hpx.out _).mono ?_)
                  rintro e w6 ⟨rfl, hB6⟩
                  replace hB6 := Lib.hid hB6
                  go_wp2_with fail
                  (with_reducible refine (h4.out _).mono ?_)
                  rintro e w7 ⟨rfl, hB7⟩
                  have hB67 := below_step hB6.out hB7
                  have hck7 := (hB67.cell (cell_lt hck)).trans hck
                  have hB07 := below_step hB.out hB67
                  have hfl7 := hfl.out _ hB67
                  replace hB67 := Lib.hid hB67
                  replace hB07 := Lib.hid hB07
                  replace hfl7 := Lib.hid hfl7
                  clear hB7 hB6
                  go_wp2
                  go_roundw
                  case rel => exact ⟨k + 1, by go_num, by omega, by rw [hb1.out], by rw [hb1.out], hB07.out⟩
                  case measure => simp [intOf]; omega
              · obtain rfl : k = L.length := by omega
                rw [List.take_length] at *
                have hfo := hfo.out
                generalize hbb : T.rbest (bl p) L = bb at *
                obtain ⟨b1, b2⟩ := bb
                dsimp only at *
                by_cases hb0 : b1 = []
                · have hbe : (mkS b1).toList.isEmpty = true := by rw [str_nil, bl_mkS]; simpa using hb0
                  have hlo : decide (500 ≤ b2) = false := by
                    rw [decide_eq_false_iff_not]
                    exact fun h => hfo.2 h hb0
                  replace hB := Lib.hid hB
                  replace hbb := Lib.hid hbb
                  replace hfo := Lib.hid hfo
                  replace hb0 := Lib.hid hb0
                  replace hlo := Lib.hid hlo
                  go_wp2
                  go_ret2
                  rw [hbb.out]
                  dsimp only
                  rw [hlo.out]
                  exact ⟨rfl, below_step hB05.out hB.out⟩
                · have hbe : (mkS b1).toList.isEmpty = false := by rw [str_nil, bl_mkS]; simpa using hb0
                  have hlo : decide (500 ≤ b2) = true := by
                    rw [decide_eq_true_eq]
                    exact hfo.1 hb0
                  replace hB := Lib.hid hB
                  replace hbb := Lib.hid hbb
                  replace hfo := Lib.hid hfo
                  replace hb0 := Lib.hid hb0
                  replace hlo := Lib.hid hlo
                  go_wp2
                  go_ret2
                  rw [hbb.out]
                  dsimp only
                  rw [hlo.out]
                  exact ⟨rfl, below_step hB05.out hB.out⟩
          · have hqe : q.toList.isEmpty = false := by rw [str_nil]; simpa using hq0
            have hqf : T.isFile (bl q) = false := by
              cases hc : T.isFile (bl q) with
              | true => exact absurd ⟨hq0, hc⟩ hq2
              | false => rfl
            rw [hqf] at h3
            unfold ptr at *
            replace h1 := Lib.hid h1
            replace h2 := Lib.hid h2
            replace h3 := Lib.hid h3
            replace h4 := Lib.hid h4
            replace h5 := Lib.hid h5
            replace h6 := Lib.hid h6
            replace h7 := Lib.hid h7
            replace h8 := Lib.hid h8
            replace h9 := Lib.hid h9
            replace h10 := Lib.hid h10
            replace h11 := Lib.hid h11
            replace hR := Lib.hid hR
            replace hq2 := Lib.hid hq2
            replace hq0 := Lib.hid hq0
            replace hqf := Lib.hid hqf
            replace hpr := Lib.hid hpr
            replace hbt := Lib.hid hbt
            replace hI := Lib.hid hI
            replace hL := Lib.hid hL
            replace hfo := Lib.hid hfo
            clear hr hfi hrb
            go_enter Tryz.func11, Tryz.ntmps11
            go_wp2_with fail
            (with_reducible refine (h1.out _).mono ?_)
            rintro e w1 ⟨rfl, hB1⟩
            have h2' := h2.out w1 (hR.out.below hB1)
            replace hB1 := Lib.hid hB1
            replace h2' := Lib.hid h2'
            go_wp2_with fail
            (with_reducible refine (h2'.out).mono ?_)
            rintro e w2 ⟨rfl, hB2⟩
            have hB02 := below_step hB1.out hB2
            have h3' := h3.out w2 (hR.out.below hB02)
            replace hB02 := Lib.hid hB02
            replace h3' := Lib.hid h3'
            clear hB1 hB2 h2' h1 h2
            go_wp2_with fail
            (with_reducible refine (h3'.out).mono ?_)
            rintro e w3 ⟨rfl, hB3⟩
            have hB03 := below_step hB02.out hB3
            replace hB03 := Lib.hid hB03
            clear hB02 hB3 h3'
            have h5' := h5.out w3 (hR.out.below hB03.out)
            replace h5' := Lib.hid h5'
            go_wp2_with fail
            (with_reducible refine (h5'.out).mono ?_)
            rintro e w4 ⟨⟨v, rfl, hS⟩, hB4⟩
            have hRd4 := hS.rd
            have h6' := h6.out w4 v hRd4
            obtain ⟨vA, vc, rfl, hv1, hv2⟩ := hRd4.shape
            have hB04 := below_step hB03.out hB4
            replace h6' := Lib.hid h6'
            replace hB04 := Lib.hid hB04
            clear hRd4 hv1 hv2 hS hB4 h5'
            go_wp2_with fail
            (with_reducible refine (h6'.out).mono ?_)
            rintro e w5 ⟨⟨v, rfl, hS⟩, hB5⟩
            have hRd := hS.rd
            obtain ⟨vA, vc, rfl, hv1, hv2⟩ := hRd.shape
            unfold maxLen at hv2
            have hB05 := below_step hB04.out hB5
            replace hRd := Lib.hid hRd
            replace hB05 := Lib.hid hB05
            replace hS := Lib.hid hS
            clear hB5 h6' hB04
            go_wp2_with fail
            go_loopw [10, 11, 13] (fun b s i wr => ∃ k : Nat, i = .int .i64 k ∧ k ≤ L.length ∧ b = .string (mkS (T.rbest (bl p) (L.take k)).1) ∧ s = .int .i64 (T.rbest (bl p) (L.take k)).2 ∧ Below w5.heap.size w5 wr) (fun _ _ i _ => L.length - (intOf i).toNat)
            case atStart => exact ⟨0, rfl, Nat.zero_le _, rfl, rfl, Below.refl _ _⟩
            case round =>
              obtain ⟨k, rfl, hk, rfl, rfl, hB⟩ := hrel
              by_cases hlt : k < L.length
              · obtain ⟨g, o, rfl, hck⟩ := (hRd.out.below hB).cell hlt
                have hb1 := hbt.out k hlt
                obtain ⟨hx1, hx2⟩ := hpr.out L[k] (List.getElem_mem hlt)
                have hxl := right_len hx1
                generalize L[k] = x at *
                generalize T.rbest (bl p) (L.take k) = bb at *
                obtain ⟨b1, b2⟩ := bb
                have hRr := hR.out.below (below_step hB05.out hB)
                have hgk := fun y : Gr wr => Gr.cell hck y
                have hxs := mkS_size x
                have hpx := fun W => h9.out (mkS x) W (by omega)
                have hbx := fun W => h10.out (mkS x) W (by omega)
                have hsc := fun W => h11.out W (base x)
                have hfl := fun W (hW : Below wr.heap.size wr W) => h8.out W (mkS x) (by omega) (hRr.below hW)
                rw [bl_mkS] at hpx hbx hfl
                unfold Fs.rbetter at hb1
                generalize scoreB (base x) (base (bl p)) = sc at *
                have hxe : (mkS x).toList.isEmpty = false := by rw [str_nil, bl_mkS]; simpa using hx2
                replace hRr := Lib.hid hRr
                replace hpx := Lib.hid hpx
                replace hbx := Lib.hid hbx
                replace hsc := Lib.hid hsc
                replace hfl := Lib.hid hfl
                replace hx1 := Lib.hid hx1
                replace hx2 := Lib.hid hx2
                replace hB := Lib.hid hB
                have hki : (k : Int) < (L.length : Int) := by omega
                by_cases hpp : parent x = parent (bl p)
                · have hp1 : (mkS (parent x)).toList = (mkS (parent (bl p))).toList := by rw [hpp]
                  have hp2 : ((mkS (parent x)).toList == (mkS (parent (bl p))).toList) = true := by simp [hp1]
                  cases hif : T.isFile x with
                  | false =>
                    rw [hif, if_neg (by simp)] at hb1
                    rw [hif] at hfl
                    replace hfl := Lib.hid hfl
                    replace hb1 := Lib.hid hb1
                    replace hpp := Lib.hid hpp
                    replace hif := Lib.hid hif
                    replace hfl := hfl.out
                    go_wp2_with fail
                    (with_reducible refine (hpx.out _).mono ?_)
                    rintro e w6 ⟨rfl, hB6⟩
                    replace hB6 := Lib.hid hB6
                    go_wp2_with fail
                    (with_reducible refine (h4.out _).mono ?_)
                    rintro e w7 ⟨rfl, hB7⟩
                    have hB67 := below_step hB6.out hB7
                    have hck7 := (hB67.cell (cell_lt hck)).trans hck
                    have hB07 := below_step hB.out hB67
                    have hfl7 := hfl.out _ hB67
                    replace hB67 := Lib.hid hB67
                    replace hB07 := Lib.hid hB07
                    replace hfl7 := Lib.hid hfl7
                    clear hB7 hB6
                    go_wp2_with fail
                    (with_reducible refine (hfl7.out).mono ?_)
                    rintro e w8 ⟨rfl, hB8⟩
                    have hB08 := below_step hB07.out hB8
                    replace hB08 := Lib.hid hB08
                    clear hB8
                    go_wp2
                    go_roundw
                    case rel => exact ⟨k + 1, by go_num, by omega, by rw [hb1.out], by rw [hb1.out], hB08.out⟩
                    case measure => simp [intOf]; omega
                  | true =>
                    rw [hif, hpp] at hb1
                    rw [hif] at hfl
                    replace hfl := Lib.hid hfl
                    replace hpp := Lib.hid hpp
                    replace hif := Lib.hid hif
                    replace hb1 := Lib.hid hb1
                    replace hfl := hfl.out
                    go_wp2_with fail
                    (with_reducible refine (hpx.out _).mono ?_)
                    rintro e w6 ⟨rfl, hB6⟩
                    replace hB6 := Lib.hid hB6
                    go_wp2_with fail
                    (with_reducible refine (h4.out _).mono ?_)
                    rintro e w7 ⟨rfl, hB7⟩
                    have hB67 := below_step hB6.out hB7
                    have hck7 := (hB67.cell (cell_lt hck)).trans hck
                    have hB07 := below_step hB.out hB67
                    have hfl7 := hfl.out _ hB67
                    replace hB67 := Lib.hid hB67
                    replace hB07 := Lib.hid hB07
                    replace hfl7 := Lib.hid hfl7
                    clear hB7 hB6
                    go_wp2_with fail
                    (with_reducible refine (hfl7.out).mono ?_)
                    rintro e w8 ⟨rfl, hB8⟩
                    have hB08 := below_step hB07.out hB8
                    have hck8 := (hB8.cell (cell_lt hck7)).trans hck7
                    replace hB08 := Lib.hid hB08
                    replace hB8 := Lib.hid hB8
                    go_wp2_with fail
                    (with_reducible refine (hbx.out _).mono ?_)
                    rintro e w9 ⟨rfl, hB9⟩
                    replace hB9 := Lib.hid hB9
                    go_wp2_with fail
                    (with_reducible refine (h7.out _).mono ?_)
                    rintro e w10 ⟨rfl, hB10⟩
                    replace hB10 := Lib.hid hB10
                    go_wp2_with fail
                    (with_reducible refine (hsc.out _).mono ?_)
                    rintro e w11 ⟨rfl, hB11⟩
                    have hB811 := below_step (below_step hB9.out hB10.out) hB11
                    have hck11 := (hB811.cell (cell_lt hck8)).trans hck8
                    have hB011 := below_step hB08.out hB811
                    replace hB011 := Lib.hid hB011
                    clear hB9 hB10 hB11 hB811
                    by_cases hgt : b2 < sc
                    · replace hb1 := hb1.out
                      rw [if_pos (by simpa using hgt)] at hb1
                      replace hb1 := Lib.hid hb1
                      go_wp2
                      go_roundw
                      case rel => exact ⟨k + 1, by go_num, by omega, by rw [hb1.out], by rw [hb1.out], hB011.out⟩
                      case measure => simp [intOf]; omega
                    · have hng : decide (b2 < sc) = false := by simpa using hgt
                      replace hb1 := hb1.out
                      rw [if_neg (by simpa using hgt)] at hb1
                      replace hb1 := Lib.hid hb1
                      replace hgt := Lib.hid hgt
                      go_wp2
                      go_roundw
                      case rel => exact ⟨k + 1, by go_num, by omega, by rw [hb1.out], by rw [hb1.out], hB011.out⟩
                      case measure => simp [intOf]; omega
                · have hp1 : ¬ (mkS (parent x)).toList = (mkS (parent (bl p))).toList := by rw [mkS_toList, mkS_toList]; exact hpp
                  have hp2 : ((mkS (parent x)).toList == (mkS (parent (bl p))).toList) = false := by simpa using hp1
                  rw [if_neg (fun h => hpp h.1)] at hb1
                  replace hb1 := Lib.hid hb1
                  replace hpp := Lib.hid hpp
                  go_wp2_with fail
                  (with_reducible refine (hpx.out _).mono ?_)
                  rintro e w6 ⟨rfl, hB6⟩
                  replace hB6 := Lib.hid hB6
                  go_wp2_with fail
                  (with_reducible refine (h4.out _).mono ?_)
                  rintro e w7 ⟨rfl, hB7⟩
                  have hB67 := below_step hB6.out hB7
                  have hck7 := (hB67.cell (cell_lt hck)).trans hck
                  have hB07 := below_step hB.out hB67
                  have hfl7 := hfl.out _ hB67
                  replace hB67 := Lib.hid hB67
                  replace hB07 := Lib.hid hB07
                  replace hfl7 := Lib.hid hfl7
                  clear hB7 hB6
                  go_wp2
                  go_roundw
                  case rel => exact ⟨k + 1, by go_num, by omega, by rw [hb1.out], by rw [hb1.out], hB07.out⟩
                  case measure => simp [intOf]; omega
              · obtain rfl : k = L.length := by omega
                rw [List.take_length] at *
                have hfo := hfo.out
                generalize hbb : T.rbest (bl p) L = bb at *
                obtain ⟨b1, b2⟩ := bb
                dsimp only at *
                by_cases hb0 : b1 = []
                · have hbe : (mkS b1).toList.isEmpty = true := by rw [str_nil, bl_mkS]; simpa using hb0
                  have hlo : decide (500 ≤ b2) = false := by
                    rw [decide_eq_false_iff_not]
                    exact fun h => hfo.2 h hb0
                  replace hB := Lib.hid hB
                  replace hbb := Lib.hid hbb
                  replace hfo := Lib.hid hfo
                  replace hb0 := Lib.hid hb0
                  replace hlo := Lib.hid hlo
                  go_wp2
                  go_ret2
                  rw [hbb.out]
                  dsimp only
                  rw [hlo.out]
                  exact ⟨rfl, below_step hB05.out hB.out⟩
                · have hbe : (mkS b1).toList.isEmpty = false := by rw [str_nil, bl_mkS]; simpa using hb0
                  have hlo : decide (500 ≤ b2) = true := by
                    rw [decide_eq_true_eq]
                    exact hfo.1 hb0
                  replace hB := Lib.hid hB
                  replace hbb := Lib.hid hbb
                  replace hfo := Lib.hid hfo
                  replace hb0 := Lib.hid hb0
                  replace hlo := Lib.hid hlo
                  go_wp2
                  go_ret2
                  rw [hbb.out]
                  dsimp only
                  rw [hlo.out]
                  exact ⟨rfl, below_step hB05.out hB.out⟩
  · replace hr : right (bl p) = false := by simpa using hr
    rw [hr] at h1
    rw [if_pos hr]
    unfold ptr at *
    replace h1 := Lib.hid h1
    replace hR := Lib.hid hR
    clear h2 h3 h4 h5 h6 h7 h8 h9 h10 h11 hr hpr hbt
    go_enter Tryz.func11, Tryz.ntmps11
    go_wp2_with fail
    (with_reducible refine (h1.out _).mono ?_)
    rintro e w1 ⟨rfl, hB1⟩
    replace hB1 := Lib.hid hB1
    go_wp2
    go_ret2
    exact ⟨rfl, hB1.out⟩

end Go.Proofs.YtemdinjiplglgaaGreat

namespace Go.Proofs.YtemdinjiplglgaaGreat
open Go.RowKit

set_option maxRecDepth 100000 in
theorem stat_nil (s : ByteArray) (w : World) :
    Calls Tryz.prog 24 #[.pointer none, .string s] w fun e w' => e = .returned (.tuple #[(.agg #[.int .i64 0, .int .i64 0, .int .i64 0, .int .i64 0, .int .i64 0, .int .i64 0, .int .i64 0, .int .i64 0, .int .i64 0, .string ⟨#[]⟩]), .int .i64 1]) ∧ Below w.heap.size w w' := by
  have h := fun W => there_nil s W
  replace h := Lib.hid h
  go_enter Tryz.func24, Tryz.ntmps24
  go_wp2_with fail
  (with_reducible refine (h.out _).mono ?_)
  rintro e w1 ⟨rfl, rfl⟩
  go_wp2
  refine bodyPost_ret (v := .tuple #[(.agg #[.int .i64 0, .int .i64 0, .int .i64 0, .int .i64 0, .int .i64 0, .int .i64 0, .int .i64 0, .int .i64 0, .int .i64 0, .string ⟨#[]⟩]), .int .i64 1]) ?_ rfl ⟨rfl, ?_⟩
  · rw [results_cell_tmp rfl]
    go_simp
  · exact below_alloc (Below.refl _ _) _

set_option maxRecDepth 100000 in
theorem read_nil (s : ByteArray) (w : World) :
    Calls Tryz.prog 25 #[.pointer none, .string s] w fun e w' => e = .returned (.tuple #[.slice none 0 0, .int .i64 1]) ∧ w = w' := by
  have h := fun W => there_nil s W
  replace h := Lib.hid h
  go_enter Tryz.func25, Tryz.ntmps25
  go_wp2_with fail
  (with_reducible refine (h.out _).mono ?_)
  rintro e w1 ⟨rfl, rfl⟩
  go_wp2
  go_ret2
  exact ⟨rfl, rfl⟩

set_option maxRecDepth 100000 in
theorem list_nil (s : ByteArray) (w : World) :
    Calls Tryz.prog 26 #[.pointer none, .string s] w fun e w' => e = .returned (.tuple #[.slice none 0 0, .int .i64 1]) ∧ w = w' := by
  have h := fun W => there_nil s W
  replace h := Lib.hid h
  go_enter Tryz.func26, Tryz.ntmps26
  go_wp2_with fail
  (with_reducible refine (h.out _).mono ?_)
  rintro e w1 ⟨rfl, rfl⟩
  go_wp2
  go_ret2
  exact ⟨rfl, rfl⟩

set_option maxRecDepth 100000 in
theorem names_nil (s : ByteArray) (w : World) :
    Calls Tryz.prog 28 #[.pointer none, .string s] w fun e w' => e = .returned (.slice none 0 0) ∧ Below w.heap.size w w' := by
  have h := fun W => there_nil s W
  replace h := Lib.hid h
  go_enter Tryz.func28, Tryz.ntmps28
  go_wp2_with fail
  (with_reducible refine (h.out _).mono ?_)
  rintro e w1 ⟨rfl, rfl⟩
  go_upto_region 2 with fail
  go_quiet (fail)
  go_wp2
  go_ret
  exact ⟨rfl, below_drewN (below_alloc (Below.refl _ _) _) _⟩

set_option maxRecDepth 100000 in
theorem paths_nil (w : World) :
    Calls Tryz.prog 23 #[.pointer none] w fun e w' => e = .returned (.slice none 0 0) ∧ w = w' := by
  go_enter Tryz.func23, Tryz.ntmps23
  go_wp2
  go_ret
  exact ⟨rfl, rfl⟩

set_option maxRecDepth 100000 in
theorem count_nil (w : World) :
    Calls Tryz.prog 18 #[.pointer none] w fun e w' => e = .returned (.int .i64 0) ∧ Below w.heap.size w w' := by
  go_enter Tryz.func18, Tryz.ntmps18
  go_wp2
  go_ret
  exact ⟨rfl, below_alloc (Below.refl _ _) _⟩

set_option maxRecDepth 100000 in
theorem same_nils (w : World) :
    Calls Tryz.prog 29 #[.pointer none, .pointer none] w fun e w' => e = .returned (.bool true) ∧ w = w' := by
  go_enter Tryz.func29, Tryz.ntmps29
  go_wp2
  go_ret
  exact ⟨rfl, rfl⟩

set_option maxRecDepth 100000 in
theorem same_nil_l (tb : Nat) (w : World) :
    Calls Tryz.prog 29 #[.pointer none, ptr tb] w fun e w' => e = .returned (.bool false) ∧ w = w' := by
  have hp := fun W : World => run_eql_nil_ptr (P := Tryz.prog) W ⟨tb, 0, none⟩ Tryz.underlying28
  unfold ptr
  go_enter Tryz.func29, Tryz.ntmps29
  go_wp2
  go_ret
  exact ⟨rfl, rfl⟩

set_option maxRecDepth 100000 in
theorem same_nil_r (tb : Nat) (w : World) :
    Calls Tryz.prog 29 #[ptr tb, .pointer none] w fun e w' => e = .returned (.bool false) ∧ w = w' := by

  unfold ptr
  go_enter Tryz.func29, Tryz.ntmps29
  go_wp2
  go_ret
  exact ⟨rfl, rfl⟩

set_option maxRecDepth 100000 in
theorem mkdir_nil (s : ByteArray) (m1 m2 m3 m4 m5 : Int) (w : World) :
    Calls Tryz.prog 48 #[.pointer none, .string s, (.agg #[.int .i64 m1, .int .i64 m2, .int .i64 m3, .int .i64 m4, .int .i64 m5])] w fun e w' => e = .returned (.int .i64 1) ∧ Below w.heap.size w w' := by
  have h := fun W => may_nil s ⟨m1, m2, m3, m4, m5⟩ W
  unfold mtV mtCells at h
  replace h := Lib.hid h
  go_enter Tryz.func48, Tryz.ntmps48
  go_wp2_with fail
  (with_reducible refine (h.out _).mono ?_)
  rintro e w1 ⟨rfl, hB⟩
  replace hB := Lib.hid hB
  go_wp2
  go_ret
  exact ⟨rfl, below_step (below_alloc (Below.refl _ _) _) hB.out⟩
set_option maxRecDepth 100000 in
theorem symlink_nil (s t : ByteArray) (m1 m2 m3 m4 m5 : Int) (w : World) :
    Calls Tryz.prog 49 #[.pointer none, .string s, .string t, (.agg #[.int .i64 m1, .int .i64 m2, .int .i64 m3, .int .i64 m4, .int .i64 m5])] w fun e w' => e = .returned (.int .i64 1) ∧ Below w.heap.size w w' := by
  have h := fun W => may_nil s ⟨m1, m2, m3, m4, m5⟩ W
  unfold mtV mtCells at h
  replace h := Lib.hid h
  go_enter Tryz.func49, Tryz.ntmps49
  go_wp2_with fail
  (with_reducible refine (h.out _).mono ?_)
  rintro e w1 ⟨rfl, hB⟩
  replace hB := Lib.hid hB
  go_wp2
  go_ret
  exact ⟨rfl, below_step (below_alloc (Below.refl _ _) _) hB.out⟩
set_option maxRecDepth 100000 in
theorem write_nil (s : ByteArray) (m1 m2 m3 m4 m5 : Int) (w : World) :
    Calls Tryz.prog 45 #[.pointer none, .string s, .slice none 0 0, (.agg #[.int .i64 m1, .int .i64 m2, .int .i64 m3, .int .i64 m4, .int .i64 m5])] w fun e w' => e = .returned (.int .i64 1) ∧ Below w.heap.size w w' := by
  have h := fun W => may_nil s ⟨m1, m2, m3, m4, m5⟩ W
  unfold mtV mtCells at h
  replace h := Lib.hid h
  go_enter Tryz.func45, Tryz.ntmps45
  go_wp2_with fail
  (with_reducible refine (h.out _).mono ?_)
  rintro e w1 ⟨rfl, hB⟩
  replace hB := Lib.hid hB
  go_wp2
  go_ret
  exact ⟨rfl, below_step (below_alloc (Below.refl _ _) _) hB.out⟩
set_option maxRecDepth 100000 in
theorem set_nil (s : ByteArray) (m1 m2 m3 m4 m5 : Int) (w : World) :
    Calls Tryz.prog 51 #[.pointer none, .string s, (.agg #[.int .i64 m1, .int .i64 m2, .int .i64 m3, .int .i64 m4, .int .i64 m5])] w fun e w' => e = .returned (.int .i64 1) ∧ Below w.heap.size w w' := by
  have h := fun W => may_nil s ⟨m1, m2, m3, m4, m5⟩ W
  unfold mtV mtCells at h
  replace h := Lib.hid h
  go_enter Tryz.func51, Tryz.ntmps51
  go_wp2_with fail
  (with_reducible refine (h.out _).mono ?_)
  rintro e w1 ⟨rfl, hB⟩
  replace hB := Lib.hid hB
  go_wp2
  go_ret
  exact ⟨rfl, below_step (below_alloc (Below.refl _ _) _) hB.out⟩
set_option maxRecDepth 100000 in
theorem append_nil (s : ByteArray) (w : World) :
    Calls Tryz.prog 52 #[.pointer none, .string s, .slice none 0 0] w fun e w' => e = .returned (.int .i64 1) ∧ w = w' := by
  have h := fun W => there_nil s W
  replace h := Lib.hid h
  go_enter Tryz.func52, Tryz.ntmps52
  go_wp2_with fail
  (with_reducible refine (h.out _).mono ?_)
  rintro e w1 ⟨rfl, rfl⟩
  go_wp2
  go_ret
  exact ⟨rfl, rfl⟩
set_option maxRecDepth 100000 in
theorem link_nil (s t : ByteArray) (w : World) :
    Calls Tryz.prog 46 #[.pointer none, .string s, .string t] w fun e w' => e = .returned (.int .i64 1) ∧ w = w' := by
  go_enter Tryz.func46, Tryz.ntmps46
  go_wp2
  go_ret
  exact ⟨rfl, rfl⟩
set_option maxRecDepth 100000 in
theorem remove_nil (s : ByteArray) (w : World) :
    Calls Tryz.prog 50 #[.pointer none, .string s] w fun e w' => e = .returned (.int .i64 1) ∧ w = w' := by
  go_enter Tryz.func50, Tryz.ntmps50
  go_wp2
  go_ret
  exact ⟨rfl, rfl⟩
set_option maxRecDepth 100000 in
theorem rename_nil (s t : ByteArray) (w : World) :
    Calls Tryz.prog 47 #[.pointer none, .string s, .string t] w fun e w' => e = .returned (.int .i64 1) ∧ w = w' := by
  go_enter Tryz.func47, Tryz.ntmps47
  go_wp2
  go_ret
  exact ⟨rfl, rfl⟩

set_option maxHeartbeats 2000000 in
set_option maxRecDepth 100000 in
theorem do_nil (d : Int) (h0 : 0 ≤ d) (h8 : d < 8) (s t : ByteArray) (w : World) :
    Calls Tryz.prog 16 #[.pointer none, (.agg #[.int .i64 d, .string s, .string t, .slice none 0 0, .int .i64 0, .int .i64 0, .int .i64 0, .int .i64 0, .int .i64 0])] w fun e w' => e = .returned (.int .i64 1) ∧ Below w.heap.size w w' := by
  have q0 := fun W => mkdir_nil s 0 0 0 0 0 W
  have q1 := fun W => write_nil s 0 0 0 0 0 W
  have q2 := fun W => symlink_nil s t 0 0 0 0 0 W
  have q3 := fun W => link_nil s t W
  have q4 := fun W => remove_nil s W
  have q5 := fun W => rename_nil s t W
  have q6 := fun W => set_nil s 0 0 0 0 0 W
  have q7 := fun W => append_nil s W
  replace q0 := Lib.hid q0
  replace q1 := Lib.hid q1
  replace q2 := Lib.hid q2
  replace q3 := Lib.hid q3
  replace q4 := Lib.hid q4
  replace q5 := Lib.hid q5
  replace q6 := Lib.hid q6
  replace q7 := Lib.hid q7
  have hd : d = 0 ∨ d = 1 ∨ d = 2 ∨ d = 3 ∨ d = 4 ∨ d = 5 ∨ d = 6 ∨ d = 7 := by omega
  clear h0 h8
  rcases hd with rfl | rfl | rfl | rfl | rfl | rfl | rfl | rfl
  · go_enter Tryz.func16, Tryz.ntmps16
    go_wp2_with fail
    (with_reducible refine (q0.out _).mono ?_)
    rintro e w1 ⟨rfl, hB⟩
    replace hB := Lib.hid hB
    go_wp2
    go_ret
    exact ⟨rfl, below_step (below_alloc (Below.refl _ _) _) hB.out⟩
  · go_enter Tryz.func16, Tryz.ntmps16
    go_wp2_with fail
    (with_reducible refine (q1.out _).mono ?_)
    rintro e w1 ⟨rfl, hB⟩
    replace hB := Lib.hid hB
    go_wp2
    go_ret
    exact ⟨rfl, below_step (below_alloc (Below.refl _ _) _) hB.out⟩
  · go_enter Tryz.func16, Tryz.ntmps16
    go_wp2_with fail
    (with_reducible refine (q2.out _).mono ?_)
    rintro e w1 ⟨rfl, hB⟩
    replace hB := Lib.hid hB
    go_wp2
    go_ret
    exact ⟨rfl, below_step (below_alloc (Below.refl _ _) _) hB.out⟩
  · go_enter Tryz.func16, Tryz.ntmps16
    go_wp2_with fail
    (with_reducible refine (q3.out _).mono ?_)
    rintro e w1 ⟨rfl, rfl⟩
    go_wp2
    go_ret
    exact ⟨rfl, below_alloc (Below.refl _ _) _⟩
  · go_enter Tryz.func16, Tryz.ntmps16
    go_wp2_with fail
    (with_reducible refine (q4.out _).mono ?_)
    rintro e w1 ⟨rfl, rfl⟩
    go_wp2
    go_ret
    exact ⟨rfl, below_alloc (Below.refl _ _) _⟩
  · go_enter Tryz.func16, Tryz.ntmps16
    go_wp2_with fail
    (with_reducible refine (q5.out _).mono ?_)
    rintro e w1 ⟨rfl, rfl⟩
    go_wp2
    go_ret
    exact ⟨rfl, below_alloc (Below.refl _ _) _⟩
  · go_enter Tryz.func16, Tryz.ntmps16
    go_wp2_with fail
    (with_reducible refine (q6.out _).mono ?_)
    rintro e w1 ⟨rfl, hB⟩
    replace hB := Lib.hid hB
    go_wp2
    go_ret
    exact ⟨rfl, below_step (below_alloc (Below.refl _ _) _) hB.out⟩
  · go_enter Tryz.func16, Tryz.ntmps16
    go_wp2_with fail
    (with_reducible refine (q7.out _).mono ?_)
    rintro e w1 ⟨rfl, rfl⟩
    go_wp2
    go_ret
    exact ⟨rfl, below_alloc (Below.refl _ _) _⟩

end Go.Proofs.YtemdinjiplglgaaGreat

namespace Go.Proofs.YtemdinjiplglgaaGreat
open Go.RowKit

theorem stp_turn {w w' : World} {tb : Nat} {A M : Nat → Nat} {T T' : Fs} (h : Stp w w' tb A M T T') : Turn w w' (Own tb A M T) := by
  obtain ⟨_, _, _, t, _⟩ := h
  exact t
theorem start_build : Fs.build ([] : List Act17) = Fs.start := rfl

theorem rstp_turn {w w' : World} {rb : Nat} {v : Value} {A : Nat → Nat} {T T' : Fs} (h : RStp w w' rb v A T T') : Turn w w' (ROwn rb v A T) := by
  obtain ⟨_, _, _, t, _⟩ := h
  exact t
theorem below_top_len {T : Fs} (hI : T.Inv) : ((T.below []).length : Int) = (T.names.length : Int) - 1 := by
  obtain ⟨r, hr⟩ := hI.top
  have h1 := paths_rest hI hr
  have h2 := paths_len T
  rw [h1, (sortP_perm _).length_eq, List.length_map] at h2
  rw [hr, List.length_cons]
  omega
theorem count_same (tb : Nat) (A M : Nat → Nat) (T : Fs) (w : World) (hR : Rep w tb A M T) (hf : T.names.length ≤ 1000000) :
    Calls Tryz.prog 18 #[ptr tb] w fun e w' => e = .returned (.int .i64 ((T.names.length : Int) - 1)) ∧ Below w.heap.size w w' := by
  have h := count_calls tb A M T w hR hf
  rw [below_top_len hR.inv] at h
  exact h

end Go.Proofs.YtemdinjiplglgaaGreat

namespace Go.Proofs.YtemdinjiplglgaaGreat

theorem pth_glue {p q : Pt} (hp : Pth p) (hq : Pth q) (h : glue p = glue q) : p = q := by
  rw [← hp.text.2, ← hq.text.2, h]

section
variable {T U : Fs}

theorem same_paths (hT : T.Inv) (hU : U.Inv) (h : SameFs T U) : T.paths = U.paths := by
  have hm : ∀ s, s ∈ T.paths ↔ s ∈ U.paths := fun s => by
    rw [mem_paths hT, mem_paths hU]
    constructor
    · rintro ⟨h1, h2, i, h3⟩
      obtain ⟨j, hj⟩ := h.there _ _ h3
      exact ⟨h1, h2, j, hj⟩
    · rintro ⟨h1, h2, j, h3⟩
      obtain ⟨i, hi⟩ := h.back _ _ h3
      exact ⟨h1, h2, i, hi⟩
  exact sorted_unique ((List.perm_ext_iff_of_nodup (paths_nodup hT) (paths_nodup hU)).2 hm) (sortP_sorted _) (sortP_sorted _)

theorem mem_nmL (hI : T.Inv) {i : Nat} {p : Pt} (hp : Pth p) : glue p ∈ nmL T.names i ↔ (p, i) ∈ T.names := by
  unfold nmL
  constructor
  · intro h
    obtain ⟨⟨q, k⟩, hx, he⟩ := List.mem_map.1 h
    obtain ⟨h1, h2⟩ := List.mem_filter.1 hx
    have h3 : k = i := by simpa using h2
    have h4 := pth_glue (hI.pth _ _ h1) hp he
    rw [← h3, ← h4]
    exact h1
  · intro h
    exact List.mem_map.2 ⟨(p, i), List.mem_filter.2 ⟨h, by simp⟩, rfl⟩

theorem nmL_nodup (hI : T.Inv) (i : Nat) : (nmL T.names i).Nodup := by
  unfold nmL List.Nodup
  rw [List.pairwise_map]
  have h0 : T.names.Pairwise fun a b => a.1 ≠ b.1 := by
    have := hI.nodup
    unfold List.Nodup at this
    rwa [List.pairwise_map] at this
  refine List.Pairwise.imp_of_mem ?_ (List.Pairwise.filter _ h0)
  intro a b ha hb hne e
  exact hne (pth_glue (hI.pth a.1 a.2 (List.mem_filter.1 ha).1) (hI.pth b.1 b.2 (List.mem_filter.1 hb).1) e)

theorem same_names (hT : T.Inv) (hU : U.Inv) (h : SameFs T U) {s : Bytes} {i j : Nat} (hr : right s = true) (hs : s ≠ []) (hi : (split s, i) ∈ T.names) (hj : (split s, j) ∈ U.names) : T.nameList s = U.nameList s := by
  rw [← nmL_names hT hr hs hi, ← nmL_names hU hr hs hj]
  refine sortP_of_perm ((List.perm_ext_iff_of_nodup (nmL_nodup hT i) (nmL_nodup hU j)).2 fun x => ?_)
  constructor
  · intro hx
    obtain ⟨⟨q, k⟩, hq, rfl⟩ := List.mem_map.1 hx
    have hp := hT.pth _ _ (List.mem_filter.1 hq).1
    exact (mem_nmL hU hp).2 (h.one _ _ _ _ hi ((mem_nmL hT hp).1 hx) hj)
  · intro hx
    obtain ⟨⟨q, k⟩, hq, rfl⟩ := List.mem_map.1 hx
    have hp := hU.pth _ _ (List.mem_filter.1 hq).1
    exact (mem_nmL hT hp).2 (h.two _ _ _ _ hi hj ((mem_nmL hU hp).1 hx))

/-- The same at one path. -/
def SameAt (T U : Fs) (s : Bytes) : Prop := ∃ i j, (split s, i) ∈ T.names ∧ (split s, j) ∈ U.names ∧ Lk T U i j ∧ T.nameList s = U.nameList s

theorem nameList_top (T : Fs) : T.nameList [] = [] := by
  unfold Fs.nameList
  rw [if_pos (Or.inr rfl)]

theorem glue_top : glue [] = [] := rfl

theorem path_or_top (hT : T.Inv) {p : Pt} {i : Nat} (h : (p, i) ∈ T.names) : glue p = [] ∨ glue p ∈ T.paths := by
  by_cases hp : p = []
  · subst hp
    exact Or.inl glue_top
  · have h1 := hT.pth _ _ h
    exact Or.inr ((mem_paths hT).2 ⟨h1.text.1, glue_ne h1 hp, i, by rw [h1.text.2]; exact h⟩)

theorem same_of (hT : T.Inv) (hU : U.Inv) (hp : T.paths = U.paths) (h : ∀ s, s = [] ∨ s ∈ T.paths → SameAt T U s) : SameFs T U := by
  have at1 : ∀ p i, (p, i) ∈ T.names → ∃ j, (p, j) ∈ U.names ∧ Lk T U i j ∧ T.nameList (glue p) = U.nameList (glue p) := fun p i hi => by
    obtain ⟨i', j, h1, h2, h3, h4⟩ := h (glue p) (path_or_top hT hi)
    rw [(hT.pth _ _ hi).text.2] at h1 h2
    rw [← hT.at_one hi h1] at h3
    exact ⟨j, h2, h3, h4⟩
  have at2 : ∀ p j, (p, j) ∈ U.names → ∃ i, (p, i) ∈ T.names := fun p j hj => by
    obtain ⟨i, j', h1, _⟩ := h (glue p) (by rw [hp]; exact path_or_top hU hj)
    rw [(hU.pth _ _ hj).text.2] at h1
    exact ⟨i, h1⟩
  have top : ∀ {V : Fs} {q : Pt} {k : Nat}, V.Inv → ([], k) ∈ V.names → (q, k) ∈ V.names → q = [] := fun {V q k} hV h1 h2 => by
    have e := hV.at_one hV.one h1
    subst e
    exact hV.single _ _ hV.one (by rw [hV.topKind]; decide) q h2
  have key : ∀ p i j, (p, i) ∈ T.names → (p, j) ∈ U.names → p ≠ [] → ∀ q, Pth q → ((q, i) ∈ T.names ↔ (q, j) ∈ U.names) := fun p i j hi hj hne q hq => by
    obtain ⟨j', h1, _, h3⟩ := at1 p i hi
    have e := hU.at_one hj h1
    subst e
    have hpp := hT.pth _ _ hi
    rw [← nmL_names hT hpp.text.1 (glue_ne hpp hne) (by rw [hpp.text.2]; exact hi), ← nmL_names hU hpp.text.1 (glue_ne hpp hne) (by rw [hpp.text.2]; exact hj)] at h3
    have h4 : glue q ∈ nmL T.names i ↔ glue q ∈ nmL U.names j := by
      rw [← (sortP_perm (nmL T.names i)).mem_iff, h3, (sortP_perm (nmL U.names j)).mem_iff]
    rw [mem_nmL hT hq, mem_nmL hU hq] at h4
    exact h4
  refine ⟨fun p i hi => ?_, at2, fun p i j hi hj => ?_, fun p q i j h1 h2 h3 => ?_, fun p q i j h1 h2 h3 => ?_⟩
  · obtain ⟨j, hj, _⟩ := at1 p i hi
    exact ⟨j, hj⟩
  · obtain ⟨j', h1, h2, _⟩ := at1 p i hi
    rw [hU.at_one hj h1]
    exact h2
  · by_cases hne : p = []
    · subst hne
      have := top hT h1 h2
      subst this
      exact h3
    · exact (key p i j h1 h3 hne q (hT.pth _ _ h2)).1 h2
  · by_cases hne : p = []
    · subst hne
      have := top hU h2 h3
      subst this
      exact h1
    · exact (key p i j h1 h2 hne q (hU.pth _ _ h3)).2 h3

theorem look_path (hT : T.Inv) {s : Bytes} (hs : s = [] ∨ s ∈ T.paths) : ∃ i, (split s, i) ∈ T.names ∧ (T.look s).1 = some i ∧ right s = true := by
  rcases hs with rfl | hs
  · exact ⟨1, hT.one, (look_name hT (s := []) (by decide) hT.one).1, by decide⟩
  · obtain ⟨h1, _, i, h3⟩ := (mem_paths hT).1 hs
    exact ⟨i, h3, (look_name hT h1 h3).1, h1⟩

end

end Go.Proofs.YtemdinjiplglgaaGreat
