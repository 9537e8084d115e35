/-
  tree.Append.
  A name that becomes another one, with all that is below it.
  What stands in each directory behind a move.
  The tree in memory behind a move.
  All that is below a directory.
  tree.each: a closure is told all that is below a directory.
  tree.Count: how many names there are.
  tree.fits: may all that is below a directory stand elsewhere?
  Rename: the plain law, and the two last steps in memory.
  tree.Rename.
  tree.Paths and Names.
  Maps whose keys are pointers to blocks of cells.
  tree.Names: all names of a file.
  A tree is copied: what holds while it goes on, with no code in sight.
  A tree is copied: a directory's round.
  tree.copied.
  tree.Copy and New.
  Two trees are held against one another: the plain law, and what holds while it goes on.
-/
import Derived.Test.YtocbjhhnginebaaGreatB2
import Derived.ArgAppend
import Derived.Deep.RegionLaw
import Derived.LaidEqlPtr
import Derived.Test.YtocbjhhnginebaaGreatB1
set_option linter.unusedVariables false
set_option linter.unusedSimpArgs false

namespace Go.Proofs.YtocbjhhnginebaaGreat
open Go.RowKit

def Fs.append (T : Fs) (s b : Bytes) : Fs × Int :=
  if (T.file s).2 ≠ 0 then (T, (T.file s).2) else match (T.file s).1 with
  | some i => if 65536 < (T.nd i).data.length + b.length then (T, 7) else (T.set i { T.nd i with data := (T.nd i).data ++ b }, 0)
  | none => (T, 0)

/-- append as one step of a region, by its run. -/
theorem step_append_by {P : Program} {ops : Array Oper} {o : Oper} {a : Act} {w : World} {K : Act → World → Prop} {Q : Exit → Act → World → Prop} {E : Prop}
    (hg : o.guard = none) (s x : Operand) (t : TypeId) (hop : o.op = Op.call { callee := Callee.builtin Builtin.append, args := #[s, x], argTypes := #[t, t] })
    (sv xv : Value) (hs : a.eval s = sv) (hx : a.eval x = xv) (v' : Value) (w' : World) (hrun : (Builtin.append_ #[t, t] o.type #[sv, xv]).run P w = .ok v' w') (hK : K (a.put o.dst v') w') :
    if Region.wanted o (yielded ops a.tmps) = true then Oper.wp P o a w K Q else E := by
  have hw : Region.wanted o (yielded ops a.tmps) = true := by simp [Region.wanted, hg]
  rw [if_pos hw]
  unfold Oper.wp
  simp [execOp, hop, resolve, invoke, builtin, hs, hx, hrun, Result.andThen]
  exact hK

/-- append of nothing. -/
theorem run_append_none (w : World) (ty : TypeId) (A A' : Option Addr) (n c : Nat) :
    (Builtin.append_ #[62, 62] ty #[.slice A n n, .slice A' 0 c]).run Tryz.prog w = .ok (.slice A n n) w := by
  have ht := Tryz.underlying62
  obtain ⟨i0, hi, hzz⟩ := Option.map_eq_some_iff.1 info_u8
  cases A <;> cases A' <;> simp [Builtin.append_, run_underlying ht, sizeOf, typeInfo, hi, Builtin.lenOf, Builtin.firstCells, storeCells, loadCells, loadCellsFrom, Result.andThen]

theorem rdb_cells {W : World} {A : Addr} {n c : Nat} {l : Bytes} (h : RdB W (.slice (some A) n c) l) : ∀ j u, (byteCells l)[j]? = some u → W.cell? (A.add j) = some u := by
  obtain ⟨A', c', e, _, _, hr⟩ := h
  simp only [Value.slice.injEq] at e
  intro j u hj
  have hlt : j < l.length := by have := (List.getElem?_eq_some_iff.1 hj).1; simpa [byteCells] using this
  obtain ⟨g, o, e2, hc⟩ := hr j hlt
  have e3 := e.1.trans e2
  simp only [Option.some.injEq] at e3
  subst e3
  have e1 : (⟨g, o, none⟩ : Addr).add j = ⟨g, o + j, none⟩ := by
    unfold Addr.add
    split
    · rename_i h0; rw [h0]; simp
    · simp
  rw [e1, hc]
  simp only [byteCells, List.getElem?_map, List.getElem?_eq_getElem hlt, Option.map_some] at hj
  exact hj

/-- append of some bytes behind a file's bytes, whose spare is cut off. -/
theorem append_run (W : World) {dA vA : Option Addr} {dc vc : Nat} {dat b : Bytes} (hD : Dat W (.slice dA dat.length dc) dat) (hV : RdB W (.slice vA b.length vc) b) (hs : dat.length + b.length ≤ 65536) (ty : TypeId) :
    ∃ A' c' w', (Builtin.append_ #[62, 62] ty #[.slice dA dat.length dat.length, .slice vA b.length vc]).run Tryz.prog W = .ok (.slice A' (dat.length + b.length) c') w' ∧ Dat w' (.slice A' (dat.length + b.length) c') (dat ++ b) ∧ W.grownBy w' none := by
  by_cases hb : b = []
  · subst hb
    refine ⟨dA, dat.length, W, by simpa using run_append_none W ty dA vA dat.length vc, ?_, World.grownBy.refl _ _⟩
    rcases hD with ⟨_, rfl⟩ | ⟨g, c, cur, e, h2, h3, h4, h5, h6⟩
    · exact Or.inl ⟨⟨dA, 0, by simp, Nat.zero_le _⟩, by simp⟩
    · simp only [Value.slice.injEq] at e
      refine Or.inr ⟨g, dat.length, cur, by simp [e.1], h2, by simp, Nat.le_trans h3 h4, Nat.le_trans h3 h5, by simpa using h6⟩
  · have hpos : 0 < b.length := by
      rcases b with _ | ⟨x, xs⟩
      · exact absurd rfl hb
      · simp
    obtain ⟨i0, hi, hzz⟩ := Option.map_eq_some_iff.1 info_u8
    simp only [Prod.mk.injEq] at hzz
    obtain ⟨hz0, hz1, hz2⟩ := hzz
    have hvs : ∃ ad, vA = some ad := by
      obtain ⟨A', c', e, _, _, hr⟩ := hV
      simp only [Value.slice.injEq] at e
      obtain ⟨g, o, e2, _⟩ := hr 0 hpos
      exact ⟨_, e.1.trans e2⟩
    obtain ⟨ad, rfl⟩ := hvs
    have hbc : ∀ u ∈ byteCells b, u.oneCell' = true := by
      intro u hu
      simp only [byteCells, List.mem_map] at hu
      obtain ⟨x, _, rfl⟩ := hu
      rfl
    have key : ∃ v' w', (Builtin.append_ #[62, 62] ty #[.slice dA dat.length dat.length, .slice (some ad) b.length vc]).run Tryz.prog W = .ok v' w' ∧ w'.ownsRow W.heap.size 5 1 v' (dat.length + b.length) (byteCells dat ++ byteCells b) ∧ W.grownBy w' none := by
      rcases hD with ⟨_, rfl⟩ | ⟨g, c, cur, e, h2, h3, h4, h5, h6⟩
      · cases dA with
        | some d0 => exact run_append_arg_grows (P := Tryz.prog) W 62 ty 5 i0 (.int .u8 0) 1 1 Tryz.underlying62 hi hz0 hz1 hz2 rfl (by decide) d0 0 0 (byteCells []) (by simp [byteCells]) (fun j u h => by simp [byteCells] at h) ad b.length vc (byteCells b) (by simp [byteCells]) (rdb_cells hV) (by omega) (by simp only [maxLen]; simp at hs; omega) (by simp at hs; omega)
        | none =>
        obtain ⟨v', w', hrun, r1, r2, _⟩ := run_append_own (P := Tryz.prog) W W.heap.size 62 ty 5 i0 (.int .u8 0) 1 1 Tryz.underlying62 hi hz0 hz1 hz2 rfl (by decide) (.slice none 0 0) 0 [] (World.ownsRow_nil W _ _ _) ad b.length vc (byteCells b) (by simp [byteCells]) (rdb_cells hV) hbc (by simp only [maxLen]; omega) (by simp at hs ⊢; omega) (Nat.le_refl _)
        exact ⟨v', w', hrun, r1, r2⟩
      · simp only [Value.slice.injEq] at e
        obtain ⟨rfl, _, _⟩ := e
        exact run_append_arg_grows (P := Tryz.prog) W 62 ty 5 i0 (.int .u8 0) 1 1 Tryz.underlying62 hi hz0 hz1 hz2 rfl (by decide) ⟨g, 0, none⟩ dat.length dat.length (byteCells dat) (by simp [byteCells]) (rdb_cells (n := dat.length) (c := c) (Dat.rdb (Or.inr ⟨g, c, cur, rfl, h2, h3, h4, h5, h6⟩))) ad b.length vc (byteCells b) (by simp [byteCells]) (rdb_cells hV) (by omega) (by simp only [maxLen]; omega) (by omega)
    obtain ⟨v', w', hrun, r1, r2⟩ := key
    have hBy : Byts W.heap.size w' v' (dat ++ b) := by
      unfold Byts
      rw [byteCells_append, List.length_append]
      exact r1
    obtain ⟨A', c', e, _⟩ := hBy.dat.shape
    rw [List.length_append] at e
    subst e
    exact ⟨A', c', w', hrun, hBy.dat, r2⟩

set_option maxHeartbeats 4000000 in
set_option maxRecDepth 100000 in
theorem append_calls (tb : Nat) (A M : Nat → Nat) (T : Fs) (s : ByteArray) (v : Value) (b : Bytes) (w : World) (hR : Rep w tb A M T) (hs : s.size ≤ 16777216) (hv : RdB w v b) (hbl : b.length ≤ 140737488355328) :
    Calls Tryz.prog 75 #[ptr tb, .string s, v] w fun e w' => e = .returned (.int .i64 (T.append (bl s) b).2) ∧ Stp w w' tb A M T (T.append (bl s) b).1 := by
  have h1 := fun W hW => there_calls tb A M T s W hW hs
  have hok := hR.inv.there_ok (s := bl s)
  have hI := hR.inv
  obtain ⟨vA, vc, rfl, hvc1, hvc2, hvr⟩ := id hv
  unfold maxLen at hvc2
  unfold Fs.append Fs.file
  generalize T.there (bl s) = r at *
  obtain ⟨n, d, e⟩ := r
  dsimp only at *
  unfold ptr at h1 ⊢
  replace h1 := Lib.hid h1
  replace hR := Lib.hid hR
  replace hI := Lib.hid hI
  replace hv := Lib.hid hv
  by_cases he : e = 0
  · subst he
    obtain ⟨_, i, rfl, hm, _⟩ := hok rfl
    clear hok
    rw [if_pos rfl]
    dsimp only
    have hl : T.Live i := ⟨_, hm⟩
    have h2 := fun W hW => file_calls tb A M T i W hW hl
    unfold ptr at h2
    by_cases hz : notFile (T.nd i) = 0
    · rw [hz] at h2
      rw [if_neg (by simp [hz])]
      have hk1 := notFile_zero hI.out hm hz
      have hdl := hI.out.data _ i hm
      clear hz
      replace h2 := Lib.hid h2
      by_cases hbig : 65536 < (T.nd i).data.length + b.length
      · rw [if_pos hbig]
        dsimp only
        go_enter Tryz.func75, Tryz.ntmps75
        go_wp2_with fail
        refine (h1.out _ hR.out).mono ?_
        rintro e w1 ⟨rfl, hB1⟩
        rw [optPtr_some]
        have hR1 := hR.out.below hB1
        go_wp2_with fail
        refine (h2.out _ hR1).mono ?_
        rintro e w2 ⟨rfl, rfl⟩
        obtain ⟨dv, hD, c10, _⟩ := rep_data hR1 hl
        obtain ⟨dA, dc, rfl, hd1, hd2⟩ := hD.shape
        have hadd : IntKind.i64.wrap (((T.nd i).data.length : Int) + (b.length : Int)) = (((T.nd i).data.length + b.length : Nat) : Int) := by
          rw [IntWalk.i64_in _ (by omega)]; omega
        have hle : (65536 : Int) < (((T.nd i).data.length + b.length : Nat) : Int) := by omega
        replace hD := Lib.hid hD
        replace hR1 := Lib.hid hR1
        clear hvr
        generalize (T.nd i).data = dat at *
        generalize hsum : ((dat.length + b.length : Nat) : Int) = sum at *
        replace hsum := Lib.hid hsum
        go_wp2
        go_ret
        exact ⟨rfl, Stp.same hR.out hB1⟩
      · rw [if_neg hbig]
        dsimp only
        have hstp := fun W v' hW hv' => dataonly_stp (w := W) (tb := tb) (A := A) (M := M) (v := v') (l := (T.nd i).data ++ b) hW hm hk1 (by simp; omega) hv'
        replace hstp := Lib.hid hstp
        go_enter Tryz.func75, Tryz.ntmps75
        go_wp2_with fail
        refine (h1.out _ hR.out).mono ?_
        rintro e w1 ⟨rfl, hB1⟩
        rw [optPtr_some]
        have hR1 := hR.out.below hB1
        go_wp2_with fail
        refine (h2.out _ hR1).mono ?_
        rintro e w2 ⟨rfl, rfl⟩
        obtain ⟨dv, hD, c10, _⟩ := rep_data hR1 hl
        obtain ⟨dA, dc, rfl, hd1, hd2⟩ := hD.shape
        unfold maxLen at hd2
        have hadd : IntKind.i64.wrap (((T.nd i).data.length : Int) + (b.length : Int)) = (((T.nd i).data.length + b.length : Nat) : Int) := by
          rw [IntWalk.i64_in _ (by omega)]; omega
        have hle : ¬ (65536 : Int) < (((T.nd i).data.length + b.length : Nat) : Int) := by omega
        have hd1' : ((T.nd i).data.length : Int) ≤ (dc : Int) := by omega
        replace hD := Lib.hid hD
        replace hR1 := Lib.hid hR1
        generalize hdat : (T.nd i).data = dat at *
        replace hdat := Lib.hid hdat
        generalize hsum : ((dat.length + b.length : Nat) : Int) = sum at *
        replace hsum := Lib.hid hsum
        go_wp2_with fail
        have hv0 : RdB w1 (.slice vA b.length vc) b := hv.out.below hB1
        have hv1 : RdB w1.drew (.slice vA b.length vc) b := hv0
        have hD1 : Dat w1.drew (.slice dA dat.length dc) dat := hD.out
        obtain ⟨A', c', w2, hrun, hD2, hg2⟩ := append_run w1.drew hD1 hv1 (by omega) 62
        have hB2 : Below w1.heap.size w1 w2 := ⟨hg2.os, hg2.tape, hg2.output, hg2.size, fun k hk => hg2.block k hk (by simp)⟩
        have hR2 := hR1.out.below hB2
        have hst := (hstp.out w2 _ hR2 hD2).after (below_step hB1 hB2)
        obtain ⟨dv2, _, hnode2⟩ := hR2.node i hl
        have c10' : w2.cell? ⟨A i, 10, none⟩ = some dv2 := cell_of hnode2 rfl
        have f10 : w2.frozen? ⟨A i, 10, none⟩ = false := by simp [World.frozen?, hnode2]
        replace hst := Lib.hid hst
        replace hrun := Lib.hid hrun
        clear hv0 hv1 hD1 hD2 hg2 hB2 hR2 hnode2 hstp hvr hR1 hD
        go_region_law (refine step_append_by rfl _ _ 62 rfl _ _ rfl rfl _ w2 hrun.out ?_)
        all_goals (go_wp2; go_ret; exact ⟨rfl, by rw [hdat.out]; exact hst.out⟩)
    · rw [if_pos hz]
      generalize notFile (T.nd i) = nf at *
      have hz2 : (nf != 0) = true := by simpa using hz
      clear hz hvr
      replace h2 := Lib.hid h2
      go_enter Tryz.func75, Tryz.ntmps75
      go_wp2_with fail
      refine (h1.out _ hR.out).mono ?_
      rintro e w1 ⟨rfl, hB1⟩
      rw [optPtr_some]
      have hR1 := hR.out.below hB1
      go_wp2_with fail
      refine (h2.out _ hR1).mono ?_
      rintro e w2 ⟨rfl, rfl⟩
      replace hR1 := Lib.hid hR1
      go_wp2
      go_ret
      exact ⟨rfl, Stp.same hR.out hB1⟩
  · have he2 : (e != 0) = true := by simpa using he
    simp only [he, if_false, ne_eq, not_false_eq_true, if_true]
    clear hok he hvr
    go_enter Tryz.func75, Tryz.ntmps75
    go_wp2_with fail
    refine (h1.out _ hR.out).mono ?_
    rintro e w1 ⟨rfl, hB1⟩
    go_wp2
    go_ret
    exact ⟨rfl, Stp.same hR.out hB1⟩

end Go.Proofs.YtocbjhhnginebaaGreat

namespace Go.Proofs.YtocbjhhnginebaaGreat

/-- Where a path goes when old becomes p. -/
def moveP (old p q : Pt) : Pt := if old.isPrefixOf q then p ++ q.drop old.length else q
def Fs.move (T : Fs) (old p : Pt) : Fs := ⟨T.names.map (fun x => (moveP old p x.1, x.2)), T.nd, T.next⟩

theorem moveP_under (old p t : Pt) : moveP old p (old ++ t) = p ++ t := by
  have : old.isPrefixOf (old ++ t) = true := List.isPrefixOf_iff_prefix.2 (List.prefix_append _ _)
  simp [moveP, this]
theorem moveP_other {old p q : Pt} (h : ¬ old <+: q) : moveP old p q = q := if_neg (fun e => h (List.isPrefixOf_iff_prefix.1 e))
theorem moveP_cases (old p q : Pt) : (∃ t, q = old ++ t ∧ moveP old p q = p ++ t) ∨ (¬ old <+: q ∧ moveP old p q = q) := by
  by_cases h : old <+: q
  · obtain ⟨t, rfl⟩ := h
    exact Or.inl ⟨t, rfl, moveP_under old p t⟩
  · exact Or.inr ⟨h, moveP_other h⟩

/-- What stands above a name is a name. -/
theorem Fs.Inv.above {T : Fs} (h : T.Inv) {r t : Pt} {i : Nat} (hm : (r ++ t, i) ∈ T.names) : ∃ j, (r, j) ∈ T.names := by
  cases hc : T.at r with
  | some j => exact ⟨j, h.at_some.1 hc⟩
  | none =>
    by_cases ht : t = []
    · subst ht
      rw [List.append_nil] at hm
      exact ⟨i, hm⟩
    · have := h.at_below t ht (fun j hj => by rw [hc] at hj; cases hj)
      rw [h.at_some.2 hm] at this
      cases this

structure Moves (T : Fs) (old p : Pt) (i d : Nat) : Prop where
  hold : (old, i) ∈ T.names
  one : old ≠ []
  two : p ≠ []
  free : T.at p = none
  dir : (p.dropLast, d) ∈ T.names
  kind : (T.nd d).kind = 2
  apart : ¬ old <+: p
  pth : ∀ t j, (old ++ t, j) ∈ T.names → Pth (p ++ t)

theorem Moves.none {T : Fs} {old p : Pt} {i d : Nat} (hI : T.Inv) (h : Moves T old p i d) {t : Pt} {j : Nat} : (p ++ t, j) ∉ T.names := fun hm => by
  obtain ⟨k, hk⟩ := hI.above hm
  exact Fs.at_none.1 h.free k hk

theorem dropLast_append {p t : Pt} (ht : t ≠ []) : (p ++ t).dropLast = p ++ t.dropLast := List.dropLast_append_of_ne_nil ht

theorem moveP_inj {T : Fs} {old p : Pt} {i d : Nat} (hI : T.Inv) (h : Moves T old p i d) {q r : Pt} {j k : Nat} (hq : (q, j) ∈ T.names) (hr : (r, k) ∈ T.names) (e : moveP old p q = moveP old p r) : q = r := by
  rcases moveP_cases old p q with ⟨t, rfl, e1⟩ | ⟨h1, e1⟩ <;> rcases moveP_cases old p r with ⟨u, rfl, e2⟩ | ⟨h2, e2⟩ <;> rw [e1, e2] at e
  · rw [List.append_cancel_left e]
  · subst e; exact absurd hr (h.none hI)
  · subst e; exact absurd hq (h.none hI)
  · exact e

theorem mem_move {T : Fs} {old p : Pt} (q : Pt) (j : Nat) : (q, j) ∈ (T.move old p).names ↔ ∃ r, (r, j) ∈ T.names ∧ moveP old p r = q := by
  simp only [Fs.move, List.mem_map, Prod.mk.injEq, Prod.exists]
  constructor
  · rintro ⟨a, b, h1, h2, rfl⟩; exact ⟨a, h1, h2⟩
  · rintro ⟨r, h1, h2⟩; exact ⟨r, j, h1, h2, rfl⟩

theorem namesOf_move (T : Fs) (old p : Pt) (j : Nat) : namesOf (T.move old p).names j = namesOf T.names j := by
  unfold namesOf Fs.move
  rw [List.filter_map, List.length_map]
  rfl

theorem move_inv {T : Fs} (hI : T.Inv) {old p : Pt} {i d : Nat} (h : Moves T old p i d) : (T.move old p).Inv := by
  refine ⟨?_, ?_, hI.topKind, ?_, ?_, ?_, ?_, ?_, ?_, ?_, ?_⟩
  · obtain ⟨r, e⟩ := hI.top
    refine ⟨r.map (fun x => (moveP old p x.1, x.2)), ?_⟩
    have : moveP old p [] = [] := moveP_other (fun hp => h.one (List.prefix_nil.1 hp))
    simp [Fs.move, e, this]
  · unfold Fs.move
    dsimp only
    rw [List.map_map]
    have hnd := hI.nodup
    rw [List.Nodup, List.pairwise_map] at hnd ⊢
    have hmm : ∀ x ∈ T.names, (x.1, x.2) ∈ T.names := fun x hx => hx
    refine List.Pairwise.imp_of_mem ?_ hnd
    intro a b ha hb hne e
    exact hne (moveP_inj hI h (hmm a ha) (hmm b hb) e)
  · intro q j hm hq
    obtain ⟨r, hr, e⟩ := (mem_move q j).1 hm
    rcases moveP_cases old p r with ⟨t, rfl, e1⟩ | ⟨h1, e1⟩
    · rw [e1] at e
      subst e
      by_cases ht : t = []
      · subst ht
        rw [List.append_nil]
        refine ⟨d, (mem_move _ _).2 ⟨_, h.dir, moveP_other (fun hp => h.apart ?_)⟩, h.kind⟩
        exact hp.trans (List.dropLast_prefix p)
      · obtain ⟨k, hk, hk2⟩ := hI.up _ _ hr (by simp [ht])
        rw [dropLast_append ht] at hk ⊢
        exact ⟨k, (mem_move _ _).2 ⟨_, hk, moveP_under old p _⟩, hk2⟩
    · rw [e1] at e
      subst e
      obtain ⟨k, hk, hk2⟩ := hI.up _ _ hr hq
      exact ⟨k, (mem_move _ _).2 ⟨_, hk, moveP_other (fun hp => h1 (hp.trans (List.dropLast_prefix _)))⟩, hk2⟩
  · intro q j hm
    obtain ⟨r, hr, e⟩ := (mem_move q j).1 hm
    rcases moveP_cases old p r with ⟨t, rfl, e1⟩ | ⟨h1, e1⟩
    · rw [e1] at e; subst e; exact h.pth t j hr
    · rw [e1] at e; subst e; exact hI.pth _ _ hr
  · intro q j hm
    obtain ⟨r, hr, _⟩ := (mem_move q j).1 hm
    exact hI.kinds r j hr
  · intro q j hm
    obtain ⟨r, hr, _⟩ := (mem_move q j).1 hm
    exact hI.lt r j hr
  · intro q j hm
    obtain ⟨r, hr, _⟩ := (mem_move q j).1 hm
    rw [namesOf_move]
    exact hI.links r j hr
  · intro q j hm hk r hr
    obtain ⟨q', hq', rfl⟩ := (mem_move q j).1 hm
    obtain ⟨r', hr', rfl⟩ := (mem_move r j).1 hr
    rw [hI.single q' j hq' hk r' hr']
  · intro q j hm
    obtain ⟨r, hr, _⟩ := (mem_move q j).1 hm
    exact hI.data r j hr
  · intro q j hm
    obtain ⟨r, hr, _⟩ := (mem_move q j).1 hm
    exact hI.plain r j hr

end Go.Proofs.YtocbjhhnginebaaGreat

namespace Go.Proofs.YtocbjhhnginebaaGreat

theorem fm_congr {α β : Type} {f g : α → Option β} : ∀ {l : List α}, (∀ x ∈ l, f x = g x) → l.filterMap f = l.filterMap g
  | [], _ => rfl
  | a :: l, h => by
    rw [List.filterMap_cons, List.filterMap_cons, h a (List.mem_cons_self ..), fm_congr fun x hx => h x (List.mem_cons_of_mem _ hx)]

theorem kidOf_none {r : Pt} {x : Pt × Nat} (h : x.1.dropLast ≠ r) : kidOf r x = none := if_neg (fun e => h e.2)

/-- The directories that moved have what they had. -/
theorem kids_move_under {T : Fs} (hI : T.Inv) {old p : Pt} {i d : Nat} (h : Moves T old p i d) (rest : Pt) : (T.move old p).kids (p ++ rest) = T.kids (old ++ rest) := by
  unfold Fs.kids kidsL Fs.move
  dsimp only
  rw [List.filterMap_map]
  have hmm : ∀ x ∈ T.names, kidOf (p ++ rest) (moveP old p x.1, x.2) = kidOf (old ++ rest) x := by
    rintro ⟨q, j⟩ hx
    rcases moveP_cases old p q with ⟨u, rfl, e1⟩ | ⟨h1, e1⟩
    · dsimp only
      rw [e1]
      by_cases hu : u = []
      · subst hu
        rw [List.append_nil, List.append_nil]
        rw [kidOf_none, kidOf_none]
        · intro e
          have := congrArg List.length e
          have h2 : old.length ≠ 0 := fun e => h.one (List.eq_nil_of_length_eq_zero e)
          simp at this
          omega
        · intro e
          have := congrArg List.length e
          have h2 : p.length ≠ 0 := fun e => h.two (List.eq_nil_of_length_eq_zero e)
          simp at this
          omega
      · unfold kidOf
        dsimp only
        rw [dropLast_append hu, dropLast_append hu]
        have e3 : (p ++ u).getLastD [] = u.getLastD [] := by simp [List.getLastD_eq_getLast?, List.getLast?_append, List.getLast?_eq_some_getLast hu]
        have e4 : (old ++ u).getLastD [] = u.getLastD [] := by simp [List.getLastD_eq_getLast?, List.getLast?_append, List.getLast?_eq_some_getLast hu]
        rw [e3, e4]
        simp [hu]
    · dsimp only
      rw [e1]
      rw [kidOf_none, kidOf_none]
      · intro e
        refine h1 (List.IsPrefix.trans ?_ (List.dropLast_prefix q))
        rw [show q.dropLast = _ from e]
        exact List.prefix_append _ _
      · intro e
        have hq : q ≠ [] := by
          rintro rfl
          have := congrArg List.length e
          have h2 : p.length ≠ 0 := fun e => h.two (List.eq_nil_of_length_eq_zero e)
          simp at this
          omega
        have : q = (p ++ rest) ++ [q.getLastD []] := snoc_of hq e
        rw [this, List.append_assoc] at hx
        exact h.none hI hx
  exact fm_congr fun x hx => hmm x hx

/-- A directory that stayed has lost and gained the one name. -/
theorem kids_move_stay {T : Fs} (hI : T.Inv) {old p : Pt} {i d : Nat} (h : Moves T old p i d) {r : Pt} {k : Nat} (hr : (r, k) ∈ T.names) (hn : ¬ old <+: r) :
    ∃ K0, (T.kids r).Perm ((if old.dropLast = r then [(old.getLastD [], i)] else []) ++ K0) ∧ ((T.move old p).kids r).Perm ((if p.dropLast = r then [(p.getLastD [], i)] else []) ++ K0) := by
  obtain ⟨s, t, hst, _⟩ := split_at hI.nodup h.hold
  have hnd := hI.nodup
  have hsame : ∀ x, x ∈ s ∨ x ∈ t → kidOf r (moveP old p x.1, x.2) = kidOf r x := by
    rintro ⟨q, j⟩ hx
    have hx' : (q, j) ∈ T.names := by rw [hst]; rcases hx with hx | hx <;> simp [hx]
    have hqo : q ≠ old := by
      rintro rfl
      have h1 := hI.at_some.2 h.hold
      rw [hI.at_some.2 hx'] at h1
      obtain rfl := Option.some.inj h1
      clear h1
      rw [hst, List.map_append, List.map_cons] at hnd
      have h1 := List.nodup_append.1 hnd
      rcases hx with hx | hx
      · exact h1.2.2 _ (List.mem_map.2 ⟨_, hx, rfl⟩) _ (List.mem_cons_self ..) rfl
      · exact (List.nodup_cons.1 h1.2.1).1 (List.mem_map.2 ⟨_, hx, rfl⟩)
    rcases moveP_cases old p q with ⟨u, rfl, e1⟩ | ⟨h1, e1⟩
    · have hu : u ≠ [] := fun e => hqo (by rw [e, List.append_nil])
      dsimp only
      rw [e1, kidOf_none, kidOf_none]
      · dsimp only
        rw [dropLast_append hu]
        rintro rfl
        exact hn (List.prefix_append _ _)
      · dsimp only
        rw [dropLast_append hu]
        rintro rfl
        exact h.none hI hr
    · dsimp only
      rw [e1]
  have one : ∀ (q : Pt), q ≠ [] → kidsL [(q, i)] r = if q.dropLast = r then [(q.getLastD [], i)] else [] := by
    intro q hq
    by_cases e : q.dropLast = r
    · subst e
      rw [kidsL_same q i hq, if_pos rfl]
    · rw [kidsL_other q i e, if_neg e]
  have hmp : moveP old p old = p := by have := moveP_under old p []; simpa using this
  refine ⟨kidsL s r ++ kidsL t r, ?_, ?_⟩
  · show (kidsL T.names r).Perm _
    have : kidsL T.names r = kidsL s r ++ (kidsL [(old, i)] r ++ kidsL t r) := by
      rw [hst, kidsL_append, ← kidsL_append [(old, i)] t]
      rfl
    rw [this, one old h.one, ← List.append_assoc, ← List.append_assoc]
    exact List.Perm.append_right _ List.perm_append_comm
  · show (kidsL (T.names.map fun x => (moveP old p x.1, x.2)) r).Perm _
    have hs : kidsL (s.map fun x => (moveP old p x.1, x.2)) r = kidsL s r := by
      unfold kidsL
      rw [List.filterMap_map]
      exact fm_congr fun x hx => hsame x (Or.inl hx)
    have ht : kidsL (t.map fun x => (moveP old p x.1, x.2)) r = kidsL t r := by
      unfold kidsL
      rw [List.filterMap_map]
      exact fm_congr fun x hx => hsame x (Or.inr hx)
    have : kidsL (T.names.map fun x => (moveP old p x.1, x.2)) r = kidsL s r ++ (kidsL [(p, i)] r ++ kidsL t r) := by
      rw [hst, List.map_append, List.map_cons, kidsL_append, hs]
      dsimp only
      rw [hmp]
      have e : (p, i) :: List.map (fun x => (moveP old p x.1, x.2)) t = [(p, i)] ++ List.map (fun x => (moveP old p x.1, x.2)) t := rfl
      rw [e, kidsL_append, ht]
    rw [this, one p h.two, ← List.append_assoc, ← List.append_assoc]
    exact List.Perm.append_right _ List.perm_append_comm

end Go.Proofs.YtocbjhhnginebaaGreat

namespace Go.Proofs.YtocbjhhnginebaaGreat
open Go.RowKit

theorem not_under_up {old : Pt} (h : old ≠ []) (t : Pt) : old ++ t ≠ old.dropLast := by
  intro e
  have := congrArg List.length e
  have h2 : old.length ≠ 0 := fun e => h (List.eq_nil_of_length_eq_zero e)
  simp at this
  omega

section
variable {w : World} {tb : Nat} {A M : Nat → Nat} {T : Fs}

theorem rep_move {w' : World} {old p : Pt} {i d f : Nat} (hR : Rep w tb A M T) (h : Moves T old p i d) (hf : (old.dropLast, f) ∈ T.names) (hfk : (T.nd f).kind = 2) (ht : Turn w w' (fun b => b = M f ∨ b = M d))
    (h1 : MapIs w' (M f) (entries A ((T.move old p).kids old.dropLast))) (h2 : MapIs w' (M d) (entries A ((T.move old p).kids p.dropLast))) : Rep w' tb A M (T.move old p) := by
  have hI := hR.inv
  have hlive : ∀ j, (T.move old p).Live j → T.Live j := fun j ⟨q, hm⟩ => by
    obtain ⟨r, hr, _⟩ := (mem_move q j).1 hm
    exact ⟨r, hr⟩
  have hu8 : ∀ g : Nat, (∃ cs, w.heap[g]? = some (Obj.cells cs 5 (0, 0))) → w'.heap[g]? = w.heap[g]? := hR.bytes_kept ht (by
    rintro b (rfl | rfl)
    · exact Or.inl (Or.inr (Or.inr ⟨f, ⟨_, hf⟩, hfk, rfl⟩))
    · exact Or.inl (Or.inr (Or.inr ⟨d, ⟨_, h.dir⟩, h.kind, rfl⟩)))
  refine ⟨move_inv hI h, ?_, ?_, ?_, fun a b ha hb e => hR.injA a b (hlive a ha) (hlive b hb) e, fun a b ha hb hka hkb e => hR.injM a b (hlive a ha) (hlive b hb) hka hkb e⟩
  · refine (ht.block tb (Array.getElem?_eq_some_iff.1 hR.tree).1 ?_).trans hR.tree
    rintro (e | e)
    · exact hR.map_tree hf hfk e.symm
    · exact hR.map_tree h.dir h.kind e.symm
  · intro j hj
    obtain ⟨dv, g1, g2⟩ := hR.node j (hlive j hj)
    refine ⟨dv, g1.kept hu8, (ht.block _ (Array.getElem?_eq_some_iff.1 g2).1 ?_).trans g2⟩
    rintro (e | e)
    · exact hR.map_node hf hfk (hlive j hj) e.symm
    · exact hR.map_node h.dir h.kind (hlive j hj) e.symm
  · intro q j hm hk
    have hk' : (T.nd j).kind = 2 := hk
    obtain ⟨r, hr, e⟩ := (mem_move q j).1 hm
    have hM := hR.kids r j hr hk'
    have hkeep : j ≠ f → j ≠ d → w'.heap[M j]? = w.heap[M j]? := fun e1 e2 => ht.block _ hM.lt (by
      rintro (e | e)
      · exact e1 (hR.injM j f ⟨_, hr⟩ ⟨_, hf⟩ hk' hfk e)
      · exact e2 (hR.injM j d ⟨_, hr⟩ ⟨_, h.dir⟩ hk' h.kind e))
    rcases moveP_cases old p r with ⟨t, rfl, e1⟩ | ⟨hn, e1⟩
    · rw [e1] at e
      subst e
      rw [kids_move_under hI h t]
      refine hM.of_block (hkeep ?_ ?_)
      · rintro rfl
        exact not_under_up h.one t (hI.dir_one hf hr hk')
      · rintro rfl
        have := hI.dir_one h.dir hr hk'
        exact h.apart ((this ▸ List.prefix_append old t : old <+: p.dropLast).trans (List.dropLast_prefix p))
    · rw [e1] at e
      subst e
      by_cases ef : j = f
      · subst ef
        have := hI.dir_one hf hr hk'
        rw [this]
        exact h1
      · by_cases ed : j = d
        · subst ed
          have := hI.dir_one h.dir hr hk'
          rw [this]
          exact h2
        · obtain ⟨K0, k1, k2⟩ := kids_move_stay hI h hr hn
          rw [if_neg (fun e => ef (by subst e; exact hI.at_one hr hf))] at k1
          rw [if_neg (fun e => ed (by subst e; exact hI.at_one hr h.dir))] at k2
          exact (hM.of_block (hkeep ef ed)).perm ((k2.trans k1.symm).map _)

end

end Go.Proofs.YtocbjhhnginebaaGreat

namespace Go.Proofs.YtocbjhhnginebaaGreat

/-- The names strictly below a path: what is left of each behind the path, and its thing. -/
def Fs.below (T : Fs) (p : Pt) : List (Pt × Nat) := T.names.filterMap (fun x => if p.isPrefixOf x.1 = true ∧ x.1 ≠ p then some (x.1.drop p.length, x.2) else none)

theorem mem_below {T : Fs} {p t : Pt} {j : Nat} : (t, j) ∈ T.below p ↔ t ≠ [] ∧ (p ++ t, j) ∈ T.names := by
  unfold Fs.below
  rw [List.mem_filterMap]
  constructor
  · rintro ⟨⟨q, k⟩, hm, h⟩
    split at h
    · rename_i hc
      obtain ⟨hp, h2⟩ := hc
      obtain ⟨u, rfl⟩ := List.isPrefixOf_iff_prefix.1 hp
      simp only [List.drop_left, Option.some.injEq, Prod.mk.injEq] at h
      obtain ⟨rfl, rfl⟩ := h
      exact ⟨fun e => h2 (by simp [e]), hm⟩
    · cases h
  · rintro ⟨h1, h2⟩
    refine ⟨_, h2, ?_⟩
    rw [if_pos ⟨List.isPrefixOf_iff_prefix.2 (List.prefix_append _ _), by simpa using h1⟩]
    simp

theorem below_nodup {T : Fs} (hI : T.Inv) (p : Pt) : (T.below p).Nodup := by
  have hnd := hI.nodup
  unfold Fs.below
  rw [List.Nodup, List.pairwise_map] at hnd
  refine List.Pairwise.filterMap _ ?_ hnd
  rintro ⟨q, j⟩ ⟨r, k⟩ hne b hb c hc
  simp only [Option.ite_none_right_eq_some, Option.some.injEq] at hb hc
  obtain ⟨⟨hpu, _⟩, rfl⟩ := hb
  obtain ⟨⟨hpv, _⟩, rfl⟩ := hc
  obtain ⟨u, hu⟩ := List.isPrefixOf_iff_prefix.1 hpu
  obtain ⟨v, hv⟩ := List.isPrefixOf_iff_prefix.1 hpv
  dsimp only at *
  subst hu hv
  intro e
  simp only [List.drop_left, Prod.mk.injEq] at e
  exact hne (by rw [e.1])

/-- What is below a directory: what stands right in it, and what is below that. -/
theorem below_kids {T : Fs} (hI : T.Inv) (p : Pt) : (T.below p).Perm ((T.kids p).flatMap fun x => ([x.1], x.2) :: (T.below (p ++ [x.1])).map fun y => (x.1 :: y.1, y.2)) := by
  refine (List.perm_ext_iff_of_nodup (below_nodup hI p) ?_).2 ?_
  · rw [List.Nodup, List.pairwise_flatMap]
    refine ⟨?_, ?_⟩
    · rintro ⟨x, j⟩ _
      rw [← List.Nodup, List.nodup_cons]
      constructor
      · rw [List.mem_map]
        rintro ⟨⟨t, k⟩, hm, e⟩
        simp only [Prod.mk.injEq, List.cons.injEq, true_and] at e
        exact (mem_below.1 hm).1 e.1
      · have := below_nodup hI (p ++ [x])
        rw [List.Nodup, List.pairwise_map]
        refine List.Pairwise.imp ?_ this
        rintro ⟨t, k⟩ ⟨u, l⟩ hne e
        simp only [Prod.mk.injEq, List.cons.injEq, true_and] at e
        exact hne (by rw [e.1, e.2])
    · have hk := kidsL_nodup hI.nodup p
      rw [List.Nodup, List.pairwise_map] at hk
      refine List.Pairwise.imp ?_ hk
      rintro ⟨x, j⟩ ⟨y, k⟩ hne a ha b hb e
      subst e
      have h1 : ∀ {z : Bytes} {l : Nat}, a ∈ ([z], l) :: (T.below (p ++ [z])).map (fun y => (z :: y.1, y.2)) → a.1.head? = some z := by
        intro z l hm
        rcases List.mem_cons.1 hm with rfl | hm
        · rfl
        · obtain ⟨c, _, rfl⟩ := List.mem_map.1 hm
          rfl
      have h2 := h1 ha
      rw [h1 hb] at h2
      exact hne (Option.some.inj h2).symm
  · rintro ⟨t, j⟩
    rw [mem_below, List.mem_flatMap]
    constructor
    · rintro ⟨h1, h2⟩
      cases t with
      | nil => exact absurd rfl h1
      | cons x u =>
        obtain ⟨k, hk⟩ := hI.above (r := p ++ [x]) (t := u) (i := j) (by simpa using h2)
        refine ⟨(x, k), mem_kidsL.2 hk, ?_⟩
        by_cases hu : u = []
        · subst hu
          have := hI.at_some.2 hk
          rw [hI.at_some.2 h2] at this
          simp only [Option.some.injEq] at this
          subst this
          exact List.mem_cons_self ..
        · refine List.mem_cons_of_mem _ (List.mem_map.2 ⟨(u, j), mem_below.2 ⟨hu, by simpa using h2⟩, rfl⟩)
    · rintro ⟨⟨x, k⟩, hk, hm⟩
      have hk' := mem_kidsL.1 hk
      rcases List.mem_cons.1 hm with e | hm
      · simp only [Prod.mk.injEq] at e
        obtain ⟨rfl, rfl⟩ := e
        exact ⟨by simp, hk'⟩
      · obtain ⟨⟨u, l⟩, hu, e⟩ := List.mem_map.1 hm
        simp only [Prod.mk.injEq] at e
        obtain ⟨rfl, rfl⟩ := e
        have := (mem_below.1 hu).2
        exact ⟨by simp, by simpa using this⟩

end Go.Proofs.YtocbjhhnginebaaGreat

namespace Go.Proofs.YtocbjhhnginebaaGreat
open Go.RowKit

/-- The blocks of a closure's own: its captured variable, and the row of the slice that lies in it. -/
def Cap (c : Nat) (W : World) (b : Nat) : Prop := b = c ∨ ∃ v, W.cell? ⟨c, 0, none⟩ = some v ∧ v.ownBlock = some b

structure Teller (tb : Nat) (A M : Nat → Nat) (T : Fs) (N : FuncId) (cs : Array Value) (c : Nat) (Inv : List (Bytes × Nat) → World → Prop) : Prop where
  enter : ∀ args W, (callFunc N args).run Tryz.prog W = .ok (.enter N args) W
  rep : ∀ {D W}, Inv D W → Rep W tb A M T
  lt : ∀ {D W b}, Inv D W → Cap c W b → b < W.heap.size
  below : ∀ {D W W'}, Inv D W → Below W.heap.size W W' → Inv D W'
  tell : ∀ {D W q j}, Inv D W → D.length ≤ 3000000 → q.length ≤ 16777216 → T.Live j → Calls Tryz.prog N (#[.string (mkS q), ptr (A j)] ++ cs) W fun e w' =>
    e = .returned (.tuple #[]) ∧ Inv (D ++ [(q, j)]) w' ∧ Turn W w' (Cap c W) ∧ ∀ b, Cap c w' b → Cap c W b ∨ W.heap.size ≤ b

theorem Cap.of_below {c : Nat} {W W' : World} (hb : Below W.heap.size W W') (hc : c < W.heap.size) {b : Nat} : Cap c W' b ↔ Cap c W b := by
  unfold Cap
  have : W'.cell? ⟨c, 0, none⟩ = W.cell? ⟨c, 0, none⟩ := by simp [World.cell?, hb.block c hc]
  rw [this]

/-- What is told of a directory's names. -/
def toldOf (T : Fs) (p : Pt) (pre : Bytes) (x : Bytes) : List (Bytes × Nat) :=
  match T.at (p ++ [x]) with
  | some j => (pre ++ x, j) :: (T.below (p ++ [x])).map fun y => (pre ++ x ++ 47 :: glue y.1, y.2)
  | none => []

theorem fl_congr {α β : Type} {f g : α → List β} : ∀ {l : List α}, (∀ x ∈ l, f x = g x) → l.flatMap f = l.flatMap g
  | [], _ => rfl
  | a :: l, h => by
    rw [List.flatMap_cons, List.flatMap_cons, h a (List.mem_cons_self ..), fl_congr fun x hx => h x (List.mem_cons_of_mem _ hx)]

theorem Pth.part {p : Pt} (h : Pth p) {x : Bytes} (hx : x ∈ p) : x.length ≤ 48 := by
  obtain ⟨s, h1, rfl⟩ := h
  have := right_part h1 x hx
  simp only [partOk, Bool.and_eq_true, decide_eq_true_eq] at this
  exact this.1.1.1.2

theorem below_file {T : Fs} (hI : T.Inv) {p : Pt} {i : Nat} (hi : (p, i) ∈ T.names) (hk : (T.nd i).kind ≠ 2) : T.below p = [] := by
  cases hc : T.below p with
  | nil => rfl
  | cons y r =>
    have : (y.1, y.2) ∈ T.below p := by rw [hc]; exact List.mem_cons_self ..
    obtain ⟨h1, h2⟩ := mem_below.1 this
    have h3 := hI.at_below y.1 h1 (fun j hj => by rw [hI.at_some.2 hi] at hj; cases hj; exact hk)
    rw [hI.at_some.2 h2] at h3
    cases h3

theorem told_all {T : Fs} (hI : T.Inv) (p : Pt) (pre : Bytes) {l : List Bytes} (hl : l.Perm ((T.kids p).map (·.1))) : (l.flatMap (toldOf T p pre)).Perm ((T.below p).map fun y => (pre ++ glue y.1, y.2)) := by
  have h1 : ((T.kids p).map (·.1)).flatMap (toldOf T p pre) = (T.kids p).flatMap fun x => (([x.1], x.2) :: (T.below (p ++ [x.1])).map fun y => (x.1 :: y.1, y.2)).map fun y => (pre ++ glue y.1, y.2) := by
    rw [List.flatMap_map]
    refine fl_congr fun x hx => ?_
    have hx' : (x.1, x.2) ∈ T.kids p := hx
    unfold toldOf
    rw [hI.kids_at.1 hx']
    dsimp only
    rw [List.map_cons, List.map_map]
    congr 1
    refine List.map_congr_left fun y hy => ?_
    have hy' : (y.1, y.2) ∈ T.below (p ++ [x.1]) := hy
    have hne := (mem_below.1 hy').1
    simp only [Function.comp_apply]
    rw [glue_cons x.1 hne]
    simp
  refine (hl.flatMap_right _).trans ?_
  rw [h1, ← List.map_flatMap]
  exact ((below_kids hI p).map _).symm

theorem fm_len {α β : Type} (f : α → List β) (l : List α) {k : Nat} (hk : k < l.length) : ((l.take k).flatMap f).length + (f l[k]).length ≤ (l.flatMap f).length := by
  have h : l = l.take k ++ l[k] :: l.drop (k + 1) := by rw [← List.drop_eq_getElem_cons hk, List.take_append_drop]
  have h2 : l.flatMap f = (l.take k).flatMap f ++ (f l[k] ++ (l.drop (k + 1)).flatMap f) := by
    conv => lhs; rw [h]
    rw [List.flatMap_append, List.flatMap_cons]
  rw [h2, List.length_append, List.length_append]
  omega

set_option maxHeartbeats 4000000 in
set_option maxRecDepth 100000 in
theorem each_calls {tb : Nat} {A M : Nat → Nat} {T : Fs} {N : FuncId} {cs : Array Value} {c : Nat} {Inv : List (Bytes × Nat) → World → Prop} (hT : Teller tb A M T N cs c Inv) (hf : T.names.length ≤ 1000000) :
    ∀ (n : Nat) (p : Pt) (i : Nat) (pre : Bytes) (D : List (Bytes × Nat)) (w : World), (p, i) ∈ T.names → (T.nd i).kind = 2 → (∀ t j, (p ++ t, j) ∈ T.names → t.length ≤ n) → pre.length + 50 * n ≤ 2000000 → D.length + (T.below p).length ≤ 3000000 → Inv D w →
    Calls Tryz.prog 46 #[ptr (A i), .string (mkS pre), .func (.func N) #[] cs] w fun e w' =>
      e = .returned (.tuple #[]) ∧ ∃ L, L.Perm ((T.below p).map fun y => (pre ++ glue y.1, y.2)) ∧ Inv (D ++ L) w' ∧ Turn w w' (Cap c w) ∧ ∀ b, Cap c w' b → Cap c w b ∨ w.heap.size ≤ b := by
  intro n
  induction n using Nat.strongRecOn with
  | _ n ih =>
    intro p i pre D w hp hk hlen hpre hcnt hInv
    have hR := hT.rep hInv
    have hI := hR.inv
    have h1 := names_calls tb A M T p i w hR hp hk hf
    have hcl : c < w.heap.size := hT.lt hInv (Or.inl rfl)
    have hlp : (sortB ((T.kids p).map (·.1))).Perm ((T.kids p).map (·.1)) := sortB_perm _
    generalize sortB ((T.kids p).map (·.1)) = l at *
    have htot := (told_all hI p pre hlp).length_eq
    rw [List.length_map] at htot
    replace htot := Lib.hid htot
    replace hcnt := Lib.hid hcnt
    replace h1 := Lib.hid h1
    replace hlp := Lib.hid hlp
    replace hI := Lib.hid hI
    replace hR := Lib.hid hR
    have hen := hT.enter
    replace hT := Lib.hid hT
    replace ih := Lib.hid ih
    replace hlen := Lib.hid hlen
    replace hInv := Lib.hid hInv
    unfold ptr at *
    go_enter Tryz.func46, Tryz.ntmps46
    go_wp2_with fail
    refine h1.out.mono ?_
    rintro e w1 ⟨⟨v1, rfl, hO1⟩, hB1⟩
    have hRd := hO1.rd
    obtain ⟨g, sc, rfl, hle, hmax⟩ := hRd.shape
    unfold maxLen at hmax
    have hInv1 := hT.out.below hInv.out hB1
    go_wp2
    go_loopw [7, 8, 12] (fun x kk ix wr => ∃ (k : Nat) (Lk : List (Bytes × Nat)), ix = .int .i64 k ∧ k ≤ l.length ∧ Lk.Perm ((l.take k).flatMap (toldOf T p pre)) ∧ Inv (D ++ Lk) wr ∧ Turn w1 wr (Cap c w1) ∧ ∀ b, Cap c wr b → Cap c w1 b ∨ w1.heap.size ≤ b) (fun x kk ix _ => l.length - (intOf ix).toNat)
    case atStart => exact ⟨0, [], rfl, Nat.zero_le _, by simp, by simpa using hInv1, Turn.refl _ _, fun b hb => Or.inl hb⟩
    case round =>
      obtain ⟨k, Lk, rfl, hkl, hLk, hInvk, hTk, hCk⟩ := hrel
      by_cases hlt : k < l.length
      · obtain ⟨g0, c', e0, hg0, _, _, hob, hcells⟩ := own_at hO1.own (by omega)
        simp only [Value.slice.injEq] at e0
        obtain ⟨rfl, _, rfl⟩ := e0
        have hg1 := (hO1.own.lt g0 rfl).2
        have hcapg : ¬ Cap c w1 g0 := fun h => by
          have := hT.out.lt hInv.out ((Cap.of_below hB1 hcl).1 h)
          omega
        have hcx : wr.cell? ⟨g0, 0 + k, none⟩ = some (.string (mkS l[k])) := by
          obtain ⟨g', o', e1, h2⟩ := hRd.cell hlt
          simp only [Option.some.injEq, Addr.mk.injEq, and_true] at e1
          obtain ⟨rfl, rfl⟩ := e1
          simpa [World.cell?, hTk.block _ hg1 hcapg] using h2
        rw [Nat.zero_add] at hcx
        have hRk := hT.out.rep hInvk
        obtain ⟨⟨x', j⟩, hxj, hx⟩ : ∃ y ∈ T.kids p, y.1 = l[k] := by
          have := hlp.out.mem_iff.1 (List.getElem_mem hlt)
          obtain ⟨y, hy, e⟩ := List.mem_map.1 this
          exact ⟨y, hy, e⟩
        dsimp only at hx
        subst hx
        have hat := hI.out.kids_at.1 hxj
        have hjm := hI.out.at_some.1 hat
        have hlk := hRk.look hp hk l[k]
        rw [hat, optPtr_some] at hlk
        obtain ⟨dvi, _, hni⟩ := hRk.node i ⟨_, hp⟩
        have c11 : wr.cell? ⟨A i, 11, none⟩ = some (kidsV (T.nd i) (M i)) := cell_of hni rfl
        rw [kidsV, if_pos hk] at c11
        have hx48 : l[k].length ≤ 48 := (hI.out.pth _ _ hjm).part (by simp)
        have hmore : D.length + Lk.length + 1 + (T.below (p ++ [l[k]])).length ≤ 3000000 := by
          have h1 := fm_len (toldOf T p pre) l hlt
          have h2 := hLk.length_eq
          have h3 : (toldOf T p pre l[k]).length = 1 + (T.below (p ++ [l[k]])).length := by
            unfold toldOf
            rw [hat]
            simp
            omega
          have h4 := htot.out
          have h5 := hcnt.out
          omega
        have htell := hT.out.tell hInvk (q := pre ++ l[k]) (j := j) (by rw [List.length_append]; omega) (by simp; omega) ⟨_, hjm⟩
        replace hmore := Lib.hid hmore
        rw [← mkS_append] at htell
        have htk : l.take (k + 1) = l.take k ++ [l[k]] := by rw [List.take_add_one, List.getElem?_eq_getElem hlt]; rfl
        have htold : toldOf T p pre l[k] = (pre ++ l[k], j) :: (T.below (p ++ [l[k]])).map fun y => (pre ++ l[k] ++ 47 :: glue y.1, y.2) := by
          unfold toldOf
          rw [hat]
        have hsz := mkS_size pre
        have hsz2 := mkS_size l[k]
        unfold ptr at htell
        replace htell := Lib.hid htell
        replace htk := Lib.hid htk
        replace htold := Lib.hid htold
        replace hRk := Lib.hid hRk
        replace hLk := Lib.hid hLk
        replace hTk := Lib.hid hTk
        replace hCk := Lib.hid hCk
        replace hcapg := Lib.hid hcapg
        replace hRd := Lib.hid hRd
        replace hO1 := Lib.hid hO1
        clear hni hat hcells hob
        go_wp2_with fail
        refine htell.out.mono ?_
        rintro e w2 ⟨rfl, hInv2, hT2, hC2⟩
        have hR2 := hT.out.rep hInv2
        obtain ⟨dvj, _, hnj⟩ := hR2.node j ⟨_, hjm⟩
        have c11j : w2.cell? ⟨A j, 11, none⟩ = some (kidsV (T.nd j) (M j)) := cell_of hnj rfl
        have hmn := fun W m => map_not_nil W m
        have hTw : Turn w1 w2 (Cap c w1) := hTk.out.trans (hT2.mono fun b _ hb => hCk.out b hb)
        have hCw : ∀ b, Cap c w2 b → Cap c w1 b ∨ w1.heap.size ≤ b := fun b hb => by
          rcases hC2 b hb with h | h
          · exact hCk.out b h
          · exact Or.inr (Nat.le_trans hTk.out.size h)
        by_cases hkj : (T.nd j).kind = 2
        · rw [kidsV, if_pos hkj] at c11j
          have hn1 : 1 ≤ n := by simpa using hlen.out [l[k]] j hjm
          have hrec := ih.out (n - 1) (by omega) (p ++ [l[k]]) j (pre ++ l[k] ++ [47]) (D ++ Lk ++ [(pre ++ l[k], j)]) w2 hjm hkj (fun t u hu => by
            have := hlen.out (l[k] :: t) u (by simpa using hu)
            simp at this
            omega) (by simp; omega) (by have := hmore.out; simp; omega) hInv2
          rw [← mkS_append, ← mkS_append, show mkS [47] = ⟨#[47]⟩ from rfl] at hrec
          have hfin : ∀ (L2 : List (Bytes × Nat)) (w3 : World), L2.Perm ((T.below (p ++ [l[k]])).map fun y => (pre ++ l[k] ++ [47] ++ glue y.1, y.2)) → Inv (D ++ Lk ++ [(pre ++ l[k], j)] ++ L2) w3 → Turn w2 w3 (Cap c w2) → (∀ b, Cap c w3 b → Cap c w2 b ∨ w2.heap.size ≤ b) →
              (Lk ++ (pre ++ l[k], j) :: L2).Perm ((l.take (k + 1)).flatMap (toldOf T p pre)) ∧ Inv (D ++ (Lk ++ (pre ++ l[k], j) :: L2)) w3 ∧ Turn w1 w3 (Cap c w1) ∧ ∀ b, Cap c w3 b → Cap c w1 b ∨ w1.heap.size ≤ b := by
            intro L2 w3 g1 g2 g3 g4
            refine ⟨?_, by simpa using g2, hTw.trans (g3.mono fun b _ hb => hCw b hb), fun b hb => ?_⟩
            · rw [htk.out, List.flatMap_append, List.flatMap_singleton, htold.out]
              refine hLk.out.append (List.Perm.cons _ (g1.trans (List.Perm.of_eq (List.map_congr_left fun y _ => by simp))))
            · rcases g4 b hb with h | h
              · exact hCw b h
              · exact Or.inr (Nat.le_trans hTw.size h)
          replace hrec := Lib.hid hrec
          replace hfin := Lib.hid hfin
          clear hInv2 hT2 hC2 hR2 hnj hInvk hkj hTw hCw
          go_wp2_with fail
          refine hrec.out.mono ?_
          rintro e w3 ⟨rfl, L2, q1, q2, q3, q4⟩
          obtain ⟨r1, r2, r3, r4⟩ := hfin.out L2 w3 q1 q2 q3 q4
          replace r1 := Lib.hid r1
          replace r2 := Lib.hid r2
          replace r3 := Lib.hid r3
          replace r4 := Lib.hid r4
          clear q1 q2 q3 q4
          go_wp2
          go_roundw
          case rel => exact ⟨k + 1, _, by go_num, by omega, r1.out, r2.out, r3.out, r4.out⟩
          case measure => simp [intOf]; omega
        · rw [kidsV, if_neg hkj] at c11j
          have hb0 := below_file hI.out hjm hkj
          have hLk2 : (Lk ++ [(pre ++ l[k], j)]).Perm ((l.take (k + 1)).flatMap (toldOf T p pre)) := by
            rw [htk.out, List.flatMap_append, List.flatMap_singleton, htold.out, hb0]
            exact hLk.out.append_right _
          have hInv3 : Inv (D ++ (Lk ++ [(pre ++ l[k], j)])) w2 := by rw [← List.append_assoc]; exact hInv2
          replace hLk2 := Lib.hid hLk2
          replace hInv3 := Lib.hid hInv3
          replace hTw := Lib.hid hTw
          replace hCw := Lib.hid hCw
          clear hInv2 hT2 hC2 hR2 hnj hInvk hb0 hkj
          go_wp2
          go_roundw
          case rel => exact ⟨k + 1, _, by go_num, by omega, hLk2.out, hInv3.out, hTw.out, hCw.out⟩
          case measure => simp [intOf]; omega
      · obtain rfl : k = l.length := by omega
        rw [List.take_length] at hLk
        have hend := hLk.trans (told_all hI.out p pre hlp.out)
        have hcap1 : ∀ b, Cap c w1 b ↔ Cap c w b := fun b => Cap.of_below hB1 hcl
        have hTt : Turn w wr (Cap c w) := (Turn.of_below hB1 _).trans (hTk.mono fun b _ hb => Or.inl ((hcap1 b).1 hb))
        have hCt : ∀ b, Cap c wr b → Cap c w b ∨ w.heap.size ≤ b := fun b hb => (hCk b hb).imp (hcap1 b).1 (fun h => Nat.le_trans hB1.size h)
        have hlt2 : ¬ (l.length : Int) < l.length := by omega
        replace hend := Lib.hid hend
        replace hInvk := Lib.hid hInvk
        replace hTt := Lib.hid hTt
        replace hCt := Lib.hid hCt
        clear hLk hTk hCk hcap1
        go_wp2
        go_end0
        exact ⟨rfl, Lk, hend.out, hInvk.out, hTt.out, hCt.out⟩

end Go.Proofs.YtocbjhhnginebaaGreat

namespace Go.Proofs.YtocbjhhnginebaaGreat
open Go.RowKit

theorem cap_plain {c : Nat} {W : World} {v : Value} (h : W.cell? ⟨c, 0, none⟩ = some v) (hv : v.ownBlock = none) {b : Nat} : Cap c W b ↔ b = c := by
  unfold Cap
  constructor
  · rintro (h1 | ⟨u, h1, h2⟩)
    · exact h1
    · rw [h] at h1
      cases h1
      rw [hv] at h2
      cases h2
  · exact Or.inl

def CountInv (tb : Nat) (A M : Nat → Nat) (T : Fs) (c : Nat) (D : List (Bytes × Nat)) (W : World) : Prop :=
  Rep W tb A M T ∧ W.heap[c]? = some (.cells #[.int .i64 (wrap64 (D.length : Int))] 3 (0, 0))

theorem wrap_again (n : Int) : IntKind.i64.wrap (wrap64 n + 1) = wrap64 (n + 1) := by
  rw [IntWalk.i64_left]
  unfold wrap64
  omega

theorem run_enter {P : Program} {f : FuncId} {fn : Func} {c : Code} (hf : P.funcs[f]? = some fn) (hname : (fn.name == "runtime.NumGoroutine") = false) (hb : fn.body = some c) (args : Array Value) (w : World) :
    (callFunc f args).run P w = .ok (.enter f args) w := by
  have h1 : fn.name ≠ "runtime.NumGoroutine" := by simpa using hname
  simp [callFunc, hf, h1, hb]

set_option maxRecDepth 100000 in
theorem count_teller (tb : Nat) (A M : Nat → Nat) (T : Fs) (c : Nat) : Teller tb A M T 53 #[ptr c] c (CountInv tb A M T c) := by
  refine ⟨fun args W => run_enter Tryz.func53 (by kernel_rfl) rfl args W, fun h => h.1, fun {D W b} h hb => ?_, fun {D W W'} h hb => ?_, fun {D W q j} h _ hq hj => ?_⟩
  · rw [cap_plain (cell_of h.2 rfl) rfl] at hb
    subst hb
    exact (Array.getElem?_eq_some_iff.1 h.2).1
  · exact ⟨h.1.below hb, (hb.block c (Array.getElem?_eq_some_iff.1 h.2).1).trans h.2⟩
  · obtain ⟨hR, hc⟩ := h
    have hno : ¬ Own tb A M T c := hR.not_own hc (by decide) (by decide)
    have c0 : W.cell? ⟨c, 0, none⟩ = some (.int .i64 (wrap64 (D.length : Int))) := cell_of hc rfl
    have f0 : W.frozen? ⟨c, 0, none⟩ = false := by simp [World.frozen?, hc]
    have hwr := wrap_again (D.length : Int)
    have hT : Turn W (W.setCell ⟨c, 0, none⟩ (.int .i64 (wrap64 ((D.length : Int) + 1)))) (fun b => b = c) := turn_set (S := fun b => b = c) (Turn.refl _ _) rfl _ _
    have h2 := heap_set_same hc 0 (.int .i64 (wrap64 ((D.length : Int) + 1)))
    have hR2 : Rep (W.setCell ⟨c, 0, none⟩ (.int .i64 (wrap64 ((D.length : Int) + 1)))) tb A M T := hR.kept (fun b hb => hT.block b (hR.lt hb) (fun e => hno (by rw [← show b = c from e]; exact hb))) (by
      rintro g ⟨cs, hg⟩
      refine hT.block g (Array.getElem?_eq_some_iff.1 hg).1 ?_
      rintro rfl
      rw [hc] at hg
      simp at hg)
    have hInv : CountInv tb A M T c (D ++ [(q, j)]) (W.setCell ⟨c, 0, none⟩ (.int .i64 (wrap64 ((D.length : Int) + 1)))) := ⟨hR2, by simpa using h2⟩
    have hcap : ∀ b, Cap c (W.setCell ⟨c, 0, none⟩ (.int .i64 (wrap64 ((D.length : Int) + 1)))) b ↔ b = c := fun b => cap_plain (cell_of h2 rfl) rfl
    have hcap0 : ∀ b, Cap c W b ↔ b = c := fun b => cap_plain c0 rfl
    have hpost : CountInv tb A M T c (D ++ [(q, j)]) (W.setCell ⟨c, 0, none⟩ (.int .i64 (wrap64 ((D.length : Int) + 1)))) ∧ Turn W (W.setCell ⟨c, 0, none⟩ (.int .i64 (wrap64 ((D.length : Int) + 1)))) (Cap c W) ∧ ∀ b, Cap c (W.setCell ⟨c, 0, none⟩ (.int .i64 (wrap64 ((D.length : Int) + 1)))) b → Cap c W b ∨ W.heap.size ≤ b :=
      ⟨hInv, hT.mono fun b _ hb => (hcap0 b).2 hb, fun b hb => Or.inl ((hcap0 b).2 ((hcap b).1 hb))⟩
    generalize wrap64 ((D.length : Int) + 1) = n1 at *
    generalize wrap64 (D.length : Int) = n0 at *
    replace hpost := Lib.hid hpost
    clear hInv hcap hcap0 hR2 h2 hT hno hR hc
    unfold ptr
    go_enter Tryz.func53, Tryz.ntmps53
    go_wp2
    go_end0
    exact ⟨rfl, hpost.out⟩

theorem Pth.few {p : Pt} (h : Pth p) : p.length ≤ 12 := by
  obtain ⟨s, h1, rfl⟩ := h
  simp only [right, Bool.and_eq_true, decide_eq_true_eq] at h1
  exact h1.1.2

theorem below_few (T : Fs) (p : Pt) : (T.below p).length ≤ T.names.length := List.length_filterMap_le _ _

set_option maxHeartbeats 1000000 in
set_option maxRecDepth 100000 in
theorem count_calls (tb : Nat) (A M : Nat → Nat) (T : Fs) (w : World) (hR : Rep w tb A M T) (hf : T.names.length ≤ 1000000) :
    Calls Tryz.prog 24 #[ptr tb] w fun e w' => e = .returned (.int .i64 (T.below []).length) ∧ Below w.heap.size w w' := by
  have hI := hR.inv
  have hbf := below_few T []
  have hB0 : ∀ o, Below w.heap.size w (w.alloc o) := fun o => (Below.refl _ _).alloc (Nat.le_refl _) _
  have hblk := (MapKept.heap_alloc w (.cells #[.int .i64 0] 3)).1
  have hR1 := hR.below (hB0 (.cells #[.int .i64 0] 3))
  have hE := each_calls (count_teller tb A M T w.heap.size) hf 12 [] 1 [] [] (w.alloc (.cells #[.int .i64 0] 3)) hI.one hI.topKind (fun t j hm => (hI.pth _ _ hm).few) (by simp) (by simp; omega) ⟨hR1, by simpa [wrap64] using hblk⟩
  have c0 : w.cell? ⟨tb, 0, none⟩ = some (ptr (A 1)) := cell_of hR.tree rfl
  have htl : tb < w.heap.size := hR.lt (Or.inl rfl)
  unfold ptr at *
  rw [show mkS [] = ⟨#[]⟩ from rfl] at hE
  replace hE := Lib.hid hE
  replace hR1 := Lib.hid hR1
  replace hR := Lib.hid hR
  replace hblk := Lib.hid hblk
  go_enter Tryz.func24, Tryz.ntmps24
  go_wp2_with fail
  refine hE.out.mono ?_
  rintro e w1 ⟨rfl, L, hL, hInv, hT, _⟩
  have hcell : w1.cell? ⟨w.heap.size, 0, none⟩ = some (.int .i64 ((T.below []).length : Int)) := by
    have h1 := hL.length_eq
    rw [List.length_map] at h1
    have h2 : w1.cell? ⟨w.heap.size, 0, none⟩ = some (.int .i64 (wrap64 (([] ++ L).length : Int))) := cell_of hInv.2 rfl
    rw [List.nil_append, h1] at h2
    rw [h2]
    congr 2
    unfold wrap64
    omega
  have hB : Below w.heap.size w w1 := by
    refine (hB0 _).trans ⟨hT.os, hT.tape, hT.output, hT.size, fun k hk => hT.block k (by simp; omega) ?_⟩
    intro hc
    rw [cap_plain (cell_of hblk.out rfl) rfl] at hc
    omega
  replace hB := Lib.hid hB
  clear hInv hT hL
  go_wp2
  go_ret
  exact ⟨rfl, hB.out⟩

end Go.Proofs.YtocbjhhnginebaaGreat

namespace Go.Proofs.YtocbjhhnginebaaGreat
open Go.RowKit

def FitsInv (tb : Nat) (A M : Nat → Nat) (T : Fs) (c : Nat) (D : List (Bytes × Nat)) (W : World) : Prop :=
  Rep W tb A M T ∧ W.heap[c]? = some (.cells #[.bool (D.all fun x => right x.1)] 4 (0, 0))

/-- A store into a closure's one plain variable. -/
theorem cap_store {w W : World} {tb : Nat} {A M : Nat → Nat} {T : Fs} {c : Nat} {t : TypeId} {v0 v1 : Value} (hR : Rep W tb A M T) (hc : W.heap[c]? = some (.cells #[v0] t (0, 0))) (h1 : v1.ownBlock = none)
    (ht1 : t ≠ 90) (ht2 : t ≠ 110) (ht3 : t ≠ 5) (hB : Below w.heap.size w W) (hw : c < w.heap.size) :
    Rep (W.setCell ⟨c, 0, none⟩ v1) tb A M T ∧ (W.setCell ⟨c, 0, none⟩ v1).heap[c]? = some (.cells #[v1] t (0, 0)) ∧ Turn w (W.setCell ⟨c, 0, none⟩ v1) (Cap c w) ∧ ∀ b, Cap c (W.setCell ⟨c, 0, none⟩ v1) b → Cap c w b ∨ w.heap.size ≤ b := by
  have hno : ¬ Own tb A M T c := hR.not_own hc ht1 ht2
  have hT : Turn W (W.setCell ⟨c, 0, none⟩ v1) (fun b => b = c) := turn_set (S := fun b => b = c) (Turn.refl _ _) rfl _ _
  have h2 := heap_set_same hc 0 v1
  have hR2 : Rep (W.setCell ⟨c, 0, none⟩ v1) tb A M T := hR.kept (fun b hb => hT.block b (hR.lt hb) (fun e => hno (by rw [← show b = c from e]; exact hb))) (by
    rintro g ⟨cs, hg⟩
    refine hT.block g (Array.getElem?_eq_some_iff.1 hg).1 ?_
    rintro rfl
    rw [hc] at hg
    simp only [Option.some.injEq, Obj.cells.injEq] at hg
    exact ht3 hg.2.1)
  have hcap : ∀ b, Cap c (W.setCell ⟨c, 0, none⟩ v1) b ↔ b = c := fun b => cap_plain (cell_of h2 rfl) h1
  have hTw : Turn w (W.setCell ⟨c, 0, none⟩ v1) (fun b => b = c) := (Turn.of_below hB _).trans (hT.mono fun b _ hb => Or.inl hb)
  exact ⟨hR2, h2, hTw.mono fun b _ hb => Or.inl hb, fun b hb => Or.inl (Or.inl ((hcap b).1 hb))⟩

set_option maxHeartbeats 1000000 in
set_option maxRecDepth 100000 in
theorem fits_teller (tb : Nat) (A M : Nat → Nat) (T : Fs) (c : Nat) : Teller tb A M T 148 #[ptr c] c (FitsInv tb A M T c) := by
  refine ⟨fun args W => run_enter Tryz.func148 (by kernel_rfl) rfl args W, fun h => h.1, fun {D W b} h hb => ?_, fun {D W W'} h hb => ?_, fun {D W q j} h _ hq hj => ?_⟩
  · rw [cap_plain (cell_of h.2 rfl) rfl] at hb
    subst hb
    exact (Array.getElem?_eq_some_iff.1 h.2).1
  · exact ⟨h.1.below hb, (hb.block c (Array.getElem?_eq_some_iff.1 h.2).1).trans h.2⟩
  · obtain ⟨hR, hc⟩ := h
    have hlt := (Array.getElem?_eq_some_iff.1 hc).1
    have hr := fun W => right_calls (mkS q) W (by rw [mkS_size]; exact hq)
    rw [bl_mkS] at hr
    have hall : (D ++ [(q, j)]).all (fun x => right x.1) = ((D.all fun x => right x.1) && right q) := by simp
    have hfin : ∀ W', Below W.heap.size W W' → ∀ b1 : Bool, b1 = ((D.all fun x => right x.1) && right q) → (FitsInv tb A M T c (D ++ [(q, j)]) (W'.setCell ⟨c, 0, none⟩ (.bool b1)) ∧ Turn W (W'.setCell ⟨c, 0, none⟩ (.bool b1)) (Cap c W) ∧ ∀ b, Cap c (W'.setCell ⟨c, 0, none⟩ (.bool b1)) b → Cap c W b ∨ W.heap.size ≤ b) ∧ W'.cell? ⟨c, 0, none⟩ = some (.bool (D.all fun x => right x.1)) ∧ W'.frozen? ⟨c, 0, none⟩ = false := by
      rintro W' hB b1 rfl
      have hc' := (hB.block c hlt).trans hc
      obtain ⟨g1, g2, g3, g4⟩ := cap_store (v1 := .bool ((D.all fun x => right x.1) && right q)) (hR.below hB) hc' rfl (by decide) (by decide) (by decide) hB hlt
      exact ⟨⟨⟨g1, by rw [hall]; exact g2⟩, g3, g4⟩, cell_of hc' rfl, by simp [World.frozen?, hc']⟩
    have c0 : W.cell? ⟨c, 0, none⟩ = some (.bool (D.all fun x => right x.1)) := cell_of hc rfl
    have f0 : W.frozen? ⟨c, 0, none⟩ = false := by simp [World.frozen?, hc]
    generalize (D.all fun x => right x.1) = b0 at *
    generalize right q = bq at *
    unfold ptr
    cases b0 with
    | false =>
      have hf := (hfin W (Below.refl _ _) false rfl).1
      replace hf := Lib.hid hf
      clear hfin hR hc hr hall
      go_enter Tryz.func148, Tryz.ntmps148
      go_wp2
      go_end0
      exact ⟨rfl, hf.out⟩
    | true =>
      replace hr := Lib.hid hr
      replace hfin := Lib.hid hfin
      clear hR hc hall
      go_enter Tryz.func148, Tryz.ntmps148
      go_wp2_with fail
      refine (hr.out _).mono ?_
      rintro e w1 ⟨rfl, hB1⟩
      obtain ⟨hf, c1, f1⟩ := hfin.out w1 hB1 bq (by simp)
      replace hf := Lib.hid hf
      go_wp2
      go_end0
      exact ⟨rfl, hf.out⟩

set_option maxHeartbeats 1000000 in
set_option maxRecDepth 100000 in
theorem fits_calls (tb : Nat) (A M : Nat → Nat) (T : Fs) (p : Pt) (i : Nat) (q : ByteArray) (w : World) (hR : Rep w tb A M T) (hp : (p, i) ∈ T.names) (hk : (T.nd i).kind = 2) (hq : q.size ≤ 1000000) (hf : T.names.length ≤ 1000000) :
    Calls Tryz.prog 120 #[ptr (A i), .string q] w fun e w' => e = .returned (.bool ((T.below p).all fun y => right (bl q ++ 47 :: glue y.1))) ∧ Below w.heap.size w w' := by
  have hI := hR.inv
  have hB0 : ∀ o, Below w.heap.size w (w.alloc o) := fun o => (Below.refl _ _).alloc (Nat.le_refl _) _
  have hblk := (MapKept.heap_alloc w (.cells #[.bool true] 4)).1
  have hR1 := hR.below (hB0 (.cells #[.bool true] 4))
  have hE := each_calls (fits_teller tb A M T w.heap.size) hf 12 p i (bl q ++ [47]) [] (w.alloc (.cells #[.bool true] 4)) hp hk (fun t j hm => by
    have := (hI.pth _ _ hm).few
    simp at this
    omega) (by simp [bl_length]; omega) (by have := below_few T p; simp; omega) ⟨hR1, hblk⟩
  rw [← mkS_append, mkS_bl, show mkS [47] = ⟨#[47]⟩ from rfl] at hE
  unfold ptr at *
  replace hE := Lib.hid hE
  replace hR1 := Lib.hid hR1
  replace hR := Lib.hid hR
  replace hblk := Lib.hid hblk
  go_enter Tryz.func120, Tryz.ntmps120
  go_wp2_with fail
  refine hE.out.mono ?_
  rintro e w1 ⟨rfl, L, hL, hInv, hT, _⟩
  have hcell : w1.cell? ⟨w.heap.size, 0, none⟩ = some (.bool ((T.below p).all fun y => right (bl q ++ 47 :: glue y.1))) := by
    have h2 : w1.cell? ⟨w.heap.size, 0, none⟩ = some (.bool (([] ++ L).all fun x => right x.1)) := cell_of hInv.2 rfl
    rw [h2, List.nil_append, hL.all_eq, List.all_map]
    simp [Function.comp_def]
  have hB : Below w.heap.size w w1 := by
    refine (hB0 _).trans ⟨hT.os, hT.tape, hT.output, hT.size, fun k hk => hT.block k (by simp; omega) ?_⟩
    intro hc
    rw [cap_plain (cell_of hblk.out rfl) rfl] at hc
    omega
  replace hB := Lib.hid hB
  clear hInv hT hL
  generalize hr : ((T.below p).all fun y => right (bl q ++ 47 :: glue y.1)) = r at hcell
  replace hr := Lib.hid hr
  go_wp2
  go_ret
  exact ⟨by rw [hr.out]; rfl, hB.out⟩

end Go.Proofs.YtocbjhhnginebaaGreat

namespace Go.Proofs.YtocbjhhnginebaaGreat
open Go.RowKit

def Fs.fits (T : Fs) (o p : Bytes) : Bool := (T.below (split o)).all fun y => right (p ++ 47 :: glue y.1)

/-- .. behind all that is looked up: the name's thing i; what stands at the new path, wn, and whether it could be looked up, le. -/
def Fs.ren3 (T : Fs) (o p : Bytes) (i : Nat) (wn : Option Nat) (le : Int) : Fs × Int :=
  if (T.nd i).kind = 2 ∧ p ≠ o ∧ under p o = true then (T, 2) else if le ≠ 0 then (T, le) else
  if (T.nd i).kind = 2 ∧ wn ≠ none then (T, 11) else if (T.nd i).kind = 2 ∧ T.fits o p = false then (T, 7) else
  match wn with
  | none => (T.move (split o) (split p), 0)
  | some j => if (T.nd j).kind = 2 then (T, 13) else if j = i then (T, 0) else ((T.gone (split p) j).move (split o) (split p), 0)
def Fs.ren2 (T : Fs) (o p : Bytes) (n : Option Nat) (te : Int) (wn : Option Nat) (le : Int) : Fs × Int :=
  if o = [] ∨ p = [] then (T, 2) else if te ≠ 0 then (T, te) else
  match n with
  | none => (T, 0)
  | some i => T.ren3 o p i wn le
def Fs.rename (T : Fs) (o p : Bytes) : Fs × Int :=
  if right o = false ∨ right p = false then (T, 9) else T.ren2 o p (T.there o).1 (T.there o).2.2 (T.look p).1 (T.look p).2.2

theorem split_below {p : Bytes} (hp : p ≠ []) {t : Pt} (ht : t ≠ []) (h47 : ∀ x ∈ t, (47 : UInt8) ∉ x) : split (p ++ 47 :: glue t) = split p ++ t := by
  have h1 : p ++ 47 :: glue t = glue (split p ++ t) := by
    have hs : split p ≠ [] := fun e => hp (split_eq_nil e)
    have := glue_split p
    conv => lhs; rw [← this]
    generalize split p = l at hs
    clear this
    induction l with
    | nil => exact absurd rfl hs
    | cons a r ih =>
      by_cases hr : r = []
      · subst hr
        show a ++ 47 :: glue t = glue (a :: t)
        rw [glue_cons a ht]
      · rw [List.cons_append, glue_cons a hr, glue_cons a (by simp [hr]), ← ih hr]
        simp
  rw [h1, split_ne (by rw [← h1]; simp)]
  exact splitL_glue (by simp [ht]) (fun x hx => by
    rcases List.mem_append.1 hx with h | h
    · exact split_parts p x h
    · exact h47 x h)

theorem Pth.no_slash {p : Pt} (h : Pth p) {x : Bytes} (hx : x ∈ p) : (47 : UInt8) ∉ x := by
  obtain ⟨s, _, rfl⟩ := h
  exact split_parts s x hx

/-- A file is above nothing. -/
theorem file_not_above {T : Fs} (hI : T.Inv) {o p : Pt} {i d : Nat} (hi : (o, i) ∈ T.names) (hk : (T.nd i).kind ≠ 2) (hd : (p.dropLast, d) ∈ T.names) (hdk : (T.nd d).kind = 2) (hne : p ≠ o) : ¬ o <+: p := by
  rintro ⟨t, rfl⟩
  have ht : t ≠ [] := fun e => hne (by rw [e, List.append_nil])
  rw [dropLast_append ht] at hd
  by_cases h0 : t.dropLast = []
  · rw [h0, List.append_nil] at hd
    have := hI.at_one hi hd
    subst this
    exact hk hdk
  · have := hI.at_below t.dropLast h0 (p := o) (fun j hj => by rw [hI.at_some.2 hi] at hj; cases hj; exact hk)
    rw [hI.at_some.2 hd] at this
    cases this

theorem under_prefix {p top : Bytes} : under p top = true ↔ split top <+: split p := List.isPrefixOf_iff_prefix

theorem moves_of {T : Fs} (hI : T.Inv) {o p : Bytes} {i d : Nat} (hp : right p = true) (ho0 : o ≠ []) (hp0 : p ≠ []) (hi : (split o, i) ∈ T.names) (hd : ((split p).dropLast, d) ∈ T.names) (hdk : (T.nd d).kind = 2) (hn : T.at (split p) = none)
    (h1 : ¬ ((T.nd i).kind = 2 ∧ p ≠ o ∧ under p o = true)) (h2 : ¬ ((T.nd i).kind = 2 ∧ T.fits o p = false)) : Moves T (split o) (split p) i d := by
  have hpo : split p ≠ split o := fun e => by
    rw [e] at hn
    rw [hI.at_some.2 hi] at hn
    cases hn
  refine ⟨hi, fun e => ho0 (split_eq_nil e), fun e => hp0 (split_eq_nil e), hn, hd, hdk, ?_, ?_⟩
  · by_cases hk : (T.nd i).kind = 2
    · exact fun h => h1 ⟨hk, fun e => hpo (by rw [e]), under_prefix.2 h⟩
    · exact file_not_above hI hi hk hd hdk hpo
  · intro t j hm
    by_cases ht : t = []
    · subst ht
      rw [List.append_nil]
      exact ⟨p, hp, rfl⟩
    · have hP := hI.pth _ _ hm
      by_cases hk : (T.nd i).kind = 2
      · have hf : T.fits o p = true := by
          cases hf : T.fits o p with
          | true => rfl
          | false => exact absurd ⟨hk, hf⟩ h2
        have := List.all_eq_true.1 hf (t, j) (mem_below.2 ⟨ht, hm⟩)
        exact ⟨_, this, split_below hp0 ht fun x hx => hP.no_slash (List.mem_append_right _ hx)⟩
      · have := hI.at_below t ht (p := split o) (fun j hj => by rw [hI.at_some.2 hi] at hj; cases hj; exact hk)
        rw [hI.at_some.2 hm] at this
        cases this

/-- .. and where a file is replaced. -/
theorem moves_over {T : Fs} (hI : T.Inv) {o p : Bytes} {i j d : Nat} (hp : right p = true) (ho0 : o ≠ []) (hp0 : p ≠ []) (hi : (split o, i) ∈ T.names) (hd : ((split p).dropLast, d) ∈ T.names) (hdk : (T.nd d).kind = 2) (hj : (split p, j) ∈ T.names) (hjk : (T.nd j).kind ≠ 2)
    (hij : j ≠ i) (hik : (T.nd i).kind ≠ 2) : (T.gone (split p) j).Inv ∧ Moves (T.gone (split p) j) (split o) (split p) i d := by
  have hp1 : split p ≠ [] := fun e => hp0 (split_eq_nil e)
  have hI1 := gone_inv hI hj hp1 (kids_file hI hj hjk)
  have hpo : split p ≠ split o := fun e => hij (hI.at_one hj (e ▸ hi))
  refine ⟨hI1, moves_of hI1 hp ho0 hp0 ((mem_gone _ _).2 ⟨hi, hpo.symm⟩) ((mem_gone _ _).2 ⟨hd, dropLast_ne hp1⟩) (by rw [gone_kind]; exact hdk) ?_ (fun h => hik (by rw [← gone_kind (p := split p) (i := j)]; exact h.1)) (fun h => hik (by rw [← gone_kind (p := split p) (i := j)]; exact h.1))⟩
  refine Fs.at_none.2 fun k hk => ?_
  exact ((mem_gone _ _).1 hk).2 rfl

theorem map_split {A : Nat → Nat} {K K0 : List (Bytes × Nat)} {x : Bytes} {i : Nat} (hk : K.Perm ((x, i) :: K0)) : (entries A K).Perm ((.string (mkS x), ptr (A i)) :: entries A K0) := hk.map _

theorem entries_miss {A : Nat → Nat} {K : List (Bytes × Nat)} {x : Bytes} (h : ∀ j, (x, j) ∉ K) : ∀ q ∈ entries A K, q.1 ≠ .string (mkS x) := by
  intro q hq e
  obtain ⟨⟨y, j⟩, hy, rfl⟩ := List.mem_map.1 hq
  simp only [Value.string.injEq] at e
  rw [mkS_inj e] at hy
  exact h j hy

/-- The two last steps of a Rename: the one name is taken out, the other one stored. -/
theorem move_end {w : World} {tb : Nat} {A M : Nat → Nat} {T : Fs} {o p : Bytes} {i d f : Nat} (hR : Rep w tb A M T) (h : Moves T (split o) (split p) i d) (hf : ((split o).dropLast, f) ∈ T.names) (hfk : (T.nd f).kind = 2) (ty : TypeId) :
    ∃ w1, (Builtin.delete_ #[108, 9] ty #[.map (some (M f)), .string (mkS (base o))]).run Tryz.prog w.drew = .ok (.tuple #[]) w1 ∧ w1.heap[A d]? = w.heap[A d]? ∧
      ∃ w2, (Instr.mapUpdate 108 (.map (some (M d))) (.string (mkS (base p))) (ptr (A i))).run Tryz.prog w1.drew = .ok () w2 ∧ Rep w2 tb A M (T.move (split o) (split p)) ∧ Turn w w2 (fun b => b = M f ∨ b = M d) := by
  have hI := hR.inv
  have hbo : base o = (split o).getLastD [] := rfl
  have hbp : base p = (split p).getLastD [] := rfl
  have hnf : ¬ split o <+: (split o).dropLast := fun hp => by
    obtain ⟨t, e⟩ := hp
    exact not_under_up h.one t e
  have hnd : ¬ split o <+: (split p).dropLast := fun hp => h.apart (hp.trans (List.dropLast_prefix _))
  obtain ⟨K0, k1, k2⟩ := kids_move_stay hI h hf hnf
  rw [if_pos rfl, List.singleton_append] at k1
  have hMf : MapIs w.drew (M f) (entries A (T.kids (split o).dropLast)) := hR.kids _ f hf hfk
  have hkey := keyable_string Tryz.underlying9 w.drew (mkS (base o)) (entries_keys A (T.kids (split o).dropLast))
  obtain ⟨w1, hrun1, hm1, ht1⟩ := hMf.drop_hit under_kids hkey (r := entries A K0) (by rw [hbo]; exact map_split k1) ty
  have hg1 := ht1.grown
  have hAd : w1.heap[A d]? = w.heap[A d]? := by
    obtain ⟨dv, _, hnode⟩ := hR.node d ⟨_, h.dir⟩
    exact hg1.block _ (Array.getElem?_eq_some_iff.1 hnode).1 (by have := hR.map_node hf hfk ⟨_, h.dir⟩ (j := d); simpa using this.symm)
  refine ⟨w1, hrun1, hAd, ?_⟩
  by_cases hfd : f = d
  · subst hfd
    have hup := hI.dir_one hf h.dir hfk
    rw [if_pos hup, List.singleton_append] at k2
    have hm1' : MapIs w1.drew (M f) (entries A K0) := hm1
    have hmiss : ∀ q ∈ entries A K0, q.1 ≠ .string (mkS (base p)) := entries_miss fun j hj => by
      have : (base p, j) ∈ T.kids (split p).dropLast := by rw [hup]; exact k1.mem_iff.2 (List.mem_cons_of_mem _ hj)
      have := mem_kidsL.1 this
      rw [hbp, ← snoc_of h.two rfl] at this
      exact Fs.at_none.1 h.free j this
    have hkey2 := keyable_string Tryz.underlying9 w1.drew (mkS (base p)) (entries_keys A K0)
    obtain ⟨w2, hrun2, hm2, ht2⟩ := hm1'.store_new under_kids (v := ptr (A i)) hkey2 hmiss
    have hg2 := ht2.grown
    have htt : Turn w w2 (fun b => b = M f ∨ b = M f) := ((((Turn.refl w _).drewN 1).trans (Turn.of_grown hg1 (fun j e => by cases e; exact Or.inl (Or.inl rfl)))).drewN 1).trans (Turn.of_grown hg2 (fun j e => by cases e; exact Or.inl (Or.inl rfl)))
    have hm3 : MapIs w2 (M f) (entries A ((T.move (split o) (split p)).kids (split o).dropLast)) := hm2.perm (by rw [hbp]; exact k2.map _)
    exact ⟨w2, hrun2, rep_move hR h hf hfk htt hm3 (by rw [hup]; exact hm3), htt⟩
  · have hup : (split p).dropLast ≠ (split o).dropLast := fun e => hfd (hI.at_one hf (e ▸ h.dir))
    rw [if_neg hup, List.nil_append] at k2
    obtain ⟨K1, g1, g2⟩ := kids_move_stay hI h h.dir hnd
    rw [if_neg hup.symm, List.nil_append] at g1
    rw [if_pos rfl, List.singleton_append] at g2
    have hMM : M d ≠ M f := fun e => hfd (hR.injM f d ⟨_, hf⟩ ⟨_, h.dir⟩ hfk h.kind e.symm)
    have hMd : MapIs w1.drew (M d) (entries A (T.kids (split p).dropLast)) := by
      have : MapIs w1 (M d) (entries A (T.kids (split p).dropLast)) := (show MapIs w.drew (M d) _ from hR.kids _ d h.dir h.kind).kept hg1 (by simpa using hMM)
      exact this
    have hmiss : ∀ q ∈ entries A (T.kids (split p).dropLast), q.1 ≠ .string (mkS (base p)) := entries_miss fun j hj => by
      have := mem_kidsL.1 hj
      rw [hbp, ← snoc_of h.two rfl] at this
      exact Fs.at_none.1 h.free j this
    have hkey2 := keyable_string Tryz.underlying9 w1.drew (mkS (base p)) (entries_keys A (T.kids (split p).dropLast))
    obtain ⟨w2, hrun2, hm2, ht2⟩ := hMd.store_new under_kids (v := ptr (A i)) hkey2 hmiss
    have hg2 := ht2.grown
    have htt : Turn w w2 (fun b => b = M f ∨ b = M d) := ((((Turn.refl w _).drewN 1).trans (Turn.of_grown hg1 (fun j e => by cases e; exact Or.inl (Or.inl rfl)))).drewN 1).trans (Turn.of_grown hg2 (fun j e => by cases e; exact Or.inl (Or.inr rfl)))
    have hm3 : MapIs w2 (M f) (entries A ((T.move (split o) (split p)).kids (split o).dropLast)) := (show MapIs w1.drew (M f) _ from hm1.perm (k2.map _)).kept hg2 (by simpa using hMM.symm)
    have hm4 : MapIs w2 (M d) (entries A ((T.move (split o) (split p)).kids (split p).dropLast)) := hm2.perm (by rw [hbp]; exact (g2.trans (g1.symm.cons _)).map _)
    exact ⟨w2, hrun2, rep_move hR h hf hfk htt hm3 hm4, htt⟩

end Go.Proofs.YtocbjhhnginebaaGreat

namespace Go.Proofs.YtocbjhhnginebaaGreat
open Go.RowKit

theorem Stp.of_two {w w' : World} {tb : Nat} {A M : Nat → Nat} {T T' : Fs} {S : Nat → Prop} (h : Rep w' tb A M T') (ht : Turn w w' S) (hS : ∀ b, S b → Own tb A M T b) (hown : ∀ b, Own tb A M T' b → Own tb A M T b) : Stp w w' tb A M T T' :=
  ⟨A, M, h, ht.mono fun b _ hb => hS b hb, fun _ hb => Or.inl (hown _ hb)⟩

theorem move_own {tb : Nat} {A M : Nat → Nat} {T : Fs} {o p : Pt} {b : Nat} (h : Own tb A M (T.move o p) b) : Own tb A M T b :=
  own_change (T := T) (T' := T.move o p) (fun j ⟨q, hm⟩ => by obtain ⟨r, hr, _⟩ := (mem_move q j).1 hm; exact ⟨r, hr⟩) (fun _ _ => rfl) h
theorem gone_own {tb : Nat} {A M : Nat → Nat} {T : Fs} {p : Pt} {i b : Nat} (h : Own tb A M (T.gone p i) b) : Own tb A M T b :=
  own_change (T' := T.gone p i) (fun _ hj => gone_live hj) (fun j _ => gone_kind j) h

/-- The steps behind all the errors: what stood there goes, the name moves. -/
def RenTail (w : World) (tb : Nat) (A M : Nat → Nat) (T T' : Fs) (o p : ByteArray) (i d f : Nat) : Prop :=
  Calls Tryz.prog 86 #[.pointer (some ⟨A d, 0, none⟩), .string p] w fun e w0 => e = .returned (.tuple #[]) ∧
    w0.cell? ⟨A f, 11, none⟩ = some (.map (some (M f))) ∧
    ∃ w1, (Builtin.delete_ #[108, 9] 0 #[.map (some (M f)), .string (mkS (base (bl o)))]).run Tryz.prog w0.drew = .ok (.tuple #[]) w1 ∧ w1.cell? ⟨A d, 11, none⟩ = some (.map (some (M d))) ∧
      ∃ w2, (Instr.mapUpdate 108 (.map (some (M d))) (.string (mkS (base (bl p)))) (.pointer (some ⟨A i, 0, none⟩))).run Tryz.prog w1.drew = .ok () w2 ∧ Stp w w2 tb A M T T'

theorem dir_cell {w : World} {tb : Nat} {A M : Nat → Nat} {T : Fs} (hR : Rep w tb A M T) {q : Pt} {d : Nat} (hd : (q, d) ∈ T.names) (hk : (T.nd d).kind = 2) : w.cell? ⟨A d, 11, none⟩ = some (.map (some (M d))) := by
  obtain ⟨dvd, _, hnd⟩ := hR.node d ⟨_, hd⟩
  have := cell_of (j := 11) hnd (v := kidsV (T.nd d) (M d)) rfl
  rwa [kidsV, if_pos hk] at this

theorem ren_tail {w w0 : World} {tb : Nat} {A M : Nat → Nat} {T T1 : Fs} {o p : ByteArray} {i d f : Nat} {S : Nat → Prop} (hR1 : Rep w0 tb A M T1) (h : Moves T1 (split (bl o)) (split (bl p)) i d) (hf : ((split (bl o)).dropLast, f) ∈ T1.names) (hfk : (T1.nd f).kind = 2)
    (ht : Turn w w0 S) (hS : ∀ b, S b → Own tb A M T b) (hown : ∀ b, Own tb A M T1 b → Own tb A M T b) :
    w0.cell? ⟨A f, 11, none⟩ = some (.map (some (M f))) ∧
    ∃ w1, (Builtin.delete_ #[108, 9] 0 #[.map (some (M f)), .string (mkS (base (bl o)))]).run Tryz.prog w0.drew = .ok (.tuple #[]) w1 ∧ w1.cell? ⟨A d, 11, none⟩ = some (.map (some (M d))) ∧
      ∃ w2, (Instr.mapUpdate 108 (.map (some (M d))) (.string (mkS (base (bl p)))) (.pointer (some ⟨A i, 0, none⟩))).run Tryz.prog w1.drew = .ok () w2 ∧ Stp w w2 tb A M T (T1.move (split (bl o)) (split (bl p))) := by
  obtain ⟨w1, g1, g2, w2, g3, g4, g5⟩ := move_end hR1 h hf hfk 0
  have c2 := dir_cell hR1 h.dir h.kind
  refine ⟨dir_cell hR1 hf hfk, w1, g1, ?_, w2, g3, ?_⟩
  · rw [← c2]
    simp only [World.cell?, g2]
  · have g6 : Turn w0 w2 (Own tb A M T) := g5.mono (by
      rintro b _ (rfl | rfl)
      · exact hown _ (Or.inr (Or.inr ⟨f, ⟨_, hf⟩, hfk, rfl⟩))
      · exact hown _ (Or.inr (Or.inr ⟨d, ⟨_, h.dir⟩, h.kind, rfl⟩)))
    exact Stp.of_two g4 ((ht.mono fun b _ hb => hS b hb).trans (g6.mono fun b _ hb => Or.inl hb)) (fun b hb => hb) (fun b hb => hown b (move_own hb))

theorem ren_free {w : World} {tb : Nat} {A M : Nat → Nat} {T : Fs} {o p : ByteArray} {i d f : Nat} (hR : Rep w tb A M T) (hps : p.size ≤ 16777216) (hp0 : bl p ≠ []) (h : Moves T (split (bl o)) (split (bl p)) i d) (hf : ((split (bl o)).dropLast, f) ∈ T.names) (hfk : (T.nd f).kind = 2) :
    RenTail w tb A M T (T.move (split (bl o)) (split (bl p))) o p i d f := by
  refine (out_none tb A M T p d w hR hps hp0 h.dir h.kind h.free).mono ?_
  rintro e w' ⟨rfl, rfl⟩
  exact ⟨rfl, ren_tail hR h hf hfk (Turn.refl _ (fun _ => False)) (fun _ h => h.elim) (fun _ h => h)⟩

theorem ren_over {w : World} {tb : Nat} {A M : Nat → Nat} {T : Fs} {o p : ByteArray} {i j d f : Nat} (hR : Rep w tb A M T) (hps : p.size ≤ 16777216) (hp0 : bl p ≠ []) (hfew : T.names.length ≤ 1000000)
    (hd : ((split (bl p)).dropLast, d) ∈ T.names) (hdk : (T.nd d).kind = 2) (hj : (split (bl p), j) ∈ T.names) (hjk : (T.nd j).kind ≠ 2)
    (h : Moves (T.gone (split (bl p)) j) (split (bl o)) (split (bl p)) i d) (hf : ((split (bl o)).dropLast, f) ∈ T.names) (hfk : (T.nd f).kind = 2) :
    RenTail w tb A M T ((T.gone (split (bl p)) j).move (split (bl o)) (split (bl p))) o p i d f := by
  have hk0 := kids_file hR.inv hj hjk
  refine (out_calls tb A M T p d j w hR hps hp0 hd hdk hj hk0 hfew).mono ?_
  rintro e w' ⟨rfl, hR1, ht⟩
  have hfp : (split (bl o)).dropLast ≠ split (bl p) := fun e => by
    rw [e] at hf
    have := hR.inv.at_one hf hj
    subst this
    exact hjk hfk
  refine ⟨rfl, ren_tail hR1 h ((mem_gone _ _).2 ⟨hf, hfp⟩) (by rw [gone_kind]; exact hfk) ht ?_ (fun _ h => gone_own h)⟩
  rintro b (rfl | rfl)
  · exact Or.inr (Or.inl ⟨j, ⟨_, hj⟩, rfl⟩)
  · exact Or.inr (Or.inr ⟨d, ⟨_, hd⟩, hdk, rfl⟩)

theorem info_node : Tryz.prog.info? 110 = some (Tryz.prog.types[110]'(by decide +kernel)) := by kernel_rfl
theorem node_size : (Tryz.prog.types[110]'(by decide +kernel)).size ≠ 0 := by decide +kernel

theorem run_eql_nil_ptr {P : Program} (w : World) {tp te : TypeId} (a : Addr) (hp : P.underlying tp = some (.pointer te)) :
    (binOp .eql tp (.pointer none) (.pointer (some a))).run P w = .ok (.bool false) w := by
  have h : ∀ d : Nat, (Op.equalIn (d + 1) tp (.pointer none) (.pointer (some a))).run P w = .ok false w := fun d => by
    simp [Op.equalIn, run_underlying hp, sizeOf, typeInfo]
  simp only [binOp]
  simp [Op.equal, Op.maxDepth, h 9999]

theorem str_same (a b : ByteArray) : a.toList = b.toList ↔ bl a = bl b := by rw [toList_bl, toList_bl]

set_option maxHeartbeats 8000000 in
set_option maxRecDepth 100000 in
theorem ren_main (tb : Nat) (A M : Nat → Nat) (T : Fs) (o p : ByteArray) (w : World) (res : Fs × Int) (i f : Nat) (wn wd : Option Nat) (le : Int) (hR : Rep w tb A M T)
    (h0 : Hid (∀ W, Calls Tryz.prog 37 #[.string o] W fun e w' => e = .returned (.bool true) ∧ Below W.heap.size W w'))
    (h1 : Hid (∀ W, Calls Tryz.prog 37 #[.string p] W fun e w' => e = .returned (.bool true) ∧ Below W.heap.size W w'))
    (h2 : Hid (∀ W, Rep W tb A M T → Calls Tryz.prog 44 #[.pointer (some ⟨tb, 0, none⟩), .string o] W fun e w' => e = .returned (.tuple #[optPtr A (some i), optPtr A (some f), .int .i64 0]) ∧ Below W.heap.size W w'))
    (h3 : Hid (∀ W, Rep W tb A M T → Calls Tryz.prog 68 #[.pointer (some ⟨tb, 0, none⟩), .string p] W fun e w' => e = .returned (.tuple #[optPtr A wn, optPtr A wd, .int .i64 le]) ∧ Below W.heap.size W w'))
    (h4 : Hid (∀ W, Calls Tryz.prog 23 #[.string p, .string o] W fun e w' => e = .returned (.bool (under (bl p) (bl o))) ∧ Below W.heap.size W w'))
    (hb1 : Hid (∀ W, Calls Tryz.prog 119 #[.string o] W fun e w' => e = .returned (.string (mkS (base (bl o)))) ∧ W = w'))
    (hb2 : Hid (∀ W, Calls Tryz.prog 119 #[.string p] W fun e w' => e = .returned (.string (mkS (base (bl p)))) ∧ W = w'))
    (hI : Hid T.Inv) (hi : (split (bl o), i) ∈ T.names) (hfm : ((split (bl o)).dropLast, f) ∈ T.names) (hfk : (T.nd f).kind = 2)
    (hlo : Hid (le = 0 → right (bl p) = true ∧ wn = T.at (split (bl p)) ∧ (bl p = [] ∧ wn = some 1 ∧ wd = none ∨ bl p ≠ [] ∧ ∃ d, wd = some d ∧ ((split (bl p)).dropLast, d) ∈ T.names ∧ (T.nd d).kind = 2)))
    (ho0 : Hid (¬ bl o = [])) (hp0 : Hid (¬ bl p = [])) (hno2 : o.toList.isEmpty = false) (hnp2 : p.toList.isEmpty = false) (hne : Hid (p.toList = o.toList ↔ bl p = bl o)) (_hr0 : Hid (right (bl o) = true)) (hr1 : Hid (right (bl p) = true))
    (_ho : o.size ≤ 1000000) (hp : p.size ≤ 1000000) (hf : T.names.length ≤ 1000000)
    (hres : Hid (res = T.ren3 (bl o) (bl p) i wn le)) :
    Calls Tryz.prog 74 #[.pointer (some ⟨tb, 0, none⟩), .string o, .string p] w fun e w' => e = .returned (.int .i64 res.2) ∧ Stp w w' tb A M T res.1 := by
  replace hR := Lib.hid hR
  replace hi := Lib.hid hi
  replace hfm := Lib.hid hfm
  replace hfk := Lib.hid hfk
  go_enter Tryz.func74, Tryz.ntmps74
  go_wp2_with fail
  refine (h0.out _).mono ?_
  rintro e w1 ⟨rfl, hB1⟩
  go_wp2_with fail
  refine (h1.out _).mono ?_
  rintro e w2 ⟨rfl, hB2⟩
  have hB12 := below_step hB1 hB2
  go_wp2_with fail
  refine (h2.out _ (hR.out.below hB12)).mono ?_
  rintro e w3 ⟨rfl, hB3⟩
  have hB := below_step hB12 hB3
  clear hB1 hB2 hB3 hB12
  rw [optPtr_some, optPtr_some]
  have hR3 := hR.out.below hB
  obtain ⟨dvi, _, hni⟩ := hR3.node i ⟨_, hi.out⟩
  have c0 : w3.cell? ⟨A i, 0, none⟩ = some (.int .i64 (T.nd i).kind) := cell_of hni rfl
  replace hR3 := Lib.hid hR3
  replace hni := Lib.hid hni
  by_cases hk : (T.nd i).kind = 2
  · have hk2 : ((T.nd i).kind == 2) = true := by simpa using hk
    have hft := fun W hW => fits_calls tb A M T (split (bl o)) i p W hW hi.out hk hp hf
    unfold ptr at hft
    replace hft := Lib.hid hft
    replace hk := Lib.hid hk
    by_cases hpo : bl p = bl o
    · have hne2 : p.toList = o.toList := hne.out.2 hpo
      clear hne
      have hg1 : ¬ ((T.nd i).kind = 2 ∧ bl p ≠ bl o ∧ under (bl p) (bl o) = true) := fun h => h.2.1 hpo
      replace hg1 := Lib.hid hg1
      have hbad : le = 0 → wn = some i := fun h => by
        rw [(hlo.out h).2.1, hpo]
        exact hI.out.at_some.2 hi.out
      replace hbad := Lib.hid hbad
      replace hpo := Lib.hid hpo
      go_wp2_with fail
      refine (h3.out _ hR3.out).mono ?_
      rintro e w4 ⟨rfl, hB4⟩
      have hB04 := below_step hB hB4
      have hR4 := hR3.out.below hB4
      replace hR4 := Lib.hid hR4
      clear hB hB4
      by_cases hle : le = 0
      · have hle2 : (le != 0) = false := by simpa using hle
        have hwi := hbad.out hle
        rw [hwi, optPtr_some]
        replace hwi := Lib.hid hwi
        replace hle := Lib.hid hle
        go_wp2
        go_ret
        have e1 : res = (T, 11) := by rw [hres.out]; unfold Fs.ren3; rw [if_neg hg1.out, if_neg (fun h => h hle.out), if_pos ⟨hk.out, by rw [hwi.out]; simp⟩]
        rw [e1]
        exact ⟨rfl, Stp.same hR.out hB04⟩
      · have hle2 : (le != 0) = true := by simpa using hle
        replace hle := Lib.hid hle
        go_wp2
        go_ret
        have e1 : res = (T, le) := by rw [hres.out]; unfold Fs.ren3; rw [if_neg hg1.out, if_pos hle.out]
        rw [e1]
        exact ⟨rfl, Stp.same hR.out hB04⟩
    · have hne2 : ¬ p.toList = o.toList := fun e => hpo (hne.out.1 e)
      have hne3 : (p.toList == o.toList) = false := by simpa using hne2
      clear hne
      replace hpo := Lib.hid hpo
      go_wp2_with fail
      refine (h4.out _).mono ?_
      rintro e w4 ⟨rfl, hB4⟩
      have hB04 := below_step hB hB4
      have hR4 := hR3.out.below hB4
      replace hR4 := Lib.hid hR4
      clear hB hB4 c0 hR3 hni
      cases hu : under (bl p) (bl o) with
      | true =>
        replace hu := Lib.hid hu
        go_wp2
        go_ret
        have e1 : res = (T, 2) := by rw [hres.out]; unfold Fs.ren3; rw [if_pos ⟨hk.out, hpo.out, hu.out⟩]
        rw [e1]
        exact ⟨rfl, Stp.same hR.out hB04⟩
      | false =>
        replace hu := Lib.hid hu
        have hg1 : ¬ ((T.nd i).kind = 2 ∧ bl p ≠ bl o ∧ under (bl p) (bl o) = true) := fun h => by rw [hu.out] at h; cases h.2.2
        replace hg1 := Lib.hid hg1
        go_wp2_with fail
        refine (h3.out _ hR4.out).mono ?_
        rintro e w5 ⟨rfl, hB5⟩
        have hB05 := below_step hB04 hB5
        have hR5 := hR4.out.below hB5
        replace hR5 := Lib.hid hR5
        clear hB04 hB5 hR4
        by_cases hle : le = 0
        · have hle2 : (le != 0) = false := by simpa using hle
          obtain ⟨_, hwn, hwd⟩ := hlo.out hle
          rcases hwd with ⟨hwd, _⟩ | ⟨_, d, hwd, hdm, hdk⟩
          · exact absurd hwd hp0.out
          rw [hwd, optPtr_some]
          replace hle := Lib.hid hle
          replace hdm := Lib.hid hdm
          replace hdk := Lib.hid hdk
          replace hwn := Lib.hid hwn
          replace hwd := Lib.hid hwd
          cases hwj : wn with
          | some j =>
            rw [optPtr_some]
            replace hwj := Lib.hid hwj
            go_wp2
            go_ret
            have e1 : res = (T, 11) := by rw [hres.out]; unfold Fs.ren3; rw [if_neg hg1.out, if_neg (fun h => h hle.out), if_pos ⟨hk.out, by rw [hwj.out]; simp⟩]
            rw [e1]
            exact ⟨rfl, Stp.same hR.out hB05⟩
          | none =>
            rw [optPtr_none]
            replace hwj := Lib.hid hwj
            go_wp2_with fail
            refine (hft.out _ hR5.out).mono ?_
            rintro e w6 ⟨rfl, hB6⟩
            have hB06 := below_step hB05 hB6
            have hR6 := hR5.out.below hB6
            replace hR6 := Lib.hid hR6
            clear hB05 hB6 hR5
            cases hfi : ((T.below (split (bl o))).all fun y => right (bl p ++ 47 :: glue y.1)) with
            | false =>
              replace hfi := Lib.hid hfi
              go_wp2
              go_ret
              have e1 : res = (T, 7) := by rw [hres.out]; unfold Fs.ren3; rw [if_neg hg1.out, if_neg (fun h => h hle.out), if_neg (fun h => h.2 hwj.out), if_pos ⟨hk.out, hfi.out⟩]
              rw [e1]
              exact ⟨rfl, Stp.same hR.out hB06⟩
            | true =>
              have hg2 : ¬ ((T.nd i).kind = 2 ∧ T.fits (bl o) (bl p) = false) := fun h => by
                have h2 := h.2
                unfold Fs.fits at h2
                rw [hfi] at h2
                cases h2
              replace hg2 := Lib.hid hg2
              replace hfi := Lib.hid hfi
              have hT := ren_free hR6.out (by omega) hp0.out (moves_of hI.out hr1.out ho0.out hp0.out hi.out hdm.out hdk.out (by rw [← hwn.out, hwj.out]) hg1.out hg2.out) hfm.out hfk.out
              unfold RenTail at hT
              replace hT := Lib.hid hT
              have hptr := fun W : World => run_eql_nil_ptr (P := Tryz.prog) W ⟨A i, 0, none⟩ Tryz.underlying85
              go_wp2_with fail
              refine hT.out.mono ?_
              rintro e w7 ⟨rfl, cf, w8, hd6, cd6, w9, hs7, hst⟩
              replace hst := Lib.hid hst
              replace hd6 := Lib.hid hd6
              replace hs7 := Lib.hid hs7
              replace cd6 := Lib.hid cd6
              clear hT
              go_wp2_with fail
              refine wp_region_still_tail 6 (by kernel_rfl) (by kernel_rfl) ?_
              simp only [List.take_succ_cons, List.take_zero, List.drop_succ_cons, List.drop_zero]
              iterate 5 still_step
              still_call ((hb1.out w7.drew).mono fun e w' hh => ⟨hh.1, hh.2.symm⟩)
              refine wpStill_nil ?_
              change wpList _ _ _ _ _ w7.drew
              refine wp_drop _ rfl _ _ 108 9 rfl (.map (some (M f))) (.string (mkS (base (bl o)))) rfl rfl w8 hd6.out ?_
              have cd7 := cd6.out
              clear cf
              go_wp2_with fail
              refine wp_region_still_tail 7 (by kernel_rfl) (by kernel_rfl) ?_
              simp only [List.take_succ_cons, List.take_zero, List.drop_succ_cons, List.drop_zero]
              iterate 5 still_step
              still_call ((hb2.out w8.drew).mono fun e w' hh => ⟨hh.1, hh.2.symm⟩)
              still_step
              refine wpStill_nil ?_
              change wpList _ _ _ _ _ w8.drew
              refine wp_store _ rfl _ _ _ 108 rfl (.map (some (M d))) (.string (mkS (base (bl p)))) (.pointer (some ⟨A i, 0, none⟩)) rfl rfl rfl w9 hs7.out ?_
              go_wp2
              go_ret
              have e1 : res = (T.move (split (bl o)) (split (bl p)), 0) := by rw [hres.out]; unfold Fs.ren3; rw [if_neg hg1.out, if_neg (fun h => h hle.out), if_neg (fun h => h.2 hwj.out), if_neg hg2.out, hwj.out]
              rw [e1]
              exact ⟨rfl, hst.out.after hB06⟩
        · have hle2 : (le != 0) = true := by simpa using hle
          replace hle := Lib.hid hle
          go_wp2
          go_ret
          have e1 : res = (T, le) := by rw [hres.out]; unfold Fs.ren3; rw [if_neg hg1.out, if_pos hle.out]
          rw [e1]
          exact ⟨rfl, Stp.same hR.out hB05⟩
  · have hk2 : ((T.nd i).kind == 2) = false := by simpa using hk
    replace hk := Lib.hid hk
    go_wp2_with fail
    refine (h3.out _ hR3.out).mono ?_
    rintro e w4 ⟨rfl, hB4⟩
    have hB04 := below_step hB hB4
    have hR4 := hR3.out.below hB4
    replace hR4 := Lib.hid hR4
    clear hB hB4
    by_cases hle : le = 0
    · have hle2 : (le != 0) = false := by simpa using hle
      obtain ⟨_, hwn, hwd⟩ := hlo.out hle
      rcases hwd with ⟨hwd, _⟩ | ⟨_, d, hwd, hdm, hdk⟩
      · exact absurd hwd hp0.out
      rw [hwd, optPtr_some]
      replace hle := Lib.hid hle
      replace hdm := Lib.hid hdm
      replace hdk := Lib.hid hdk
      replace hwn := Lib.hid hwn
      replace hwd := Lib.hid hwd
      cases hwj : wn with
      | none =>
        rw [optPtr_none]
        replace hwj := Lib.hid hwj
        have hT := ren_free hR4.out (by omega) hp0.out (moves_of hI.out hr1.out ho0.out hp0.out hi.out hdm.out hdk.out (by rw [← hwn.out, hwj.out]) (fun h => hk.out h.1) (fun h => hk.out h.1)) hfm.out hfk.out
        unfold RenTail at hT
        replace hT := Lib.hid hT
        have hptr := fun W : World => run_eql_nil_ptr (P := Tryz.prog) W ⟨A i, 0, none⟩ Tryz.underlying85
        go_wp2_with fail
        refine hT.out.mono ?_
        rintro e w5 ⟨rfl, cf, w6, hd6, cd6, w7, hs7, hst⟩
        replace hst := Lib.hid hst
        replace hd6 := Lib.hid hd6
        replace hs7 := Lib.hid hs7
        replace cd6 := Lib.hid cd6
        clear hT
        go_wp2_with fail
        refine wp_region_still_tail 6 (by kernel_rfl) (by kernel_rfl) ?_
        simp only [List.take_succ_cons, List.take_zero, List.drop_succ_cons, List.drop_zero]
        iterate 5 still_step
        still_call ((hb1.out w5.drew).mono fun e w' hh => ⟨hh.1, hh.2.symm⟩)
        refine wpStill_nil ?_
        change wpList _ _ _ _ _ w5.drew
        refine wp_drop _ rfl _ _ 108 9 rfl (.map (some (M f))) (.string (mkS (base (bl o)))) rfl rfl w6 hd6.out ?_
        have cd7 := cd6.out
        clear cf
        go_wp2_with fail
        refine wp_region_still_tail 7 (by kernel_rfl) (by kernel_rfl) ?_
        simp only [List.take_succ_cons, List.take_zero, List.drop_succ_cons, List.drop_zero]
        iterate 5 still_step
        still_call ((hb2.out w6.drew).mono fun e w' hh => ⟨hh.1, hh.2.symm⟩)
        still_step
        refine wpStill_nil ?_
        change wpList _ _ _ _ _ w6.drew
        refine wp_store _ rfl _ _ _ 108 rfl (.map (some (M d))) (.string (mkS (base (bl p)))) (.pointer (some ⟨A i, 0, none⟩)) rfl rfl rfl w7 hs7.out ?_
        go_wp2
        go_ret
        have e1 : res = (T.move (split (bl o)) (split (bl p)), 0) := by rw [hres.out]; unfold Fs.ren3; rw [if_neg (fun h => hk.out h.1), if_neg (fun h => h hle.out), if_neg (fun h => hk.out h.1), if_neg (fun h => hk.out h.1), hwj.out]
        rw [e1]
        exact ⟨rfl, hst.out.after hB04⟩
      | some j =>
        rw [optPtr_some]
        have hj : (split (bl p), j) ∈ T.names := hI.out.at_some.1 (by rw [← hwn.out, hwj])
        replace hwj := Lib.hid hwj
        obtain ⟨dvj, _, hnj⟩ := hR4.out.node j ⟨_, hj⟩
        have c0j : w4.cell? ⟨A j, 0, none⟩ = some (.int .i64 (T.nd j).kind) := cell_of hnj rfl
        by_cases hjk : (T.nd j).kind = 2
        · have hjk2 : ((T.nd j).kind == 2) = true := by simpa using hjk
          replace hjk := Lib.hid hjk
          replace hj := Lib.hid hj
          replace hnj := Lib.hid hnj
          go_wp2
          go_ret
          have e1 : res = (T, 13) := by rw [hres.out]; unfold Fs.ren3; rw [if_neg (fun h => hk.out h.1), if_neg (fun h => h hle.out), if_neg (fun h => hk.out h.1), if_neg (fun h => hk.out h.1), hwj.out]; exact if_pos hjk.out
          rw [e1]
          exact ⟨rfl, Stp.same hR.out hB04⟩
        · have hjk2 : ((T.nd j).kind == 2) = false := by simpa using hjk
          by_cases hij : j = i
          · subst hij
            have hptr := fun W : World => run_eql_ptr_same (P := Tryz.prog) W ⟨A j, 0, none⟩ Tryz.underlying85 info_node
            replace hjk := Lib.hid hjk
            replace hj := Lib.hid hj
            replace hnj := Lib.hid hnj
            go_wp2
            go_ret
            have e1 : res = (T, 0) := by rw [hres.out]; unfold Fs.ren3; rw [if_neg (fun h => hk.out h.1), if_neg (fun h => h hle.out), if_neg (fun h => hk.out h.1), if_neg (fun h => hk.out h.1), hwj.out]; exact (if_neg hjk.out).trans (if_pos rfl)
            rw [e1]
            exact ⟨rfl, Stp.same hR.out hB04⟩
          · obtain ⟨dvi4, _, hni4⟩ := hR4.out.node i ⟨_, hi.out⟩
            have hptr := run_eql_ptr_other (P := Tryz.prog) w4 (a := ⟨A j, 0, none⟩) (b := ⟨A i, 0, none⟩) Tryz.underlying85 info_node node_size (fun e => hij (hR4.out.injA j i ⟨_, hj⟩ ⟨_, hi.out⟩ (by simpa using e))) hnj hni4
            have hT := ren_over hR4.out (by omega) hp0.out hf hdm.out hdk.out hj hjk (moves_over hI.out hr1.out ho0.out hp0.out hi.out hdm.out hdk.out hj hjk hij hk.out).2 hfm.out hfk.out
            unfold RenTail at hT
            replace hT := Lib.hid hT
            replace hjk := Lib.hid hjk
            replace hj := Lib.hid hj
            replace hij := Lib.hid hij
            clear hnj hni4
            go_wp2_with fail
            refine hT.out.mono ?_
            rintro e w5 ⟨rfl, cf, w6, hd6, cd6, w7, hs7, hst⟩
            replace hst := Lib.hid hst
            replace hd6 := Lib.hid hd6
            replace hs7 := Lib.hid hs7
            replace cd6 := Lib.hid cd6
            clear hT
            go_wp2_with fail
            refine wp_region_still_tail 6 (by kernel_rfl) (by kernel_rfl) ?_
            simp only [List.take_succ_cons, List.take_zero, List.drop_succ_cons, List.drop_zero]
            iterate 5 still_step
            still_call ((hb1.out w5.drew).mono fun e w' hh => ⟨hh.1, hh.2.symm⟩)
            refine wpStill_nil ?_
            change wpList _ _ _ _ _ w5.drew
            refine wp_drop _ rfl _ _ 108 9 rfl (.map (some (M f))) (.string (mkS (base (bl o)))) rfl rfl w6 hd6.out ?_
            have cd7 := cd6.out
            clear cf
            go_wp2_with fail
            refine wp_region_still_tail 7 (by kernel_rfl) (by kernel_rfl) ?_
            simp only [List.take_succ_cons, List.take_zero, List.drop_succ_cons, List.drop_zero]
            iterate 5 still_step
            still_call ((hb2.out w6.drew).mono fun e w' hh => ⟨hh.1, hh.2.symm⟩)
            still_step
            refine wpStill_nil ?_
            change wpList _ _ _ _ _ w6.drew
            refine wp_store _ rfl _ _ _ 108 rfl (.map (some (M d))) (.string (mkS (base (bl p)))) (.pointer (some ⟨A i, 0, none⟩)) rfl rfl rfl w7 hs7.out ?_
            go_wp2
            go_ret
            have e1 : res = ((T.gone (split (bl p)) j).move (split (bl o)) (split (bl p)), 0) := by rw [hres.out]; unfold Fs.ren3; rw [if_neg (fun h => hk.out h.1), if_neg (fun h => h hle.out), if_neg (fun h => hk.out h.1), if_neg (fun h => hk.out h.1), hwj.out]; exact (if_neg hjk.out).trans (if_neg hij.out)
            rw [e1]
            exact ⟨rfl, hst.out.after hB04⟩
    · have hle2 : (le != 0) = true := by simpa using hle
      replace hle := Lib.hid hle
      go_wp2
      go_ret
      have e1 : res = (T, le) := by rw [hres.out]; unfold Fs.ren3; rw [if_neg (fun h => hk.out h.1), if_pos hle.out]
      rw [e1]
      exact ⟨rfl, Stp.same hR.out hB04⟩

set_option maxHeartbeats 4000000 in
set_option maxRecDepth 100000 in
theorem rename_calls (tb : Nat) (A M : Nat → Nat) (T : Fs) (o p : ByteArray) (w : World) (hR : Rep w tb A M T) (ho : o.size ≤ 1000000) (hp : p.size ≤ 1000000) (hf : T.names.length ≤ 1000000) :
    Calls Tryz.prog 74 #[ptr tb, .string o, .string p] w fun e w' => e = .returned (.int .i64 (T.rename (bl o) (bl p)).2) ∧ Stp w w' tb A M T (T.rename (bl o) (bl p)).1 := by
  have h0 := fun W => right_calls o W (by omega)
  have h1 := fun W => right_calls p W (by omega)
  have h2 := fun W hW => there_calls tb A M T o W hW (by omega)
  have h3 := fun W hW => look_calls tb A M T p W hW (by omega)
  have h4 := fun W => under_calls p o W (by omega) (by omega)
  have hb1 := fun W => base_calls o W (by unfold maxLen; omega)
  have hb2 := fun W => base_calls p W (by unfold maxLen; omega)
  have hto := hR.inv.there_ok (s := bl o)
  have hlo := hR.inv.look_ok (s := bl p)
  have hno := str_nil o
  have hnp := str_nil p
  have hne := Lib.hid (str_same p o)
  have hres : T.rename (bl o) (bl p) = T.rename (bl o) (bl p) := rfl
  conv at hres => rhs; unfold Fs.rename
  generalize T.rename (bl o) (bl p) = res at *
  generalize T.there (bl o) = th at *
  obtain ⟨n, dd, te⟩ := th
  generalize T.look (bl p) = lk at *
  obtain ⟨wn, wd, le⟩ := lk
  have hI := hR.inv
  unfold ptr at *
  dsimp only at *
  replace h0 := Lib.hid h0
  replace h1 := Lib.hid h1
  replace h2 := Lib.hid h2
  replace h3 := Lib.hid h3
  replace h4 := Lib.hid h4
  replace hb1 := Lib.hid hb1
  replace hb2 := Lib.hid hb2
  replace hR := Lib.hid hR
  replace hI := Lib.hid hI
  replace hto := Lib.hid hto
  replace hlo := Lib.hid hlo
  replace hres := Lib.hid hres
  cases hr0 : right (bl o) with
  | false =>
    rw [hr0] at h0
    replace hr0 := Lib.hid hr0
    clear hne hno hnp
    go_enter Tryz.func74, Tryz.ntmps74
    go_wp2_with fail
    refine (h0.out _).mono ?_
    rintro e w1 ⟨rfl, hB1⟩
    go_wp2
    go_ret
    have e1 : res = (T, 9) := by rw [hres.out]; rw [if_pos (Or.inl hr0.out)]
    rw [e1]
    exact ⟨rfl, Stp.same hR.out hB1⟩
  | true =>
    rw [hr0] at h0
    replace hr0 := Lib.hid hr0
    cases hr1 : right (bl p) with
    | false =>
      rw [hr1] at h1
      replace hr1 := Lib.hid hr1
      clear hne hno hnp
      go_enter Tryz.func74, Tryz.ntmps74
      go_wp2_with fail
      refine (h0.out _).mono ?_
      rintro e w1 ⟨rfl, hB1⟩
      go_wp2_with fail
      refine (h1.out _).mono ?_
      rintro e w2 ⟨rfl, hB2⟩
      go_wp2
      go_ret
      have e1 : res = (T, 9) := by rw [hres.out]; rw [if_pos (Or.inr hr1.out)]
      rw [e1]
      exact ⟨rfl, Stp.same hR.out (below_step hB1 hB2)⟩
    | true =>
      rw [hr1] at h1
      replace hr1 := Lib.hid hr1
      replace hres : Hid (res = T.ren2 (bl o) (bl p) n te wn le) := by
        have e := hres.out
        rw [if_neg (by simp [hr0.out, hr1.out])] at e
        exact Lib.hid e
      by_cases ho0 : bl o = []
      · rw [ho0] at hno
        replace ho0 := Lib.hid ho0
        have hno2 : o.toList.isEmpty = true := by rw [hno]; rfl
        clear hno hnp hne
        go_enter Tryz.func74, Tryz.ntmps74
        go_wp2_with fail
        refine (h0.out _).mono ?_
        rintro e w1 ⟨rfl, hB1⟩
        go_wp2_with fail
        refine (h1.out _).mono ?_
        rintro e w2 ⟨rfl, hB2⟩
        go_wp2
        go_ret
        have e1 : res = (T, 2) := by rw [hres.out]; unfold Fs.ren2; rw [if_pos (Or.inl ho0.out)]
        rw [e1]
        exact ⟨rfl, Stp.same hR.out (below_step hB1 hB2)⟩
      · have hno2 : o.toList.isEmpty = false := by rw [hno]; simpa using ho0
        clear hno
        replace ho0 := Lib.hid ho0
        by_cases hp0 : bl p = []
        · have hnp2 : p.toList.isEmpty = true := by rw [hnp, hp0]; rfl
          clear hnp hne
          replace hp0 := Lib.hid hp0
          go_enter Tryz.func74, Tryz.ntmps74
          go_wp2_with fail
          refine (h0.out _).mono ?_
          rintro e w1 ⟨rfl, hB1⟩
          go_wp2_with fail
          refine (h1.out _).mono ?_
          rintro e w2 ⟨rfl, hB2⟩
          go_wp2
          go_ret
          have e1 : res = (T, 2) := by rw [hres.out]; unfold Fs.ren2; rw [if_pos (Or.inr hp0.out)]
          rw [e1]
          exact ⟨rfl, Stp.same hR.out (below_step hB1 hB2)⟩
        · have hnp2 : p.toList.isEmpty = false := by rw [hnp]; simpa using hp0
          clear hnp
          replace hp0 := Lib.hid hp0
          by_cases he : te = 0
          · subst he
            obtain ⟨_, i, rfl, hi, hc⟩ := hto.out rfl
            rcases hc with ⟨hc, _⟩ | ⟨_, f, rfl, hfm, hfk⟩
            · exact absurd hc ho0.out
            replace hres : Hid (res = T.ren3 (bl o) (bl p) i wn le) := by
              have e := hres.out
              unfold Fs.ren2 at e
              rw [if_neg (by simp [ho0.out, hp0.out]), if_neg (by simp)] at e
              exact Lib.hid e
            exact ren_main tb A M T o p w res i f wn wd le hR.out h0 h1 h2 h3 h4 hb1 hb2 hI hi hfm hfk hlo ho0 hp0 hno2 hnp2 hne hr0 hr1 ho hp hf hres
          · have he2 : (te != 0) = true := by simpa using he
            clear hne
            replace he := Lib.hid he
            go_enter Tryz.func74, Tryz.ntmps74
            go_wp2_with fail
            refine (h0.out _).mono ?_
            rintro e w1 ⟨rfl, hB1⟩
            go_wp2_with fail
            refine (h1.out _).mono ?_
            rintro e w2 ⟨rfl, hB2⟩
            have hB12 := below_step hB1 hB2
            go_wp2_with fail
            refine (h2.out _ (hR.out.below hB12)).mono ?_
            rintro e w3 ⟨rfl, hB3⟩
            go_wp2
            go_ret
            have e1 : res = (T, te) := by rw [hres.out]; unfold Fs.ren2; rw [if_neg (by simp [ho0.out, hp0.out]), if_pos he.out]
            rw [e1]
            exact ⟨rfl, Stp.same hR.out (below_step hB12 hB3)⟩

end Go.Proofs.YtocbjhhnginebaaGreat

namespace Go.Proofs.YtocbjhhnginebaaGreat
open Go.RowKit

theorem sortP_of_perm {l l' : List Bytes} (h : l.Perm l') : sortP l = sortP l' := sortP_eq ((sortP_perm l).trans h) (sortP_sorted l)

def Fs.paths (T : Fs) : List Bytes := sortP ((T.below []).map fun y => glue y.1)
/-- The names of a path's thing. -/
def Fs.nameList (T : Fs) (s : Bytes) : List Bytes :=
  if (T.there s).2.2 ≠ 0 ∨ s = [] then [] else match (T.there s).1 with
  | none => []
  | some i => if (T.nd i).kind = 1 then sortP (((T.below []).filter fun y => y.2 = i).map fun y => glue y.1) else [s]

/-- What a closure that collects texts keeps: the texts, in a row of its own from block B on; beside it plain variables that stay. -/
structure LInv (tb : Nat) (A M : Nat → Nat) (T : Fs) (B c : Nat) (F : List (Bytes × Nat) → List Bytes) (xs : List (Nat × Value)) (D : List (Bytes × Nat)) (W : World) : Prop where
  rep : Rep W tb A M T
  low : ∀ b, Own tb A M T b → b < B
  cB : c < B
  BW : B ≤ W.heap.size
  row : ∃ v, W.heap[c]? = some (.cells #[v] 36 (0, 0)) ∧ Strs B W v (F D)
  others : ∀ x ∈ xs, x.1 < B ∧ W.heap[x.1]? = some (.cells #[x.2] 85 (0, 0))

theorem strs_block_type {B : Nat} {W : World} {v : Value} {l : List Bytes} {b : Nat} (h : Strs B W v l) (hb : v.ownBlock = some b) : B ≤ b ∧ b < W.heap.size ∧ ∃ cur, W.heap[b]? = some (.cells cur 9 (0, 0)) := by
  rcases h.block with ⟨_, rfl, _⟩ | ⟨g, c, pad, rfl, h1, h2, _⟩
  · cases hb
  · cases hb
    exact ⟨h1, (Array.getElem?_eq_some_iff.1 h2).1, _, h2⟩

variable {tb : Nat} {A M : Nat → Nat} {T : Fs} {B c : Nat} {F : List (Bytes × Nat) → List Bytes} {xs : List (Nat × Value)} {D D' : List (Bytes × Nat)}

theorem LInv.lt {W : World} (h : LInv tb A M T B c F xs D W) {b : Nat} (hb : Cap c W b) : b < W.heap.size := by
  obtain ⟨v, h1, h2⟩ := h.row
  rcases hb with rfl | ⟨u, hu, hb⟩
  · exact Nat.lt_of_lt_of_le h.cB h.BW
  · rw [cell_of (j := 0) h1 rfl] at hu
    cases hu
    exact (strs_block_type h2 hb).2.1

theorem LInv.below {W W' : World} (h : LInv tb A M T B c F xs D W) (hb : Below W.heap.size W W') : LInv tb A M T B c F xs D W' := by
  obtain ⟨v, h1, h2⟩ := h.row
  exact ⟨h.rep.below hb, h.low, h.cB, Nat.le_trans h.BW hb.size, ⟨v, (hb.block c (Nat.lt_of_lt_of_le h.cB h.BW)).trans h1, own_below h2 hb⟩,
    fun x hx => ⟨(h.others x hx).1, (hb.block _ (Nat.lt_of_lt_of_le (h.others x hx).1 h.BW)).trans (h.others x hx).2⟩⟩

/-- Nothing is kept. -/
theorem LInv.skip {W : World} (h : LInv tb A M T B c F xs D W) (hF : F D' = F D) : LInv tb A M T B c F xs D' W :=
  ⟨h.rep, h.low, h.cB, h.BW, by rw [hF]; exact h.row, h.others⟩

/-- A text more. -/
theorem LInv.more {W w1 : World} (h : LInv tb A M T B c F xs D W) {v v1 : Value} {q : Bytes} (hc : W.heap[c]? = some (.cells #[v] 36 (0, 0))) (hO : Strs B W v (F D)) (hg : W.grownBy w1 v.ownBlock)
    (hO1 : Strs B w1 v1 (F D ++ [q])) (hat : v1.ownBlock = v.ownBlock ∨ ∃ b, v1.ownBlock = some b ∧ W.heap.size ≤ b) (hF : F D' = F D ++ [q]) :
    LInv tb A M T B c F xs D' (w1.setCell ⟨c, 0, none⟩ v1) ∧ Turn W (w1.setCell ⟨c, 0, none⟩ v1) (Cap c W) ∧ (∀ b, Cap c (w1.setCell ⟨c, 0, none⟩ v1) b → Cap c W b ∨ W.heap.size ≤ b) ∧
      w1.cell? ⟨c, 0, none⟩ = some v ∧ w1.frozen? ⟨c, 0, none⟩ = false := by
  have hcW := Nat.lt_of_lt_of_le h.cB h.BW
  have hrow : ∀ b, v.ownBlock = some b → B ≤ b ∧ ∃ cur, W.heap[b]? = some (.cells cur 9 (0, 0)) := fun b hb => ⟨(strs_block_type hO hb).1, (strs_block_type hO hb).2.2⟩
  have hc1 : w1.heap[c]? = some (.cells #[v] 36 (0, 0)) := (hg.block c hcW (fun e => by have := (hrow c e.symm).1; have := h.cB; omega)).trans hc
  have hc2 : (w1.setCell ⟨c, 0, none⟩ v1).heap[c]? = some (.cells #[v1] 36 (0, 0)) := heap_set_same hc1 0 v1
  have hcap : ∀ b, v.ownBlock = some b → Cap c W b := fun b hb => Or.inr ⟨v, cell_of hc rfl, hb⟩
  have ht : Turn W (w1.setCell ⟨c, 0, none⟩ v1) (Cap c W) := turn_set (Turn.of_grown hg (fun j e => hcap j e)) (Or.inl rfl) _ _
  have hno : ∀ b, Own tb A M T b → ¬ Cap c W b := by
    rintro b ho (rfl | ⟨u, hu, hb⟩)
    · exact h.rep.not_own hc (by decide) (by decide) ho
    · rw [cell_of (j := 0) hc rfl] at hu
      cases hu
      have := (hrow b hb).1
      have := h.low b ho
      omega
  have hR : Rep (w1.setCell ⟨c, 0, none⟩ v1) tb A M T := h.rep.kept (fun b ho => ht.block b (h.rep.lt ho) (hno b ho)) (by
    rintro g ⟨cs, hgc⟩
    refine ht.block g (Array.getElem?_eq_some_iff.1 hgc).1 ?_
    rintro (rfl | ⟨u, hu, hb⟩)
    · rw [hc] at hgc; simp at hgc
    · rw [cell_of (j := 0) hc rfl] at hu
      cases hu
      obtain ⟨_, cur, h3⟩ := hrow g hb
      rw [hgc] at h3
      simp at h3)
  have hO2 : Strs B (w1.setCell ⟨c, 0, none⟩ v1) v1 (F D ++ [q]) := by
    refine own_kept hO1 (row := some c) ⟨rfl, rfl, rfl, by rw [heap_set_size]; exact Nat.le_refl _, fun k hk hne => heap_set_other w1 (fun e => hne (by rw [e])) 0 v1⟩ (fun b hb => ?_)
    intro e
    cases e
    have := (strs_block_type hO1 hb).1
    have := h.cB
    omega
  refine ⟨⟨hR, h.low, h.cB, Nat.le_trans h.BW ht.size, ⟨v1, hc2, by rw [hF]; exact hO2⟩, fun x hx => ?_⟩, ht, ?_, cell_of hc1 rfl, by simp [World.frozen?, hc1]⟩
  · obtain ⟨g1, g2⟩ := h.others x hx
    refine ⟨g1, (ht.block _ (Nat.lt_of_lt_of_le g1 h.BW) ?_).trans g2⟩
    rintro (e | ⟨u, hu, hb⟩)
    · rw [e, hc] at g2
      simp at g2
    · rw [cell_of (j := 0) hc rfl] at hu
      cases hu
      have := (hrow _ hb).1
      omega
  · rintro b (rfl | ⟨u, hu, hb⟩)
    · exact Or.inl (Or.inl rfl)
    · rw [cell_of (j := 0) hc2 rfl] at hu
      cases hu
      have hb2 : v1.ownBlock = some b := hb
      rcases hat with e | ⟨b', e, h4⟩
      · exact Or.inl (hcap b (by rw [← e]; exact hb2))
      · rw [e] at hb2
        cases hb2
        exact Or.inr h4

def PathsF (D : List (Bytes × Nat)) : List Bytes := D.map (·.1)
def NamesF (i : Nat) (D : List (Bytes × Nat)) : List Bytes := (D.filter fun y => y.2 = i).map (·.1)

set_option maxHeartbeats 1000000 in
set_option maxRecDepth 100000 in
theorem paths_teller (tb : Nat) (A M : Nat → Nat) (T : Fs) (B c : Nat) : Teller tb A M T 47 #[ptr c] c (LInv tb A M T B c PathsF []) := by
  refine ⟨fun args W => run_enter Tryz.func47 (by kernel_rfl) rfl args W, fun h => h.rep, fun h hb => h.lt hb, fun h hb => h.below hb, fun {D W q j} h hD hq hj => ?_⟩
  obtain ⟨v, hc, hO⟩ := h.row
  have hl : (PathsF D).length = D.length := by simp [PathsF]
  have hmore := fun v1 w1 => h.more (D' := D ++ [(q, j)]) (v1 := v1) (w1 := w1) (q := q) hc hO
  have hF : PathsF (D ++ [(q, j)]) = PathsF D ++ [q] := by simp [PathsF]
  obtain ⟨A', c', rfl, _, _⟩ := hO.rd.shape
  have c0 : W.cell? ⟨c, 0, none⟩ = some (.slice A' (PathsF D).length c') := cell_of hc rfl
  have hBW := h.BW
  generalize PathsF D = l at *
  replace hmore := Lib.hid hmore
  replace hO := Lib.hid hO
  replace hF := Lib.hid hF
  replace hl := Lib.hid hl
  clear h hc
  unfold ptr
  go_enter Tryz.func47, Tryz.ntmps47
  go_wp2_with (at_builtin; refine wp_append1 B rfl (.tmp 5) (.tmp 7) 36 9 rfl Tryz.underlying36 (.string ⟨#[]⟩) 1 16 info_string rfl (by decide) (.slice A' l.length c') l.length (strs l) rfl [.string (mkS q)] rfl hO.out.own rfl ?_ ?_ ?_ ?_ ?_)
  · simp [Value.oneCell']
  · have := hl.out; simp [maxLen]; omega
  · have := hl.out; omega
  · exact hBW
  · intro v1 w1 ho1 hg1 hat
    obtain ⟨A1, c1, rfl, _, _⟩ := own_shape ho1
    obtain ⟨g1, g2, g3, g4, g5⟩   := hmore.out _ w1 hg1 (Strs.snoc ho1) hat hF.out
    replace g1 := Lib.hid g1
    replace g2 := Lib.hid g2
    replace g3 := Lib.hid g3
    clear hmore ho1 hg1 hat
    go_wp2
    go_end0
    exact ⟨rfl, g1.out, g2.out, g3.out⟩

set_option maxHeartbeats 1000000 in
set_option maxRecDepth 100000 in
theorem paths_calls (tb : Nat) (A M : Nat → Nat) (T : Fs) (w : World) (hR : Rep w tb A M T) (hf : T.names.length ≤ 1000000) :
    Calls Tryz.prog 17 #[ptr tb] w fun e w' => (∃ v, e = .returned v ∧ Strs w.heap.size w' v T.paths) ∧ Below w.heap.size w w' := by
  have hI := hR.inv
  have hbf := below_few T []
  have hB0 : ∀ o, Below w.heap.size w (w.alloc o) := fun o => (Below.refl _ _).alloc (Nat.le_refl _) _
  have hblk := (MapKept.heap_alloc w (.cells #[.slice none 0 0] 36)).1
  have hR1 := hR.below (hB0 (.cells #[.slice none 0 0] 36))
  have hE := each_calls (paths_teller tb A M T (w.heap.size + 1) w.heap.size) hf 12 [] 1 [] [] (w.alloc (.cells #[.slice none 0 0] 36)) hI.one hI.topKind (fun t j hm => (hI.pth _ _ hm).few) (by simp) (by simp; omega)
    ⟨hR1, fun b hb => Nat.lt_succ_of_lt (hR.lt hb), Nat.lt_succ_self _, by simp, ⟨_, hblk, World.ownsRow_nil _ _ _ _⟩, by simp⟩
  have c0 : w.cell? ⟨tb, 0, none⟩ = some (ptr (A 1)) := cell_of hR.tree rfl
  have htl : tb < w.heap.size := hR.lt (Or.inl rfl)
  have hsz : ∀ y ∈ T.below [], (glue y.1).length ≤ 16777216 := by
    intro y hy
    obtain ⟨s, hs1, hs2⟩ := hI.pth _ _ (mem_below.1 (show (y.1, y.2) ∈ T.below [] from hy)).2
    rw [List.nil_append] at hs2
    rw [← hs2, glue_split]
    simp only [right, Bool.and_eq_true, decide_eq_true_eq] at hs1
    omega
  unfold ptr at *
  rw [show mkS [] = ⟨#[]⟩ from rfl] at hE
  replace hE := Lib.hid hE
  replace hR1 := Lib.hid hR1
  replace hR := Lib.hid hR
  replace hblk := Lib.hid hblk
  replace hsz := Lib.hid hsz
  go_enter Tryz.func17, Tryz.ntmps17
  go_wp2_with fail
  refine hE.out.mono ?_
  rintro e w1 ⟨rfl, L, hL, hInv, hT, _⟩
  obtain ⟨v, hcv, hOv⟩ := hInv.row
  have hcell : w1.cell? ⟨w.heap.size, 0, none⟩ = some v := cell_of hcv rfl
  have hB : Below w.heap.size w w1 := by
    refine (hB0 _).trans ⟨hT.os, hT.tape, hT.output, hT.size, fun k hk => hT.block k (by simp; omega) ?_⟩
    intro hc
    rw [cap_plain (cell_of hblk.out rfl) rfl] at hc
    omega
  have hLm : PathsF ([] ++ L) = L.map (·.1) := rfl
  have hLp : (L.map (·.1)).Perm ((T.below []).map fun y => glue y.1) := by
    have := hL.map (·.1)
    rw [List.map_map] at this
    exact this
  have hS := sort_calls v (PathsF ([] ++ L)) w1 hOv.rd (by rw [hLm, hLp.length_eq, List.length_map]; omega) (by
    rw [hLm]
    intro y hy
    obtain ⟨z, hz, rfl⟩ := List.mem_map.1 (hLp.mem_iff.1 hy)
    exact hsz.out z hz)
  rw [hLm, sortP_of_perm hLp] at hS
  replace hS := Lib.hid hS
  replace hB := Lib.hid hB
  clear hInv hT hL hcv hOv hLp hLm
  go_wp2_with fail
  refine hS.out.mono ?_
  rintro e w2 ⟨⟨v2, rfl, hO2⟩, hB2⟩
  go_wp2
  go_ret
  exact ⟨⟨v2, rfl, own_low hO2 hB.out.size⟩, below_step hB.out hB2⟩

end Go.Proofs.YtocbjhhnginebaaGreat

namespace Go.Proofs.YtocbjhhnginebaaGreat
open Go.MapKept

/-- A pointer to the head of a block of cells. -/
def PtrAt (w : World) (v : Value) : Prop := ∃ b cs t, v = .pointer (some ⟨b, 0, none⟩) ∧ w.heap[b]? = some (.cells cs t (0, 0))

section
variable {P : Program} {k te : TypeId} {j : TypeInfo} {w : World}

theorem run_equal_ptr (hp : P.underlying k = some (.pointer te)) (hte : P.info? te = some j) (hsz : j.size ≠ 0) {x y : Value} (hx : PtrAt w x) (hy : PtrAt w y) : ∃ r : Bool, (Op.equal k x y).run P w = .ok r w ∧ (r = true ↔ x = y) := by
  obtain ⟨a, ca, ta, rfl, ha⟩ := hx
  obtain ⟨b, cb, tb, rfl, hb⟩ := hy
  by_cases h : a = b
  · subst h
    have h : ∀ d : Nat, (Op.equalIn (d + 1) k (.pointer (some ⟨a, 0, none⟩)) (.pointer (some ⟨a, 0, none⟩))).run P w = .ok true w := fun d => by
      simp [Op.equalIn, run_underlying hp, sizeOf, typeInfo, hte, run_sameAddr_same]
    exact ⟨true, by simp [Op.equal, Op.maxDepth, h 9999], by simp⟩
  · have hne : (⟨a, 0, none⟩ : Addr) ≠ ⟨b, 0, none⟩ := fun e => h (congrArg Addr.block e)
    have h2 : ∀ d : Nat, (Op.equalIn (d + 1) k (.pointer (some ⟨a, 0, none⟩)) (.pointer (some ⟨b, 0, none⟩))).run P w = .ok false w := fun d => by
      simp [Op.equalIn, run_underlying hp, sizeOf, typeInfo, hte, hsz, run_sameAddr_other w hne ha hb]
    exact ⟨false, by simp [Op.equal, Op.maxDepth, h2 9999], ⟨fun e => (by cases e), fun e => absurd (by cases e; rfl) h⟩⟩

theorem find_asking (hp : P.underlying k = some (.pointer te)) (hte : P.info? te = some j) (hsz : j.size ≠ 0) {x : Value} (hx : PtrAt w x) : ∀ (es : List MapEntry) (i : Nat), (∀ e ∈ es, PtrAt w e.key) →
    ((Instr.findAsking k x es i).run P w = .ok none w ∧ ∀ e ∈ es, e.key ≠ x) ∨ ∃ n e, (Instr.findAsking k x es i).run P w = .ok (some (i + n, e.val)) w ∧ es[n]? = some e ∧ e.key = x
  | [], i, _ => Or.inl ⟨by simp [Instr.findAsking], by simp⟩
  | e :: es, i, h => by
    obtain ⟨r, he, hr⟩ := run_equal_ptr hp hte hsz hx (h e (List.mem_cons_self ..))
    by_cases hk : x = e.key
    · have hr2 := hr.2 hk
      subst hr2
      refine Or.inr ⟨0, e, ?_, rfl, hk.symm⟩
      simp [Instr.findAsking, he, Result.andThen]
    · have hk2 : r = false := by
        cases r with
        | false => rfl
        | true => exact absurd (hr.1 rfl) hk
      subst hk2
      rcases find_asking hp hte hsz hx es (i + 1) (fun y hy => h y (List.mem_cons_of_mem _ hy)) with ⟨h1, h2⟩ | ⟨n, e', h1, h2, h3⟩
      · refine Or.inl ⟨?_, ?_⟩
        · simp [Instr.findAsking, he, h1, Result.andThen]
        · intro y hy
          rcases List.mem_cons.1 hy with rfl | hy
          · exact fun e => hk e.symm
          · exact h2 y hy
      · refine Or.inr ⟨n + 1, e', ?_, by simpa using h2, h3⟩
        have : i + (n + 1) = i + 1 + n := by omega
        rw [this]
        simp [Instr.findAsking, he, h1, Result.andThen]

theorem keyable_ptr (hp : P.underlying k = some (.pointer te)) (hte : P.info? te = some j) (hsz : j.size ≠ 0) {x : Value} (hx : PtrAt w x) {ks : List Value} (h : ∀ v ∈ ks, PtrAt w v) : Keyable P k w x ks := by
  refine ⟨fun em => ?_, ?_, fun es hes => ?_⟩
  · obtain ⟨a, ca, ta, rfl, ha⟩ := hx
    unfold Instr.checkKey
    simp [run_underlying hp, Result.andThen]
  · obtain ⟨a, ca, ta, rfl, ha⟩ := hx
    simp [Instr.keyThatStays, Instr.sameBits]
  · cases es with
    | nil => exact Or.inl ⟨by simp [Instr.findKey, run_underlying hp, Result.andThen, Instr.findNow], by simp⟩
    | cons e es =>
      have hnow : Instr.findNow (.pointer te) x (e :: es) 0 = none := by simp [Instr.findNow, Instr.sameNow]
      have := find_asking hp hte hsz hx (e :: es) 0 (fun y hy => h _ (hes y hy))
      simpa [Instr.findKey, run_underlying hp, Result.andThen, hnow] using this

end

end Go.Proofs.YtocbjhhnginebaaGreat

namespace Go.Proofs.YtocbjhhnginebaaGreat
open Go.RowKit

set_option maxHeartbeats 2000000 in
set_option maxRecDepth 100000 in
theorem names_teller (tb : Nat) (A M : Nat → Nat) (T : Fs) (B c cn i : Nat) (hi : T.Live i) : Teller tb A M T 143 #[ptr cn, ptr c] c (LInv tb A M T B c (NamesF i) [(cn, ptr (A i))]) := by
  refine ⟨fun args W => run_enter Tryz.func143 (by kernel_rfl) rfl args W, fun h => h.rep, fun h hb => h.lt hb, fun h hb => h.below hb, fun {D W q j} h hD hq hj => ?_⟩
  obtain ⟨v, hc, hO⟩ := h.row
  have hl : (NamesF i D).length ≤ D.length := by simp only [NamesF, List.length_map]; exact List.length_filter_le _ _
  have hcn := (h.others (cn, ptr (A i)) (by simp)).2
  have cn0 : W.cell? ⟨cn, 0, none⟩ = some (.pointer (some ⟨A i, 0, none⟩)) := cell_of hcn rfl
  obtain ⟨A', c', rfl, _, _⟩ := hO.rd.shape
  have c0 : W.cell? ⟨c, 0, none⟩ = some (.slice A' (NamesF i D).length c') := cell_of hc rfl
  have hBW := h.BW
  unfold ptr
  by_cases hij : j = i
  · subst hij
    have hF : NamesF j (D ++ [(q, j)]) = NamesF j D ++ [q] := by simp [NamesF]
    have hmore := fun v1 w1 => h.more (D' := D ++ [(q, j)]) (v1 := v1) (w1 := w1) (q := q) hc hO
    have hptr := fun W : World => run_eql_ptr_same (P := Tryz.prog) W ⟨A j, 0, none⟩ Tryz.underlying85 info_node
    generalize hll : NamesF j D = l at *
    replace hll := Lib.hid hll
    replace hmore := Lib.hid hmore
    replace hO := Lib.hid hO
    replace hF := Lib.hid hF
    replace hl := Lib.hid hl
    clear h hc hcn
    go_enter Tryz.func143, Tryz.ntmps143
    go_wp2_with (at_builtin; refine wp_append1 B rfl (.tmp 9) (.tmp 11) 36 9 rfl Tryz.underlying36 (.string ⟨#[]⟩) 1 16 info_string rfl (by decide) (.slice A' l.length c') l.length (strs l) rfl [.string (mkS q)] rfl hO.out.own rfl ?_ ?_ ?_ ?_ ?_)
    · simp [Value.oneCell']
    · have := hl.out; simp [maxLen]; omega
    · have := hl.out; omega
    · exact hBW
    · intro v1 w1 ho1 hg1 hat
      obtain ⟨A1, c1, rfl, _, _⟩ := own_shape ho1
      obtain ⟨g1, g2, g3, g4, g5⟩ := hmore.out _ w1 hg1 (Strs.snoc ho1) hat hF.out
      replace g1 := Lib.hid g1
      replace g2 := Lib.hid g2
      replace g3 := Lib.hid g3
      clear hmore ho1 hg1 hat
      go_wp2
      go_end0
      exact ⟨rfl, g1.out, g2.out, g3.out⟩
  · have hF : NamesF i (D ++ [(q, j)]) = NamesF i D := by simp [NamesF, hij]
    have hsk := h.skip (D' := D ++ [(q, j)]) hF
    obtain ⟨dvi, _, hni⟩ := h.rep.node i hi
    obtain ⟨dvj, _, hnj⟩ := h.rep.node j hj
    have hptr := run_eql_ptr_other (P := Tryz.prog) W (a := ⟨A j, 0, none⟩) (b := ⟨A i, 0, none⟩) Tryz.underlying85 info_node node_size (fun e => hij (h.rep.injA j i hj hi (by simpa using e))) hnj hni
    replace hsk := Lib.hid hsk
    replace hij := Lib.hid hij
    clear h hc hcn hF hni hnj hO
    go_enter Tryz.func143, Tryz.ntmps143
    go_wp2
    go_end0
    exact ⟨rfl, hsk.out, Turn.refl _ _, fun b hb => Or.inl hb⟩

theorem top_nil {T : Fs} (hI : T.Inv) {p : Pt} (h : (p, 1) ∈ T.names) : p = [] := hI.dir_one hI.one h hI.topKind

theorem names_below (w1 : World) (p : Value) (nq : Nat) : Below w1.heap.size w1 (((w1.alloc (.cells #[p] 85)).drewN nq).alloc (.cells #[.slice none 0 0] 36)) :=
  below_alloc (below_drewN (below_alloc (Below.refl _ _) _) nq) _
theorem names_block (w1 : World) (p : Value) (nq : Nat) : (((w1.alloc (.cells #[p] 85)).drewN nq).alloc (.cells #[.slice none 0 0] 36)).heap[w1.heap.size + 1]? = some (.cells #[.slice none 0 0] 36 (0, 0)) := by
  have := (MapKept.heap_alloc ((w1.alloc (.cells #[p] 85)).drewN nq) (.cells #[.slice none 0 0] 36)).1
  rwa [show ((w1.alloc (.cells #[p] 85)).drewN nq).heap.size = w1.heap.size + 1 by simp] at this
theorem names_start {tb : Nat} {A M : Nat → Nat} {T : Fs} {w1 : World} (hR : Rep w1 tb A M T) (i nq : Nat) :
    LInv tb A M T (w1.heap.size + 2) (w1.heap.size + 1) (NamesF i) [(w1.heap.size, ptr (A i))] [] (((w1.alloc (.cells #[.pointer (some ⟨A i, 0, none⟩)] 85)).drewN nq).alloc (.cells #[.slice none 0 0] 36)) := by
  have hB := names_below w1 (.pointer (some ⟨A i, 0, none⟩)) nq
  refine ⟨hR.below hB, fun b hb => ?_, by omega, by simp, ⟨_, names_block w1 _ nq, World.ownsRow_nil _ _ _ _⟩, ?_⟩
  · have := hR.lt hb
    omega
  · intro x hx
    obtain rfl := List.mem_singleton.1 hx
    refine ⟨by omega, ?_⟩
    have h0 := (MapKept.heap_alloc w1 (.cells #[.pointer (some ⟨A i, 0, none⟩)] 85)).1
    refine (Below.block (B := w1.heap.size + 1) (w := (w1.alloc (.cells #[.pointer (some ⟨A i, 0, none⟩)] 85)).drewN nq) ?_ w1.heap.size (by omega)).trans h0
    exact (Below.refl _ _).alloc (by simp) _

set_option maxHeartbeats 4000000 in
set_option maxRecDepth 100000 in
theorem namesof_calls (tb : Nat) (A M : Nat → Nat) (T : Fs) (s : ByteArray) (w : World) (hR : Rep w tb A M T) (hs : s.size ≤ 16777216) (hf : T.names.length ≤ 1000000) :
    Calls Tryz.prog 111 #[ptr tb, .string s] w fun e w' => (∃ v, e = .returned v ∧ Strs w.heap.size w' v (T.nameList (bl s))) ∧ Below w.heap.size w w' := by
  have hI := hR.inv
  have h1 := fun W hW => there_calls tb A M T s W hW hs
  have hto := hI.there_ok (s := bl s)
  have c0 : ∀ W, Rep W tb A M T → W.cell? ⟨tb, 0, none⟩ = some (ptr (A 1)) := fun W hW => cell_of hW.tree rfl
  unfold Fs.nameList
  generalize T.there (bl s) = th at *
  obtain ⟨n, dd, te⟩ := th
  unfold ptr at *
  dsimp only at *
  replace hR := Lib.hid hR
  replace c0 := Lib.hid c0
  by_cases he : te = 0
  · subst he
    obtain ⟨hr, i, rfl, hi, hc⟩ := hto rfl
    dsimp only
    replace h1 := Lib.hid h1
    by_cases hnil : bl s = []
    · rw [if_pos (Or.inr hnil)]
      have : i = 1 := hI.at_one hi (by rw [hnil]; exact hI.one)
      subst this
      have hptr := fun W : World => run_eql_ptr_same (P := Tryz.prog) W ⟨A 1, 0, none⟩ Tryz.underlying85 info_node
      clear hto hi hc hnil hr
      replace hI := Lib.hid hI
      go_enter Tryz.func111, Tryz.ntmps111
      go_wp2_with fail
      refine (h1.out _ hR.out).mono ?_
      rintro e w1 ⟨rfl, hB1⟩
      rw [optPtr_some]
      have hR1 := hR.out.below hB1
      have c01 := c0.out _ hR1
      have hlt := hR1.lt (Or.inl rfl)
      replace hR1 := Lib.hid hR1
      go_wp2_with fail
      go_quiet (fail)
      go_wp2
      go_ret
      exact ⟨⟨_, rfl, World.ownsRow_nil _ _ _ _⟩, below_drewN (below_alloc hB1 _) _⟩
    · rw [if_neg (by simp [hnil])]
      have hi1 : i ≠ 1 := fun e => by
        subst e
        exact hnil (split_eq_nil (top_nil hI hi))
      by_cases hk : (T.nd i).kind = 1
      · rw [if_pos hk]
        have hbf := below_few T []
        have hsz : ∀ y ∈ T.below [], (glue y.1).length ≤ 16777216 := by
          intro y hy
          obtain ⟨s, hs1, hs2⟩ := hI.pth _ _ (mem_below.1 (show (y.1, y.2) ∈ T.below [] from hy)).2
          rw [List.nil_append] at hs2
          rw [← hs2, glue_split]
          simp only [right, Bool.and_eq_true, decide_eq_true_eq] at hs1
          omega
        clear hto hc hnil hr
        replace hI := Lib.hid hI
        replace hsz := Lib.hid hsz
        go_enter Tryz.func111, Tryz.ntmps111
        go_wp2_with fail
        refine (h1.out _ hR.out).mono ?_
        rintro e w1 ⟨rfl, hB1⟩
        rw [optPtr_some]
        have hR1 := hR.out.below hB1
        have c01 := c0.out _ hR1
        obtain ⟨dvi, _, hni⟩ := hR1.node i ⟨_, hi⟩
        obtain ⟨dv1, _, hn1⟩ := hR1.node 1 ⟨_, hI.out.one⟩
        have c0i : w1.cell? ⟨A i, 0, none⟩ = some (.int .i64 (T.nd i).kind) := cell_of hni rfl
        rw [hk] at c0i
        have hlt := hR1.lt (Or.inl rfl)
        have hli := hR1.lt (Or.inr (Or.inl ⟨i, ⟨_, hi⟩, rfl⟩))
        have hptr := fun n : Nat => run_eql_ptr_other (P := Tryz.prog) ((w1.alloc (.cells #[.pointer (some ⟨A i, 0, none⟩)] 85)).drewN n) (a := ⟨A i, 0, none⟩) (b := ⟨A 1, 0, none⟩) Tryz.underlying85 info_node node_size (fun e => hi1 (hR1.injA i 1 ⟨_, hi⟩ ⟨_, hI.out.one⟩ (by simpa using e))) (((Below.refl w1.heap.size w1).alloc (Nat.le_refl _) _).block _ hli |>.trans hni) (((Below.refl w1.heap.size w1).alloc (Nat.le_refl _) _).block _ (hR1.lt (Or.inr (Or.inl ⟨1, ⟨_, hI.out.one⟩, rfl⟩))) |>.trans hn1)
        replace hR1 := Lib.hid hR1
        replace hni := Lib.hid hni
        replace hn1 := Lib.hid hn1
        replace hi := Lib.hid hi
        have hE := fun nq : Nat => each_calls (names_teller tb A M T (w1.heap.size + 2) (w1.heap.size + 1) w1.heap.size i ⟨_, hi.out⟩) hf 12 [] 1 [] [] (((w1.alloc (.cells #[.pointer (some ⟨A i, 0, none⟩)] 85)).drewN nq).alloc (.cells #[.slice none 0 0] 36)) hI.out.one hI.out.topKind (fun t j hm => (hI.out.pth _ _ hm).few) (by simp) (by simp; omega)
          (names_start hR1.out i nq)
        have hB1a := fun nq : Nat => names_below w1 (.pointer (some ⟨A i, 0, none⟩)) nq
        have hblk := fun nq : Nat => names_block w1 (.pointer (some ⟨A i, 0, none⟩)) nq
        unfold ptr at hE
        rw [show mkS [] = ⟨#[]⟩ from rfl] at hE
        replace hE := Lib.hid hE
        replace hB1a := Lib.hid hB1a
        replace hblk := Lib.hid hblk
        go_wp2_with fail
        go_quiet (fail)
        go_wp2_with fail
        refine (hE.out nq).mono ?_
        rintro e w2 ⟨rfl, L, hL, hInv, hT, _⟩
        obtain ⟨v, hcv, hOv⟩ := hInv.row
        have hcell : w2.cell? ⟨w1.heap.size + 1, 0, none⟩ = some v := cell_of hcv rfl
        have hB : Below w1.heap.size w1 w2 := by
          refine (hB1a.out nq).trans ⟨hT.os, hT.tape, hT.output, hT.size, fun k hk => hT.block k (by simp; omega) ?_⟩
          intro hc
          rw [cap_plain (cell_of (hblk.out nq) rfl) rfl] at hc
          omega
        have hLp : (NamesF i ([] ++ L)).Perm (((T.below []).filter fun y => y.2 = i).map fun y => glue y.1) := by
          rw [List.nil_append]
          have := (hL.filter (fun y => y.2 = i)).map (·.1)
          unfold NamesF
          refine this.trans (List.Perm.of_eq ?_)
          rw [List.filter_map, List.map_map]
          rfl
        have hlen2 : (((T.below []).filter fun y => y.2 = i).map fun y => glue y.1).length ≤ (T.below []).length := by rw [List.length_map]; exact List.length_filter_le _ _
        have hS := sort_calls v (NamesF i ([] ++ L)) w2 hOv.rd (by rw [hLp.length_eq]; omega) (by
          intro y hy
          obtain ⟨z, hz, rfl⟩ := List.mem_map.1 (hLp.mem_iff.1 hy)
          exact hsz.out z (List.mem_filter.1 hz).1)
        rw [sortP_of_perm hLp] at hS
        replace hS := Lib.hid hS
        replace hB := Lib.hid hB
        clear hInv hT hL hcv hOv hLp
        go_wp2_with fail
        refine hS.out.mono ?_
        rintro e w3 ⟨⟨v2, rfl, hO2⟩, hB2⟩
        go_wp2
        go_ret
        exact ⟨⟨v2, rfl, own_low hO2 (Nat.le_trans hB1.size hB.out.size)⟩, below_step (below_step hB1 hB.out) hB2⟩
      · rw [if_neg hk]
        have hk2 : ((T.nd i).kind != 1) = true := by simpa using hk
        clear hto hc hnil hr hk
        replace hI := Lib.hid hI
        go_enter Tryz.func111, Tryz.ntmps111
        go_wp2_with fail
        refine (h1.out _ hR.out).mono ?_
        rintro e w1 ⟨rfl, hB1⟩
        rw [optPtr_some]
        have hR1 := hR.out.below hB1
        have hRa := hR1.below ((Below.refl w1.heap.size w1).alloc (Nat.le_refl _) (.cells #[.pointer (some ⟨A i, 0, none⟩)] 85))
        have c01 := c0.out _ hR1
        obtain ⟨dvi, _, hni⟩ := hR1.node i ⟨_, hi⟩
        obtain ⟨dv1, _, hn1⟩ := hR1.node 1 ⟨_, hI.out.one⟩
        have c0i : w1.cell? ⟨A i, 0, none⟩ = some (.int .i64 (T.nd i).kind) := cell_of hni rfl
        have hlt := hR1.lt (Or.inl rfl)
        have hli := hR1.lt (Or.inr (Or.inl ⟨i, ⟨_, hi⟩, rfl⟩))
        have hptr := fun n : Nat => run_eql_ptr_other (P := Tryz.prog) ((w1.alloc (.cells #[.pointer (some ⟨A i, 0, none⟩)] 85)).drewN n) (a := ⟨A i, 0, none⟩) (b := ⟨A 1, 0, none⟩) Tryz.underlying85 info_node node_size (fun e => hi1 (hR1.injA i 1 ⟨_, hi⟩ ⟨_, hI.out.one⟩ (by simpa using e))) (((Below.refl w1.heap.size w1).alloc (Nat.le_refl _) _).block _ hli |>.trans hni) (((Below.refl w1.heap.size w1).alloc (Nat.le_refl _) _).block _ (hR1.lt (Or.inr (Or.inl ⟨1, ⟨_, hI.out.one⟩, rfl⟩))) |>.trans hn1)
        replace hR1 := Lib.hid hR1
        replace hRa := Lib.hid hRa
        replace hni := Lib.hid hni
        replace hn1 := Lib.hid hn1
        replace hi := Lib.hid hi
        go_wp2_with fail
        go_quiet (fail)
        go_wp2
        go_ret
        have hBq := below_drewN (below_alloc hB1 (.cells #[.pointer (some ⟨A i, 0, none⟩)] 85)) nq
        have hO := own_made ((w1.alloc (.cells #[.pointer (some ⟨A i, 0, none⟩)] 85)).drewN nq) w.heap.size 9 1 1 [.string s] hBq.size rfl (by simp [maxLen])
        have hs1 : strs [bl s] = [.string s] := by simp [strs, mkS_bl]
        have e1 : ((w1.alloc (.cells #[.pointer (some ⟨A i, 0, none⟩)] 85)).drewN nq).heap.size = w1.heap.size + 1 := by simp
        rw [e1] at hO
        exact ⟨⟨.slice (some ⟨w1.heap.size + 1, 0, none⟩) 1 1, rfl, by unfold Strs; rw [hs1]; exact hO⟩, below_alloc hBq _⟩
  · rw [if_pos (Or.inl he)]
    have he2 : (te != 0) = true := by simpa using he
    clear hto he
    replace hI := Lib.hid hI
    cases n with
    | none =>
      rw [optPtr_none] at h1
      replace h1 := Lib.hid h1
      go_enter Tryz.func111, Tryz.ntmps111
      go_wp2_with fail
      refine (h1.out _ hR.out).mono ?_
      rintro e w1 ⟨rfl, hB1⟩
      go_wp2_with fail
      go_quiet (fail)
      go_wp2
      go_ret
      exact ⟨⟨_, rfl, World.ownsRow_nil _ _ _ _⟩, below_drewN (below_alloc hB1 _) _⟩
    | some n =>
      rw [optPtr_some] at h1
      replace h1 := Lib.hid h1
      go_enter Tryz.func111, Tryz.ntmps111
      go_wp2_with fail
      refine (h1.out _ hR.out).mono ?_
      rintro e w1 ⟨rfl, hB1⟩
      go_wp2_with fail
      go_quiet (fail)
      go_wp2
      go_ret
      exact ⟨⟨_, rfl, World.ownsRow_nil _ _ _ _⟩, below_drewN (below_alloc hB1 _) _⟩

end Go.Proofs.YtocbjhhnginebaaGreat

namespace Go.Proofs.YtocbjhhnginebaaGreat
open Go.RowKit

/-- Which thing has which copy, as the map that the program keeps has it. -/
def metL (A C : Nat → Nat) (Dn : List Nat) : List (Value × Value) := Dn.map fun j => (ptr (A j), ptr (C j))

/-- The copy of a thing is whole. -/
structure Fin1 (w : World) (C MC : Nat → Nat) (T : Fs) (j : Nat) : Prop where
  node : ∃ dv, Dat w dv (T.nd j).data ∧ w.heap[C j]? = some (.cells (nodeCells (T.nd j) j dv (kidsV (T.nd j) (MC j))) 110 (0, 0))
  kids : ∀ q, (q, j) ∈ T.names → (T.nd j).kind = 2 → MapIs w (MC j) (entries C (T.kids q))

/-- The copies of New lie in blocks that came between w and w', each in its own. -/
structure Fresh1 (w w' : World) (C MC : Nat → Nat) (T : Fs) (New : List Nat) : Prop where
  node : ∀ j ∈ New, w.heap.size ≤ C j ∧ C j < w'.heap.size
  kids : ∀ j ∈ New, (T.nd j).kind = 2 → w.heap.size ≤ MC j ∧ MC j < w'.heap.size
  injC : ∀ i ∈ New, ∀ j ∈ New, C i = C j → i = j
  injM : ∀ i ∈ New, ∀ j ∈ New, (T.nd i).kind = 2 → (T.nd j).kind = 2 → MC i = MC j → i = j

/-- What copied leaves. -/
structure CopyDone (w w' : World) (A C MC : Nat → Nat) (T : Fs) (mb : Nat) (p : Pt) (i : Nat) (Dn : List Nat) (C' MC' : Nat → Nat) (New : List Nat) : Prop where
  mem : i ∈ Dn ++ New
  old : ∀ j ∈ Dn, C' j = C j ∧ MC' j = MC j
  met : MapIs w' mb (metL A C' (Dn ++ New))
  fin : ∀ j ∈ New, Fin1 w' C' MC' T j ∧ ∃ t, (p ++ t, j) ∈ T.names
  fresh : Fresh1 w w' C' MC' T New
  cov : ∀ t j, (p ++ t, j) ∈ T.names → j ∈ Dn ++ New
  turn : Turn w w' (fun b => b = mb)

structure CpInv (w wr : World) (A C MC : Nat → Nat) (T : Fs) (mb cb m : Nat) (p : Pt) (i : Nat) (Dn : List Nat) (K1 : List (Bytes × Nat)) (C1 MC1 : Nat → Nat) (New1 : List Nat) : Prop where
  old : ∀ j ∈ Dn, C1 j = C j ∧ MC1 j = MC j
  ci : C1 i = cb
  mi : MC1 i = m
  met : MapIs wr mb (metL A C1 (Dn ++ i :: New1))
  node : ∃ dv, Dat wr dv (T.nd i).data ∧ wr.heap[cb]? = some (.cells (nodeCells (T.nd i) i dv (.map (some m))) 110 (0, 0))
  map : MapIs wr m (entries C1 K1)
  kin : ∀ x ∈ K1, x.2 ∈ Dn ++ i :: New1
  fin : ∀ j ∈ New1, Fin1 wr C1 MC1 T j ∧ ∃ y ∈ K1, ∃ t, (p ++ y.1 :: t, j) ∈ T.names
  fresh : Fresh1 w wr C1 MC1 T (i :: New1)
  cov : ∀ x ∈ K1, ∀ t j, (p ++ x.1 :: t, j) ∈ T.names → j ∈ Dn ++ i :: New1
  turn : Turn w wr (fun b => b = mb)

theorem entries_congr {C C' : Nat → Nat} {l : List (Bytes × Nat)} (h : ∀ x ∈ l, C' x.2 = C x.2) : entries C' l = entries C l := List.map_congr_left fun x hx => by rw [h x hx]
theorem metL_congr {A C C' : Nat → Nat} {l : List Nat} (h : ∀ j ∈ l, C' j = C j) : metL A C' l = metL A C l := List.map_congr_left fun j hj => by rw [h j hj]

section
variable {w w2 w' : World} {A C MC : Nat → Nat} {T : Fs} {mb cb m : Nat} {p : Pt} {i : Nat} {Dn : List Nat} {C' MC' : Nat → Nat} {New : List Nat}

theorem Fin1.turn (h : Fin1 w C MC T i) {S : Nat → Prop} (ht : Turn w w' S) (hC : ¬ S (C i)) (hM : (T.nd i).kind = 2 → ¬ S (MC i)) (hb : ∀ g cs, w.heap[g]? = some (Obj.cells cs 5 (0, 0)) → ¬ S g) : Fin1 w' C MC T i := by
  obtain ⟨⟨dv, h1, h2⟩, h3⟩ := h
  refine ⟨⟨dv, h1.kept fun g ⟨cs, hg⟩ => ht.block g (Array.getElem?_eq_some_iff.1 hg).1 (hb g cs hg), (ht.block _ (Array.getElem?_eq_some_iff.1 h2).1 hC).trans h2⟩, fun q hq hk => ?_⟩
  have := h3 q hq hk
  exact this.of_block (ht.block _ this.lt (hM hk))

theorem Fin1.congr (h : Fin1 w C MC T i) (h1 : C' i = C i) (h2 : MC' i = MC i) (hk : ∀ q, (q, i) ∈ T.names → (T.nd i).kind = 2 → ∀ x ∈ T.kids q, C' x.2 = C x.2) : Fin1 w C' MC' T i := by
  obtain ⟨h3, h4⟩ := h
  exact ⟨by rw [h1, h2]; exact h3, fun q hq h2k => by rw [h2, entries_congr (hk q hq h2k)]; exact h4 q hq h2k⟩

/-- A block of bytes is none that holds a map, or a node. -/
theorem byte_no_map {w : World} {g : Nat} {cs : Array Value} {l : List (Value × Value)} (h : w.heap[g]? = some (Obj.cells cs 5 (0, 0))) : ¬ MapIs w g l := by
  rintro ⟨es, c, h2, _⟩
  rw [h] at h2
  cases h2

theorem namesCons {p t : Pt} {x : Bytes} {j : Nat} {T : Fs} : (p ++ x :: t, j) ∈ T.names ↔ ((p ++ [x]) ++ t, j) ∈ T.names := by simp

/-- A file's copy, or a link's. -/
theorem copy_leaf (hI : T.Inv) (hi : (p, i) ∈ T.names) (hk : (T.nd i).kind ≠ 2) (hold : ∀ j ∈ Dn, C' j = C j ∧ MC' j = MC j) (hm : MapIs w' mb (metL A C' (Dn ++ [i]))) {dv : Value} (h1 : Dat w' dv (T.nd i).data)
    (h2 : w'.heap[C' i]? = some (.cells (nodeCells (T.nd i) i dv (.map none)) 110 (0, 0))) (h3 : w.heap.size ≤ C' i) (ht : Turn w w' (fun b => b = mb)) : CopyDone w w' A C MC T mb p i Dn C' MC' [i] := by
  refine ⟨by simp, hold, hm, ?_, ⟨?_, ?_, ?_, ?_⟩, ?_, ht⟩
  · intro j hj
    obtain rfl := List.mem_singleton.1 hj
    refine ⟨⟨⟨dv, h1, ?_⟩, fun q _ h => absurd h hk⟩, [], by simpa using hi⟩
    rw [kidsV, if_neg hk]
    exact h2
  · intro j hj
    obtain rfl := List.mem_singleton.1 hj
    exact ⟨h3, (Array.getElem?_eq_some_iff.1 h2).1⟩
  · intro j hj h
    obtain rfl := List.mem_singleton.1 hj
    exact absurd h hk
  · intro a ha b hb _
    rw [List.mem_singleton.1 ha, List.mem_singleton.1 hb]
  · intro a ha b hb _ _ _
    rw [List.mem_singleton.1 ha, List.mem_singleton.1 hb]
  · intro t j hm
    by_cases h : t = []
    · subst h
      rw [List.append_nil] at hm
      have := hI.at_one hm hi
      subst this
      simp
    · have := hI.at_below t h (p := p) (fun j hj => by rw [hI.at_some.2 hi] at hj; cases hj; exact hk)
      rw [hI.at_some.2 hm] at this
      cases this

/-- One that is copied already. -/
theorem copy_again (hI : T.Inv) (hi : (p, i) ∈ T.names) (hk : (T.nd i).kind ≠ 2) (hin : i ∈ Dn) (hm : MapIs w mb (metL A C Dn)) : CopyDone w w A C MC T mb p i Dn C MC [] := by
  refine ⟨by simpa using hin, fun _ _ => ⟨rfl, rfl⟩, by simpa using hm, by simp, ⟨by simp, by simp, by simp, by simp⟩, ?_, Turn.refl _ _⟩
  intro t j hm
  by_cases h : t = []
  · subst h
    rw [List.append_nil] at hm
    have := hI.at_one hm hi
    subst this
    simpa using hin
  · have := hI.at_below t h (p := p) (fun j hj => by rw [hI.at_some.2 hi] at hj; cases hj; exact hk)
    rw [hI.at_some.2 hm] at this
    cases this

end

end Go.Proofs.YtocbjhhnginebaaGreat

namespace Go.Proofs.YtocbjhhnginebaaGreat
open Go.RowKit

section
variable {w w2 w3 w4 : World} {A C MC : Nat → Nat} {T : Fs} {mb cb m : Nat} {p : Pt} {i : Nat} {Dn : List Nat} {K1 : List (Bytes × Nat)} {C1 MC1 C2 MC2 : Nat → Nat} {New1 New2 : List Nat}

theorem nodup_of_map {α β : Type} {f : α → β} {l : List α} (h : (l.map f).Nodup) : l.Nodup := by
  rw [List.Nodup, List.pairwise_map] at h
  exact h.imp fun h e => h (by rw [e])
theorem metL_nodup {b : Nat} {D : List Nat} (h : MapIs w b (metL A C D)) : D.Nodup := by
  have := h.nodup
  unfold metL at this
  rw [List.map_map] at this
  exact nodup_of_map this

theorem map_ne_cells {w : World} {b b' : Nat} {l : List (Value × Value)} {cs : Array Value} {t : TypeId} {f : Nat × Nat} (h : MapIs w b l) (h2 : w.heap[b']? = some (.cells cs t f)) : b' ≠ b := by
  rintro rfl
  obtain ⟨es, c, h3, _⟩ := h
  rw [h2] at h3
  cases h3

/-- Blocks that hold neither cells nor a map may turn. -/
theorem CpInv.other (h : CpInv w w2 A C MC T mb cb m p i Dn K1 C1 MC1 New1) {S : Nat → Prop} (ht : Turn w2 w3 S) (hS : ∀ b, S b → w.heap.size ≤ b ∧ (∀ cs t, w2.heap[b]? ≠ some (Obj.cells cs t (0, 0))) ∧ ∀ es c, w2.heap[b]? ≠ some (Obj.map es c)) : CpInv w w3 A C MC T mb cb m p i Dn K1 C1 MC1 New1 := by
  have hmap : ∀ {b l}, MapIs w2 b l → MapIs w3 b l := fun {b l} hb => hb.of_block (ht.block _ hb.lt fun hs => by
    obtain ⟨es, c, h1, _⟩ := hb
    exact (hS _ hs).2.2 es c h1)
  have hcell : ∀ {b : Nat} {cs t}, w2.heap[b]? = some (Obj.cells cs t (0, 0)) → w3.heap[b]? = some (Obj.cells cs t (0, 0)) := fun {b cs t} hb => (ht.block _ (Array.getElem?_eq_some_iff.1 hb).1 fun hs => (hS _ hs).2.1 cs t hb).trans hb
  have hby : ∀ g : Nat, (∃ cs, w2.heap[g]? = some (Obj.cells cs 5 (0, 0))) → w3.heap[g]? = w2.heap[g]? := fun g ⟨cs, hg⟩ => (hcell hg).trans hg.symm
  obtain ⟨dv, h1, h2⟩ := h.node
  refine ⟨h.old, h.ci, h.mi, hmap h.met, ⟨dv, h1.kept hby, hcell h2⟩, hmap h.map, h.kin, fun j hj => ?_, ?_, h.cov, ?_⟩
  · obtain ⟨⟨⟨dv, g1, g2⟩, g3⟩, g4⟩ := h.fin j hj
    exact ⟨⟨⟨dv, g1.kept hby, hcell g2⟩, fun q hq hk => hmap (g3 q hq hk)⟩, g4⟩
  · exact ⟨fun j hj => ⟨(h.fresh.node j hj).1, Nat.lt_of_lt_of_le (h.fresh.node j hj).2 ht.size⟩, fun j hj hk => ⟨(h.fresh.kids j hj hk).1, Nat.lt_of_lt_of_le (h.fresh.kids j hj hk).2 ht.size⟩, h.fresh.injC, h.fresh.injM⟩
  · exact h.turn.trans (ht.mono fun b _ hs => Or.inr (hS b hs).1)

theorem cp_step (hI : T.Inv) (hp : (p, i) ∈ T.names) (hik : (T.nd i).kind = 2) (hmb : mb < w.heap.size) (h : CpInv w w2 A C MC T mb cb m p i Dn K1 C1 MC1 New1) {x : Bytes} {k : Nat}
    (hd : CopyDone w2 w3 A C1 MC1 T mb (p ++ [x]) k (Dn ++ i :: New1) C2 MC2 New2) :
    MapIs w3 m (entries C2 K1) ∧ (∃ dv, Dat w3 dv (T.nd i).data ∧ w3.heap[cb]? = some (.cells (nodeCells (T.nd i) i dv (.map (some m))) 110 (0, 0))) ∧
      ∀ w4, MapIs w4 m (entries C2 (K1 ++ [(x, k)])) → Turn w3 w4 (fun b => b = m) → CpInv w w4 A C MC T mb cb m p i Dn (K1 ++ [(x, k)]) C2 MC2 (New1 ++ New2) := by
  have hC : ∀ j ∈ Dn ++ i :: New1, C2 j = C1 j ∧ MC2 j = MC1 j := hd.old
  have hi : i ∈ Dn ++ i :: New1 := by simp
  have hnew : ∀ j ∈ New1, j ∈ Dn ++ i :: New1 := fun j hj => by simp [hj]
  have hnd := metL_nodup h.met
  have hiN : i ∉ New1 := (List.nodup_cons.1 (List.nodup_append.1 hnd).2.1).1
  have hfi := h.fresh.kids i (List.mem_cons_self ..) hik
  rw [h.mi] at hfi
  have hci := (h.fresh.node i (List.mem_cons_self ..)).1
  rw [h.ci] at hci
  have hww2 : w.heap.size ≤ w2.heap.size := h.turn.size
  have hw23 : w2.heap.size ≤ w3.heap.size := hd.turn.size
  have hmm : m ≠ mb := by omega
  have hcm : cb ≠ mb := by omega
  have hent : entries C2 K1 = entries C1 K1 := entries_congr fun y hy => (hC _ (h.kin y hy)).1
  have hm3 : MapIs w3 m (entries C2 K1) := by
    rw [hent]
    exact h.map.of_block (hd.turn.block _ h.map.lt hmm)
  have hby : ∀ g : Nat, (∃ cs, w2.heap[g]? = some (Obj.cells cs 5 (0, 0))) → w3.heap[g]? = w2.heap[g]? := fun g ⟨cs, hg⟩ => hd.turn.block g (Array.getElem?_eq_some_iff.1 hg).1 (map_ne_cells h.met hg)
  have hn3 : ∃ dv, Dat w3 dv (T.nd i).data ∧ w3.heap[cb]? = some (.cells (nodeCells (T.nd i) i dv (.map (some m))) 110 (0, 0)) := by
    obtain ⟨dv, h1, h2⟩ := h.node
    exact ⟨dv, h1.kept hby, (hd.turn.block _ (Array.getElem?_eq_some_iff.1 h2).1 hcm).trans h2⟩
  refine ⟨hm3, hn3, fun w4 hm4 ht => ?_⟩
  have hw34 := ht.size
  have hby4 : ∀ g cs, w3.heap[g]? = some (Obj.cells cs 5 (0, 0)) → g ≠ m := fun g cs hg => map_ne_cells hm3 hg
  refine ⟨?_, ?_, ?_, ?_, ?_, hm4, ?_, ?_, ?_, ?_, ?_⟩
  · intro j hj
    have h1 := hC j (List.mem_append_left _ hj)
    rw [h1.1, h1.2]
    exact h.old j hj
  · rw [(hC i hi).1, h.ci]
  · rw [(hC i hi).2, h.mi]
  · have := hd.met.of_block (ht.block mb hd.met.lt (Ne.symm hmm))
    simpa using this
  · obtain ⟨dv, h1, h2⟩ := hn3
    exact ⟨dv, h1.kept fun g ⟨cs, hg⟩ => ht.block g (Array.getElem?_eq_some_iff.1 hg).1 (hby4 g cs hg), (ht.block _ (Array.getElem?_eq_some_iff.1 h2).1 (map_ne_cells hm3 h2)).trans h2⟩
  · intro y hy
    rcases List.mem_append.1 hy with hy | hy
    · have := h.kin y hy
      simp only [List.mem_append, List.mem_cons] at this ⊢
      grind
    · obtain rfl := List.mem_singleton.1 hy
      have := hd.mem
      simp only [List.mem_append, List.mem_cons] at this ⊢
      grind
  · intro j hj
    rcases List.mem_append.1 hj with hj | hj
    · obtain ⟨h1, y, hy, t, hyt⟩ := h.fin j hj
      refine ⟨?_, y, List.mem_append_left _ hy, t, hyt⟩
      have h2 : Fin1 w2 C2 MC2 T j := h1.congr (hC j (hnew j hj)).1 (hC j (hnew j hj)).2 (fun q hq hk2 z hz => by
        refine (hC z.2 ?_).1
        have hq2 := hI.dir_one hyt hq hk2
        subst hq2
        have : ((p ++ y.1 :: t) ++ [z.1], z.2) ∈ T.names := mem_kidsL.1 (show (z.1, z.2) ∈ T.kids _ from hz)
        exact h.cov y hy (t ++ [z.1]) z.2 (by simpa using this))
      have hb1 := h.fresh.node j (List.mem_cons_of_mem _ hj)
      have h3 : Fin1 w3 C2 MC2 T j := h2.turn hd.turn (by rw [(hC j (hnew j hj)).1]; omega) (fun hk2 => by
        have := h.fresh.kids j (List.mem_cons_of_mem _ hj) hk2
        rw [(hC j (hnew j hj)).2]
        omega) (fun g cs hg => map_ne_cells h.met hg)
      refine h3.turn ht ?_ (fun hk2 => ?_) hby4
      · obtain ⟨⟨dv, _, h4⟩, _⟩ := h3
        exact map_ne_cells hm3 h4
      · rw [(hC j (hnew j hj)).2]
        intro e
        have := h.fresh.injM j (List.mem_cons_of_mem _ hj) i (List.mem_cons_self ..) hk2 hik (by rw [e, h.mi])
        subst this
        exact hiN hj
    · obtain ⟨h1, t, ht1⟩ := hd.fin j hj
      refine ⟨h1.turn ht ?_ (fun hk2 => ?_) hby4, (x, k), by simp, t, by simpa using ht1⟩
      · obtain ⟨⟨dv, _, h4⟩, _⟩ := h1
        exact map_ne_cells hm3 h4
      · have := hd.fresh.kids j hj hk2
        omega
  · have hmem : ∀ j ∈ i :: (New1 ++ New2), j ∈ i :: New1 ∨ j ∈ New2 := fun j hj => by
      simp only [List.mem_append, List.mem_cons] at hj ⊢
      grind
    have hin : ∀ j ∈ i :: New1, j ∈ Dn ++ i :: New1 := fun j hj => List.mem_append_right _ hj
    refine ⟨?_, ?_, ?_, ?_⟩
    · intro j hj
      rcases hmem j hj with h1 | h1
      · have := h.fresh.node j h1
        rw [(hC j (hin j h1)).1]
        omega
      · have := hd.fresh.node j h1
        omega
    · intro j hj hk2
      rcases hmem j hj with h1 | h1
      · have := h.fresh.kids j h1 hk2
        rw [(hC j (hin j h1)).2]
        omega
      · have := hd.fresh.kids j h1 hk2
        omega
    · intro a ha b hb e
      rcases hmem a ha with h1 | h1 <;> rcases hmem b hb with h2 | h2
      · rw [(hC a (hin a h1)).1, (hC b (hin b h2)).1] at e
        exact h.fresh.injC a h1 b h2 e
      · rw [(hC a (hin a h1)).1] at e
        have := h.fresh.node a h1
        have := hd.fresh.node b h2
        omega
      · rw [(hC b (hin b h2)).1] at e
        have := h.fresh.node b h2
        have := hd.fresh.node a h1
        omega
      · exact hd.fresh.injC a h1 b h2 e
    · intro a ha b hb hka hkb e
      rcases hmem a ha with h1 | h1 <;> rcases hmem b hb with h2 | h2
      · rw [(hC a (hin a h1)).2, (hC b (hin b h2)).2] at e
        exact h.fresh.injM a h1 b h2 hka hkb e
      · rw [(hC a (hin a h1)).2] at e
        have := h.fresh.kids a h1 hka
        have := hd.fresh.kids b h2 hkb
        omega
      · rw [(hC b (hin b h2)).2] at e
        have := h.fresh.kids b h2 hkb
        have := hd.fresh.kids a h1 hka
        omega
      · exact hd.fresh.injM a h1 b h2 hka hkb e
  · intro y hy t j hm
    rcases List.mem_append.1 hy with hy | hy
    · have := h.cov y hy t j hm
      simp only [List.mem_append, List.mem_cons] at this ⊢
      grind
    · obtain rfl := List.mem_singleton.1 hy
      have := hd.cov t j (by simpa using hm)
      simp only [List.mem_append, List.mem_cons] at this ⊢
      grind
  · refine (h.turn.trans (hd.turn.mono fun b _ hb => Or.inl hb)).trans (ht.mono fun b _ hb => Or.inr ?_)
    rw [hb]
    exact hfi.1

/-- .. and its beginning, and its end. -/
theorem cp_start (hiD : i ∉ Dn) (hm : MapIs w2 mb (metL A (upd C i cb) (Dn ++ [i]))) {dv : Value} (h1 : Dat w2 dv (T.nd i).data)
    (h2 : w2.heap[cb]? = some (.cells (nodeCells (T.nd i) i dv (.map (some m))) 110 (0, 0))) (h3 : w.heap.size ≤ cb) (h4 : MapIs w2 m []) (h5 : w.heap.size ≤ m) (ht : Turn w w2 (fun b => b = mb)) :
    CpInv w w2 A C MC T mb cb m p i Dn [] (upd C i cb) (upd MC i m) [] := by
  refine ⟨fun j hj => ?_, upd_same .., upd_same .., hm, ⟨dv, h1, h2⟩, h4, by simp, by simp, ⟨?_, ?_, ?_, ?_⟩, by simp, ht⟩
  · have : j ≠ i := fun e => hiD (e ▸ hj)
    exact ⟨upd_other _ _ _ this, upd_other _ _ _ this⟩
  · intro j hj
    obtain rfl := List.mem_singleton.1 hj
    rw [upd_same]
    exact ⟨h3, (Array.getElem?_eq_some_iff.1 h2).1⟩
  · intro j hj _
    obtain rfl := List.mem_singleton.1 hj
    rw [upd_same]
    exact ⟨h5, h4.lt⟩
  · intro a ha b hb _
    rw [List.mem_singleton.1 ha, List.mem_singleton.1 hb]
  · intro a ha b hb _ _ _
    rw [List.mem_singleton.1 ha, List.mem_singleton.1 hb]

theorem cp_end (hI : T.Inv) (hp : (p, i) ∈ T.names) (hik : (T.nd i).kind = 2) (h : CpInv w w2 A C MC T mb cb m p i Dn K1 C1 MC1 New1) (hK : (T.kids p).Perm K1) : CopyDone w w2 A C MC T mb p i Dn C1 MC1 (i :: New1) := by
  refine ⟨by simp, h.old, h.met, ?_, h.fresh, ?_, h.turn⟩
  · intro j hj
    rcases List.mem_cons.1 hj with rfl | hj
    · refine ⟨⟨?_, fun q hq hk => ?_⟩, [], by simpa using hp⟩
      · obtain ⟨dv, h1, h2⟩ := h.node
        refine ⟨dv, h1, ?_⟩
        rw [h.ci, kidsV, if_pos hik, h.mi]
        exact h2
      · have := hI.dir_one hp hq hk
        subst this
        rw [h.mi]
        exact h.map.perm (hK.map _)
    · obtain ⟨h1, y, _, t, h2⟩ := h.fin j hj
      exact ⟨h1, y.1 :: t, h2⟩
  · intro t j hm
    cases t with
    | nil =>
      rw [List.append_nil] at hm
      have := hI.at_one hm hp
      subst this
      simp
    | cons x t =>
      obtain ⟨k, hk⟩ := hI.above (r := p ++ [x]) (t := t) (i := j) (by simpa using hm)
      have := h.cov (x, k) (hK.mem_iff.1 (mem_kidsL.2 hk)) t j hm
      exact this

end

end Go.Proofs.YtocbjhhnginebaaGreat

namespace Go.Proofs.YtocbjhhnginebaaGreat
open Go.RowKit

theorem under_met : Tryz.prog.underlying 95 = some (.map 85 85) := Tryz.underlying95
theorem Rep.ptrAt {w : World} {tb : Nat} {A M : Nat → Nat} {T : Fs} (h : Rep w tb A M T) {i : Nat} (hi : T.Live i) : PtrAt w (ptr (A i)) := by
  obtain ⟨dv, _, h2⟩ := h.node i hi
  exact ⟨_, _, _, rfl, h2⟩
theorem met_key {w : World} {tb : Nat} {A M C : Nat → Nat} {T : Fs} (h : Rep w tb A M T) {i : Nat} (hi : T.Live i) {Dn : List Nat} (hD : ∀ j ∈ Dn, T.Live j) : Keyable Tryz.prog 85 w (ptr (A i)) ((metL A C Dn).map (·.1)) := by
  refine keyable_ptr Tryz.underlying85 info_node node_size (h.ptrAt hi) ?_
  intro v hv
  unfold metL at hv
  rw [List.map_map] at hv
  obtain ⟨j, hj, rfl⟩ := List.mem_map.1 hv
  exact h.ptrAt (hD j hj)
theorem met_hit {w : World} {tb : Nat} {A M C : Nat → Nat} {T : Fs} {mb i : Nat} {Dn : List Nat} (h : Rep w tb A M T) (hi : T.Live i) (hD : ∀ j ∈ Dn, T.Live j) (hm : MapIs w mb (metL A C Dn)) (hin : i ∈ Dn) :
    (Instr.lookup 95 (.map (some mb)) (ptr (A i)) true).run Tryz.prog w = .ok (.tuple #[ptr (C i), .bool true]) w :=
  hm.look_hit under_met (met_key h hi hD) (List.mem_map.2 ⟨i, hin, rfl⟩) true
theorem met_none {tb : Nat} {A M C : Nat → Nat} {T : Fs} {w : World} {i : Nat} {Dn : List Nat} (h : Rep w tb A M T) (hi : T.Live i) (hD : ∀ j ∈ Dn, T.Live j) (hin : i ∉ Dn) : ∀ q ∈ metL A C Dn, q.1 ≠ ptr (A i) := by
  intro q hq e
  obtain ⟨j, hj, rfl⟩ := List.mem_map.1 hq
  have : A j = A i := by
    simp only [ptr] at e
    injection e with e
    injection e with e
    injection e
  rw [h.injA j i (hD j hj) hi this] at hj
  exact hin hj
theorem met_miss {w : World} {tb : Nat} {A M C : Nat → Nat} {T : Fs} {mb i : Nat} {Dn : List Nat} (h : Rep w tb A M T) (hi : T.Live i) (hD : ∀ j ∈ Dn, T.Live j) (hm : MapIs w mb (metL A C Dn)) (hin : i ∉ Dn) :
    (Instr.lookup 95 (.map (some mb)) (ptr (A i)) true).run Tryz.prog w = .ok (.tuple #[.pointer none, .bool false]) w :=
  hm.look_miss under_met (met_key h hi hD) (met_none h hi hD hin) (zero_node w) true
theorem metL_snoc {A C : Nat → Nat} {i cb : Nat} {Dn : List Nat} (hin : i ∉ Dn) : metL A (upd C i cb) (Dn ++ [i]) = metL A C Dn ++ [(ptr (A i), ptr cb)] := by
  unfold metL
  rw [List.map_append, List.map_singleton, upd_same]
  congr 1
  refine List.map_congr_left fun j hj => ?_
  rw [upd_other C i cb (show j ≠ i from fun e => hin (e ▸ hj))]
theorem met_store {w : World} {tb : Nat} {A M C : Nat → Nat} {T : Fs} {mb i cb : Nat} {Dn : List Nat} (h : Rep w tb A M T) (hi : T.Live i) (hD : ∀ j ∈ Dn, T.Live j) (hm : MapIs w mb (metL A C Dn)) (hin : i ∉ Dn) :
    ∃ w', (Instr.mapUpdate 95 (.map (some mb)) (ptr (A i)) (ptr cb)).run Tryz.prog w = .ok () w' ∧ MapIs w' mb (metL A (upd C i cb) (Dn ++ [i])) ∧ w.mapTurned w' mb := by
  obtain ⟨w', h1, h2, h3⟩ := hm.store_new under_met (v := ptr cb) (met_key h hi hD) (met_none h hi hD hin)
  refine ⟨w', h1, h2.perm ?_, h3⟩
  rw [metL_snoc hin]
  exact List.perm_append_singleton _ _

theorem ret_ptr {a b : Nat} (h : a = b) : Ending.returned (.pointer (some ⟨a, 0, none⟩)) = .returned (.pointer (some ⟨b, 0, none⟩)) := by rw [h]
theorem run_makeMap_hint {P : Program} {t k e : TypeId} (ht : P.underlying t = some (.map k e)) (n : Int) (w : World) : (Instr.makeMap t (some (.int .i64 n))).run P w = .ok (.map (some w.heap.size)) (w.alloc (.map #[] 0)) := by
  simp [Instr.makeMap, run_underlying ht, Result.andThen, asInt, asIntOf]

def CopyPost (w : World) (A C MC : Nat → Nat) (T : Fs) (mb : Nat) (p : Pt) (i : Nat) (Dn : List Nat) (e : Ending) (w' : World) : Prop :=
  ∃ C' MC' New, e = .returned (.pointer (some ⟨C' i, 0, none⟩)) ∧ CopyDone w w' A C MC T mb p i Dn C' MC' New

theorem Fs.Inv.kids_nodup {T : Fs} (h : T.Inv) (p : Pt) : ((T.kids p).map (·.1)).Nodup := kidsL_nodup h.nodup p

theorem copied_dir_start {w w3 : World} {A M C MC : Nat → Nat} {T : Fs} {mb cb i : Nat} {p : Pt} {Dn : List Nat} {dv : Value} (hmlt : mb < w.heap.size) (hin : i ∉ Dn)
    (hbm : M i ≠ cb) (hm3 : MapIs w3 mb (metL A (upd C i cb) (Dn ++ [i]))) (hDt3 : Dat w3 dv (T.nd i).data) (hblk3 : w3.heap[cb]? = some (.cells (nodeCells (T.nd i) i dv (.map none)) 110 (0, 0))) (hcbw : w.heap.size ≤ cb) (hT3 : Turn w w3 (fun b => b = mb))
    (hM3 : MapIs w3 (M i) (entries A (T.kids p))) :
    CpInv w ((w3.setCell ⟨cb, 11, none⟩ (.map (some w3.heap.size))).alloc (.map #[] 0)) A C MC T mb cb w3.heap.size p i Dn [] (upd C i cb) (upd MC i w3.heap.size) [] ∧ MapIs ((w3.setCell ⟨cb, 11, none⟩ (.map (some w3.heap.size))).alloc (.map #[] 0)) (M i) (entries A (T.kids p)) ∧
      ((w3.setCell ⟨cb, 11, none⟩ (.map (some w3.heap.size))).alloc (.map #[] 0)).heap.size = w3.heap.size + 1 := by
  have hlt3 := (Array.getElem?_eq_some_iff.1 hblk3).1
  have hsz : (w3.setCell ⟨cb, 11, none⟩ (.map (some w3.heap.size))).heap.size = w3.heap.size := heap_set_size _ _ _
  have hTs : Turn w3 ((w3.setCell ⟨cb, 11, none⟩ (.map (some w3.heap.size))).alloc (.map #[] 0)) (fun b => b = cb) := by
    refine (turn_set (S := fun b => b = cb) (Turn.refl w3 _) rfl 11 (.map (some w3.heap.size))).trans ?_
    exact Turn.of_below ((Below.refl _ _).alloc (Nat.le_refl _) _) _
  have hkeep : ∀ b, b < w3.heap.size → b ≠ cb → ((w3.setCell ⟨cb, 11, none⟩ (.map (some w3.heap.size))).alloc (.map #[] 0)).heap[b]? = w3.heap[b]? := fun b h1 h2 => hTs.block b h1 h2
  have hblka : ((w3.setCell ⟨cb, 11, none⟩ (.map (some w3.heap.size))).alloc (.map #[] 0)).heap[cb]? = some (.cells ((nodeCells (T.nd i) i dv (.map none)).setIfInBounds 11 (.map (some w3.heap.size))) 110 (0, 0)) :=
    (Below.block ((Below.refl _ _).alloc (Nat.le_refl _) _) cb (by rw [hsz]; exact hlt3)).trans (heap_set_same hblk3 11 _)
  have hnew : MapIs ((w3.setCell ⟨cb, 11, none⟩ (.map (some w3.heap.size))).alloc (.map #[] 0)) w3.heap.size [] := by
    have := mapIs_made (w3.setCell ⟨cb, 11, none⟩ (.map (some w3.heap.size)))
    rwa [hsz] at this
  refine ⟨cp_start hin (dv := dv) (hm3.of_block (hkeep mb hm3.lt (by omega))) (hDt3.kept fun g ⟨cs, hg⟩ => hkeep g (Array.getElem?_eq_some_iff.1 hg).1 ?_) hblka hcbw hnew hT3.size ?_, hM3.of_block (hkeep _ hM3.lt hbm), by simp [hsz]⟩
  · rintro rfl
    rw [hg] at hblk3
    simp at hblk3
  · exact hT3.trans (hTs.mono fun b _ hb => Or.inr (by rw [hb]; exact hcbw))

theorem Ranges.iter {w : World} {b r : Nat} {l left : List (Value × Value)} (h : Ranges w b r l left) : (∀ cs t, w.heap[r]? ≠ some (Obj.cells cs t (0, 0))) ∧ ∀ es c, w.heap[r]? ≠ some (Obj.map es c) := by
  obtain ⟨es, clock, since, seen, c0, hb, hs, hl, hr, _⟩ := h
  constructor
  · intro cs t e
    rw [hr] at e
    cases e
  · intro es c e
    rw [hr] at e
    cases e

/-- A round behind the copy of what stands there: it is stored. -/
theorem cp_round {w w6 : World} {tb : Nat} {A M C MC : Nat → Nat} {T : Fs} {mb cb m r i j : Nat} {p : Pt} {Dn : List Nat} {K1 L' : List (Bytes × Nat)} {y : Bytes} {C1 MC1 : Nat → Nat} {New1 : List Nat} {left : List (Value × Value)} (hI : T.Inv) (hp : (p, i) ∈ T.names) (hk : (T.nd i).kind = 2) (hmb : mb < w.heap.size)
    (hno : ¬ Own tb A M T mb) (hMi : M i < w.heap.size) (hr : w.heap.size ≤ r) (hC : CpInv w w6 A C MC T mb cb m p i Dn K1 C1 MC1 New1) (hK : (T.kids p).Perm ((K1 ++ [(y, j)]) ++ L')) (hrg : Ranges w6 (M i) r (entries A (T.kids p)) left)
    {w7 : World} {C2 MC2 : Nat → Nat} {New2 : List Nat} (hd : CopyDone w6 w7 A C1 MC1 T mb (p ++ [y]) j (Dn ++ i :: New1) C2 MC2 New2) :
    w7.cell? ⟨cb, 11, none⟩ = some (.map (some m)) ∧ ∃ w8, (Instr.mapUpdate 108 (.map (some m)) (.string (mkS y)) (.pointer (some ⟨C2 j, 0, none⟩))).run Tryz.prog w7 = .ok () w8 ∧ w8.cell? ⟨cb, 11, none⟩ = some (.map (some m)) ∧
      CpInv w w8 A C MC T mb cb m p i Dn (K1 ++ [(y, j)]) C2 MC2 (New1 ++ New2) ∧ Ranges w8 (M i) r (entries A (T.kids p)) left := by
  obtain ⟨q1, ⟨dv7, q2, q3⟩, q4⟩ := cp_step hI hp hk hmb hC hd
  have hnd := (hK.map (·.1)).nodup_iff.1 (hI.kids_nodup p)
  have hyK : ∀ k, (y, k) ∉ K1 := fun k hk => by
    rw [List.map_append, List.map_append, List.append_assoc] at hnd
    exact (List.nodup_append.1 hnd).2.2 y (List.mem_map.2 ⟨_, hk, rfl⟩) y (by simp) rfl
  have hkey := keyable_string Tryz.underlying9 w7 (mkS y) (entries_keys C2 K1)
  obtain ⟨w8, hrun, hm8, ht8⟩ := q1.store_new under_kids (v := ptr (C2 j)) hkey (entries_miss hyK)
  have hg8 := ht8.grown
  have hT8 : Turn w7 w8 (fun b => b = m) := Turn.of_grown hg8 (fun j e => by cases e; rfl)
  have hm8' : MapIs w8 m (entries C2 (K1 ++ [(y, j)])) := hm8.perm (by
    unfold entries
    rw [List.map_append]
    exact List.perm_append_singleton _ _)
  have hC8 := q4 w8 hm8' hT8
  obtain ⟨dv8, _, q6⟩ := hC8.node
  have hmi := hC.fresh.kids i (List.mem_cons_self ..) hk
  rw [hC.mi] at hmi
  refine ⟨cell_of q3 rfl, w8, hrun, cell_of q6 rfl, hC8, ?_⟩
  have hrg7 : Ranges w7 (M i) r (entries A (T.kids p)) left := hrg.of_blocks (hd.turn.block _ hrg.is.lt fun e => hno (by rw [← show M i = mb from e]; exact Or.inr (Or.inr ⟨i, ⟨p, hp⟩, hk, rfl⟩))) (hd.turn.block _ hrg.lt (by omega))
  refine hrg7.of_blocks (hT8.block _ hrg7.is.lt (by omega)) (hT8.block _ hrg7.lt ?_)
  rintro rfl
  obtain ⟨es, c, h, _⟩ := q1
  exact hrg7.iter.2 es c h

set_option maxHeartbeats 4000000 in
set_option maxRecDepth 100000 in
theorem copied_calls (tb : Nat) (A M : Nat → Nat) (T : Fs) (mb : Nat) :
    ∀ (n : Nat) (p : Pt) (i : Nat) (C MC : Nat → Nat) (Dn : List Nat) (w : World), Rep w tb A M T → (p, i) ∈ T.names → (∀ t j, (p ++ t, j) ∈ T.names → t.length ≤ n) → MapIs w mb (metL A C Dn) → ¬ Own tb A M T mb → (∀ j ∈ Dn, T.Live j) →
      (∀ t j, (p ++ t, j) ∈ T.names → (T.nd j).kind = 2 → j ∉ Dn) →
    Calls Tryz.prog 50 #[ptr (A i), .map (some mb)] w (CopyPost w A C MC T mb p i Dn) := by
  intro n
  induction n using Nat.strongRecOn with
  | _ n ih =>
    intro p i C MC Dn w hR hp hlen hm hno hD hdir
    have hI := hR.inv
    by_cases hin : i ∈ Dn
    · have hk : (T.nd i).kind ≠ 2 := fun hk => hdir [] i (by simpa using hp) hk hin
      have hlk := met_hit hR ⟨_, hp⟩ hD hm hin
      have hfin := copy_again (MC := MC) hI hp hk hin hm
      replace hfin := Lib.hid hfin
      clear hR hm hno ih hlen
      unfold ptr at *
      go_enter Tryz.func50, Tryz.ntmps50
      go_wp2
      go_ret
      exact ⟨C, MC, [], rfl, hfin.out⟩
    · have hlk := met_miss hR ⟨_, hp⟩ hD hm hin
      obtain ⟨dv, hDv, c0, c1, c2, c3, c4, c5, c6, c7, c8, c9, c10, c11⟩ := hR.cells ⟨p, hp⟩
      have hdl := hI.data p i hp
      have hdk := hDv.rdb
      obtain ⟨dA, dc, rfl, hd1, hd2⟩ := hDv.shape
      have hAlt : A i < w.heap.size := hR.lt (Or.inr (Or.inl ⟨i, ⟨p, hp⟩, rfl⟩))
      have hkeep : ∀ W, Below w.heap.size w W → W.cell? ⟨A i, 0, none⟩ = some (.int .i64 (T.nd i).kind) ∧ W.cell? ⟨A i, 1, none⟩ = some (.int .i64 i) ∧ W.cell? ⟨A i, 2, none⟩ = some (.int .i64 0) ∧ W.cell? ⟨A i, 3, none⟩ = some (.int .i64 (T.nd i).links) ∧
          W.cell? ⟨A i, 4, none⟩ = some (.int .i64 (T.nd i).mt.mode) ∧ W.cell? ⟨A i, 5, none⟩ = some (.int .i64 (T.nd i).mt.sec) ∧ W.cell? ⟨A i, 6, none⟩ = some (.int .i64 (T.nd i).mt.nano) ∧ W.cell? ⟨A i, 7, none⟩ = some (.int .i64 (T.nd i).mt.uid) ∧ W.cell? ⟨A i, 8, none⟩ = some (.int .i64 (T.nd i).mt.gid) ∧
          W.cell? ⟨A i, 9, none⟩ = some (.string (mkS (T.nd i).target)) ∧ W.cell? ⟨A i, 10, none⟩ = some (.slice dA (T.nd i).data.length dc) := by
        intro W hB
        have e : ∀ o, W.cell? ⟨A i, o, none⟩ = w.cell? ⟨A i, o, none⟩ := fun o => hB.cell (p := ⟨A i, o, none⟩) hAlt
        simp only [e]
        exact ⟨c0, c1, c2, c3, c4, c5, c6, c7, c8, c9, c10⟩
      have hcl := fun W => bclone_rd (.slice dA (T.nd i).data.length dc) (T.nd i).data W
      have hrd := fun (W : World) (hB : Below w.heap.size w W) => hdk.below hB
      replace hcl := Lib.hid hcl
      replace hrd := Lib.hid hrd
      replace hkeep := Lib.hid hkeep
      replace hDv := Lib.hid hDv
      replace hm := Lib.hid hm
      replace hR := Lib.hid hR
      replace ih := Lib.hid ih
      replace hlen := Lib.hid hlen
      replace hD := Lib.hid hD
      replace hdir := Lib.hid hdir
      replace hdk := Lib.hid hdk
      clear c0 c1 c2 c3 c4 c5 c6 c7 c8 c9 c10
      unfold ptr at *
      go_enter Tryz.func50, Tryz.ntmps50
      go_wp2_with fail
      go_region_held3 (fun W => W.cell? ⟨A i, 0, none⟩ = some (.int .i64 (T.nd i).kind) ∧ W.cell? ⟨A i, 1, none⟩ = some (.int .i64 i) ∧ W.cell? ⟨A i, 2, none⟩ = some (.int .i64 0) ∧ W.cell? ⟨A i, 3, none⟩ = some (.int .i64 (T.nd i).links) ∧
          W.cell? ⟨A i, 4, none⟩ = some (.int .i64 (T.nd i).mt.mode) ∧ W.cell? ⟨A i, 5, none⟩ = some (.int .i64 (T.nd i).mt.sec) ∧ W.cell? ⟨A i, 6, none⟩ = some (.int .i64 (T.nd i).mt.nano) ∧ W.cell? ⟨A i, 7, none⟩ = some (.int .i64 (T.nd i).mt.uid) ∧ W.cell? ⟨A i, 8, none⟩ = some (.int .i64 (T.nd i).mt.gid) ∧
          W.cell? ⟨A i, 9, none⟩ = some (.string (mkS (T.nd i).target)) ∧ W.cell? ⟨A i, 10, none⟩ = some (.slice dA (T.nd i).data.length dc)) (first | (exact hkeep.out _ (below_drewN (Below.refl _ _) 1)) | (exact hkeep.out _ hBc) | (exact hkeep.out _ (below_alloc hBc _)))
        ((go_at_call 71; refine (hcl.out _ (hrd.out _ (below_drewN (Below.refl _ _) 1)) (by omega)).mono ?_; rintro e w1 ⟨⟨v1, rfl, hO1⟩, hB1⟩; obtain ⟨A1, c1, rfl, _, _⟩ := own_shape hO1.own; have hBc := below_step (below_drewN (Below.refl w.heap.size w) 1) hB1))
      rename_i hHeld
      clear hHeld
      have hB2 : Below w.heap.size w (w1.alloc (.cells (nodeCells (T.nd i) i (.slice A1 (T.nd i).data.length c1) (.map none)) 110)) := below_alloc hBc _
      have hblk := (MapKept.heap_alloc w1 (.cells (nodeCells (T.nd i) i (.slice A1 (T.nd i).data.length c1) (.map none)) 110)).1
      have hcbw : w.heap.size ≤ w1.heap.size := hBc.size
      have hDt : Dat (w1.alloc (.cells (nodeCells (T.nd i) i (.slice A1 (T.nd i).data.length c1) (.map none)) 110)) (.slice A1 (T.nd i).data.length c1) (T.nd i).data :=
        hO1.dat.kept fun g ⟨cs, hg⟩ => ((Below.refl w1.heap.size w1).alloc (Nat.le_refl _) _).block g (Array.getElem?_eq_some_iff.1 hg).1
      have hR2 := hR.out.below hB2
      have hmlt := hm.out.lt
      have hm2 : MapIs (w1.alloc (.cells (nodeCells (T.nd i) i (.slice A1 (T.nd i).data.length c1) (.map none)) 110)) mb (metL A C Dn) := hm.out.of_block (hB2.block mb hmlt)
      obtain ⟨w3, hrun3, hm3, ht3⟩ := met_store (cb := w1.heap.size) hR2 ⟨_, hp⟩ hD.out hm2 hin
      have hg3 := ht3.grown
      have hT3 : Turn w w3 (fun b => b = mb) := (Turn.of_below hB2 _).trans (Turn.of_grown hg3 fun j e => by cases e; exact Or.inl rfl)
      have hblk3 : w3.heap[w1.heap.size]? = some (.cells (nodeCells (T.nd i) i (.slice A1 (T.nd i).data.length c1) (.map none)) 110 (0, 0)) := (hg3.block _ (Array.getElem?_eq_some_iff.1 hblk).1 (by simp; omega)).trans hblk
      have hDt3 : Dat w3 (.slice A1 (T.nd i).data.length c1) (T.nd i).data := hDt.kept fun g ⟨cs, hg⟩ => hg3.block g (Array.getElem?_eq_some_iff.1 hg).1 (by have := map_ne_cells hm2 hg; simpa using this)
      have hcb3 := (Array.getElem?_eq_some_iff.1 hblk3).1
      have hR3 : Rep w3 tb A M T := hR.out.kept (fun b hb => hT3.block b (hR.out.lt hb) (fun e => hno (by rw [← show b = mb from e]; exact hb))) (fun g ⟨cs, hg⟩ => hT3.block g (Array.getElem?_eq_some_iff.1 hg).1 (map_ne_cells hm.out hg))
      obtain ⟨cb, hcb⟩ : ∃ x, x = w1.heap.size := ⟨_, rfl⟩
      rw [← hcb] at hcbw hrun3 hblk3 hcb3 hm3
      obtain ⟨dvi3, _, hni3⟩ := hR3.node i ⟨_, hp⟩
      have c11' : w3.cell? ⟨A i, 11, none⟩ = some (kidsV (T.nd i) (M i)) := cell_of hni3 rfl
      have hbm : M i ≠ cb ∨ (T.nd i).kind ≠ 2 := by
        by_cases hk : (T.nd i).kind = 2
        · have := (hR.out.kids p i hp hk).lt
          exact Or.inl (by omega)
        · exact Or.inr hk
      have hstore : Hid ((Instr.mapUpdate 95 (.map (some mb)) (.pointer (some ⟨A i, 0, none⟩)) (.pointer (some ⟨cb, 0, none⟩))).run Tryz.prog (w1.alloc (.cells (nodeCells (T.nd i) i (.slice A1 (T.nd i).data.length c1) (.map none)) 110)) = .ok () w3) := Lib.hid hrun3
      replace hblk3 := Lib.hid hblk3
      replace hDt3 := Lib.hid hDt3
      replace hm3 := Lib.hid hm3
      replace hT3 := Lib.hid hT3
      replace hR3 := Lib.hid hR3
      replace hni3 := Lib.hid hni3
      replace hcb := Lib.hid hcb
      clear hblk hDt hR2 hm2 hrun3 ht3 hg3 hB2 hO1 hB1 hBc hlk
      by_cases hk : (T.nd i).kind = 2
      · have hM3 := hR3.out.kids p i hp hk
        have hlen3 : ∀ ty, (Builtin.len_ #[108] ty #[.map (some (M i))]).run Tryz.prog w3 = .ok (.int .i64 (T.kids p).length) w3 := fun ty => by
          rw [hM3.len under_kids ty]
          simp [entries]
        have hMlt : M i < w.heap.size := (hR.out.kids p i hp hk).lt
        have hnd := hI.kids_nodup p
        rw [kidsV, if_pos hk] at c11'
        have hmn := fun W m => map_not_nil W m
        have hmk := fun n W => run_makeMap_hint (P := Tryz.prog) under_kids n W
        have cc : w3.cell? ⟨cb, 11, none⟩ = some (.map none) := cell_of hblk3.out rfl
        have fc : w3.frozen? ⟨cb, 11, none⟩ = false := by have := hblk3.out; simp [World.frozen?, this]
        have hA3 : A i < w3.heap.size := Nat.lt_of_lt_of_le hAlt hT3.out.size
        have hww3 := hT3.out.size
        obtain ⟨hst1, hst2, hst3⟩ := copied_dir_start (MC := MC) hmlt hin (by rcases hbm with h | h; exact h; exact absurd hk h) hm3.out hDt3.out hblk3.out hcbw hT3.out hM3
        replace hst1 := Lib.hid hst1
        replace hst2 := Lib.hid hst2
        replace hst3 := Lib.hid hst3
        replace hM3 := Lib.hid hM3
        replace hnd := Lib.hid hnd
        replace hI := Lib.hid hI
        replace hk := Lib.hid hk
        rw [← hcb.out]
        go_wp2_with (first | (at_mapUpdate; refine wp_store _ rfl _ _ _ 95 rfl (.map (some mb)) (.pointer (some ⟨A i, 0, none⟩)) (.pointer (some ⟨cb, 0, none⟩)) rfl rfl rfl w3 hstore.out ?_) | (at_range; refine wp_range _ rfl _ 108 rfl 9 85 under_kids (M i) _ rfl hst2.out ?_))
        intro w5 hrg5 hg5 _
        have hst5 := hst1.out.other (S := fun _ => False) (Turn.of_grown hg5 (fun j e => by cases e)) (fun b hb => hb.elim)
        clear hst3 hst2 hst1 hg5 hstore hlen3 hmk cc fc hM3 hblk3 hDt3 hm3 hT3 hR3 hni3 c11' hcb hdk hcl hrd hkeep hDv hbm
        generalize w3.heap.size = m at *
        obtain ⟨r, hr⟩ : ∃ x, x = m + 1 := ⟨_, rfl⟩
        rw [← hr] at hrg5 ⊢
        have hrw : w.heap.size ≤ r := by omega
        replace hr := Lib.hid hr
        go_wp2
        go_loopw [8, 9] (fun x kk wr => ∃ (K1 K2 : List (Bytes × Nat)) (left : List (Value × Value)) (C1 MC1 : Nat → Nat) (New1 : List Nat), Ranges wr (M i) r (entries A (T.kids p)) left ∧ left.Perm (entries A K2) ∧ (T.kids p).Perm (K1 ++ K2) ∧ CpInv w wr A C MC T mb cb m p i Dn K1 C1 MC1 New1) (fun _ _ wr => wr.rangeLeft (M i) r)
        case atStart => exact ⟨[], T.kids p, _, _, _, [], hrg5, .refl _, .refl _, hst5⟩
        case round =>
          clear hst5 hrg5
          obtain ⟨K1, K2, left, C1, MC1, New1, hrg, hL, hK, hC⟩ := hrel
          replace hL := Lib.hid hL
          replace hK := Lib.hid hK
          replace hC := Lib.hid hC
          go_wp2_with (at_next; refine wp_next _ rfl _ rfl (M i) r _ _ rfl hrg ?_ ?_)
          · intro hl0
            have hLK : K2 = [] := entries_nil (A := A) (by have := hL.out; rwa [hl0] at this)
            have hKd : (T.kids p).Perm K1 := by
              have := hK.out
              rwa [hLK, List.append_nil] at this
            have hfin := cp_end hI.out hp hk.out hC.out hKd
            have hci := hC.out.ci
            replace hfin := Lib.hid hfin
            replace hci := Lib.hid hci
            clear hL hK hC hLK hKd hl0 hrg
            go_wp2
            go_ret
            exact ⟨C1, MC1, i :: New1, ret_ptr hci.out.symm, hfin.out⟩
          · intro x v left' w6 hp2 hmem hrg6 hg6 hs6 hen
            obtain ⟨y, j, L', hL1, rfl, rfl, hL2⟩ := entries_pick hL.out hp2
            have hK2 : (T.kids p).Perm ((K1 ++ [(y, j)]) ++ L') := hK.out.trans (by simpa using hL1.append_left K1)
            have hjm : (p ++ [y], j) ∈ T.names := mem_kidsL.1 (hK2.mem_iff.2 (by simp))
            have hit := hrg.iter
            have hC6 : CpInv w w6.drew A C MC T mb cb m p i Dn K1 C1 MC1 New1 := by
              refine CpInv.other (w2 := w6) (S := fun _ => False) ?_ ((Turn.refl _ _).drewN 1) (fun b hb => hb.elim)
              refine hC.out.other (S := fun b => b = r) (Turn.of_grown hg6 (fun j e => by cases e; rfl)) ?_
              rintro b rfl
              exact ⟨hrw, hit.1, hit.2⟩
            have hT6 := hC6.turn
            have hR6 : Rep w6.drew tb A M T := hR.out.kept (fun b hb => hT6.block b (hR.out.lt hb) (fun e => hno (by rw [← show b = mb from e]; exact hb))) (fun g ⟨cs, hg⟩ => hT6.block g (Array.getElem?_eq_some_iff.1 hg).1 (map_ne_cells hm.out hg))
            have hn1 : 1 ≤ n := by simpa using hlen.out [y] j hjm
            have hyK : ∀ k, (y, k) ∉ K1 := fun k hk => by
              have hnd := (hK2.map (·.1)).nodup_iff.1 (hI.out.kids_nodup p)
              rw [List.map_append, List.map_append, List.append_assoc] at hnd
              exact (List.nodup_append.1 hnd).2.2 y (List.mem_map.2 ⟨_, hk, rfl⟩) y (by simp) rfl
            have hrec := ih.out (n - 1) (by omega) (p ++ [y]) j C1 MC1 (Dn ++ i :: New1) w6.drew hR6 hjm (fun t u hu => by
              have := hlen.out (y :: t) u (by simpa using hu)
              simp at this
              omega) hC6.met hno (fun u hu => by
                rcases List.mem_append.1 hu with hu | hu
                · exact hD.out u hu
                · rcases List.mem_cons.1 hu with rfl | hu
                  · exact ⟨_, hp⟩
                  · obtain ⟨_, z, _, t, hz⟩ := hC6.fin u hu
                    exact ⟨_, hz⟩) (fun t u hu hk2 hin2 => by
                have hu' : (p ++ y :: t, u) ∈ T.names := by simpa using hu
                rcases List.mem_append.1 hin2 with h | h
                · exact hdir.out (y :: t) u hu' hk2 h
                · rcases List.mem_cons.1 h with rfl | h
                  · have := hI.out.dir_one hp hu' hk2
                    simp at this
                  · obtain ⟨_, z, hz, t', hzt⟩ := hC6.fin u h
                    have := hI.out.dir_one hzt hu' hk2
                    rw [List.append_cancel_left_eq, List.cons.injEq] at this
                    exact hyK z.2 (by rw [this.1]; exact hz))
            have hrg6d : Ranges w6.drew (M i) r (entries A (T.kids p)) left' := hrg6
            have hround := fun (w7 : World) (C2 MC2 : Nat → Nat) (New2 : List Nat) hd => cp_round (w7 := w7) (C2 := C2) (MC2 := MC2) (New2 := New2) hI.out hp hk.out hmlt hno hMlt hrw hC6 hK2 hrg6d hd
            have c6 : w6.drew.cell? ⟨cb, 11, none⟩ = some (.map (some m)) := by
              obtain ⟨dv6, _, h6⟩ := hC6.node
              exact cell_of h6 rfl
            have hmeas : wr.rangeLeft (M i) r = left.length := hrg.left_eq
            have hlt : left'.length < left.length := by have := hp2.length_eq; simp at this; omega
            unfold ptr at hrec hen
            replace hrec := Lib.hid hrec
            replace hround := Lib.hid hround
            replace hK2 := Lib.hid hK2
            replace hL2 := Lib.hid hL2
            replace hmeas := Lib.hid hmeas
            replace hjm := Lib.hid hjm
            replace hyK := Lib.hid hyK
            clear hK hL hC hL1 hp2 hmem hrg hg6 hs6 hrg6 hrg6d hit hT6 hR6 hC6
            go_wp2_with fail
            go_region_held3 (fun W => W.cell? ⟨cb, 11, none⟩ = some (.map (some m))) (first | exact c6 | exact c7 | exact c8)
              ((go_at_call 50; refine hrec.out.mono ?_; rintro e w7 ⟨C2, MC2, New2, rfl, hd⟩; obtain ⟨c7, w8, hrun8, c8, hC8, hrg8⟩ := hround.out w7 C2 MC2 New2 hd; replace hC8 := Lib.hid hC8; clear hd hrec hround))
            rename_i hHeld
            clear hHeld
            go_wp2
            go_roundw
            case rel => exact ⟨K1 ++ [(y, j)], L', left', C2, MC2, New1 ++ New2, hrg8, hL2.out, hK2.out, hC8.out⟩
            case measure => rw [hrg8.left_eq, hmeas.out]; exact hlt
      · rw [kidsV, if_neg hk] at c11'
        have hmn := fun W m => map_not_nil W m
        have hfin : CopyDone w w3 A C MC T mb p i Dn (upd C i cb) MC [i] := copy_leaf hI hp hk (fun j hj => ⟨upd_other _ _ _ (fun e => hin (e ▸ hj)), rfl⟩) hm3.out hDt3.out (by rw [upd_same]; exact hblk3.out) (by rw [upd_same]; exact hcbw) hT3.out
        replace hfin := Lib.hid hfin
        replace hk := Lib.hid hk
        rw [← hcb.out]
        go_wp2_with (at_mapUpdate; refine wp_store _ rfl _ _ _ 95 rfl (.map (some mb)) (.pointer (some ⟨A i, 0, none⟩)) (.pointer (some ⟨cb, 0, none⟩)) rfl rfl rfl w3 hstore.out ?_)
        go_wp2
        go_ret
        exact ⟨upd C i cb, MC, [i], ret_ptr (upd_same C i cb).symm, hfin.out⟩

end Go.Proofs.YtocbjhhnginebaaGreat

namespace Go.Proofs.YtocbjhhnginebaaGreat
open Go.RowKit

/-- A tree of the call's own. -/
def NewTree (w : World) (T : Fs) (e : Ending) (w' : World) : Prop :=
  ∃ tc C MC, e = .returned (.pointer (some ⟨tc, 0, none⟩)) ∧ Rep w' tc C MC T ∧ (∀ b, Own tc C MC T b → w.heap.size ≤ b) ∧ Below w.heap.size w w'

theorem copy_rep {w w1 w2 : World} {A C MC C' MC' : Nat → Nat} {T : Fs} {mb tc : Nat} {New : List Nat} (hI : T.Inv) (hd : CopyDone w w1 A C MC T mb [] 1 [] C' MC' New) (hb : Below w1.heap.size w1 w2) (ht : w2.heap[tc]? = some (.cells #[ptr (C' 1), .int .i64 T.next] 90 (0, 0))) :
    Rep w2 tc C' MC' T ∧ ∀ b, Own tc C' MC' T b → b = tc ∨ w.heap.size ≤ b := by
  have hall : ∀ j, T.Live j → j ∈ New := fun j ⟨q, hq⟩ => by simpa using hd.cov q j (by simpa using hq)
  refine ⟨⟨hI, ht, fun j hj => ?_, fun q j hq hk => ?_, fun a b ha hb e => hd.fresh.injC a (hall a ha) b (hall b hb) e, fun a b ha hb hka hkb e => hd.fresh.injM a (hall a ha) b (hall b hb) hka hkb e⟩, ?_⟩
  · obtain ⟨dv, h1, h2⟩ := (hd.fin j (hall j hj)).1.node
    exact ⟨dv, h1.kept fun g ⟨cs, hg⟩ => hb.block g (Array.getElem?_eq_some_iff.1 hg).1, (hb.block _ (Array.getElem?_eq_some_iff.1 h2).1).trans h2⟩
  · have := (hd.fin j (hall j ⟨q, hq⟩)).1.kids q hq hk
    exact this.of_block (hb.block _ this.lt)
  · rintro b (rfl | ⟨j, hj, rfl⟩ | ⟨j, hj, hk, rfl⟩)
    · exact Or.inl rfl
    · exact Or.inr (hd.fresh.node j (hall j hj)).1
    · exact Or.inr (hd.fresh.kids j (hall j hj) hk).1

set_option maxHeartbeats 2000000 in
set_option maxRecDepth 100000 in
theorem copy_calls (tb : Nat) (A M : Nat → Nat) (T : Fs) (w : World) (hR : Rep w tb A M T) :
    Calls Tryz.prog 21 #[ptr tb] w (NewTree w T) := by
  have hI := hR.inv
  have hkeep : ∀ W, Below w.heap.size w W → W.cell? ⟨tb, 0, none⟩ = some (.pointer (some ⟨A 1, 0, none⟩)) ∧ W.cell? ⟨tb, 1, none⟩ = some (.int .i64 T.next) := fun W hB => ⟨cell_of (hR.below hB).tree rfl, cell_of (hR.below hB).tree rfl⟩
  have hB0 : Below w.heap.size w (w.drew.alloc (.map #[] 0)) := below_alloc (below_drewN (Below.refl _ _) 1) _
  have hno : ¬ Own tb A M T w.heap.size := fun h => by have := hR.lt h; omega
  have hcall := copied_calls tb A M T w.heap.size 12 [] 1 (fun _ => 0) (fun _ => 0) [] (w.drew.alloc (.map #[] 0)) (hR.below hB0) hI.one (fun t j hm => (hI.pth _ _ hm).few) (mapIs_made w.drew) hno (by simp) (by simp)
  have hmk := @run_makeMap Tryz.prog
  have hB1 : ∀ w1, Turn (w.drew.alloc (.map #[] 0)) w1 (fun b => b = w.heap.size) → Below w.heap.size w w1 := fun w1 ht => hB0.trans ⟨ht.os, ht.tape, ht.output, ht.size, fun k hk => ht.block k (by simp; omega) (by omega)⟩
  unfold ptr at *
  replace hB1 := Lib.hid hB1
  replace hcall := Lib.hid hcall
  replace hkeep := Lib.hid hkeep
  replace hB0 := Lib.hid hB0
  replace hR := Lib.hid hR
  go_enter Tryz.func21, Tryz.ntmps21
  go_wp2_with fail
  go_region_held3 (fun W => W.cell? ⟨tb, 0, none⟩ = some (.pointer (some ⟨A 1, 0, none⟩)) ∧ W.cell? ⟨tb, 1, none⟩ = some (.int .i64 T.next)) (first | (exact hkeep.out _ (below_drewN (Below.refl _ _) 1)) | (exact hkeep.out _ hB0.out) | (exact hkeep.out _ hBc) | (exact hkeep.out _ (below_alloc hBc _)))
    ((go_at_call 50; refine hcall.out.mono ?_; rintro e w1 ⟨C', MC', New, rfl, hd⟩; have hBc := hB1.out w1 hd.turn; replace hd := Lib.hid hd; clear hcall))
  rename_i hHeld
  clear hHeld
  go_wp2
  go_ret
  have hblk := (MapKept.heap_alloc w1 (.cells #[ptr (C' 1), .int .i64 T.next] 90)).1
  obtain ⟨g1, g2⟩ := copy_rep hI hd.out ((Below.refl w1.heap.size w1).alloc (Nat.le_refl _) _) hblk
  refine ⟨w1.heap.size, C', MC', rfl, g1, fun b hb => ?_, below_alloc hBc _⟩
  rcases g2 b hb with rfl | h
  · exact hBc.size
  · simp at h
    omega

set_option maxRecDepth 100000 in
theorem copy_nil (w : World) : Calls Tryz.prog 21 #[.pointer none] w fun e w' => e = .returned (.pointer none) ∧ w = w' := by
  go_enter Tryz.func21, Tryz.ntmps21
  go_wp2
  go_ret
  exact ⟨rfl, rfl⟩

/-- The top alone. -/
def Fs.start : Fs := ⟨[([], 1)], fun _ => ⟨2, 1, ⟨493, 0, 0, 0, 0⟩, [], []⟩, 2⟩
theorem start_inv : Fs.start.Inv := by
  have hm : ∀ p i, (p, i) ∈ Fs.start.names → p = [] ∧ i = 1 := fun p i h => by simpa [Fs.start] using h
  refine ⟨⟨[], rfl⟩, by simp [Fs.start], rfl, ?_, ?_, ?_, ?_, ?_, ?_, ?_, ?_⟩
  · intro p i h hp
    exact absurd (hm p i h).1 hp
  · intro p i h
    obtain ⟨rfl, _⟩ := hm p i h
    exact ⟨[], by decide, rfl⟩
  · intro p i h
    exact Or.inr (Or.inl rfl)
  · intro p i h
    obtain ⟨_, rfl⟩ := hm p i h
    exact ⟨by decide, by decide⟩
  · intro p i h
    obtain ⟨_, rfl⟩ := hm p i h
    simp [Fs.start, namesOf]
  · intro p i h _ q hq
    rw [(hm p i h).1, (hm q i hq).1]
  · intro p i h
    simp [Fs.start]
  · intro p i h
    simp [Fs.start]

theorem new_rep (w : World) : Rep (((w.alloc (.cells #[ptr (w.heap.size + 1 + 1), .int .i64 2] 90)).alloc (.map #[] 0)).alloc (.cells (nodeCells ⟨2, 1, ⟨493, 0, 0, 0, 0⟩, [], []⟩ 1 (.slice none 0 0) (.map (some (w.heap.size + 1)))) 110)) w.heap.size (fun _ => w.heap.size + 1 + 1) (fun _ => w.heap.size + 1) Fs.start ∧
    ∀ b, Own w.heap.size (fun _ => w.heap.size + 1 + 1) (fun _ => w.heap.size + 1) Fs.start b → w.heap.size ≤ b := by
  obtain ⟨o1, h1⟩ : ∃ x, x = Obj.cells #[ptr (w.heap.size + 1 + 1), .int .i64 2] 90 (0, 0) := ⟨_, rfl⟩
  obtain ⟨o3, h3⟩ : ∃ x, x = Obj.cells (nodeCells ⟨2, 1, ⟨493, 0, 0, 0, 0⟩, [], []⟩ 1 (.slice none 0 0) (.map (some (w.heap.size + 1)))) 110 (0, 0) := ⟨_, rfl⟩
  rw [← h1, ← h3]
  have a1 := (MapKept.heap_alloc w o1).1
  have s1 : (w.alloc o1).heap.size = w.heap.size + 1 := by simp
  have a2 := (MapKept.heap_alloc (w.alloc o1) (.map #[] 0)).2 w.heap.size (by rw [s1]; omega)
  have s2 : ((w.alloc o1).alloc (.map #[] 0)).heap.size = w.heap.size + 1 + 1 := by simp
  have a3 := (MapKept.heap_alloc ((w.alloc o1).alloc (.map #[] 0)) o3).2 w.heap.size (by rw [s2]; omega)
  have a4 := (MapKept.heap_alloc ((w.alloc o1).alloc (.map #[] 0)) o3).1
  rw [s2] at a4
  have m1 : MapIs ((w.alloc o1).alloc (.map #[] 0)) (w.heap.size + 1) [] := by have := mapIs_made (w.alloc o1); rwa [s1] at this
  have m2 := m1.of_block ((MapKept.heap_alloc ((w.alloc o1).alloc (.map #[] 0)) o3).2 (w.heap.size + 1) (by rw [s2]; omega))
  have hone : ∀ j, Fs.start.Live j → j = 1 := fun j ⟨q, hq⟩ => by simp [Fs.start] at hq; exact hq.2
  refine ⟨⟨start_inv, ?_, fun i hi => ⟨.slice none 0 0, dat_nil _, ?_⟩, fun p i hp _ => ?_, fun a b ha hb _ => (hone a ha).trans (hone b hb).symm, fun a b ha hb _ _ _ => (hone a ha).trans (hone b hb).symm⟩, ?_⟩
  · rw [a3, a2, a1, h1]
    rfl
  · rw [a4, h3, hone i hi]
    rfl
  · have : Fs.start.kids p = [] := by simp [Fs.start, Fs.kids, kidsL, kidOf]
    rw [this]
    exact m2
  · rintro b (rfl | ⟨_, _, rfl⟩ | ⟨_, _, _, rfl⟩)
    · exact Nat.le_refl _
    · show w.heap.size ≤ w.heap.size + 1 + 1
      omega
    · show w.heap.size ≤ w.heap.size + 1
      omega

set_option maxHeartbeats 1000000 in
set_option maxRecDepth 100000 in
theorem new_calls (w : World) : Calls Tryz.prog 29 #[] w (NewTree w Fs.start) := by
  have hmk := @run_makeMap Tryz.prog
  go_enter Tryz.func29, Tryz.ntmps29
  go_wp2
  go_ret
  exact ⟨w.heap.size, _, _, rfl, (new_rep w).1, (new_rep w).2, (((Below.refl _ _).alloc (Nat.le_refl _) _).alloc (by simp) _).alloc (by simp; omega) _⟩

end Go.Proofs.YtocbjhhnginebaaGreat

namespace Go.Proofs.YtocbjhhnginebaaGreat
open Go.RowKit

/-- Two things are alike by themselves. -/
def Lk (T U : Fs) (i j : Nat) : Prop := (T.nd i).kind = (U.nd j).kind ∧ (T.nd i).mt = (U.nd j).mt ∧ (T.nd i).target = (U.nd j).target ∧ (T.nd i).data = (U.nd j).data

/-- Two trees are the same: the same names, alike things, and the same names of one thing. -/
structure SameFs (T U : Fs) : Prop where
  there : ∀ p i, (p, i) ∈ T.names → ∃ j, (p, j) ∈ U.names
  back : ∀ p j, (p, j) ∈ U.names → ∃ i, (p, i) ∈ T.names
  like : ∀ p i j, (p, i) ∈ T.names → (p, j) ∈ U.names → Lk T U i j
  one : ∀ p q i j, (p, i) ∈ T.names → (q, i) ∈ T.names → (p, j) ∈ U.names → (q, j) ∈ U.names
  two : ∀ p q i j, (p, i) ∈ T.names → (p, j) ∈ U.names → (q, j) ∈ U.names → (q, i) ∈ T.names

theorem SameFs.refl {T : Fs} (h : T.Inv) : SameFs T T := by
  refine ⟨fun p i hi => ⟨i, hi⟩, fun p j hj => ⟨j, hj⟩, fun p i j hi hj => ?_, fun p q i j h1 h2 h3 => ?_, fun p q i j h1 h2 h3 => ?_⟩
  · have := h.at_one hi hj
    subst this
    exact ⟨rfl, rfl, rfl, rfl⟩
  · have := h.at_one h1 h3
    subst this
    exact h2
  · have := h.at_one h1 h2
    subst this
    exact h3

theorem inj_of_nodup {α β : Type} {f : α → β} : ∀ {l : List α}, (l.map f).Nodup → ∀ x ∈ l, ∀ y ∈ l, f x = f y → x = y
  | [], _, x, hx, _, _, _ => by cases hx
  | a :: l, h, x, hx, y, hy, e => by
    obtain ⟨h1, h2⟩ := List.nodup_cons.1 h
    rcases List.mem_cons.1 hx with rfl | hx' <;> rcases List.mem_cons.1 hy with rfl | hy'
    · rfl
    · exact absurd (List.mem_map.2 ⟨y, hy', e.symm⟩) h1
    · exact absurd (List.mem_map.2 ⟨x, hx', e⟩) h1
    · exact inj_of_nodup h2 x hx' y hy' e

/-- The pairs that the program keeps: which thing of the one is which of the other. -/
def prL (A B : Nat → Nat) (Pr : List (Nat × Nat)) : List (Value × Value) := Pr.map fun x => (ptr (A x.1), ptr (B x.2))
def prR (A B : Nat → Nat) (Pr : List (Nat × Nat)) : List (Value × Value) := Pr.map fun x => (ptr (B x.2), ptr (A x.1))

structure AlkDone (w w' : World) (A B : Nat → Nat) (T U : Fs) (pb kb : Nat) (p : Pt) (i j : Nat) (Pr : List (Nat × Nat)) (r : Bool) (Pr' : List (Nat × Nat)) : Prop where
  m1 : MapIs w' pb (prL A B Pr')
  m2 : MapIs w' kb (prR A B Pr')
  old : ∀ x ∈ Pr, x ∈ Pr'
  wit : ∀ x ∈ Pr', ∃ q, (q, x.1) ∈ T.names ∧ (q, x.2) ∈ U.names
  low : ∀ x ∈ Pr', x ∈ Pr ∨ ∃ t, (p ++ t, x.1) ∈ T.names
  turn : Turn w w' (fun b => b = pb ∨ b = kb)
  yes : r = true → (i, j) ∈ Pr' ∧ (∀ x ∈ Pr', Lk T U x.1 x.2) ∧ (∀ t i', (p ++ t, i') ∈ T.names → ∃ j', (p ++ t, j') ∈ U.names ∧ (i', j') ∈ Pr') ∧ ∀ t j', (p ++ t, j') ∈ U.names → ∃ i', (p ++ t, i') ∈ T.names
  no : r = false → ¬ SameFs T U

structure AlkInv (w wr : World) (A B : Nat → Nat) (T U : Fs) (pb kb : Nat) (p : Pt) (i j : Nat) (Pr : List (Nat × Nat)) (K1 : List (Bytes × Nat)) (Pr1 : List (Nat × Nat)) : Prop where
  m1 : MapIs wr pb (prL A B Pr1)
  m2 : MapIs wr kb (prR A B Pr1)
  old : ∀ x ∈ Pr, x ∈ Pr1
  own : (i, j) ∈ Pr1
  wit : ∀ x ∈ Pr1, ∃ q, (q, x.1) ∈ T.names ∧ (q, x.2) ∈ U.names
  low : ∀ x ∈ Pr1, x ∈ Pr ∨ x = (i, j) ∨ ∃ y ∈ K1, ∃ t, (p ++ y.1 :: t, x.1) ∈ T.names
  like : ∀ x ∈ Pr1, Lk T U x.1 x.2
  cov : ∀ y ∈ K1, ∀ t i', (p ++ y.1 :: t, i') ∈ T.names → ∃ j', (p ++ y.1 :: t, j') ∈ U.names ∧ (i', j') ∈ Pr1
  cov2 : ∀ y ∈ K1, ∀ t j', (p ++ y.1 :: t, j') ∈ U.names → ∃ i', (p ++ y.1 :: t, i') ∈ T.names
  turn : Turn w wr (fun b => b = pb ∨ b = kb)

theorem pigeon {α : Type} [DecidableEq α] : ∀ {l1 l2 : List α}, l1.Nodup → (∀ x ∈ l1, x ∈ l2) → l2.length ≤ l1.length → ∀ x ∈ l2, x ∈ l1
  | [], l2, _, _, h, x, hx => by
    have : l2 = [] := List.eq_nil_of_length_eq_zero (by simpa using h)
    subst this
    cases hx
  | a :: l1, l2, hn, hs, h, x, hx => by
    obtain ⟨h1, h2⟩ := List.nodup_cons.1 hn
    by_cases e : x = a
    · subst e; exact List.mem_cons_self ..
    · have ha := hs a (List.mem_cons_self ..)
      have hl := List.length_erase_of_mem ha
      refine List.mem_cons_of_mem _ (pigeon (l2 := l2.erase a) h2 (fun y hy => ?_) (by simp at h; omega) x ((List.mem_erase_of_ne e).2 hx))
      exact (List.mem_erase_of_ne (fun e : y = a => h1 (e ▸ hy))).2 (hs y (List.mem_cons_of_mem _ hy))

section
variable {w w2 w3 : World} {A B : Nat → Nat} {T U : Fs} {pb kb : Nat} {p : Pt} {i j : Nat} {Pr Pr1 Pr2 : List (Nat × Nat)} {K1 : List (Bytes × Nat)}

/-- The same trees have the same names in a directory. -/
theorem SameFs.kids_len (h : SameFs T U) (hT : T.Inv) (hU : U.Inv) (p : Pt) : (T.kids p).length = (U.kids p).length := by
  have h1 := hT.kids_nodup p
  have h2 := hU.kids_nodup p
  have : ((T.kids p).map (·.1)).Perm ((U.kids p).map (·.1)) := (List.perm_ext_iff_of_nodup h1 h2).2 fun x => by
    constructor
    · intro hx
      obtain ⟨⟨y, k⟩, hy, rfl⟩ := List.mem_map.1 hx
      obtain ⟨j, hj⟩ := h.there _ _ (mem_kidsL.1 hy)
      exact List.mem_map.2 ⟨(y, j), mem_kidsL.2 hj, rfl⟩
    · intro hx
      obtain ⟨⟨y, k⟩, hy, rfl⟩ := List.mem_map.1 hx
      obtain ⟨j, hj⟩ := h.back _ _ (mem_kidsL.1 hy)
      exact List.mem_map.2 ⟨(y, j), mem_kidsL.2 hj, rfl⟩
  have := this.length_eq
  simpa using this

/-- Where a pair stands already, the answer is whether it is this one. -/
theorem alk_again (hT : T.Inv) (hU : U.Inv) (hp : (p, i) ∈ T.names) (hq : (p, j) ∈ U.names) (hk : (T.nd i).kind ≠ 2) (m1 : MapIs w pb (prL A B Pr)) (m2 : MapIs w kb (prR A B Pr)) (wit : ∀ x ∈ Pr, ∃ q, (q, x.1) ∈ T.names ∧ (q, x.2) ∈ U.names)
    (like : ∀ x ∈ Pr, Lk T U x.1 x.2) {j' : Nat} (hin : (i, j') ∈ Pr) : AlkDone w w A B T U pb kb p i j Pr (decide (j' = j)) Pr := by
  refine ⟨m1, m2, fun x hx => hx, wit, fun x hx => Or.inl hx, Turn.refl _ _, fun hr => ?_, fun hr hs => ?_⟩
  · have e : j' = j := by simpa using hr
    subst e
    refine ⟨hin, like, fun t i' hm => ?_, fun t k hm => ?_⟩
    · by_cases ht : t = []
      · subst ht
        rw [List.append_nil] at *
        have := hT.at_one hp hm
        subst this
        exact ⟨j', by simpa using hq, hin⟩
      · have := hT.at_below t ht (p := p) (fun k hk' => by rw [hT.at_some.2 hp] at hk'; cases hk'; exact hk)
        rw [hT.at_some.2 hm] at this
        cases this
    · by_cases ht : t = []
      · subst ht
        exact ⟨i, by simpa using hp⟩
      · have hk2 : (U.nd j').kind ≠ 2 := by rw [← (like _ hin).1]; exact hk
        have := hU.at_below t ht (p := p) (fun k hk' => by rw [hU.at_some.2 hq] at hk'; cases hk'; exact hk2)
        rw [hU.at_some.2 hm] at this
        cases this
  · have e : j' ≠ j := by simpa using hr
    obtain ⟨q, h1, h2⟩ := wit _ hin
    have := hs.one q p i j' h1 hp h2
    exact e (hU.at_one this hq)

/-- Where the other thing is a pair's already, they are not the same. -/
theorem alk_taken (hT : T.Inv) (hp : (p, i) ∈ T.names) (hq : (p, j) ∈ U.names) (m1 : MapIs w pb (prL A B Pr)) (m2 : MapIs w kb (prR A B Pr)) (wit : ∀ x ∈ Pr, ∃ q, (q, x.1) ∈ T.names ∧ (q, x.2) ∈ U.names)
    {i' : Nat} (hin : (i', j) ∈ Pr) (hni : ∀ j', (i, j') ∉ Pr) : AlkDone w w A B T U pb kb p i j Pr false Pr := by
  refine ⟨m1, m2, fun x hx => hx, wit, fun x hx => Or.inl hx, Turn.refl _ _, fun hr => (by cases hr), fun _ hs => ?_⟩
  obtain ⟨q, h1, h2⟩ := wit _ hin
  have := hs.two q p i' j h1 h2 hq
  have := hT.at_one this hp
  subst this
  exact hni _ hin

/-- Both are put down as a pair. -/
theorem alk_start (hp : (p, i) ∈ T.names) (hq : (p, j) ∈ U.names) (m1 : MapIs w2 pb (prL A B (Pr ++ [(i, j)]))) (m2 : MapIs w2 kb (prR A B (Pr ++ [(i, j)]))) (wit : ∀ x ∈ Pr, ∃ q, (q, x.1) ∈ T.names ∧ (q, x.2) ∈ U.names)
    (like : ∀ x ∈ Pr, Lk T U x.1 x.2) (hl : Lk T U i j) (ht : Turn w w2 (fun b => b = pb ∨ b = kb)) : AlkInv w w2 A B T U pb kb p i j Pr [] (Pr ++ [(i, j)]) := by
  have hmem : ∀ x ∈ Pr ++ [(i, j)], x ∈ Pr ∨ x = (i, j) := fun x hx => by simpa using hx
  refine ⟨m1, m2, fun x hx => List.mem_append_left _ hx, by simp, fun x hx => ?_, fun x hx => ?_, fun x hx => ?_, by simp, by simp, ht⟩
  · rcases hmem x hx with h | rfl
    · exact wit x h
    · exact ⟨p, hp, hq⟩
  · rcases hmem x hx with h | h
    · exact Or.inl h
    · exact Or.inr (Or.inl h)
  · rcases hmem x hx with h | rfl
    · exact like x h
    · exact hl

/-- .. and it ends with no. -/
theorem alk_no (hp : (p, i) ∈ T.names) (hq : (p, j) ∈ U.names) (m1 : MapIs w2 pb (prL A B (Pr ++ [(i, j)]))) (m2 : MapIs w2 kb (prR A B (Pr ++ [(i, j)]))) (wit : ∀ x ∈ Pr, ∃ q, (q, x.1) ∈ T.names ∧ (q, x.2) ∈ U.names)
    (hno : ¬ SameFs T U) (ht : Turn w w2 (fun b => b = pb ∨ b = kb)) : AlkDone w w2 A B T U pb kb p i j Pr false (Pr ++ [(i, j)]) := by
  have hmem : ∀ x ∈ Pr ++ [(i, j)], x ∈ Pr ∨ x = (i, j) := fun x hx => by simpa using hx
  refine ⟨m1, m2, fun x hx => List.mem_append_left _ hx, fun x hx => ?_, fun x hx => ?_, ht, fun h => (by cases h), fun _ => hno⟩
  · rcases hmem x hx with h | rfl
    · exact wit x h
    · exact ⟨p, hp, hq⟩
  · rcases hmem x hx with h | rfl
    · exact Or.inl h
    · exact Or.inr ⟨[], by simpa using hp⟩

theorem AlkInv.stop (hp : (p, i) ∈ T.names) (h : AlkInv w w2 A B T U pb kb p i j Pr K1 Pr1) (hno : ¬ SameFs T U) : AlkDone w w2 A B T U pb kb p i j Pr false Pr1 := by
  refine ⟨h.m1, h.m2, h.old, h.wit, fun x hx => ?_, h.turn, fun h => (by cases h), fun _ => hno⟩
  rcases h.low x hx with h | rfl | ⟨y, _, t, h⟩
  · exact Or.inl h
  · exact Or.inr ⟨[], by simpa using hp⟩
  · exact Or.inr ⟨_, h⟩

theorem AlkInv.other (h : AlkInv w w2 A B T U pb kb p i j Pr K1 Pr1) {S : Nat → Prop} (ht : Turn w2 w3 S) (hS : ∀ b, S b → w.heap.size ≤ b ∧ ∀ es c, w2.heap[b]? ≠ some (Obj.map es c)) : AlkInv w w3 A B T U pb kb p i j Pr K1 Pr1 := by
  have hmap : ∀ {b l}, MapIs w2 b l → MapIs w3 b l := fun {b l} hb => hb.of_block (ht.block _ hb.lt fun hs => by
    obtain ⟨es, c, h1, _⟩ := hb
    exact (hS _ hs).2 es c h1)
  exact ⟨hmap h.m1, hmap h.m2, h.old, h.own, h.wit, h.low, h.like, h.cov, h.cov2, h.turn.trans (ht.mono fun b _ hb => Or.inr (hS b hb).1)⟩

/-- A round: what stands at a name is alike in both. -/
theorem alk_step (h : AlkInv w w2 A B T U pb kb p i j Pr K1 Pr1) {y : Bytes} {k l : Nat} (hd : AlkDone w2 w3 A B T U pb kb (p ++ [y]) k l Pr1 true Pr2) : AlkInv w w3 A B T U pb kb p i j Pr (K1 ++ [(y, k)]) Pr2 := by
  obtain ⟨h1, h2, h3, h4⟩ := hd.yes rfl
  refine ⟨hd.m1, hd.m2, fun x hx => hd.old x (h.old x hx), hd.old _ h.own, hd.wit, fun x hx => ?_, h2, fun z hz t i' hm => ?_, fun z hz t j' hm => ?_, h.turn.trans (hd.turn.mono fun b _ hb => Or.inl hb)⟩
  · rcases hd.low x hx with hx | ⟨t, ht⟩
    · rcases h.low x hx with h | h | ⟨z, hz, t, ht⟩
      · exact Or.inl h
      · exact Or.inr (Or.inl h)
      · exact Or.inr (Or.inr ⟨z, List.mem_append_left _ hz, t, ht⟩)
    · exact Or.inr (Or.inr ⟨(y, k), by simp, t, by simpa using ht⟩)
  · rcases List.mem_append.1 hz with hz | hz
    · obtain ⟨j', g1, g2⟩ := h.cov z hz t i' hm
      exact ⟨j', g1, hd.old _ g2⟩
    · obtain rfl := List.mem_singleton.1 hz
      have := h3 t i' (by simpa using hm)
      simpa using this
  · rcases List.mem_append.1 hz with hz | hz
    · exact h.cov2 z hz t j' hm
    · obtain rfl := List.mem_singleton.1 hz
      have := h4 t j' (by simpa using hm)
      simpa using this

/-- A round that says no. -/
theorem alk_fall (hp : (p, i) ∈ T.names) (h : AlkInv w w2 A B T U pb kb p i j Pr K1 Pr1) {y : Bytes} {k l : Nat} (hd : AlkDone w2 w3 A B T U pb kb (p ++ [y]) k l Pr1 false Pr2) : AlkDone w w3 A B T U pb kb p i j Pr false Pr2 := by
  refine ⟨hd.m1, hd.m2, fun x hx => hd.old x (h.old x hx), hd.wit, fun x hx => ?_, h.turn.trans (hd.turn.mono fun b _ hb => Or.inl hb), fun h => (by cases h), fun _ => hd.no rfl⟩
  rcases hd.low x hx with hx | ⟨t, ht⟩
  · rcases h.low x hx with h | rfl | ⟨z, hz, t, ht⟩
    · exact Or.inl h
    · exact Or.inr ⟨[], by simpa using hp⟩
    · exact Or.inr ⟨_, ht⟩
  · exact Or.inr ⟨y :: t, by simpa using ht⟩

/-- All names of the directory are through. -/
theorem alk_end (hT : T.Inv) (hU : U.Inv) (hp : (p, i) ∈ T.names) (hq : (p, j) ∈ U.names) (h : AlkInv w w2 A B T U pb kb p i j Pr K1 Pr1) (hK : (T.kids p).Perm K1) (hl : (T.kids p).length = (U.kids p).length) : AlkDone w w2 A B T U pb kb p i j Pr true Pr1 := by
  refine ⟨h.m1, h.m2, h.old, h.wit, fun x hx => ?_, h.turn, fun _ => ⟨h.own, h.like, fun t i' hm => ?_, fun t j' hm => ?_⟩, fun h => (by cases h)⟩
  · rcases h.low x hx with h | rfl | ⟨y, _, t, h⟩
    · exact Or.inl h
    · exact Or.inr ⟨[], by simpa using hp⟩
    · exact Or.inr ⟨_, h⟩
  · cases t with
    | nil =>
      rw [List.append_nil] at *
      have := hT.at_one hp hm
      subst this
      exact ⟨j, hq, h.own⟩
    | cons y t =>
      obtain ⟨k, hk⟩ := hT.above (r := p ++ [y]) (t := t) (i := i') (by simpa using hm)
      exact h.cov (y, k) (hK.mem_iff.1 (mem_kidsL.2 hk)) t i' hm
  · cases t with
    | nil => exact ⟨i, by simpa using hp⟩
    | cons y t =>
      obtain ⟨k, hk⟩ := hU.above (r := p ++ [y]) (t := t) (i := j') (by simpa using hm)
      have hsub : ∀ x ∈ (T.kids p).map (·.1), x ∈ (U.kids p).map (·.1) := fun x hx => by
        obtain ⟨⟨z, c⟩, hz, rfl⟩ := List.mem_map.1 hx
        obtain ⟨j2, g1, _⟩ := h.cov (z, c) (hK.mem_iff.1 hz) [] c (mem_kidsL.1 hz)
        exact List.mem_map.2 ⟨(z, j2), mem_kidsL.2 g1, rfl⟩
      have hy := pigeon (hT.kids_nodup p) hsub (by simp [hl]) y (List.mem_map.2 ⟨(y, k), mem_kidsL.2 hk, rfl⟩)
      obtain ⟨⟨z, c⟩, hz, rfl⟩ := List.mem_map.1 hy
      exact h.cov2 (z, c) (hK.mem_iff.1 hz) t j' hm

/-- The whole: yes means the same. -/
theorem alk_same (hU : U.Inv) {r : Bool} (h1 : (prL A B Pr1).map (·.1) |>.Nodup) (h2 : (prR A B Pr1).map (·.1) |>.Nodup) (h : AlkDone w w2 A B T U pb kb [] 1 1 [] r Pr1) : r = true ↔ SameFs T U := by
  constructor
  · intro hr
    obtain ⟨_, g2, g3, g4⟩ := h.yes hr
    unfold prL at h1
    unfold prR at h2
    rw [List.map_map] at h1 h2
    have inj1 : ∀ a b c, (a, b) ∈ Pr1 → (a, c) ∈ Pr1 → b = c := fun a b c k1 k2 => by
      have := inj_of_nodup h1 _ k1 _ k2 rfl
      simpa using this
    have inj2 : ∀ a b c, (a, c) ∈ Pr1 → (b, c) ∈ Pr1 → a = b := fun a b c k1 k2 => by
      have := inj_of_nodup h2 _ k1 _ k2 rfl
      simpa using this
    have hc : ∀ p i j, (p, i) ∈ T.names → (p, j) ∈ U.names → (i, j) ∈ Pr1 := fun p i j hi hj => by
      obtain ⟨j', e1, e2⟩ := g3 p i (by simpa using hi)
      rw [List.nil_append] at e1
      rwa [hU.at_one e1 hj] at e2
    refine ⟨fun p i hi => ?_, fun p j hj => ?_, fun p i j hi hj => g2 _ (hc p i j hi hj), fun p q i j h1 h2 h3 => ?_, fun p q i j h1 h2 h3 => ?_⟩
    · obtain ⟨j', e1, _⟩ := g3 p i (by simpa using hi)
      exact ⟨j', by simpa using e1⟩
    · have := g4 p j (by simpa using hj)
      simpa using this
    · obtain ⟨j', e1, e2⟩ := g3 q i (by simpa using h2)
      rw [List.nil_append] at e1
      rwa [inj1 i j' j e2 (hc p i j h1 h3)] at e1
    · obtain ⟨i', e1⟩ := g4 q j (by simpa using h3)
      rw [List.nil_append] at e1
      rwa [inj2 i' i j (hc q i' j e1 h3) (hc p i j h1 h2)] at e1
  · intro hs
    cases r with
    | true => rfl
    | false => exact absurd hs (h.no rfl)

end

end Go.Proofs.YtocbjhhnginebaaGreat
