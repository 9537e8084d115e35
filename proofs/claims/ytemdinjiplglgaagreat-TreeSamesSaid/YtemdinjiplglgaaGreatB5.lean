/-
  remoraref16.Check; remoraref17: may, fresh.
  The reference's tree in memory behind each change.
  remoraref17: make, Mkdir, Symlink.
  remoraref17: Mkdir, Symlink.
  remoraref17: Set, Append.
  remoraref17.Write.
  remoraref17: Link, gone, Remove.
  A region that draws its order, whose loads stand under one condition S, and whose last operations write what S speaks of: the head is walked under S, the tail in the text's order.
  remoraref17: gone, Remove.
  remoraref17: Remove.
  remoraref17: moved.
  remoraref17: Rename, the plain law of the moved row.
  remoraref17: Rename, its two last steps in memory.
  remoraref17: Rename.
  remoraref17: Do.
-/
import Derived.Test.YtemdinjiplglgaaGreatB4
import Derived.Test.YtemdinjiplglgaaGreatB2
import Derived.Test.YtemdinjiplglgaaGreatB3
import Derived.Test.YtemdinjiplglgaaGreatB1
import Derived.StillTail
import Derived.OrdersHeld
set_option linter.unusedVariables false
set_option linter.unusedSimpArgs false

namespace Go.Proofs.YtemdinjiplglgaaGreat
open Go.RowKit

set_option maxRecDepth 100000 in
theorem rin16_calls (n lo hi : Int) (w : World) : Calls Tryz.prog 125 #[.int .i64 n, .int .i64 lo, .int .i64 hi] w fun e w' => e = .returned (.bool (within n lo hi)) ∧ w = w' := by
  unfold within
  by_cases h1 : lo ≤ n
  · go_enter Tryz.func125, Tryz.ntmps125
    go_wp2
    go_ret
    exact ⟨ret_bool (by simp [h1]), rfl⟩
  · have h2 : decide (lo ≤ n) = false := by simpa using h1
    replace h1 := Lib.hid h1
    go_enter Tryz.func125, Tryz.ntmps125
    go_wp2
    go_ret
    exact ⟨ret_bool (by first | rfl | (rw [h2]; rfl)), rfl⟩

set_option maxHeartbeats 2000000 in
set_option maxRecDepth 100000 in
theorem rcheck_calls (m : Mt) (w : World) :
    Calls Tryz.prog 119 #[mtV m] w fun e w' => e = .returned (.int .i64 (if metaOk m then 0 else 2)) ∧ Below w.heap.size w w' := by
  obtain ⟨a1, a2, a3, a4, a5⟩ := m
  unfold mtV mtCells metaOk
  dsimp only
  have k1 := fun W => rin16_calls a1 0 4095 W
  have k2 := fun W => rin16_calls a2 (-1099511627776) 1099511627776 W
  have k3 := fun W => rin16_calls a3 0 999999999 W
  have k4 := fun W => rin16_calls a4 0 2147483647 W
  have k5 := fun W => rin16_calls a5 0 2147483647 W
  generalize within a1 0 4095 = b1 at *
  generalize within a2 (-1099511627776) 1099511627776 = b2 at *
  generalize within a3 0 999999999 = b3 at *
  generalize within a4 0 2147483647 = b4 at *
  generalize within a5 0 2147483647 = b5 at *
  have hB := (Below.refl w.heap.size w).alloc (Nat.le_refl _) (.cells #[.int .i64 a1, .int .i64 a2, .int .i64 a3, .int .i64 a4, .int .i64 a5] 40)
  have hblk := (MapKept.heap_alloc w (.cells #[.int .i64 a1, .int .i64 a2, .int .i64 a3, .int .i64 a4, .int .i64 a5] 40)).1
  have c0 := cell_of (j := 0) hblk (v := .int .i64 a1) rfl
  have c1 := cell_of (j := 1) hblk (v := .int .i64 a2) rfl
  have c2 := cell_of (j := 2) hblk (v := .int .i64 a3) rfl
  have c3 := cell_of (j := 3) hblk (v := .int .i64 a4) rfl
  have c4 := cell_of (j := 4) hblk (v := .int .i64 a5) rfl
  cases b1 with
  | false =>
    replace k1 := Lib.hid k1
    replace k2 := Lib.hid k2
    replace k3 := Lib.hid k3
    replace k4 := Lib.hid k4
    replace k5 := Lib.hid k5
    replace hB := Lib.hid hB
    replace hblk := Lib.hid hblk
    go_enter Tryz.func119, Tryz.ntmps119
    go_wp2_with fail
    (with_reducible refine (k1.out _).mono ?_)
    rintro e w1 ⟨rfl, rfl⟩
    go_wp2_with fail
    go_ret
    exact ⟨rfl, hB.out⟩
  | true =>
    cases b2 with
    | false =>
      replace k1 := Lib.hid k1
      replace k2 := Lib.hid k2
      replace k3 := Lib.hid k3
      replace k4 := Lib.hid k4
      replace k5 := Lib.hid k5
      replace hB := Lib.hid hB
      replace hblk := Lib.hid hblk
      go_enter Tryz.func119, Tryz.ntmps119
      go_wp2_with fail
      (with_reducible refine (k1.out _).mono ?_)
      rintro e w1 ⟨rfl, rfl⟩
      go_wp2_with fail
      (with_reducible refine (k2.out _).mono ?_)
      rintro e w1 ⟨rfl, rfl⟩
      go_wp2_with fail
      go_ret
      exact ⟨rfl, hB.out⟩
    | true =>
      cases b3 with
      | false =>
        replace k1 := Lib.hid k1
        replace k2 := Lib.hid k2
        replace k3 := Lib.hid k3
        replace k4 := Lib.hid k4
        replace k5 := Lib.hid k5
        replace hB := Lib.hid hB
        replace hblk := Lib.hid hblk
        go_enter Tryz.func119, Tryz.ntmps119
        go_wp2_with fail
        (with_reducible refine (k1.out _).mono ?_)
        rintro e w1 ⟨rfl, rfl⟩
        go_wp2_with fail
        (with_reducible refine (k2.out _).mono ?_)
        rintro e w1 ⟨rfl, rfl⟩
        go_wp2_with fail
        (with_reducible refine (k3.out _).mono ?_)
        rintro e w1 ⟨rfl, rfl⟩
        go_wp2_with fail
        go_ret
        exact ⟨rfl, hB.out⟩
      | true =>
        cases b4 with
        | false =>
          replace k1 := Lib.hid k1
          replace k2 := Lib.hid k2
          replace k3 := Lib.hid k3
          replace k4 := Lib.hid k4
          replace k5 := Lib.hid k5
          replace hB := Lib.hid hB
          replace hblk := Lib.hid hblk
          go_enter Tryz.func119, Tryz.ntmps119
          go_wp2_with fail
          (with_reducible refine (k1.out _).mono ?_)
          rintro e w1 ⟨rfl, rfl⟩
          go_wp2_with fail
          (with_reducible refine (k2.out _).mono ?_)
          rintro e w1 ⟨rfl, rfl⟩
          go_wp2_with fail
          (with_reducible refine (k3.out _).mono ?_)
          rintro e w1 ⟨rfl, rfl⟩
          go_wp2_with fail
          (with_reducible refine (k4.out _).mono ?_)
          rintro e w1 ⟨rfl, rfl⟩
          go_wp2_with fail
          go_ret
          exact ⟨rfl, hB.out⟩
        | true =>
          cases b5 with
          | false =>
            replace k1 := Lib.hid k1
            replace k2 := Lib.hid k2
            replace k3 := Lib.hid k3
            replace k4 := Lib.hid k4
            replace k5 := Lib.hid k5
            replace hB := Lib.hid hB
            replace hblk := Lib.hid hblk
            go_enter Tryz.func119, Tryz.ntmps119
            go_wp2_with fail
            (with_reducible refine (k1.out _).mono ?_)
            rintro e w1 ⟨rfl, rfl⟩
            go_wp2_with fail
            (with_reducible refine (k2.out _).mono ?_)
            rintro e w1 ⟨rfl, rfl⟩
            go_wp2_with fail
            (with_reducible refine (k3.out _).mono ?_)
            rintro e w1 ⟨rfl, rfl⟩
            go_wp2_with fail
            (with_reducible refine (k4.out _).mono ?_)
            rintro e w1 ⟨rfl, rfl⟩
            go_wp2_with fail
            (with_reducible refine (k5.out _).mono ?_)
            rintro e w1 ⟨rfl, rfl⟩
            go_wp2_with fail
            go_ret
            exact ⟨rfl, hB.out⟩
          | true =>
            replace k1 := Lib.hid k1
            replace k2 := Lib.hid k2
            replace k3 := Lib.hid k3
            replace k4 := Lib.hid k4
            replace k5 := Lib.hid k5
            replace hB := Lib.hid hB
            replace hblk := Lib.hid hblk
            go_enter Tryz.func119, Tryz.ntmps119
            go_wp2_with fail
            (with_reducible refine (k1.out _).mono ?_)
            rintro e w1 ⟨rfl, rfl⟩
            go_wp2_with fail
            (with_reducible refine (k2.out _).mono ?_)
            rintro e w1 ⟨rfl, rfl⟩
            go_wp2_with fail
            (with_reducible refine (k3.out _).mono ?_)
            rintro e w1 ⟨rfl, rfl⟩
            go_wp2_with fail
            (with_reducible refine (k4.out _).mono ?_)
            rintro e w1 ⟨rfl, rfl⟩
            go_wp2_with fail
            (with_reducible refine (k5.out _).mono ?_)
            rintro e w1 ⟨rfl, rfl⟩
            go_wp2_with fail
            go_ret
            exact ⟨rfl, hB.out⟩

set_option maxHeartbeats 1000000 in
set_option maxRecDepth 100000 in
theorem rmay_calls (s : ByteArray) (m : Mt) (w : World) (hs : s.size ≤ 16777216) :
    Calls Tryz.prog 97 #[.string s, mtV m] w fun e w' => e = .returned (.int .i64 (mayE (bl s) m)) ∧ Below w.heap.size w w' := by
  have h1 := fun W => refright_calls s W hs
  have h2 := fun W => rcheck_calls m W
  obtain ⟨a1, a2, a3, a4, a5⟩ := m
  unfold mayE
  generalize metaOk ⟨a1, a2, a3, a4, a5⟩ = ok at *
  unfold mtV mtCells at *
  dsimp only at *
  have hB := (Below.refl w.heap.size w).alloc (Nat.le_refl _) (.cells #[.int .i64 a1, .int .i64 a2, .int .i64 a3, .int .i64 a4, .int .i64 a5] 40)
  have hblk := (MapKept.heap_alloc w (.cells #[.int .i64 a1, .int .i64 a2, .int .i64 a3, .int .i64 a4, .int .i64 a5] 40)).1
  replace h2 := Lib.hid h2
  replace hB := Lib.hid hB
  cases hr : right (bl s) with
  | false =>
    rw [hr] at h1
    replace h1 := Lib.hid h1
    replace hr := Lib.hid hr
    go_enter Tryz.func97, Tryz.ntmps97
    go_wp2_with fail
    (with_reducible refine (h1.out _).mono ?_)
    rintro e w1 ⟨rfl, hB1⟩
    replace hB1 := Lib.hid hB1
    go_wp2
    go_ret
    exact ⟨rfl, below_step hB.out hB1.out⟩
  | true =>
    rw [hr] at h1
    replace h1 := Lib.hid h1
    replace hr := Lib.hid hr
    go_enter Tryz.func97, Tryz.ntmps97
    go_wp2_with fail
    (with_reducible refine (h1.out _).mono ?_)
    rintro e w1 ⟨rfl, hB1⟩
    have hblk1 := (hB1.block _ (Array.getElem?_eq_some_iff.1 hblk).1).trans hblk
    have c0 := cell_of (j := 0) hblk1 (v := .int .i64 a1) rfl
    have c1 := cell_of (j := 1) hblk1 (v := .int .i64 a2) rfl
    have c2 := cell_of (j := 2) hblk1 (v := .int .i64 a3) rfl
    have c3 := cell_of (j := 3) hblk1 (v := .int .i64 a4) rfl
    have c4 := cell_of (j := 4) hblk1 (v := .int .i64 a5) rfl
    have hB01 := below_step hB.out hB1
    replace hB01 := Lib.hid hB01
    replace hblk := Lib.hid hblk
    replace hblk1 := Lib.hid hblk1
    clear hB1
    go_wp2_with fail
    (with_reducible refine (h2.out _).mono ?_)
    rintro e w2 ⟨rfl, hB2⟩
    have hB02 := below_step hB01.out hB2
    replace hB02 := Lib.hid hB02
    clear hB2
    cases ok with
    | false =>
      go_wp2
      go_ret
      exact ⟨rfl, hB02.out⟩
    | true =>
      go_wp2
      go_ret
      exact ⟨rfl, hB02.out⟩

section
variable (rb : Nat) (v : Value) (A : Nat → Nat) (T : Fs)
set_option maxHeartbeats 1000000 in
set_option maxRecDepth 100000 in
theorem rfresh_calls (s : ByteArray) (w : World) (hR : RRep w rb v A T) (hs : s.size ≤ 16777216) :
    Calls Tryz.prog 98 #[ptr rb, .string s] w fun e w' => e = .returned (.int .i64 (T.fresh (bl s)).2) ∧ Below w.heap.size w w' := by
  have h1 := rlook_calls rb v A T s w hR hs
  unfold Fs.fresh
  generalize T.look (bl s) = lk at *
  obtain ⟨n, d, e⟩ := lk
  dsimp only at *
  unfold ptr at *
  by_cases he : e = 0
  · subst he
    cases n with
    | none =>
      rw [optPtr_none] at h1
      rw [if_neg (by simp)]
      replace h1 := Lib.hid h1
      replace hR := Lib.hid hR
      go_enter Tryz.func98, Tryz.ntmps98
      go_wp2_with fail
      (with_reducible refine (h1.out).mono ?_)
      rintro e w1 ⟨rfl, hB⟩
      replace hB := Lib.hid hB
      go_wp2
      go_ret
      exact ⟨rfl, hB.out⟩
    | some i =>
      rw [optPtr_some] at h1
      rw [if_pos ⟨rfl, by simp⟩]
      replace h1 := Lib.hid h1
      replace hR := Lib.hid hR
      go_enter Tryz.func98, Tryz.ntmps98
      go_wp2_with fail
      (with_reducible refine (h1.out).mono ?_)
      rintro e w1 ⟨rfl, hB⟩
      replace hB := Lib.hid hB
      go_wp2
      go_ret
      exact ⟨rfl, hB.out⟩
  · have he2 : (e == 0) = false := by simpa using he
    rw [if_neg (fun h => he h.1)]
    replace h1 := Lib.hid h1
    replace hR := Lib.hid hR
    replace he := Lib.hid he
    go_enter Tryz.func98, Tryz.ntmps98
    go_wp2_with fail
    (with_reducible refine (h1.out).mono ?_)
    rintro e w1 ⟨rfl, hB⟩
    replace hB := Lib.hid hB
    go_wp2
    go_ret
    exact ⟨rfl, hB.out⟩
end

end Go.Proofs.YtemdinjiplglgaaGreat

namespace Go.Proofs.YtemdinjiplglgaaGreat
open Go.RowKit

section
variable {w w' : World} {rb : Nat} {v v1 : Value} {A : Nat → Nat} {T T' : Fs}

theorem RRep.node_type (h : RRep w rb v A T) {i : Nat} (hi : T.Live i) : ∃ cs, w.heap[A i]? = some (.cells cs 80 (0, 0)) := by
  obtain ⟨dv, _, h2⟩ := h.node i hi
  exact ⟨_, h2⟩
theorem RRep.row_type (h : RRep w rb v A T) {g : Nat} (hg : v.ownBlock = some g) : ∃ cs, w.heap[g]? = some (.cells cs 82 (0, 0)) := (own_cells h.row hg).2

theorem types_apart {x y : Nat} {cs ds : Array Value} {t u : TypeId} {f f' : Nat × Nat} (hx : w.heap[x]? = some (.cells cs t f)) (hy : w.heap[y]? = some (.cells ds u f')) (h : t ≠ u) : x ≠ y := by
  rintro rfl
  rw [hx] at hy
  cases hy
  exact h rfl

theorem RRep.node_tree (h : RRep w rb v A T) {i : Nat} (hi : T.Live i) : A i ≠ rb := by
  obtain ⟨_, h2⟩ := h.node_type hi
  exact types_apart h2 h.tree (by decide)
theorem RRep.node_row (h : RRep w rb v A T) {i : Nat} (hi : T.Live i) : v.ownBlock ≠ some (A i) := fun e => by
  obtain ⟨_, h2⟩ := h.node_type hi
  obtain ⟨_, h3⟩ := h.row_type e
  exact types_apart h2 h3 (by decide) rfl
theorem RRep.tree_row (h : RRep w rb v A T) : v.ownBlock ≠ some rb := fun e => by
  obtain ⟨_, h3⟩ := h.row_type e
  exact types_apart h.tree h3 (by decide) rfl

/-- Another row of names. -/
theorem rrep_row (hR : RRep w rb v A T) (hI' : T'.Inv) (hlive : ∀ i, T'.Live i → T.Live i) (hnd : ∀ i, T'.Live i → rnode (T'.nd i) i = rnode (T.nd i) i ∧ (T'.nd i).data = (T.nd i).data) (hnext : T'.next = T.next)
    (ht : Turn w w' (fun b => b = rb ∨ v.ownBlock = some b)) (htree : w'.heap[rb]? = some (.cells #[v1, .int .i64 T.next] 85 (0, 0))) (hrow : w'.ownsRow 0 82 2 v1 T'.names.length (rrow A T'.names)) : RRep w' rb v1 A T' := by
  refine ⟨hI', by rw [hnext]; exact htree, hrow, fun i hi => ?_, fun i j hi hj e => hR.injA i j (hlive i hi) (hlive j hj) e⟩
  have hl := hlive i hi
  obtain ⟨dv, h1, h2⟩ := hR.node i hl
  obtain ⟨e1, e2⟩ := hnd i hi
  refine ⟨dv, ?_, ?_⟩
  · rw [e2]
    refine h1.kept fun g ⟨cs, hg⟩ => ht.block g (Array.getElem?_eq_some_iff.1 hg).1 ?_
    rintro (rfl | hv)
    · exact types_apart hg hR.tree (by decide) rfl
    · obtain ⟨_, h3⟩ := hR.row_type hv
      exact types_apart hg h3 (by decide) rfl
  · rw [e1]
    refine (ht.block (A i) (Array.getElem?_eq_some_iff.1 h2).1 ?_).trans h2
    rintro (e | hv)
    · exact hR.node_tree hl e
    · exact hR.node_row hl hv

theorem row_turn (ht : Turn w w' (fun b => b = rb ∨ v.ownBlock = some b)) : Turn w w' (ROwn rb v A T) := ht.mono fun b _ h => h.imp id Or.inl

theorem row_own (hlive : ∀ i, T'.Live i → T.Live i) (hat : v1.ownBlock = v.ownBlock ∨ ∃ b, v1.ownBlock = some b ∧ w.heap.size ≤ b) {b : Nat} (hb : ROwn rb v1 A T' b) : ROwn rb v A T b ∨ w.heap.size ≤ b := by
  rcases hb with rfl | hv | ⟨i, hi, rfl⟩
  · exact Or.inl (Or.inl rfl)
  · rcases hat with e | ⟨b', e, hle⟩
    · exact Or.inl (Or.inr (Or.inl (e ▸ hv)))
    · rw [e] at hv
      cases hv
      exact Or.inr hle
  · exact Or.inl (Or.inr (Or.inr ⟨i, hlive i hi, rfl⟩))

theorem rrep_row_stp (hR : RRep w rb v A T) (hI' : T'.Inv) (hlive : ∀ i, T'.Live i → T.Live i) (hnd : ∀ i, T'.Live i → rnode (T'.nd i) i = rnode (T.nd i) i ∧ (T'.nd i).data = (T.nd i).data) (hnext : T'.next = T.next)
    (ht : Turn w w' (fun b => b = rb ∨ v.ownBlock = some b)) (htree : w'.heap[rb]? = some (.cells #[v1, .int .i64 T.next] 85 (0, 0))) (hrow : w'.ownsRow 0 82 2 v1 T'.names.length (rrow A T'.names))
    (hat : v1.ownBlock = v.ownBlock ∨ ∃ b, v1.ownBlock = some b ∧ w.heap.size ≤ b) : RStp w w' rb v A T T' :=
  ⟨v1, A, rrep_row hR hI' hlive hnd hnext ht htree hrow, row_turn ht, fun _ hb => row_own hlive hat hb⟩

/-- A thing's record. -/
theorem rrep_set {p : Pt} {i : Nat} {n : Nd} {dv : Value} (hR : RRep w rb v A T) (hi : (p, i) ∈ T.names) (hN : NdOk n) (hk : n.kind = (T.nd i).kind) (hl : n.links = (T.nd i).links) (ht : Turn w w' (fun b => b = A i))
    (hnode : w'.heap[A i]? = some (.cells (rnode n i dv) 80 (0, 0))) (hdv : Dat w' dv n.data) : RStp w w' rb v A T (T.set i n) := by
  have hli : T.Live i := ⟨p, hi⟩
  have hbytes : ∀ g : Nat, (∃ cs, w.heap[g]? = some (Obj.cells cs 5 (0, 0))) → w'.heap[g]? = w.heap[g]? := fun g ⟨cs, hg⟩ => ht.block g (Array.getElem?_eq_some_iff.1 hg).1 fun e => by
    obtain ⟨_, h3⟩ := hR.node_type hli
    exact types_apart hg h3 (by decide) e
  refine ⟨v, A, ⟨set_inv hR.inv hN hk hl, ?_, own_blocks hR.row fun g hg => ?_, fun j hj => ?_, hR.injA⟩, ht.mono fun b _ h => Or.inr (Or.inr ⟨i, hli, h⟩), fun b hb => Or.inl hb⟩
  · exact (ht.block rb (Array.getElem?_eq_some_iff.1 hR.tree).1 fun e => hR.node_tree hli e.symm).trans hR.tree
  · obtain ⟨_, h3⟩ := hR.row_type hg
    exact ht.block g (Array.getElem?_eq_some_iff.1 h3).1 fun e => hR.node_row hli (e ▸ hg)
  · by_cases hji : j = i
    · subst hji
      refine ⟨dv, ?_, ?_⟩
      · simpa [Fs.set] using hdv
      · simpa [Fs.set] using hnode
    · have hlj : T.Live j := hj
      obtain ⟨du, g1, g2⟩ := hR.node j hlj
      have e : (T.set i n).nd j = T.nd j := by simp [Fs.set, hji]
      rw [e]
      exact ⟨du, g1.kept hbytes, (ht.block (A j) (Array.getElem?_eq_some_iff.1 g2).1 fun e => hji (hR.injA j i hlj hli e)).trans g2⟩

/-- A thing more. -/
theorem rrep_add {p : Pt} {d nb : Nat} {n : Nd} {dv : Value} {ncs : Array Value} (hR : RRep w rb v A T) (hp : p ≠ []) (hP : Pth p) (hd : (p.dropLast, d) ∈ T.names) (hk : (T.nd d).kind = 2) (hn : T.at p = none) (h1 : n.links = 1) (hN : NdOk n)
    (hnb : ¬ ROwn rb v A T nb) (hnt : w.heap[nb]? = some (.cells ncs 80 (0, 0))) (ht : Turn w w' (fun b => b = rb ∨ v.ownBlock = some b ∨ b = nb))
    (htree : w'.heap[rb]? = some (.cells #[v1, .int .i64 (T.next + 1 : Nat)] 85 (0, 0))) (hrow : w'.ownsRow 0 82 2 v1 (T.names.length + 1) (rrow A T.names ++ [.string (mkS (glue p)), ptr nb]))
    (hnode : w'.heap[nb]? = some (.cells (rnode n T.next dv) 80 (0, 0))) (hdv : Dat w' dv n.data) : RRep w' rb v1 (upd A T.next nb) (T.add p n) := by
  have hI := hR.inv
  have hfresh : ∀ {q : Pt} {i : Nat}, (q, i) ∈ T.names → i ≠ T.next := fun hm e => by
    subst e
    exact hI.next_fresh _ hm
  have hlive : ∀ j, (T.add p n).Live j → j = T.next ∨ (T.Live j ∧ j ≠ T.next) := fun j ⟨q, hq⟩ => by
    simp only [Fs.add, List.mem_append, List.mem_singleton, Prod.mk.injEq] at hq
    rcases hq with hq | ⟨_, rfl⟩
    · exact Or.inr ⟨⟨q, hq⟩, hfresh hq⟩
    · exact Or.inl rfl
  refine ⟨add_inv hI hp hP hd hk hn h1 hN, htree, ?_, fun j hj => ?_, fun i j hi hj e => ?_⟩
  · have e1 : rrow (upd A T.next nb) (T.add p n).names = rrow A T.names ++ [.string (mkS (glue p)), ptr nb] := by
      simp only [Fs.add, rrow_append]
      rw [rrow_congr (A := A) fun x hx => upd_other _ _ _ (hfresh (q := x.1) hx)]
      simp [rrow, upd_same]
    have e2 : (T.add p n).names.length = T.names.length + 1 := by simp [Fs.add]
    rw [e1, e2]
    exact hrow
  · rcases hlive j hj with rfl | ⟨hlj, hne⟩
    · refine ⟨dv, ?_, ?_⟩
      · simpa [Fs.add] using hdv
      · rw [upd_same]
        simpa [Fs.add] using hnode
    · obtain ⟨du, g1, g2⟩ := hR.node j hlj
      have e : (T.add p n).nd j = T.nd j := by simp [Fs.add, hne]
      rw [e, upd_other _ _ _ hne]
      refine ⟨du, g1.kept fun g ⟨cs, hg⟩ => ht.block g (Array.getElem?_eq_some_iff.1 hg).1 ?_, (ht.block (A j) (Array.getElem?_eq_some_iff.1 g2).1 ?_).trans g2⟩
      · rintro (rfl | hv | rfl)
        · exact types_apart hg hR.tree (by decide) rfl
        · obtain ⟨_, h3⟩ := hR.row_type hv
          exact types_apart hg h3 (by decide) rfl
        · exact types_apart hg hnt (by decide) rfl
      · rintro (e | hv | e)
        · exact hR.node_tree hlj e
        · exact hR.node_row hlj hv
        · exact hnb (Or.inr (Or.inr ⟨j, hlj, e.symm⟩))
  · rcases hlive i hi with rfl | ⟨hli, hni⟩ <;> rcases hlive j hj with rfl | ⟨hlj, hnj⟩
    · rfl
    · rw [upd_same, upd_other _ _ _ hnj] at e
      exact absurd (Or.inr (Or.inr ⟨j, hlj, e⟩)) hnb
    · rw [upd_same, upd_other _ _ _ hni] at e
      exact absurd (Or.inr (Or.inr ⟨i, hli, e.symm⟩)) hnb
    · rw [upd_other _ _ _ hni, upd_other _ _ _ hnj] at e
      exact hR.injA i j hli hlj e

theorem radd_own {p : Pt} {nb : Nat} {n : Nd} (hat : v1.ownBlock = v.ownBlock ∨ ∃ b, v1.ownBlock = some b ∧ w.heap.size ≤ b) {b : Nat} (hb : ROwn rb v1 (upd A T.next nb) (T.add p n) b) : ROwn rb v A T b ∨ w.heap.size ≤ b ∨ b = nb := by
  rcases hb with rfl | hv | ⟨i, ⟨q, hq⟩, rfl⟩
  · exact Or.inl (Or.inl rfl)
  · rcases hat with e | ⟨b', e, hle⟩
    · exact Or.inl (Or.inr (Or.inl (e ▸ hv)))
    · rw [e] at hv
      cases hv
      exact Or.inr (Or.inl hle)
  · simp only [Fs.add, List.mem_append, List.mem_singleton, Prod.mk.injEq] at hq
    by_cases hi : i = T.next
    · subst hi
      exact Or.inr (Or.inr (upd_same _ _ _))
    · rw [upd_other _ _ _ hi]
      rcases hq with hq | ⟨_, e⟩
      · exact Or.inl (Or.inr (Or.inr ⟨i, ⟨q, hq⟩, rfl⟩))
      · exact absurd e hi
end

end Go.Proofs.YtemdinjiplglgaaGreat

namespace Go.Proofs.YtemdinjiplglgaaGreat
open Go.RowKit

theorem info_name : (Tryz.prog.info? 82).map (fun i => (i.zero, i.size, i.bytes)) = some (some (.agg #[.string ⟨#[]⟩, .pointer none]), 2, 24) := by kernel_rfl

/-- What a thing more leaves. -/
def RMade (w w' : World) (rb : Nat) (v : Value) (A : Nat → Nat) (T : Fs) (p : Pt) (n : Nd) (nb : Nat) : Prop :=
  ∃ v1, RRep w' rb v1 (upd A T.next nb) (T.add p n) ∧ Turn w w' (fun b => b = rb ∨ v.ownBlock = some b ∨ b = nb) ∧ (v1.ownBlock = v.ownBlock ∨ ∃ b, v1.ownBlock = some b ∧ w.heap.size ≤ b)

/-- .. of a block of the call's own. -/
theorem RMade.stp {w w1 w' : World} {rb nb : Nat} {v : Value} {A : Nat → Nat} {T : Fs} {p : Pt} {n : Nd} (hB : Below w.heap.size w w1) (hnb : w.heap.size ≤ nb) (h : RMade w1 w' rb v A T p n nb) : RStp w w' rb v A T (T.add p n) := by
  obtain ⟨v1, h1, h2, h3⟩ := h
  refine ⟨v1, _, h1, (Turn.of_below hB _).trans (h2.mono fun b _ hb => ?_), fun b hb => ?_⟩
  · rcases hb with h | h | h
    · exact Or.inl (Or.inl h)
    · exact Or.inl (Or.inr (Or.inl h))
    · exact Or.inr (h ▸ hnb)
  · rcases radd_own (w := w1) h3 hb with h | h | h
    · exact Or.inl h
    · exact Or.inr (Nat.le_trans hB.size h)
    · exact Or.inr (h ▸ hnb)

section
variable (rb : Nat) (v : Value) (A : Nat → Nat) (T : Fs)

set_option maxHeartbeats 2000000 in
set_option maxRecDepth 100000 in
theorem rmake_calls (s : ByteArray) (d nb : Nat) (n : Nd) (dv : Value) (w : World) (hR : RRep w rb v A T) (hr : right (bl s) = true) (hne : bl s ≠ []) (hn : T.at (split (bl s)) = none) (hd : ((split (bl s)).dropLast, d) ∈ T.names) (hk : (T.nd d).kind = 2)
    (hl1 : n.links = 1) (hN : NdOk n) (hnb : ¬ ROwn rb v A T nb) (hnode : w.heap[nb]? = some (.cells (rnode n 0 dv) 80 (0, 0))) (hdv : Dat w dv n.data) (hnx : T.next < 4611686018427387904) (hf : T.names.length ≤ 1000000) :
    Calls Tryz.prog 99 #[ptr rb, .string s, ptr nb] w fun e w' => e = .returned (.tuple #[]) ∧ RMade w w' rb v A T (split (bl s)) n nb := by
  have hfin := fun v1 w' => @rrep_add w w' rb v v1 A T (split (bl s)) d nb n dv _ hR (split_ne_nil hne) ⟨_, hr, rfl⟩ hd hk hn hl1 hN hnb hnode
  rw [show rrow A T.names ++ [.string (mkS (glue (split (bl s)))), ptr nb] = rrow A T.names ++ [.string s, ptr nb] by rw [glue_split, mkS_bl]] at hfin
  have hrn : rb ≠ nb := fun e => hnb (Or.inl e.symm)
  have hvn : v.ownBlock ≠ some nb := fun e => hnb (Or.inr (Or.inl e))
  have hvr := hR.tree_row
  have hrow := hR.row
  have htree := hR.tree
  obtain ⟨g, c, hv, hc1, hc2, hp, _, _⟩ := hR.at_
  subst hv
  unfold maxLen at hc2
  have e1 : w.cell? ⟨rb, 1, none⟩ = some (.int .i64 T.next) := cell_of htree rfl
  have e2 : w.cell? ⟨nb, 1, none⟩ = some (.int .i64 0) := cell_of hnode rfl
  have f2 : w.frozen? ⟨nb, 1, none⟩ = false := by simp [World.frozen?, hnode]
  have hwr : IntKind.i64.wrap ((T.next : Int) + 1) = (T.next : Int) + 1 := IntWalk.i64_in _ (by omega)
  unfold ptr at *
  replace hfin := Lib.hid hfin
  replace hR := Lib.hid hR
  replace hrow := Lib.hid hrow
  replace htree := Lib.hid htree
  replace hnode := Lib.hid hnode
  replace hdv := Lib.hid hdv
  replace hN := Lib.hid hN
  replace hr := Lib.hid hr
  replace hne := Lib.hid hne
  replace hn := Lib.hid hn
  replace hd := Lib.hid hd
  replace hk := Lib.hid hk
  replace hl1 := Lib.hid hl1
  replace hnb := Lib.hid hnb
  go_enter Tryz.func99, Tryz.ntmps99
  go_upto_region 1 with fail
  have n1 : (w.setCell ⟨nb, 1, none⟩ (.int .i64 T.next)).heap[nb]? = some (.cells (rnode n T.next dv) 80 (0, 0)) := heap_set_same hnode.out 1 _
  have o1 : ∀ b, b ≠ nb → (w.setCell ⟨nb, 1, none⟩ (.int .i64 T.next)).heap[b]? = w.heap[b]? := fun b hb => heap_set_other w hb 1 _
  have z1 : (w.setCell ⟨nb, 1, none⟩ (.int .i64 T.next)).heap.size = w.heap.size := heap_set_size _ _ _
  have s1 : (w.setCell ⟨nb, 1, none⟩ (.int .i64 T.next)).os = w.os ∧ (w.setCell ⟨nb, 1, none⟩ (.int .i64 T.next)).tape = w.tape ∧ (w.setCell ⟨nb, 1, none⟩ (.int .i64 T.next)).output = w.output := ⟨rfl, rfl, rfl⟩
  generalize w.setCell ⟨nb, 1, none⟩ (.int .i64 T.next) = w1 at *
  have t1 := (o1 rb hrn).trans htree.out
  have e3 : w1.cell? ⟨rb, 1, none⟩ = some (.int .i64 T.next) := cell_of t1 rfl
  have f3 : w1.frozen? ⟨rb, 1, none⟩ = false := by simp [World.frozen?, t1]
  replace n1 := Lib.hid n1
  replace o1 := Lib.hid o1
  replace z1 := Lib.hid z1
  replace s1 := Lib.hid s1
  replace t1 := Lib.hid t1
  clear e1 e2 f2
  go_upto_region 2 with fail
  have t2 : (w1.setCell ⟨rb, 1, none⟩ (.int .i64 ((T.next : Int) + 1))).heap[rb]? = some (.cells #[.slice (some ⟨g, 0, none⟩) T.names.length c, .int .i64 ((T.next : Int) + 1)] 85 (0, 0)) := heap_set_same t1.out 1 _
  have o2 : ∀ b, b ≠ rb → (w1.setCell ⟨rb, 1, none⟩ (.int .i64 ((T.next : Int) + 1))).heap[b]? = w1.heap[b]? := fun b hb => heap_set_other w1 hb 1 _
  have z2 : (w1.setCell ⟨rb, 1, none⟩ (.int .i64 ((T.next : Int) + 1))).heap.size = w1.heap.size := heap_set_size _ _ _
  have s2 : (w1.setCell ⟨rb, 1, none⟩ (.int .i64 ((T.next : Int) + 1))).os = w1.os ∧ (w1.setCell ⟨rb, 1, none⟩ (.int .i64 ((T.next : Int) + 1))).tape = w1.tape ∧ (w1.setCell ⟨rb, 1, none⟩ (.int .i64 ((T.next : Int) + 1))).output = w1.output := ⟨rfl, rfl, rfl⟩
  generalize w1.setCell ⟨rb, 1, none⟩ (.int .i64 ((T.next : Int) + 1)) = w2 at *
  have n2 := (o2 nb (Ne.symm hrn)).trans n1.out
  have hrow2 : w2.ownsRow 0 82 2 (.slice (some ⟨g, 0, none⟩) T.names.length c) T.names.length (rrow A T.names) := own_blocks hrow.out fun b hb => (o2 b (fun e => hvr (e ▸ hb))).trans (o1.out b (fun e => hvn (e ▸ hb)))
  have e4 : w2.cell? ⟨rb, 0, none⟩ = some (.slice (some ⟨g, 0, none⟩) T.names.length c) := cell_of t2 rfl
  replace n2 := Lib.hid n2
  replace t2 := Lib.hid t2
  replace o2 := Lib.hid o2
  replace z2 := Lib.hid z2
  replace s2 := Lib.hid s2
  replace hrow2 := Lib.hid hrow2
  clear e3 f3 hwr
  go_wp2_with (at_builtin; refine wp_append1 0 rfl (.tmp 24) (.tmp 28) 83 82 rfl Tryz.underlying83 (.agg #[.string ⟨#[]⟩, .pointer none]) 2 24 info_name rfl (by decide) (.slice (some ⟨g, 0, none⟩) T.names.length c) _ _ rfl [.string s, .pointer (some ⟨nb, 0, none⟩)] rfl hrow2.out rfl ?_ ?_ ?_ (Nat.zero_le _) ?_)
  · simp [Value.oneCell']
  · simp only [maxLen]; omega
  · omega
  · intro v1 w3 h1 hg hat
    obtain ⟨vA, vc, hv1, _, _⟩ := own_shape h1
    subst hv1
    have t3 := (hg.block rb (Array.getElem?_eq_some_iff.1 t2.out).1 (fun e => hvr e.symm)).trans t2.out
    have n3 := (hg.block nb (Array.getElem?_eq_some_iff.1 n2.out).1 (fun e => hvn e.symm)).trans n2.out
    have f5 : w3.frozen? ⟨rb, 0, none⟩ = false := by simp [World.frozen?, t3]
    have e5 : w3.cell? ⟨rb, 0, none⟩ = some (.slice (some ⟨g, 0, none⟩) T.names.length c) := cell_of t3 rfl
    have hv1r : (Value.slice vA (T.names.length + 1) vc).ownBlock ≠ some rb := fun e => by
      obtain ⟨_, cur, hc⟩ := own_cells h1 e
      exact types_apart t3 hc (by decide) rfl
    have hv1n : (Value.slice vA (T.names.length + 1) vc).ownBlock ≠ some nb := fun e => by
      obtain ⟨_, cur, hc⟩ := own_cells h1 e
      exact types_apart n3 hc (by decide) rfl
    have hend : RMade w (w3.setCell ⟨rb, 0, none⟩ (.slice vA (T.names.length + 1) vc)) rb (.slice (some ⟨g, 0, none⟩) T.names.length c) A T (split (bl s)) n nb := by
      have ht : Turn w (w3.setCell ⟨rb, 0, none⟩ (.slice vA (T.names.length + 1) vc)) (fun b => b = rb ∨ (Value.slice (some ⟨g, 0, none⟩) T.names.length c).ownBlock = some b ∨ b = nb) := by
        refine ⟨?_, ?_, ?_, ?_, fun b hb hno => ?_⟩
        · exact hg.os.trans (s2.out.1.trans s1.out.1)
        · exact hg.tape.trans (s2.out.2.1.trans s1.out.2.1)
        · exact hg.output.trans (s2.out.2.2.trans s1.out.2.2)
        · rw [heap_set_size]
          have := hg.size
          rw [z2.out, z1.out] at this
          exact this
        · have hb1 : b ≠ rb := fun e => hno (Or.inl e)
          have hb2 : b ≠ nb := fun e => hno (Or.inr (Or.inr e))
          refine (heap_set_other w3 hb1 0 _).trans ((hg.block b (by rw [z2.out, z1.out]; exact hb) (fun e => hno (Or.inr (Or.inl e.symm)))).trans ((o2.out b hb1).trans (o1.out b hb2)))
      refine ⟨.slice vA (T.names.length + 1) vc, hfin.out _ _ ht ?_ ?_ ?_ ?_, ht, ?_⟩
      · have := heap_set_same t3 0 (.slice vA (T.names.length + 1) vc)
        simpa using this
      · exact own_blocks h1 fun b hb => heap_set_other w3 (fun e : b = rb => hv1r (by rw [← e]; exact hb)) 0 _
      · exact (heap_set_other w3 (Ne.symm hrn) 0 _).trans n3
      · refine hdv.out.kept fun b ⟨cs, hb⟩ => ?_
        have hlt := (Array.getElem?_eq_some_iff.1 hb).1
        refine ht.block b hlt ?_
        rintro (rfl | e | rfl)
        · exact types_apart hb htree.out (by decide) rfl
        · obtain ⟨_, h3⟩ := hR.out.row_type e
          exact types_apart hb h3 (by decide) rfl
        · exact types_apart hb hnode.out (by decide) rfl
      · rcases hat with e | ⟨b, e, hle⟩
        · exact Or.inl e
        · exact Or.inr ⟨b, e, by rw [z2.out, z1.out] at hle; exact hle⟩
    replace t3 := Lib.hid t3
    replace n3 := Lib.hid n3
    replace hend := Lib.hid hend
    clear h1 hg hat hv1r hv1n
    go_wp2
    go_end0
    exact ⟨rfl, hend.out⟩

end

end Go.Proofs.YtemdinjiplglgaaGreat

namespace Go.Proofs.YtemdinjiplglgaaGreat
open Go.RowKit

section
variable (rb : Nat) (v : Value) (A : Nat → Nat) (T : Fs)


set_option maxHeartbeats 2000000 in
set_option maxRecDepth 100000 in
theorem rmkdir_calls (s : ByteArray) (m : Mt) (w : World) (hR : RRep w rb v A T) (hs : s.size ≤ 16777216) (hnx : T.next < 4611686018427387904) (hf : T.names.length ≤ 1000000) :
    Calls Tryz.prog 53 #[ptr rb, .string s, mtV m] w fun e w' => e = .returned (.int .i64 (T.mkdir (bl s) m).2) ∧ RStp w w' rb v A T (T.mkdir (bl s) m).1 := by
  have h1 := fun W => rmay_calls s m W hs
  have h2 := fun W hW => rfresh_calls rb v A T s W hW hs
  have hfo := hR.inv.fresh_ok (s := bl s)
  unfold Fs.mkdir
  generalize mayE (bl s) m = me at *
  obtain ⟨a1, a2, a3, a4, a5⟩ := m
  unfold mtV mtCells ptr at *
  dsimp only at *
  have hB0 : Below w.heap.size w (w.alloc (.cells #[.int .i64 a1, .int .i64 a2, .int .i64 a3, .int .i64 a4, .int .i64 a5] 40)) := (Below.refl _ _).alloc (Nat.le_refl _) _
  have hblk := (MapKept.heap_alloc w (.cells #[.int .i64 a1, .int .i64 a2, .int .i64 a3, .int .i64 a4, .int .i64 a5] 40)).1
  have hlt0 : w.heap.size < (w.alloc (.cells #[.int .i64 a1, .int .i64 a2, .int .i64 a3, .int .i64 a4, .int .i64 a5] 40)).heap.size := by simp
  replace h1 := Lib.hid h1
  replace h2 := Lib.hid h2
  replace hblk := Lib.hid hblk
  replace hB0 := Lib.hid hB0
  replace hR := Lib.hid hR
  replace hlt0 := Lib.hid hlt0
  by_cases he : me = 0
  · subst he
    rw [if_neg (by simp)]
    by_cases hf2 : (T.fresh (bl s)).2 = 0
    · rw [if_neg (by simp [hf2])]
      obtain ⟨k1, k2, k3, d, k4, k5, k6⟩ := hfo hf2
      replace h2 := h2.out
      rw [hf2] at h2
      dsimp only
      replace h2 := Lib.hid h2
      replace k1 := Lib.hid k1
      replace k2 := Lib.hid k2
      replace k3 := Lib.hid k3
      replace k4 := Lib.hid k4
      replace k5 := Lib.hid k5
      replace k6 := Lib.hid k6
      replace hf2 := Lib.hid hf2
      clear hfo
      go_enter Tryz.func53, Tryz.ntmps53
      go_wp2_with fail
      (with_reducible refine (h1.out _).mono ?_)
      rintro e w1 ⟨rfl, hB1⟩
      have hB01 := below_step hB0.out hB1
      have h2' := h2.out w1 (hR.out.below hB01)
      replace hB01 := Lib.hid hB01
      replace h2' := Lib.hid h2'
      go_wp2_with fail
      (with_reducible refine (h2'.out).mono ?_)
      rintro e w2 ⟨rfl, hB2⟩
      have hB02 := below_step hB01.out hB2
      have hR2 := hR.out.below hB02
      have hblk2 := (hB2.block _ (Nat.lt_of_lt_of_le hlt0.out hB1.size)).trans ((hB1.block _ hlt0.out).trans hblk.out)
      have hB03 := below_alloc hB02 (.cells #[.int .i64 2, .int .i64 0, .slice none 0 0, .string ⟨#[]⟩, .int .i64 a1, .int .i64 a2, .int .i64 a3, .int .i64 a4, .int .i64 a5] 80)
      have hB23 := (Below.refl w2.heap.size w2).alloc (Nat.le_refl _) (.cells #[.int .i64 2, .int .i64 0, .slice none 0 0, .string ⟨#[]⟩, .int .i64 a1, .int .i64 a2, .int .i64 a3, .int .i64 a4, .int .i64 a5] 80)
      have hnb : ¬ ROwn rb v A T w2.heap.size := fun h => Nat.lt_irrefl _ (hR2.lt h)
      have hmk := rmake_calls rb v A T s d w2.heap.size ⟨2, 1, ⟨a1, a2, a3, a4, a5⟩, [], []⟩ (.slice none 0 0) _ (hR2.below hB23) k1.out k2.out k3.out k5.out k6.out rfl ⟨Or.inr (Or.inl rfl), by simp, by simp⟩ hnb (MapKept.heap_alloc w2 _).1 (dat_nil _) hnx hf
      unfold ptr at hmk
      have hbs := hB02.size
      have d0 := cell_of (j := 0) hblk2 (v := .int .i64 a1) rfl
      have d1 := cell_of (j := 1) hblk2 (v := .int .i64 a2) rfl
      have d2 := cell_of (j := 2) hblk2 (v := .int .i64 a3) rfl
      have d3 := cell_of (j := 3) hblk2 (v := .int .i64 a4) rfl
      have d4 := cell_of (j := 4) hblk2 (v := .int .i64 a5) rfl
      replace hB02 := Lib.hid hB02
      replace hR2 := Lib.hid hR2
      replace hblk2 := Lib.hid hblk2
      replace hB03 := Lib.hid hB03
      replace hB23 := Lib.hid hB23
      replace hnb := Lib.hid hnb
      replace hmk := Lib.hid hmk
      replace hbs := Lib.hid hbs
      clear hB1 hB2 h2'
      go_wp2_with fail
      (with_reducible refine (hmk.out).mono ?_)
      rintro e w3 ⟨rfl, hmd⟩
      have hst := RMade.stp hB03.out hbs.out hmd
      replace hst := Lib.hid hst
      clear hmd hmk
      go_wp2
      go_ret
      exact ⟨rfl, hst.out⟩
    · rw [if_pos (by simpa using hf2)]
      dsimp only
      generalize (T.fresh (bl s)).2 = fe at *
      have hfe : (fe == 0) = false := by simpa using hf2
      replace hf2 := Lib.hid hf2
      clear hfo
      go_enter Tryz.func53, Tryz.ntmps53
      go_wp2_with fail
      (with_reducible refine (h1.out _).mono ?_)
      rintro e w1 ⟨rfl, hB1⟩
      have hB01 := below_step hB0.out hB1
      have h2' := h2.out w1 (hR.out.below hB01)
      replace hB01 := Lib.hid hB01
      replace h2' := Lib.hid h2'
      go_wp2_with fail
      (with_reducible refine (h2'.out).mono ?_)
      rintro e w2 ⟨rfl, hB2⟩
      have hst := RStp.same hR.out (below_step hB01.out hB2)
      replace hst := Lib.hid hst
      clear hB1 hB2 h2'
      go_wp2
      go_ret
      exact ⟨rfl, hst.out⟩
  · rw [if_pos he]
    dsimp only
    have hme : (me == 0) = false := by simpa using he
    replace he := Lib.hid he
    clear hfo
    go_enter Tryz.func53, Tryz.ntmps53
    go_wp2_with fail
    (with_reducible refine (h1.out _).mono ?_)
    rintro e w1 ⟨rfl, hB1⟩
    have hst := RStp.same hR.out (below_step hB0.out hB1)
    replace hst := Lib.hid hst
    clear hB1
    go_wp2
    go_ret
    exact ⟨rfl, hst.out⟩

set_option maxHeartbeats 2000000 in
set_option maxRecDepth 100000 in
theorem rsymlink_calls (s tg : ByteArray) (m : Mt) (w : World) (hR : RRep w rb v A T) (hs : s.size ≤ 16777216) (hnx : T.next < 4611686018427387904) (hf : T.names.length ≤ 1000000) :
    Calls Tryz.prog 55 #[ptr rb, .string s, .string tg, mtV m] w fun e w' => e = .returned (.int .i64 (T.symlink (bl s) (bl tg) m).2) ∧ RStp w w' rb v A T (T.symlink (bl s) (bl tg) m).1 := by
  have h1 := fun W => rmay_calls s m W hs
  have h2 := fun W hW => rfresh_calls rb v A T s W hW hs
  have hfo := hR.inv.fresh_ok (s := bl s)
  have htn := str_nil tg
  have htl := bl_length tg
  unfold Fs.symlink
  generalize mayE (bl s) m = me at *
  obtain ⟨a1, a2, a3, a4, a5⟩ := m
  unfold mtV mtCells ptr at *
  dsimp only at *
  have hB0 : Below w.heap.size w (w.alloc (.cells #[.int .i64 a1, .int .i64 a2, .int .i64 a3, .int .i64 a4, .int .i64 a5] 40)) := (Below.refl _ _).alloc (Nat.le_refl _) _
  have hblk := (MapKept.heap_alloc w (.cells #[.int .i64 a1, .int .i64 a2, .int .i64 a3, .int .i64 a4, .int .i64 a5] 40)).1
  have hlt0 : w.heap.size < (w.alloc (.cells #[.int .i64 a1, .int .i64 a2, .int .i64 a3, .int .i64 a4, .int .i64 a5] 40)).heap.size := by simp
  replace h1 := Lib.hid h1
  replace h2 := Lib.hid h2
  replace hblk := Lib.hid hblk
  replace hB0 := Lib.hid hB0
  replace hR := Lib.hid hR
  replace hlt0 := Lib.hid hlt0
  by_cases he : me = 0
  · subst he
    rw [if_neg (by simp)]
    by_cases ht0 : bl tg = []
    · rw [if_pos ht0]
      dsimp only
      have ht1 : tg.toList.isEmpty = true := by rw [htn]; simpa using ht0
      replace ht0 := Lib.hid ht0
      replace htn := Lib.hid htn
      replace htl := Lib.hid htl
      clear hfo
      go_enter Tryz.func55, Tryz.ntmps55
      go_wp2_with fail
      (with_reducible refine (h1.out _).mono ?_)
      rintro e w1 ⟨rfl, hB1⟩
      have hst := RStp.same hR.out (below_step hB0.out hB1)
      replace hst := Lib.hid hst
      clear hB1
      go_wp2
      go_ret
      exact ⟨rfl, hst.out⟩
    · rw [if_neg ht0]
      have ht1 : tg.toList.isEmpty = false := by rw [htn]; simpa using ht0
      by_cases ht2 : 200 < (bl tg).length
      · rw [if_pos ht2]
        dsimp only
        rw [htl] at ht2
        replace ht0 := Lib.hid ht0
        replace htn := Lib.hid htn
        replace htl := Lib.hid htl
        clear hfo
        go_enter Tryz.func55, Tryz.ntmps55
        go_wp2_with fail
        (with_reducible refine (h1.out _).mono ?_)
        rintro e w1 ⟨rfl, hB1⟩
        have hst := RStp.same hR.out (below_step hB0.out hB1)
        replace hst := Lib.hid hst
        clear hB1
        go_wp2
        go_ret
        exact ⟨rfl, hst.out⟩
      · rw [if_neg ht2]
        rw [htl] at ht2
        have ht3 : decide (200 < (tg.size : Int)) = false := by simp; omega
        by_cases hf2 : (T.fresh (bl s)).2 = 0
        · rw [if_neg (by simp [hf2])]
          obtain ⟨k1, k2, k3, d, k4, k5, k6⟩ := hfo hf2
          replace h2 := h2.out
          rw [hf2] at h2
          dsimp only
          replace h2 := Lib.hid h2
          replace k1 := Lib.hid k1
          replace k2 := Lib.hid k2
          replace k3 := Lib.hid k3
          replace k4 := Lib.hid k4
          replace k5 := Lib.hid k5
          replace k6 := Lib.hid k6
          replace hf2 := Lib.hid hf2
          replace ht0 := Lib.hid ht0
          replace htn := Lib.hid htn
          replace ht2 := Lib.hid ht2
          clear hfo
          go_enter Tryz.func55, Tryz.ntmps55
          go_wp2_with fail
          (with_reducible refine (h1.out _).mono ?_)
          rintro e w1 ⟨rfl, hB1⟩
          have hB01 := below_step hB0.out hB1
          have h2' := h2.out w1 (hR.out.below hB01)
          replace hB01 := Lib.hid hB01
          replace h2' := Lib.hid h2'
          go_wp2_with fail
          (with_reducible refine (h2'.out).mono ?_)
          rintro e w2 ⟨rfl, hB2⟩
          have hB02 := below_step hB01.out hB2
          have hR2 := hR.out.below hB02
          have hblk2 := (hB2.block _ (Nat.lt_of_lt_of_le hlt0.out hB1.size)).trans ((hB1.block _ hlt0.out).trans hblk.out)
          have hB03 := below_alloc hB02 (.cells #[.int .i64 3, .int .i64 0, .slice none 0 0, .string tg, .int .i64 a1, .int .i64 a2, .int .i64 a3, .int .i64 a4, .int .i64 a5] 80)
          have hB23 := (Below.refl w2.heap.size w2).alloc (Nat.le_refl _) (.cells #[.int .i64 3, .int .i64 0, .slice none 0 0, .string tg, .int .i64 a1, .int .i64 a2, .int .i64 a3, .int .i64 a4, .int .i64 a5] 80)
          have hnb : ¬ ROwn rb v A T w2.heap.size := fun h => Nat.lt_irrefl _ (hR2.lt h)
          have hnode : (w2.alloc (.cells #[.int .i64 3, .int .i64 0, .slice none 0 0, .string tg, .int .i64 a1, .int .i64 a2, .int .i64 a3, .int .i64 a4, .int .i64 a5] 80)).heap[w2.heap.size]? = some (.cells (rnode ⟨3, 1, ⟨a1, a2, a3, a4, a5⟩, bl tg, []⟩ 0 (.slice none 0 0)) 80 (0, 0)) := by
            unfold rnode
            dsimp only
            rw [mkS_bl]
            exact (MapKept.heap_alloc w2 _).1
          have hmk := rmake_calls rb v A T s d w2.heap.size ⟨3, 1, ⟨a1, a2, a3, a4, a5⟩, bl tg, []⟩ (.slice none 0 0) _ (hR2.below hB23) k1.out k2.out k3.out k5.out k6.out rfl ⟨Or.inr (Or.inr rfl), by simp, ⟨fun _ => rfl, fun h => absurd rfl h, by dsimp only; rw [htl]; have := ht2.out; omega⟩⟩ hnb hnode (dat_nil _) hnx hf
          unfold ptr at hmk
          have hbs := hB02.size
          have d0 := cell_of (j := 0) hblk2 (v := .int .i64 a1) rfl
          have d1 := cell_of (j := 1) hblk2 (v := .int .i64 a2) rfl
          have d2 := cell_of (j := 2) hblk2 (v := .int .i64 a3) rfl
          have d3 := cell_of (j := 3) hblk2 (v := .int .i64 a4) rfl
          have d4 := cell_of (j := 4) hblk2 (v := .int .i64 a5) rfl
          replace hB02 := Lib.hid hB02
          replace hR2 := Lib.hid hR2
          replace hblk2 := Lib.hid hblk2
          replace hB03 := Lib.hid hB03
          replace hB23 := Lib.hid hB23
          replace hnb := Lib.hid hnb
          replace hmk := Lib.hid hmk
          replace hbs := Lib.hid hbs
          replace htl := Lib.hid htl
          replace hnode := Lib.hid hnode
          clear hB1 hB2 h2'
          go_wp2_with fail
          (with_reducible refine (hmk.out).mono ?_)
          rintro e w3 ⟨rfl, hmd⟩
          have hst := RMade.stp hB03.out hbs.out hmd
          replace hst := Lib.hid hst
          clear hmd hmk
          go_wp2
          go_ret
          exact ⟨rfl, hst.out⟩
        · rw [if_pos (by simpa using hf2)]
          dsimp only
          generalize (T.fresh (bl s)).2 = fe at *
          have hfe : (fe == 0) = false := by simpa using hf2
          replace hf2 := Lib.hid hf2
          replace ht0 := Lib.hid ht0
          replace htn := Lib.hid htn
          replace ht2 := Lib.hid ht2
          replace htl := Lib.hid htl
          clear hfo
          go_enter Tryz.func55, Tryz.ntmps55
          go_wp2_with fail
          (with_reducible refine (h1.out _).mono ?_)
          rintro e w1 ⟨rfl, hB1⟩
          have hB01 := below_step hB0.out hB1
          have h2' := h2.out w1 (hR.out.below hB01)
          replace hB01 := Lib.hid hB01
          replace h2' := Lib.hid h2'
          go_wp2_with fail
          (with_reducible refine (h2'.out).mono ?_)
          rintro e w2 ⟨rfl, hB2⟩
          have hst := RStp.same hR.out (below_step hB01.out hB2)
          replace hst := Lib.hid hst
          clear hB1 hB2 h2'
          go_wp2
          go_ret
          exact ⟨rfl, hst.out⟩
  · rw [if_pos he]
    dsimp only
    have hme : (me == 0) = false := by simpa using he
    replace he := Lib.hid he
    replace htn := Lib.hid htn
    replace htl := Lib.hid htl
    clear hfo
    go_enter Tryz.func55, Tryz.ntmps55
    go_wp2_with fail
    (with_reducible refine (h1.out _).mono ?_)
    rintro e w1 ⟨rfl, hB1⟩
    have hst := RStp.same hR.out (below_step hB0.out hB1)
    replace hst := Lib.hid hst
    clear hB1
    go_wp2
    go_ret
    exact ⟨rfl, hst.out⟩

end

end Go.Proofs.YtemdinjiplglgaaGreat

namespace Go.Proofs.YtemdinjiplglgaaGreat
open Go.RowKit

theorem Turn.set {a b : World} {S : Nat → Prop} {x : Nat} (h : Turn a b S) (hx : S x) (k : Nat) (u : Value) : Turn a (b.setCell ⟨x, k, none⟩ u) S :=
  ⟨h.os, h.tape, h.output, by rw [heap_set_size]; exact h.size, fun i hi hn => (heap_set_other b (fun e : i = x => hn (by rw [e]; exact hx)) k u).trans (h.block i hi hn)⟩

section
variable {W : World} {rb : Nat} {v : Value} {A : Nat → Nat} {T : Fs}

theorem rmt_stp {p : Pt} {i : Nat} (hR : RRep W rb v A T) (hi : (p, i) ∈ T.names) (a1 a2 a3 a4 a5 : Int) :
    RStp W (((((W.setCell ⟨A i, 4, none⟩ (.int .i64 a1)).setCell ⟨A i, 5, none⟩ (.int .i64 a2)).setCell ⟨A i, 6, none⟩ (.int .i64 a3)).setCell ⟨A i, 7, none⟩ (.int .i64 a4)).setCell ⟨A i, 8, none⟩ (.int .i64 a5)) rb v A T (T.set i { T.nd i with mt := ⟨a1, a2, a3, a4, a5⟩ }) := by
  obtain ⟨dv, hd, hn⟩ := hR.node i ⟨p, hi⟩
  have ht : Turn W (((((W.setCell ⟨A i, 4, none⟩ (.int .i64 a1)).setCell ⟨A i, 5, none⟩ (.int .i64 a2)).setCell ⟨A i, 6, none⟩ (.int .i64 a3)).setCell ⟨A i, 7, none⟩ (.int .i64 a4)).setCell ⟨A i, 8, none⟩ (.int .i64 a5)) (fun b => b = A i) :=
    (((((Turn.refl W (fun b => b = A i)).set rfl _ _).set rfl _ _).set rfl _ _).set rfl _ _).set rfl _ _
  have hN := hR.inv.ok hi
  refine rrep_set hR hi ⟨hN.kind, hN.data, hN.plain⟩ rfl rfl ht (dv := dv) ?_ ?_
  · exact heap_set_same (heap_set_same (heap_set_same (heap_set_same (heap_set_same hn 4 _) 5 _) 6 _) 7 _) 8 _
  · exact hd.kept fun g ⟨cs, hg⟩ => ht.block g (Array.getElem?_eq_some_iff.1 hg).1 fun e => types_apart hg hn (by decide) e

theorem rdata_stp {p : Pt} {i : Nat} {u : Value} {l : Bytes} (hR : RRep W rb v A T) (hi : (p, i) ∈ T.names) (hk : (T.nd i).kind = 1) (hl : l.length ≤ 65536) (hu : Dat W u l) :
    RStp W (W.setCell ⟨A i, 2, none⟩ u) rb v A T (T.set i { T.nd i with data := l }) := by
  obtain ⟨dv, hd, hn⟩ := hR.node i ⟨p, hi⟩
  have ht : Turn W (W.setCell ⟨A i, 2, none⟩ u) (fun b => b = A i) := (Turn.refl W (fun b => b = A i)).set rfl _ _
  have hN := hR.inv.ok hi
  refine rrep_set hR hi ⟨hN.kind, hl, ⟨fun h => absurd hk h, hN.plain.2.1, hN.plain.2.2⟩⟩ rfl rfl ht (dv := u) ?_ ?_
  · exact heap_set_same hn 2 _
  · exact hu.kept fun g ⟨cs, hg⟩ => ht.block g (Array.getElem?_eq_some_iff.1 hg).1 fun e => types_apart hg hn (by decide) e

theorem rall_stp {p : Pt} {i : Nat} {u : Value} {l : Bytes} (hR : RRep W rb v A T) (hi : (p, i) ∈ T.names) (hk : (T.nd i).kind = 1) (hl : l.length ≤ 65536) (hu : Dat W u l) (a1 a2 a3 a4 a5 : Int) :
    RStp W ((((((W.setCell ⟨A i, 2, none⟩ u).setCell ⟨A i, 4, none⟩ (.int .i64 a1)).setCell ⟨A i, 5, none⟩ (.int .i64 a2)).setCell ⟨A i, 6, none⟩ (.int .i64 a3)).setCell ⟨A i, 7, none⟩ (.int .i64 a4)).setCell ⟨A i, 8, none⟩ (.int .i64 a5)) rb v A T (T.set i { T.nd i with mt := ⟨a1, a2, a3, a4, a5⟩, data := l }) := by
  obtain ⟨dv, hd, hn⟩ := hR.node i ⟨p, hi⟩
  have ht : Turn W ((((((W.setCell ⟨A i, 2, none⟩ u).setCell ⟨A i, 4, none⟩ (.int .i64 a1)).setCell ⟨A i, 5, none⟩ (.int .i64 a2)).setCell ⟨A i, 6, none⟩ (.int .i64 a3)).setCell ⟨A i, 7, none⟩ (.int .i64 a4)).setCell ⟨A i, 8, none⟩ (.int .i64 a5)) (fun b => b = A i) :=
    ((((((Turn.refl W (fun b => b = A i)).set rfl _ _).set rfl _ _).set rfl _ _).set rfl _ _).set rfl _ _).set rfl _ _
  have hN := hR.inv.ok hi
  refine rrep_set hR hi ⟨hN.kind, hl, ⟨fun h => absurd hk h, hN.plain.2.1, hN.plain.2.2⟩⟩ rfl rfl ht (dv := u) ?_ ?_
  · exact heap_set_same (heap_set_same (heap_set_same (heap_set_same (heap_set_same (heap_set_same hn 2 _) 4 _) 5 _) 6 _) 7 _) 8 _
  · exact hu.kept fun g ⟨cs, hg⟩ => ht.block g (Array.getElem?_eq_some_iff.1 hg).1 fun e => types_apart hg hn (by decide) e
end

section
variable (rb : Nat) (v : Value) (A : Nat → Nat) (T : Fs)


set_option maxHeartbeats 2000000 in
set_option maxRecDepth 100000 in
theorem rset_calls (s : ByteArray) (m : Mt) (w : World) (hR : RRep w rb v A T) (hs : s.size ≤ 16777216) :
    Calls Tryz.prog 59 #[ptr rb, .string s, mtV m] w fun e w' => e = .returned (.int .i64 (T.setM (bl s) m).2) ∧ RStp w w' rb v A T (T.setM (bl s) m).1 := by
  have h1 := fun W => rmay_calls s m W hs
  have h2 := fun W hW => rthere_calls rb v A T s W hW hs
  have hft := file_there hR.inv (bl s)
  unfold Fs.setM
  generalize mayE (bl s) m = me at *
  obtain ⟨a1, a2, a3, a4, a5⟩ := m
  unfold mtV mtCells ptr at *
  dsimp only at *
  have hB0 : Below w.heap.size w (w.alloc (.cells #[.int .i64 a1, .int .i64 a2, .int .i64 a3, .int .i64 a4, .int .i64 a5] 40)) := (Below.refl _ _).alloc (Nat.le_refl _) _
  have hblk := (MapKept.heap_alloc w (.cells #[.int .i64 a1, .int .i64 a2, .int .i64 a3, .int .i64 a4, .int .i64 a5] 40)).1
  have hlt0 : w.heap.size < (w.alloc (.cells #[.int .i64 a1, .int .i64 a2, .int .i64 a3, .int .i64 a4, .int .i64 a5] 40)).heap.size := by simp
  replace h1 := Lib.hid h1
  replace hblk := Lib.hid hblk
  replace hB0 := Lib.hid hB0
  replace hR := Lib.hid hR
  replace hlt0 := Lib.hid hlt0
  by_cases he : me = 0
  · subst he
    rw [if_neg (by simp)]
    rcases hft with ⟨hz, _⟩ | ⟨i, hz, h3, hm, hrs, _⟩
    · rw [if_pos (by simpa using hz)]
      dsimp only
      generalize (T.there (bl s)).2.2 = fe at *
      generalize (T.there (bl s)).1 = n at *
      have hn : ∃ a, optPtr A n = .pointer a := by cases n <;> exact ⟨_, rfl⟩
      obtain ⟨a, hn⟩ := hn
      simp only [hn] at h2
      have hfe : (fe == 0) = false := by simpa using hz
      replace hz := Lib.hid hz
      replace hn := Lib.hid hn
      replace h2 := Lib.hid h2
      go_enter Tryz.func59, Tryz.ntmps59
      go_wp2_with fail
      (with_reducible refine (h1.out _).mono ?_)
      rintro e w1 ⟨rfl, hB1⟩
      have hB01 := below_step hB0.out hB1
      have h2' := h2.out w1 (hR.out.below hB01)
      replace hB01 := Lib.hid hB01
      replace h2' := Lib.hid h2'
      go_wp2_with fail
      (with_reducible refine (h2'.out).mono ?_)
      rintro e w2 ⟨rfl, hB2⟩
      have hst := RStp.same hR.out (below_step hB01.out hB2)
      replace hst := Lib.hid hst
      clear hB1 hB2 h2'
      go_wp2
      go_ret
      exact ⟨rfl, hst.out⟩
    · rw [if_neg (by simpa using hz), h3]
      dsimp only
      simp only [hz, h3, optPtr_some] at h2
      replace h2 := Lib.hid h2
      replace h3 := Lib.hid h3
      replace hz := Lib.hid hz
      go_enter Tryz.func59, Tryz.ntmps59
      go_wp2_with fail
      (with_reducible refine (h1.out _).mono ?_)
      rintro e w1 ⟨rfl, hB1⟩
      have hB01 := below_step hB0.out hB1
      have h2' := h2.out w1 (hR.out.below hB01)
      replace hB01 := Lib.hid hB01
      replace h2' := Lib.hid h2'
      go_wp2_with fail
      (with_reducible refine (h2'.out).mono ?_)
      rintro e w2 ⟨rfl, hB2⟩
      have hB02 := below_step hB01.out hB2
      have hR2 := hR.out.below hB02
      have hblk2 := (hB2.block _ (Nat.lt_of_lt_of_le hlt0.out hB1.size)).trans ((hB1.block _ hlt0.out).trans hblk.out)
      have d0 := cell_of (j := 0) hblk2 (v := .int .i64 a1) rfl
      have d1 := cell_of (j := 1) hblk2 (v := .int .i64 a2) rfl
      have d2 := cell_of (j := 2) hblk2 (v := .int .i64 a3) rfl
      have d3 := cell_of (j := 3) hblk2 (v := .int .i64 a4) rfl
      have d4 := cell_of (j := 4) hblk2 (v := .int .i64 a5) rfl
      obtain ⟨dv, _, hnode⟩ := hR2.node i ⟨_, hm⟩
      have f1 : ∀ k, w2.frozen? ⟨A i, k, none⟩ = false := fun k => by simp [World.frozen?, hnode]
      have c4 : w2.cell? ⟨A i, 4, none⟩ = some (.int .i64 (T.nd i).mt.mode) := cell_of hnode rfl
      have c5 : w2.cell? ⟨A i, 5, none⟩ = some (.int .i64 (T.nd i).mt.sec) := cell_of hnode rfl
      have c6 : w2.cell? ⟨A i, 6, none⟩ = some (.int .i64 (T.nd i).mt.nano) := cell_of hnode rfl
      have c7 : w2.cell? ⟨A i, 7, none⟩ = some (.int .i64 (T.nd i).mt.uid) := cell_of hnode rfl
      have c8 : w2.cell? ⟨A i, 8, none⟩ = some (.int .i64 (T.nd i).mt.gid) := cell_of hnode rfl
      have hst := (rmt_stp hR2 hm a1 a2 a3 a4 a5).after hB02
      replace hst := Lib.hid hst
      replace hB02 := Lib.hid hB02
      replace hR2 := Lib.hid hR2
      replace hblk2 := Lib.hid hblk2
      replace hnode := Lib.hid hnode
      clear hB1 hB2 h2'
      go_wp2
      go_ret
      exact ⟨rfl, hst.out⟩
  · rw [if_pos he]
    dsimp only
    have hme : (me == 0) = false := by simpa using he
    have hme2 : (me != 0) = true := by simpa using he
    replace he := Lib.hid he
    replace h2 := Lib.hid h2
    go_enter Tryz.func59, Tryz.ntmps59
    go_wp2_with fail
    (with_reducible refine (h1.out _).mono ?_)
    rintro e w1 ⟨rfl, hB1⟩
    have hst := RStp.same hR.out (below_step hB0.out hB1)
    replace hst := Lib.hid hst
    clear hB1
    go_wp2
    go_ret
    exact ⟨rfl, hst.out⟩

set_option maxHeartbeats 2000000 in
set_option maxRecDepth 100000 in
theorem rappend_calls (s : ByteArray) (u : Value) (b : Bytes) (w : World) (hR : RRep w rb v A T) (hs : s.size ≤ 16777216) (hv : RdB w u b) (hbl : b.length ≤ 1000000) :
    Calls Tryz.prog 60 #[ptr rb, .string s, u] w fun e w' => e = .returned (.int .i64 (T.append (bl s) b).2) ∧ RStp w w' rb v A T (T.append (bl s) b).1 := by
  have h1 := rfile_calls rb v A T s w hR hs
  have hft := file_there hR.inv (bl s)
  obtain ⟨uA, uc, hu, hu1, hu2⟩ : ∃ A c, u = .slice A b.length c ∧ b.length ≤ c ∧ c ≤ maxLen := by
    obtain ⟨A', c, h1, h2, h3, _⟩ := hv
    exact ⟨A', c, h1, h2, h3⟩
  subst hu
  unfold maxLen at hu2
  unfold Fs.append
  unfold Fs.fileOk at h1
  by_cases hz : (T.file (bl s)).2 = 0
  · rw [if_pos hz] at h1
    rw [if_neg (by simpa using hz)]
    rcases hft with ⟨hz1, hfe⟩ | ⟨i, hz1, h3, hm, hrs, hfe⟩
    · rw [hfe] at hz
      exact absurd hz hz1
    · rw [hz] at h1
      rw [hfe] at h1 hz ⊢
      dsimp only at h1 hz ⊢
      rw [optPtr_some] at h1
      have hdl := hR.inv.data _ _ hm
      have hk : (T.nd i).kind = 1 := by
        unfold notFile at hz
        rcases hR.inv.kinds _ _ hm with h | h | h
        · exact h
        · rw [if_pos h] at hz; cases hz
        · rw [if_neg (by rw [h]; decide), if_pos h] at hz; cases hz
      unfold ptr at *
      by_cases hbig : 65536 < (T.nd i).data.length + b.length
      · rw [if_pos hbig]
        replace h1 := Lib.hid h1
        replace hz := Lib.hid hz
        replace h3 := Lib.hid h3
        replace hfe := Lib.hid hfe
        replace hz1 := Lib.hid hz1
        replace hk := Lib.hid hk
        go_enter Tryz.func60, Tryz.ntmps60
        go_wp2_with fail
        (with_reducible refine (h1.out).mono ?_)
        rintro e w1 ⟨rfl, hB1⟩
        have hst := RStp.same hR hB1
        obtain ⟨dv, hd, _, _, n2, _⟩ := (hR.below hB1).cells ⟨_, hm⟩
        obtain ⟨dA, dc, rfl, hd1, hd2⟩ := hd.shape
        unfold maxLen at hd2
        have hbig2 : (65536 : Int) < ((T.nd i).data.length : Int) + (b.length : Int) := by omega
        replace hst := Lib.hid hst
        replace hd := Lib.hid hd
        replace hB1 := Lib.hid hB1
        replace hR := Lib.hid hR
        replace hv := Lib.hid hv
        go_wp2
        go_ret
        exact ⟨rfl, hst.out⟩
      · rw [if_neg hbig]
        dsimp only
        have hbig2 : ¬ (65536 : Int) < ((T.nd i).data.length : Int) + (b.length : Int) := by omega
        replace h1 := Lib.hid h1
        replace hz := Lib.hid hz
        replace h3 := Lib.hid h3
        replace hfe := Lib.hid hfe
        replace hz1 := Lib.hid hz1
        go_enter Tryz.func60, Tryz.ntmps60
        go_wp2_with fail
        (with_reducible refine (h1.out).mono ?_)
        rintro e w1 ⟨rfl, hB1⟩
        have hR1 := hR.below hB1
        have hB12 := (Below.refl w1.heap.size w1).alloc (Nat.le_refl _) (.cells #[] 5)
        have hR2 := hR1.below hB12
        obtain ⟨dv, hd0, _, _, n2', _⟩ := hR1.cells ⟨_, hm⟩
        have n2 := (hB12.cell (cell_lt n2')).trans n2'
        have hd : Dat (w1.alloc (.cells #[] 5)) dv (T.nd i).data := hd0.kept fun g ⟨_, hg⟩ => hB12.block g (Array.getElem?_eq_some_iff.1 hg).1
        have hown := own_made w1 w1.heap.size 5 1 0 [] (Nat.le_refl _) rfl (by simp [maxLen])
        obtain ⟨dA, dc, rfl, hd1, hd2⟩ := hd.shape
        unfold maxLen at hd2
        have hsrc := hd.rdb.src
        replace hR := Lib.hid hR
        replace hR1 := Lib.hid hR1
        replace hR2 := Lib.hid hR2
        replace hB1 := Lib.hid hB1
        replace hB12 := Lib.hid hB12
        replace hd := Lib.hid hd
        replace hd0 := Lib.hid hd0
        replace hown := Lib.hid hown
        replace hsrc := Lib.hid hsrc
        replace hv := Lib.hid hv
        replace hk := Lib.hid hk
        go_wp2_with (at_builtin; refine wp_append_any w1.heap.size rfl (.tmp 28) (.tmp 32) 38 5 rfl Tryz.underlying38 (.int .u8 0) 1 1 info_u8 rfl (by decide) (.slice (some ⟨w1.heap.size, 0, none⟩) 0 0) 0 [] rfl (.slice dA (T.nd i).data.length dc) (T.nd i).data.length (byteCells (T.nd i).data) rfl hsrc.out hown.out ?_ ?_ ?_ (by simp) ?_)
        · simp [byteCells, Value.oneCell']
        · simp only [maxLen]; omega
        · omega
        · intro v1 w3 g1 hg hat
          have hS3 : Byts w1.heap.size w3 v1 (T.nd i).data := by
            unfold Byts
            simpa using g1
          have hB3 : Below w1.heap.size w1 w3 := hB12.out.grown hg (by simp) (own_base hown.out)
          obtain ⟨oA, oc, ho, ho1, ho2⟩ := own_shape hS3.own
          subst ho
          unfold maxLen at ho2
          have hsrc3 := ((hv.out.below hB1.out).below hB3).src
          have hown3 := hS3.own
          replace hS3 := Lib.hid hS3
          replace hB3 := Lib.hid hB3
          replace hsrc3 := Lib.hid hsrc3
          replace hown3 := Lib.hid hown3
          clear g1 hg hat
          go_wp2_with (at_builtin; refine wp_append_any w1.heap.size rfl (.tmp 33) (.tmp 34) 38 5 rfl Tryz.underlying38 (.int .u8 0) 1 1 info_u8 rfl (by decide) (.slice oA (T.nd i).data.length oc) (T.nd i).data.length (byteCells (T.nd i).data) rfl (.slice uA b.length uc) b.length (byteCells b) rfl hsrc3.out hown3.out ?_ ?_ ?_ hB3.out.size ?_)
          · simp [byteCells, Value.oneCell']
          · simp only [maxLen]; omega
          · omega
          · intro v2 w4 g2 hg2 hat2
            have hS4 : Byts w1.heap.size w4 v2 ((T.nd i).data ++ b) := by
              unfold Byts
              rw [byteCells_append, List.length_append]
              exact g2
            have hB4 : Below w1.heap.size w1 w4 := hB3.out.grown hg2 hB3.out.size (own_base hown3.out)
            have hR4 := hR1.out.below hB4
            have hst := (rdata_stp hR4 hm hk.out (by rw [List.length_append]; omega) hS4.dat).after (below_step hB1.out hB4)
            obtain ⟨dv4, _, hnode4⟩ := hR4.node i ⟨_, hm⟩
            have c2 : w4.cell? ⟨A i, 2, none⟩ = some dv4 := cell_of hnode4 rfl
            have f2 : w4.frozen? ⟨A i, 2, none⟩ = false := by simp [World.frozen?, hnode4]
            obtain ⟨qA, qc, hq, hq1, hq2⟩ := own_shape hS4.own
            subst hq
            simp only [List.length_append] at hst
            replace hst := Lib.hid hst
            replace hS4 := Lib.hid hS4
            replace hB4 := Lib.hid hB4
            replace hR4 := Lib.hid hR4
            replace hnode4 := Lib.hid hnode4
            clear g2 hg2 hat2
            go_wp2
            go_ret
            exact ⟨rfl, by have := hst.out; simpa only [List.length_append] using this⟩
  · rw [if_neg hz] at h1
    rw [if_pos (by simpa using hz)]
    dsimp only
    have he2 : ((T.file (bl s)).2 == 0) = false := by simpa using hz
    have he3 : ((T.file (bl s)).2 != 0) = true := by simpa using hz
    generalize (T.file (bl s)).2 = e at *
    rw [optPtr_none] at h1
    unfold ptr at *
    replace h1 := Lib.hid h1
    replace hz := Lib.hid hz
    go_enter Tryz.func60, Tryz.ntmps60
    go_wp2_with fail
    (with_reducible refine (h1.out).mono ?_)
    rintro e w1 ⟨rfl, hB⟩
    have hst := RStp.same hR hB
    replace hst := Lib.hid hst
    replace hB := Lib.hid hB
    replace hR := Lib.hid hR
    replace hv := Lib.hid hv
    go_wp2
    go_ret
    exact ⟨rfl, hst.out⟩
end

end Go.Proofs.YtemdinjiplglgaaGreat

namespace Go.Proofs.YtemdinjiplglgaaGreat
open Go.RowKit

theorem run_append_any {w : World} (base : Nat) (t e ty : TypeId) (ht : Tryz.prog.underlying t = some (.slice e)) (z : Value) (size bytes : Nat)
    (hinfo : (Tryz.prog.info? e).map (fun i => (i.zero, i.size, i.bytes)) = some (some z, size, bytes)) (hz : z.cells.size = size) (hsz : 0 < size) (v : Value) (n : Nat) (xs : List Value)
    (sv : Value) (m : Nat) (news : List Value) (hsv : Src w sv size m news) (hown : w.ownsRow base e size v n xs) (h1 : ∀ u ∈ news, u.oneCell' = true) (h63 : n + m ≤ maxLen) (hb : (n + m) * bytes ≤ 140737488355328) (hbase : base ≤ w.heap.size) :
    ∃ v1 w1, (Builtin.append_ #[t, t] ty #[v, sv]).run Tryz.prog w = .ok v1 w1 ∧ w1.ownsRow base e size v1 (n + m) (xs ++ news) ∧ w.grownBy w1 v.ownBlock ∧ (v1.ownBlock = v.ownBlock ∨ v1.ownBlock = some w.heap.size) := by
  obtain ⟨i0, hi, hzz⟩ := Option.map_eq_some_iff.1 hinfo
  simp only [Prod.mk.injEq] at hzz
  obtain ⟨hz0, hz1, hz2⟩ := hzz
  rcases hsv with ⟨rfl, rfl, A, c, rfl⟩ | ⟨ad, c, rfl, hl, hn⟩
  · obtain ⟨A0, c0, rfl, hc0, _⟩ := own_shape hown
    exact ⟨_, _, run_append_zero w t e ty i0 ht hi A0 A n c0 c hc0, by rw [List.append_nil]; exact hown, ⟨rfl, rfl, rfl, Nat.le_refl _, fun _ _ _ => rfl⟩, Or.inl rfl⟩
  · obtain ⟨v', w', hr, h2, h3, _, h5⟩ := run_append_own_at (P := Tryz.prog) w base t ty e i0 z size bytes ht hi hz0 hz1 hz2 hz hsz v n xs hown ad m c news hl hn h1 h63 hb hbase
    exact ⟨v', w', hr, h2, h3, h5⟩

section
variable (rb : Nat) (v : Value) (A : Nat → Nat) (T : Fs)


/-- Where nothing stands, a thing may come. -/
theorem look_new {T : Fs} (hI : T.Inv) {s : Bytes} (h0 : (T.look s).2.2 = 0) (h1 : (T.look s).1 = none) : right s = true ∧ s ≠ [] ∧ T.at (split s) = none ∧ ∃ d, ((split s).dropLast, d) ∈ T.names ∧ (T.nd d).kind = 2 := by
  have hf : (T.fresh s).2 = 0 := by
    unfold Fs.fresh
    rw [h0, h1]
    simp
  obtain ⟨k1, k2, k3, d, _, k5, k6⟩ := hI.fresh_ok hf
  exact ⟨k1, k2, k3, d, k5, k6⟩

theorem look_old {T : Fs} (hI : T.Inv) {s : Bytes} {i : Nat} (h0 : (T.look s).2.2 = 0) (h1 : (T.look s).1 = some i) : (split s, i) ∈ T.names := by
  obtain ⟨_, h2, _⟩ := hI.look_ok h0
  rw [h1] at h2
  exact hI.at_some.1 h2.symm

set_option maxHeartbeats 4000000 in
set_option maxRecDepth 100000 in
theorem rwrite_calls (s : ByteArray) (u : Value) (b : Bytes) (m : Mt) (w : World) (hR : RRep w rb v A T) (hs : s.size ≤ 16777216) (hv : RdB w u b) (hbl : b.length ≤ 1000000) (hnx : T.next < 4611686018427387904) (hf : T.names.length ≤ 1000000) :
    Calls Tryz.prog 54 #[ptr rb, .string s, u, mtV m] w fun e w' => e = .returned (.int .i64 (T.write (bl s) b m).2) ∧ RStp w w' rb v A T (T.write (bl s) b m).1 := by
  have h1 := fun W => rmay_calls s m W hs
  have h2 := fun W hW => rlook_calls rb v A T s W hW hs
  have hnew := look_new hR.inv (s := bl s)
  have hold := fun i => look_old hR.inv (s := bl s) (i := i)
  obtain ⟨uA, uc, hu, hu1, hu2⟩ : ∃ A c, u = .slice A b.length c ∧ b.length ≤ c ∧ c ≤ maxLen := by
    obtain ⟨A', c, h1, h2, h3, _⟩ := hv
    exact ⟨A', c, h1, h2, h3⟩
  subst hu
  unfold maxLen at hu2
  unfold Fs.write
  generalize mayE (bl s) m = me at *
  obtain ⟨a1, a2, a3, a4, a5⟩ := m
  unfold mtV mtCells ptr at *
  dsimp only at *
  have hB0 : Below w.heap.size w (w.alloc (.cells #[.int .i64 a1, .int .i64 a2, .int .i64 a3, .int .i64 a4, .int .i64 a5] 40)) := (Below.refl _ _).alloc (Nat.le_refl _) _
  have hblk := (MapKept.heap_alloc w (.cells #[.int .i64 a1, .int .i64 a2, .int .i64 a3, .int .i64 a4, .int .i64 a5] 40)).1
  have hlt0 : w.heap.size < (w.alloc (.cells #[.int .i64 a1, .int .i64 a2, .int .i64 a3, .int .i64 a4, .int .i64 a5] 40)).heap.size := by simp
  replace h1 := Lib.hid h1
  replace hblk := Lib.hid hblk
  replace hB0 := Lib.hid hB0
  replace hR := Lib.hid hR
  replace hlt0 := Lib.hid hlt0
  replace hv := Lib.hid hv
  by_cases he : me = 0
  · subst he
    rw [if_neg (by simp)]
    by_cases hbig : 65536 < b.length
    · rw [if_pos hbig]
      dsimp only
      have hbig2 : (65536 : Int) < (b.length : Int) := by omega
      replace h2 := Lib.hid h2
      replace hnew := Lib.hid hnew
      replace hold := Lib.hid hold
      go_enter Tryz.func54, Tryz.ntmps54
      go_wp2_with fail
      (with_reducible refine (h1.out _).mono ?_)
      rintro e w1 ⟨rfl, hB1⟩
      have hst := RStp.same hR.out (below_step hB0.out hB1)
      replace hst := Lib.hid hst
      clear hB1
      go_wp2
      go_ret
      exact ⟨rfl, hst.out⟩
    · rw [if_neg hbig]
      have hbig2 : decide ((65536 : Int) < (b.length : Int)) = false := by simp; omega
      generalize hlk : T.look (bl s) = lk at *
      obtain ⟨n, d0, le⟩ := lk
      dsimp only at *
      by_cases hle : le = 0
      · subst hle
        rw [if_neg (by simp)]
        cases n with
        | none =>
          obtain ⟨k1, k2, k3, d, k5, k6⟩ := hnew rfl rfl
          rw [optPtr_none] at h2
          dsimp only
          replace h2 := Lib.hid h2
          replace k1 := Lib.hid k1
          replace k2 := Lib.hid k2
          replace k3 := Lib.hid k3
          replace k5 := Lib.hid k5
          replace k6 := Lib.hid k6
          replace hlk := Lib.hid hlk
          replace hnew := Lib.hid hnew
          replace hold := Lib.hid hold
          go_enter Tryz.func54, Tryz.ntmps54
          go_wp2_with fail
          (with_reducible refine (h1.out _).mono ?_)
          rintro e w1 ⟨rfl, hB1⟩
          have hB01 := below_step hB0.out hB1
          have h2' := h2.out w1 (hR.out.below hB01)
          replace hB01 := Lib.hid hB01
          replace h2' := Lib.hid h2'
          go_wp2_with fail
          (with_reducible refine (h2'.out).mono ?_)
          rintro e w2 ⟨rfl, hB2⟩
          have hB02 := below_step hB01.out hB2
          have hR2 := hR.out.below hB02
          have hblk2 := (hB2.block _ (Nat.lt_of_lt_of_le hlt0.out hB1.size)).trans ((hB1.block _ hlt0.out).trans hblk.out)
          replace hB02 := Lib.hid hB02
          replace hR2 := Lib.hid hR2
          replace hblk2 := Lib.hid hblk2
          clear hB1 hB2 h2'
          go_upto_region 10 with fail
          have hB23 : Below w2.heap.size w2 (w2.drew.alloc (.cells #[] 5)) := below_alloc (below_drewN (Below.refl _ _) 1) _
          have hown := own_made w2.drew w2.heap.size 5 1 0 [] (Nat.le_refl _) rfl (by simp [maxLen])
          have hsrc := ((hv.out.below hB02.out).below hB23).src
          obtain ⟨v1, w4, hrun, ho4, hg4, _⟩ := run_append_any w2.heap.size 38 5 38 Tryz.underlying38 (.int .u8 0) 1 1 info_u8 rfl (by decide) (.slice (some ⟨w2.drew.heap.size, 0, none⟩) 0 0) 0 [] (.slice uA b.length uc) b.length (byteCells b) hsrc hown (by simp [byteCells, Value.oneCell']) (by simp only [maxLen]; omega) (by omega) hB23.size
          have hS4 : Byts w2.heap.size w4 v1 b := by
            unfold Byts
            simpa using ho4
          have hB4 : Below w2.heap.size w2 w4 := hB23.grown hg4 hB23.size (own_base hown)
          obtain ⟨vA, vc, hv1, _, _⟩ := own_shape hS4.own
          subst hv1
          have hR4 := hR2.out.below hB4
          have hblk4 := (hB4.block _ (Array.getElem?_eq_some_iff.1 hblk2.out).1).trans hblk2.out
          have hB45 := (Below.refl w4.heap.size w4).alloc (Nat.le_refl _) (.cells #[.int .i64 1, .int .i64 0, .slice vA b.length vc, .string ⟨#[]⟩, .int .i64 a1, .int .i64 a2, .int .i64 a3, .int .i64 a4, .int .i64 a5] 80)
          have hB5 := below_alloc (below_step hB02.out hB4) (.cells #[.int .i64 1, .int .i64 0, .slice vA b.length vc, .string ⟨#[]⟩, .int .i64 a1, .int .i64 a2, .int .i64 a3, .int .i64 a4, .int .i64 a5] 80)
          have hnb : ¬ ROwn rb v A T w4.heap.size := fun h => Nat.lt_irrefl _ (hR4.lt h)
          have hdat5 : Dat (w4.alloc (.cells #[.int .i64 1, .int .i64 0, .slice vA b.length vc, .string ⟨#[]⟩, .int .i64 a1, .int .i64 a2, .int .i64 a3, .int .i64 a4, .int .i64 a5] 80)) (.slice vA b.length vc) b := hS4.dat.kept fun g ⟨_, hg⟩ => hB45.block g (Array.getElem?_eq_some_iff.1 hg).1
          have hmk := rmake_calls rb v A T s d w4.heap.size ⟨1, 1, ⟨a1, a2, a3, a4, a5⟩, [], b⟩ (.slice vA b.length vc) _ (hR4.below hB45) k1.out k2.out k3.out k5.out k6.out rfl ⟨Or.inl rfl, by dsimp only; omega, by simp⟩ hnb (MapKept.heap_alloc w4 _).1 hdat5 hnx hf
          unfold ptr at hmk
          have hbs : w.heap.size ≤ w4.heap.size := Nat.le_trans hB02.out.size hB4.size
          have hkm : ∀ W, Below w2.heap.size w2 W → W.cell? ⟨w.heap.size, 0, none⟩ = some (.int .i64 a1) ∧ W.cell? ⟨w.heap.size, 1, none⟩ = some (.int .i64 a2) ∧ W.cell? ⟨w.heap.size, 2, none⟩ = some (.int .i64 a3) ∧ W.cell? ⟨w.heap.size, 3, none⟩ = some (.int .i64 a4) ∧ W.cell? ⟨w.heap.size, 4, none⟩ = some (.int .i64 a5) := fun W hW => by
            have hx := (hW.block _ (Array.getElem?_eq_some_iff.1 hblk2.out).1).trans hblk2.out
            exact ⟨cell_of hx rfl, cell_of hx rfl, cell_of hx rfl, cell_of hx rfl, cell_of hx rfl⟩
          have hq1 := hkm _ (below_drewN (Below.refl _ _) 1)
          have hq2 := hkm _ hB23
          have hq3 := hkm _ hB4
          have hq4 := hkm _ (below_step hB4 hB45)
          obtain ⟨p0, p1, p2, p3, p4⟩ := hkm _ (Below.refl _ _)
          obtain ⟨q0, q1, q2, q3, q4⟩ := hq3
          obtain ⟨z0, z1, z2, z3, z4⟩ := hkm (w2.alloc (.cells #[] 5)) (below_alloc (Below.refl _ _) _)
          replace hown := Lib.hid hown
          replace hsrc := Lib.hid hsrc
          replace hrun := Lib.hid hrun
          replace hS4 := Lib.hid hS4
          replace hB4 := Lib.hid hB4
          replace hR4 := Lib.hid hR4
          replace hblk4 := Lib.hid hblk4
          replace hB45 := Lib.hid hB45
          replace hB5 := Lib.hid hB5
          replace hnb := Lib.hid hnb
          replace hdat5 := Lib.hid hdat5
          replace hmk := Lib.hid hmk
          replace hbs := Lib.hid hbs
          replace hq1 := Lib.hid hq1
          replace hq2 := Lib.hid hq2
          replace hq4 := Lib.hid hq4
          replace hkm := Lib.hid hkm
          replace hB23 := Lib.hid hB23
          clear ho4 hg4
          go_region_law (first | (refine step_append_by rfl _ _ 38 rfl _ _ rfl rfl _ w4 hrun.out ?_) | (go_simp; (with_reducible refine hmk.out.mono ?_); rintro e w6 ⟨rfl, hmd⟩; replace hmd := Lib.hid hmd))
          all_goals
            have hst := RMade.stp hB5.out hbs.out hmd.out
            replace hst := Lib.hid hst
            clear hmd hmk p0 p1 p2 p3 p4 q0 q1 q2 q3 q4 z0 z1 z2 z3 z4
            go_wp2
            go_ret
            exact ⟨rfl, hst.out⟩
        | some i =>
          have hm := hold i rfl rfl
          rw [optPtr_some] at h2
          dsimp only
          have hkk := hR.out.inv.kinds _ _ hm
          replace h2 := Lib.hid h2
          replace hlk := Lib.hid hlk
          replace hnew := Lib.hid hnew
          replace hold := Lib.hid hold
          rcases hkk with hk | hk | hk
          · have hnf : notFile (T.nd i) = 0 := by unfold notFile; rw [hk]; rfl
            rw [hnf, if_neg (by decide)]
            dsimp only
            go_enter Tryz.func54, Tryz.ntmps54
            go_wp2_with fail
            (with_reducible refine (h1.out _).mono ?_)
            rintro e w1 ⟨rfl, hB1⟩
            have hB01 := below_step hB0.out hB1
            have h2' := h2.out w1 (hR.out.below hB01)
            replace hB01 := Lib.hid hB01
            replace h2' := Lib.hid h2'
            go_wp2_with fail
            (with_reducible refine (h2'.out).mono ?_)
            rintro e w2 ⟨rfl, hB2⟩
            have hB02 := below_step hB01.out hB2
            have hR2 := hR.out.below hB02
            have hblk2 := (hB2.block _ (Nat.lt_of_lt_of_le hlt0.out hB1.size)).trans ((hB1.block _ hlt0.out).trans hblk.out)
            have hB23 := (Below.refl w2.heap.size w2).alloc (Nat.le_refl _) (.cells #[] 5)
            have hown := own_made w2 w2.heap.size 5 1 0 [] (Nat.le_refl _) rfl (by simp [maxLen])
            have hsrc := ((hv.out.below hB02).below hB23).src
            obtain ⟨_, _, n0, _⟩ := hR2.cells ⟨_, hm⟩
            rw [hk] at n0
            have n1 := (hB23.cell (cell_lt n0)).trans n0
            replace hB02 := Lib.hid hB02
            replace hR2 := Lib.hid hR2
            replace hblk2 := Lib.hid hblk2
            replace hB23 := Lib.hid hB23
            replace hown := Lib.hid hown
            replace hsrc := Lib.hid hsrc
            replace hk := Lib.hid hk
            replace hnf := Lib.hid hnf
            clear hB1 hB2 h2'
            go_wp2_with (at_builtin; refine wp_append_any w2.heap.size rfl (.tmp 52) (.tmp 53) 38 5 rfl Tryz.underlying38 (.int .u8 0) 1 1 info_u8 rfl (by decide) (.slice (some ⟨w2.heap.size, 0, none⟩) 0 0) 0 [] rfl (.slice uA b.length uc) b.length (byteCells b) rfl hsrc.out hown.out ?_ ?_ ?_ (by simp) ?_)
            · simp [byteCells, Value.oneCell']
            · simp only [maxLen]; omega
            · omega
            · intro v1 w3 g1 hg hat
              have hS3 : Byts w2.heap.size w3 v1 b := by
                unfold Byts
                simpa using g1
              have hB3 : Below w2.heap.size w2 w3 := hB23.out.grown hg (by simp) (own_base hown.out)
              obtain ⟨oA, oc, ho, _, _⟩ := own_shape hS3.own
              subst ho
              have hR3 := hR2.out.below hB3
              have hst := (rall_stp hR3 hm hk.out (by omega) hS3.dat a1 a2 a3 a4 a5).after (below_step hB02.out hB3)
              have hblk3 := (hB3.block _ (Array.getElem?_eq_some_iff.1 hblk2.out).1).trans hblk2.out
              obtain ⟨dv, _, hnode⟩ := hR3.node i ⟨_, hm⟩
              have f1 : ∀ k, w3.frozen? ⟨A i, k, none⟩ = false := fun k => by simp [World.frozen?, hnode]
              have c2 : w3.cell? ⟨A i, 2, none⟩ = some dv := cell_of hnode rfl
              have c4 : w3.cell? ⟨A i, 4, none⟩ = some (.int .i64 (T.nd i).mt.mode) := cell_of hnode rfl
              have c5 : w3.cell? ⟨A i, 5, none⟩ = some (.int .i64 (T.nd i).mt.sec) := cell_of hnode rfl
              have c6 : w3.cell? ⟨A i, 6, none⟩ = some (.int .i64 (T.nd i).mt.nano) := cell_of hnode rfl
              have c7 : w3.cell? ⟨A i, 7, none⟩ = some (.int .i64 (T.nd i).mt.uid) := cell_of hnode rfl
              have c8 : w3.cell? ⟨A i, 8, none⟩ = some (.int .i64 (T.nd i).mt.gid) := cell_of hnode rfl
              have hna : w.heap.size ≠ A i := types_apart hblk3 hnode (by decide)
              have hna2 : A i ≠ w.heap.size := Ne.symm hna
              have d0 := cell_of (j := 0) hblk3 (v := .int .i64 a1) rfl
              have d1 := cell_of (j := 1) hblk3 (v := .int .i64 a2) rfl
              have d2 := cell_of (j := 2) hblk3 (v := .int .i64 a3) rfl
              have d3 := cell_of (j := 3) hblk3 (v := .int .i64 a4) rfl
              have d4 := cell_of (j := 4) hblk3 (v := .int .i64 a5) rfl
              replace hst := Lib.hid hst
              replace hS3 := Lib.hid hS3
              replace hB3 := Lib.hid hB3
              replace hR3 := Lib.hid hR3
              replace hblk3 := Lib.hid hblk3
              replace hnode := Lib.hid hnode
              clear g1 hg hat n1
              go_wp2
              go_ret
              exact ⟨rfl, hst.out⟩
          · have hnf : notFile (T.nd i) = 13 := by unfold notFile; rw [hk]; rfl
            rw [hnf, if_pos (by decide)]
            dsimp only
            go_enter Tryz.func54, Tryz.ntmps54
            go_wp2_with fail
            (with_reducible refine (h1.out _).mono ?_)
            rintro e w1 ⟨rfl, hB1⟩
            have hB01 := below_step hB0.out hB1
            have h2' := h2.out w1 (hR.out.below hB01)
            replace hB01 := Lib.hid hB01
            replace h2' := Lib.hid h2'
            go_wp2_with fail
            (with_reducible refine (h2'.out).mono ?_)
            rintro e w2 ⟨rfl, hB2⟩
            have hB02 := below_step hB01.out hB2
            have hR2 := hR.out.below hB02
            obtain ⟨_, _, n0, _⟩ := hR2.cells ⟨_, hm⟩
            rw [hk] at n0
            have hst := RStp.same hR.out hB02
            replace hst := Lib.hid hst
            replace hB02 := Lib.hid hB02
            replace hR2 := Lib.hid hR2
            replace hk := Lib.hid hk
            replace hnf := Lib.hid hnf
            clear hB1 hB2 h2'
            go_wp2
            go_ret
            exact ⟨rfl, hst.out⟩
          · have hnf : notFile (T.nd i) = 17 := by unfold notFile; rw [hk]; rfl
            rw [hnf, if_pos (by decide)]
            dsimp only
            go_enter Tryz.func54, Tryz.ntmps54
            go_wp2_with fail
            (with_reducible refine (h1.out _).mono ?_)
            rintro e w1 ⟨rfl, hB1⟩
            have hB01 := below_step hB0.out hB1
            have h2' := h2.out w1 (hR.out.below hB01)
            replace hB01 := Lib.hid hB01
            replace h2' := Lib.hid h2'
            go_wp2_with fail
            (with_reducible refine (h2'.out).mono ?_)
            rintro e w2 ⟨rfl, hB2⟩
            have hB02 := below_step hB01.out hB2
            have hR2 := hR.out.below hB02
            obtain ⟨_, _, n0, _⟩ := hR2.cells ⟨_, hm⟩
            rw [hk] at n0
            have hst := RStp.same hR.out hB02
            replace hst := Lib.hid hst
            replace hB02 := Lib.hid hB02
            replace hR2 := Lib.hid hR2
            replace hk := Lib.hid hk
            replace hnf := Lib.hid hnf
            clear hB1 hB2 h2'
            go_wp2
            go_ret
            exact ⟨rfl, hst.out⟩
      · rw [if_pos hle]
        have hle2 : (le == 0) = false := by simpa using hle
        have hle3 : (le != 0) = true := by simpa using hle
        have hn : ∃ a, optPtr A n = .pointer a := by cases n <;> exact ⟨_, rfl⟩
        obtain ⟨a, hn⟩ := hn
        simp only [hn] at h2
        replace h2 := Lib.hid h2
        replace hnew := Lib.hid hnew
        replace hold := Lib.hid hold
        replace hn := Lib.hid hn
        replace hle := Lib.hid hle
        replace hlk := Lib.hid hlk
        go_enter Tryz.func54, Tryz.ntmps54
        go_wp2_with fail
        (with_reducible refine (h1.out _).mono ?_)
        rintro e w1 ⟨rfl, hB1⟩
        have hB01 := below_step hB0.out hB1
        have h2' := h2.out w1 (hR.out.below hB01)
        replace hB01 := Lib.hid hB01
        replace h2' := Lib.hid h2'
        go_wp2_with fail
        (with_reducible refine (h2'.out).mono ?_)
        rintro e w2 ⟨rfl, hB2⟩
        have hst := RStp.same hR.out (below_step hB01.out hB2)
        replace hst := Lib.hid hst
        clear hB1 hB2 h2'
        go_wp2
        go_ret
        exact ⟨rfl, hst.out⟩
  · rw [if_pos he]
    dsimp only
    have hme : (me == 0) = false := by simpa using he
    have hme2 : (me != 0) = true := by simpa using he
    replace he := Lib.hid he
    replace h2 := Lib.hid h2
    replace hnew := Lib.hid hnew
    replace hold := Lib.hid hold
    go_enter Tryz.func54, Tryz.ntmps54
    go_wp2_with fail
    (with_reducible refine (h1.out _).mono ?_)
    rintro e w1 ⟨rfl, hB1⟩
    have hst := RStp.same hR.out (below_step hB0.out hB1)
    replace hst := Lib.hid hst
    clear hB1
    go_wp2
    go_ret
    exact ⟨rfl, hst.out⟩
end

end Go.Proofs.YtemdinjiplglgaaGreat

namespace Go.Proofs.YtemdinjiplglgaaGreat
open Go.RowKit

section
variable (rb : Nat) (v : Value) (A : Nat → Nat) (T : Fs)

theorem name_rnode (T : Fs) (p : Pt) (i j : Nat) : rnode ((T.name p i).nd j) j = rnode (T.nd j) j ∧ ((T.name p i).nd j).data = (T.nd j).data := by
  simp only [Fs.name]
  split
  · rename_i h
    subst h
    exact ⟨rfl, rfl⟩
  · exact ⟨rfl, rfl⟩
theorem gone_rnode (T : Fs) (p : Pt) (i j : Nat) : rnode ((T.gone p i).nd j) j = rnode (T.nd j) j ∧ ((T.gone p i).nd j).data = (T.nd j).data := by
  simp only [Fs.gone]
  split
  · rename_i h
    subst h
    exact ⟨rfl, rfl⟩
  · exact ⟨rfl, rfl⟩

theorem link_file {T : Fs} (hI : T.Inv) (o p : Bytes) (hr : ¬ (right o = false ∨ right p = false)) :
    ((T.file o).2 ≠ 0 ∧ T.link o p = (T, (T.file o).2)) ∨ (∃ i, T.file o = (some i, 0) ∧ (split o, i) ∈ T.names ∧ (T.nd i).kind = 1 ∧ T.link o p = if (T.fresh p).2 ≠ 0 then (T, (T.fresh p).2) else (T.name (split p) i, 0)) := by
  unfold Fs.link
  rw [if_neg hr]
  rcases file_there hI o with ⟨hz, hfe⟩ | ⟨i, hz, h3, hm, hrs, hfe⟩
  · rw [hfe]
    refine Or.inl ⟨hz, ?_⟩
    rw [if_pos hz]
  · rw [if_neg (by simpa using hz), h3, hfe]
    dsimp only
    by_cases hn : notFile (T.nd i) = 0
    · refine Or.inr ⟨i, by rw [hn], hm, ?_, ?_⟩
      · unfold notFile at hn
        rcases hI.kinds _ _ hm with h | h | h
        · exact h
        · rw [if_pos h] at hn; cases hn
        · rw [if_neg (by rw [h]; decide), if_pos h] at hn; cases hn
      · rw [if_neg (by simpa using hn)]
    · refine Or.inl ⟨hn, ?_⟩
      rw [if_pos hn]

set_option maxHeartbeats 2000000 in
set_option maxRecDepth 100000 in
theorem rlink_calls (o s : ByteArray) (w : World) (hR : RRep w rb v A T) (ho : o.size ≤ 16777216) (hs : s.size ≤ 16777216) (hf : T.names.length ≤ 1000000) :
    Calls Tryz.prog 56 #[ptr rb, .string o, .string s] w fun e w' => e = .returned (.int .i64 (T.link (bl o) (bl s)).2) ∧ RStp w w' rb v A T (T.link (bl o) (bl s)).1 := by
  have h0 := fun W => refright_calls o W ho
  have h1 := fun W => refright_calls s W hs
  have h2 := fun W hW => rfile_calls rb v A T o W hW ho
  have h3 := fun W hW => rfresh_calls rb v A T s W hW hs
  have hfo := hR.inv.fresh_ok (s := bl s)
  have hlf := link_file hR.inv (bl o) (bl s)
  cases hro : right (bl o) with
  | false =>
    have hl : T.link (bl o) (bl s) = (T, 9) := by unfold Fs.link; rw [if_pos (Or.inl hro)]
    rw [hl]
    rw [hro] at h0
    unfold ptr at *
    replace h0 := Lib.hid h0
    replace h1 := Lib.hid h1
    replace h2 := Lib.hid h2
    replace h3 := Lib.hid h3
    replace hfo := Lib.hid hfo
    replace hlf := Lib.hid hlf
    replace hro := Lib.hid hro
    replace hl := Lib.hid hl
    go_enter Tryz.func56, Tryz.ntmps56
    go_wp2_with fail
    (with_reducible refine (h0.out _).mono ?_)
    rintro e w1 ⟨rfl, hB1⟩
    have hst := RStp.same hR hB1
    replace hst := Lib.hid hst
    replace hB1 := Lib.hid hB1
    replace hR := Lib.hid hR
    go_wp2
    go_ret
    exact ⟨rfl, hst.out⟩
  | true =>
    rw [hro] at h0
    cases hrs : right (bl s) with
    | false =>
      have hl : T.link (bl o) (bl s) = (T, 9) := by unfold Fs.link; rw [if_pos (Or.inr hrs)]
      rw [hl]
      rw [hrs] at h1
      unfold ptr at *
      replace h0 := Lib.hid h0
      replace h1 := Lib.hid h1
      replace h2 := Lib.hid h2
      replace h3 := Lib.hid h3
      replace hfo := Lib.hid hfo
      replace hlf := Lib.hid hlf
      replace hro := Lib.hid hro
      replace hrs := Lib.hid hrs
      replace hl := Lib.hid hl
      go_enter Tryz.func56, Tryz.ntmps56
      go_wp2_with fail
      (with_reducible refine (h0.out _).mono ?_)
      rintro e w1 ⟨rfl, hB1⟩
      go_wp2_with fail
      (with_reducible refine (h1.out _).mono ?_)
      rintro e w2 ⟨rfl, hB2⟩
      have hst := RStp.same hR (below_step hB1 hB2)
      replace hst := Lib.hid hst
      replace hB1 := Lib.hid hB1
      replace hB2 := Lib.hid hB2
      replace hR := Lib.hid hR
      go_wp2
      go_ret
      exact ⟨rfl, hst.out⟩
    | true =>
      rw [hrs] at h1
      unfold Fs.fileOk at h2
      rcases hlf (by simp [hro, hrs]) with ⟨hz, hl⟩ | ⟨i, hfe, hm, hk1, hl⟩
      · rw [hl]
        dsimp only
        simp only [hz, if_false, optPtr_none] at h2
        have he2 : ((T.file (bl o)).2 == 0) = false := by simpa using hz
        generalize (T.file (bl o)).2 = e at *
        unfold ptr at *
        replace h0 := Lib.hid h0
        replace h1 := Lib.hid h1
        replace h2 := Lib.hid h2
        replace h3 := Lib.hid h3
        replace hfo := Lib.hid hfo
        replace hro := Lib.hid hro
        replace hrs := Lib.hid hrs
        replace hl := Lib.hid hl
        replace hz := Lib.hid hz
        clear hlf
        go_enter Tryz.func56, Tryz.ntmps56
        go_wp2_with fail
        (with_reducible refine (h0.out _).mono ?_)
        rintro e w1 ⟨rfl, hB1⟩
        go_wp2_with fail
        (with_reducible refine (h1.out _).mono ?_)
        rintro e w2 ⟨rfl, hB2⟩
        have hB02 := below_step hB1 hB2
        have h2' := h2.out w2 (hR.below hB02)
        replace hB02 := Lib.hid hB02
        replace h2' := Lib.hid h2'
        replace hR := Lib.hid hR
        clear hB1 hB2
        go_wp2_with fail
        (with_reducible refine (h2'.out).mono ?_)
        rintro e w3 ⟨rfl, hB3⟩
        have hst := RStp.same hR.out (below_step hB02.out hB3)
        replace hst := Lib.hid hst
        clear hB3 h2'
        go_wp2
        go_ret
        exact ⟨rfl, hst.out⟩
      · rw [hl]
        simp only [hfe, if_true, optPtr_some] at h2
        by_cases hf2 : (T.fresh (bl s)).2 = 0
        · rw [if_neg (by simpa using hf2)]
          dsimp only
          obtain ⟨k1, k2, k3, d, k4, k5, k6⟩ := hfo hf2
          rw [hf2] at h3
          have hI' : (T.name (split (bl s)) i).Inv := name_inv hR.inv (split_ne_nil k2) ⟨_, k1, rfl⟩ k5 k6 k3 hm hk1
          have hlive : ∀ j, (T.name (split (bl s)) i).Live j → T.Live j := fun j hj => name_live hm hj
          have hfin := fun v1 W w' hW => @rrep_row_stp W w' rb v v1 A T (T.name (split (bl s)) i) hW hI' hlive (fun j _ => name_rnode T _ i j) rfl
          unfold ptr at *
          replace h0 := Lib.hid h0
          replace h1 := Lib.hid h1
          replace h2 := Lib.hid h2
          replace h3 := Lib.hid h3
          replace hro := Lib.hid hro
          replace hrs := Lib.hid hrs
          replace hl := Lib.hid hl
          replace hfe := Lib.hid hfe
          replace hm := Lib.hid hm
          replace hk1 := Lib.hid hk1
          replace hf2 := Lib.hid hf2
          replace k1 := Lib.hid k1
          replace k2 := Lib.hid k2
          replace k3 := Lib.hid k3
          replace k4 := Lib.hid k4
          replace k5 := Lib.hid k5
          replace k6 := Lib.hid k6
          replace hI' := Lib.hid hI'
          replace hlive := Lib.hid hlive
          replace hfin := Lib.hid hfin
          clear hlf hfo
          go_enter Tryz.func56, Tryz.ntmps56
          go_wp2_with fail
          (with_reducible refine (h0.out _).mono ?_)
          rintro e w1 ⟨rfl, hB1⟩
          go_wp2_with fail
          (with_reducible refine (h1.out _).mono ?_)
          rintro e w2 ⟨rfl, hB2⟩
          have hB02 := below_step hB1 hB2
          have h2' := h2.out w2 (hR.below hB02)
          replace hB02 := Lib.hid hB02
          replace h2' := Lib.hid h2'
          replace hR := Lib.hid hR
          clear hB1 hB2
          go_wp2_with fail
          (with_reducible refine (h2'.out).mono ?_)
          rintro e w3 ⟨rfl, hB3⟩
          have hB03 := below_step hB02.out hB3
          have h3' := h3.out w3 (hR.out.below hB03)
          replace hB03 := Lib.hid hB03
          replace h3' := Lib.hid h3'
          clear hB3 h2'
          go_wp2_with fail
          (with_reducible refine (h3'.out).mono ?_)
          rintro e w4 ⟨rfl, hB4⟩
          have hB04 := below_step hB03.out hB4
          have hR4 := hR.out.below hB04
          have hvr := hR4.tree_row
          have hrow := hR4.row
          have htree := hR4.tree
          obtain ⟨g, c, hv, hc1, hc2, hp, t0, _⟩ := hR4.at_
          subst hv
          unfold maxLen at hc2
          replace hB04 := Lib.hid hB04
          replace hR4 := Lib.hid hR4
          replace hrow := Lib.hid hrow
          replace htree := Lib.hid htree
          clear hB4 h3'
          go_wp2_with (at_builtin; refine wp_append1 0 rfl (.tmp 34) (.tmp 38) 83 82 rfl Tryz.underlying83 (.agg #[.string ⟨#[]⟩, .pointer none]) 2 24 info_name rfl (by decide) (.slice (some ⟨g, 0, none⟩) T.names.length c) _ _ rfl [.string s, .pointer (some ⟨A i, 0, none⟩)] rfl hrow.out rfl ?_ ?_ ?_ (Nat.zero_le _) ?_)
          · simp [Value.oneCell']
          · simp only [maxLen]; omega
          · omega
          · intro v1 w5 g1 hg hat
            obtain ⟨vA, vc, hv1, _, _⟩ := own_shape g1
            subst hv1
            have t5 := (hg.block rb (Array.getElem?_eq_some_iff.1 htree.out).1 (fun e => hvr e.symm)).trans htree.out
            have f5 : w5.frozen? ⟨rb, 0, none⟩ = false := by simp [World.frozen?, t5]
            have e5 : w5.cell? ⟨rb, 0, none⟩ = some (.slice (some ⟨g, 0, none⟩) T.names.length c) := cell_of t5 rfl
            have hv1r : (Value.slice vA (T.names.length + 1) vc).ownBlock ≠ some rb := fun e => by
              obtain ⟨_, cur, hc⟩ := own_cells g1 e
              exact types_apart t5 hc (by decide) rfl
            have ht : Turn w4 (w5.setCell ⟨rb, 0, none⟩ (.slice vA (T.names.length + 1) vc)) (fun b => b = rb ∨ (Value.slice (some ⟨g, 0, none⟩) T.names.length c).ownBlock = some b) :=
              Turn.set (S := fun b => b = rb ∨ (Value.slice (some ⟨g, 0, none⟩) T.names.length c).ownBlock = some b) (Turn.of_grown hg fun j hj => Or.inr hj) (Or.inl rfl) 0 _
            have hst := (hfin.out _ _ _ hR4.out ht (by have := heap_set_same t5 0 (.slice vA (T.names.length + 1) vc); simpa using this)
              (by
                have e1 : (T.name (split (bl s)) i).names = T.names ++ [(split (bl s), i)] := rfl
                rw [e1, List.length_append, rrow_append]
                have e2 : rrow A [(split (bl s), i)] = [.string s, .pointer (some ⟨A i, 0, none⟩)] := by
                  simp only [rrow, List.flatMap_cons, List.flatMap_nil, List.append_nil, glue_split, mkS_bl]
                  rfl
                rw [e2]
                exact own_blocks g1 fun b hb => heap_set_other w5 (fun e : b = rb => hv1r (by rw [← e]; exact hb)) 0 _) hat).after hB04.out
            replace t5 := Lib.hid t5
            replace hst := Lib.hid hst
            clear g1 hg hat hv1r ht
            go_wp2
            go_ret
            exact ⟨rfl, hst.out⟩
        · rw [if_pos (by simpa using hf2)]
          dsimp only
          generalize (T.fresh (bl s)).2 = fe at *
          have hfe2 : (fe == 0) = false := by simpa using hf2
          unfold ptr at *
          replace h0 := Lib.hid h0
          replace h1 := Lib.hid h1
          replace h2 := Lib.hid h2
          replace h3 := Lib.hid h3
          replace hro := Lib.hid hro
          replace hrs := Lib.hid hrs
          replace hl := Lib.hid hl
          replace hfe := Lib.hid hfe
          replace hm := Lib.hid hm
          replace hk1 := Lib.hid hk1
          replace hf2 := Lib.hid hf2
          clear hlf hfo
          go_enter Tryz.func56, Tryz.ntmps56
          go_wp2_with fail
          (with_reducible refine (h0.out _).mono ?_)
          rintro e w1 ⟨rfl, hB1⟩
          go_wp2_with fail
          (with_reducible refine (h1.out _).mono ?_)
          rintro e w2 ⟨rfl, hB2⟩
          have hB02 := below_step hB1 hB2
          have h2' := h2.out w2 (hR.below hB02)
          replace hB02 := Lib.hid hB02
          replace h2' := Lib.hid h2'
          replace hR := Lib.hid hR
          clear hB1 hB2
          go_wp2_with fail
          (with_reducible refine (h2'.out).mono ?_)
          rintro e w3 ⟨rfl, hB3⟩
          have hB03 := below_step hB02.out hB3
          have h3' := h3.out w3 (hR.out.below hB03)
          replace hB03 := Lib.hid hB03
          replace h3' := Lib.hid h3'
          clear hB3 h2'
          go_wp2_with fail
          (with_reducible refine (h3'.out).mono ?_)
          rintro e w4 ⟨rfl, hB4⟩
          have hst := RStp.same hR.out (below_step hB03.out hB4)
          replace hst := Lib.hid hst
          clear hB4 h3'
          go_wp2
          go_ret
          exact ⟨rfl, hst.out⟩

end

end Go.Proofs.YtemdinjiplglgaaGreat

namespace Go.Proofs.YtemdinjiplglgaaGreat
open Go.RowKit

/-- Q, but T where the head has come to its end. -/
def TailQ (T : Act → World → Prop) (Q : Exit → Act → World → Prop) : Exit → Act → World → Prop
  | .normal, a, w => T a w
  | e, a, w => Q e a w

theorem oper_tailQ {P : Program} {T : Act → World → Prop} {Q : Exit → Act → World → Prop} {o : Oper} {a : Act} {w : World} {K : Act → World → Prop} (h : o.wp P a w K (TailQ T Q)) : o.wp P a w K Q := by
  unfold Oper.wp at *
  generalize (execOp a.eval o).run P w = r at *
  cases r with
  | ok n w' =>
    cases n <;> simp only [Oper.upon] at h ⊢ <;>
      first
        | exact h
        | exact Calls.mono h (fun e w'' he => by cases e <;> exact he)
        | exact Rows.mono h (fun _ _ he => he)
  | halt x w' => cases x <;> simp only [Oper.upon] at h ⊢ <;> exact h

def depsB (md : Region.Mode) (ops : Array Oper) (n : Nat) : Bool :=
  (List.range n).all fun j => ((ops[j]?).map fun o => o.after.all fun e => !Region.binds md e || decide (e.on < j)).getD false
def bareB (ops : Array Oper) (n : Nat) : Bool :=
  (List.range n).all fun j => ((ops[j]?).map fun o => o.guard.isNone).getD false

theorem depsB_spec {md : Region.Mode} {ops : Array Oper} {n : Nat} (h : depsB md ops n = true) {j : Nat} (hj : j < n) : ∃ o, ops[j]? = some o ∧ ∀ e ∈ o.after, Region.binds md e = true → e.on < j := by
  have := List.all_eq_true.1 h j (List.mem_range.2 hj)
  cases ho : ops[j]? with
  | none => simp [ho] at this
  | some o =>
    refine ⟨o, rfl, fun e he hb => ?_⟩
    simp only [ho, Option.map_some, Option.getD_some, Array.all_eq_true_iff_forall_mem] at this
    have := this e he
    simpa [hb] using this
theorem bareB_spec {ops : Array Oper} {n : Nat} (h : bareB ops n = true) {j : Nat} (hj : j < n) {o : Oper} (ho : ops[j]? = some o) : o.guard = none := by
  have := List.all_eq_true.1 h j (List.mem_range.2 hj)
  simpa [ho] using this

theorem getD_app_lt {x y : Array Bool} {i : Nat} (h : i < x.size) (d : Bool) : (x ++ y).getD i d = x.getD i d := by
  simp only [Array.getD_eq_getD_getElem?, Array.getElem?_append_left h]
theorem getD_app_false {x : Array Bool} {g i : Nat} (h : (x ++ Array.replicate g false).getD i false = true) : i < x.size ∧ x.getD i false = true := by
  rcases Nat.lt_or_ge i x.size with h1 | h1
  · rw [getD_app_lt h1] at h
    exact ⟨h1, h⟩
  · rw [Array.getD_eq_getD_getElem?, Array.getElem?_append_right h1, ← Array.getD_eq_getD_getElem?, getD_replicate_false] at h
    cases h

theorem wpAny_of_headH {P : Program} {md : Region.Mode} {l : List Oper} {n : Nat} {S : World → Prop} {Q : Exit → Act → World → Prop} (hn : n < l.length)
    (hs : Region.sinkB md l.toArray n = true) (hc : Region.chainB md l.toArray n = true) (hd : depsB md l.toArray n = true) (hb : bareB l.toArray n = true)
    (hq : Region.seqB md l.toArray (l.length - n) n (Array.replicate n true ++ Array.replicate (l.length - n) false) = true) :
    ∀ (f : Nat) (x : Array Bool) (a : Act) (w : World), x.size = n → x.toList.count false = f → HeadInv md l.toArray n (x ++ Array.replicate (l.length - n) false) →
      wpAnyH P md (l.take n).toArray (TailQ (wpList P l.toArray Q (l.drop n)) Q) S f x a w → wpAny P md l.toArray Q (f + (l.length - n)) (x ++ Array.replicate (l.length - n) false) a w
  | 0, x, a, w, hx, hcnt, inv, h => by
    have hxe : x = Array.replicate n true := by
      apply Array.toList_inj.1
      rw [Array.toList_replicate]
      refine List.eq_replicate_iff.2 ⟨by simpa using hx, fun b hb => ?_⟩
      cases b with
      | true => rfl
      | false => exact absurd hb (List.count_eq_zero.1 hcnt)
    subst hxe
    rw [Nat.zero_add]
    have h2 : wpList P l.toArray Q (l.drop n) a w := h.2
    have := wpAny_of_seq (md := md) (Q' := Q) (l.drop n) n _ a w (fun j => by simp [List.getElem?_drop]) (by rw [List.length_drop]; exact hq) h2
    rwa [List.length_drop] at this
  | f + 1, x, a, w, hx, hcnt, inv, h => by
    have hun : ∃ i, i < n ∧ x.getD i true = false := by
      have hm : false ∈ x.toList := List.count_pos_iff.1 (by omega)
      obtain ⟨i, hi, he⟩ := List.mem_iff_getElem.1 hm
      refine ⟨i, by simpa [hx] using hi, ?_⟩
      rw [Array.getD_eq_getD_getElem?, ← Array.getElem?_toList, List.getElem?_eq_getElem hi, he]
      rfl
    have hsz : n < l.toArray.size := by simpa using hn
    have hlt : ∀ i, i ∈ Region.ready md l.toArray (x ++ Array.replicate (l.length - n) false) → i < n := fun i hi => by
      obtain ⟨u, hu, hu2⟩ := hun
      rcases Nat.lt_or_ge i n with h1 | h1
      · exact h1
      · exact absurd hi (tail_waits hs hc hsz inv _ u rfl hu (by rw [getD_app_lt (by omega)]; exact hu2) i h1)
    rw [show f + 1 + (l.length - n) = (f + (l.length - n)) + 1 by omega]
    refine ⟨fun h0 => ?_, fun i hi => ?_⟩
    · exfalso
      have key : ∀ k, ∀ i, i < k → i < n → x.getD i true = true := by
        intro k
        induction k with
        | zero => intro i hi; omega
        | succ k ih =>
          intro i hi hin
          rcases Nat.lt_or_ge i k with h1 | h1
          · exact ih i h1 hin
          · have : i = k := by omega
            subst this
            cases hg : x.getD i true with
            | true => rfl
            | false =>
              obtain ⟨o, ho, hdep⟩ := depsB_spec hd hin
              have hr : i ∈ Region.ready md l.toArray (x ++ Array.replicate (l.length - n) false) := mem_ready.2 ⟨by rw [getD_app_lt (by omega)]; exact hg, o, ho, fun e he hbi => by
                have h3 := hdep e he hbi
                rw [getD_app_lt (by omega)]
                have h4 := ih e.on h3 (by omega)
                have h5 : e.on < x.size := by omega
                simp only [Array.getD_eq_getD_getElem?, Array.getElem?_eq_getElem h5, Option.getD_some] at h4 ⊢
                exact h4⟩
              rw [h0] at hr
              cases hr
      obtain ⟨u, hu, hu2⟩ := hun
      rw [key (u + 1) u (by omega) hu] at hu2
      cases hu2
    · have hin := hlt i hi
      obtain ⟨h1, o, ho, hall⟩ := mem_ready.1 hi
      rw [getD_app_lt (by omega)] at h1
      have hoh : (l.take n).toArray[i]? = some o := by
        rw [List.getElem?_toArray, List.getElem?_take, if_pos hin]
        simpa using ho
      have hih : i ∈ Region.ready md (l.take n).toArray x := mem_ready.2 ⟨h1, o, hoh, fun e he hbi => (getD_app_false (hall e he hbi)).2⟩
      have hstep := h.2 i hih
      have hg := bareB_spec hb hin ho
      have hset : (x ++ Array.replicate (l.length - n) false).setIfInBounds i true = x.setIfInBounds i true ++ Array.replicate (l.length - n) false := by
        apply Array.toList_inj.1
        simp only [Array.toList_setIfInBounds, Array.toList_append]
        rw [List.set_append_left _ _ (by simpa using (by omega : i < x.size))]
      have hnext : ∀ a' w', (S w' ∧ wpAnyH P md (l.take n).toArray (TailQ (wpList P l.toArray Q (l.drop n)) Q) S f (x.setIfInBounds i true) a' w') → wpAny P md l.toArray Q (f + (l.length - n)) ((x ++ Array.replicate (l.length - n) false).setIfInBounds i true) a' w' := fun a' w' hh => by
        rw [hset]
        refine wpAny_of_headH hn hs hc hd hb hq f _ a' w' (by simpa using hx) ?_ ?_ hh.2
        · rw [Array.toList_setIfInBounds]
          have hix : i < x.toList.length := by simpa using (by omega : i < x.size)
          have hxi : x.toList[i] = false := by
            have h5 : i < x.size := by omega
            simp only [Array.getD_eq_getD_getElem?, Array.getElem?_eq_getElem h5, Option.getD_some] at h1
            simpa using h1
          rw [List.count_set hix, hxi, hcnt]
          simp
        · rw [← hset]
          exact inv.set hi hin
      unfold wpOp at hstep ⊢
      rw [hoh] at hstep
      rw [ho]
      have hw1 : ∀ y, Region.wanted o y = true := fun y => by simp [Region.wanted, hg]
      simp only [hw1, if_true] at hstep ⊢
      rcases hstep with hstep | ⟨h6, h7⟩
      · exact Or.inl (Oper.wp_mono hnext (oper_tailQ hstep))
      · exact Or.inr ⟨h6, h7⟩

theorem wp_region_held_tail {P : Program} {id : Nat} {l : List Oper} {S : World → Prop} {Q : Exit → Act → World → Prop} {a : Act} {w : World} (n : Nat) (hm : P.follows .mixedOrders = true)
    (hB : (decide (n < l.length) && Region.sinkB .any l.toArray n && Region.chainB .any l.toArray n && depsB .any l.toArray n && bareB l.toArray n && Region.seqB .any l.toArray (l.length - n) n (Array.replicate n true ++ Array.replicate (l.length - n) false)) = true)
    (hS : S w.drew) (h : S w.drew → wpAnyH P .any (l.take n).toArray (TailQ (wpList P l.toArray Q (l.drop n)) Q) S n (Array.replicate n false) a w.drew) : (Code.region id l.toArray true).wp P Q a w := by
  simp only [Bool.and_eq_true, decide_eq_true_eq] at hB
  obtain ⟨⟨⟨⟨⟨hn, hs⟩, hc⟩, hd⟩, hb⟩, hq⟩ := hB
  refine wp_region_any hm ?_
  have happ : Array.replicate l.toArray.size false = Array.replicate n false ++ Array.replicate (l.length - n) false := by
    rw [List.size_toArray, Array.replicate_append_replicate, show n + (l.length - n) = l.length by omega]
  have := wpAny_of_headH (P := P) (Q := Q) hn hs hc hd hb hq n (Array.replicate n false) a w.drew (by simp) (by simp) (by
    rw [← happ]
    exact ⟨by simp, fun j oj _ hl => (by rw [getD_replicate_false] at hl; cases hl), fun t _ ht => getD_in (by simpa using ht) (getD_replicate_false _ _)⟩) (h hS)
  rw [happ, List.size_toArray, show l.length = n + (l.length - n) by omega]
  rw [show n + (l.length - n) - n = l.length - n by omega]
  exact this

end Go.Proofs.YtemdinjiplglgaaGreat

namespace Go.Proofs.YtemdinjiplglgaaGreat
open Go.RowKit

theorem filter_drop {l : List (Pt × Nat)} (hnd : (l.map (·.1)).Nodup) {k : Nat} {p : Pt} {i : Nat} (h : l[k]? = some (p, i)) : l.filter (fun x => x.1 ≠ p) = l.take k ++ l.drop (k + 1) := by
  obtain ⟨hk, he⟩ := List.getElem?_eq_some_iff.1 h
  have hl : l = l.take k ++ (p, i) :: l.drop (k + 1) := by
    rw [← he, ← List.drop_eq_getElem_cons hk, List.take_append_drop]
  have hne : ∀ x ∈ l.take k ++ l.drop (k + 1), x.1 ≠ p := by
    have h2 := hnd
    rw [hl, List.map_append, List.map_cons] at h2
    have h3 := (List.perm_middle.nodup_iff).1 h2
    rw [← List.map_append] at h3
    intro x hx e
    exact (List.nodup_cons.1 h3).1 (e ▸ List.mem_map.2 ⟨x, hx, rfl⟩)
  conv => lhs; rw [hl]
  rw [List.filter_append, List.filter_cons_of_neg (by simp)]
  rw [List.filter_eq_self.2 fun x hx => by simpa using hne x (List.mem_append_left _ hx), List.filter_eq_self.2 fun x hx => by simpa using hne x (List.mem_append_right _ hx)]

theorem rrow_take (A : Nat → Nat) : ∀ (l : List (Pt × Nat)) (k : Nat), (rrow A l).take (k * 2) = rrow A (l.take k)
  | [], k => by simp [rrow]
  | x :: l, 0 => by simp [rrow]
  | x :: l, k + 1 => by
    have e : rrow A (x :: l) = [.string (mkS (glue x.1)), ptr (A x.2)] ++ rrow A l := rfl
    have e2 : rrow A ((x :: l).take (k + 1)) = [.string (mkS (glue x.1)), ptr (A x.2)] ++ rrow A (l.take k) := rfl
    rw [e, e2, ← rrow_take A l k, show (k + 1) * 2 = k * 2 + 2 by omega]
    simp
theorem rrow_drop (A : Nat → Nat) : ∀ (l : List (Pt × Nat)) (k : Nat), (rrow A l).drop (k * 2) = rrow A (l.drop k)
  | [], k => by simp [rrow]
  | x :: l, 0 => by simp
  | x :: l, k + 1 => by
    have e : rrow A (x :: l) = [.string (mkS (glue x.1)), ptr (A x.2)] ++ rrow A l := rfl
    rw [e, List.drop_succ_cons, ← rrow_drop A l k, show (k + 1) * 2 = k * 2 + 2 by omega]
    simp

theorem row_src_take {w : World} {e : TypeId} {g n c : Nat} {xs : List Value} (h : w.ownsRow 0 e 2 (.slice (some ⟨g, 0, none⟩) n c) n xs) (k : Nat) (hk : k ≤ n) : Src w (.slice (some ⟨g, 0, none⟩) k c) 2 k (xs.take (k * 2)) := by
  have hl := h.1
  by_cases hn : n = 0
  · have : k = 0 := by omega
    subst this
    exact Or.inl ⟨rfl, by simp, _, _, rfl⟩
  · obtain ⟨g', c', e', _, _, _, _, hc⟩ := own_at h (by omega)
    simp only [Value.slice.injEq, Option.some.injEq, Addr.mk.injEq, true_and, and_true] at e'
    obtain ⟨rfl, rfl⟩ := e'
    refine Or.inr ⟨_, _, rfl, by rw [List.length_take]; omega, fun j u hj => ?_⟩
    rw [add_at, Nat.zero_add]
    refine hc j u ?_
    rw [List.getElem?_take] at hj
    split at hj
    · exact hj
    · cases hj
theorem row_src_drop {w : World} {e : TypeId} {g n c : Nat} {xs : List Value} (h : w.ownsRow 0 e 2 (.slice (some ⟨g, 0, none⟩) n c) n xs) (k : Nat) (hk : k ≤ n) (a : Addr) (ha : k < n → a = ⟨g, k * 2, none⟩) : Src w (.slice (some a) (n - k) (c - k)) 2 (n - k) (xs.drop (k * 2)) := by
  have hl := h.1
  by_cases hn : n = k
  · subst hn
    refine Or.inl ⟨by omega, ?_, _, _, by rw [Nat.sub_self]⟩
    rw [List.drop_of_length_le (by omega)]
  · obtain ⟨g', c', e', _, _, _, _, hc⟩ := own_at h (by omega)
    simp only [Value.slice.injEq, Option.some.injEq, Addr.mk.injEq, true_and, and_true] at e'
    obtain ⟨rfl, rfl⟩ := e'
    rw [ha (by omega)]
    refine Or.inr ⟨_, _, rfl, by rw [List.length_drop]; omega, fun j u hj => ?_⟩
    rw [add_at]
    refine hc _ u ?_
    rw [List.getElem?_drop] at hj
    exact hj
theorem rrow_one (A : Nat → Nat) (l : List (Pt × Nat)) : ∀ u ∈ rrow A l, u.oneCell' = true := by
  intro u hu
  simp only [rrow, List.mem_flatMap] at hu
  obtain ⟨x, _, hx⟩ := hu
  simp only [List.mem_cons, List.not_mem_nil, or_false] at hx
  rcases hx with rfl | rfl <;> rfl

/-- What a cell holds. -/
def pickC (W : World) (a : Addr) : Value := (W.cell? a).getD (.bool false)
theorem pickC_of {W : World} {a : Addr} {u : Value} (h : W.cell? a = some u) : pickC W a = u := by unfold pickC; rw [h]; rfl
theorem cell_pickC {W : World} {a : Addr} {u : Value} (h : W.cell? a = some u) : W.cell? a = some (pickC W a) := by rw [pickC_of h]; exact h

section
variable (rb : Nat) (v : Value) (A : Nat → Nat) (T : Fs)

set_option maxHeartbeats 1000000 in
set_option maxRecDepth 100000 in
theorem rgone_none (s : ByteArray) (w : World) (hR : RRep w rb v A T) (hn : T.at (split (bl s)) = none) :
    Calls Tryz.prog 103 #[ptr rb, .string s] w fun e w' => e = .returned (.tuple #[]) ∧ w = w' := by
  have h1 := rat_calls rb v A T s w hR
  rcases atIdx_at hR.inv (bl s) with ⟨e1, _⟩ | ⟨k, i, _, _, e3⟩
  · rw [e1] at h1
    unfold ptr at *
    replace h1 := Lib.hid h1
    replace hR := Lib.hid hR
    replace hn := Lib.hid hn
    replace e1 := Lib.hid e1
    go_enter Tryz.func103, Tryz.ntmps103
    go_wp2_with fail
    (with_reducible refine (h1.out).mono ?_)
    rintro e w1 ⟨rfl, rfl⟩
    go_wp2
    go_end0
    exact ⟨rfl, rfl⟩
  · rw [hn] at e3
    cases e3

set_option maxHeartbeats 4000000 in
set_option maxRecDepth 100000 in
theorem rgone_calls (s : ByteArray) (j : Nat) (w : World) (hR : RRep w rb v A T) (hne : bl s ≠ []) (hm : (split (bl s), j) ∈ T.names) (hkids : T.kids (split (bl s)) = []) (hf : T.names.length ≤ 1000000) :
    Calls Tryz.prog 103 #[ptr rb, .string s] w fun e w' => e = .returned (.tuple #[]) ∧ RStp w w' rb v A T (T.gone (split (bl s)) j) := by
  have h1 := rat_calls rb v A T s w hR
  have hI' := gone_inv hR.inv hm (split_ne_nil hne) hkids
  have hlive : ∀ i, (T.gone (split (bl s)) j).Live i → T.Live i := fun i ⟨q, hq⟩ => ⟨q, (mem_gone q i).1 hq |>.1⟩
  have hfin := fun v1 W w' hW => @rrep_row_stp W w' rb v v1 A T (T.gone (split (bl s)) j) hW hI' hlive (fun i _ => gone_rnode T _ j i) rfl
  rcases atIdx_at hR.inv (bl s) with ⟨_, e2⟩ | ⟨k, i, e1, e2, e3⟩
  · exact absurd hm (Fs.at_none.1 e2 j)
  rw [e1] at h1
  have hkl : k < T.names.length := (List.getElem?_eq_some_iff.1 e2).1
  have hk0 : 0 < k := by
    rcases Nat.eq_zero_or_pos k with h | h
    · subst h
      obtain ⟨r, hr⟩ := hR.inv.top
      rw [hr, List.getElem?_cons_zero] at e2
      simp only [Option.some.injEq, Prod.mk.injEq] at e2
      exact absurd e2.1.symm (split_ne_nil hne)
    · exact h
  have hnames : (T.gone (split (bl s)) j).names = T.names.take k ++ T.names.drop (k + 1) := filter_drop hR.inv.nodup e2
  have hrowE : rrow A (T.gone (split (bl s)) j).names = (rrow A T.names).take (k * 2) ++ (rrow A T.names).drop ((k + 1) * 2) := by
    rw [hnames, rrow_append, rrow_take, rrow_drop]
  have hlenE : (T.gone (split (bl s)) j).names.length = k + (T.names.length - (k + 1)) := by
    rw [hnames, List.length_append, List.length_take, List.length_drop]
    omega
  have hone := rrow_one A T.names
  have hvr := hR.tree_row
  have hrow := hR.row
  have htree := hR.tree
  obtain ⟨g, c, hv, hc1, hc2, hp, t0, _⟩ := hR.at_
  subst hv
  unfold maxLen at hc2
  have hB1 : Below w.heap.size w (w.drew.alloc (.cells #[] 82)) := below_alloc (below_drewN (Below.refl _ _) 1) _
  have hown := own_made w.drew w.heap.size 82 2 0 [] (Nat.le_refl _) rfl (by simp [maxLen])
  have hrow1 := own_below hrow hB1
  obtain ⟨v1, w1, hrun1, ho1, hg1, _⟩ := run_append_any w.heap.size 83 82 83 Tryz.underlying83 (.agg #[.string ⟨#[]⟩, .pointer none]) 2 24 info_name rfl (by decide) (.slice (some ⟨w.drew.heap.size, 0, none⟩) 0 0) 0 [] (.slice (some ⟨g, 0, none⟩) k c) k _ (row_src_take hrow1 k (by omega)) hown (fun u hu => hone u (List.mem_of_mem_take hu)) (by simp only [maxLen]; omega) (by omega) hB1.size
  have hB2 : Below w.heap.size w w1 := hB1.grown hg1 hB1.size (own_base hown)
  have hrow2 := own_below hrow hB2
  unfold ptr at *
  have hgn : g < w.heap.size := by
    obtain ⟨_, cur, hc⟩ := own_cells hrow rfl
    exact (Array.getElem?_eq_some_iff.1 hc).1
  obtain ⟨vA1, vc1, hv1, hd1, hd2⟩ := own_shape ho1
  subst hv1
  have hwr : IntKind.i64.wrap ((k : Int) + 1) = (k : Int) + 1 := IntWalk.i64_in _ (by omega)
  have hnt : ((k : Int) + 1).toNat = k + 1 := by omega
  have hi1 : (0 : Int) ≤ (k : Int) + 1 := by omega
  have hi2 : (k : Int) + 1 ≤ (T.names.length : Int) := by omega
  have hi3 : (k : Int) ≤ (c : Int) := by omega
  have hi4 : (0 : Int) < (k : Int) := by omega
  have hi5 : ¬ k = 0 := by omega
  by_cases hck : c = k + 1
  · have hif : (c = k + 1) = True := eq_true hck
    replace hck := Lib.hid hck
    obtain ⟨v2, w2, hrun2, ho2, hg2, _⟩ := run_append_any w.heap.size 83 82 83 Tryz.underlying83 (.agg #[.string ⟨#[]⟩, .pointer none]) 2 24 info_name rfl (by decide) (.slice vA1 (0 + k) vc1) (0 + k) _ (.slice (some (⟨g, 0, none⟩ : Addr)) (T.names.length - (k + 1)) (c - (k + 1))) (T.names.length - (k + 1)) _ (row_src_drop hrow2 (k + 1) (by omega) (⟨g, 0, none⟩ : Addr) (fun h => by have := hck.out; omega)) ho1 (fun u hu => hone u (List.mem_of_mem_drop hu)) (by simp only [maxLen]; omega) (by omega) hB2.size
    have hB3 : Below w.heap.size w w2 := hB2.grown hg2 hB2.size (own_base ho1)
    obtain ⟨vA2, vc2, hv2, _, _⟩ := own_shape ho2
    subst hv2
    have t2 := (hB3.block rb (Array.getElem?_eq_some_iff.1 htree).1).trans htree
    have e5 : w2.cell? ⟨rb, 0, none⟩ = some (.slice (some ⟨g, 0, none⟩) T.names.length c) := cell_of t2 rfl
    have f5 : w2.frozen? ⟨rb, 0, none⟩ = false := by simp [World.frozen?, t2]
    have e4 : w1.cell? ⟨rb, 0, none⟩ = some (.slice (some ⟨g, 0, none⟩) T.names.length c) := (hB2.cell (cell_lt t0)).trans t0
    have e3' : (w.alloc (.cells #[] 82)).cell? ⟨rb, 0, none⟩ = some (.slice (some ⟨g, 0, none⟩) T.names.length c) := ((below_alloc (Below.refl w.heap.size w) _).cell (cell_lt t0)).trans t0
    have e6 : (w2.setCell ⟨rb, 0, none⟩ (.slice vA2 (k + (T.names.length - (k + 1))) vc2)).cell? ⟨rb, 0, none⟩ = some (.slice vA2 (k + (T.names.length - (k + 1))) vc2) := cell_of (j := 0) (heap_set_same t2 0 _) rfl
    have hb2 : ∀ b, (Value.slice vA2 (0 + k + (T.names.length - (k + 1))) vc2).ownBlock = some b → w.heap.size ≤ b := own_base ho2
    have hst : RStp w (w2.setCell ⟨rb, 0, none⟩ (.slice vA2 (0 + k + (T.names.length - (k + 1))) vc2)) rb (.slice (some ⟨g, 0, none⟩) T.names.length c) A T (T.gone (split (bl s)) j) := by
      have ht : Turn w (w2.setCell ⟨rb, 0, none⟩ (.slice vA2 (0 + k + (T.names.length - (k + 1))) vc2)) (fun b => b = rb ∨ (Value.slice (some ⟨g, 0, none⟩) T.names.length c).ownBlock = some b) :=
        Turn.set (S := fun b => b = rb ∨ (Value.slice (some ⟨g, 0, none⟩) T.names.length c).ownBlock = some b) (Turn.of_below hB3 _) (Or.inl rfl) 0 _
      refine hfin (.slice vA2 (0 + k + (T.names.length - (k + 1))) vc2) _ _ hR ht ?_ ?_ ?_
      · have := heap_set_same t2 0 (.slice vA2 (0 + k + (T.names.length - (k + 1))) vc2)
        simpa using this
      · rw [hlenE, hrowE]
        have h6 := own_blocks (own_low ho2 (Nat.zero_le _)) fun b hb => heap_set_other w2 (fun e : b = rb => by have := hb2 b hb; have := (Array.getElem?_eq_some_iff.1 htree).1; omega) 0 (.slice vA2 (0 + k + (T.names.length - (k + 1))) vc2)
        simpa using h6
      · cases hvo : (Value.slice vA2 (0 + k + (T.names.length - (k + 1))) vc2).ownBlock with
        | none =>
          obtain ⟨g3, _, _, _, _, _, e6, _⟩ := own_at ho2 (by omega)
          rw [hvo] at e6
          cases e6
        | some b => exact Or.inr ⟨b, rfl, hb2 b hvo⟩
    simp only [Nat.zero_add] at hrun1 hrun2 hst
    replace h1 := Lib.hid h1
    replace hrun1 := Lib.hid hrun1
    replace hrun2 := Lib.hid hrun2
    replace hst := Lib.hid hst
    replace hR := Lib.hid hR
    replace hrow := Lib.hid hrow
    replace htree := Lib.hid htree
    replace hrow1 := Lib.hid hrow1
    replace hrow2 := Lib.hid hrow2
    replace hB1 := Lib.hid hB1
    replace hB2 := Lib.hid hB2
    replace hB3 := Lib.hid hB3
    replace ho1 := Lib.hid ho1
    replace ho2 := Lib.hid ho2
    replace hown := Lib.hid hown
    replace hfin := Lib.hid hfin
    replace hI' := Lib.hid hI'
    replace hlive := Lib.hid hlive
    replace hnames := Lib.hid hnames
    replace hrowE := Lib.hid hrowE
    replace hlenE := Lib.hid hlenE
    replace hone := Lib.hid hone
    replace e1 := Lib.hid e1
    replace e2 := Lib.hid e2
    replace e3 := Lib.hid e3
    replace hb2 := Lib.hid hb2
    replace t2 := Lib.hid t2
    replace hm := Lib.hid hm
    replace hne := Lib.hid hne
    replace hkids := Lib.hid hkids
    clear hg1 hg2
    go_enter Tryz.func103, Tryz.ntmps103
    go_wp2_with fail
    (with_reducible refine (h1.out).mono ?_)
    rintro e w9 ⟨rfl, rfl⟩
    go_wp2_with fail
    refine wp_region_held_tail (S := fun W => W.cell? ⟨rb, 0, none⟩ = some (.slice (some ⟨g, 0, none⟩) T.names.length c)) 17 (by kernel_rfl) (by kernel_rfl) t0 (fun hHeld => ?_)
    simp only [List.take_succ_cons, List.take_zero, List.drop_succ_cons, List.drop_zero]
    simp only [Array.replicate, List.replicate]
    refine wpAnyH_take (i := 0) (v := ?_) rfl (by kernel_rfl) (by kernel_rfl) (by kernel_rfl) (fun _ _ _ h => h) (Or.inl ⟨by rfl, ?_⟩) (by assumption) ?_
    rotate_left 1
    · intro W hSw
      (try dsimp only at hSw)
      go_simp
      try with_reducible rfl
    simp only [Act.put, List.setIfInBounds_toArray, List.set_cons_zero, List.set_cons_succ]
    refine wpAnyH_take (i := 2) (v := ?_) rfl (by kernel_rfl) (by kernel_rfl) (by kernel_rfl) (fun _ _ _ h => h) (Or.inl ⟨by rfl, ?_⟩) (by assumption) ?_
    rotate_left 1
    · intro W hSw
      (try dsimp only at hSw)
      go_simp
      try with_reducible rfl
    simp only [Act.put, List.setIfInBounds_toArray, List.set_cons_zero, List.set_cons_succ]
    refine wpAnyH_take (i := 3) (v := ?_) rfl (by kernel_rfl) (by kernel_rfl) (by kernel_rfl) (fun _ _ _ h => h) (Or.inl ⟨by rfl, ?_⟩) (by assumption) ?_
    rotate_left 1
    · intro W hSw
      (try dsimp only at hSw)
      go_simp
      try with_reducible rfl
    simp only [Act.put, List.setIfInBounds_toArray, List.set_cons_zero, List.set_cons_succ]
    refine wpAnyH_take (i := 4) (v := ?_) rfl (by kernel_rfl) (by kernel_rfl) (by kernel_rfl) (fun _ _ _ h => h) (Or.inl ⟨by rfl, ?_⟩) (by assumption) ?_
    rotate_left 1
    · intro W hSw
      (try dsimp only at hSw)
      go_simp
      try with_reducible rfl
    simp only [Act.put, List.setIfInBounds_toArray, List.set_cons_zero, List.set_cons_succ]
    refine wpAnyH_take (i := 5) (v := ?_) rfl (by kernel_rfl) (by kernel_rfl) (by kernel_rfl) (fun _ _ _ h => h) (Or.inl ⟨by rfl, ?_⟩) (by assumption) ?_
    rotate_left 1
    · intro W hSw
      (try dsimp only at hSw)
      go_simp
      try with_reducible rfl
    simp only [Act.put, List.setIfInBounds_toArray, List.set_cons_zero, List.set_cons_succ]
    refine wpAnyH_take (i := 6) (v := ?_) rfl (by kernel_rfl) (by kernel_rfl) (by kernel_rfl) (fun _ _ _ h => h) (Or.inl ⟨by rfl, ?_⟩) (by assumption) ?_
    rotate_left 1
    · intro W hSw
      (try dsimp only at hSw)
      go_simp
      try with_reducible rfl
    simp only [Act.put, List.setIfInBounds_toArray, List.set_cons_zero, List.set_cons_succ]
    refine wpAnyH_take (i := 7) (v := ?_) rfl (by kernel_rfl) (by kernel_rfl) (by kernel_rfl) (fun _ _ _ h => h) (Or.inl ⟨by rfl, ?_⟩) (by assumption) ?_
    rotate_left 1
    · intro W hSw
      (try dsimp only at hSw)
      go_simp
      try with_reducible rfl
    simp only [Act.put, List.setIfInBounds_toArray, List.set_cons_zero, List.set_cons_succ]
    refine wpAnyH_take (i := 9) (v := ?_) rfl (by kernel_rfl) (by kernel_rfl) (by kernel_rfl) (fun _ _ _ h => h) (Or.inl ⟨by rfl, ?_⟩) (by assumption) ?_
    rotate_left 1
    · intro W hSw
      (try dsimp only at hSw)
      go_simp
      try with_reducible rfl
    simp only [Act.put, List.setIfInBounds_toArray, List.set_cons_zero, List.set_cons_succ]
    refine wpAnyH_take (i := 10) (v := ?_) rfl (by kernel_rfl) (by kernel_rfl) (by kernel_rfl) (fun _ _ _ h => h) (Or.inl ⟨by rfl, ?_⟩) (by assumption) ?_
    rotate_left 1
    · intro W hSw
      (try dsimp only at hSw)
      go_simp
      try with_reducible rfl
    simp only [Act.put, List.setIfInBounds_toArray, List.set_cons_zero, List.set_cons_succ]
    refine wpAnyH_take (i := 11) (v := ?_) rfl (by kernel_rfl) (by kernel_rfl) (by kernel_rfl) (fun _ _ _ h => h) (Or.inl ⟨by rfl, ?_⟩) (by assumption) ?_
    rotate_left 1
    · intro W hSw
      (try dsimp only at hSw)
      go_simp
      try with_reducible rfl
    simp only [Act.put, List.setIfInBounds_toArray, List.set_cons_zero, List.set_cons_succ]
    refine wpAnyH_take (i := 12) (v := ?_) rfl (by kernel_rfl) (by kernel_rfl) (by kernel_rfl) (fun _ _ _ h => h) (Or.inl ⟨by rfl, ?_⟩) (by assumption) ?_
    rotate_left 1
    · intro W hSw
      (try dsimp only at hSw)
      go_simp
      try with_reducible rfl
    simp only [Act.put, List.setIfInBounds_toArray, List.set_cons_zero, List.set_cons_succ]
    refine wpAnyH_take (i := 13) (v := ?_) rfl (by kernel_rfl) (by kernel_rfl) (by kernel_rfl) (fun _ _ _ h => h) (Or.inl ⟨by rfl, ?_⟩) (by assumption) ?_
    rotate_left 1
    · intro W hSw
      (try dsimp only at hSw)
      go_simp
      try with_reducible rfl
    simp only [Act.put, List.setIfInBounds_toArray, List.set_cons_zero, List.set_cons_succ]
    refine wpAnyH_take (i := 14) (v := ?_) rfl (by kernel_rfl) (by kernel_rfl) (by kernel_rfl) (fun _ _ _ h => h) (Or.inl ⟨by rfl, ?_⟩) (by assumption) ?_
    rotate_left 1
    · intro W hSw
      (try dsimp only at hSw)
      go_simp
      try with_reducible rfl
    simp only [Act.put, List.setIfInBounds_toArray, List.set_cons_zero, List.set_cons_succ]
    refine wpAnyH_take (i := 15) (v := ?_) rfl (by kernel_rfl) (by kernel_rfl) (by kernel_rfl) (fun _ _ _ h => h) (Or.inl ⟨by rfl, ?_⟩) (by assumption) ?_
    rotate_left 1
    · intro W hSw
      (try dsimp only at hSw)
      go_simp
      try with_reducible rfl
    simp only [Act.put, List.setIfInBounds_toArray, List.set_cons_zero, List.set_cons_succ]
    refine wpAnyH_ready (rs := [1]) (by kernel_rfl) (by simp) ?_
    refine AllReadyH.cons rfl (fun K hK => ?_) AllReadyH.nil
    go_simp
    refine hK.out _ _ e3' (fun hHeld => ?_)
    clear hK K
    simp only [Act.put, List.setIfInBounds_toArray, List.set_cons_zero, List.set_cons_succ]
    refine wpAnyH_ready (rs := [8]) (by kernel_rfl) (by simp) ?_
    refine AllReadyH.cons rfl (fun K hK => ?_) AllReadyH.nil
    refine step_append_by rfl _ _ 83 rfl _ _ rfl rfl _ w1 hrun1.out ?_
    refine hK.out _ _ e4 (fun hHeld => ?_)
    clear hK K
    simp only [Act.put, List.setIfInBounds_toArray, List.set_cons_zero, List.set_cons_succ]
    refine wpAnyH_ready (rs := [16]) (by kernel_rfl) (by simp) ?_
    refine AllReadyH.cons rfl (fun K hK => ?_) AllReadyH.nil
    refine step_append_by rfl _ _ 83 rfl _ _ rfl rfl _ w2 hrun2.out ?_
    refine hK.out _ _ e5 (fun hHeld => ?_)
    clear hK K
    simp only [Act.put, List.setIfInBounds_toArray, List.set_cons_zero, List.set_cons_succ]
    refine wpAnyH_done (by kernel_rfl) ?_ _
    change wpList _ _ _ _ _ w2
    go_wp2
    go_end0
    exact ⟨rfl, hst.out⟩
  · obtain ⟨v2, w2, hrun2, ho2, hg2, _⟩ := run_append_any w.heap.size 83 82 83 Tryz.underlying83 (.agg #[.string ⟨#[]⟩, .pointer none]) 2 24 info_name rfl (by decide) (.slice vA1 (0 + k) vc1) (0 + k) _ (.slice (some (⟨g, (k + 1) * 2, none⟩ : Addr)) (T.names.length - (k + 1)) (c - (k + 1))) (T.names.length - (k + 1)) _ (row_src_drop hrow2 (k + 1) (by omega) (⟨g, (k + 1) * 2, none⟩ : Addr) (fun _ => rfl)) ho1 (fun u hu => hone u (List.mem_of_mem_drop hu)) (by simp only [maxLen]; omega) (by omega) hB2.size
    have hB3 : Below w.heap.size w w2 := hB2.grown hg2 hB2.size (own_base ho1)
    obtain ⟨vA2, vc2, hv2, _, _⟩ := own_shape ho2
    subst hv2
    have t2 := (hB3.block rb (Array.getElem?_eq_some_iff.1 htree).1).trans htree
    have e5 : w2.cell? ⟨rb, 0, none⟩ = some (.slice (some ⟨g, 0, none⟩) T.names.length c) := cell_of t2 rfl
    have f5 : w2.frozen? ⟨rb, 0, none⟩ = false := by simp [World.frozen?, t2]
    have e4 : w1.cell? ⟨rb, 0, none⟩ = some (.slice (some ⟨g, 0, none⟩) T.names.length c) := (hB2.cell (cell_lt t0)).trans t0
    have e3' : (w.alloc (.cells #[] 82)).cell? ⟨rb, 0, none⟩ = some (.slice (some ⟨g, 0, none⟩) T.names.length c) := ((below_alloc (Below.refl w.heap.size w) _).cell (cell_lt t0)).trans t0
    have e6 : (w2.setCell ⟨rb, 0, none⟩ (.slice vA2 (k + (T.names.length - (k + 1))) vc2)).cell? ⟨rb, 0, none⟩ = some (.slice vA2 (k + (T.names.length - (k + 1))) vc2) := cell_of (j := 0) (heap_set_same t2 0 _) rfl
    have hb2 : ∀ b, (Value.slice vA2 (0 + k + (T.names.length - (k + 1))) vc2).ownBlock = some b → w.heap.size ≤ b := own_base ho2
    have hst : RStp w (w2.setCell ⟨rb, 0, none⟩ (.slice vA2 (0 + k + (T.names.length - (k + 1))) vc2)) rb (.slice (some ⟨g, 0, none⟩) T.names.length c) A T (T.gone (split (bl s)) j) := by
      have ht : Turn w (w2.setCell ⟨rb, 0, none⟩ (.slice vA2 (0 + k + (T.names.length - (k + 1))) vc2)) (fun b => b = rb ∨ (Value.slice (some ⟨g, 0, none⟩) T.names.length c).ownBlock = some b) :=
        Turn.set (S := fun b => b = rb ∨ (Value.slice (some ⟨g, 0, none⟩) T.names.length c).ownBlock = some b) (Turn.of_below hB3 _) (Or.inl rfl) 0 _
      refine hfin (.slice vA2 (0 + k + (T.names.length - (k + 1))) vc2) _ _ hR ht ?_ ?_ ?_
      · have := heap_set_same t2 0 (.slice vA2 (0 + k + (T.names.length - (k + 1))) vc2)
        simpa using this
      · rw [hlenE, hrowE]
        have h6 := own_blocks (own_low ho2 (Nat.zero_le _)) fun b hb => heap_set_other w2 (fun e : b = rb => by have := hb2 b hb; have := (Array.getElem?_eq_some_iff.1 htree).1; omega) 0 (.slice vA2 (0 + k + (T.names.length - (k + 1))) vc2)
        simpa using h6
      · cases hvo : (Value.slice vA2 (0 + k + (T.names.length - (k + 1))) vc2).ownBlock with
        | none =>
          obtain ⟨g3, _, _, _, _, _, e6, _⟩ := own_at ho2 (by omega)
          rw [hvo] at e6
          cases e6
        | some b => exact Or.inr ⟨b, rfl, hb2 b hvo⟩
    simp only [Nat.zero_add] at hrun1 hrun2 hst
    replace h1 := Lib.hid h1
    replace hrun1 := Lib.hid hrun1
    replace hrun2 := Lib.hid hrun2
    replace hst := Lib.hid hst
    replace hR := Lib.hid hR
    replace hrow := Lib.hid hrow
    replace htree := Lib.hid htree
    replace hrow1 := Lib.hid hrow1
    replace hrow2 := Lib.hid hrow2
    replace hB1 := Lib.hid hB1
    replace hB2 := Lib.hid hB2
    replace hB3 := Lib.hid hB3
    replace ho1 := Lib.hid ho1
    replace ho2 := Lib.hid ho2
    replace hown := Lib.hid hown
    replace hfin := Lib.hid hfin
    replace hI' := Lib.hid hI'
    replace hlive := Lib.hid hlive
    replace hnames := Lib.hid hnames
    replace hrowE := Lib.hid hrowE
    replace hlenE := Lib.hid hlenE
    replace hone := Lib.hid hone
    replace e1 := Lib.hid e1
    replace e2 := Lib.hid e2
    replace e3 := Lib.hid e3
    replace hb2 := Lib.hid hb2
    replace t2 := Lib.hid t2
    replace hm := Lib.hid hm
    replace hne := Lib.hid hne
    replace hkids := Lib.hid hkids
    clear hg1 hg2
    go_enter Tryz.func103, Tryz.ntmps103
    go_wp2_with fail
    (with_reducible refine (h1.out).mono ?_)
    rintro e w9 ⟨rfl, rfl⟩
    go_wp2_with fail
    refine wp_region_held_tail (S := fun W => W.cell? ⟨rb, 0, none⟩ = some (.slice (some ⟨g, 0, none⟩) T.names.length c)) 17 (by kernel_rfl) (by kernel_rfl) t0 (fun hHeld => ?_)
    simp only [List.take_succ_cons, List.take_zero, List.drop_succ_cons, List.drop_zero]
    simp only [Array.replicate, List.replicate]
    refine wpAnyH_take (i := 0) (v := ?_) rfl (by kernel_rfl) (by kernel_rfl) (by kernel_rfl) (fun _ _ _ h => h) (Or.inl ⟨by rfl, ?_⟩) (by assumption) ?_
    rotate_left 1
    · intro W hSw
      (try dsimp only at hSw)
      go_simp
      try with_reducible rfl
    simp only [Act.put, List.setIfInBounds_toArray, List.set_cons_zero, List.set_cons_succ]
    refine wpAnyH_take (i := 2) (v := ?_) rfl (by kernel_rfl) (by kernel_rfl) (by kernel_rfl) (fun _ _ _ h => h) (Or.inl ⟨by rfl, ?_⟩) (by assumption) ?_
    rotate_left 1
    · intro W hSw
      (try dsimp only at hSw)
      go_simp
      try with_reducible rfl
    simp only [Act.put, List.setIfInBounds_toArray, List.set_cons_zero, List.set_cons_succ]
    refine wpAnyH_take (i := 3) (v := ?_) rfl (by kernel_rfl) (by kernel_rfl) (by kernel_rfl) (fun _ _ _ h => h) (Or.inl ⟨by rfl, ?_⟩) (by assumption) ?_
    rotate_left 1
    · intro W hSw
      (try dsimp only at hSw)
      go_simp
      try with_reducible rfl
    simp only [Act.put, List.setIfInBounds_toArray, List.set_cons_zero, List.set_cons_succ]
    refine wpAnyH_take (i := 4) (v := ?_) rfl (by kernel_rfl) (by kernel_rfl) (by kernel_rfl) (fun _ _ _ h => h) (Or.inl ⟨by rfl, ?_⟩) (by assumption) ?_
    rotate_left 1
    · intro W hSw
      (try dsimp only at hSw)
      go_simp
      try with_reducible rfl
    simp only [Act.put, List.setIfInBounds_toArray, List.set_cons_zero, List.set_cons_succ]
    refine wpAnyH_take (i := 5) (v := ?_) rfl (by kernel_rfl) (by kernel_rfl) (by kernel_rfl) (fun _ _ _ h => h) (Or.inl ⟨by rfl, ?_⟩) (by assumption) ?_
    rotate_left 1
    · intro W hSw
      (try dsimp only at hSw)
      go_simp
      try with_reducible rfl
    simp only [Act.put, List.setIfInBounds_toArray, List.set_cons_zero, List.set_cons_succ]
    refine wpAnyH_take (i := 6) (v := ?_) rfl (by kernel_rfl) (by kernel_rfl) (by kernel_rfl) (fun _ _ _ h => h) (Or.inl ⟨by rfl, ?_⟩) (by assumption) ?_
    rotate_left 1
    · intro W hSw
      (try dsimp only at hSw)
      go_simp
      try with_reducible rfl
    simp only [Act.put, List.setIfInBounds_toArray, List.set_cons_zero, List.set_cons_succ]
    refine wpAnyH_take (i := 7) (v := ?_) rfl (by kernel_rfl) (by kernel_rfl) (by kernel_rfl) (fun _ _ _ h => h) (Or.inl ⟨by rfl, ?_⟩) (by assumption) ?_
    rotate_left 1
    · intro W hSw
      (try dsimp only at hSw)
      go_simp
      try with_reducible rfl
    simp only [Act.put, List.setIfInBounds_toArray, List.set_cons_zero, List.set_cons_succ]
    refine wpAnyH_take (i := 9) (v := ?_) rfl (by kernel_rfl) (by kernel_rfl) (by kernel_rfl) (fun _ _ _ h => h) (Or.inl ⟨by rfl, ?_⟩) (by assumption) ?_
    rotate_left 1
    · intro W hSw
      (try dsimp only at hSw)
      go_simp
      try with_reducible rfl
    simp only [Act.put, List.setIfInBounds_toArray, List.set_cons_zero, List.set_cons_succ]
    refine wpAnyH_take (i := 10) (v := ?_) rfl (by kernel_rfl) (by kernel_rfl) (by kernel_rfl) (fun _ _ _ h => h) (Or.inl ⟨by rfl, ?_⟩) (by assumption) ?_
    rotate_left 1
    · intro W hSw
      (try dsimp only at hSw)
      go_simp
      try with_reducible rfl
    simp only [Act.put, List.setIfInBounds_toArray, List.set_cons_zero, List.set_cons_succ]
    refine wpAnyH_take (i := 11) (v := ?_) rfl (by kernel_rfl) (by kernel_rfl) (by kernel_rfl) (fun _ _ _ h => h) (Or.inl ⟨by rfl, ?_⟩) (by assumption) ?_
    rotate_left 1
    · intro W hSw
      (try dsimp only at hSw)
      go_simp
      try with_reducible rfl
    simp only [Act.put, List.setIfInBounds_toArray, List.set_cons_zero, List.set_cons_succ]
    refine wpAnyH_take (i := 12) (v := ?_) rfl (by kernel_rfl) (by kernel_rfl) (by kernel_rfl) (fun _ _ _ h => h) (Or.inl ⟨by rfl, ?_⟩) (by assumption) ?_
    rotate_left 1
    · intro W hSw
      (try dsimp only at hSw)
      go_simp
      try with_reducible rfl
    simp only [Act.put, List.setIfInBounds_toArray, List.set_cons_zero, List.set_cons_succ]
    refine wpAnyH_take (i := 13) (v := ?_) rfl (by kernel_rfl) (by kernel_rfl) (by kernel_rfl) (fun _ _ _ h => h) (Or.inl ⟨by rfl, ?_⟩) (by assumption) ?_
    rotate_left 1
    · intro W hSw
      (try dsimp only at hSw)
      go_simp
      try with_reducible rfl
    simp only [Act.put, List.setIfInBounds_toArray, List.set_cons_zero, List.set_cons_succ]
    refine wpAnyH_take (i := 14) (v := ?_) rfl (by kernel_rfl) (by kernel_rfl) (by kernel_rfl) (fun _ _ _ h => h) (Or.inl ⟨by rfl, ?_⟩) (by assumption) ?_
    rotate_left 1
    · intro W hSw
      (try dsimp only at hSw)
      go_simp
      try with_reducible rfl
    simp only [Act.put, List.setIfInBounds_toArray, List.set_cons_zero, List.set_cons_succ]
    refine wpAnyH_take (i := 15) (v := ?_) rfl (by kernel_rfl) (by kernel_rfl) (by kernel_rfl) (fun _ _ _ h => h) (Or.inl ⟨by rfl, ?_⟩) (by assumption) ?_
    rotate_left 1
    · intro W hSw
      (try dsimp only at hSw)
      go_simp
      try with_reducible rfl
    simp only [Act.put, List.setIfInBounds_toArray, List.set_cons_zero, List.set_cons_succ]
    refine wpAnyH_ready (rs := [1]) (by kernel_rfl) (by simp) ?_
    refine AllReadyH.cons rfl (fun K hK => ?_) AllReadyH.nil
    go_simp
    refine hK.out _ _ e3' (fun hHeld => ?_)
    clear hK K
    simp only [Act.put, List.setIfInBounds_toArray, List.set_cons_zero, List.set_cons_succ]
    refine wpAnyH_ready (rs := [8]) (by kernel_rfl) (by simp) ?_
    refine AllReadyH.cons rfl (fun K hK => ?_) AllReadyH.nil
    refine step_append_by rfl _ _ 83 rfl _ _ rfl rfl _ w1 hrun1.out ?_
    refine hK.out _ _ e4 (fun hHeld => ?_)
    clear hK K
    simp only [Act.put, List.setIfInBounds_toArray, List.set_cons_zero, List.set_cons_succ]
    refine wpAnyH_ready (rs := [16]) (by kernel_rfl) (by simp) ?_
    refine AllReadyH.cons rfl (fun K hK => ?_) AllReadyH.nil
    refine step_append_by rfl _ _ 83 rfl _ _ rfl rfl _ w2 hrun2.out ?_
    refine hK.out _ _ e5 (fun hHeld => ?_)
    clear hK K
    simp only [Act.put, List.setIfInBounds_toArray, List.set_cons_zero, List.set_cons_succ]
    refine wpAnyH_done (by kernel_rfl) ?_ _
    change wpList _ _ _ _ _ w2
    go_wp2
    go_end0
    exact ⟨rfl, hst.out⟩

end

end Go.Proofs.YtemdinjiplglgaaGreat

namespace Go.Proofs.YtemdinjiplglgaaGreat
open Go.RowKit

theorem remove_top (T : Fs) : T.remove [] = (T, 2) := by
  unfold Fs.remove
  rw [if_neg (by decide), if_pos rfl]
theorem there_wrong {T : Fs} {s : Bytes} (h : right s = false) : (T.there s).2.2 = 9 := by
  unfold Fs.there Fs.look
  simp [h]
theorem remove_fault {T : Fs} {s : Bytes} (hn : s ≠ []) (hz : (T.there s).2.2 ≠ 0) : T.remove s = (T, (T.there s).2.2) := by
  unfold Fs.remove
  cases hr : right s with
  | false => rw [if_pos rfl, there_wrong hr]
  | true => rw [if_neg (by simp), if_neg hn, if_pos hz]
theorem remove_is {T : Fs} {s : Bytes} {i : Nat} (hn : s ≠ []) (hr : right s = true) (hz : (T.there s).2.2 = 0) (h3 : (T.there s).1 = some i) : T.remove s = if T.kids (split s) ≠ [] then (T, 14) else (T.gone (split s) i, 0) := by
  unfold Fs.remove
  rw [hr, if_neg (by simp), if_neg hn, if_neg (by simpa using hz), h3]

section
variable (rb : Nat) (v : Value) (A : Nat → Nat) (T : Fs)

set_option maxHeartbeats 2000000 in
set_option maxRecDepth 100000 in
theorem rremove_calls (s : ByteArray) (w : World) (hR : RRep w rb v A T) (hs : s.size ≤ 16777216) (hf : T.names.length ≤ 1000000) :
    Calls Tryz.prog 57 #[ptr rb, .string s] w fun e w' => e = .returned (.int .i64 (T.remove (bl s)).2) ∧ RStp w w' rb v A T (T.remove (bl s)).1 := by
  have hI := hR.inv
  have h1 := fun W hW => rthere_calls rb v A T s W hW hs
  have h2 := fun W hW => rin_calls rb v A T s W hW hf
  have hn := str_nil s
  by_cases hnil : bl s = []
  · have hn2 : s.toList.isEmpty = true := by rw [hn, hnil]; rfl
    have hrm : T.remove (bl s) = (T, 2) := by rw [hnil, remove_top]
    rw [hrm]
    have hst := RStp.same hR (Below.refl _ _)
    replace h1 := Lib.hid h1
    replace h2 := Lib.hid h2
    replace hR := Lib.hid hR
    replace hst := Lib.hid hst
    replace hI := Lib.hid hI
    replace hrm := Lib.hid hrm
    replace hnil := Lib.hid hnil
    replace hn := Lib.hid hn
    go_enter Tryz.func57, Tryz.ntmps57
    go_wp2
    go_ret
    exact ⟨rfl, hst.out⟩
  have hn2 : s.toList.isEmpty = false := by rw [hn]; simpa using hnil
  rcases file_there hI (bl s) with ⟨hz, _⟩ | ⟨i, hz, h3, hm, hrs, _⟩
  · rw [remove_fault hnil hz]
    dsimp only
    have he2 : ((T.there (bl s)).2.2 == 0) = false := by simpa using hz
    have he3 : ((T.there (bl s)).2.2 != 0) = true := by simpa using hz
    generalize (T.there (bl s)).2.2 = e at *
    generalize (T.there (bl s)).1 = n at *
    have hp : ∃ a, optPtr A n = .pointer a := by cases n <;> exact ⟨_, rfl⟩
    obtain ⟨a, hp⟩ := hp
    simp only [hp] at h1
    unfold ptr at *
    replace h1 := Lib.hid h1
    replace h2 := Lib.hid h2
    replace hR := Lib.hid hR
    replace hz := Lib.hid hz
    replace hp := Lib.hid hp
    replace hI := Lib.hid hI
    replace hnil := Lib.hid hnil
    replace hn := Lib.hid hn
    go_enter Tryz.func57, Tryz.ntmps57
    go_wp2_with fail
    (with_reducible refine (h1.out _ hR.out).mono ?_)
    rintro e w1 ⟨rfl, hB⟩
    have hst := RStp.same hR.out hB
    replace hst := Lib.hid hst
    clear hB
    go_wp2
    go_ret
    exact ⟨rfl, hst.out⟩
  · rw [remove_is hnil hrs hz h3]
    simp only [hz, h3, optPtr_some] at h1
    by_cases hkd : T.kids (split (bl s)) = []
    · rw [if_neg (by simpa using hkd)]
      dsimp only
      have h4 := fun W hW => rgone_calls rb v A T s i W hW hnil hm hkd hf
      rw [hkd] at h2
      have hs0 : sortB (([] : List (Bytes × Nat)).map (·.1)) = [] := List.mergeSort_nil
      rw [hs0] at h2
      by_cases hk : (T.nd i).kind = 2
      · unfold ptr at *
        replace h1 := Lib.hid h1
        replace h2 := Lib.hid h2
        replace h4 := Lib.hid h4
        replace hR := Lib.hid hR
        replace hI := Lib.hid hI
        replace hz := Lib.hid hz
        replace hnil := Lib.hid hnil
        replace hn := Lib.hid hn
        replace hkd := Lib.hid hkd
        replace hrs := Lib.hid hrs
        replace h3 := Lib.hid h3
        go_enter Tryz.func57, Tryz.ntmps57
        go_wp2_with fail
        (with_reducible refine (h1.out _ hR.out).mono ?_)
        rintro e w1 ⟨rfl, hB1⟩
        have hR1 := hR.out.below hB1
        obtain ⟨_, _, c0, _⟩ := hR1.cells ⟨_, hm⟩
        rw [hk] at c0
        have h2' := h2.out w1 hR1
        replace h2' := Lib.hid h2'
        replace hB1 := Lib.hid hB1
        replace hR1 := Lib.hid hR1
        replace hk := Lib.hid hk
        go_wp2_with fail
        (with_reducible refine (h2'.out).mono ?_)
        rintro e w2 ⟨⟨nv, rfl, hS⟩, hB2⟩
        obtain ⟨nA, nc, hnv, hnc1, hnc2⟩ := own_shape hS.own
        subst hnv
        have hB := below_step hB1.out hB2
        have h4' := h4.out w2 (hR.out.below hB)
        replace h4' := Lib.hid h4'
        replace hB := Lib.hid hB
        clear hB2 hS h2'
        go_wp2_with fail
        (with_reducible refine (h4'.out).mono ?_)
        rintro e w3 ⟨rfl, hst⟩
        replace hst := hst.after hB.out
        replace hst := Lib.hid hst
        go_wp2
        go_ret
        exact ⟨rfl, hst.out⟩
      · have hk2 : ((T.nd i).kind == 2) = false := by simpa using hk
        unfold ptr at *
        replace h1 := Lib.hid h1
        replace h2 := Lib.hid h2
        replace h4 := Lib.hid h4
        replace hR := Lib.hid hR
        replace hI := Lib.hid hI
        replace hz := Lib.hid hz
        replace hnil := Lib.hid hnil
        replace hn := Lib.hid hn
        replace hkd := Lib.hid hkd
        replace hrs := Lib.hid hrs
        replace h3 := Lib.hid h3
        go_enter Tryz.func57, Tryz.ntmps57
        go_wp2_with fail
        (with_reducible refine (h1.out _ hR.out).mono ?_)
        rintro e w1 ⟨rfl, hB1⟩
        have hR1 := hR.out.below hB1
        obtain ⟨_, _, c0, _⟩ := hR1.cells ⟨_, hm⟩
        have h4' := h4.out w1 hR1
        replace h4' := Lib.hid h4'
        replace hB1 := Lib.hid hB1
        replace hR1 := Lib.hid hR1
        go_wp2_with fail
        (with_reducible refine (h4'.out).mono ?_)
        rintro e w3 ⟨rfl, hst⟩
        replace hst := hst.after hB1.out
        replace hst := Lib.hid hst
        go_wp2
        go_ret
        exact ⟨rfl, hst.out⟩
    · rw [if_pos (by simpa using hkd)]
      dsimp only
      have hk : (T.nd i).kind = 2 := by
        by_cases hk : (T.nd i).kind = 2
        · exact hk
        · exact absurd (kids_file hI hm hk) hkd
      have hl : (sortB ((T.kids (split (bl s))).map (·.1))).length = (T.kids (split (bl s))).length := by rw [(sortB_perm _).length_eq, List.length_map]
      have hpos : 0 < (sortB ((T.kids (split (bl s))).map (·.1))).length := by rw [hl]; exact List.length_pos_iff.2 hkd
      generalize sortB ((T.kids (split (bl s))).map (·.1)) = L at *
      have hpos2 : (0 : Int) < (L.length : Int) := by omega
      have hpos3 : L ≠ [] := List.length_pos_iff.1 hpos
      unfold ptr at *
      replace h1 := Lib.hid h1
      replace h2 := Lib.hid h2
      replace hR := Lib.hid hR
      replace hI := Lib.hid hI
      replace hz := Lib.hid hz
      replace hnil := Lib.hid hnil
      replace hn := Lib.hid hn
      replace hkd := Lib.hid hkd
      replace hrs := Lib.hid hrs
      replace h3 := Lib.hid h3
      replace hl := Lib.hid hl
      go_enter Tryz.func57, Tryz.ntmps57
      go_wp2_with fail
      (with_reducible refine (h1.out _ hR.out).mono ?_)
      rintro e w1 ⟨rfl, hB1⟩
      have hR1 := hR.out.below hB1
      obtain ⟨_, _, c0, _⟩ := hR1.cells ⟨_, hm⟩
      rw [hk] at c0
      have h2' := h2.out w1 hR1
      replace h2' := Lib.hid h2'
      replace hB1 := Lib.hid hB1
      replace hR1 := Lib.hid hR1
      replace hk := Lib.hid hk
      go_wp2_with fail
      (with_reducible refine (h2'.out).mono ?_)
      rintro e w2 ⟨⟨nv, rfl, hS⟩, hB2⟩
      obtain ⟨nA, nc, hnv, hnc1, hnc2⟩ := own_shape hS.own
      subst hnv
      have hst := RStp.same hR.out (below_step hB1.out hB2)
      replace hst := Lib.hid hst
      clear hB2 hS h2'
      go_wp2
      go_ret
      exact ⟨rfl, hst.out⟩

end

end Go.Proofs.YtemdinjiplglgaaGreat

namespace Go.Proofs.YtemdinjiplglgaaGreat
open Go.RowKit


/-- A name's text behind the move. -/
def mvd (o p : Bytes) (q : Pt) : Bytes := if under (glue q) o then p ++ (glue q).drop o.length else glue q
def mrow (o p : Bytes) (A : Nat → Nat) (l : List (Pt × Nat)) : List Value := l.flatMap fun x => [.string (mkS (mvd o p x.1)), ptr (A x.2)]
theorem mrow_append (o p : Bytes) (A : Nat → Nat) (l r : List (Pt × Nat)) : mrow o p A (l ++ r) = mrow o p A l ++ mrow o p A r := by simp [mrow]

theorem under_text {s o : Bytes} (h : under s o = true) : ∃ z, s = o ++ z := by
  obtain ⟨t, ht⟩ := List.isPrefixOf_iff_prefix.1 h
  have e : s = glue (split o ++ t) := by rw [ht, glue_split]
  by_cases ho : o = []
  · exact ⟨s, by rw [ho]; rfl⟩
  by_cases hn : t = []
  · subst hn
    rw [List.append_nil, glue_split] at e
    exact ⟨[], by simp [e]⟩
  · have h47 : ∀ x ∈ t, (47 : UInt8) ∉ x := fun x hx => split_parts _ _ (by rw [← ht]; exact List.mem_append_right _ hx)
    have h2 := split_below ho hn h47
    exact ⟨47 :: glue t, by rw [e, ← h2, glue_split]⟩

section
variable (rb : Nat) (v : Value) (A : Nat → Nat) (T : Fs)

set_option maxHeartbeats 2000000 in
set_option maxRecDepth 100000 in
theorem rmoved_calls (o p : ByteArray) (w : World) (hR : RRep w rb v A T) (ho : o.size ≤ 1000000) (hp : p.size ≤ 1000000) (hf : T.names.length ≤ 1000000) :
    Calls Tryz.prog 105 #[ptr rb, .string o, .string p] w fun e w' => Below w.heap.size w w' ∧
      (((∀ x ∈ T.names, right (mvd (bl o) (bl p) x.1) = true) ∧ ∃ v', e = .returned (.tuple #[v', .bool true]) ∧ w'.ownsRow w.heap.size 82 2 v' T.names.length (mrow (bl o) (bl p) A T.names)) ∨
       ((∃ x ∈ T.names, right (mvd (bl o) (bl p) x.1) = false) ∧ e = .returned (.tuple #[.slice none 0 0, .bool false]))) := by
  have hI := hR.inv
  have hpt := hI.pth
  obtain ⟨g, c, rfl, hc1, hc2, hpp, t0, hcs⟩ := hR.at_
  unfold maxLen at hc2
  have hnil : w.ownsRow w.heap.size 82 2 (.slice none 0 0) 0 [] := ⟨rfl, Or.inl ⟨rfl, rfl⟩⟩
  unfold ptr at *
  replace hR := Lib.hid hR
  replace hcs := Lib.hid hcs
  replace hI := Lib.hid hI
  replace hpt := Lib.hid hpt
  replace hnil := Lib.hid hnil
  go_enter Tryz.func105, Tryz.ntmps105
  go_wp2
  go_loopw [8, 9] (fun l i wr => ∃ k : Nat, i = .int .i64 k ∧ k ≤ T.names.length ∧ (∀ x ∈ T.names.take k, right (mvd (bl o) (bl p) x.1) = true) ∧ wr.ownsRow w.heap.size 82 2 l k (mrow (bl o) (bl p) A (T.names.take k)) ∧ Below w.heap.size w wr) (fun _ i _ => T.names.length - (intOf i).toNat)
  case atStart => exact ⟨0, rfl, Nat.zero_le _, by simp, hnil.out, Below.refl _ _⟩
  case round =>
    obtain ⟨k, rfl, hk, hok, hS, hB⟩ := hrel
    have t1 := (hB.cell (cell_lt t0)).trans t0
    by_cases hlt : k < T.names.length
    · obtain ⟨ca, cb⟩ := hcs.out k _ (List.getElem?_eq_getElem hlt)
      have ca1 := (hB.cell (cell_lt ca)).trans ca
      have cb1 := (hB.cell (cell_lt cb)).trans cb
      obtain ⟨oA, oc, hoe, ho1, ho2⟩ := own_shape hS
      subst hoe
      unfold maxLen at ho2
      have hkn : (k : Int) < (T.names.length : Int) := by omega
      clear ca cb
      have hx : T.names[k] ∈ T.names := List.getElem_mem hlt
      have htk : T.names.take (k + 1) = T.names.take k ++ [T.names[k]] := List.take_succ_eq_append_getElem hlt
      generalize T.names[k] = x at *
      obtain ⟨q, j⟩ := x
      dsimp only at *
      have hpx := (hpt.out _ _ hx)
      have hgl : (glue q).length ≤ 200 := right_len hpx.text.1
      have hgr : right (glue q) = true := hpx.text.1
      have hxz := mkS_size (glue q)
      have hun := fun W => refunder_calls (mkS (glue q)) o W (by omega) (by omega)
      have hB0 := hB.alloc hB.size (.cells #[.string (mkS (glue q)), .pointer (some ⟨A j, 0, none⟩)] 82)
      rw [bl_mkS] at hun
      have hB0s : Below wr.heap.size wr (wr.alloc (.cells #[.string (mkS (glue q)), .pointer (some ⟨A j, 0, none⟩)] 82)) := below_alloc (Below.refl _ _) _
      replace hS := Lib.hid hS
      replace hB := Lib.hid hB
      replace hok := Lib.hid hok
      replace hun := Lib.hid hun
      replace hpx := Lib.hid hpx
      replace hx := Lib.hid hx
      replace htk := Lib.hid htk
      replace hgr := Lib.hid hgr
      have hlo : w.heap.size ≤ wr.heap.size := hB.out.size
      have hblk : (wr.alloc (.cells #[.string (mkS (glue q)), .pointer (some ⟨A j, 0, none⟩)] 82)).heap[wr.heap.size]? = some (.cells #[.string (mkS (glue q)), .pointer (some ⟨A j, 0, none⟩)] 82 (0, 0)) := (MapKept.heap_alloc wr _).1
      have hS0 := own_below hS.out hB0s
      clear hB0s
      have hSlt : ∀ b, (Value.slice oA k oc).ownBlock = some b → b < wr.heap.size := fun b hb => by
        obtain ⟨_, cur, hc⟩ := own_cells hS.out hb
        exact (Array.getElem?_eq_some_iff.1 hc).1
      go_upto_region 6 with fail
      generalize wr.alloc (.cells #[.string (mkS (glue q)), .pointer (some ⟨A j, 0, none⟩)] 82) = W at *
      generalize wr.heap.size = n1 at *
      have q0 := cell_of (j := 0) hblk rfl
      replace hblk := Lib.hid hblk
      replace hS0 := Lib.hid hS0
      replace hB0 := Lib.hid hB0
      replace hlo := Lib.hid hlo
      replace hSlt := Lib.hid hSlt
      clear hS hB t1 ca1 cb1
      cases hu : under (glue q) (bl o) with
      | false =>
        have hm : mvd (bl o) (bl p) q = glue q := by unfold mvd; rw [hu]; rfl
        rw [hu] at hun
        replace hu := Lib.hid hu
        replace hm := Lib.hid hm
        go_wp2_with fail
        (with_reducible refine (hun.out _).mono ?_)
        rintro e w1 ⟨rfl, hB1⟩
        have hblk1 := (hB1.block n1 (Array.getElem?_eq_some_iff.1 hblk.out).1).trans hblk.out
        have hS1 := own_below hS0.out hB1
        have hB01 := below_step hB0.out hB1
        clear q0 hB1
        go_upto_region 8 with fail
        have hblkT := hblk1
        have hST := hS1
        have hBT := hB01
        clear hblk1 hS1 hB01
        generalize glue q = m at *
        have hml : m.length ≤ 1000200 := by omega
        have q0T := cell_of (j := 0) hblkT rfl
        have hrt := fun W' => refright_calls (mkS m) W' (by rw [mkS_size]; omega)
        rw [bl_mkS] at hrt
        cases hr : right m with
        | false =>
          rw [hr] at hrt
          replace hr := Lib.hid hr
          replace hblkT := Lib.hid hblkT
          replace hST := Lib.hid hST
          replace hBT := Lib.hid hBT
          replace hrt := Lib.hid hrt
          go_wp2_with fail
          (with_reducible refine (hrt.out _).mono ?_)
          rintro e w3 ⟨rfl, hB3⟩
          replace hB3 := Lib.hid hB3
          go_wp2
          go_ret2
          exact ⟨below_step hBT.out hB3.out, Or.inr ⟨⟨_, hx.out, by dsimp only; rw [hm.out]; exact hr.out⟩, rfl⟩⟩
        | true =>
          rw [hr] at hrt
          replace hr := Lib.hid hr
          replace hblkT := Lib.hid hblkT
          replace hST := Lib.hid hST
          replace hBT := Lib.hid hBT
          replace hrt := Lib.hid hrt
          go_wp2_with fail
          (with_reducible refine (hrt.out _).mono ?_)
          rintro e w3 ⟨rfl, hB3⟩
          have hblk3 := (hB3.block n1 (Array.getElem?_eq_some_iff.1 hblkT.out).1).trans hblkT.out
          have r0 := cell_of (j := 0) hblk3 rfl
          have r1 := cell_of (j := 1) hblk3 rfl
          have hS3 := own_below hST.out hB3
          have hB03 := below_step hBT.out hB3
          clear q0T hB3
          replace hblk3 := Lib.hid hblk3
          replace hS3 := Lib.hid hS3
          replace hB03 := Lib.hid hB03
          go_wp2_with (at_builtin; refine wp_append1 w.heap.size rfl (.tmp 43) (.tmp 45) 83 82 rfl Tryz.underlying83 (.agg #[.string ⟨#[]⟩, .pointer none]) 2 24 info_name rfl (by decide) (.slice oA k oc) _ _ rfl [.string (mkS m), .pointer (some ⟨A j, 0, none⟩)] rfl hS3.out rfl ?_ ?_ ?_ hB03.out.size ?_)
          · simp [Value.oneCell']
          · simp only [maxLen]; omega
          · omega
          · intro v1 w4 g1 hg hat
            have hB4 := hB03.out.grown hg hB03.out.size (own_base hS3.out)
            replace g1 := Lib.hid g1
            replace hB4 := Lib.hid hB4
            clear hg hat
            go_wp2
            go_roundw
            case rel =>
              refine ⟨k + 1, by go_num, by omega, ?_, ?_, hB4.out⟩
              · rw [htk.out]
                intro y hy
                rcases List.mem_append.1 hy with h | h
                · exact hok.out y h
                · rw [List.mem_singleton.1 h]
                  dsimp only
                  rw [hm.out]
                  exact hr.out
              · rw [htk.out, mrow_append]
                have e2 : mrow (bl o) (bl p) A [(q, j)] = [.string (mkS m), .pointer (some ⟨A j, 0, none⟩)] := by
                  simp only [mrow, List.flatMap_cons, List.flatMap_nil, List.append_nil, hm.out]
                  rfl
                rw [e2]
                exact g1.out
            case measure => simp [intOf]; omega
      | true =>
        obtain ⟨z, hz⟩ := under_text hu
        have hm : mvd (bl o) (bl p) q = bl p ++ z := by unfold mvd; rw [hu, if_pos rfl, hz, List.drop_left]
        rw [hu] at hun
        have hzl : o.size + z.length = (glue q).length := by rw [hz, List.length_append, bl_length]
        have hbo := bl_length o
        have hbp := bl_length p
        have hext : p ++ (mkS (glue q)).extract o.size (glue q).length = mkS (bl p ++ z) := by
          rw [extract_mkS, bl_mkS, List.take_length, hz, ← bl_length o, List.drop_left, ← mkS_append, mkS_bl]
        have hi0 : (o.size : Int) ≤ ((glue q).length : Int) := by omega
        replace hu := Lib.hid hu
        replace hm := Lib.hid hm
        replace hz := Lib.hid hz
        go_wp2_with fail
        (with_reducible refine (hun.out _).mono ?_)
        rintro e w1 ⟨rfl, hB1⟩
        have hblk1 := (hB1.block n1 (Array.getElem?_eq_some_iff.1 hblk.out).1).trans hblk.out
        have q1 := cell_of (j := 0) hblk1 rfl
        have f1 : w1.frozen? ⟨n1, 0, none⟩ = false := by simp [World.frozen?, hblk1]
        have hS1 := own_below hS0.out hB1
        have hB01 := below_step hB0.out hB1
        clear q0 hB1
        replace hblk1 := Lib.hid hblk1
        replace hS1 := Lib.hid hS1
        replace hB01 := Lib.hid hB01
        go_upto_region 8 with fail
        rw [hext] at *
        have hblk2 := heap_set_same hblk1.out 0 (.string (mkS (bl p ++ z)))
        have hST := own_blocks hS1.out fun b hb => heap_set_other w1 (Nat.ne_of_lt (hSlt.out b hb)) 0 (.string (mkS (bl p ++ z)))
        have hBT := hB01.out.setCell (p := ⟨n1, 0, none⟩) hlo.out (.string (mkS (bl p ++ z)))
        have hblkT : (w1.setCell ⟨n1, 0, none⟩ (.string (mkS (bl p ++ z)))).heap[n1]? = some (.cells #[.string (mkS (bl p ++ z)), .pointer (some ⟨A j, 0, none⟩)] 82 (0, 0)) := hblk2
        have hml : (bl p ++ z).length ≤ 1000200 := by rw [List.length_append]; omega
        clear hblk2 hblk1 hS1 hB01 q1 f1 hext
        generalize w1.setCell ⟨n1, 0, none⟩ (.string (mkS (bl p ++ z))) = w2 at *
        generalize bl p ++ z = m at *
        have q0T := cell_of (j := 0) hblkT rfl
        have hrt := fun W' => refright_calls (mkS m) W' (by rw [mkS_size]; omega)
        rw [bl_mkS] at hrt
        cases hr : right m with
        | false =>
          rw [hr] at hrt
          replace hr := Lib.hid hr
          replace hblkT := Lib.hid hblkT
          replace hST := Lib.hid hST
          replace hBT := Lib.hid hBT
          replace hrt := Lib.hid hrt
          go_wp2_with fail
          (with_reducible refine (hrt.out _).mono ?_)
          rintro e w3 ⟨rfl, hB3⟩
          replace hB3 := Lib.hid hB3
          go_wp2
          go_ret2
          exact ⟨below_step hBT.out hB3.out, Or.inr ⟨⟨_, hx.out, by dsimp only; rw [hm.out]; exact hr.out⟩, rfl⟩⟩
        | true =>
          rw [hr] at hrt
          replace hr := Lib.hid hr
          replace hblkT := Lib.hid hblkT
          replace hST := Lib.hid hST
          replace hBT := Lib.hid hBT
          replace hrt := Lib.hid hrt
          go_wp2_with fail
          (with_reducible refine (hrt.out _).mono ?_)
          rintro e w3 ⟨rfl, hB3⟩
          have hblk3 := (hB3.block n1 (Array.getElem?_eq_some_iff.1 hblkT.out).1).trans hblkT.out
          have r0 := cell_of (j := 0) hblk3 rfl
          have r1 := cell_of (j := 1) hblk3 rfl
          have hS3 := own_below hST.out hB3
          have hB03 := below_step hBT.out hB3
          clear q0T hB3
          replace hblk3 := Lib.hid hblk3
          replace hS3 := Lib.hid hS3
          replace hB03 := Lib.hid hB03
          go_wp2_with (at_builtin; refine wp_append1 w.heap.size rfl (.tmp 43) (.tmp 45) 83 82 rfl Tryz.underlying83 (.agg #[.string ⟨#[]⟩, .pointer none]) 2 24 info_name rfl (by decide) (.slice oA k oc) _ _ rfl [.string (mkS m), .pointer (some ⟨A j, 0, none⟩)] rfl hS3.out rfl ?_ ?_ ?_ hB03.out.size ?_)
          · simp [Value.oneCell']
          · simp only [maxLen]; omega
          · omega
          · intro v1 w4 g1 hg hat
            have hB4 := hB03.out.grown hg hB03.out.size (own_base hS3.out)
            replace g1 := Lib.hid g1
            replace hB4 := Lib.hid hB4
            clear hg hat
            go_wp2
            go_roundw
            case rel =>
              refine ⟨k + 1, by go_num, by omega, ?_, ?_, hB4.out⟩
              · rw [htk.out]
                intro y hy
                rcases List.mem_append.1 hy with h | h
                · exact hok.out y h
                · rw [List.mem_singleton.1 h]
                  dsimp only
                  rw [hm.out]
                  exact hr.out
              · rw [htk.out, mrow_append]
                have e2 : mrow (bl o) (bl p) A [(q, j)] = [.string (mkS m), .pointer (some ⟨A j, 0, none⟩)] := by
                  simp only [mrow, List.flatMap_cons, List.flatMap_nil, List.append_nil, hm.out]
                  rfl
                rw [e2]
                exact g1.out
            case measure => simp [intOf]; omega
    · obtain rfl : k = T.names.length := by omega
      rw [List.take_length] at hS hok
      obtain ⟨oA, oc, hoe, ho1, ho2⟩ := own_shape hS
      subst hoe
      replace hS := Lib.hid hS
      replace hB := Lib.hid hB
      replace hok := Lib.hid hok
      go_wp2
      go_ret2
      exact ⟨hB.out, Or.inl ⟨hok.out, _, rfl, hS.out⟩⟩

end

end Go.Proofs.YtemdinjiplglgaaGreat

namespace Go.Proofs.YtemdinjiplglgaaGreat
open Go.RowKit

theorem glue_below {o : Bytes} (ho : o ≠ []) {t : Pt} (ht : t ≠ []) (h47 : ∀ x ∈ t, (47 : UInt8) ∉ x) : glue (split o ++ t) = o ++ 47 :: glue t := by
  rw [← split_below ho ht h47, glue_split]

theorem mvd_other {o p : Bytes} {q : Pt} (hq : Pth q) (h : ¬ split o <+: q) : mvd o p q = glue q := by
  unfold mvd
  rw [if_neg]
  intro hu
  rw [under_prefix, hq.text.2] at hu
  exact h hu
theorem mvd_under {o p : Bytes} {t : Pt} (hq : Pth (split o ++ t)) (ho : o ≠ []) : mvd o p (split o ++ t) = if t = [] then p else p ++ 47 :: glue t := by
  have h47 : ∀ x ∈ t, (47 : UInt8) ∉ x := fun x hx => hq.no_slash (List.mem_append_right _ hx)
  have hu : under (glue (split o ++ t)) o = true := by
    rw [under_prefix]
    rw [hq.text.2]
    exact List.prefix_append _ _
  unfold mvd
  rw [if_pos hu]
  by_cases ht : t = []
  · subst ht
    rw [if_pos rfl, List.append_nil, glue_split, List.drop_of_length_le (Nat.le_refl _), List.append_nil]
  · rw [if_neg ht, glue_below ho ht h47, List.drop_left]
theorem mvd_move {o p : Bytes} {q : Pt} (hq : Pth q) (ho : o ≠ []) (hp : p ≠ []) : mvd o p q = glue (moveP (split o) (split p) q) := by
  rcases moveP_cases (split o) (split p) q with ⟨t, rfl, e⟩ | ⟨h, e⟩
  · rw [e, mvd_under hq ho]
    by_cases ht : t = []
    · subst ht
      rw [if_pos rfl, List.append_nil, glue_split]
    · rw [if_neg ht, glue_below hp ht fun x hx => hq.no_slash (List.mem_append_right _ hx)]
  · rw [e, mvd_other hq h]

theorem mrow_move {T : Fs} (hI : T.Inv) {o p : Bytes} (ho : o ≠ []) (hp : p ≠ []) (A : Nat → Nat) : mrow o p A T.names = rrow A (T.move (split o) (split p)).names := by
  have h : ∀ l : List (Pt × Nat), (∀ x ∈ l, Pth x.1) → mrow o p A l = rrow A (l.map fun x => (moveP (split o) (split p) x.1, x.2)) := by
    intro l
    induction l with
    | nil => intro _; rfl
    | cons x l ih =>
      intro hl
      have e1 : mrow o p A (x :: l) = [.string (mkS (mvd o p x.1)), ptr (A x.2)] ++ mrow o p A l := rfl
      have e2 : rrow A ((x :: l).map fun x => (moveP (split o) (split p) x.1, x.2)) = [.string (mkS (glue (moveP (split o) (split p) x.1))), ptr (A x.2)] ++ rrow A (l.map fun x => (moveP (split o) (split p) x.1, x.2)) := rfl
      rw [e1, e2, ih fun y hy => hl y (List.mem_cons_of_mem _ hy), mvd_move (hl x (List.mem_cons_self ..)) ho hp]
  exact h T.names fun x hx => hI.pth _ _ hx

theorem fits_mvd {T : Fs} (hI : T.Inv) {o p : Bytes} (ho : o ≠ []) (hrp : right p = true) : T.fits o p = true ↔ ∀ x ∈ T.names, right (mvd o p x.1) = true := by
  unfold Fs.fits
  rw [List.all_eq_true]
  constructor
  · intro h x hx
    have hpx := hI.pth _ _ hx
    rcases moveP_cases (split o) (split p) x.1 with ⟨t, e, _⟩ | ⟨h2, _⟩
    · rw [e] at hpx ⊢
      rw [mvd_under hpx ho]
      by_cases ht : t = []
      · rw [if_pos ht]; exact hrp
      · rw [if_neg ht]
        exact h (t, x.2) (mem_below.2 ⟨ht, by rw [← e]; exact hx⟩)
    · rw [mvd_other hpx h2]
      exact hpx.text.1
  · intro h y hy
    obtain ⟨h1, h2⟩ := mem_below.1 hy
    have h3 := h _ h2
    rw [mvd_under (hI.pth _ _ h2) ho, if_neg h1] at h3
    exact h3

end Go.Proofs.YtemdinjiplglgaaGreat

namespace Go.Proofs.YtemdinjiplglgaaGreat
open Go.RowKit

theorem RStp.trans {w w1 w2 : World} {rb : Nat} {v v1 : Value} {A A1 : Nat → Nat} {T T1 T2 : Fs} (h1 : Turn w w1 (ROwn rb v A T)) (h2 : ∀ b, ROwn rb v1 A1 T1 b → ROwn rb v A T b ∨ w.heap.size ≤ b) (h : RStp w1 w2 rb v1 A1 T1 T2) : RStp w w2 rb v A T T2 := by
  obtain ⟨v2, A2, g1, g2, g3⟩ := h
  refine ⟨v2, A2, g1, h1.trans (g2.mono fun i _ hi => h2 i hi), fun b hb => ?_⟩
  rcases g3 b hb with h | h
  · exact h2 b h
  · exact Or.inr (Nat.le_trans h1.size h)

theorem rrow_set (A : Nat → Nat) (q : Pt) : ∀ (l : List (Pt × Nat)) (k : Nat) (p : Pt) (i : Nat), l[k]? = some (p, i) → rrow A (l.set k (q, i)) = (rrow A l).set (k * 2) (.string (mkS (glue q)))
  | [], k, p, i, h => by simp at h
  | y :: l, 0, p, i, h => by
    simp only [List.getElem?_cons_zero, Option.some.injEq] at h
    subst h
    rfl
  | y :: l, k + 1, p, i, h => by
    simp only [List.getElem?_cons_succ] at h
    have e : rrow A (y :: l) = [.string (mkS (glue y.1)), ptr (A y.2)] ++ rrow A l := rfl
    have e2 : rrow A (y :: l.set k (q, i)) = [.string (mkS (glue y.1)), ptr (A y.2)] ++ rrow A (l.set k (q, i)) := rfl
    rw [List.set_cons_succ, e, e2, rrow_set A q l k p i h, List.set_append_right _ _ (by simp; omega)]
    congr 2
    simp
    omega

theorem none_below {T : Fs} (hI : T.Inv) {o : Pt} {i : Nat} (hi : (o, i) ∈ T.names) (hk : (T.nd i).kind ≠ 2) {t : Pt} {j : Nat} (h : (o ++ t, j) ∈ T.names) : t = [] := by
  cases t with
  | nil => rfl
  | cons a t =>
    exfalso
    have h2 : (o ++ [a]) ++ t = o ++ a :: t := by simp
    obtain ⟨x, hx⟩ := hI.above (r := o ++ [a]) (t := t) (by rw [h2]; exact h)
    have h3 : (a, x) ∈ T.kids o := mem_kidsL.2 hx
    rw [kids_file hI hi hk] at h3
    cases h3

theorem move_file {T : Fs} (hI : T.Inv) {o p : Pt} {k i : Nat} (hm : T.names[k]? = some (o, i)) (hk : (T.nd i).kind ≠ 2) : (T.move o p).names = T.names.set k (p, i) := by
  obtain ⟨hkl, hke⟩ := List.getElem?_eq_some_iff.1 hm
  have hmem : (o, i) ∈ T.names := hke ▸ List.getElem_mem hkl
  apply List.ext_getElem?
  intro n
  show (T.names.map fun x => (moveP o p x.1, x.2))[n]? = _
  rw [List.getElem?_map, List.getElem?_set]
  by_cases hn : k = n
  · subst hn
    rw [if_pos rfl, if_pos hkl, hm]
    have := moveP_under o p []
    rw [List.append_nil, List.append_nil] at this
    simp [this]
  · rw [if_neg hn]
    cases hx : T.names[n]? with
    | none => rfl
    | some x =>
      obtain ⟨hnl, hne⟩ := List.getElem?_eq_some_iff.1 hx
      have hxm : x ∈ T.names := hne ▸ List.getElem_mem hnl
      have : ¬ o <+: x.1 := fun ⟨t, ht⟩ => by
        have h1 : t = [] := none_below hI hmem hk (j := x.2) (by rw [ht]; exact hxm)
        subst h1
        rw [List.append_nil] at ht
        have h2 := hI.nodup
        have h3 : (T.names.map (·.1))[k]? = (T.names.map (·.1))[n]? := by
          rw [List.getElem?_map, List.getElem?_map, hm, hx]
          simp [ht]
        exact hn ((List.getElem?_inj (by simpa using hkl) h2).1 h3)
      simp [moveP_other this]

section
variable {W : World} {rb : Nat} {v : Value} {A : Nat → Nat} {T : Fs}

theorem move_live {o p : Pt} {i : Nat} (h : (T.move o p).Live i) : T.Live i := by
  obtain ⟨q, hq⟩ := h
  obtain ⟨r, hr, _⟩ := (mem_move q i).1 hq
  exact ⟨r, hr⟩

/-- The name's text, in its place. -/
theorem rmove_file {g c k i d : Nat} {o p : Bytes} (hR : RRep W rb (.slice (some ⟨g, 0, none⟩) T.names.length c) A T) (hM : Moves T (split o) (split p) i d) (hm : T.names[k]? = some (split o, i)) (hk : (T.nd i).kind ≠ 2) :
    RStp W (W.setCell ⟨g, k * 2, none⟩ (.string (mkS p))) rb (.slice (some ⟨g, 0, none⟩) T.names.length c) A T (T.move (split o) (split p)) := by
  have hgr : rb ≠ g := fun e => by
    have := hR.tree_row
    rw [e] at this
    exact this rfl
  have hnm := move_file (p := split p) hR.inv hm hk
  refine rrep_row_stp hR (move_inv hR.inv hM) (fun j hj => move_live hj) (fun j _ => ⟨rfl, rfl⟩) rfl (Turn.set (Turn.of_below (Below.refl _ _) _) (Or.inr rfl) _ _) ((heap_set_other W hgr _ _).trans hR.tree) ?_ (Or.inl rfl)
  rw [hnm, List.length_set, rrow_set A (split p) T.names k _ i hm, glue_split]
  exact (hR.row.stored (k * 2) _).1

/-- The whole row anew. -/
theorem rmove_dir {w : World} {i d : Nat} {o p : Bytes} {u : Value} (hR : RRep w rb v A T) (hM : Moves T (split o) (split p) i d) (ho : o ≠ []) (hp : p ≠ []) (hB : Below w.heap.size w W)
    (hrow : W.ownsRow w.heap.size 82 2 u T.names.length (mrow o p A T.names)) (hpos : 0 < T.names.length) : RStp w (W.setCell ⟨rb, 0, none⟩ u) rb v A T (T.move (split o) (split p)) := by
  have htree := (hB.block rb (Array.getElem?_eq_some_iff.1 hR.tree).1).trans hR.tree
  have hlt := (Array.getElem?_eq_some_iff.1 hR.tree).1
  have hlow : ∀ b, u.ownBlock = some b → w.heap.size ≤ b := fun b hb => own_base hrow b hb
  have hlen : (T.move (split o) (split p)).names.length = T.names.length := List.length_map ..
  refine rrep_row_stp hR (move_inv hR.inv hM) (fun j hj => move_live hj) (fun j _ => ⟨rfl, rfl⟩) rfl (Turn.set (Turn.of_below hB _) (Or.inl rfl) _ _) (by have := heap_set_same htree 0 u; simpa using this) ?_ ?_
  · rw [hlen, ← mrow_move hR.inv ho hp A]
    exact own_blocks (own_low hrow (Nat.zero_le _)) fun b hb => heap_set_other W (fun e : b = rb => by have := hlow b hb; omega) _ _
  · cases hu : u.ownBlock with
    | none =>
      obtain ⟨g3, _, e1, _, _, _, e6, _⟩ := own_at hrow hpos
      rw [hu] at e6
      cases e6
    | some b => exact Or.inr ⟨b, rfl, hlow b hu⟩

end

end Go.Proofs.YtemdinjiplglgaaGreat

namespace Go.Proofs.YtemdinjiplglgaaGreat
open Go.RowKit

theorem ren_wrong {T : Fs} {o p : Bytes} (h : right o = false ∨ right p = false) : T.rename o p = (T, 9) := by
  unfold Fs.rename
  rw [if_pos h]
theorem ren_top {T : Fs} {o p : Bytes} (hro : right o = true) (hrp : right p = true) (h : o = [] ∨ p = []) : T.rename o p = (T, 2) := by
  unfold Fs.rename
  rw [if_neg (by simp [hro, hrp])]
  unfold Fs.ren2
  rw [if_pos h]
theorem ren_fault {T : Fs} {o p : Bytes} (hro : right o = true) (hrp : right p = true) (ho : o ≠ []) (hp : p ≠ []) (hz : (T.there o).2.2 ≠ 0) : T.rename o p = (T, (T.there o).2.2) := by
  unfold Fs.rename
  rw [if_neg (by simp [hro, hrp])]
  unfold Fs.ren2
  rw [if_neg (by simp [ho, hp]), if_pos hz]
theorem ren_go {T : Fs} {o p : Bytes} {i : Nat} (hro : right o = true) (hrp : right p = true) (ho : o ≠ []) (hp : p ≠ []) (hz : (T.there o).2.2 = 0) (h3 : (T.there o).1 = some i) : T.rename o p = T.ren3 o p i (T.look p).1 (T.look p).2.2 := by
  unfold Fs.rename
  rw [if_neg (by simp [hro, hrp])]
  unfold Fs.ren2
  rw [if_neg (by simp [ho, hp]), if_neg (by simpa using hz), h3]
theorem look_of_there {T : Fs} {o : Bytes} {i : Nat} (hz : (T.there o).2.2 = 0) (h3 : (T.there o).1 = some i) : (T.look o).1 = some i ∧ (T.look o).2.2 = 0 := by
  have h1 : (T.look o).1 = some i := h3
  refine ⟨h1, ?_⟩
  have h2 : (if (T.look o).2.2 = 0 ∧ (T.look o).1 = none then (10 : Int) else (T.look o).2.2) = 0 := hz
  rwa [if_neg (by rw [h1]; simp)] at h2

theorem at_here {T : Fs} (hI : T.Inv) {s : Bytes} {i : Nat} (h : (split s, i) ∈ T.names) : ∃ k : Nat, atIdx T.names s = k ∧ T.names[k]? = some (split s, i) := by
  rcases atIdx_at hI s with ⟨_, e⟩ | ⟨k, j, e1, e2, e3⟩
  · exact absurd h (Fs.at_none.1 e i)
  · rw [hI.at_some.2 h] at e3
    cases e3
    exact ⟨k, e1, e2⟩

section
variable (rb : Nat) (v : Value) (A : Nat → Nat) (T : Fs)

set_option maxHeartbeats 4000000 in
set_option maxRecDepth 100000 in
theorem rrename_calls (o p : ByteArray) (w : World) (hR : RRep w rb v A T) (ho : o.size ≤ 1000000) (hp : p.size ≤ 1000000) (hf : T.names.length ≤ 1000000) :
    Calls Tryz.prog 58 #[ptr rb, .string o, .string p] w fun e w' => e = .returned (.int .i64 (T.rename (bl o) (bl p)).2) ∧ RStp w w' rb v A T (T.rename (bl o) (bl p)).1 := by
  have hI := hR.inv
  have h0 := fun W => refright_calls o W (by omega)
  have h1 := fun W => refright_calls p W (by omega)
  have h2 := fun W hW => rthere_calls rb v A T o W hW (by omega)
  have h3 := fun W hW => rlook_calls rb v A T p W hW (by omega)
  have h4 := fun W => refunder_calls p o W (by omega) (by omega)
  have h5 := fun W hW => rmoved_calls rb v A T o p W hW ho hp hf
  have hno := str_nil o
  have hnp := str_nil p
  have hne := str_same p o
  unfold ptr at *
  replace h0 := Lib.hid h0
  replace h1 := Lib.hid h1
  replace h2 := Lib.hid h2
  replace h3 := Lib.hid h3
  replace h4 := Lib.hid h4
  replace h5 := Lib.hid h5
  replace hR := Lib.hid hR
  replace hI := Lib.hid hI
  replace hne := Lib.hid hne
  cases hro : right (bl o) with
  | false =>
    rw [ren_wrong (Or.inl hro)]
    replace h0 := h0.out
    rw [hro] at h0
    replace h0 := Lib.hid h0
    replace hro := Lib.hid hro
    replace hno := Lib.hid hno
    replace hnp := Lib.hid hnp
    go_enter Tryz.func58, Tryz.ntmps58
    go_wp2_with fail
    (with_reducible refine (h0.out _).mono ?_)
    rintro e w1 ⟨rfl, hB1⟩
    have hst := RStp.same hR.out hB1
    replace hst := Lib.hid hst
    clear hB1
    go_wp2
    go_ret
    exact ⟨rfl, hst.out⟩
  | true =>
  replace h0 := h0.out
  rw [hro] at h0
  replace h0 := Lib.hid h0
  cases hrp : right (bl p) with
  | false =>
    rw [ren_wrong (Or.inr hrp)]
    replace h1 := h1.out
    rw [hrp] at h1
    replace h1 := Lib.hid h1
    replace hro := Lib.hid hro
    replace hrp := Lib.hid hrp
    replace hno := Lib.hid hno
    replace hnp := Lib.hid hnp
    go_enter Tryz.func58, Tryz.ntmps58
    go_wp2_with fail
    (with_reducible refine (h0.out _).mono ?_)
    rintro e w1 ⟨rfl, hB1⟩
    go_wp2_with fail
    (with_reducible refine (h1.out _).mono ?_)
    rintro e w2 ⟨rfl, hB2⟩
    have hst := RStp.same hR.out (below_step hB1 hB2)
    replace hst := Lib.hid hst
    clear hB1 hB2
    go_wp2
    go_ret
    exact ⟨rfl, hst.out⟩
  | true =>
  replace h1 := h1.out
  rw [hrp] at h1
  replace h1 := Lib.hid h1
  by_cases ho0 : bl o = []
  · rw [ren_top hro hrp (Or.inl ho0)]
    have hno2 : o.toList.isEmpty = true := by rw [hno, ho0]; rfl
    replace hro := Lib.hid hro
    replace hrp := Lib.hid hrp
    replace hno := Lib.hid hno
    replace hnp := Lib.hid hnp
    replace ho0 := Lib.hid ho0
    go_enter Tryz.func58, Tryz.ntmps58
    go_wp2_with fail
    (with_reducible refine (h0.out _).mono ?_)
    rintro e w1 ⟨rfl, hB1⟩
    go_wp2_with fail
    (with_reducible refine (h1.out _).mono ?_)
    rintro e w2 ⟨rfl, hB2⟩
    have hst := RStp.same hR.out (below_step hB1 hB2)
    replace hst := Lib.hid hst
    clear hB1 hB2
    go_wp2
    go_ret
    exact ⟨rfl, hst.out⟩
  have hno2 : o.toList.isEmpty = false := by rw [hno]; simpa using ho0
  by_cases hp0 : bl p = []
  · rw [ren_top hro hrp (Or.inr hp0)]
    have hnp2 : p.toList.isEmpty = true := by rw [hnp, hp0]; rfl
    replace hro := Lib.hid hro
    replace hrp := Lib.hid hrp
    replace hno := Lib.hid hno
    replace hnp := Lib.hid hnp
    replace ho0 := Lib.hid ho0
    replace hp0 := Lib.hid hp0
    go_enter Tryz.func58, Tryz.ntmps58
    go_wp2_with fail
    (with_reducible refine (h0.out _).mono ?_)
    rintro e w1 ⟨rfl, hB1⟩
    go_wp2_with fail
    (with_reducible refine (h1.out _).mono ?_)
    rintro e w2 ⟨rfl, hB2⟩
    have hst := RStp.same hR.out (below_step hB1 hB2)
    replace hst := Lib.hid hst
    clear hB1 hB2
    go_wp2
    go_ret
    exact ⟨rfl, hst.out⟩
  have hnp2 : p.toList.isEmpty = false := by rw [hnp]; simpa using hp0
  replace hno := Lib.hid hno
  replace hnp := Lib.hid hnp
  rcases file_there hI.out (bl o) with ⟨hz, _⟩ | ⟨i, hz, hth, hm, _, _⟩
  · rw [ren_fault hro hrp ho0 hp0 hz]
    dsimp only
    have he2 : ((T.there (bl o)).2.2 == 0) = false := by simpa using hz
    have he3 : ((T.there (bl o)).2.2 != 0) = true := by simpa using hz
    replace h2 := h2.out
    generalize (T.there (bl o)).2.2 = e at *
    generalize (T.there (bl o)).1 = n at *
    have hpn : ∃ a, optPtr A n = .pointer a := by cases n <;> exact ⟨_, rfl⟩
    obtain ⟨a, hpn⟩ := hpn
    simp only [hpn] at h2
    replace h2 := Lib.hid h2
    replace hz := Lib.hid hz
    replace hpn := Lib.hid hpn
    replace hro := Lib.hid hro
    replace hrp := Lib.hid hrp
    replace ho0 := Lib.hid ho0
    replace hp0 := Lib.hid hp0
    go_enter Tryz.func58, Tryz.ntmps58
    go_wp2_with fail
    (with_reducible refine (h0.out _).mono ?_)
    rintro e w1 ⟨rfl, hB1⟩
    go_wp2_with fail
    (with_reducible refine (h1.out _).mono ?_)
    rintro e w2 ⟨rfl, hB2⟩
    have hB02 := below_step hB1 hB2
    have h2' := h2.out w2 (hR.out.below hB02)
    replace hB02 := Lib.hid hB02
    replace h2' := Lib.hid h2'
    clear hB1 hB2
    go_wp2_with fail
    (with_reducible refine (h2'.out).mono ?_)
    rintro e w3 ⟨rfl, hB3⟩
    have hB03 := below_step hB02.out hB3
    have hR3 := hR.out.below hB03
    clear hB3 h2'
    have hst := RStp.same hR.out hB03
    replace hst := Lib.hid hst
    replace hR3 := Lib.hid hR3
    replace hB03 := Lib.hid hB03
    go_wp2
    go_ret
    exact ⟨rfl, hst.out⟩
  rw [ren_go hro hrp ho0 hp0 hz hth]
  replace h2 := h2.out
  simp only [hz, hth, optPtr_some] at h2
  have hlt := fun e : bl p = bl o => look_of_there hz hth
  have hlo := hI.out.look_ok (s := bl p)
  replace h2 := Lib.hid h2
  replace hz := Lib.hid hz
  replace hth := Lib.hid hth
  replace hro := Lib.hid hro
  replace hrp := Lib.hid hrp
  replace ho0 := Lib.hid ho0
  replace hp0 := Lib.hid hp0
  replace hm := Lib.hid hm
  replace hlt := Lib.hid hlt
  replace hlo := Lib.hid hlo
  by_cases hk : (T.nd i).kind = 2
  · by_cases hpo : bl p = bl o
    · have hs2 : p.toList = o.toList := hne.out.2 hpo
      obtain ⟨g1, g2⟩ := hlt.out hpo
      replace h3 := h3.out
      rw [hpo, g1, g2, optPtr_some] at h3
      have hl : T.ren3 (bl o) (bl p) i (T.look (bl p)).1 (T.look (bl p)).2.2 = (T, 11) := by
        unfold Fs.ren3
        rw [hpo, g1, g2, if_neg (by simp), if_neg (by simp), if_pos ⟨hk, by simp⟩]
      rw [hl]
      replace h3 := Lib.hid h3
      replace hpo := Lib.hid hpo
      replace g1 := Lib.hid g1
      replace g2 := Lib.hid g2
      replace hl := Lib.hid hl
      replace hk := Lib.hid hk
      go_enter Tryz.func58, Tryz.ntmps58
      go_wp2_with fail
      (with_reducible refine (h0.out _).mono ?_)
      rintro e w1 ⟨rfl, hB1⟩
      go_wp2_with fail
      (with_reducible refine (h1.out _).mono ?_)
      rintro e w2 ⟨rfl, hB2⟩
      have hB02 := below_step hB1 hB2
      have h2' := h2.out w2 (hR.out.below hB02)
      replace hB02 := Lib.hid hB02
      replace h2' := Lib.hid h2'
      clear hB1 hB2
      go_wp2_with fail
      (with_reducible refine (h2'.out).mono ?_)
      rintro e w3 ⟨rfl, hB3⟩
      have hB03 := below_step hB02.out hB3
      have hR3 := hR.out.below hB03
      clear hB3 h2'
      obtain ⟨_, _, c0, _⟩ := hR3.cells ⟨_, hm.out⟩
      rw [hk.out] at c0
      have h3' := h3.out w3 hR3
      replace h3' := Lib.hid h3'
      replace hB03 := Lib.hid hB03
      go_wp2_with fail
      (with_reducible refine (h3'.out).mono ?_)
      rintro e w4 ⟨rfl, hB4⟩
      have hB04 := below_step hB03.out hB4
      have c4 := (hB4.cell (cell_lt c0)).trans c0
      clear hB4 h3' c0
      have hst := RStp.same hR.out hB04
      replace hst := Lib.hid hst
      replace hR3 := Lib.hid hR3
      replace hB04 := Lib.hid hB04

      go_wp2
      go_ret
      exact ⟨rfl, hst.out⟩
    · have hs2 : ¬ p.toList = o.toList := fun e => hpo (hne.out.1 e)
      have hs3 : (p.toList == o.toList) = false := by simpa using hs2
      cases hu : under (bl p) (bl o) with
      | true =>
        replace h4 := h4.out
        rw [hu] at h4
        have hl : T.ren3 (bl o) (bl p) i (T.look (bl p)).1 (T.look (bl p)).2.2 = (T, 2) := by
          unfold Fs.ren3
          rw [if_pos ⟨hk, hpo, hu⟩]
        rw [hl]
        replace h4 := Lib.hid h4
        replace hpo := Lib.hid hpo
        replace hl := Lib.hid hl
        replace hk := Lib.hid hk
        replace hu := Lib.hid hu
        go_enter Tryz.func58, Tryz.ntmps58
        go_wp2_with fail
        (with_reducible refine (h0.out _).mono ?_)
        rintro e w1 ⟨rfl, hB1⟩
        go_wp2_with fail
        (with_reducible refine (h1.out _).mono ?_)
        rintro e w2 ⟨rfl, hB2⟩
        have hB02 := below_step hB1 hB2
        have h2' := h2.out w2 (hR.out.below hB02)
        replace hB02 := Lib.hid hB02
        replace h2' := Lib.hid h2'
        clear hB1 hB2
        go_wp2_with fail
        (with_reducible refine (h2'.out).mono ?_)
        rintro e w3 ⟨rfl, hB3⟩
        have hB03 := below_step hB02.out hB3
        have hR3 := hR.out.below hB03
        clear hB3 h2'
        obtain ⟨_, _, c0, _⟩ := hR3.cells ⟨_, hm.out⟩
        rw [hk.out] at c0
        replace hB03 := Lib.hid hB03
        replace hR3 := Lib.hid hR3
        go_wp2_with fail
        (with_reducible refine (h4.out _).mono ?_)
        rintro e w4 ⟨rfl, hB4⟩
        have hst := RStp.same hR.out (below_step hB03.out hB4)
        replace hst := Lib.hid hst
        clear hB4
        go_wp2
        go_ret
        exact ⟨rfl, hst.out⟩
      | false =>
        replace h4 := h4.out
        rw [hu] at h4
        have hg1 : ¬ ((T.nd i).kind = 2 ∧ bl p ≠ bl o ∧ under (bl p) (bl o) = true) := fun h => by rw [hu] at h; exact absurd h.2.2 (by simp)
        replace h3 := h3.out
        by_cases hle : (T.look (bl p)).2.2 = 0
        · obtain ⟨_, hwn, hd⟩ := hlo.out hle
          rcases hd with ⟨h, _⟩ | ⟨_, d, _, hd1, hd2⟩
          · exact absurd h hp0.out
          rw [hle] at h3
          cases hw : (T.look (bl p)).1 with
          | some j =>
            rw [hw, optPtr_some] at h3
            have hl : T.ren3 (bl o) (bl p) i (some j) (T.look (bl p)).2.2 = (T, 11) := by
              unfold Fs.ren3
              rw [if_neg hg1, hle, if_neg (by simp), if_pos ⟨hk, by simp⟩]
            rw [hl]
            replace h3 := Lib.hid h3
            replace h4 := Lib.hid h4
            replace hpo := Lib.hid hpo
            replace hl := Lib.hid hl
            replace hk := Lib.hid hk
            replace hu := Lib.hid hu
            replace hg1 := Lib.hid hg1
            replace hle := Lib.hid hle
            replace hwn := Lib.hid hwn
            replace hd1 := Lib.hid hd1
            replace hd2 := Lib.hid hd2
            replace hw := Lib.hid hw
            go_enter Tryz.func58, Tryz.ntmps58
            go_wp2_with fail
            (with_reducible refine (h0.out _).mono ?_)
            rintro e w1 ⟨rfl, hB1⟩
            go_wp2_with fail
            (with_reducible refine (h1.out _).mono ?_)
            rintro e w2 ⟨rfl, hB2⟩
            have hB02 := below_step hB1 hB2
            have h2' := h2.out w2 (hR.out.below hB02)
            replace hB02 := Lib.hid hB02
            replace h2' := Lib.hid h2'
            clear hB1 hB2
            go_wp2_with fail
            (with_reducible refine (h2'.out).mono ?_)
            rintro e w3 ⟨rfl, hB3⟩
            have hB03 := below_step hB02.out hB3
            have hR3 := hR.out.below hB03
            clear hB3 h2'
            obtain ⟨_, _, c0, _⟩ := hR3.cells ⟨_, hm.out⟩
            rw [hk.out] at c0
            replace hB03 := Lib.hid hB03
            replace hR3 := Lib.hid hR3
            go_wp2_with fail
            (with_reducible refine (h4.out _).mono ?_)
            rintro e w4 ⟨rfl, hB4⟩
            have hB04 := below_step hB03.out hB4
            have c4 := (hB4.cell (cell_lt c0)).trans c0
            have hR4 := hR.out.below hB04
            have h3' := h3.out w4 hR4
            clear c0 hB4
            replace h3' := Lib.hid h3'
            replace hB04 := Lib.hid hB04
            go_wp2_with fail
            (with_reducible refine (h3'.out).mono ?_)
            rintro e w5 ⟨rfl, hB5⟩
            have hB05 := below_step hB04.out hB5
            have c5 := (hB5.cell (cell_lt c4)).trans c4
            clear c4 hB5 h3'
            have hst := RStp.same hR.out hB05
            replace hst := Lib.hid hst
            replace hR4 := Lib.hid hR4
            replace hB04 := Lib.hid hB04
            replace hB05 := Lib.hid hB05
            go_wp2
            go_ret
            exact ⟨rfl, hst.out⟩
          | none =>
            rw [hw, optPtr_none] at h3
            have hfit := fits_mvd (p := bl p) hI.out ho0.out hrp.out
            cases hft : T.fits (bl o) (bl p) with
            | true =>
              have hM := moves_of (o := bl o) hI.out hrp.out ho0.out hp0.out hm.out hd1 hd2 (by rw [← hwn, hw]) hg1 (fun h => by rw [hft] at h; exact absurd h.2 (by simp))
              have hl : T.ren3 (bl o) (bl p) i none (T.look (bl p)).2.2 = (T.move (split (bl o)) (split (bl p)), 0) := by
                unfold Fs.ren3
                rw [if_neg hg1, hle, if_neg (by simp), if_neg (fun h => h.2 rfl), if_neg (fun h => by rw [hft] at h; exact absurd h.2 (by simp))]
              rw [hl]
              dsimp only
              replace h3 := Lib.hid h3
              replace h4 := Lib.hid h4
              replace hpo := Lib.hid hpo
              replace hl := Lib.hid hl
              replace hk := Lib.hid hk
              replace hu := Lib.hid hu
              replace hg1 := Lib.hid hg1
              replace hle := Lib.hid hle
              replace hwn := Lib.hid hwn
              replace hd1 := Lib.hid hd1
              replace hd2 := Lib.hid hd2
              replace hw := Lib.hid hw
              replace hM := Lib.hid hM
              replace hft := Lib.hid hft
              replace hfit := Lib.hid hfit
              go_enter Tryz.func58, Tryz.ntmps58
              go_wp2_with fail
              (with_reducible refine (h0.out _).mono ?_)
              rintro e w1 ⟨rfl, hB1⟩
              go_wp2_with fail
              (with_reducible refine (h1.out _).mono ?_)
              rintro e w2 ⟨rfl, hB2⟩
              have hB02 := below_step hB1 hB2
              have h2' := h2.out w2 (hR.out.below hB02)
              replace hB02 := Lib.hid hB02
              replace h2' := Lib.hid h2'
              clear hB1 hB2
              go_wp2_with fail
              (with_reducible refine (h2'.out).mono ?_)
              rintro e w3 ⟨rfl, hB3⟩
              have hB03 := below_step hB02.out hB3
              have hR3 := hR.out.below hB03
              clear hB3 h2'
              obtain ⟨_, _, c0, _⟩ := hR3.cells ⟨_, hm.out⟩
              rw [hk.out] at c0
              replace hB03 := Lib.hid hB03
              replace hR3 := Lib.hid hR3
              go_wp2_with fail
              (with_reducible refine (h4.out _).mono ?_)
              rintro e w4 ⟨rfl, hB4⟩
              have hB04 := below_step hB03.out hB4
              have c4 := (hB4.cell (cell_lt c0)).trans c0
              have hR4 := hR.out.below hB04
              have h3' := h3.out w4 hR4
              clear c0 hB4
              replace h3' := Lib.hid h3'
              replace hB04 := Lib.hid hB04
              go_wp2_with fail
              (with_reducible refine (h3'.out).mono ?_)
              rintro e w5 ⟨rfl, hB5⟩
              have hB05 := below_step hB04.out hB5
              have c5 := (hB5.cell (cell_lt c4)).trans c4
              clear c4 hB5 h3'
              have hR5 := hR.out.below hB05
              have h5' := h5.out w5 hR5
              replace hR4 := Lib.hid hR4
              replace hB04 := Lib.hid hB04
              replace hB05 := Lib.hid hB05
              replace hR5 := Lib.hid hR5
              replace h5' := Lib.hid h5'
              go_wp2_with fail
              (with_reducible refine (h5'.out).mono ?_)
              rintro e w6 ⟨hB6, hr⟩
              rcases hr with ⟨_, u, rfl, hrow⟩ | ⟨⟨x, hx, hxf⟩, rfl⟩
              · obtain ⟨g, c, _, _, _, hpos, t0, _⟩ := hR5.out.at_
                have t6 := (hB6.cell (cell_lt t0)).trans t0
                have f6 : w6.frozen? ⟨rb, 0, none⟩ = false := by
                  have h := (hB6.block rb (Array.getElem?_eq_some_iff.1 hR5.out.tree).1).trans hR5.out.tree
                  simp [World.frozen?, h]
                have hst := (rmove_dir hR5.out hM.out ho0.out hp0.out hB6 hrow hpos).after hB05.out
                obtain ⟨uA, uc, hue, _, _⟩ := own_shape hrow
                subst hue
                replace hst := Lib.hid hst
                replace hrow := Lib.hid hrow
                clear hB6 t0 h5'
                go_wp2
                go_ret
                exact ⟨rfl, hst.out⟩
              · have := hfit.out.1 hft.out x hx
                rw [hxf] at this
                cases this
            | false =>
              have hl : T.ren3 (bl o) (bl p) i none (T.look (bl p)).2.2 = (T, 7) := by
                unfold Fs.ren3
                rw [if_neg hg1, hle, if_neg (by simp), if_neg (fun h => h.2 rfl), if_pos ⟨hk, hft⟩]
              rw [hl]
              dsimp only
              replace h3 := Lib.hid h3
              replace h4 := Lib.hid h4
              replace hpo := Lib.hid hpo
              replace hl := Lib.hid hl
              replace hk := Lib.hid hk
              replace hu := Lib.hid hu
              replace hg1 := Lib.hid hg1
              replace hle := Lib.hid hle
              replace hwn := Lib.hid hwn
              replace hd1 := Lib.hid hd1
              replace hd2 := Lib.hid hd2
              replace hw := Lib.hid hw
              replace hft := Lib.hid hft
              replace hfit := Lib.hid hfit
              go_enter Tryz.func58, Tryz.ntmps58
              go_wp2_with fail
              (with_reducible refine (h0.out _).mono ?_)
              rintro e w1 ⟨rfl, hB1⟩
              go_wp2_with fail
              (with_reducible refine (h1.out _).mono ?_)
              rintro e w2 ⟨rfl, hB2⟩
              have hB02 := below_step hB1 hB2
              have h2' := h2.out w2 (hR.out.below hB02)
              replace hB02 := Lib.hid hB02
              replace h2' := Lib.hid h2'
              clear hB1 hB2
              go_wp2_with fail
              (with_reducible refine (h2'.out).mono ?_)
              rintro e w3 ⟨rfl, hB3⟩
              have hB03 := below_step hB02.out hB3
              have hR3 := hR.out.below hB03
              clear hB3 h2'
              obtain ⟨_, _, c0, _⟩ := hR3.cells ⟨_, hm.out⟩
              rw [hk.out] at c0
              replace hB03 := Lib.hid hB03
              replace hR3 := Lib.hid hR3
              go_wp2_with fail
              (with_reducible refine (h4.out _).mono ?_)
              rintro e w4 ⟨rfl, hB4⟩
              have hB04 := below_step hB03.out hB4
              have c4 := (hB4.cell (cell_lt c0)).trans c0
              have hR4 := hR.out.below hB04
              have h3' := h3.out w4 hR4
              clear c0 hB4
              replace h3' := Lib.hid h3'
              replace hB04 := Lib.hid hB04
              go_wp2_with fail
              (with_reducible refine (h3'.out).mono ?_)
              rintro e w5 ⟨rfl, hB5⟩
              have hB05 := below_step hB04.out hB5
              have c5 := (hB5.cell (cell_lt c4)).trans c4
              clear c4 hB5 h3'
              have hR5 := hR.out.below hB05
              have h5' := h5.out w5 hR5
              replace hR4 := Lib.hid hR4
              replace hB04 := Lib.hid hB04
              replace hB05 := Lib.hid hB05
              replace hR5 := Lib.hid hR5
              replace h5' := Lib.hid h5'
              go_wp2_with fail
              (with_reducible refine (h5'.out).mono ?_)
              rintro e w6 ⟨hB6, hr⟩
              rcases hr with ⟨hall, u, rfl, hrow⟩ | ⟨_, rfl⟩
              · have := hfit.out.2 hall
                rw [hft.out] at this
                cases this
              · have hst := RStp.same hR.out (below_step hB05.out hB6)
                replace hst := Lib.hid hst
                clear hB6 h5'
                go_wp2
                go_ret
                exact ⟨rfl, hst.out⟩
        · have hl : T.ren3 (bl o) (bl p) i (T.look (bl p)).1 (T.look (bl p)).2.2 = (T, (T.look (bl p)).2.2) := by
            unfold Fs.ren3
            rw [if_neg hg1, if_pos hle]
          rw [hl]
          dsimp only
          have he2 : ((T.look (bl p)).2.2 == 0) = false := by simpa using hle
          have he3 : ((T.look (bl p)).2.2 != 0) = true := by simpa using hle
          clear hlo hlt hg1
          generalize (T.look (bl p)).2.2 = e at *
          generalize (T.look (bl p)).1 = n at *
          have hpn : ∃ a, optPtr A n = .pointer a := by cases n <;> exact ⟨_, rfl⟩
          obtain ⟨a, hpn⟩ := hpn
          simp only [hpn] at h3
          replace h3 := Lib.hid h3
          replace h4 := Lib.hid h4
          replace hpo := Lib.hid hpo
          replace hl := Lib.hid hl
          replace hk := Lib.hid hk
          replace hu := Lib.hid hu
          replace hle := Lib.hid hle
          replace hpn := Lib.hid hpn
          go_enter Tryz.func58, Tryz.ntmps58
          go_wp2_with fail
          (with_reducible refine (h0.out _).mono ?_)
          rintro e w1 ⟨rfl, hB1⟩
          go_wp2_with fail
          (with_reducible refine (h1.out _).mono ?_)
          rintro e w2 ⟨rfl, hB2⟩
          have hB02 := below_step hB1 hB2
          have h2' := h2.out w2 (hR.out.below hB02)
          replace hB02 := Lib.hid hB02
          replace h2' := Lib.hid h2'
          clear hB1 hB2
          go_wp2_with fail
          (with_reducible refine (h2'.out).mono ?_)
          rintro e w3 ⟨rfl, hB3⟩
          have hB03 := below_step hB02.out hB3
          have hR3 := hR.out.below hB03
          clear hB3 h2'
          obtain ⟨_, _, c0, _⟩ := hR3.cells ⟨_, hm.out⟩
          rw [hk.out] at c0
          replace hB03 := Lib.hid hB03
          replace hR3 := Lib.hid hR3
          go_wp2_with fail
          (with_reducible refine (h4.out _).mono ?_)
          rintro e w4 ⟨rfl, hB4⟩
          have hB04 := below_step hB03.out hB4
          have c4 := (hB4.cell (cell_lt c0)).trans c0
          have hR4 := hR.out.below hB04
          have h3' := h3.out w4 hR4
          clear c0 hB4
          replace h3' := Lib.hid h3'
          replace hB04 := Lib.hid hB04
          go_wp2_with fail
          (with_reducible refine (h3'.out).mono ?_)
          rintro e w5 ⟨rfl, hB5⟩
          have hB05 := below_step hB04.out hB5
          have c5 := (hB5.cell (cell_lt c4)).trans c4
          clear c4 hB5 h3'
          have hst := RStp.same hR.out hB05
          replace hst := Lib.hid hst
          replace hR4 := Lib.hid hR4
          replace hB04 := Lib.hid hB04
          replace hB05 := Lib.hid hB05
          go_wp2
          go_ret
          exact ⟨rfl, hst.out⟩
  · have hk2 : ((T.nd i).kind == 2) = false := by simpa using hk
    replace h3 := h3.out
    by_cases hle : (T.look (bl p)).2.2 = 0
    · obtain ⟨_, hwn, hd⟩ := hlo.out hle
      rcases hd with ⟨h, _⟩ | ⟨_, d, _, hd1, hd2⟩
      · exact absurd h hp0.out
      rw [hle] at h3
      cases hw : (T.look (bl p)).1 with
      | none =>
        rw [hw, optPtr_none] at h3
        have hM := moves_of (o := bl o) hI.out hrp.out ho0.out hp0.out hm.out hd1 hd2 (by rw [← hwn, hw]) (fun h => hk h.1) (fun h => hk h.1)
        have hl : T.ren3 (bl o) (bl p) i none (T.look (bl p)).2.2 = (T.move (split (bl o)) (split (bl p)), 0) := by
          unfold Fs.ren3
          rw [if_neg (fun h => hk h.1), hle, if_neg (by simp), if_neg (fun h => hk h.1), if_neg (fun h => hk h.1)]
        rw [hl]
        dsimp only
        have h6 := fun W hW => rgone_none rb v A T p W hW (by rw [← hwn, hw])
        unfold ptr at h6
        replace h3 := Lib.hid h3
        replace h4 := Lib.hid h4
        replace hl := Lib.hid hl
        replace hk := Lib.hid hk
        replace hle := Lib.hid hle
        replace hwn := Lib.hid hwn
        replace hd1 := Lib.hid hd1
        replace hd2 := Lib.hid hd2
        replace hw := Lib.hid hw
        replace hM := Lib.hid hM
        replace h6 := Lib.hid h6
        go_enter Tryz.func58, Tryz.ntmps58
        go_wp2_with fail
        (with_reducible refine (h0.out _).mono ?_)
        rintro e w1 ⟨rfl, hB1⟩
        go_wp2_with fail
        (with_reducible refine (h1.out _).mono ?_)
        rintro e w2 ⟨rfl, hB2⟩
        have hB02 := below_step hB1 hB2
        have h2' := h2.out w2 (hR.out.below hB02)
        replace hB02 := Lib.hid hB02
        replace h2' := Lib.hid h2'
        clear hB1 hB2
        go_wp2_with fail
        (with_reducible refine (h2'.out).mono ?_)
        rintro e w3 ⟨rfl, hB3⟩
        have hB03 := below_step hB02.out hB3
        have hR3 := hR.out.below hB03
        clear hB3 h2'
        obtain ⟨_, _, c0, _⟩ := hR3.cells ⟨_, hm.out⟩
        replace hR3 := Lib.hid hR3
        have h3' := h3.out w3 hR3.out
        replace h3' := Lib.hid h3'
        replace hB03 := Lib.hid hB03
        go_wp2_with fail
        (with_reducible refine (h3'.out).mono ?_)
        rintro e w4 ⟨rfl, hB4⟩
        have hB04 := below_step hB03.out hB4
        have c4 := (hB4.cell (cell_lt c0)).trans c0
        clear hB4 h3' c0
        have hR4 := hR.out.below hB04
        replace hB04 := Lib.hid hB04
        replace hR4 := Lib.hid hR4
        go_wp2_with fail
        go_quiet (fail)
        go_wp2_with fail
        (with_reducible refine (h6.out _ (hR4.out.drewN _)).mono ?_)
        rintro e w5 ⟨rfl, hw5⟩
        have hR5 : RRep w5 rb v A T := by rw [← hw5]; exact hR4.out.drewN _
        have hB05 : Below w.heap.size w w5 := by rw [← hw5]; exact below_drewN hB04.out _
        replace hR5 := Lib.hid hR5
        replace hB05 := Lib.hid hB05
        clear hw5 c4
        obtain ⟨k, hat1, hat2⟩ := at_here hR5.out.inv (hM.out).hold
        obtain ⟨g, c, hv, hc1, hc2, hpos, t0, hcs⟩ := hR5.out.at_
        subst hv
        unfold maxLen at hc2
        have ck := (hcs _ _ hat2).1
        have fz := hR5.out.row.frozenAt (k * 2)
        have hkl : k < (T).names.length := (List.getElem?_eq_some_iff.1 hat2).1
        have hki : (k : Int) < ((T).names.length : Int) := by omega
        have hcall := rat_calls rb _ A T o (w5).drew (hR5.out.below (below_drewN (Below.refl _ _) 1))
        rw [hat1] at hcall
        have hst := rmove_file (W := (w5).drew) (p := bl p) (hR5.out.below (below_drewN (Below.refl _ _) 1)) hM.out hat2 (hk.out)
        rw [mkS_bl] at hst
        unfold ptr at hcall
        replace hcall := Lib.hid hcall
        replace hst := Lib.hid hst
        replace hat1 := Lib.hid hat1
        replace hat2 := Lib.hid hat2
        replace hcs := Lib.hid hcs
        go_wp2_with fail
        refine wp_region_still_tail 8 (by kernel_rfl) (by kernel_rfl) ?_
        simp only [List.take_succ_cons, List.take_zero, List.drop_succ_cons, List.drop_zero]
        iterate 6 still_step
        still_call (hcall.out.mono fun e w' hh => ⟨hh.1, hh.2.symm⟩)
        still_step
        refine wpStill_nil ?_
        change wpList _ _ _ _ _ (w5).drew
        go_wp2
        go_ret
        exact ⟨rfl, hst.out.after (below_drewN hB05.out 1)⟩
      | some j =>
        rw [hw, optPtr_some] at h3
        have hj : (split (bl p), j) ∈ T.names := hI.out.at_some.1 (by rw [← hwn, hw])
        by_cases hjk : (T.nd j).kind = 2
        · have hl : T.ren3 (bl o) (bl p) i (some j) (T.look (bl p)).2.2 = (T, 13) := by
            unfold Fs.ren3
            rw [if_neg (fun h => hk h.1), hle, if_neg (by simp), if_neg (fun h => hk h.1), if_neg (fun h => hk h.1)]
            exact if_pos hjk
          rw [hl]
          dsimp only
          replace h3 := Lib.hid h3
          replace h4 := Lib.hid h4
          replace hl := Lib.hid hl
          replace hk := Lib.hid hk
          replace hle := Lib.hid hle
          replace hwn := Lib.hid hwn
          replace hd1 := Lib.hid hd1
          replace hd2 := Lib.hid hd2
          replace hw := Lib.hid hw
          replace hj := Lib.hid hj
          go_enter Tryz.func58, Tryz.ntmps58
          go_wp2_with fail
          (with_reducible refine (h0.out _).mono ?_)
          rintro e w1 ⟨rfl, hB1⟩
          go_wp2_with fail
          (with_reducible refine (h1.out _).mono ?_)
          rintro e w2 ⟨rfl, hB2⟩
          have hB02 := below_step hB1 hB2
          have h2' := h2.out w2 (hR.out.below hB02)
          replace hB02 := Lib.hid hB02
          replace h2' := Lib.hid h2'
          clear hB1 hB2
          go_wp2_with fail
          (with_reducible refine (h2'.out).mono ?_)
          rintro e w3 ⟨rfl, hB3⟩
          have hB03 := below_step hB02.out hB3
          have hR3 := hR.out.below hB03
          clear hB3 h2'
          obtain ⟨_, _, c0, _⟩ := hR3.cells ⟨_, hm.out⟩
          replace hR3 := Lib.hid hR3
          have h3' := h3.out w3 hR3.out
          replace h3' := Lib.hid h3'
          replace hB03 := Lib.hid hB03
          go_wp2_with fail
          (with_reducible refine (h3'.out).mono ?_)
          rintro e w4 ⟨rfl, hB4⟩
          have hB04 := below_step hB03.out hB4
          have c4 := (hB4.cell (cell_lt c0)).trans c0
          clear hB4 h3' c0
          have hR4 := hR.out.below hB04
          obtain ⟨_, _, d0, _⟩ := hR4.cells ⟨_, hj.out⟩
          rw [hjk] at d0
          have hst := RStp.same hR.out hB04
          replace hst := Lib.hid hst
          replace hB04 := Lib.hid hB04
          replace hR4 := Lib.hid hR4
          replace hjk := Lib.hid hjk
          go_wp2
          go_ret
          exact ⟨rfl, hst.out⟩
        · have hjk2 : ((T.nd j).kind == 2) = false := by simpa using hjk
          by_cases hij : j = i
          · have hl : T.ren3 (bl o) (bl p) i (some j) (T.look (bl p)).2.2 = (T, 0) := by
              unfold Fs.ren3
              rw [if_neg (fun h => hk h.1), hle, if_neg (by simp), if_neg (fun h => hk h.1), if_neg (fun h => hk h.1)]
              exact (if_neg hjk).trans (if_pos hij)
            rw [hl]
            dsimp only
            subst hij
            replace h3 := Lib.hid h3
            replace h4 := Lib.hid h4
            replace hl := Lib.hid hl
            replace hk := Lib.hid hk
            replace hle := Lib.hid hle
            replace hwn := Lib.hid hwn
            replace hd1 := Lib.hid hd1
            replace hd2 := Lib.hid hd2
            replace hw := Lib.hid hw
            replace hj := Lib.hid hj
            replace hjk := Lib.hid hjk
            go_enter Tryz.func58, Tryz.ntmps58
            go_wp2_with fail
            (with_reducible refine (h0.out _).mono ?_)
            rintro e w1 ⟨rfl, hB1⟩
            go_wp2_with fail
            (with_reducible refine (h1.out _).mono ?_)
            rintro e w2 ⟨rfl, hB2⟩
            have hB02 := below_step hB1 hB2
            have h2' := h2.out w2 (hR.out.below hB02)
            replace hB02 := Lib.hid hB02
            replace h2' := Lib.hid h2'
            clear hB1 hB2
            go_wp2_with fail
            (with_reducible refine (h2'.out).mono ?_)
            rintro e w3 ⟨rfl, hB3⟩
            have hB03 := below_step hB02.out hB3
            have hR3 := hR.out.below hB03
            clear hB3 h2'
            obtain ⟨_, _, c0, _⟩ := hR3.cells ⟨_, hm.out⟩
            replace hR3 := Lib.hid hR3
            have h3' := h3.out w3 hR3.out
            replace h3' := Lib.hid h3'
            replace hB03 := Lib.hid hB03
            go_wp2_with fail
            (with_reducible refine (h3'.out).mono ?_)
            rintro e w4 ⟨rfl, hB4⟩
            have hB04 := below_step hB03.out hB4
            have c4 := (hB4.cell (cell_lt c0)).trans c0
            clear hB4 h3' c0
            have hR4 := hR.out.below hB04
            obtain ⟨_, _, _, d1, _⟩ := hR4.cells ⟨_, hm.out⟩
            have hst := RStp.same hR.out hB04
            replace hst := Lib.hid hst
            replace hB04 := Lib.hid hB04
            replace hR4 := Lib.hid hR4
            go_wp2_with fail
            go_quiet (fail)
            go_wp2
            go_ret
            exact ⟨rfl, hst.out.then (below_drewN (Below.refl _ _) _)⟩
          · have hl : T.ren3 (bl o) (bl p) i (some j) (T.look (bl p)).2.2 = ((T.gone (split (bl p)) j).move (split (bl o)) (split (bl p)), 0) := by
              unfold Fs.ren3
              rw [if_neg (fun h => hk h.1), hle, if_neg (by simp), if_neg (fun h => hk h.1), if_neg (fun h => hk h.1)]
              exact (if_neg hjk).trans (if_neg hij)
            rw [hl]
            dsimp only
            have hM := (moves_over hI.out hrp.out ho0.out hp0.out hm.out hd1 hd2 hj hjk hij hk).2
            have h6 := fun W hW => rgone_calls rb v A T p j W hW hp0.out hj (kids_file hI.out hj hjk) hf
            have t2 : (j == i) = false := by simpa using hij
            have t3 : ((j : Int) == (i : Int)) = false := by
              rw [beq_eq_false_iff_ne]
              omega
            have hkg : ((T.gone (split (bl p)) j).nd i).kind ≠ 2 := by rw [gone_kind]; exact hk
            unfold ptr at h6
            replace h3 := Lib.hid h3
            replace h4 := Lib.hid h4
            replace hl := Lib.hid hl
            replace hk := Lib.hid hk
            replace hle := Lib.hid hle
            replace hwn := Lib.hid hwn
            replace hd1 := Lib.hid hd1
            replace hd2 := Lib.hid hd2
            replace hw := Lib.hid hw
            replace hj := Lib.hid hj
            replace hjk := Lib.hid hjk
            replace hij := Lib.hid hij
            replace hM := Lib.hid hM
            replace h6 := Lib.hid h6
            replace hkg := Lib.hid hkg
            go_enter Tryz.func58, Tryz.ntmps58
            go_wp2_with fail
            (with_reducible refine (h0.out _).mono ?_)
            rintro e w1 ⟨rfl, hB1⟩
            go_wp2_with fail
            (with_reducible refine (h1.out _).mono ?_)
            rintro e w2 ⟨rfl, hB2⟩
            have hB02 := below_step hB1 hB2
            have h2' := h2.out w2 (hR.out.below hB02)
            replace hB02 := Lib.hid hB02
            replace h2' := Lib.hid h2'
            clear hB1 hB2
            go_wp2_with fail
            (with_reducible refine (h2'.out).mono ?_)
            rintro e w3 ⟨rfl, hB3⟩
            have hB03 := below_step hB02.out hB3
            have hR3 := hR.out.below hB03
            clear hB3 h2'
            obtain ⟨_, _, c0, _⟩ := hR3.cells ⟨_, hm.out⟩
            replace hR3 := Lib.hid hR3
            have h3' := h3.out w3 hR3.out
            replace h3' := Lib.hid h3'
            replace hB03 := Lib.hid hB03
            go_wp2_with fail
            (with_reducible refine (h3'.out).mono ?_)
            rintro e w4 ⟨rfl, hB4⟩
            have hB04 := below_step hB03.out hB4
            have c4 := (hB4.cell (cell_lt c0)).trans c0
            clear hB4 h3' c0
            have hR4 := hR.out.below hB04
            obtain ⟨_, _, d1, d2, _⟩ := hR4.cells ⟨_, hj.out⟩
            obtain ⟨_, _, _, d3, _⟩ := hR4.cells ⟨_, hm.out⟩
            replace hB04 := Lib.hid hB04
            replace hR4 := Lib.hid hR4
            go_wp2_with fail
            go_quiet (fail)
            go_wp2_with fail
            (with_reducible refine (h6.out _ (hR4.out.drewN _)).mono ?_)
            rintro e w6 ⟨rfl, hs6⟩
            obtain ⟨v1, A1, hR6, ht6, ho6⟩ := hs6.after (below_drewN hB04.out _)
            replace hR6 := Lib.hid hR6
            replace ht6 := Lib.hid ht6
            replace ho6 := Lib.hid ho6
            replace hs6 := Lib.hid hs6
            clear c4 d1 d2 d3
            obtain ⟨k, hat1, hat2⟩ := at_here hR6.out.inv (hM.out).hold
            obtain ⟨g, c, hv, hc1, hc2, hpos, t0, hcs⟩ := hR6.out.at_
            subst hv
            unfold maxLen at hc2
            have ck := (hcs _ _ hat2).1
            have fz := hR6.out.row.frozenAt (k * 2)
            have hkl : k < ((T.gone (split (bl p)) j)).names.length := (List.getElem?_eq_some_iff.1 hat2).1
            have hki : (k : Int) < (((T.gone (split (bl p)) j)).names.length : Int) := by omega
            have hcall := rat_calls rb _ A1 (T.gone (split (bl p)) j) o (w6).drew (hR6.out.below (below_drewN (Below.refl _ _) 1))
            rw [hat1] at hcall
            have hst := rmove_file (W := (w6).drew) (p := bl p) (hR6.out.below (below_drewN (Below.refl _ _) 1)) hM.out hat2 (hkg.out)
            rw [mkS_bl] at hst
            unfold ptr at hcall
            replace hcall := Lib.hid hcall
            replace hst := Lib.hid hst
            replace hat1 := Lib.hid hat1
            replace hat2 := Lib.hid hat2
            replace hcs := Lib.hid hcs
            go_wp2_with fail
            refine wp_region_still_tail 8 (by kernel_rfl) (by kernel_rfl) ?_
            simp only [List.take_succ_cons, List.take_zero, List.drop_succ_cons, List.drop_zero]
            iterate 6 still_step
            still_call (hcall.out.mono fun e w' hh => ⟨hh.1, hh.2.symm⟩)
            still_step
            refine wpStill_nil ?_
            change wpList _ _ _ _ _ (w6).drew
            go_wp2
            go_ret
            exact ⟨rfl, RStp.trans ht6.out ho6.out (hst.out.after (below_drewN (Below.refl _ _) 1))⟩
    · have hl : T.ren3 (bl o) (bl p) i (T.look (bl p)).1 (T.look (bl p)).2.2 = (T, (T.look (bl p)).2.2) := by
        unfold Fs.ren3
        rw [if_neg (fun h => hk h.1), if_pos hle]
      rw [hl]
      dsimp only
      have he2 : ((T.look (bl p)).2.2 == 0) = false := by simpa using hle
      have he3 : ((T.look (bl p)).2.2 != 0) = true := by simpa using hle
      clear hlo hlt
      generalize (T.look (bl p)).2.2 = e at *
      generalize (T.look (bl p)).1 = n at *
      have hpn : ∃ a, optPtr A n = .pointer a := by cases n <;> exact ⟨_, rfl⟩
      obtain ⟨a, hpn⟩ := hpn
      simp only [hpn] at h3
      replace h3 := Lib.hid h3
      replace h4 := Lib.hid h4
      replace hl := Lib.hid hl
      replace hk := Lib.hid hk
      replace hle := Lib.hid hle
      replace hpn := Lib.hid hpn
      go_enter Tryz.func58, Tryz.ntmps58
      go_wp2_with fail
      (with_reducible refine (h0.out _).mono ?_)
      rintro e w1 ⟨rfl, hB1⟩
      go_wp2_with fail
      (with_reducible refine (h1.out _).mono ?_)
      rintro e w2 ⟨rfl, hB2⟩
      have hB02 := below_step hB1 hB2
      have h2' := h2.out w2 (hR.out.below hB02)
      replace hB02 := Lib.hid hB02
      replace h2' := Lib.hid h2'
      clear hB1 hB2
      go_wp2_with fail
      (with_reducible refine (h2'.out).mono ?_)
      rintro e w3 ⟨rfl, hB3⟩
      have hB03 := below_step hB02.out hB3
      have hR3 := hR.out.below hB03
      clear hB3 h2'
      obtain ⟨_, _, c0, _⟩ := hR3.cells ⟨_, hm.out⟩
      replace hR3 := Lib.hid hR3
      have h3' := h3.out w3 hR3.out
      replace h3' := Lib.hid h3'
      replace hB03 := Lib.hid hB03
      go_wp2_with fail
      (with_reducible refine (h3'.out).mono ?_)
      rintro e w4 ⟨rfl, hB4⟩
      have hB04 := below_step hB03.out hB4
      have c4 := (hB4.cell (cell_lt c0)).trans c0
      clear hB4 h3' c0
      have hst := RStp.same hR.out hB04
      replace hst := Lib.hid hst
      replace hB04 := Lib.hid hB04
      go_wp2
      go_ret
      exact ⟨rfl, hst.out⟩

end

end Go.Proofs.YtemdinjiplglgaaGreat

namespace Go.Proofs.YtemdinjiplglgaaGreat
open Go.RowKit

set_option maxHeartbeats 2000000 in
set_option maxRecDepth 100000 in
theorem rdo_calls (rb : Nat) (rv : Value) (A : Nat → Nat) (T : Fs) (a : Act17) (v : Value) (w : World) (hR : RRep w rb rv A T) (hp : a.path.length ≤ 1000000) (ht : a.arg.length ≤ 1000000) (hv : RdB w v a.data) (hd : a.data.length ≤ 1000000) (hnx : T.next < 4611686018427387904) (hf : T.names.length ≤ 1000000) :
    Calls Tryz.prog 17 #[ptr rb, actV a v] w fun e w' => e = .returned (.int .i64 (T.act a).2) ∧ RStp w w' rb rv A T (T.act a).1 := by
  obtain ⟨d, p, t, b, m⟩ := a
  obtain ⟨m1, m2, m3, m4, m5⟩ := m
  dsimp only at hp ht hv hd
  have hps := mkS_size p
  have hts := mkS_size t
  obtain ⟨dA, dc, rfl, hl1, hl2⟩ : ∃ A c, v = .slice A b.length c ∧ b.length ≤ c ∧ c ≤ maxLen := by
    obtain ⟨A', c, h1, h2, h3, _⟩ := hv
    exact ⟨A', c, h1, h2, h3⟩
  have hB0 : Below w.heap.size w (w.alloc (.cells #[.int .i64 d, .string (mkS p), .string (mkS t), .slice dA b.length dc, .int .i64 m1, .int .i64 m2, .int .i64 m3, .int .i64 m4, .int .i64 m5] 42)) := (Below.refl _ _).alloc (Nat.le_refl _) _
  have hR0 := hR.below hB0
  have hv0 := hv.below hB0
  have q0 := rmkdir_calls rb rv A T (mkS p) ⟨m1, m2, m3, m4, m5⟩ _ hR0 (by omega) hnx hf
  have q1 := rwrite_calls rb rv A T (mkS p) _ b ⟨m1, m2, m3, m4, m5⟩ _ hR0 (by omega) hv0 (by omega) hnx hf
  have q2 := rsymlink_calls rb rv A T (mkS p) (mkS t) ⟨m1, m2, m3, m4, m5⟩ _ hR0 (by omega) hnx hf
  have q3 := rlink_calls rb rv A T (mkS p) (mkS t) _ hR0 (by omega) (by omega) hf
  have q4 := rremove_calls rb rv A T (mkS p) _ hR0 (by omega) hf
  have q5 := rrename_calls rb rv A T (mkS p) (mkS t) _ hR0 (by omega) (by omega) hf
  have q6 := rset_calls rb rv A T (mkS p) ⟨m1, m2, m3, m4, m5⟩ _ hR0 (by omega)
  have q7 := rappend_calls rb rv A T (mkS p) _ b _ hR0 (by omega) hv0 (by omega)
  simp only [bl_mkS] at q0 q1 q2 q3 q4 q5 q6 q7
  unfold mtV mtCells ptr at *
  unfold actV actCells Fs.act
  dsimp only at *
  replace q0 := Lib.hid q0
  replace q1 := Lib.hid q1
  replace q2 := Lib.hid q2
  replace q3 := Lib.hid q3
  replace q4 := Lib.hid q4
  replace q5 := Lib.hid q5
  replace q6 := Lib.hid q6
  replace q7 := Lib.hid q7
  replace hR0 := Lib.hid hR0
  replace hR := Lib.hid hR
  replace hv0 := Lib.hid hv0
  replace hv := Lib.hid hv
  replace hB0 := Lib.hid hB0
  by_cases e0 : d = 0
  · subst e0
    rw [if_pos rfl]
    go_enter Tryz.func17, Tryz.ntmps17
    go_wp2_with fail
    refine q0.out.mono ?_
    rintro e w1 ⟨rfl, hst⟩
    replace hst := Lib.hid hst
    go_wp2
    go_ret
    exact ⟨rfl, hst.out.after hB0.out⟩
  by_cases e1 : d = 1
  · subst e1
    rw [if_neg (by decide)]; rw [if_pos rfl]
    go_enter Tryz.func17, Tryz.ntmps17
    go_wp2_with fail
    refine q1.out.mono ?_
    rintro e w1 ⟨rfl, hst⟩
    replace hst := Lib.hid hst
    go_wp2
    go_ret
    exact ⟨rfl, hst.out.after hB0.out⟩
  by_cases e2 : d = 2
  · subst e2
    rw [if_neg (by decide)]; rw [if_neg (by decide)]; rw [if_pos rfl]
    go_enter Tryz.func17, Tryz.ntmps17
    go_wp2_with fail
    refine q2.out.mono ?_
    rintro e w1 ⟨rfl, hst⟩
    replace hst := Lib.hid hst
    go_wp2
    go_ret
    exact ⟨rfl, hst.out.after hB0.out⟩
  by_cases e3 : d = 3
  · subst e3
    rw [if_neg (by decide)]; rw [if_neg (by decide)]; rw [if_neg (by decide)]; rw [if_pos rfl]
    go_enter Tryz.func17, Tryz.ntmps17
    go_wp2_with fail
    refine q3.out.mono ?_
    rintro e w1 ⟨rfl, hst⟩
    replace hst := Lib.hid hst
    go_wp2
    go_ret
    exact ⟨rfl, hst.out.after hB0.out⟩
  by_cases e4 : d = 4
  · subst e4
    rw [if_neg (by decide)]; rw [if_neg (by decide)]; rw [if_neg (by decide)]; rw [if_neg (by decide)]; rw [if_pos rfl]
    go_enter Tryz.func17, Tryz.ntmps17
    go_wp2_with fail
    refine q4.out.mono ?_
    rintro e w1 ⟨rfl, hst⟩
    replace hst := Lib.hid hst
    go_wp2
    go_ret
    exact ⟨rfl, hst.out.after hB0.out⟩
  by_cases e5 : d = 5
  · subst e5
    rw [if_neg (by decide)]; rw [if_neg (by decide)]; rw [if_neg (by decide)]; rw [if_neg (by decide)]; rw [if_neg (by decide)]; rw [if_pos rfl]
    go_enter Tryz.func17, Tryz.ntmps17
    go_wp2_with fail
    refine q5.out.mono ?_
    rintro e w1 ⟨rfl, hst⟩
    replace hst := Lib.hid hst
    go_wp2
    go_ret
    exact ⟨rfl, hst.out.after hB0.out⟩
  by_cases e6 : d = 6
  · subst e6
    rw [if_neg (by decide)]; rw [if_neg (by decide)]; rw [if_neg (by decide)]; rw [if_neg (by decide)]; rw [if_neg (by decide)]; rw [if_neg (by decide)]; rw [if_pos rfl]
    go_enter Tryz.func17, Tryz.ntmps17
    go_wp2_with fail
    refine q6.out.mono ?_
    rintro e w1 ⟨rfl, hst⟩
    replace hst := Lib.hid hst
    go_wp2
    go_ret
    exact ⟨rfl, hst.out.after hB0.out⟩
  by_cases e7 : d = 7
  · subst e7
    rw [if_neg (by decide)]; rw [if_neg (by decide)]; rw [if_neg (by decide)]; rw [if_neg (by decide)]; rw [if_neg (by decide)]; rw [if_neg (by decide)]; rw [if_neg (by decide)]; rw [if_pos rfl]
    go_enter Tryz.func17, Tryz.ntmps17
    go_wp2_with fail
    refine q7.out.mono ?_
    rintro e w1 ⟨rfl, hst⟩
    replace hst := Lib.hid hst
    go_wp2
    go_ret
    exact ⟨rfl, hst.out.after hB0.out⟩
  have f0 : (d == 0) = false := by simpa using e0
  have f1 : (d == 1) = false := by simpa using e1
  have f2 : (d == 2) = false := by simpa using e2
  have f3 : (d == 3) = false := by simpa using e3
  have f4 : (d == 4) = false := by simpa using e4
  have f5 : (d == 5) = false := by simpa using e5
  have f6 : (d == 6) = false := by simpa using e6
  have f7 : (d == 7) = false := by simpa using e7
  rw [if_neg e0, if_neg e1, if_neg e2, if_neg e3, if_neg e4, if_neg e5, if_neg e6, if_neg e7]
  clear e0 e1 e2 e3 e4 e5 e6 e7 q0 q1 q2 q3 q4 q5 q6 q7
  go_enter Tryz.func17, Tryz.ntmps17
  go_wp2
  go_ret
  exact ⟨rfl, RStp.same hR.out hB0.out⟩

end Go.Proofs.YtemdinjiplglgaaGreat
