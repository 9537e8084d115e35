/-
  tree.alike.
  tree.Same.
  remoralaw17.Do and Build: acts, on a tree.
  remoraref17.Small and remoralaw17.Build.
  remoralaw17.awake: the chapter's example.
  Acts as an argument.
  Calls that tell an error; two trees apart; an act as a list.
  What is told of a name: the plain law's Stat, Read, Names and Paths in terms of the names.
  A region that draws its order, and whose calls make memory alone: one walk in the order of the text.
  Small words more: quiet calls whose contract says 'w = w'', strings that are the same or not.
  append of a slice of any length, none too, to a row of the call's own.
  Rows of snapshots (a name and a number each) that are known whole; their order: by number, by name where equal.
  The parts of the stable sort that move elements: slices.swapRangeCmpFunc, slices.rotateCmpFunc, over a row of strings that is known whole.
  The insertion sort of paths: slices.insertionSortCmpFunc with path.Sort's comparison.
  slices.symMergeCmpFunc where the first half has one element.
  slices.symMergeCmpFunc where the second half has one element.
  slices.symMergeCmpFunc: two halves in order become one, by halving.
-/
import Derived.Test.YtocbjhhnginebaaGreatB3
import Derived.Laws.IdiomRangeMap
import Derived.Lib.SlBytesConst
import Derived.Deep.Slices
import Derived.Deep.Fields
import Derived.ChangeSame
import Derived.ChangeSlices
import Derived.Carry
import Derived.Test.YtocbjhhnginebaaGreatB1
import Derived.Deep.Quiet
import Derived.BigQuiet
import Derived.IntWalk
import Derived.StillTailTactics
import Derived.RegionCalls
set_option linter.unusedVariables false
set_option linter.unusedSimpArgs false

namespace Go.Proofs.YtocbjhhnginebaaGreat
open Go.RowKit

section
variable {w : World} {tb ub : Nat} {A M B N : Nat → Nat} {T U : Fs} {pb kb i j : Nat} {Pr : List (Nat × Nat)}

theorem ptr_inj {a b : Nat} (h : ptr a = ptr b) : a = b := by
  simp only [ptr] at h
  injection h with h
  injection h with h
  injection h

theorem prL_key (hR : Rep w tb A M T) (hi : T.Live i) (hD : ∀ x ∈ Pr, T.Live x.1) : Keyable Tryz.prog 85 w (ptr (A i)) ((prL A B Pr).map (·.1)) := by
  refine keyable_ptr Tryz.underlying85 info_node node_size (hR.ptrAt hi) ?_
  intro v hv
  unfold prL at hv
  rw [List.map_map] at hv
  obtain ⟨x, hx, rfl⟩ := List.mem_map.1 hv
  exact hR.ptrAt (hD x hx)
theorem prR_key (hR : Rep w ub B N U) (hj : U.Live j) (hD : ∀ x ∈ Pr, U.Live x.2) : Keyable Tryz.prog 85 w (ptr (B j)) ((prR A B Pr).map (·.1)) := by
  refine keyable_ptr Tryz.underlying85 info_node node_size (hR.ptrAt hj) ?_
  intro v hv
  unfold prR at hv
  rw [List.map_map] at hv
  obtain ⟨x, hx, rfl⟩ := List.mem_map.1 hv
  exact hR.ptrAt (hD x hx)
theorem prL_none (hR : Rep w tb A M T) (hi : T.Live i) (hD : ∀ x ∈ Pr, T.Live x.1) (hn : ∀ k, (i, k) ∉ Pr) : ∀ q ∈ prL A B Pr, q.1 ≠ ptr (A i) := by
  intro q hq e
  obtain ⟨x, hx, rfl⟩ := List.mem_map.1 hq
  have := hR.injA x.1 i (hD x hx) hi (ptr_inj e)
  exact hn x.2 (by rw [← this]; exact hx)
theorem prR_none (hR : Rep w ub B N U) (hj : U.Live j) (hD : ∀ x ∈ Pr, U.Live x.2) (hn : ∀ k, (k, j) ∉ Pr) : ∀ q ∈ prR A B Pr, q.1 ≠ ptr (B j) := by
  intro q hq e
  obtain ⟨x, hx, rfl⟩ := List.mem_map.1 hq
  have := hR.injA x.2 j (hD x hx) hj (ptr_inj e)
  exact hn x.1 (by rw [← this]; exact hx)

theorem prL_snoc (A B : Nat → Nat) (Pr : List (Nat × Nat)) (i j : Nat) : prL A B (Pr ++ [(i, j)]) = prL A B Pr ++ [(ptr (A i), ptr (B j))] := by simp [prL]
theorem prR_snoc (A B : Nat → Nat) (Pr : List (Nat × Nat)) (i j : Nat) : prR A B (Pr ++ [(i, j)]) = prR A B Pr ++ [(ptr (B j), ptr (A i))] := by simp [prR]

/-- A tree stays where two maps of the call's own turn. -/
theorem Rep.two_maps {w' : World} {l1 l2 : List (Value × Value)} (hR : Rep w tb A M T) (h1 : MapIs w pb l1) (h2 : MapIs w kb l2) (n1 : ¬ Own tb A M T pb) (n2 : ¬ Own tb A M T kb) (ht : Turn w w' (fun b => b = pb ∨ b = kb)) : Rep w' tb A M T := by
  refine hR.kept (fun b hb => ht.block b (hR.lt hb) ?_) (fun g ⟨cs, hg⟩ => ht.block g (Array.getElem?_eq_some_iff.1 hg).1 ?_)
  · rintro (rfl | rfl)
    · exact n1 hb
    · exact n2 hb
  · rintro (e | e)
    · exact map_ne_cells h1 hg e
    · exact map_ne_cells h2 hg e

/-- Both maps get the new pair. -/
theorem pair_store (hpk : pb ≠ kb) (hR : Rep w tb A M T) (hS : Rep w ub B N U) (hi : T.Live i) (hj : U.Live j) (hD : ∀ x ∈ Pr, T.Live x.1) (hE : ∀ x ∈ Pr, U.Live x.2) (hn1 : ∀ k, (i, k) ∉ Pr) (hn2 : ∀ k, (k, j) ∉ Pr) (m1 : MapIs w pb (prL A B Pr)) (m2 : MapIs w kb (prR A B Pr))
    (n1 : ¬ Own ub B N U pb) (n2 : ¬ Own ub B N U kb) :
    ∃ w1, (Instr.mapUpdate 95 (.map (some pb)) (ptr (A i)) (ptr (B j))).run Tryz.prog w = .ok () w1 ∧ ∃ w2, (Instr.mapUpdate 95 (.map (some kb)) (ptr (B j)) (ptr (A i))).run Tryz.prog w1 = .ok () w2 ∧
      MapIs w2 pb (prL A B (Pr ++ [(i, j)])) ∧ MapIs w2 kb (prR A B (Pr ++ [(i, j)])) ∧ Turn w w2 (fun b => b = pb ∨ b = kb) := by
  obtain ⟨w1, g1, g2, g3⟩ := m1.store_new under_met (v := ptr (B j)) (prL_key hR hi hD) (prL_none hR hi hD hn1)
  have t1 : Turn w w1 (fun b => b = pb ∨ b = kb) := Turn.of_grown g3.grown (fun j e => by cases e; exact Or.inl rfl)
  have hS1 := hS.two_maps m1 m2 n1 n2 t1
  have m2' := m2.kept g3.grown (by simpa using hpk.symm)
  obtain ⟨w2, k1, k2, k3⟩ := m2'.store_new under_met (v := ptr (A i)) (prR_key hS1 hj hE) (prR_none hS1 hj hE hn2)
  refine ⟨w1, g1, w2, k1, ?_, ?_, t1.trans ((Turn.of_grown (S := fun b => b = kb) k3.grown (fun j e => by cases e; rfl)).mono fun b _ hb => Or.inl (Or.inr hb))⟩
  · rw [prL_snoc]
    exact (g2.kept k3.grown (by simpa using hpk)).perm (List.perm_append_singleton _ _)
  · rw [prR_snoc]
    exact k2.perm (List.perm_append_singleton _ _)

end

theorem two_blocks (W : World) (o1 o2 : Obj) : ((W.alloc o1).alloc o2).heap[W.heap.size]? = some o1 ∧ ((W.alloc o1).alloc o2).heap[W.heap.size + 1]? = some o2 := by
  have s1 : (W.alloc o1).heap.size = W.heap.size + 1 := by simp
  constructor
  · rw [(MapKept.heap_alloc (W.alloc o1) o2).2 W.heap.size (by rw [s1]; omega)]
    exact (MapKept.heap_alloc W o1).1
  · have := (MapKept.heap_alloc (W.alloc o1) o2).1
    rwa [s1] at this

theorem neq_mt (W : World) (a1 a2 a3 a4 a5 b1 b2 b3 b4 b5 : Int) :
    (binOp .neq 40 (.agg #[.int .i64 a1, .int .i64 a2, .int .i64 a3, .int .i64 a4, .int .i64 a5]) (.agg #[.int .i64 b1, .int .i64 b2, .int .i64 b3, .int .i64 b4, .int .i64 b5])).run Tryz.prog W = .ok (.bool (!decide (a1 = b1 ∧ a2 = b2 ∧ a3 = b3 ∧ a4 = b4 ∧ a5 = b5))) W := by
  go_simp
  by_cases h1 : a1 = b1 <;> by_cases h2 : a2 = b2 <;> by_cases h3 : a3 = b3 <;> by_cases h4 : a4 = b4 <;> by_cases h5 : a5 = b5 <;> simp [h1, h2, h3, h4, h5]

theorem mt_eq {a b : Mt} : (a.mode = b.mode ∧ a.sec = b.sec ∧ a.nano = b.nano ∧ a.uid = b.uid ∧ a.gid = b.gid) ↔ a = b := by
  cases a
  cases b
  simp

theorem bytesOf_ints (l : Bytes) : Lib.bytesOf (l.map fun b => (b.toNat : Int)) = l := by
  unfold Lib.bytesOf
  rw [List.map_map]
  conv => rhs; rw [← List.map_id l]
  refine List.map_congr_left fun b _ => ?_
  simp

theorem RdB.bytesIn {W : World} {A : Option Addr} {n c : Nat} {l : Bytes} (h : RdB W (.slice A n c) l) : n = l.length ∧ Lib.BytesIn W A l.length (l.map fun b => (b.toNat : Int)) := by
  obtain ⟨A', c', e, _, _, h4⟩ := h
  simp only [Value.slice.injEq] at e
  obtain ⟨rfl, rfl, rfl⟩ := e
  refine ⟨rfl, fun h0 => ?_⟩
  obtain ⟨g, o, e, _⟩ := h4 0 h0
  refine ⟨g, o, e, fun i hi => ?_⟩
  obtain ⟨g', o', e', hc⟩ := h4 i hi
  rw [e] at e'
  cases e'
  rw [hc]
  simp [hi]

theorem bequal_rd (v1 v2 : Value) (l1 l2 : Bytes) (w : World) (h1 : RdB w v1 l1) (h2 : RdB w v2 l2) :
    Calls Tryz.prog 92 #[v1, v2] w fun e w' => e = .returned (.bool (decide (l1 = l2))) ∧ w' = w := by
  obtain ⟨A1, c1, rfl, _⟩ := id h1
  obtain ⟨A2, c2, rfl, _⟩ := id h2
  have := sh_bytes_Equal_all A1 A2 l1.length c1 l2.length c2 (l1.map fun b => (b.toNat : Int)) (l2.map fun b => (b.toNat : Int)) w (by simp) (by simp) h1.bytesIn.2 h2.bytesIn.2
  rw [bytesOf_ints, bytesOf_ints] at this
  have e : (l1 == l2) = decide (l1 = l2) := by
    rw [Bool.eq_iff_iff]
    simp
  rwa [e] at this

theorem mkS_toList (l : Bytes) : (mkS l).toList = l := by rw [toList_bl, bl_mkS]

def AlkPost (w : World) (A B : Nat → Nat) (T U : Fs) (pb kb : Nat) (p : Pt) (i j : Nat) (Pr : List (Nat × Nat)) (e : Ending) (w' : World) : Prop :=
  ∃ r Pr', e = .returned (.bool r) ∧ AlkDone w w' A B T U pb kb p i j Pr r Pr'

def statA (n : Nd) (i : Nat) : Array Value :=
  #[.int .i64 n.kind, .int .i64 i, .int .i64 0, .int .i64 n.links, .int .i64 n.mt.mode, .int .i64 n.mt.sec, .int .i64 n.mt.nano, .int .i64 n.mt.uid, .int .i64 n.mt.gid, .string (mkS n.target)]

/-- What stands in the two variables that hold a copy of each thing's Stat. -/
def TwoStats (w W : World) (T U : Fs) (i j : Nat) (x y : Value) : Prop :=
  ∃ bx by', x = .pointer (some ⟨bx, 0, none⟩) ∧ y = .pointer (some ⟨by', 0, none⟩) ∧ W.heap[bx]? = some (.cells (statA (T.nd i) i) 42 (0, 0)) ∧ W.heap[by']? = some (.cells (statA (U.nd j) j) 42 (0, 0)) ∧ Below w.heap.size w W

set_option maxHeartbeats 4000000 in
set_option maxRecDepth 100000 in
theorem alike_calls (tb : Nat) (A M : Nat → Nat) (T : Fs) (ub : Nat) (B N : Nat → Nat) (U : Fs) (pb kb : Nat) (hpk : pb ≠ kb) (n1 : ¬ Own tb A M T pb) (n2 : ¬ Own tb A M T kb) (n3 : ¬ Own ub B N U pb) (n4 : ¬ Own ub B N U kb) :
    ∀ (n : Nat) (p : Pt) (i j : Nat) (Pr : List (Nat × Nat)) (w : World), Rep w tb A M T → Rep w ub B N U → (p, i) ∈ T.names → (p, j) ∈ U.names → (∀ t k, (p ++ t, k) ∈ T.names → t.length ≤ n) → MapIs w pb (prL A B Pr) → MapIs w kb (prR A B Pr) →
      (∀ x ∈ Pr, ∃ q, (q, x.1) ∈ T.names ∧ (q, x.2) ∈ U.names) → (∀ x ∈ Pr, Lk T U x.1 x.2) → (∀ t k, (p ++ t, k) ∈ T.names → (T.nd k).kind = 2 → ∀ l, (k, l) ∉ Pr) →
    Calls Tryz.prog 49 #[ptr (A i), ptr (B j), .map (some pb), .map (some kb)] w (AlkPost w A B T U pb kb p i j Pr) := by
  intro n
  induction n using Nat.strongRecOn with
  | _ n ih =>
    intro p i j Pr w hR hS hp hq hlen m1 m2 wit like hdir
    have hT := hR.inv
    have hU := hS.inv
    have hD : ∀ x ∈ Pr, T.Live x.1 := fun x hx => by obtain ⟨q, h1, _⟩ := wit x hx; exact ⟨q, h1⟩
    have hE : ∀ x ∈ Pr, U.Live x.2 := fun x hx => by obtain ⟨q, _, h1⟩ := wit x hx; exact ⟨q, h1⟩
    by_cases hin : ∃ j', (i, j') ∈ Pr
    · obtain ⟨j', hin⟩ := hin
      have hk : (T.nd i).kind ≠ 2 := fun hk => hdir [] i (by simpa using hp) hk j' hin
      have hlk : (Instr.lookup 95 (.map (some pb)) (ptr (A i)) true).run Tryz.prog w = .ok (.tuple #[ptr (B j'), .bool true]) w := m1.look_hit under_met (prL_key hR ⟨_, hp⟩ hD) (List.mem_map.2 ⟨_, hin, rfl⟩) true
      have hfin := alk_again hT hU hp hq hk m1 m2 wit like hin
      by_cases e : j' = j
      · subst e
        rw [show decide (j' = j') = true by simp] at hfin
        have hptr := fun W : World => run_eql_ptr_same (P := Tryz.prog) W ⟨B j', 0, none⟩ Tryz.underlying85 info_node
        replace hfin := Lib.hid hfin
        clear hR hS m1 m2 ih hlen hdir wit like hT hU hD hE hin
        unfold ptr at *
        go_enter Tryz.func49, Tryz.ntmps49
        go_wp2
        go_ret
        exact ⟨true, Pr, rfl, hfin.out⟩
      · rw [show decide (j' = j) = false by simpa using e] at hfin
        obtain ⟨dv1, _, hn1⟩ := hS.node j' (hE _ hin)
        obtain ⟨dv2, _, hn2⟩ := hS.node j ⟨_, hq⟩
        have hptr := run_eql_ptr_other (P := Tryz.prog) w (a := ⟨B j', 0, none⟩) (b := ⟨B j, 0, none⟩) Tryz.underlying85 info_node node_size (fun e2 => e (hS.injA j' j (hE _ hin) ⟨_, hq⟩ (congrArg Addr.block e2))) hn1 hn2
        replace hfin := Lib.hid hfin
        clear hR hS m1 m2 ih hlen hdir wit like hT hU hD hE hin hn1 hn2 e
        unfold ptr at *
        go_enter Tryz.func49, Tryz.ntmps49
        go_wp2
        go_ret
        exact ⟨false, Pr, rfl, hfin.out⟩
    · have hin2 : ∀ k, (i, k) ∉ Pr := fun k hk => hin ⟨k, hk⟩
      have hlk : (Instr.lookup 95 (.map (some pb)) (ptr (A i)) true).run Tryz.prog w = .ok (.tuple #[.pointer none, .bool false]) w := m1.look_miss under_met (prL_key hR ⟨_, hp⟩ hD) (prL_none hR ⟨_, hp⟩ hD hin2) (zero_node w) true
      by_cases hta : ∃ i', (i', j) ∈ Pr
      · obtain ⟨i', hta⟩ := hta
        have hlk2 : (Instr.lookup 95 (.map (some kb)) (ptr (B j)) true).run Tryz.prog w = .ok (.tuple #[ptr (A i'), .bool true]) w := m2.look_hit under_met (prR_key hS ⟨_, hq⟩ hE) (List.mem_map.2 ⟨_, hta, rfl⟩) true
        have hfin := alk_taken hT hp hq m1 m2 wit hta hin2
        replace hfin := Lib.hid hfin
        clear hR hS m1 m2 ih hlen hdir wit like hT hU hD hE hin hta hin2
        unfold ptr at *
        go_enter Tryz.func49, Tryz.ntmps49
        go_wp2
        go_ret
        exact ⟨false, Pr, rfl, hfin.out⟩
      · have hta2 : ∀ k, (k, j) ∉ Pr := fun k hk => hta ⟨k, hk⟩
        have hlk2 : (Instr.lookup 95 (.map (some kb)) (ptr (B j)) true).run Tryz.prog w = .ok (.tuple #[.pointer none, .bool false]) w := m2.look_miss under_met (prR_key hS ⟨_, hq⟩ hE) (prR_none hS ⟨_, hq⟩ hE hta2) (zero_node w) true
        obtain ⟨w1, hst1, w2, hst2, m1', m2', ht2⟩ := pair_store hpk hR hS ⟨_, hp⟩ ⟨_, hq⟩ hD hE hin2 hta2 m1 m2 n3 n4
        have hR2 := hR.two_maps m1 m2 n1 n2 ht2
        have hS2 := hS.two_maps m1 m2 n3 n4 ht2
        obtain ⟨dv, hDv, c0, c1, c2, c3, c4, c5, c6, c7, c8, c9, c10, c11⟩ := hR2.cells ⟨p, hp⟩
        obtain ⟨ev, hEv, d0, d1, d2, d3, d4, d5, d6, d7, d8, d9, d10, d11⟩ := hS2.cells ⟨p, hq⟩
        replace hR := Lib.hid hR
        replace hS := Lib.hid hS
        replace hR2 := Lib.hid hR2
        replace hS2 := Lib.hid hS2
        replace m1 := Lib.hid m1
        replace m2 := Lib.hid m2
        replace m1' := Lib.hid m1'
        replace m2' := Lib.hid m2'
        replace ht2 := Lib.hid ht2
        replace ih := Lib.hid ih
        replace hlen := Lib.hid hlen
        replace hdir := Lib.hid hdir
        replace wit := Lib.hid wit
        replace like := Lib.hid like
        replace hT := Lib.hid hT
        replace hU := Lib.hid hU
        replace hD := Lib.hid hD
        replace hE := Lib.hid hE
        replace hin2 := Lib.hid hin2
        replace hta2 := Lib.hid hta2
        replace hst1 := Lib.hid hst1
        replace hst2 := Lib.hid hst2
        clear hin hta
        unfold ptr at *
        go_enter Tryz.func49, Tryz.ntmps49
        go_upto_region 8 with (first | (at_mapUpdate; refine wp_store _ rfl _ _ _ 95 rfl (.map (some pb)) (.pointer (some ⟨A i, 0, none⟩)) (.pointer (some ⟨B j, 0, none⟩)) rfl rfl rfl w1 hst1.out ?_) | (at_mapUpdate; refine wp_store _ rfl _ _ _ 95 rfl (.map (some kb)) (.pointer (some ⟨B j, 0, none⟩)) (.pointer (some ⟨A i, 0, none⟩)) rfl rfl rfl w2 hst2.out ?_))
        go_frame
        go_cut [13, 14] (fun x y W => TwoStats w2 W T U i j x y)
        case first =>
          have e0 := World.new_ne w2 ⟨A i, 0, none⟩ c0
          have e1 := World.new_ne w2 ⟨B j, 0, none⟩ d0
          go_region_held3 (fun W => W.cell? ⟨A i, 0, none⟩ = some (.int .i64 (T.nd i).kind) ∧ W.cell? ⟨A i, 1, none⟩ = some (.int .i64 i) ∧ W.cell? ⟨A i, 2, none⟩ = some (.int .i64 0) ∧ W.cell? ⟨A i, 3, none⟩ = some (.int .i64 (T.nd i).links) ∧ W.cell? ⟨A i, 4, none⟩ = some (.int .i64 (T.nd i).mt.mode) ∧ W.cell? ⟨A i, 5, none⟩ = some (.int .i64 (T.nd i).mt.sec) ∧ W.cell? ⟨A i, 6, none⟩ = some (.int .i64 (T.nd i).mt.nano) ∧ W.cell? ⟨A i, 7, none⟩ = some (.int .i64 (T.nd i).mt.uid) ∧ W.cell? ⟨A i, 8, none⟩ = some (.int .i64 (T.nd i).mt.gid) ∧ W.cell? ⟨A i, 9, none⟩ = some (.string (mkS (T.nd i).target)) ∧ W.cell? ⟨B j, 0, none⟩ = some (.int .i64 (U.nd j).kind) ∧ W.cell? ⟨B j, 1, none⟩ = some (.int .i64 j) ∧ W.cell? ⟨B j, 2, none⟩ = some (.int .i64 0) ∧ W.cell? ⟨B j, 3, none⟩ = some (.int .i64 (U.nd j).links) ∧ W.cell? ⟨B j, 4, none⟩ = some (.int .i64 (U.nd j).mt.mode) ∧ W.cell? ⟨B j, 5, none⟩ = some (.int .i64 (U.nd j).mt.sec) ∧ W.cell? ⟨B j, 6, none⟩ = some (.int .i64 (U.nd j).mt.nano) ∧ W.cell? ⟨B j, 7, none⟩ = some (.int .i64 (U.nd j).mt.uid) ∧ W.cell? ⟨B j, 8, none⟩ = some (.int .i64 (U.nd j).mt.gid) ∧ W.cell? ⟨B j, 9, none⟩ = some (.string (mkS (U.nd j).target))) (go_keep) (fail)
          all_goals (go_wp2_with fail)
          · go_meet
            exact ⟨_, _, rfl, rfl, (two_blocks w2.drew _ _).1, (two_blocks w2.drew _ _).2, below_alloc (below_alloc (below_drewN (Below.refl _ _) 1) _) _⟩
          · go_meet
            exact ⟨_, _, rfl, rfl, (two_blocks w2.drew _ _).2, (two_blocks w2.drew _ _).1, below_alloc (below_alloc (below_drewN (Below.refl _ _) 1) _) _⟩
        case rest =>
          obtain ⟨bx, by', rfl, rfl, hx, hy, hB3⟩ := hcut
          have hRc := hR2.out.below hB3
          have hSc := hS2.out.below hB3
          obtain ⟨dvc, hDvc, _, _, _, _, _, _, _, _, _, _, cc10, cc11⟩ := hRc.cells ⟨p, hp⟩
          obtain ⟨evc, hEvc, _, _, _, _, _, _, _, _, _, _, dd10, dd11⟩ := hSc.cells ⟨p, hq⟩
          have x0 := cell_of (j := 0) hx (v := .int .i64 (T.nd i).kind) rfl
          have x4 := cell_of (j := 4) hx (v := .int .i64 (T.nd i).mt.mode) rfl
          have x5 := cell_of (j := 5) hx (v := .int .i64 (T.nd i).mt.sec) rfl
          have x6 := cell_of (j := 6) hx (v := .int .i64 (T.nd i).mt.nano) rfl
          have x7 := cell_of (j := 7) hx (v := .int .i64 (T.nd i).mt.uid) rfl
          have x8 := cell_of (j := 8) hx (v := .int .i64 (T.nd i).mt.gid) rfl
          have x9 := cell_of (j := 9) hx (v := .string (mkS (T.nd i).target)) rfl
          have y0 := cell_of (j := 0) hy (v := .int .i64 (U.nd j).kind) rfl
          have y4 := cell_of (j := 4) hy (v := .int .i64 (U.nd j).mt.mode) rfl
          have y5 := cell_of (j := 5) hy (v := .int .i64 (U.nd j).mt.sec) rfl
          have y6 := cell_of (j := 6) hy (v := .int .i64 (U.nd j).mt.nano) rfl
          have y7 := cell_of (j := 7) hy (v := .int .i64 (U.nd j).mt.uid) rfl
          have y8 := cell_of (j := 8) hy (v := .int .i64 (U.nd j).mt.gid) rfl
          have y9 := cell_of (j := 9) hy (v := .string (mkS (U.nd j).target)) rfl
          replace hRc := Lib.hid hRc
          replace hSc := Lib.hid hSc
          replace hx := Lib.hid hx
          replace hy := Lib.hid hy
          clear c0 c1 c2 c3 c4 c5 c6 c7 c8 c9 c10 c11 d0 d1 d2 d3 d4 d5 d6 d7 d8 d9 d10 d11 hlk hlk2
          have hmt := fun W => neq_mt W (T.nd i).mt.mode (T.nd i).mt.sec (T.nd i).mt.nano (T.nd i).mt.uid (T.nd i).mt.gid (U.nd j).mt.mode (U.nd j).mt.sec (U.nd j).mt.nano (U.nd j).mt.uid (U.nd j).mt.gid
          obtain ⟨mq, hmq⟩ : ∃ b : Bool, b = !decide ((T.nd i).mt.mode = (U.nd j).mt.mode ∧ (T.nd i).mt.sec = (U.nd j).mt.sec ∧ (T.nd i).mt.nano = (U.nd j).mt.nano ∧ (T.nd i).mt.uid = (U.nd j).mt.uid ∧ (T.nd i).mt.gid = (U.nd j).mt.gid) := ⟨_, rfl⟩
          rw [← hmq] at hmt
          have hmq2 : mq = false ↔ (T.nd i).mt = (U.nd j).mt := by
            rw [hmq, ← mt_eq]
            simp
          replace hmq2 := Lib.hid hmq2
          clear hmq
          go_upto_region 9 with fail
          go_cut [91] (fun c W => ∃ r : Bool, c = .bool (!r) ∧ (r = true ↔ Lk T U i j ∧ (T.kids p).length = (U.kids p).length) ∧ ∃ m, wc.drewN m = W)
          case first =>
            by_cases hk1 : (T.nd i).kind = (U.nd j).kind
            · have hk2 : ((T.nd i).kind != (U.nd j).kind) = false := by simpa using hk1
              replace hk1 := Lib.hid hk1
              cases mq with
              | true =>
                have hnm : (T.nd i).mt ≠ (U.nd j).mt := fun e => by have := hmq2.out.2 e; cases this
                replace hnm := Lib.hid hnm
                go_quiet (fail)
                go_wp2_with fail
                go_meet
                exact ⟨false, rfl, ⟨fun h => (by cases h), fun h => absurd h.1 (fun h => hnm.out h.2.1)⟩, _, rfl⟩
              | false =>
                have hmm := hmq2.out.1 rfl
                replace hmm := Lib.hid hmm
                by_cases htg : (T.nd i).target = (U.nd j).target
                · have ht1 : (mkS (T.nd i).target).toList = (mkS (U.nd j).target).toList := by rw [htg]
                  have ht3 : ((mkS (T.nd i).target).toList == (mkS (U.nd j).target).toList) = true := by simp [ht1]
                  replace htg := Lib.hid htg
                  have hbe := fun m : Nat => bequal_rd dvc evc (T.nd i).data (U.nd j).data (wc.drewN m) hDvc.rdb hEvc.rdb
                  by_cases hdt : (T.nd i).data = (U.nd j).data
                  · rw [show decide ((T.nd i).data = (U.nd j).data) = true by simpa using hdt] at hbe
                    replace hdt := Lib.hid hdt
                    replace hbe := Lib.hid hbe
                    have hl1 := fun (m : Nat) ty => (hRc.out.drewN m).len_kids hp ty
                    have hl2 := fun (m : Nat) ty => (hSc.out.drewN m).len_kids hq ty
                    by_cases hln : (T.kids p).length = (U.kids p).length
                    · have hln2 : (((T.kids p).length : Int) != ((U.kids p).length : Int)) = false := by simp [hln]
                      have hln3 : ((T.kids p).length != (U.kids p).length) = false := by simp [hln]
                      replace hln := Lib.hid hln
                      go_quiet ((go_at_call 92; exact Calls.quiet_of_same (hbe.out _)))
                      go_wp2_with fail
                      go_meet
                      exact ⟨true, rfl, ⟨fun _ => ⟨⟨hk1.out, hmm.out, htg.out, hdt.out⟩, hln.out⟩, fun _ => rfl⟩, _, rfl⟩
                    · have hln2 : (((T.kids p).length : Int) != ((U.kids p).length : Int)) = true := by simp only [bne_iff_ne, ne_eq]; omega
                      have hln3 : ((T.kids p).length != (U.kids p).length) = true := by simpa using hln
                      replace hln := Lib.hid hln
                      go_quiet ((go_at_call 92; exact Calls.quiet_of_same (hbe.out _)))
                      go_wp2_with fail
                      go_meet
                      exact ⟨false, rfl, ⟨fun h => (by cases h), fun h => absurd h.2 hln.out⟩, _, rfl⟩
                  · rw [show decide ((T.nd i).data = (U.nd j).data) = false by simpa using hdt] at hbe
                    replace hdt := Lib.hid hdt
                    replace hbe := Lib.hid hbe
                    go_quiet ((go_at_call 92; exact Calls.quiet_of_same (hbe.out _)))
                    go_wp2_with fail
                    go_meet
                    exact ⟨false, rfl, ⟨fun h => (by cases h), fun h => absurd h.1 (fun h => hdt.out h.2.2.2)⟩, _, rfl⟩
                · have ht1 : ¬ (mkS (T.nd i).target).toList = (mkS (U.nd j).target).toList := by rw [mkS_toList, mkS_toList]; exact htg
                  have ht3 : ((mkS (T.nd i).target).toList == (mkS (U.nd j).target).toList) = false := by simpa using ht1
                  replace htg := Lib.hid htg
                  go_quiet (fail)
                  go_wp2_with fail
                  go_meet
                  exact ⟨false, rfl, ⟨fun h => (by cases h), fun h => absurd h.1 (fun h => htg.out h.2.2.1)⟩, _, rfl⟩
            · have hk2 : ((T.nd i).kind != (U.nd j).kind) = true := by simpa using hk1
              replace hk1 := Lib.hid hk1
              go_quiet (fail)
              go_wp2_with fail
              go_meet
              exact ⟨false, rfl, ⟨fun h => (by cases h), fun h => absurd h.1 (fun h => hk1.out h.1)⟩, _, rfl⟩
          case rest =>
            obtain ⟨r, rfl, hr, m, rfl⟩ := hcut
            have hmc1 : MapIs (wc.drewN m) pb (prL A B (Pr ++ [(i, j)])) := m1'.out.of_block (hB3.block pb m1'.out.lt)
            have hmc2 : MapIs (wc.drewN m) kb (prR A B (Pr ++ [(i, j)])) := m2'.out.of_block (hB3.block kb m2'.out.lt)
            have htc : Turn w (wc.drewN m) (fun b => b = pb ∨ b = kb) := (ht2.out.trans (Turn.of_below hB3 _)).drewN m
            have hRd := hRc.out.drewN m
            have hSd := hSc.out.drewN m
            replace hmc1 := Lib.hid hmc1
            replace hmc2 := Lib.hid hmc2
            replace htc := Lib.hid htc
            replace hr := Lib.hid hr
            clear x0 x4 x5 x6 x7 x8 x9 y0 y4 y5 y6 y7 y8 y9 hmt hmq2 hx hy dd10 cc10 hB3 hRc hSc hDvc hEvc m1' m2' ht2 hst1 hst2 hDv hEv hR2 hS2
            cases r with
            | false =>
              have hno : ¬ SameFs T U := fun hs => by
                have := hr.out.2 ⟨hs.like p i j hp hq, hs.kids_len hT.out hU.out p⟩
                cases this
              have hfin := alk_no hp hq hmc1.out hmc2.out wit.out hno htc.out
              replace hfin := Lib.hid hfin
              replace hRd := Lib.hid hRd
              replace hSd := Lib.hid hSd
              go_wp2
              go_ret
              exact ⟨false, _, rfl, hfin.out⟩
            | true =>
              obtain ⟨hlk0, hkl⟩ := hr.out.1 rfl
              have hI0 := alk_start hp hq hmc1.out hmc2.out wit.out like.out hlk0 htc.out
              have hmn := fun W m => map_not_nil W m
              replace hmc1 := hmc1
              by_cases hk : (T.nd i).kind = 2
              · have hk' : (U.nd j).kind = 2 := by rw [← hlk0.1]; exact hk
                have hM := hRd.kids p i hp hk
                have hMl : M i < w.heap.size := (hR.out.kids p i hp hk).lt
                have hpb := m1.out.lt
                have hkb := m2.out.lt
                have hNlt := (hS.out.kids p j hq hk').lt
                rw [kidsV, if_pos hk] at cc11
                rw [kidsV, if_pos hk'] at dd11
                replace hk := Lib.hid hk
                replace hk' := Lib.hid hk'
                replace hM := Lib.hid hM
                replace hI0 := Lib.hid hI0
                replace hlk0 := Lib.hid hlk0
                replace hkl := Lib.hid hkl
                replace hRd := Lib.hid hRd
                replace hSd := Lib.hid hSd
                go_wp2_with (at_range; refine wp_range _ rfl _ 108 rfl 9 85 under_kids (M i) _ rfl hM.out ?_)
                intro w5 hrg5 hg5 _
                have hI5 := hI0.out.other (S := fun _ => False) (Turn.of_grown hg5 (fun j e => by cases e)) (fun b hb => hb.elim)
                have hrw : w.heap.size ≤ wc.heap.size := htc.out.size
                replace hI5 := Lib.hid hI5
                clear hI0 hM hmc1 hmc2 htc hr hg5 hRd hSd cc11 dd11 hlk0
                obtain ⟨rr, hrr⟩ : ∃ x, x = wc.heap.size := ⟨_, rfl⟩
                rw [← hrr] at hrg5 hrw ⊢
                replace hrr := Lib.hid hrr
                go_wp2
                go_loopw [15, 16] (fun x kk wr => ∃ (K1 K2 : List (Bytes × Nat)) (left : List (Value × Value)) (Pr1 : List (Nat × Nat)), Ranges wr (M i) rr (entries A (T.kids p)) left ∧ left.Perm (entries A K2) ∧ (T.kids p).Perm (K1 ++ K2) ∧ AlkInv w wr A B T U pb kb p i j Pr K1 Pr1) (fun _ _ wr => wr.rangeLeft (M i) rr)
                case atStart => exact ⟨[], T.kids p, _, _, hrg5, .refl _, .refl _, hI5.out⟩
                case round =>
                  clear hI5 hrg5
                  obtain ⟨K1, K2, left, Pr1, hrg, hL, hK, hI⟩ := hrel
                  replace hL := Lib.hid hL
                  replace hK := Lib.hid hK
                  replace hI := Lib.hid hI
                  go_wp2_with (at_next; refine wp_next _ rfl _ rfl (M i) rr _ _ rfl hrg ?_ ?_)
                  · intro hl0
                    have hLK : K2 = [] := entries_nil (A := A) (by have := hL.out; rwa [hl0] at this)
                    have hKd : (T.kids p).Perm K1 := by
                      have := hK.out
                      rwa [hLK, List.append_nil] at this
                    have hfin := alk_end hT.out hU.out hp hq hI.out hKd hkl.out
                    replace hfin := Lib.hid hfin
                    clear hL hK hI hLK hKd hl0 hrg
                    go_wp2
                    go_ret
                    exact ⟨true, Pr1, rfl, hfin.out⟩
                  · intro x v left' w6 hp2 hmem hrg6 hg6 hs6 hen
                    obtain ⟨y, k, L', hL1, rfl, rfl, hL2⟩ := entries_pick hL.out hp2
                    have hK2 : (T.kids p).Perm ((K1 ++ [(y, k)]) ++ L') := hK.out.trans (by simpa using hL1.append_left K1)
                    have hkm : (p ++ [y], k) ∈ T.names := mem_kidsL.1 (hK2.mem_iff.2 (by simp))
                    have hit := hrg.iter
                    have hI6 : AlkInv w w6 A B T U pb kb p i j Pr K1 Pr1 := by
                      refine hI.out.other (S := fun b => b = rr) (Turn.of_grown hg6 (fun j e => by cases e; rfl)) ?_
                      rintro b rfl
                      exact ⟨hrw, hit.2⟩
                    have hR6 := hR.out.two_maps m1.out m2.out n1 n2 hI6.turn
                    have hS6 := hS.out.two_maps m1.out m2.out n3 n4 hI6.turn
                    have hlkB := hS6.look hq hk'.out y
                    have hd11 := dir_cell hS6 hq hk'.out
                    have hmeas : wr.rangeLeft (M i) rr = left.length := hrg.left_eq
                    have hlt : left'.length < left.length := by have := hp2.length_eq; simp at this; omega
                    have hMip : M i ≠ pb := fun e => n1 (by rw [← e]; exact Or.inr (Or.inr ⟨i, ⟨p, hp⟩, hk.out, rfl⟩))
                    have hMik : M i ≠ kb := fun e => n2 (by rw [← e]; exact Or.inr (Or.inr ⟨i, ⟨p, hp⟩, hk.out, rfl⟩))
                    cases hat : U.at (p ++ [y]) with
                    | none =>
                      rw [hat, optPtr_none] at hlkB
                      have hno : ¬ SameFs T U := fun hs => by
                        obtain ⟨j', hj'⟩ := hs.there _ _ hkm
                        exact Fs.at_none.1 hat j' hj'
                      have hfin := hI6.stop hp hno
                      replace hfin := Lib.hid hfin
                      replace hat := Lib.hid hat
                      replace hR6 := Lib.hid hR6
                      replace hS6 := Lib.hid hS6
                      unfold ptr at hen
                      clear hK2 hL2 hmeas hlt hit hI6 hL hK hI hL1 hp2 hmem hrg hg6 hs6 hrg6 hMip hMik
                      go_wp2
                      go_ret
                      exact ⟨false, Pr1, rfl, hfin.out⟩
                    | some l =>
                      have hlm := hU.out.at_some.1 hat
                      rw [hat, optPtr_some] at hlkB
                      have hn1 : 1 ≤ n := by simpa using hlen.out [y] k hkm
                      have hyK : ∀ k, (y, k) ∉ K1 := fun k hk => by
                        have hnd := (hK2.map (·.1)).nodup_iff.1 (hT.out.kids_nodup p)
                        rw [List.map_append, List.map_append, List.append_assoc] at hnd
                        exact (List.nodup_append.1 hnd).2.2 y (List.mem_map.2 ⟨_, hk, rfl⟩) y (by simp) rfl
                      have hrec := ih.out (n - 1) (by omega) (p ++ [y]) k l Pr1 w6 hR6 hS6 hkm hlm (fun t u hu => by
                        have := hlen.out (y :: t) u (by simpa using hu)
                        simp at this
                        omega) hI6.m1 hI6.m2 hI6.wit hI6.like (fun t u hu hk2 l' hin3 => by
                          have hu' : (p ++ y :: t, u) ∈ T.names := by simpa using hu
                          rcases hI6.low _ hin3 with h | h | ⟨z, hz, t', hzt⟩
                          · exact hdir.out (y :: t) u hu' hk2 l' h
                          · simp only [Prod.mk.injEq] at h
                            obtain ⟨rfl, _⟩ := h
                            have := hT.out.dir_one hp hu' hk2
                            simp at this
                          · have := hT.out.dir_one hzt hu' hk2
                            rw [List.append_cancel_left_eq, List.cons.injEq] at this
                            exact hyK z.2 (by rw [this.1]; exact hz))
                      have hyes := fun w7 Pr2 (hd : AlkDone w6 w7 A B T U pb kb (p ++ [y]) k l Pr1 true Pr2) => (⟨alk_step hI6 hd, hrg6.of_blocks (hd.turn.block _ hrg6.is.lt (by rintro (e | e); exact hMip e; exact hMik e)) (hd.turn.block _ hrg6.lt (by omega))⟩ : AlkInv w w7 A B T U pb kb p i j Pr (K1 ++ [(y, k)]) Pr2 ∧ Ranges w7 (M i) rr (entries A (T.kids p)) left')
                      have hnay := fun w7 Pr2 (hd : AlkDone w6 w7 A B T U pb kb (p ++ [y]) k l Pr1 false Pr2) => alk_fall hp hI6 hd
                      unfold ptr at hrec hen
                      replace hrec := Lib.hid hrec
                      replace hyes := Lib.hid hyes
                      replace hnay := Lib.hid hnay
                      replace hK2 := Lib.hid hK2
                      replace hL2 := Lib.hid hL2
                      replace hmeas := Lib.hid hmeas
                      replace hkm := Lib.hid hkm
                      replace hlm := Lib.hid hlm
                      replace hyK := Lib.hid hyK
                      replace hat := Lib.hid hat
                      replace hR6 := Lib.hid hR6
                      replace hS6 := Lib.hid hS6
                      clear hK hL hI hL1 hp2 hmem hrg hg6 hs6 hrg6 hit hI6 hMip hMik
                      go_wp2_with fail
                      refine hrec.out.mono ?_
                      rintro e w7 ⟨r2, Pr2, rfl, hd⟩
                      cases r2 with
                      | true =>
                        obtain ⟨hI7, hrg7⟩ := hyes.out w7 Pr2 hd
                        replace hI7 := Lib.hid hI7
                        clear hd hyes hnay hrec
                        go_wp2
                        go_roundw
                        case rel => exact ⟨K1 ++ [(y, k)], L', left', Pr2, hrg7, hL2.out, hK2.out, hI7.out⟩
                        case measure => rw [hrg7.left_eq, hmeas.out]; exact hlt
                      | false =>
                        have hfin := hnay.out w7 Pr2 hd
                        replace hfin := Lib.hid hfin
                        clear hd hyes hnay hrec
                        go_wp2
                        go_ret
                        exact ⟨false, Pr2, rfl, hfin.out⟩
              · have hkids := kids_file hT.out hp hk
                have hI5 := hI0.other (S := fun _ => False) (Turn.of_below ((Below.refl (wc.drewN m).heap.size (wc.drewN m)).alloc (Nat.le_refl _) (.mapIter none 0 #[] 0)) _) (fun b hb => hb.elim)
                have hfin := alk_end hT.out hU.out hp hq hI5 (by rw [hkids]) hkl
                have hrg := run_range_nilMap (P := Tryz.prog) (wc.drewN m) 108 9 85 under_kids
                have hnx : ∀ ty, (Instr.next (.pointer (some ⟨(wc.drewN m).heap.size, 0, none⟩)) false ty).run Tryz.prog ((wc.drewN m).alloc (.mapIter none 0 #[] 0)) = _ := fun ty => run_next_nilMap (wc.drewN m) ty 0 0 #[]
                rw [kidsV, if_neg hk] at cc11
                replace hfin := Lib.hid hfin
                replace hk := Lib.hid hk
                replace hRd := Lib.hid hRd
                replace hSd := Lib.hid hSd
                have cc11' : (wc.drewN m).cell? ⟨A i, 11, none⟩ = some (.map none) := cc11
                clear hI0 hI5 hmc1 hmc2 htc hr hlk0 hkl hkids cc11 dd11
                generalize wc.drewN m = wd at *
                go_wp2
                refine wp_loop_rounds 1 ?_
                rw [rounds_succ]
                go_wp2
                go_ret
                exact ⟨true, _, rfl, hfin.out⟩

end Go.Proofs.YtocbjhhnginebaaGreat

namespace Go.Proofs.YtocbjhhnginebaaGreat
open Go.RowKit

def SameRes (T U : Fs) (w : World) (e : Ending) (w' : World) : Prop := (∃ r : Bool, e = .returned (.bool r) ∧ (r = true ↔ SameFs T U)) ∧ Below w.heap.size w w'

set_option maxHeartbeats 2000000 in
set_option maxRecDepth 100000 in
theorem same_calls (tb : Nat) (A M : Nat → Nat) (T : Fs) (ub : Nat) (B N : Nat → Nat) (U : Fs) (w : World) (hR : Rep w tb A M T) (hS : Rep w ub B N U) :
    Calls Tryz.prog 20 #[ptr tb, ptr ub] w (SameRes T U w) := by
  have hT := hR.inv
  have hU := hS.inv
  have hkeep : ∀ W, Below w.heap.size w W → W.cell? ⟨tb, 0, none⟩ = some (.pointer (some ⟨A 1, 0, none⟩)) ∧ W.cell? ⟨ub, 0, none⟩ = some (.pointer (some ⟨B 1, 0, none⟩)) := fun W hB => ⟨cell_of (hR.below hB).tree rfl, cell_of (hS.below hB).tree rfl⟩
  have hB1 : Below w.heap.size w (w.drew.alloc (.map #[] 0)) := below_alloc (below_drewN (Below.refl _ _) 1) _
  have hB0 : Below w.heap.size w ((w.drew.alloc (.map #[] 0)).alloc (.map #[] 0)) := below_alloc hB1 _
  have n1 : ∀ k, ¬ Own tb A M T (w.heap.size + k) := fun k h => by have := hR.lt h; omega
  have n2 : ∀ k, ¬ Own ub B N U (w.heap.size + k) := fun k h => by have := hS.lt h; omega
  have hm1 : MapIs ((w.drew.alloc (.map #[] 0)).alloc (.map #[] 0)) w.heap.size [] := (show MapIs (w.drew.alloc (.map #[] 0)) w.heap.size [] from mapIs_made w.drew).kept (World.grownBy_alloc _ _ none) (by simp)
  have hm2 : MapIs ((w.drew.alloc (.map #[] 0)).alloc (.map #[] 0)) (w.heap.size + 1) [] := by
    have := mapIs_made (w.drew.alloc (.map #[] 0))
    rwa [show (w.drew.alloc (.map #[] 0)).heap.size = w.heap.size + 1 by simp] at this
  have hcall := fun pb kb (h1 : pb ≠ kb) (h2 : pb = w.heap.size ∨ pb = w.heap.size + 1) (h3 : kb = w.heap.size ∨ kb = w.heap.size + 1) =>
    alike_calls tb A M T ub B N U pb kb h1 (by rcases h2 with rfl | rfl; exact n1 0; exact n1 1) (by rcases h3 with rfl | rfl; exact n1 0; exact n1 1) (by rcases h2 with rfl | rfl; exact n2 0; exact n2 1) (by rcases h3 with rfl | rfl; exact n2 0; exact n2 1)
      12 [] 1 1 [] ((w.drew.alloc (.map #[] 0)).alloc (.map #[] 0)) (hR.below hB0) (hS.below hB0) hT.one hU.one (fun t j hm => (hT.pth _ _ hm).few) (by rcases h2 with rfl | rfl; exact hm1; exact hm2) (by rcases h3 with rfl | rfl; exact hm1; exact hm2) (by simp) (by simp) (by simp)
  have hfin : ∀ pb kb w1 r Pr', (pb = w.heap.size ∨ pb = w.heap.size + 1) → (kb = w.heap.size ∨ kb = w.heap.size + 1) → AlkDone ((w.drew.alloc (.map #[] 0)).alloc (.map #[] 0)) w1 A B T U pb kb [] 1 1 [] r Pr' → (r = true ↔ SameFs T U) ∧ Below w.heap.size w w1 := by
    intro pb kb w1 r Pr' h2 h3 hd
    exact ⟨alk_same hU hd.m1.nodup hd.m2.nodup hd, hB0.trans ⟨hd.turn.os, hd.turn.tape, hd.turn.output, hd.turn.size, fun k hk => hd.turn.block k (by simp; omega) (by omega)⟩⟩
  have hmk := @run_makeMap Tryz.prog
  unfold ptr at *
  replace hcall := Lib.hid hcall
  replace hkeep := Lib.hid hkeep
  replace hB0 := Lib.hid hB0
  replace hB1 := Lib.hid hB1
  replace hfin := Lib.hid hfin
  replace hR := Lib.hid hR
  replace hS := Lib.hid hS
  replace hm1 := Lib.hid hm1
  replace hm2 := Lib.hid hm2
  replace n1 := Lib.hid n1
  replace n2 := Lib.hid n2
  go_enter Tryz.func20, Tryz.ntmps20
  go_wp2_with fail
  go_region_held3 (fun W => W.cell? ⟨tb, 0, none⟩ = some (.pointer (some ⟨A 1, 0, none⟩)) ∧ W.cell? ⟨ub, 0, none⟩ = some (.pointer (some ⟨B 1, 0, none⟩))) (first | (exact hkeep.out _ (below_drewN (Below.refl _ _) 1)) | (exact hkeep.out _ hB1.out) | (exact hkeep.out _ hB0.out) | (exact hkeep.out _ hBc))
    ((go_at_call 49; refine (hcall.out _ _ (by omega) (by simp) (by simp)).mono ?_; rintro e w1 ⟨r, Pr', rfl, hd⟩; obtain ⟨hr, hBc⟩ := hfin.out _ _ _ _ _ (by simp) (by simp) hd; replace hr := Lib.hid hr; clear hd))
  all_goals
    rename_i hHeld
    clear hHeld
    go_wp2
    go_ret
    exact ⟨⟨r, rfl, hr.out⟩, hBc⟩

end Go.Proofs.YtocbjhhnginebaaGreat

namespace Go.Proofs.YtocbjhhnginebaaGreat
open Go.RowKit

/-- A call on a tree. -/
structure Act17 where
  d : Int
  path : Bytes
  arg : Bytes
  data : Bytes
  mt : Mt

def Fs.act (T : Fs) (a : Act17) : Fs × Int :=
  if a.d = 0 then T.mkdir a.path a.mt else if a.d = 1 then T.write a.path a.data a.mt else if a.d = 2 then T.symlink a.path a.arg a.mt else if a.d = 3 then T.link a.path a.arg else
  if a.d = 4 then T.remove a.path else if a.d = 5 then T.rename a.path a.arg else if a.d = 6 then T.setM a.path a.mt else if a.d = 7 then T.append a.path a.data else (T, 0)

def actCells (a : Act17) (v : Value) : List Value := [.int .i64 a.d, .string (mkS a.path), .string (mkS a.arg), v, .int .i64 a.mt.mode, .int .i64 a.mt.sec, .int .i64 a.mt.nano, .int .i64 a.mt.uid, .int .i64 a.mt.gid]
def actV (a : Act17) (v : Value) : Value := .agg (actCells a v).toArray

set_option maxHeartbeats 2000000 in
set_option maxRecDepth 100000 in
theorem do_calls (tb : Nat) (A M : Nat → Nat) (T : Fs) (a : Act17) (v : Value) (w : World) (hR : Rep w tb A M T) (hp : a.path.length ≤ 1000000) (ht : a.arg.length ≤ 1000000) (hv : RdB w v a.data) (hd : a.data.length ≤ 1000000) (hnx : T.next < 4611686018427387904) (hf : T.names.length ≤ 1000000) :
    Calls Tryz.prog 31 #[ptr tb, actV a v] w fun e w' => e = .returned (.int .i64 (T.act a).2) ∧ Stp w w' tb A M T (T.act a).1 := by
  obtain ⟨d, p, t, b, m⟩ := a
  obtain ⟨m1, m2, m3, m4, m5⟩ := m
  dsimp only at hp ht hv hd
  have hps := mkS_size p
  have hts := mkS_size t
  obtain ⟨dA, dc, rfl, hl1, hl2⟩ : ∃ A c, v = .slice A b.length c ∧ b.length ≤ c ∧ c ≤ maxLen := by
    obtain ⟨A', c, h1, h2, h3, _⟩ := hv
    exact ⟨A', c, h1, h2, h3⟩
  have hB0 : Below w.heap.size w (w.alloc (.cells #[.int .i64 d, .string (mkS p), .string (mkS t), .slice dA b.length dc, .int .i64 m1, .int .i64 m2, .int .i64 m3, .int .i64 m4, .int .i64 m5] 64)) := (Below.refl _ _).alloc (Nat.le_refl _) _
  have hR0 := hR.below hB0
  have hv0 := hv.below hB0
  have q0 := mkdir_calls tb A M T (mkS p) ⟨m1, m2, m3, m4, m5⟩ _ hR0 (by omega) hnx
  have q1 := write_calls tb A M T (mkS p) _ b ⟨m1, m2, m3, m4, m5⟩ _ hR0 (by omega) hv0 (by omega) hnx
  have q2 := symlink_calls tb A M T (mkS p) (mkS t) ⟨m1, m2, m3, m4, m5⟩ _ hR0 (by omega) hnx
  have q3 := link_calls tb A M T (mkS p) (mkS t) _ hR0 (by omega) (by omega) hf
  have q4 := remove_calls tb A M T (mkS p) _ hR0 (by omega) hf
  have q5 := rename_calls tb A M T (mkS p) (mkS t) _ hR0 (by omega) (by omega) hf
  have q6 := set_calls tb A M T (mkS p) ⟨m1, m2, m3, m4, m5⟩ _ hR0 (by omega)
  have q7 := append_calls tb A M T (mkS p) _ b _ hR0 (by omega) hv0 (by omega)
  simp only [bl_mkS] at q0 q1 q2 q3 q4 q5 q6 q7
  unfold mtV mtCells ptr at *
  unfold actV actCells Fs.act
  dsimp only at *
  replace q0 := Lib.hid q0
  replace q1 := Lib.hid q1
  replace q2 := Lib.hid q2
  replace q3 := Lib.hid q3
  replace q4 := Lib.hid q4
  replace q5 := Lib.hid q5
  replace q6 := Lib.hid q6
  replace q7 := Lib.hid q7
  replace hR0 := Lib.hid hR0
  replace hR := Lib.hid hR
  replace hv0 := Lib.hid hv0
  replace hv := Lib.hid hv
  replace hB0 := Lib.hid hB0
  by_cases e0 : d = 0
  · subst e0
    rw [if_pos rfl]
    go_enter Tryz.func31, Tryz.ntmps31
    go_wp2_with fail
    refine q0.out.mono ?_
    rintro e w1 ⟨rfl, hst⟩
    replace hst := Lib.hid hst
    go_wp2
    go_ret
    exact ⟨rfl, hst.out.after hB0.out⟩
  by_cases e1 : d = 1
  · subst e1
    rw [if_neg (by decide)]; rw [if_pos rfl]
    go_enter Tryz.func31, Tryz.ntmps31
    go_wp2_with fail
    refine q1.out.mono ?_
    rintro e w1 ⟨rfl, hst⟩
    replace hst := Lib.hid hst
    go_wp2
    go_ret
    exact ⟨rfl, hst.out.after hB0.out⟩
  by_cases e2 : d = 2
  · subst e2
    rw [if_neg (by decide)]; rw [if_neg (by decide)]; rw [if_pos rfl]
    go_enter Tryz.func31, Tryz.ntmps31
    go_wp2_with fail
    refine q2.out.mono ?_
    rintro e w1 ⟨rfl, hst⟩
    replace hst := Lib.hid hst
    go_wp2
    go_ret
    exact ⟨rfl, hst.out.after hB0.out⟩
  by_cases e3 : d = 3
  · subst e3
    rw [if_neg (by decide)]; rw [if_neg (by decide)]; rw [if_neg (by decide)]; rw [if_pos rfl]
    go_enter Tryz.func31, Tryz.ntmps31
    go_wp2_with fail
    refine q3.out.mono ?_
    rintro e w1 ⟨rfl, hst⟩
    replace hst := Lib.hid hst
    go_wp2
    go_ret
    exact ⟨rfl, hst.out.after hB0.out⟩
  by_cases e4 : d = 4
  · subst e4
    rw [if_neg (by decide)]; rw [if_neg (by decide)]; rw [if_neg (by decide)]; rw [if_neg (by decide)]; rw [if_pos rfl]
    go_enter Tryz.func31, Tryz.ntmps31
    go_wp2_with fail
    refine q4.out.mono ?_
    rintro e w1 ⟨rfl, hst⟩
    replace hst := Lib.hid hst
    go_wp2
    go_ret
    exact ⟨rfl, hst.out.after hB0.out⟩
  by_cases e5 : d = 5
  · subst e5
    rw [if_neg (by decide)]; rw [if_neg (by decide)]; rw [if_neg (by decide)]; rw [if_neg (by decide)]; rw [if_neg (by decide)]; rw [if_pos rfl]
    go_enter Tryz.func31, Tryz.ntmps31
    go_wp2_with fail
    refine q5.out.mono ?_
    rintro e w1 ⟨rfl, hst⟩
    replace hst := Lib.hid hst
    go_wp2
    go_ret
    exact ⟨rfl, hst.out.after hB0.out⟩
  by_cases e6 : d = 6
  · subst e6
    rw [if_neg (by decide)]; rw [if_neg (by decide)]; rw [if_neg (by decide)]; rw [if_neg (by decide)]; rw [if_neg (by decide)]; rw [if_neg (by decide)]; rw [if_pos rfl]
    go_enter Tryz.func31, Tryz.ntmps31
    go_wp2_with fail
    refine q6.out.mono ?_
    rintro e w1 ⟨rfl, hst⟩
    replace hst := Lib.hid hst
    go_wp2
    go_ret
    exact ⟨rfl, hst.out.after hB0.out⟩
  by_cases e7 : d = 7
  · subst e7
    rw [if_neg (by decide)]; rw [if_neg (by decide)]; rw [if_neg (by decide)]; rw [if_neg (by decide)]; rw [if_neg (by decide)]; rw [if_neg (by decide)]; rw [if_neg (by decide)]; rw [if_pos rfl]
    go_enter Tryz.func31, Tryz.ntmps31
    go_wp2_with fail
    refine q7.out.mono ?_
    rintro e w1 ⟨rfl, hst⟩
    replace hst := Lib.hid hst
    go_wp2
    go_ret
    exact ⟨rfl, hst.out.after hB0.out⟩
  have f0 : (d == 0) = false := by simpa using e0
  have f1 : (d == 1) = false := by simpa using e1
  have f2 : (d == 2) = false := by simpa using e2
  have f3 : (d == 3) = false := by simpa using e3
  have f4 : (d == 4) = false := by simpa using e4
  have f5 : (d == 5) = false := by simpa using e5
  have f6 : (d == 6) = false := by simpa using e6
  have f7 : (d == 7) = false := by simpa using e7
  rw [if_neg e0, if_neg e1, if_neg e2, if_neg e3, if_neg e4, if_neg e5, if_neg e6, if_neg e7]
  clear e0 e1 e2 e3 e4 e5 e6 e7 q0 q1 q2 q3 q4 q5 q6 q7
  go_enter Tryz.func31, Tryz.ntmps31
  go_wp2
  go_ret
  exact ⟨rfl, Stp.same hR.out hB0.out⟩

end Go.Proofs.YtocbjhhnginebaaGreat

namespace Go.Proofs.YtocbjhhnginebaaGreat
open Go.RowKit

/-- v reads as the acts l. -/
def Acts (W : World) (v : Value) (l : List Act17) : Prop :=
  ∃ A c, v = .slice A l.length c ∧ l.length ≤ c ∧ c ≤ maxLen ∧ ∀ k (h : k < l.length), ∃ g o dv, A = some ⟨g, o, none⟩ ∧ RdB W dv (l[k]).data ∧ ∀ j, j < 9 → W.cell? ⟨g, o + k * 9 + j, none⟩ = (actCells l[k] dv)[j]?

theorem cell_lt {W : World} {a : Addr} {v : Value} (h : W.cell? a = some v) : a.block < W.heap.size := by
  rcases Nat.lt_or_ge a.block W.heap.size with h1 | h1
  · exact h1
  · simp [World.cell?, Array.getElem?_eq_none h1] at h

theorem Acts.below {W W' : World} {v : Value} {l : List Act17} (h : Acts W v l) (hb : Below W.heap.size W W') : Acts W' v l := by
  obtain ⟨A, c, h1, h2, h3, h4⟩ := h
  refine ⟨A, c, h1, h2, h3, fun k hk => ?_⟩
  obtain ⟨g, o, dv, e, h5, h6⟩ := h4 k hk
  refine ⟨g, o, dv, e, h5.below hb, fun j hj => ?_⟩
  have h7 := h6 0 (by omega)
  have hlt : g < W.heap.size := cell_lt (a := ⟨g, o + k * 9 + 0, none⟩) h7
  rw [← h6 j hj]
  simp only [World.cell?, hb.block g hlt]

def actOk (a : Act17) : Bool := decide (a.data.length ≤ 400) && decide (a.path.length ≤ 600) && decide (a.arg.length ≤ 600)
def small (l : List Act17) : Bool := l.all actOk && decide (l.length ≤ 40)

theorem ret_bool {a b : Bool} (h : a = b) : Ending.returned (.bool a) = .returned (.bool b) := by rw [h]

theorem all_take_snoc {α : Type} (f : α → Bool) (l : List α) {k : Nat} (hk : k < l.length) : (l.take (k + 1)).all f = ((l.take k).all f && f l[k]) := by
  rw [List.take_succ_eq_append_getElem hk, List.all_append]
  simp

theorem all_not {α : Type} {f : α → Bool} {l : List α} {k : Nat} (hk : k < l.length) (h : f l[k] = false) : l.all f = false := by
  rw [Bool.eq_false_iff]
  intro h2
  have := List.all_eq_true.1 h2 _ (List.getElem_mem hk)
  rw [h] at this
  cases this

set_option maxHeartbeats 2000000 in
set_option maxRecDepth 100000 in
theorem small_calls (v : Value) (l : List Act17) (w : World) (hv : Acts w v l) :
    Calls Tryz.prog 8 #[v] w fun e w' => e = .returned (.bool (small l)) ∧ w = w' := by
  obtain ⟨A, c, rfl, h2, h3, h4⟩ := hv
  unfold maxLen at h3
  replace h4 := Lib.hid h4
  go_enter Tryz.func8, Tryz.ntmps8
  go_wp2_with fail
  go_loop [3] (fun i => ∃ k : Nat, i = .int .i64 k ∧ k ≤ l.length ∧ (l.take k).all actOk = true) (fun i => l.length - (intOf i).toNat)
  case atStart => exact ⟨0, rfl, Nat.zero_le _, by simp⟩
  case round =>
    obtain ⟨k, rfl, hk, hall⟩ := hrel
    replace hall := Lib.hid hall
    by_cases hlt : k < l.length
    · obtain ⟨g, o, dv, rfl, hdv, hc⟩ := h4.out k hlt
      obtain ⟨dA, dc, rfl, _, _⟩ := hdv
      have c1 : w.cell? ⟨g, o + k * 9 + 1, none⟩ = some (.string (mkS (l[k]).path)) := hc 1 (by decide)
      have c2 : w.cell? ⟨g, o + k * 9 + 2, none⟩ = some (.string (mkS (l[k]).arg)) := hc 2 (by decide)
      have c3 : w.cell? ⟨g, o + k * 9 + 3, none⟩ = some (.slice dA (l[k]).data.length dc) := hc 3 (by decide)
      clear hc
      have hs1 := mkS_size (l[k]).path
      have hs2 := mkS_size (l[k]).arg
      have hat := all_take_snoc actOk l hlt
      have hno := all_not (f := actOk) (l := l) hlt
      replace hat := Lib.hid hat
      replace hno := Lib.hid hno
      have hbad : actOk l[k] = false → small l = false := fun h => by unfold small; rw [hno.out h]; rfl
      have hgood : actOk l[k] = true → (l.take (k + 1)).all actOk = true := fun h => by rw [hat.out, hall.out, h]; rfl
      replace hbad := Lib.hid hbad
      replace hgood := Lib.hid hgood
      go_wp2
      all_goals first
        | (go_round
           case rel => exact ⟨k + 1, by go_num, by omega, hgood.out (by unfold actOk; simp only [Bool.and_eq_true, decide_eq_true_eq]; omega)⟩
           case measure => simp [intOf]; omega)
        | (go_ret
           rw [hbad.out (by unfold actOk; simp only [Bool.and_eq_false_iff, decide_eq_false_iff_not]; omega)]
           exact ⟨rfl, rfl⟩)
    · obtain rfl : k = l.length := by omega
      rw [List.take_length] at hall
      have hfin : small l = decide (l.length ≤ 40) := by unfold small; rw [hall.out]; rfl
      replace hfin := Lib.hid hfin
      go_wp2
      go_ret
      rw [hfin.out]
      exact ⟨ret_bool (by rw [Bool.eq_iff_iff]; simp only [decide_eq_true_eq]; omega), rfl⟩

/-! ### how much an act adds -/

def Grow (T T' : Fs) : Prop := T'.names.length ≤ T.names.length + 1 ∧ T'.next ≤ T.next + 1
theorem grow_refl (T : Fs) : Grow T T := ⟨Nat.le_succ _, Nat.le_succ _⟩
theorem grow_add (T : Fs) (p : Pt) (n : Nd) : Grow T (T.add p n) := ⟨by simp [Fs.add], by simp [Fs.add]⟩
theorem grow_set (T : Fs) (i : Nat) (n : Nd) : Grow T (T.set i n) := ⟨by simp [Fs.set], by simp [Fs.set]⟩
theorem grow_name (T : Fs) (p : Pt) (i : Nat) : Grow T (T.name p i) := ⟨by simp [Fs.name], by simp [Fs.name]⟩
theorem gone_few (T : Fs) (p : Pt) (i : Nat) : (T.gone p i).names.length ≤ T.names.length := List.length_filter_le _ _
theorem grow_gone (T : Fs) (p : Pt) (i : Nat) : Grow T (T.gone p i) := ⟨Nat.le_succ_of_le (gone_few T p i), by simp [Fs.gone]⟩
theorem grow_move (T : Fs) (o p : Pt) : Grow T (T.move o p) := ⟨by simp [Fs.move], by simp [Fs.move]⟩
theorem grow_over (T : Fs) (o p : Pt) (j : Nat) : Grow T ((T.gone p j).move o p) := ⟨by have := gone_few T p j; simp [Fs.move]; omega, by simp [Fs.move, Fs.gone]⟩

theorem grow_act (T : Fs) (a : Act17) : Grow T (T.act a).1 := by
  have g1 : ∀ s m, Grow T (T.mkdir s m).1 := fun s m => by unfold Fs.mkdir; (repeat' split); all_goals first | exact grow_refl T | exact grow_add T _ _
  have g2 : ∀ s b m, Grow T (T.write s b m).1 := fun s b m => by unfold Fs.write; (repeat' split); all_goals first | exact grow_refl T | exact grow_add T _ _ | exact grow_set T _ _
  have g3 : ∀ s t m, Grow T (T.symlink s t m).1 := fun s t m => by unfold Fs.symlink; (repeat' split); all_goals first | exact grow_refl T | exact grow_add T _ _
  have g4 : ∀ o p, Grow T (T.link o p).1 := fun o p => by unfold Fs.link; (repeat' split); all_goals first | exact grow_refl T | exact grow_name T _ _
  have g5 : ∀ s, Grow T (T.remove s).1 := fun s => by unfold Fs.remove; (repeat' split); all_goals first | exact grow_refl T | exact grow_gone T _ _
  have g6 : ∀ o p, Grow T (T.rename o p).1 := fun o p => by unfold Fs.rename Fs.ren2 Fs.ren3; (repeat' split); all_goals first | exact grow_refl T | exact grow_move T _ _ | exact grow_over T _ _ _
  have g7 : ∀ s m, Grow T (T.setM s m).1 := fun s m => by unfold Fs.setM; (repeat' split); all_goals first | exact grow_refl T | exact grow_set T _ _
  have g8 : ∀ s b, Grow T (T.append s b).1 := fun s b => by unfold Fs.append; (repeat' split); all_goals first | exact grow_refl T | exact grow_set T _ _
  unfold Fs.act
  repeat' split
  all_goals first | exact g1 _ _ | exact g2 _ _ _ | exact g3 _ _ _ | exact g4 _ _ | exact g5 _ | exact g6 _ _ | exact g7 _ _ | exact g8 _ _ | exact grow_refl T

def Fs.acts (T : Fs) (l : List Act17) : Fs := l.foldl (fun T a => (T.act a).1) T
def Fs.build (l : List Act17) : Fs := Fs.start.acts l
theorem acts_snoc (T : Fs) (l : List Act17) (a : Act17) : T.acts (l ++ [a]) = ((T.acts l).act a).1 := by simp [Fs.acts]
theorem acts_grow (T : Fs) : ∀ l : List Act17, (T.acts l).names.length ≤ T.names.length + l.length ∧ (T.acts l).next ≤ T.next + l.length := by
  refine snoc_rec (by simp [Fs.acts]) fun l a ih => ?_
  rw [acts_snoc]
  have := grow_act (T.acts l) a
  obtain ⟨h1, h2⟩ := this
  simp only [List.length_append, List.length_singleton]
  omega

/-- A call on a tree of one's own leaves what was there. -/
theorem Stp.mine {w wr w' : World} {tb : Nat} {A M : Nat → Nat} {T T' : Fs} (hB : Below w.heap.size w wr) (hown : ∀ b, Own tb A M T b → w.heap.size ≤ b) (hs : Stp wr w' tb A M T T') : Below w.heap.size w w' ∧ ∃ A' M', Rep w' tb A' M' T' ∧ ∀ b, Own tb A' M' T' b → w.heap.size ≤ b := by
  obtain ⟨A', M', h1, h2, h3⟩ := hs
  refine ⟨hB.trans ⟨h2.os, h2.tape, h2.output, h2.size, fun k hk => h2.block k (Nat.lt_of_lt_of_le hk hB.size) (fun h => by have := hown k h; omega)⟩, A', M', h1, fun b hb => ?_⟩
  rcases h3 b hb with h | h
  · exact hown b h
  · exact Nat.le_trans hB.size h

theorem small_at {l : List Act17} (h : small l = true) : l.length ≤ 40 ∧ ∀ a ∈ l, a.data.length ≤ 400 ∧ a.path.length ≤ 600 ∧ a.arg.length ≤ 600 := by
  unfold small at h
  simp only [Bool.and_eq_true, decide_eq_true_eq, List.all_eq_true] at h
  refine ⟨h.2, fun a ha => ?_⟩
  have := h.1 a ha
  unfold actOk at this
  simp only [Bool.and_eq_true, decide_eq_true_eq] at this
  exact ⟨this.1.1, this.1.2, this.2⟩

set_option maxHeartbeats 4000000 in
set_option maxRecDepth 100000 in
theorem build_calls (v : Value) (l : List Act17) (w : World) (hv : Acts w v l) (hs : small l = true) :
    Calls Tryz.prog 11 #[v] w (NewTree w (Fs.build l)) := by
  obtain ⟨hl40, hsm⟩ := small_at hs
  have hv0 := hv
  obtain ⟨A, c, rfl, h2, h3, h4⟩ := hv
  unfold maxLen at h3
  have hnew := new_calls w
  replace h4 := Lib.hid h4
  replace hsm := Lib.hid hsm
  replace hnew := Lib.hid hnew
  replace hv0 := Lib.hid hv0
  clear hs
  go_enter Tryz.func11, Tryz.ntmps11
  go_wp2_with fail
  refine hnew.out.mono ?_
  rintro e w0 ⟨tc, C, MC, rfl, hR0, hO0, hB0⟩
  replace hR0 := Lib.hid hR0
  replace hO0 := Lib.hid hO0
  replace hB0 := Lib.hid hB0
  go_wp2_with fail
  go_loopw [4] (fun i wr => ∃ (k : Nat) (C1 MC1 : Nat → Nat), i = .int .i64 k ∧ k ≤ l.length ∧ Rep wr tc C1 MC1 (Fs.build (l.take k)) ∧ (∀ b, Own tc C1 MC1 (Fs.build (l.take k)) b → w.heap.size ≤ b) ∧ Below w.heap.size w wr) (fun i _ => l.length - (intOf i).toNat)
  case atStart => exact ⟨0, C, MC, rfl, Nat.zero_le _, hR0.out, hO0.out, hB0.out⟩
  case round =>
    clear hR0 hO0 hB0
    obtain ⟨k, C1, MC1, rfl, hk, hR, hO, hB⟩ := hrel
    by_cases hlt : k < l.length
    · obtain ⟨g, o, dv, rfl, hdv, hc⟩ := h4.out k hlt
      obtain ⟨h5, h6, h7⟩ := hsm.out _ (List.getElem_mem hlt)
      have hgr := acts_grow Fs.start (l.take k)
      have hnm : (Fs.build (l.take k)).names.length ≤ 1000000 := by
        have h8 : (l.take k).length ≤ k := List.length_take_le _ _
        have : (Fs.build (l.take k)).names.length ≤ Fs.start.names.length + (l.take k).length := hgr.1
        have h9 : Fs.start.names.length = 1 := rfl
        omega
      have hnx : (Fs.build (l.take k)).next < 4611686018427387904 := by
        have h8 : (l.take k).length ≤ k := List.length_take_le _ _
        have : (Fs.build (l.take k)).next ≤ Fs.start.next + (l.take k).length := hgr.2
        have h9 : Fs.start.next = 2 := rfl
        omega
      have hdv' := hdv.below hB
      have hglt : g < w.heap.size := cell_lt (a := ⟨g, o + k * 9 + 0, none⟩) (hc 0 (by decide))
      have hc' : ∀ j, j < 9 → wr.cell? ⟨g, o + k * 9 + j, none⟩ = (actCells l[k] dv)[j]? := fun j hj => by
        rw [← hc j hj]
        simp only [World.cell?, hB.block g hglt]
      have hcall := do_calls tc C1 MC1 (Fs.build (l.take k)) l[k] dv wr hR (by omega) (by omega) hdv' (by omega) hnx hnm
      have hbs : ((Fs.build (l.take k)).act l[k]).1 = Fs.build (l.take (k + 1)) := by
        rw [List.take_succ_eq_append_getElem hlt]
        exact (acts_snoc _ _ _).symm
      rw [hbs] at hcall
      have d0 : wr.cell? ⟨g, o + k * 9, none⟩ = some (.int .i64 (l[k]).d) := hc' 0 (by decide)
      have d1 : wr.cell? ⟨g, o + k * 9 + 1, none⟩ = some (.string (mkS (l[k]).path)) := hc' 1 (by decide)
      have d2 : wr.cell? ⟨g, o + k * 9 + 2, none⟩ = some (.string (mkS (l[k]).arg)) := hc' 2 (by decide)
      have d3 : wr.cell? ⟨g, o + k * 9 + 3, none⟩ = some dv := hc' 3 (by decide)
      have d4 : wr.cell? ⟨g, o + k * 9 + 4, none⟩ = some (.int .i64 (l[k]).mt.mode) := hc' 4 (by decide)
      have d5 : wr.cell? ⟨g, o + k * 9 + 5, none⟩ = some (.int .i64 (l[k]).mt.sec) := hc' 5 (by decide)
      have d6 : wr.cell? ⟨g, o + k * 9 + 6, none⟩ = some (.int .i64 (l[k]).mt.nano) := hc' 6 (by decide)
      have d7 : wr.cell? ⟨g, o + k * 9 + 7, none⟩ = some (.int .i64 (l[k]).mt.uid) := hc' 7 (by decide)
      have d8 : wr.cell? ⟨g, o + k * 9 + 8, none⟩ = some (.int .i64 (l[k]).mt.gid) := hc' 8 (by decide)
      have hfin := fun w' (hst : Stp wr w' tc C1 MC1 (Fs.build (l.take k)) (Fs.build (l.take (k + 1)))) => Stp.mine hB hO hst
      unfold actV actCells ptr at hcall
      replace hcall := Lib.hid hcall
      replace hfin := Lib.hid hfin
      clear hR hO hB hc hc' hdv hdv' hbs hgr hnm hnx
      go_wp2_with fail
      refine hcall.out.mono ?_
      rintro e w1 ⟨rfl, hst⟩
      obtain ⟨hB1, C2, MC2, hR2, hO2⟩ := hfin.out w1 hst
      replace hB1 := Lib.hid hB1
      replace hR2 := Lib.hid hR2
      replace hO2 := Lib.hid hO2
      clear hst hfin hcall
      go_wp2
      go_roundw
      case rel => exact ⟨k + 1, C2, MC2, by go_num, by omega, hR2.out, hO2.out, hB1.out⟩
      case measure => simp [intOf]; omega
    · obtain rfl : k = l.length := by omega
      rw [List.take_length] at hR hO
      replace hR := Lib.hid hR
      replace hO := Lib.hid hO
      replace hB := Lib.hid hB
      go_wp2
      go_ret
      exact ⟨tc, C1, MC1, rfl, hR.out, hO.out, hB.out⟩

end Go.Proofs.YtocbjhhnginebaaGreat

namespace Go.Proofs.YtocbjhhnginebaaGreat
open Go.RowKit

def aw1 : Fs := (Fs.start.write [97] [120] noMt).1
def aw2 : Fs := (aw1.link [97] [98]).1
def aw3 : Fs := (aw2.write [98] [121, 122] ⟨0, 3, 0, 0, 0⟩).1
theorem aw_1 : (Fs.start.write [97] [120] noMt).2 = 0 := by decide +kernel
theorem aw_2 : (aw1.link [97] [98]).2 = 0 := by decide +kernel
theorem aw_3 : (aw2.write [98] [121, 122] ⟨0, 3, 0, 0, 0⟩).2 = 0 := by decide +kernel
theorem aw_4 : aw3.stat [97] = (⟨1, 2, 2, 2, ⟨0, 3, 0, 0, 0⟩, []⟩, 0) := by decide +kernel
theorem aw_5 : (aw3.rename [97] [98]).2 = 0 := by decide +kernel
theorem aw_6 : ((aw3.rename [97] [98]).1.below []).length = 2 := by decide +kernel
theorem aw_7 : ((aw3.rename [97] [98]).1.mkdir [100, 47, 101] noMt).2 = 10 := by decide +kernel
theorem aw_8 : aw1.names.length ≤ 1000000 ∧ aw2.names.length ≤ 1000000 ∧ aw2.next < 4611686018427387904 ∧ aw3.names.length ≤ 1000000 ∧ (aw3.rename [97] [98]).1.names.length ≤ 1000000 ∧ (aw3.rename [97] [98]).1.next < 4611686018427387904 := by decide +kernel

theorem rdb_const (w : World) (l : Bytes) (C : Array Value) (f : Nat × Nat) (hC : C.toList = byteCells l) (hm : l.length ≤ maxLen) : RdB (w.alloc (.cells C 5 f)) (.slice (some ⟨w.heap.size, 0, none⟩) l.length l.length) l := by
  refine ⟨_, _, rfl, Nat.le_refl _, hm, fun j hj => ⟨_, 0, rfl, ?_⟩⟩
  have h := (MapKept.heap_alloc w (.cells C 5 f)).1
  have hget : C[j]? = (byteCells l)[j]? := by rw [← hC, Array.getElem?_toList]
  simp only [World.cell?, h, Nat.zero_add, hget]
  simp [byteCells, hj]

end Go.Proofs.YtocbjhhnginebaaGreat

namespace Go.Proofs.YtocbjhhnginebaaGreat
open Go.RowKit Go.ChangeShapes Go.WideShapes Go.Deep

section
variable {H : Type} {enc : TypeId × Value → H} {W : World} {spare : Nat → Bool} {held : Bool}

theorem laid_ok : laidOutB Tryz.prog = true := by kernel_rfl

theorem open_bytes {fuel : Nat} {cs : List Value} {x : DataW H × List MemPlace} (h : DataW.trod enc Tryz.prog W 0 spare held fuel 62 cs = some x) : ∃ v l, cs = [v] ∧ RdB W v l := by
  rcases open_ints Tryz.underlying62 Tryz.underlying5 (by kernel_rfl) h with ⟨rfl, _⟩ | ⟨a, len, cap, zs, rfl, _, h1, h2, h3, _, h5, h6⟩
  · exact ⟨_, [], rfl, none, 0, rfl, Nat.le_refl _, Nat.zero_le _, fun j hj => by simp at hj⟩
  · have hle : len ≤ zs.length := by rw [h3]; split <;> omega
    refine ⟨_, (zs.take len).map fun n => UInt8.ofNat n.toNat, rfl, some a, cap, ?_, ?_, h2, fun j hj => ?_⟩
    · simp; omega
    · simp; omega
    · have hj' : j < len := by simp at hj; omega
      have hc := h5 j (by omega)
      have hsp := World.cell?_spot (h5 0 (by omega))
      obtain ⟨g, o, s⟩ := a
      have hs : s = none := by
        have e : (⟨g, o, s⟩ : Addr).add 0 = ⟨g, o, s⟩ := by simp [Addr.add]
        rw [e] at hsp
        exact hsp
      subst hs
      refine ⟨g, o, rfl, ?_⟩
      rw [add_plain] at hc
      rw [hc]
      have hwf := h6 (zs.getD j 0) (by simp [List.getD]; rw [List.getElem?_eq_getElem (by omega)]; simp)
      simp only [Lit.wf, Bool.and_eq_true, decide_eq_true_eq] at hwf
      have h0 : (0 : Int) ≤ zs.getD j 0 := hwf.1
      have h255 : zs.getD j 0 ≤ 255 := hwf.2
      congr 2
      simp only [List.getElem_map, List.getElem_take]
      have hz : zs.getD j 0 = zs[j] := by simp [List.getD]; rw [List.getElem?_eq_getElem (by omega)]; rfl
      rw [hz] at h0 h255 ⊢
      simp only [UInt8.toNat_ofNat']
      omega

set_option maxRecDepth 100000 in
theorem act_of_cells {fuel : Nat} {cs : List Value} {x : DataW H × List MemPlace} (h : DataW.trod enc Tryz.prog W 0 spare held fuel 64 cs = some x) : ∃ a dv, cs = actCells a dv ∧ RdB W dv a.data := by
  obtain ⟨xs, n, _, _, hl, hxl, hf⟩ := DataW.trod_struct Tryz.underlying64 h
  have hl9 : cs.length = 9 := hl.trans (by kernel_rfl)
  match cs, hl9 with
  | [c0, c1, c2, c3, c4, c5, c6, c7, c8], _ =>
    have hx : ∀ i, i < 5 → ∃ y, xs[i]? = some y := fun i hi => ⟨_, List.getElem?_eq_getElem (by rw [hxl]; exact hi)⟩
    obtain ⟨y0, e0⟩ := hx 0 (by decide)
    obtain ⟨y1, e1⟩ := hx 1 (by decide)
    obtain ⟨y2, e2⟩ := hx 2 (by decide)
    obtain ⟨y3, e3⟩ := hx 3 (by decide)
    obtain ⟨y4, e4⟩ := hx 4 (by decide)
    have f0 : DataW.trod enc Tryz.prog W 0 spare held n 3 (([c0, c1, c2, c3, c4, c5, c6, c7, c8].drop 0).take (Tryz.prog.cellsOf 3)) = some y0 := (hf 0 _ rfl).trans e0
    have f1 : DataW.trod enc Tryz.prog W 0 spare held n 9 (([c0, c1, c2, c3, c4, c5, c6, c7, c8].drop 1).take (Tryz.prog.cellsOf 9)) = some y1 := (hf 1 _ rfl).trans e1
    have f2 : DataW.trod enc Tryz.prog W 0 spare held n 9 (([c0, c1, c2, c3, c4, c5, c6, c7, c8].drop 2).take (Tryz.prog.cellsOf 9)) = some y2 := (hf 2 _ rfl).trans e2
    have f3 : DataW.trod enc Tryz.prog W 0 spare held n 62 (([c0, c1, c2, c3, c4, c5, c6, c7, c8].drop 3).take (Tryz.prog.cellsOf 62)) = some y3 := (hf 3 _ rfl).trans e3
    have f4 : DataW.trod enc Tryz.prog W 0 spare held n 40 (([c0, c1, c2, c3, c4, c5, c6, c7, c8].drop 4).take (Tryz.prog.cellsOf 40)) = some y4 := (hf 4 _ rfl).trans e4
    have k1 : Tryz.prog.cellsOf 3 = 1 := by kernel_rfl
    have k2 : Tryz.prog.cellsOf 9 = 1 := by kernel_rfl
    have k3 : Tryz.prog.cellsOf 62 = 1 := by kernel_rfl
    have k4 : Tryz.prog.cellsOf 40 = 5 := by kernel_rfl
    rw [k1] at f0
    rw [k2] at f1 f2
    rw [k3] at f3
    rw [k4] at f4
    simp only [List.drop_zero, List.drop_succ_cons, List.take_succ_cons, List.take_zero] at f0 f1 f2 f3 f4
    obtain ⟨d, q0, _⟩ := DataW.trod_int Tryz.underlying3 f0
    obtain ⟨p, q1, _⟩ := DataW.trod_string Tryz.underlying9 f1
    obtain ⟨t, q2, _⟩ := DataW.trod_string Tryz.underlying9 f2
    obtain ⟨dv, l, q3, hrd⟩ := open_bytes f3
    obtain ⟨zs, n', _, _, _, hzl, hg⟩ := DataW.trod_struct Tryz.underlying40 f4
    have hz : ∀ i, i < 5 → ∃ y, zs[i]? = some y := fun i hi => ⟨_, List.getElem?_eq_getElem (by rw [hzl]; exact hi)⟩
    obtain ⟨z0, u0⟩ := hz 0 (by decide)
    obtain ⟨z1, u1⟩ := hz 1 (by decide)
    obtain ⟨z2, u2⟩ := hz 2 (by decide)
    obtain ⟨z3, u3⟩ := hz 3 (by decide)
    obtain ⟨z4, u4⟩ := hz 4 (by decide)
    have g0 : DataW.trod enc Tryz.prog W 0 spare held n' 3 (([c4, c5, c6, c7, c8].drop 0).take (Tryz.prog.cellsOf 3)) = some z0 := (hg 0 _ rfl).trans u0
    have g1 : DataW.trod enc Tryz.prog W 0 spare held n' 3 (([c4, c5, c6, c7, c8].drop 1).take (Tryz.prog.cellsOf 3)) = some z1 := (hg 1 _ rfl).trans u1
    have g2 : DataW.trod enc Tryz.prog W 0 spare held n' 3 (([c4, c5, c6, c7, c8].drop 2).take (Tryz.prog.cellsOf 3)) = some z2 := (hg 2 _ rfl).trans u2
    have g3 : DataW.trod enc Tryz.prog W 0 spare held n' 3 (([c4, c5, c6, c7, c8].drop 3).take (Tryz.prog.cellsOf 3)) = some z3 := (hg 3 _ rfl).trans u3
    have g4 : DataW.trod enc Tryz.prog W 0 spare held n' 3 (([c4, c5, c6, c7, c8].drop 4).take (Tryz.prog.cellsOf 3)) = some z4 := (hg 4 _ rfl).trans u4
    rw [k1] at g0 g1 g2 g3 g4
    simp only [List.drop_zero, List.drop_succ_cons, List.take_succ_cons, List.take_zero] at g0 g1 g2 g3 g4
    obtain ⟨m0, v0, _⟩ := DataW.trod_int Tryz.underlying3 g0
    obtain ⟨m1, v1, _⟩ := DataW.trod_int Tryz.underlying3 g1
    obtain ⟨m2, v2, _⟩ := DataW.trod_int Tryz.underlying3 g2
    obtain ⟨m3, v3, _⟩ := DataW.trod_int Tryz.underlying3 g3
    obtain ⟨m4, v4, _⟩ := DataW.trod_int Tryz.underlying3 g4
    refine ⟨⟨d, bl p, bl t, l, ⟨m0, m1, m2, m3, m4⟩⟩, dv, ?_, hrd⟩
    simp only [List.cons.injEq, and_true] at q0 q1 q2 q3 v0 v1 v2 v3 v4
    subst q0 q1 q2 q3 v0 v1 v2 v3 v4
    simp [actCells, mkS_bl]

theorem choose_acts {m : Nat} {p : Nat → Act17 → Value → Prop} (h : ∀ i, i < m → ∃ a v, p i a v) : ∃ l : List Act17, l.length = m ∧ ∀ i (hi : i < l.length), ∃ v, p i l[i] v := by
  induction m with
  | zero => exact ⟨[], rfl, fun i hi => by simp at hi⟩
  | succ m ih =>
    obtain ⟨l, h1, h2⟩ := ih (fun i hi => h i (by omega))
    obtain ⟨a, v, hav⟩ := h m (by omega)
    refine ⟨l ++ [a], by simp [h1], fun i hi => ?_⟩
    by_cases hl : i < l.length
    · rw [List.getElem_append_left hl]
      exact h2 i hl
    · have : i = l.length := by simp at hi; omega
      subst this
      rw [List.getElem_append_right (Nat.le_refl _)]
      simp only [Nat.sub_self, List.getElem_cons_zero]
      exact ⟨v, by rw [h1]; exact hav⟩

set_option maxRecDepth 100000 in
theorem open_acts {v : Value} {d : DataW H} {ps : List MemPlace} {r : Reach} {b0 : Nat} (hv : Value.okWide Tryz.prog W r b0 22 v) (h : DataW.Trod enc Tryz.prog W 0 spare held 22 v d ps) : ∃ l, Acts W v l := by
  obtain ⟨fuel, hf⟩ := h
  rcases open_slice Tryz.underlying22 hf with ⟨e, _⟩ | ⟨a, len, cap, m, n, D, Pl, e, _, h1, h2, hm, _, hel⟩
  · obtain ⟨A', n', c', rfl⟩ := okWide_slice Tryz.underlying22 hv
    have e2 : [Value.slice A' n' c'] = [Value.slice none 0 0] := e
    simp only [List.cons.injEq, Value.slice.injEq, and_true] at e2
    obtain ⟨rfl, rfl, rfl⟩ := e2
    exact ⟨[], none, 0, rfl, Nat.le_refl _, Nat.zero_le _, fun k hk => by simp at hk⟩
  · obtain ⟨A', n', c', rfl⟩ := okWide_slice Tryz.underlying22 hv
    have e2 : [Value.slice A' n' c'] = [Value.slice (some a) len cap] := e
    simp only [List.cons.injEq, Value.slice.injEq, and_true] at e2
    obtain ⟨rfl, rfl, rfl⟩ := e2
    have hlm : n' ≤ m := by rw [hm]; split <;> omega
    have k9 : Tryz.prog.cellsOf 64 = 9 := by kernel_rfl
    rw [k9] at hel
    have hspot : ∀ i, i < n' → a.spot = none := fun i hi => by
      obtain ⟨cs, hc, ht⟩ := hel 0 (by omega)
      obtain ⟨a', dv, rfl, hrd⟩ := act_of_cells ht
      obtain ⟨_, _, hat⟩ := World.cells?_some hc
      have := World.cell?_spot ((hat 0 (by decide)).trans rfl)
      simpa [Addr.add] using this
    obtain ⟨l, hl1, hl2⟩ := choose_acts (m := n') (p := fun i a' dv => RdB W dv a'.data ∧ ∃ g o, a = ⟨g, o, none⟩ ∧ ∀ j, j < 9 → W.cell? ⟨g, o + i * 9 + j, none⟩ = (actCells a' dv)[j]?) (fun i hi => by
      obtain ⟨cs, hc, ht⟩ := hel i (by omega)
      obtain ⟨a', dv, rfl, hrd⟩ := act_of_cells ht
      obtain ⟨_, _, hat⟩ := World.cells?_some hc
      refine ⟨a', dv, hrd, ?_⟩
      obtain ⟨g, o, s⟩ := a
      have hs : s = none := hspot i hi
      subst hs
      refine ⟨g, o, rfl, fun j hj => ?_⟩
      have := hat j hj
      rw [add_plain, add_plain] at this
      exact this)
    refine ⟨l, some a, c', by rw [hl1], by omega, h2, fun k hk => ?_⟩
    obtain ⟨dv, hrd, g, o, rfl, hc⟩ := hl2 k hk
    exact ⟨g, o, dv, rfl, hrd, hc⟩

set_option maxRecDepth 100000 in
theorem open_act {v : Value} {d : DataW H} {ps : List MemPlace} {r : Reach} {b0 : Nat} (hv : Value.okWide Tryz.prog W r b0 64 v) (h : DataW.Trod enc Tryz.prog W 0 spare held 64 v d ps) : ∃ a dv, v = actV a dv ∧ RdB W dv a.data := by
  obtain ⟨cs, rfl, hsz⟩ := okWide_struct Tryz.underlying64 hv
  obtain ⟨fuel, hf⟩ := h
  have hf' : DataW.trod enc Tryz.prog W 0 spare held fuel 64 cs.toList = some (d, ps) := hf
  obtain ⟨a, dv, e, hrd⟩ := act_of_cells hf'
  refine ⟨a, dv, ?_, hrd⟩
  unfold actV
  rw [← e]

end

end Go.Proofs.YtocbjhhnginebaaGreat

namespace Go.Proofs.YtocbjhhnginebaaGreat
open Go.RowKit

def ErrKeeps (T : Fs) (r : Fs × Int) : Prop := r.2 ≠ 0 → r.1 = T
theorem err_same (T : Fs) (e : Int) : ErrKeeps T (T, e) := fun _ => rfl
theorem err_ok (T T' : Fs) : ErrKeeps T (T', 0) := fun h => absurd rfl h

/-- ALL OR NOTHING, the plain law. -/
theorem act_err (T : Fs) (a : Act17) : ErrKeeps T (T.act a) := by
  have g1 : ∀ s m, ErrKeeps T (T.mkdir s m) := fun s m => by unfold Fs.mkdir; (repeat' split); all_goals first | exact err_same T _ | exact err_ok T _
  have g2 : ∀ s b m, ErrKeeps T (T.write s b m) := fun s b m => by unfold Fs.write; (repeat' split); all_goals first | exact err_same T _ | exact err_ok T _
  have g3 : ∀ s t m, ErrKeeps T (T.symlink s t m) := fun s t m => by unfold Fs.symlink; (repeat' split); all_goals first | exact err_same T _ | exact err_ok T _
  have g4 : ∀ o p, ErrKeeps T (T.link o p) := fun o p => by unfold Fs.link; (repeat' split); all_goals first | exact err_same T _ | exact err_ok T _
  have g5 : ∀ s, ErrKeeps T (T.remove s) := fun s => by unfold Fs.remove; (repeat' split); all_goals first | exact err_same T _ | exact err_ok T _
  have g6 : ∀ o p, ErrKeeps T (T.rename o p) := fun o p => by unfold Fs.rename Fs.ren2 Fs.ren3; (repeat' split); all_goals first | exact err_same T _ | exact err_ok T _
  have g7 : ∀ s m, ErrKeeps T (T.setM s m) := fun s m => by unfold Fs.setM; (repeat' split); all_goals first | exact err_same T _ | exact err_ok T _
  have g8 : ∀ s b, ErrKeeps T (T.append s b) := fun s b => by unfold Fs.append; (repeat' split); all_goals first | exact err_same T _ | exact err_ok T _
  unfold Fs.act
  repeat' split
  all_goals first | exact g1 _ _ | exact g2 _ _ _ | exact g3 _ _ _ | exact g4 _ _ | exact g5 _ | exact g6 _ _ | exact g7 _ _ | exact g8 _ _ | exact err_same T _

/-- A tree apart from another one stays where the other one turns. -/
theorem Rep.beside {w w' : World} {tb ub : Nat} {A M B N : Nat → Nat} {T U : Fs} (hU : Rep w ub B N U) (hT : Rep w tb A M T) (hd : ∀ b, Own ub B N U b → ¬ Own tb A M T b) (ht : Turn w w' (Own tb A M T)) : Rep w' ub B N U :=
  hU.kept (fun b hb => ht.block b (hU.lt hb) (hd b hb)) (fun g ⟨cs, hg⟩ => ht.block g (Array.getElem?_eq_some_iff.1 hg).1 (hT.not_own hg (by decide) (by decide)))

/-- .. and so do both, apart still. -/
theorem Stp.two {w w' : World} {tb ub : Nat} {A M B N : Nat → Nat} {T T' U : Fs} (hU : Rep w ub B N U) (hT : Rep w tb A M T) (hd : ∀ b, Own ub B N U b → ¬ Own tb A M T b) (hs : Stp w w' tb A M T T') :
    Rep w' ub B N U ∧ ∃ A' M', Rep w' tb A' M' T' ∧ (∀ b, Own ub B N U b → ¬ Own tb A' M' T' b) ∧ ∀ b, Own tb A' M' T' b → Own tb A M T b ∨ w.heap.size ≤ b := by
  obtain ⟨A', M', h1, h2, h3⟩ := hs
  refine ⟨hU.beside hT hd h2, A', M', h1, fun b hb hb2 => ?_, h3⟩
  rcases h3 b hb2 with h | h
  · exact hd b hb h
  · have := hU.lt hb
    omega

theorem small_not {l : List Act17} (h : small l ≠ true) : small l = false := by
  cases hs : small l with
  | true => exact absurd hs h
  | false => rfl

/-- An act in a block of its own, as a list. -/
theorem acts_one (w : World) (a : Act17) (dv : Value) (C : Array Value) (hC : C.toList = actCells a dv) (hv : RdB w dv a.data) : Acts (w.alloc (.cells C 64)) (.slice (some ⟨w.heap.size, 0, none⟩) 1 1) [a] := by
  refine ⟨_, 1, rfl, Nat.le_refl _, by simp [maxLen], fun k hk => ?_⟩
  have : k = 0 := by simp at hk; omega
  subst this
  refine ⟨_, 0, dv, rfl, hv.below ((Below.refl _ _).alloc (Nat.le_refl _) _), fun j hj => ?_⟩
  have h := (MapKept.heap_alloc w (.cells C 64)).1
  have h2 : C[j]? = (actCells a dv)[j]? := by rw [← hC, Array.getElem?_toList]
  simp only [World.cell?, h, Nat.zero_mul, Nat.zero_add, h2]
  rfl

end Go.Proofs.YtocbjhhnginebaaGreat

namespace Go.Proofs.YtocbjhhnginebaaGreat

section
variable {T : Fs}

theorem split_ne_nil {s : Bytes} (h : s ≠ []) : split s ≠ [] := fun e => h (split_eq_nil e)

theorem look_name (hI : T.Inv) {s : Bytes} {i : Nat} (hr : right s = true) (hm : (split s, i) ∈ T.names) : (T.look s).1 = some i ∧ (T.look s).2.2 = 0 := by
  unfold Fs.look
  rw [if_pos hr]
  by_cases hs : s = []
  · subst hs
    rw [if_pos rfl]
    exact ⟨by rw [hI.at_one hm hI.one], rfl⟩
  · rw [if_neg hs]
    obtain ⟨d, hd, hk⟩ := hI.up _ _ hm (split_ne_nil hs)
    rw [hI.at_some.2 hd]
    dsimp only
    rw [if_pos hk]
    exact ⟨hI.at_some.2 hm, rfl⟩

theorem there_name (hI : T.Inv) {s : Bytes} {i : Nat} (hr : right s = true) (hm : (split s, i) ∈ T.names) : (T.there s).1 = some i ∧ (T.there s).2.2 = 0 := by
  obtain ⟨h1, h2⟩ := look_name hI hr hm
  unfold Fs.there
  exact ⟨h1, by dsimp only; rw [if_neg (fun h => by rw [h1] at h; cases h.2), h2]⟩

theorem there_zero (hI : T.Inv) {s : Bytes} (h : (T.there s).2.2 = 0) : right s = true ∧ ∃ i, (T.there s).1 = some i ∧ (split s, i) ∈ T.names := by
  obtain ⟨h1, i, h2, h3, _⟩ := hI.there_ok h
  exact ⟨h1, i, h2, h3⟩

theorem stat_name (hI : T.Inv) {s : Bytes} {i : Nat} (hr : right s = true) (hm : (split s, i) ∈ T.names) : T.stat s = (T.tell (split s) i, 0) := by
  obtain ⟨h1, h2⟩ := there_name hI hr hm
  unfold Fs.stat
  rw [if_pos h2, h1]

theorem stat_zero (hI : T.Inv) {s : Bytes} (h : (T.stat s).2 = 0) : right s = true ∧ ∃ i, (split s, i) ∈ T.names ∧ T.stat s = (T.tell (split s) i, 0) := by
  have hz : (T.there s).2.2 = 0 := by
    unfold Fs.stat at h
    by_cases hz : (T.there s).2.2 = 0
    · exact hz
    · rw [if_neg hz] at h
      exact h
  obtain ⟨h1, i, _, h3⟩ := there_zero hI hz
  exact ⟨h1, i, h3, stat_name hI h1 h3⟩

theorem stat_none (hI : T.Inv) {s : Bytes} (h : ∀ i, (split s, i) ∉ T.names) : (T.stat s).2 ≠ 0 := fun h0 => by
  obtain ⟨_, i, hi, _⟩ := stat_zero hI h0
  exact h i hi

/-- What is missing right in a directory. -/
theorem stat_missing (hI : T.Inv) {s : Bytes} (hr : right s = true) (hs : s ≠ []) {d : Nat} (hd : ((split s).dropLast, d) ∈ T.names) (hk : (T.nd d).kind = 2) (h : T.at (split s) = none) : T.stat s = (noSt, 10) := by
  have hl : T.look s = (none, some d, 0) := by
    unfold Fs.look
    rw [if_pos hr, if_neg hs, hI.at_some.2 hd]
    dsimp only
    rw [if_pos hk, h]
  have ht : (T.there s).2.2 = 10 := by
    unfold Fs.there
    rw [hl]
    rfl
  unfold Fs.stat
  rw [if_neg (by rw [ht]; decide), ht]

theorem read_name (hI : T.Inv) {s : Bytes} {i : Nat} (hr : right s = true) (hm : (split s, i) ∈ T.names) (hk : (T.nd i).kind = 1) : T.read s = ((T.nd i).data, 0) := by
  obtain ⟨h1, h2⟩ := there_name hI hr hm
  have hf : T.file s = (some i, 0) := by
    unfold Fs.file
    rw [if_pos h2, h1]
    dsimp only
    unfold notFile
    rw [if_neg (by rw [hk]; decide), if_neg (by rw [hk]; decide)]
  unfold Fs.read
  rw [hf, if_pos rfl]

theorem file_name (hI : T.Inv) {s : Bytes} {i : Nat} (hr : right s = true) (hm : (split s, i) ∈ T.names) (hk : (T.nd i).kind = 1) : T.file s = (some i, 0) := by
  obtain ⟨h1, h2⟩ := there_name hI hr hm
  unfold Fs.file
  rw [if_pos h2, h1]
  dsimp only
  unfold notFile
  rw [if_neg (by rw [hk]; decide), if_neg (by rw [hk]; decide)]

/-- A name as a text. -/
theorem Pth.text {p : Pt} (h : Pth p) : right (glue p) = true ∧ split (glue p) = p := by
  obtain ⟨s, h1, rfl⟩ := h
  rw [glue_split]
  exact ⟨h1, rfl⟩
theorem glue_ne {p : Pt} (h : Pth p) (hp : p ≠ []) : glue p ≠ [] := fun e => by
  have := h.text.2
  rw [e] at this
  exact hp this.symm

theorem mem_paths (hI : T.Inv) {s : Bytes} : s ∈ T.paths ↔ right s = true ∧ s ≠ [] ∧ ∃ i, (split s, i) ∈ T.names := by
  unfold Fs.paths
  rw [(sortP_perm _).mem_iff, List.mem_map]
  constructor
  · rintro ⟨⟨t, j⟩, hm, rfl⟩
    obtain ⟨h1, h2⟩ := mem_below.1 hm
    rw [List.nil_append] at h2
    have hP := hI.pth _ _ h2
    obtain ⟨h3, h4⟩ := hP.text
    exact ⟨h3, glue_ne hP h1, j, by rw [h4]; exact h2⟩
  · rintro ⟨h1, h2, i, hi⟩
    exact ⟨(split s, i), mem_below.2 ⟨split_ne_nil h2, by simpa using hi⟩, glue_split s⟩

theorem paths_len (T : Fs) : T.paths.length = (T.below []).length := by
  unfold Fs.paths
  rw [(sortP_perm _).length_eq, List.length_map]

theorem below_glue_nodup (hI : T.Inv) : ((T.below []).map fun y => glue y.1).Nodup := by
  have hnd := hI.nodup
  have h := below_nodup hI []
  rw [List.Nodup, List.pairwise_map]
  refine List.Pairwise.imp_of_mem ?_ h
  rintro ⟨a, i⟩ ⟨b, j⟩ ha hb hne e
  obtain ⟨_, h1⟩ := mem_below.1 ha
  obtain ⟨_, h2⟩ := mem_below.1 hb
  rw [List.nil_append] at h1 h2
  have e1 := (hI.pth _ _ h1).text.2
  have e2 := (hI.pth _ _ h2).text.2
  dsimp only at e
  rw [e, e2] at e1
  subst e1
  exact hne (by rw [hI.at_one h1 h2])

theorem paths_nodup (hI : T.Inv) : T.paths.Nodup := (sortP_perm _).nodup_iff.2 (below_glue_nodup hI)

/-- All rising. -/
theorem paths_rising (hI : T.Inv) : T.paths.Pairwise (fun a b => lessP a b = true) := by
  have h1 : Sorted T.paths := sortP_sorted _
  have h2 := paths_nodup hI
  have h3 : T.paths.Pairwise (fun a b => leP a b ∧ a ≠ b) := List.Pairwise.and h1 h2
  refine h3.imp ?_
  rintro a b ⟨h, hne⟩
  unfold lessP
  unfold leP at h
  rw [decide_eq_true_eq]
  rcases Int.lt_or_eq_of_le h with h | h
  · exact h
  · exact absurd (cmpP_eq h) hne

/-- Counting over the paths is counting over the names. -/
theorem paths_count (f : Bytes → Bool) : (T.paths.filter f).length = ((T.below []).filter fun y => f (glue y.1)).length := by
  have := ((sortP_perm ((T.below []).map fun y => glue y.1)).filter f).length_eq
  unfold Fs.paths
  rw [this, List.filter_map, List.length_map]
  rfl

theorem below_top_map (hI : T.Inv) : ∃ r, T.names = ([], 1) :: r ∧ T.below [] = r := by
  obtain ⟨r, e⟩ := hI.top
  refine ⟨r, e, ?_⟩
  have hnd := hI.nodup
  rw [e, List.map_cons] at hnd
  have hr : ∀ x ∈ r, x.1 ≠ [] := fun x hx h => (List.nodup_cons.1 hnd).1 (List.mem_map.2 ⟨x, hx, h⟩)
  unfold Fs.below
  rw [e, List.filterMap_cons]
  have h0 : (if ([] : Pt).isPrefixOf ([] : Pt) = true ∧ ([] : Pt) ≠ [] then some (([] : Pt).drop ([] : Pt).length, 1) else none : Option (Pt × Nat)) = none := if_neg (fun h => h.2 rfl)
  simp only [h0]
  clear e hnd h0
  induction r with
  | nil => rfl
  | cons a l ih =>
    have ha := hr a (List.mem_cons_self ..)
    rw [List.filterMap_cons]
    have : (if ([] : Pt).isPrefixOf a.1 = true ∧ a.1 ≠ [] then some (a.1.drop ([] : Pt).length, a.2) else none : Option (Pt × Nat)) = some a := by
      rw [if_pos ⟨by simp, ha⟩]
      simp
    rw [this]
    dsimp only
    rw [ih (fun x hx => hr x (List.mem_cons_of_mem _ hx))]

/-- How many names stand right in a directory, counted by their parents. -/
theorem count_kids (hI : T.Inv) (p : Pt) : ((T.below []).filter fun y => decide (y.1.dropLast = p)).length = (T.kids p).length := by
  obtain ⟨r, e, hb⟩ := below_top_map hI
  rw [hb]
  have hnd := hI.nodup
  rw [e, List.map_cons] at hnd
  have hr : ∀ x ∈ r, x.1 ≠ [] := fun x hx h => (List.nodup_cons.1 hnd).1 (List.mem_map.2 ⟨x, hx, h⟩)
  have hk : T.kids p = kidsL r p := by
    unfold Fs.kids
    rw [e]
    show kidsL ([([], 1)] ++ r) p = _
    rw [kidsL_append]
    simp [kidsL, kidOf]
  rw [hk]
  clear e hb hnd hk
  unfold kidsL
  induction r with
  | nil => rfl
  | cons a l ih =>
    have ha := hr a (List.mem_cons_self ..)
    have ih := ih (fun x hx => hr x (List.mem_cons_of_mem _ hx))
    rw [List.filter_cons, List.filterMap_cons]
    unfold kidOf at ih ⊢
    by_cases hc : a.1.dropLast = p
    · simp only [hc, decide_true, if_true, ha, ne_eq, not_false_eq_true, and_self, List.length_cons]
      rw [ih]
    · simp only [hc, decide_false, and_false, if_false, Bool.false_eq_true]
      exact ih

/-- How many names a thing has, the top's aside. -/
theorem count_names (hI : T.Inv) {i : Nat} (hi : i ≠ 1) : ((T.below []).filter fun y => decide (y.2 = i)).length = namesOf T.names i := by
  obtain ⟨r, e, hb⟩ := below_top_map hI
  rw [hb, e]
  unfold namesOf
  rw [List.filter_cons]
  simp [Ne.symm hi]

end

end Go.Proofs.YtocbjhhnginebaaGreat

namespace Go.Proofs.YtocbjhhnginebaaGreat
open Go.RowKit

/-- The worlds in which nothing of w's has turned. -/
def Gr (w : World) : Type := { W : World // Below w.heap.size w W }
instance (w : World) : Nonempty (Gr w) := ⟨⟨w, Below.refl _ _⟩⟩

theorem wp_region_grow {P : Program} {id : Nat} {Q : Exit → Act → World → Prop} {a : Act} {w : World} {l : List Oper} (hm : P.follows .mixedOrders = true) (hB : Region.lexB .any l.toArray = true)
    (h : wpQuiet P l.toArray (fun W => ∃ x : Gr w, W = x.1) (fun a' => ∀ W, (∃ x : Gr w, W = x.1) → Q .normal a' W) l a) : (Code.region id l.toArray true).wp P Q a w :=
  wp_region_quiet (C := fun W => ∃ x : Gr w, W = x.1) hm hB ⟨⟨w.drew, below_drewN (Below.refl _ _) 1⟩, rfl⟩ (by simpa using h)

/-- A callee's contract, met in such a world. -/
theorem grow_of {P : Program} {f : FuncId} {args : Array Value} {w : World} {v : Value} (x : Gr w) (h : Calls P f args x.1 fun e w' => e = .returned v ∧ Below x.1.heap.size x.1 w') :
    Calls P f args x.1 fun e w'' => e = .returned v ∧ ∃ y : Gr w, w'' = y.1 :=
  h.mono fun _ w' ⟨he, hb⟩ => ⟨he, ⟨w', x.2.trans (hb.mono x.2.size)⟩, rfl⟩

theorem Gr.cell {w : World} {a : Addr} {v : Value} (h : w.cell? a = some v) (x : Gr w) : x.1.cell? a = some v := by
  rw [← h]
  refine x.2.cell (p := a) ?_
  rcases Nat.lt_or_ge a.block w.heap.size with h1 | h1
  · exact h1
  · simp [World.cell?, Array.getElem?_eq_none h1] at h

end Go.Proofs.YtocbjhhnginebaaGreat

namespace Go.Proofs.YtocbjhhnginebaaGreat
open Go.RowKit

theorem quiet_eq {P : Program} {f : FuncId} {args : Array Value} {w : World} {n : Nat} {v : Value}
    (h : Calls P f args (w.drewN n) fun e w' => e = .returned v ∧ w.drewN n = w') : Calls P f args (w.drewN n) fun e w'' => e = .returned v ∧ ∃ m, w'' = w.drewN m :=
  h.mono fun _ _ ⟨he, hm⟩ => ⟨he, n, hm.symm⟩
theorem grow_eq {P : Program} {f : FuncId} {args : Array Value} {w : World} {v : Value} (x : Gr w) (h : Calls P f args x.1 fun e w' => e = .returned v ∧ x.1 = w') :
    Calls P f args x.1 fun e w'' => e = .returned v ∧ ∃ y : Gr w, w'' = y.1 := h.mono fun _ _ ⟨he, hm⟩ => ⟨he, x, hm.symm⟩
theorem strs_diff {a b : ByteArray} (h : a ≠ b) : (a.toList == b.toList) = false := by rw [str_eq]; simpa using h
theorem strs_alike {a b : ByteArray} (h : a = b) : (a.toList == b.toList) = true := by rw [str_eq]; simpa using h

end Go.Proofs.YtocbjhhnginebaaGreat

namespace Go.Proofs.YtocbjhhnginebaaGreat
open Go.RowKit

theorem run_append_zero (w : World) (t e ty : TypeId) (i : TypeInfo) (ht : Tryz.prog.underlying t = some (.slice e)) (hi : Tryz.prog.info? e = some i) (A A' : Option Addr) (n c1 c : Nat) (hn : n ≤ c1) :
    (Builtin.append_ #[t, t] ty #[.slice A n c1, .slice A' 0 c]).run Tryz.prog w = .ok (.slice A n c1) w := by
  cases A <;> cases A' <;> simp [Builtin.append_, run_underlying ht, sizeOf, typeInfo, hi, Builtin.lenOf, Builtin.firstCells, storeCells, loadCells, loadCellsFrom, Result.andThen, hn]

theorem own_base {w : World} {base : Nat} {e : TypeId} {size n : Nat} {v : Value} {xs : List Value} (h : w.ownsRow base e size v n xs) : ∀ k, v.ownBlock = some k → base ≤ k := fun k hk => by
  obtain ⟨h1, ⟨rfl, h⟩ | ⟨g', cap, cur, rfl, hb, hh, r⟩⟩ := h
  · cases hk
  · cases hk
    exact hb

/-- What a slice is that is put behind a row: m elements, whose cells are news. -/
def Src (w : World) (sv : Value) (size m : Nat) (news : List Value) : Prop :=
  (m = 0 ∧ news = [] ∧ ∃ A c, sv = .slice A 0 c) ∨ ∃ ad c, sv = .slice (some ad) m c ∧ news.length = m * size ∧ ∀ j u, news[j]? = some u → w.cell? (ad.add j) = some u

theorem wp_append_any {ops : Array Oper} {rest : List Oper} {o : Oper} {a : Act} {Q : Exit → Act → World → Prop} {w : World} (base : Nat) (hgd : o.guard = none) (s x : Operand) (t e : TypeId)
    (ho : o.op = .call { callee := .builtin .append, args := #[s, x], argTypes := #[t, t] }) (ht : Tryz.prog.underlying t = some (.slice e)) (z : Value) (size bytes : Nat)
    (hinfo : (Tryz.prog.info? e).map (fun i => (i.zero, i.size, i.bytes)) = some (some z, size, bytes)) (hz : z.cells.size = size) (hsz : 0 < size) (v : Value) (n : Nat) (xs : List Value) (hs : a.eval s = v)
    (sv : Value) (m : Nat) (news : List Value) (hx : a.eval x = sv) (hsv : Src w sv size m news) (hown : w.ownsRow base e size v n xs) (h1 : ∀ u ∈ news, u.oneCell' = true) (h63 : n + m ≤ maxLen) (hb : (n + m) * bytes ≤ 140737488355328) (hbase : base ≤ w.heap.size)
    (h : ∀ v1 w1, w1.ownsRow base e size v1 (n + m) (xs ++ news) → w.grownBy w1 v.ownBlock → (v1.ownBlock = v.ownBlock ∨ v1.ownBlock = some w.heap.size) → wpList Tryz.prog ops Q rest (a.put o.dst v1) w1) :
    wpList Tryz.prog ops Q (o :: rest) a w := by
  obtain ⟨i0, hi, hzz⟩ := Option.map_eq_some_iff.1 hinfo
  simp only [Prod.mk.injEq] at hzz
  obtain ⟨hz0, hz1, hz2⟩ := hzz
  rcases hsv with ⟨rfl, rfl, A, c, rfl⟩ | ⟨ad, c, rfl, hl, hn⟩
  · obtain ⟨A0, c0, rfl, hc0, _⟩ := own_shape hown
    refine wpList_plain hgd fun K hK => ?_
    have hr := run_append_zero w t e o.type i0 ht hi A0 A n c0 c hc0
    unfold Oper.wp execOp
    simp only [ho, resolve, invoke, builtin, Sem.run_bind, Sem.run_pure, Result.andThen_ok, List.map_toArray, List.map_cons, List.map_nil, hs, hx, hr]
    refine hK _ _ (h _ _ ?_ ⟨rfl, rfl, rfl, Nat.le_refl _, fun _ _ _ => rfl⟩ (Or.inl rfl))
    rw [List.append_nil]
    exact hown
  · refine wpList_append_own_at w hgd s x t ho base e i0 z size bytes ht hi hz0 hz1 hz2 hz hsz v n xs hs hown ad m c news hx hl hn h1 h63 hb hbase ?_
    intro v1 w1 g1 g2 _ g3
    exact h v1 w1 g1 g2 g3

end Go.Proofs.YtocbjhhnginebaaGreat

namespace Go.Proofs.YtocbjhhnginebaaGreat.Sh
open Go.RowKit Go.Lib
set_option linter.unusedVariables false
set_option linter.unusedSimpArgs false

abbrev Shot := Bytes × Int
def shRow (l : List Shot) : List Value := l.flatMap fun y => [.string (mkS y.1), .int .i64 y.2]
theorem shRow_append (l r : List Shot) : shRow (l ++ r) = shRow l ++ shRow r := by simp [shRow]
theorem shRow_length (l : List Shot) : (shRow l).length = l.length * 2 := by
  induction l with
  | nil => rfl
  | cons y l ih =>
    have e : shRow (y :: l) = [.string (mkS y.1), .int .i64 y.2] ++ shRow l := rfl
    rw [e, List.length_append, ih]
    simp
    omega
theorem shRow_at : ∀ (l : List Shot) (k : Nat) (y : Shot), l[k]? = some y → (shRow l)[k * 2]? = some (.string (mkS y.1)) ∧ (shRow l)[k * 2 + 1]? = some (.int .i64 y.2)
  | [], k, y, h => by simp at h
  | z :: l, 0, y, h => by
    simp only [List.getElem?_cons_zero, Option.some.injEq] at h
    subst h
    exact ⟨rfl, rfl⟩
  | z :: l, k + 1, y, h => by
    rw [List.getElem?_cons_succ] at h
    obtain ⟨h1, h2⟩ := shRow_at l k y h
    have e : shRow (z :: l) = [.string (mkS z.1), .int .i64 z.2] ++ shRow l := rfl
    rw [e, show (k + 1) * 2 = k * 2 + 2 by omega, show k * 2 + 2 + 1 = k * 2 + 1 + 2 by omega]
    exact ⟨by simpa using h1, by simpa using h2⟩
theorem shRow_set : ∀ (l : List Shot) (k : Nat) (y : Shot), shRow (l.set k y) = ((shRow l).set (k * 2) (.string (mkS y.1))).set (k * 2 + 1) (.int .i64 y.2)
  | [], k, y => by simp [shRow]
  | z :: l, 0, y => rfl
  | z :: l, k + 1, y => by
    have e : shRow (z :: l) = .string (mkS z.1) :: .int .i64 z.2 :: shRow l := rfl
    rw [e, show (k + 1) * 2 = k * 2 + 1 + 1 by omega, show k * 2 + 1 + 1 + 1 = (k * 2 + 1) + 1 + 1 by omega]
    simp only [List.set_cons_succ]
    rw [← shRow_set l k y]
    rfl
theorem shRow_one (l : List Shot) : ∀ u ∈ shRow l, u.oneCell' = true := by
  intro u hu
  unfold shRow at hu
  rw [List.mem_flatMap] at hu
  obtain ⟨y, _, h⟩ := hu
  simp only [List.mem_cons, List.not_mem_nil, or_false] at h
  rcases h with rfl | rfl <;> rfl

/-- Block g is a row of snapshots with a tail; since w no other old block has turned. -/
structure Row (w W : World) (g : Nat) (l : List Shot) (pad : List Value) : Prop where
  lt : g < w.heap.size
  h : W.heap[g]? = some (.cells (shRow l ++ pad).toArray 77 (0, 0))
  kept : w.grownBy W (some g)
theorem Row.drewN {w W : World} {g : Nat} {l : List Shot} {pad : List Value} (h : Row w W g l pad) (n : Nat) : Row w (W.drewN n) g l pad := ⟨h.lt, h.h, ⟨h.kept.os, h.kept.tape, h.kept.output, h.kept.size, h.kept.block⟩⟩
theorem Row.cell {w W : World} {g : Nat} {l : List Shot} {pad : List Value} (h : Row w W g l pad) {i : Nat} {x : Shot} (hi : l[i]? = some x) : W.cell? ⟨g, i * 2, none⟩ = some (.string (mkS x.1)) ∧ W.cell? ⟨g, i * 2 + 1, none⟩ = some (.int .i64 x.2) := by
  have hlt : i < l.length := (List.getElem?_eq_some_iff.1 hi).1
  have hl := shRow_length l
  obtain ⟨h1, h2⟩ := shRow_at l i x hi
  constructor
  · rw [cell_of_row W g (i * 2) _ _ _ h.h]
    simp only [List.getElem?_toArray]
    rw [List.getElem?_append_left (by omega)]
    exact h1
  · rw [cell_of_row W g (i * 2 + 1) _ _ _ h.h]
    simp only [List.getElem?_toArray]
    rw [List.getElem?_append_left (by omega)]
    exact h2
theorem Row.free {w W : World} {g : Nat} {l : List Shot} {pad : List Value} (h : Row w W g l pad) (i : Nat) : W.frozen? ⟨g, i, none⟩ = false := by simp [World.frozen?, h.h]
theorem blk_set {w : World} {g : Nat} {t : TypeId} {cs : Array Value} (h : w.heap[g]? = some (.cells cs t (0, 0))) (i : Nat) (u : Value) : (w.setCell ⟨g, i, none⟩ u).heap[g]? = some (.cells (cs.setIfInBounds i u) t (0, 0)) := by
  have hlt : g < w.heap.size := (Array.getElem?_eq_some_iff.1 h).1
  have h' : w.heap[g] = .cells cs t (0, 0) := (Array.getElem?_eq_some_iff.1 h).2
  show (w.heap.modify g _)[g]? = _
  rw [Array.getElem?_eq_getElem (by simpa using hlt), Array.getElem_modify_self, h']
  rfl
theorem Row.set {w W : World} {g : Nat} {l : List Shot} {pad : List Value} (h : Row w W g l pad) (i : Nat) (hi : i < l.length) (x : Shot) : Row w ((W.setCell ⟨g, i * 2, none⟩ (.string (mkS x.1))).setCell ⟨g, i * 2 + 1, none⟩ (.int .i64 x.2)) g (l.set i x) pad := by
  have hl := shRow_length l
  refine ⟨h.lt, ?_, ⟨h.kept.os, h.kept.tape, h.kept.output, by simpa [World.setCell] using h.kept.size, fun k hk hne => ?_⟩⟩
  · rw [blk_set (blk_set h.h _ _)]
    congr 2
    rw [List.setIfInBounds_toArray, List.setIfInBounds_toArray]
    congr 1
    rw [List.set_append_left _ _ (by omega), List.set_append_left _ _ (by simp; omega), shRow_set]
  · rw [Below.heap_setCell _ _ _ _ (fun e => hne (by rw [e])), Below.heap_setCell _ _ _ _ (fun e => hne (by rw [e]))]; exact h.kept.block k hk hne
theorem Row.start {w : World} {g : Nat} {l : List Shot} {pad : List Value} (h : w.heap[g]? = some (.cells (shRow l ++ pad).toArray 77 (0, 0))) : Row w w g l pad :=
  ⟨(Array.getElem?_eq_some_iff.1 h).1, h, ⟨rfl, rfl, rfl, Nat.le_refl _, fun _ _ _ => rfl⟩⟩
theorem Row.trans {w W W' : World} {g : Nat} {l l' : List Shot} {pad pad' : List Value} (h : Row w W g l pad) (k : Row W W' g l' pad') : Row w W' g l' pad' :=
  ⟨h.lt, k.h, ⟨k.kept.os.trans h.kept.os, k.kept.tape.trans h.kept.tape, k.kept.output.trans h.kept.output, Nat.le_trans h.kept.size k.kept.size,
    fun i hi hne => (k.kept.block i (Nat.lt_of_lt_of_le hi h.kept.size) hne).trans (h.kept.block i hi hne)⟩⟩
theorem Row.below {w W W' : World} {g : Nat} {l : List Shot} {pad : List Value} (h : Row w W g l pad) (hb : Below W.heap.size W W') : Row w W' g l pad :=
  ⟨h.lt, by rw [hb.block g (Nat.lt_of_lt_of_le h.lt h.kept.size)]; exact h.h, ⟨hb.os.trans h.kept.os, hb.tape.trans h.kept.tape, hb.output.trans h.kept.output, Nat.le_trans h.kept.size hb.size,
    fun i hi hne => (hb.block i (Nat.lt_of_lt_of_le hi h.kept.size)).trans (h.kept.block i hi hne)⟩⟩

/-! The order. -/
def cmpS (a b : Shot) : Int := a.2 - b.2
def leS (a b : Shot) : Prop := a.2 < b.2 ∨ a.2 = b.2 ∧ cmpP a.1 b.1 ≤ 0
/-- a stood ahead of b at first. -/
def Bef (a b : Shot) : Prop := cmpP a.1 b.1 < 0
def ShOk (y : Shot) : Prop := 0 ≤ y.2 ∧ y.2 ≤ 2000000000000
theorem leS_trans {a b c : Shot} (h : leS a b) (k : leS b c) : leS a c := by
  unfold leS at *
  rcases h with h | ⟨h1, h2⟩
  · rcases k with k | ⟨k1, k2⟩
    · exact .inl (by omega)
    · exact .inl (by omega)
  · rcases k with k | ⟨k1, k2⟩
    · exact .inl (by omega)
    · refine .inr ⟨by omega, ?_⟩
      rcases Int.lt_or_eq_of_le h2 with h3 | h3
      · rcases Int.lt_or_eq_of_le k2 with k3 | k3
        · exact Int.le_of_lt (cmpP_trans h3 k3)
        · rw [cmpP_eq k3] at h2; exact h2
      · rw [cmpP_eq h3]; exact k2
theorem leS_refl (a : Shot) : leS a a := .inr ⟨rfl, by rw [cmpP_self]; exact Int.le_refl _⟩
theorem leS_of_not {a b : Shot} (h : ¬ cmpS a b < 0) (hb : Bef b a) : leS b a := by
  unfold cmpS at h
  unfold leS
  rcases Int.lt_or_eq_of_le (show b.2 ≤ a.2 by omega) with h1 | h1
  · exact .inl h1
  · exact .inr ⟨h1, Int.le_of_lt hb⟩
theorem leS_of_lt {a b : Shot} (h : cmpS a b < 0) : leS a b := .inl (by unfold cmpS at h; omega)
theorem leS_antisymm {a b : Shot} (h : leS a b) (k : leS b a) : a = b := by
  unfold leS at *
  obtain ⟨a1, a2⟩ := a
  obtain ⟨b1, b2⟩ := b
  dsimp only at *
  have e : a2 = b2 := by omega
  have h1 : cmpP a1 b1 ≤ 0 := by omega
  have h2 : cmpP b1 a1 ≤ 0 := by omega
  rw [cmpP_swap a1 b1] at h2
  rw [cmpP_eq (show cmpP a1 b1 = 0 by omega), e]
theorem lt_of_le_lt {a b c : Shot} (h : leS a b) (k : cmpS b c < 0) : cmpS a c < 0 := by
  unfold leS cmpS at *; omega
theorem lt_of_lt_le {a b c : Shot} (h : cmpS a b < 0) (k : leS b c) : cmpS a c < 0 := by
  unfold leS cmpS at *; omega
abbrev Sorted (l : List Shot) : Prop := l.Pairwise leS
theorem sorted_get {V : List Shot} (hV : Sorted V) {i j : Nat} (h : i ≤ j) {x y : Shot} (hx : V[i]? = some x) (hy : V[j]? = some y) : leS x y := by
  obtain ⟨hi, rfl⟩ := List.getElem?_eq_some_iff.1 hx
  obtain ⟨hj, rfl⟩ := List.getElem?_eq_some_iff.1 hy
  rcases Nat.lt_or_eq_of_le h with h1 | h1
  · exact List.pairwise_iff_getElem.1 hV i j hi hj h1
  · subst h1; exact leS_refl _
def shV (y : Shot) : Value := .agg #[.string (mkS y.1), .int .i64 y.2]
set_option maxHeartbeats 2000000 in
set_option maxRecDepth 100000 in
theorem cmp_mk (a b : Shot) (w : World) (ha : ShOk a) (hb : ShOk b) :
    Calls Tryz.prog 79 #[.agg #[.string (mkS a.1), .int .i64 a.2], .agg #[.string (mkS b.1), .int .i64 b.2]] w fun e w' => e = .returned (.int .i64 (cmpS a b)) ∧ Below w.heap.size w w' := by
  unfold ShOk at ha hb
  have h1 : IntKind.i64.wrap (a.2 - b.2) = a.2 - b.2 := IntWalk.i64_in _ (by omega)
  go_enter Tryz.func79, Tryz.ntmps79
  go_wp2
  go_ret
  exact ⟨rfl, below_alloc (below_alloc (Below.refl _ _) _) _⟩
end Go.Proofs.YtocbjhhnginebaaGreat.Sh

namespace Go.Proofs.YtocbjhhnginebaaGreat.Sh
open Go.RowKit Go.Lib
set_option linter.unusedVariables false
set_option linter.unusedSimpArgs false

/-- Two ranges of n elements change places. -/
def Swapped (l l' : List Shot) (a b n : Nat) : Prop := l'.length = l.length ∧ ∀ k, l'[k]? = if a ≤ k ∧ k < a + n then l[k - a + b]? else if b ≤ k ∧ k < b + n then l[k - b + a]? else l[k]?
theorem Swapped.zero (l : List Shot) (a b : Nat) : Swapped l l a b 0 := ⟨rfl, fun k => by rw [if_neg (by omega), if_neg (by omega)]⟩
theorem Swapped.step {l l' : List Shot} {a b n : Nat} (h : Swapped l l' a b n) (hab : a + n < b) (hb : b + n < l.length) {x y : Shot} (hx : l[a + n]? = some x) (hy : l[b + n]? = some y) : Swapped l ((l'.set (a + n) y).set (b + n) x) a b (n + 1) := by
  refine ⟨by simpa using h.1, fun k => ?_⟩
  have hl := h.1
  rw [List.getElem?_set, List.getElem?_set]
  by_cases h1 : b + n = k
  · subst h1
    rw [if_pos rfl, if_pos (by simp; omega), if_neg (by omega), if_pos (by omega), show b + n - b + a = a + n by omega, hx]
  · rw [if_neg h1]
    by_cases h2 : a + n = k
    · subst h2
      rw [if_pos rfl, if_pos (by omega), if_pos (by omega), show a + n - a + b = b + n by omega, hy]
    · rw [if_neg h2, h.2 k]
      by_cases h3 : a ≤ k ∧ k < a + n
      · rw [if_pos h3, if_pos (by omega)]
      · rw [if_neg h3]
        by_cases h4 : b ≤ k ∧ k < b + n
        · rw [if_pos h4, if_neg (by omega), if_pos (by omega)]
        · rw [if_neg h4, if_neg (by omega), if_neg (by omega)]
theorem Swapped.at {l l' : List Shot} {a b n : Nat} (h : Swapped l l' a b n) (hab : a + n < b) (hb : b + n < l.length) : (∃ x, l[a + n]? = some x ∧ l'[a + n]? = some x) ∧ ∃ y, l[b + n]? = some y ∧ l'[b + n]? = some y := by
  have e1 : l'[a + n]? = l[a + n]? := by rw [h.2, if_neg (by omega), if_neg (by omega)]
  have e2 : l'[b + n]? = l[b + n]? := by rw [h.2, if_neg (by omega), if_neg (by omega)]
  exact ⟨⟨l[a + n], List.getElem?_eq_getElem (by omega), by rw [e1]; exact List.getElem?_eq_getElem (by omega)⟩, ⟨l[b + n], List.getElem?_eq_getElem hb, by rw [e2]; exact List.getElem?_eq_getElem hb⟩⟩

set_option maxHeartbeats 2000000 in
set_option maxRecDepth 100000 in
theorem swaprange_calls (g c : Nat) (l : List Shot) (pad : List Value) (a b n : Nat) (f : Value) (w W : World) (hR : Row w W g l pad) (hc : l.length ≤ c) (hm : l.length ≤ 4611686018427387904) (hab : a + n ≤ b) (hbl : b + n ≤ l.length) :
    Calls Tryz.prog 165 #[.slice (some ⟨g, 0, none⟩) l.length c, .int .i64 a, .int .i64 b, .int .i64 n, f] W fun e w' => e = .returned (.tuple #[]) ∧ ∃ l', Swapped l l' a b n ∧ Row w w' g l' pad := by
  go_enter Tryz.func165, Tryz.ntmps165
  go_wp2
  go_loopw [10] (fun i W' => ∃ (k : Nat) (l' : List Shot), i = .int .i64 k ∧ k ≤ n ∧ Swapped l l' a b k ∧ Row w W' g l' pad) (fun i _ => n - (intOf i).toNat)
  case atStart => exact ⟨0, l, rfl, Nat.zero_le _, Swapped.zero _ _ _, hR⟩
  case round =>
    clear hR
    obtain ⟨k, l', rfl, hk, hS, hR⟩ := hrel
    by_cases hlt : k < n
    · obtain ⟨⟨x, hx, hx'⟩, ⟨y, hy, hy'⟩⟩ := hS.at (by omega) (by omega)
      have hlen := hS.1
      obtain ⟨c1, c1b⟩ := hR.cell hx'
      obtain ⟨c2, c2b⟩ := hR.cell hy'
      have f1 := hR.free ((a + k) * 2)
      have f1b := hR.free ((a + k) * 2 + 1)
      have f2 := hR.free ((b + k) * 2)
      have f2b := hR.free ((b + k) * 2 + 1)
      have hR2 := (hR.set (a + k) (by omega) y).set (b + k) (by simp; omega) x
      have hS2 := hS.step (by omega) (by omega) hx hy
      clear hx hy hx' hy' hR hS hlen
      go_wp2
      go_region
      all_goals go_wp2
      all_goals go_roundw
      case measure => simp [intOf]; omega
      case rel => exact ⟨k + 1, _, by go_num, by omega, hS2, hR2.drewN 1⟩
    · obtain rfl : k = n := by omega
      clear hlt hk
      go_wp2
      go_end0
      exact ⟨rfl, l', hS, hR⟩

/-! Segments -/
theorem get_right (p x : List Shot) (k : Nat) (h : p.length ≤ k) : (p ++ x)[k]? = x[k - p.length]? := List.getElem?_append_right h
theorem swapped_seg {l' : List Shot} {p X q Y s : List Shot} (hXY : X.length = Y.length) (h : Swapped (p ++ X ++ q ++ Y ++ s) l' p.length (p ++ X ++ q).length X.length) : l' = p ++ Y ++ q ++ X ++ s := by
  apply List.ext_getElem?
  intro k
  rw [h.2 k]
  simp only [List.length_append]
  by_cases h1 : p.length ≤ k ∧ k < p.length + X.length
  · rw [if_pos h1]
    have e1 : (p ++ X ++ q ++ Y ++ s)[k - p.length + (p.length + X.length + q.length)]? = Y[k - p.length]? := by
      simp only [List.append_assoc]
      rw [List.getElem?_append_right (by omega), List.getElem?_append_right (by omega), List.getElem?_append_right (by omega), List.getElem?_append_left (by omega)]
      congr 1; omega
    have e2 : (p ++ Y ++ q ++ X ++ s)[k]? = Y[k - p.length]? := by
      simp only [List.append_assoc]
      rw [List.getElem?_append_right (by omega), List.getElem?_append_left (by omega)]
    rw [e1, e2]
  · rw [if_neg h1]
    by_cases h2 : p.length + X.length + q.length ≤ k ∧ k < p.length + X.length + q.length + X.length
    · rw [if_pos h2]
      have e1 : (p ++ X ++ q ++ Y ++ s)[k - (p.length + X.length + q.length) + p.length]? = X[k - (p.length + X.length + q.length)]? := by
        simp only [List.append_assoc]
        rw [List.getElem?_append_right (by omega), List.getElem?_append_left (by omega)]
        congr 1; omega
      have e2 : (p ++ Y ++ q ++ X ++ s)[k]? = X[k - (p.length + X.length + q.length)]? := by
        simp only [List.append_assoc]
        rw [List.getElem?_append_right (by omega), List.getElem?_append_right (by omega), List.getElem?_append_right (by omega), List.getElem?_append_left (by omega)]
        congr 1; omega
      rw [e1, e2]
    · rw [if_neg h2]
      simp only [List.append_assoc]
      by_cases h3 : k < p.length
      · rw [List.getElem?_append_left h3, List.getElem?_append_left h3]
      · rw [get_right p _ _ (by omega), get_right p _ _ (by omega), get_right X _ _ (by omega), get_right Y _ _ (by omega), hXY]
        by_cases h4 : k - p.length - Y.length < q.length
        · rw [List.getElem?_append_left h4, List.getElem?_append_left h4]
        · rw [get_right q _ _ (by omega), get_right q _ _ (by omega), get_right Y _ _ (by omega), get_right X _ _ (by omega), hXY]

theorem swapseg_calls (g c : Nat) (p X q Y s : List Shot) (pad : List Value) (a b n : Nat) (f : Value) (w W : World) (hR : Row w W g (p ++ X ++ q ++ Y ++ s) pad) (hc : (p ++ X ++ q ++ Y ++ s).length ≤ c) (hm : (p ++ X ++ q ++ Y ++ s).length ≤ 4611686018427387904)
    (ha : a = p.length) (hb : b = (p ++ X ++ q).length) (hn : n = X.length) (hY : Y.length = X.length) (m : Nat) (hlen : m = (p ++ X ++ q ++ Y ++ s).length) :
    Calls Tryz.prog 165 #[.slice (some ⟨g, 0, none⟩) m c, .int .i64 a, .int .i64 b, .int .i64 n, f] W fun e w' => e = .returned (.tuple #[]) ∧ Row w w' g (p ++ Y ++ q ++ X ++ s) pad := by
  subst ha hb hn hlen
  refine (swaprange_calls g c _ pad _ _ _ f w W hR hc hm (by simp) (by simp; omega)).mono ?_
  rintro e w' ⟨rfl, l', hS, hR'⟩
  rw [swapped_seg hY.symm hS] at hR'
  exact ⟨rfl, hR'⟩

theorem take_drop_len {α : Type} (X : List α) (j : Nat) (h : j ≤ X.length) : ∃ A B, X = A ++ B ∧ A.length = j ∧ B.length = X.length - j := ⟨X.take j, X.drop j, (List.take_append_drop j X).symm, by simp; omega, by simp⟩

set_option maxHeartbeats 4000000 in
set_option maxRecDepth 100000 in
theorem rotate_calls (g c : Nat) (p X Y s : List Shot) (pad : List Value) (a m b N : Nat) (f : Value) (w W : World) (hR : Row w W g (p ++ X ++ Y ++ s) pad) (hc : N ≤ c) (hm : N ≤ 4611686018427387904) (hN : N = (p ++ X ++ Y ++ s).length)
    (ha : a = p.length) (hmm : m = p.length + X.length) (hb : b = p.length + X.length + Y.length) (hX : 0 < X.length) (hY : 0 < Y.length) :
    Calls Tryz.prog 159 #[.slice (some ⟨g, 0, none⟩) N c, .int .i64 a, .int .i64 m, .int .i64 b, f] W fun e w' => e = .returned (.tuple #[]) ∧ Row w w' g (p ++ Y ++ X ++ s) pad := by
  have e1 : (m : Int) - (a : Int) = (X.length : Int) := by omega
  have e2 : (b : Int) - (m : Int) = (Y.length : Int) := by omega
  have hml : m ≤ N := by subst hN hmm; simp
  have hbl : b ≤ N := by subst hN hb; simp; omega
  have hal : a ≤ m := by omega
  have hmb : m ≤ b := by omega
  replace e1 := Lib.hid e1
  replace e2 := Lib.hid e2
  replace ha := Lib.hid ha
  replace hmm := Lib.hid hmm
  replace hb := Lib.hid hb
  replace hN := Lib.hid hN
  go_enter Tryz.func159, Tryz.ntmps159
  go_wp2
  go_loopw [10, 11] (fun i j W' => ∃ A X' Y' B : List Shot, i = .int .i64 X'.length ∧ j = .int .i64 Y'.length ∧ 0 < X'.length ∧ 0 < Y'.length ∧ Hid (m = p.length + A.length + X'.length ∧ A ++ Y' ++ X' ++ B = Y ++ X ∧ A.length + X'.length + Y'.length + B.length = X.length + Y.length) ∧ Row w W' g (p ++ A ++ X' ++ Y' ++ B ++ s) pad) (fun i j _ => (intOf i).toNat + (intOf j).toNat)
  case atStart => exact ⟨[], X, Y, [], by rw [e1.out], by rw [e2.out], hX, hY, ⟨by rw [hmm.out]; simp, by simp, by simp⟩, by simpa using hR⟩
  case round =>
    clear hR
    obtain ⟨A, X', Y', B, rfl, rfl, hx, hy, hinv, hR⟩ := hrel
    obtain ⟨i1, i2, i3⟩ := hinv.out
    have hNN : N = (p ++ A ++ X' ++ Y' ++ B ++ s).length := by rw [hN.out]; simp; omega
    have hYl : m + Y'.length ≤ N := by rw [hNN, i1]; simp; omega
    have hmN : m ≤ N := by omega
    obtain ⟨st, hst⟩ : ∃ st, st = p.length + A.length := ⟨_, rfl⟩
    have es : (m : Int) - (X'.length : Int) = (st : Int) := by omega
    clear hinv
    replace i1 := Lib.hid i1
    replace i2 := Lib.hid i2
    replace i3 := Lib.hid i3
    replace hNN := Lib.hid hNN
    replace hst := Lib.hid hst
    by_cases heq : X'.length = Y'.length
    · have hcall := swapseg_calls g c (p ++ A) X' [] Y' (B ++ s) pad st m X'.length f w wr (by simpa using hR) (by have := hNN.out; simp at this ⊢; omega) (by have := hNN.out; simp at this ⊢; omega) (by simp [hst.out]) (by simp [i1.out]; omega) rfl heq.symm N (by rw [hNN.out]; simp)
      replace hcall := Lib.hid hcall
      rw [← heq]
      have hfin : Hid (p ++ A ++ Y' ++ [] ++ X' ++ (B ++ s) = p ++ Y ++ X ++ s) := by
        unfold Hid
        have := i2.out
        rw [show p ++ A ++ Y' ++ [] ++ X' ++ (B ++ s) = p ++ (A ++ Y' ++ X' ++ B) ++ s by simp, this]; simp
      clear hR heq
      go_wp2_with fail
      refine hcall.out.mono ?_
      rintro e w2 ⟨rfl, hR2⟩
      rw [hfin.out] at hR2
      go_wp2
      go_end0
      exact ⟨rfl, hR2⟩
    · have hne : ((X'.length : Int) == (Y'.length : Int)) = false := by rw [beq_eq_false_iff_ne]; omega
      have hne2 : ((X'.length : Int) != (Y'.length : Int)) = true := by rw [bne_iff_ne]; omega
      by_cases hgt : Y'.length < X'.length
      · obtain ⟨X1, X2, hX12, hx1, hx2⟩ := take_drop_len X' Y'.length (by omega)
        have hcall := swapseg_calls g c (p ++ A) X1 X2 Y' (B ++ s) pad st m Y'.length f w wr (by rw [hX12] at hR; simpa using hR) (by have := hNN.out; rw [hX12] at this; simp at this ⊢; omega) (by have := hNN.out; rw [hX12] at this; simp at this ⊢; omega) (by simp [hst.out]) (by rw [i1.out, hX12]; simp; omega) hx1.symm hx1.symm N (by rw [hNN.out, hX12]; simp)
        have ei : (X'.length : Int) - (Y'.length : Int) = (X2.length : Int) := by omega
        have hi : Hid (m = p.length + (A ++ Y').length + X2.length ∧ (A ++ Y') ++ X1 ++ X2 ++ B = Y ++ X ∧ (A ++ Y').length + X2.length + X1.length + B.length = X.length + Y.length) := by
          have h1 := i1.out
          have h3 := i3.out
          have h2 := i2.out
          rw [hX12] at h2
          exact ⟨by simp; omega, by rw [← h2]; simp, by simp; omega⟩
        have hy1 : X1.length = Y'.length := hx1
        have hx20 : 0 < X2.length := by omega
        replace hcall := Lib.hid hcall
        replace hX12 := Lib.hid hX12
        replace hx1 := Lib.hid hx1
        replace hx2 := Lib.hid hx2
        replace hy1 := Lib.hid hy1
        clear hR heq
        go_wp2_with fail
        refine hcall.out.mono ?_
        rintro e w2 ⟨rfl, hR2⟩
        go_wp2
        go_roundw
        case measure => simp [intOf]; omega
        case rel => exact ⟨A ++ Y', X2, X1, B, rfl, by rw [hy1.out], hx20, by rw [hy1.out]; exact hy, hi, by simpa using hR2⟩
      · obtain ⟨Y1, Y2, hY12, hy1, hy2⟩ := take_drop_len Y' (Y'.length - X'.length) (by omega)
        have hy2' : Y2.length = X'.length := by omega
        obtain ⟨sb, hsb⟩ : ∃ sb, sb = m + Y'.length - X'.length := ⟨_, rfl⟩
        have esb : (m : Int) + (Y'.length : Int) - (X'.length : Int) = (sb : Int) := by omega
        have hcall := swapseg_calls g c (p ++ A) X' Y1 Y2 (B ++ s) pad st sb X'.length f w wr (by rw [hY12] at hR; simpa using hR) (by have := hNN.out; rw [hY12] at this; simp at this ⊢; omega) (by have := hNN.out; rw [hY12] at this; simp at this ⊢; omega) (by simp [hst.out]) (by have := i1.out; simp; omega) rfl hy2' N (by rw [hNN.out, hY12]; simp)
        have ei : (Y'.length : Int) - (X'.length : Int) = (Y1.length : Int) := by omega
        have hi : Hid (m = p.length + A.length + Y2.length ∧ A ++ Y1 ++ Y2 ++ (X' ++ B) = Y ++ X ∧ A.length + Y2.length + Y1.length + (X' ++ B).length = X.length + Y.length) := by
          have h1 := i1.out
          have h3 := i3.out
          have h2 := i2.out
          rw [hY12] at h2
          exact ⟨by omega, by rw [← h2]; simp, by simp; omega⟩
        have hy10 : 0 < Y1.length := by omega
        have hy20 : 0 < Y2.length := by omega
        have hsl : sb + X'.length ≤ N := by omega
        replace hcall := Lib.hid hcall
        replace hY12 := Lib.hid hY12
        replace hy1 := Lib.hid hy1
        replace hy2 := Lib.hid hy2
        replace hy2' := Lib.hid hy2'
        replace hsb := Lib.hid hsb
        have hgt2 : ¬ ((Y'.length : Int) < (X'.length : Int)) := by omega
        clear hR heq
        go_wp2_with fail
        refine hcall.out.mono ?_
        rintro e w2 ⟨rfl, hR2⟩
        go_wp2
        go_roundw
        case measure => simp [intOf]; omega
        case rel => exact ⟨A, Y2, Y1, X' ++ B, by rw [hy2'.out], rfl, hy20, hy10, hi, by simpa using hR2⟩
end Go.Proofs.YtocbjhhnginebaaGreat.Sh

namespace Go.Proofs.YtocbjhhnginebaaGreat.Sh
open Go.RowKit Go.Lib
set_option linter.unusedVariables false
set_option linter.unusedSimpArgs false

theorem bef_next {x : Shot} {D R E : List Shot} (h : (x :: R).Pairwise Bef ∧ ∀ d ∈ D, ∀ r ∈ x :: R, Bef d r) (hE : ∀ d ∈ E, d = x ∨ d ∈ D) : R.Pairwise Bef ∧ ∀ d ∈ E, ∀ r ∈ R, Bef d r := by
  obtain ⟨h1, h2⟩ := h
  obtain ⟨h3, h4⟩ := List.pairwise_cons.1 h1
  refine ⟨h4, fun d hd r hr => ?_⟩
  rcases hE d hd with h | h
  · rw [h]; exact h3 r hr
  · exact h2 d h r (List.mem_cons_of_mem _ hr)
theorem insort_step (U V : List Shot) (u x : Shot) (hs : Sorted (U ++ [u] ++ V)) (hux : ¬ cmpS x u < 0) (hbe : Bef u x) (hV : ∀ v ∈ V, cmpS x v < 0) : Sorted (U ++ [u] ++ x :: V) := by
  have h1 := leS_of_not hux hbe
  unfold Sorted at hs ⊢
  rw [List.pairwise_append] at hs ⊢
  obtain ⟨a1, a2, a3⟩ := hs
  refine ⟨a1, List.Pairwise.cons (fun v hv => leS_of_lt (hV v hv)) a2, fun y hy z hz => ?_⟩
  rcases List.mem_cons.1 hz with h | h
  · subst h
    rw [List.pairwise_append] at a1
    rcases List.mem_append.1 hy with h2 | h2
    · exact leS_trans (a1.2.2 y h2 u (by simp)) h1
    · simp at h2; subst h2; exact h1
  · exact a3 y hy z h

set_option maxHeartbeats 4000000 in
set_option maxRecDepth 100000 in
theorem insort_calls (g c : Nat) (p M s : List Shot) (pad : List Value) (a b N : Nat) (w W : World) (hR : Row w W g (p ++ M ++ s) pad) (hc : N ≤ c) (hm : N ≤ 4611686018427387904) (hN : N = (p ++ M ++ s).length)
    (ha : a = p.length) (hb : b = p.length + M.length) (hsz : ∀ x ∈ M, ShOk x) (hinc : M.Pairwise Bef) :
    Calls Tryz.prog 149 #[.slice (some ⟨g, 0, none⟩) N c, .int .i64 a, .int .i64 b, .func (.func 79) #[] #[]] W fun e w' => e = .returned (.tuple #[]) ∧ ∃ M' : List Shot, (M'.Perm M ∧ Sorted M') ∧ Row w w' g (p ++ M' ++ s) pad := by
  have hbN : b ≤ N := by subst hb hN; simp
  have hab : a ≤ b := by omega
  by_cases hM : M = []
  · subst hM
    have hba : b = a := by simp at hb; omega
    subst hba
    clear hb
    go_enter Tryz.func149, Tryz.ntmps149
    go_wp2
    refine wp_loop_rounds 1 ?_
    rw [rounds_succ]
    go_wp2
    go_end0
    exact ⟨rfl, [], ⟨List.Perm.refl _, List.Pairwise.nil⟩, hR⟩
  · obtain ⟨x0, M0, rfl⟩ : ∃ x0 M0, M = x0 :: M0 := by cases M with | nil => exact absurd rfl hM | cons x xs => exact ⟨x, xs, rfl⟩
    replace hb := Lib.hid hb
    replace ha := Lib.hid ha
    replace hN := Lib.hid hN
    clear hM
    go_enter Tryz.func149, Tryz.ntmps149
    go_wp2
    go_loopw [8] (fun i W' => ∃ (k : Nat) (D R : List Shot), i = .int .i64 k ∧ k ≤ b + 1 ∧ Hid (k = p.length + D.length) ∧ 0 < D.length ∧ Hid ((D ++ R).Perm (x0 :: M0)) ∧ Hid (Sorted D) ∧ Hid (R.Pairwise Bef ∧ ∀ d ∈ D, ∀ r ∈ R, Bef d r) ∧ Row w W' g (p ++ (D ++ R) ++ s) pad) (fun i _ => b + 1 - (intOf i).toNat)
    case atStart => exact ⟨a + 1, [x0], M0, by go_num, by omega, by unfold Hid; rw [ha.out]; rfl, by simp, List.Perm.refl _, by simp [Hid, Sorted], ⟨(List.pairwise_cons.1 hinc).2, fun d hd r hr => by rw [List.mem_singleton.1 hd]; exact (List.pairwise_cons.1 hinc).1 r hr⟩, hR⟩
    case round =>
      clear hR
      obtain ⟨k, D, R, rfl, hkb, hk, hD, hperm, hsort, hbef, hR⟩ := hrel
      have hlen : Hid (D.length + R.length = M0.length + 1) := by
        have := hperm.out.length_eq
        simpa [Hid] using this
      by_cases hlt : k < b
      · obtain ⟨x, R', rfl⟩ : ∃ x R', R = x :: R' := by
          cases R with
          | nil => have h1 := hlen.out; have h2 := hk.out; have h3 := hb.out; simp at h1 h3; omega
          | cons x xs => exact ⟨x, xs, rfl⟩
        go_wp2
        go_loopw [9] (fun j W' => ∃ (q : Nat) (U V : List Shot), j = .int .i64 q ∧ Hid (q = p.length + U.length) ∧ a ≤ q ∧ q < b ∧ Hid (U ++ V = D) ∧ Hid (∀ v ∈ V, cmpS x v < 0) ∧ Row w W' g (p ++ (U ++ x :: V ++ R') ++ s) pad) (fun j _ => (intOf j).toNat)
        case atStart => exact ⟨k, D, [], rfl, hk, by have := hk.out; have := ha.out; omega, hlt, by simp [Hid], by simp [Hid], by simpa using hR⟩
        case round =>
          clear hR
          obtain ⟨q, U, V, rfl, hq, haq, hqb, hUV, hV, hR⟩ := hrel
          by_cases hgt : a < q
          · obtain ⟨U', u, rfl⟩ : ∃ U' u, U = U' ++ [u] := by
              have h1 := hq.out
              have h2 := ha.out
              have : U ≠ [] := fun h => by rw [h] at h1; simp at h1; omega
              exact ⟨U.dropLast, U.getLast this, (List.dropLast_concat_getLast this).symm⟩
            obtain ⟨q', hq'⟩ : ∃ q', q = q' + 1 := ⟨q - 1, by omega⟩
            have hq2 : q' = p.length + U'.length := by have := hq.out; simp at this; omega
            have hi1 : (p ++ (U' ++ [u] ++ x :: V ++ R') ++ s)[q]? = some x := by
              rw [hq', hq2]
              simp only [List.append_assoc]
              rw [get_right p _ _ (by omega), get_right U' _ _ (by omega), show p.length + U'.length + 1 - p.length - U'.length = 1 by omega]
              rfl
            have hi2 : (p ++ (U' ++ [u] ++ x :: V ++ R') ++ s)[q']? = some u := by
              rw [hq2]
              simp only [List.append_assoc]
              rw [get_right p _ _ (by omega), get_right U' _ _ (by omega), show p.length + U'.length - p.length - U'.length = 0 by omega]
              rfl
            obtain ⟨hc1, hc1b⟩ := hR.cell hi1
            obtain ⟨hc2, hc2b⟩ := hR.cell hi2
            have hxs : ShOk x := hsz x (hperm.out.mem_iff.1 (by simp))
            have hus : ShOk u := hsz u (hperm.out.mem_iff.1 (by rw [← hUV.out]; simp))
            have hcmp := fun W' => cmp_mk x u W' hxs hus
            have hqN : (q : Int) < (N : Int) := by omega
            have hqN' : (q' : Int) < (N : Int) := by omega
            have hw1 : IntKind.i64.wrap ((q : Int) - 1) = (q' : Int) := by rw [IntWalk.i64_in _ (by omega)]; omega
            have hgt' : (a : Int) < (q : Int) := by omega
            clear hi1 hi2 hsz
            replace hq' := Lib.hid hq'
            replace hq2 := Lib.hid hq2
            replace hcmp := Lib.hid hcmp
            go_wp2_with fail
            go_still_tail 14, (by kernel_rfl)
            change wpList _ _ _ _ _ wr.drew
            have hR1 := hR.drewN 1
            change Row w wr.drew g _ pad at hR1
            generalize wr.drew = w2 at *
            go_wp2_with fail
            refine (hcmp.out _).mono ?_
            rintro e w3 ⟨rfl, hB3⟩
            have hR3 := hR1.below hB3
            clear hcmp hc1 hc2 hR hR1
            have hbux : Bef u x := hbef.out.2 u (by rw [← hUV.out]; simp) x (by simp)
            have hsortin := fun a b => insort_step U' V u x a b hbux
            replace hsortin := Lib.hid hsortin
            go_wp2_with fail
            · have hcx : cmpS x u < 0 := by assumption
              obtain ⟨hc1, hc1b⟩ := hR3.cell (i := q) (x := x) (by
                rw [hq'.out, hq2.out]
                simp only [List.append_assoc]
                rw [get_right p _ _ (by omega), get_right U' _ _ (by omega), show p.length + U'.length + 1 - p.length - U'.length = 1 by omega]
                rfl)
              obtain ⟨hc2, hc2b⟩ := hR3.cell (i := q') (x := u) (by
                rw [hq2.out]
                simp only [List.append_assoc]
                rw [get_right p _ _ (by omega), get_right U' _ _ (by omega), show p.length + U'.length - p.length - U'.length = 0 by omega]
                rfl)
              have hf1 := hR3.free (q * 2)
              have hf1b := hR3.free (q * 2 + 1)
              have hf2 := hR3.free (q' * 2)
              have hf2b := hR3.free (q' * 2 + 1)
              have hc3 := (hR3.set q (by have := hN.out; have := hq'.out; have := hq2.out; simp at *; omega) u).cell (i := q') (x := u) (by
                rw [List.getElem?_set_ne (by have := hq'.out; omega), hq2.out]
                simp only [List.append_assoc]
                rw [get_right p _ _ (by omega), get_right U' _ _ (by omega), show p.length + U'.length - p.length - U'.length = 0 by omega]
                rfl)
              have hR4 := (hR3.set q (by have := hN.out; have := hq'.out; have := hq2.out; simp at *; omega) u).set q' (by have := hq'.out; have := hq2.out; simp; omega) x
              have hset : Hid (((p ++ (U' ++ [u] ++ x :: V ++ R') ++ s).set q u).set q' x = p ++ (U' ++ x :: (u :: V) ++ R') ++ s) := by
                unfold Hid
                rw [hq'.out, hq2.out]
                simp only [List.append_assoc]
                rw [List.set_append_right _ _ (by omega), List.set_append_right _ _ (by omega), List.set_append_right _ _ (by omega), List.set_append_right _ _ (by omega)]
                rw [show p.length + U'.length + 1 - p.length - U'.length = 1 by omega, show p.length + U'.length - p.length - U'.length = 0 by omega]
                simp
              rw [hset.out] at hR4
              have hV2 : Hid (∀ v ∈ u :: V, cmpS x v < 0) := by
                intro v hv
                rcases List.mem_cons.1 hv with h | h
                · rw [h]; exact hcx
                · exact hV.out v h
              have hUV2 : Hid (U' ++ (u :: V) = D) := by rw [← hUV.out]; simp [Hid]
              clear hsortin hV hUV hR3 hset hcx
              go_region
              all_goals go_wp2
              all_goals go_roundw
              case measure => have := hq'.out; simp [intOf]; omega
              case rel => exact ⟨q', U', u :: V, rfl, hq2, by have := hq'.out; omega, by have := hq'.out; omega, hUV2, hV2, hR4.drewN 1⟩
            · have hcx : 0 ≤ cmpS x u := by assumption
              have hs2 : Hid (Sorted (U' ++ [u] ++ x :: V)) := by
                refine hsortin.out ?_ (by omega) hV.out
                rw [hUV.out]; exact hsort.out
              have hbe2 : Hid (R'.Pairwise Bef ∧ ∀ d ∈ U' ++ [u] ++ x :: V, ∀ r ∈ R', Bef d r) := bef_next hbef.out (by
                rw [← hUV.out]; intro d hd
                simp only [List.mem_append, List.mem_cons, List.not_mem_nil, or_false] at hd ⊢
                rcases hd with (h | h) | h | h
                · exact .inr (.inl (.inl h))
                · exact .inr (.inl (.inr h))
                · exact .inl h
                · exact .inr (.inr h))
              have hp2 : Hid ((U' ++ [u] ++ x :: V ++ R').Perm (x0 :: M0)) := by
                refine List.Perm.trans ?_ hperm.out
                rw [← hUV.out]
                simp only [List.append_assoc, List.cons_append, List.nil_append]
                exact List.Perm.append_left _ (List.Perm.cons _ (List.perm_middle.symm))
              refine ⟨⟨k + 1, U' ++ [u] ++ x :: V, R', by go_num, by omega, ?_, by simp; omega, hp2, hs2, hbe2, by simpa using hR3⟩, by simp [intOf]; omega⟩
              have h1 := hk.out
              have h2 := congrArg List.length hUV.out
              simp [Hid] at *; omega
          · have hqa : q = a := by omega
            have hU : U = [] := by
              have h1 := hq.out
              have h2 := ha.out
              exact List.eq_nil_of_length_eq_zero (by omega)
            subst hU
            have hdec : decide ((a : Int) < (q : Int)) = false := by simp; omega
            have hs2 : Hid (Sorted (x :: V)) := by
              refine List.Pairwise.cons (fun v hv => leS_of_lt (hV.out v hv)) ?_
              have := hsort.out
              rw [← hUV.out] at this; simpa using this
            have hp2 : Hid ((x :: V ++ R').Perm (x0 :: M0)) := by
              refine List.Perm.trans ?_ hperm.out
              rw [← hUV.out]
              simp only [List.nil_append, List.cons_append]
              exact List.perm_middle.symm
            have hk2 : Hid (k + 1 = p.length + (x :: V).length) := by
              have h1 := hk.out
              have h2 := congrArg List.length hUV.out
              simp [Hid] at *; omega
            have hbe2 : Hid (R'.Pairwise Bef ∧ ∀ d ∈ x :: V, ∀ r ∈ R', Bef d r) := bef_next hbef.out (by rw [← hUV.out]; intro d hd; simpa using hd)
            subst hqa
            clear hV hUV hgt
            go_wp2_with fail
            go_quiet (fail)
            go_wp2
            refine ⟨⟨k + 1, x :: V, R', by go_num, by omega, hk2, by simp, hp2, hs2, hbe2, by simpa using hR.drewN _⟩, by simp [intOf]; omega⟩
      · have hRn : R = [] := by
          have h1 := hlen.out
          have h2 := hk.out
          have h3 := hb.out
          apply List.eq_nil_of_length_eq_zero
          simp at h3; omega
        subst hRn
        have hp2 := hperm.out
        rw [List.append_nil] at hp2 hR
        have hs2 := hsort.out
        clear hsort hperm hlen
        replace hp2 := Lib.hid hp2
        replace hs2 := Lib.hid hs2
        go_wp2
        go_end0
        exact ⟨rfl, D, ⟨hp2.out, hs2.out⟩, hR⟩
end Go.Proofs.YtocbjhhnginebaaGreat.Sh

namespace Go.Proofs.YtocbjhhnginebaaGreat.Sh
open Go.RowKit Go.Lib
set_option linter.unusedVariables false
set_option linter.unusedSimpArgs false

set_option maxHeartbeats 8000000 in
set_option maxRecDepth 100000 in
theorem sym1_calls (g c : Nat) (x : Shot) (p V s : List Shot) (pad : List Value) (a m b N : Nat) (w W : World) (hR : Row w W g (p ++ [x] ++ V ++ s) pad) (hc : N ≤ c) (hm : N ≤ 4611686018427387) (hN : N = (p ++ [x] ++ V ++ s).length)
    (ha : a = p.length) (hmm : m = p.length + 1) (hb : b = p.length + 1 + V.length) (hsz : ∀ y ∈ x :: V, ShOk y) (hbe : ∀ v ∈ V, Bef x v) (hV : Sorted V) :
    Calls Tryz.prog 150 #[.slice (some ⟨g, 0, none⟩) N c, .int .i64 a, .int .i64 m, .int .i64 b, .func (.func 79) #[] #[]] W fun e w' => e = .returned (.tuple #[]) ∧ ∃ M' : List Shot, (M'.Perm (x :: V) ∧ Sorted M') ∧ Row w w' g (p ++ M' ++ s) pad := by
  have hbN : b ≤ N := by subst hb hN; simp; omega
  have hma : m = a + 1 := by omega
  have e1 : ((m : Int) - (a : Int)) = 1 := by omega
  have hmb : m ≤ b := by omega
  replace hb := Lib.hid hb
  replace ha := Lib.hid ha
  replace hN := Lib.hid hN
  replace hmm := Lib.hid hmm
  replace hma := Lib.hid hma
  go_enter Tryz.func150, Tryz.ntmps150
  go_wp2
  clear e1
  go_loopw [10, 11] (fun i j W' => ∃ i' j' r q : Nat, i = .int .i64 i' ∧ j = .int .i64 j' ∧ m ≤ i' ∧ i' ≤ j' ∧ j' ≤ b ∧ Hid (i' = m + r) ∧ Hid (j' = m + q) ∧ Hid (∀ (t : Nat) (v : Shot), t < r → V[t]? = some v → cmpS v x < 0) ∧ Hid (∀ (t : Nat) (v : Shot), q ≤ t → V[t]? = some v → 0 ≤ cmpS v x) ∧ Row w W' g (p ++ [x] ++ V ++ s) pad) (fun i j _ => (intOf j).toNat - (intOf i).toNat)
  case atStart => exact ⟨m, b, 0, V.length, rfl, rfl, Nat.le_refl _, hmb, Nat.le_refl _, rfl, by unfold Hid; rw [hb.out, hmm.out], fun t v h => by omega, (fun t v h1 h2 => by rw [List.getElem?_eq_none h1] at h2; cases h2), hR⟩
  case round =>
    clear hR
    obtain ⟨i, j, r, q, rfl, rfl, hmi, hij, hjb, hi, hj, hlo, hhi, hR⟩ := hrel
    by_cases hlt : i < j
    · obtain ⟨h, hh⟩ : ∃ h : Nat, ((i : Int) + (j : Int)) / 2 = (h : Int) := ⟨(i + j) / 2, by omega⟩
      have hih : i ≤ h := by omega
      have hhj : h < j := by omega
      obtain ⟨t, ht⟩ : ∃ t, h = m + t := ⟨h - m, by omega⟩
      have htV : t < V.length := by have := hb.out; have := hmm.out; omega
      have hx1 : (p ++ [x] ++ V ++ s)[h]? = some V[t] := by
        rw [ht, hmm.out]
        simp only [List.append_assoc]
        rw [get_right p _ _ (by omega), get_right [x] _ _ (by simp; omega), List.getElem?_append_left (by simp; omega), ← List.getElem?_eq_getElem htV]
        congr 1; simp; omega
      have hx2 : (p ++ [x] ++ V ++ s)[a]? = some x := by
        rw [ha.out]
        simp only [List.append_assoc]
        rw [get_right p _ _ (by omega), Nat.sub_self]; rfl
      obtain ⟨hc1, hc1b⟩ := hR.cell hx1
      obtain ⟨hc2, hc2b⟩ := hR.cell hx2
      have hcmp := fun W' => cmp_mk V[t] x W' (hsz _ (List.mem_cons_of_mem _ (List.getElem_mem htV))) (hsz _ (by simp))
      have hlo2 : Hid (cmpS V[t] x < 0 → ∀ (t' : Nat) (v : Shot), t' < t + 1 → V[t']? = some v → cmpS v x < 0) := fun hc t' v h1 h2 =>
        lt_of_le_lt (sorted_get hV (show t' ≤ t by omega) h2 (List.getElem?_eq_getElem htV)) hc
      have hhi2 : Hid (¬ cmpS V[t] x < 0 → ∀ (t' : Nat) (v : Shot), t ≤ t' → V[t']? = some v → 0 ≤ cmpS v x) := fun hc t' v h1 h2 => Int.not_lt.1 fun hc2 =>
        hc (lt_of_le_lt (sorted_get hV h1 (List.getElem?_eq_getElem htV) h2) hc2)
      have haN : (a : Int) < (N : Int) := by have := hma.out; omega
      have hhN : (h : Int) < (N : Int) := by omega
      generalize V[t] = y at *
      replace hcmp := Lib.hid hcmp
      replace ht := Lib.hid ht
      clear hx1 hx2 hsz
      go_upto_region 5 with fail
      go_still_tail 9, (by kernel_rfl)
      change wpList _ _ _ _ _ wr.drew
      have hR1 := hR.drewN 1
      change Row w wr.drew g _ pad at hR1
      generalize wr.drew = w2 at *
      go_wp2_with fail
      refine (hcmp.out _).mono ?_
      rintro e w3 ⟨rfl, hB3⟩
      have hR3 := hR1.below hB3
      clear hcmp hc1 hc2 hR hR1
      by_cases hcx : cmpS y x < 0
      · go_wp2
        go_roundw
        case measure => simp [intOf]; omega
        case rel => exact ⟨h + 1, j, t + 1, q, by go_num, rfl, by omega, by omega, by omega, by have := ht.out; unfold Hid; omega, hj, hlo2.out hcx, hhi, hR3⟩
      · go_wp2
        go_roundw
        case measure => simp [intOf]; omega
        case rel => exact ⟨i, h, r, t, rfl, rfl, by omega, by omega, by omega, hi, ht, hlo, hhi2.out hcx, hR3⟩
    · obtain rfl : i = j := by omega
      have hrq : r = q := by have := hi.out; have := hj.out; omega
      subst hrq
      have hrV : r ≤ V.length := by have := hi.out; have := hb.out; have := hmm.out; omega
      obtain ⟨V1, V2, hV12, hV1, hV2⟩ := take_drop_len V r hrV
      have hsorted : Hid (Sorted (V1 ++ x :: V2)) := by
        unfold Hid Sorted
        rw [hV12] at hV
        unfold Sorted at hV
        rw [List.pairwise_append] at hV ⊢
        have hlow : ∀ v ∈ V1, cmpS v x < 0 := fun v hv => by
          obtain ⟨t, ht, rfl⟩ := List.getElem_of_mem hv
          refine hlo.out t V1[t] (by omega) ?_
          rw [hV12, List.getElem?_append_left ht]; exact List.getElem?_eq_getElem ht
        refine ⟨hV.1, List.Pairwise.cons (fun v hv => ?_) hV.2.1, fun u hu v hv => ?_⟩
        · obtain ⟨t, ht, rfl⟩ := List.getElem_of_mem hv
          refine leS_of_not (Int.not_lt.2 (hhi.out (r + t) V2[t] (by omega) ?_)) (hbe _ (by rw [hV12]; exact List.mem_append_right _ hv))
          rw [hV12, List.getElem?_append_right (by omega), show r + t - V1.length = t by omega]; exact List.getElem?_eq_getElem ht
        · rcases List.mem_cons.1 hv with h | h
          · rw [h]; exact leS_of_lt (hlow u hu)
          · exact hV.2.2 u hu v h
      have hia : (i : Int) - 1 = ((a + V1.length : Nat) : Int) := by have := hi.out; have := hma.out; omega
      have hperm : Hid ((V1 ++ x :: V2).Perm (x :: V)) := by rw [hV12]; exact List.perm_middle
      have hN2 : Hid (N = (p ++ [x] ++ (V1 ++ V2) ++ s).length) := by rw [← hV12]; exact hN
      rw [hV12] at hR
      clear hlo hhi hsz hV
      replace hV1 := Lib.hid hV1
      replace hV2 := Lib.hid hV2
      obtain ⟨e, he⟩ : ∃ e, e = a + V1.length := ⟨_, rfl⟩
      rw [← he] at hia
      have hae : a ≤ e := by omega
      have heN : e + 1 ≤ N := by omega
      replace he := Lib.hid he
      replace hV12 := Lib.hid hV12
      have hlt' : ¬ (i : Int) < (i : Int) := by omega
      go_wp2
      go_loopw [13] (fun k W' => ∃ (k' : Nat) (A B : List Shot), k = .int .i64 k' ∧ a ≤ k' ∧ k' ≤ e ∧ Hid (k' = a + A.length) ∧ Hid (A ++ B = V1) ∧ Row w W' g (p ++ (A ++ x :: B ++ V2) ++ s) pad) (fun k _ => e - (intOf k).toNat)
      case atStart => exact ⟨a, [], V1, rfl, Nat.le_refl _, hae, rfl, rfl, by simpa using hR⟩
      case round =>
        clear hR
        obtain ⟨k, A, B, rfl, hak, hke, hk, hAB, hR⟩ := hrel
        by_cases hlt2 : k < e
        · obtain ⟨y, B', rfl⟩ : ∃ y B', B = y :: B' := by
            cases B with
            | nil => have h1 := hk.out; have h2 := he.out; have h3 := congrArg List.length hAB.out; simp at h3; omega
            | cons y ys => exact ⟨y, ys, rfl⟩
          have hk2 : k = p.length + A.length := by have := hk.out; have := ha.out; omega
          have hx1 : (p ++ (A ++ x :: (y :: B') ++ V2) ++ s)[k]? = some x := by
            rw [hk2]
            simp only [List.append_assoc]
            rw [get_right p _ _ (by omega), get_right A _ _ (by omega), show p.length + A.length - p.length - A.length = 0 by omega]; rfl
          have hx2 : (p ++ (A ++ x :: (y :: B') ++ V2) ++ s)[k + 1]? = some y := by
            rw [hk2]
            simp only [List.append_assoc]
            rw [get_right p _ _ (by omega), get_right A _ _ (by omega), show p.length + A.length + 1 - p.length - A.length = 1 by omega]; rfl
          have hl1 : k + 1 < (p ++ (A ++ x :: (y :: B') ++ V2) ++ s).length := (List.getElem?_eq_some_iff.1 hx2).1
          obtain ⟨hc1, hc1b⟩ := hR.cell hx1
          obtain ⟨hc2, hc2b⟩ := hR.cell hx2
          have hf1 := hR.free (k * 2)
          have hf1b := hR.free (k * 2 + 1)
          have hf2 := hR.free ((k + 1) * 2)
          have hf2b := hR.free ((k + 1) * 2 + 1)
          have hc3 := (hR.set k (by omega) y).cell (i := k + 1) (x := y) (by rw [List.getElem?_set_ne (by omega)]; exact hx2)
          have hR4 := (hR.set k (by omega) y).set (k + 1) (by simpa using hl1) x
          have hset : Hid (((p ++ (A ++ x :: (y :: B') ++ V2) ++ s).set k y).set (k + 1) x = p ++ ((A ++ [y]) ++ x :: B' ++ V2) ++ s) := by
            unfold Hid
            rw [hk2]
            simp only [List.append_assoc]
            rw [List.set_append_right _ _ (by omega), List.set_append_right _ _ (by omega), List.set_append_right _ _ (by omega), List.set_append_right _ _ (by omega)]
            rw [show p.length + A.length + 1 - p.length - A.length = 1 by omega, show p.length + A.length - p.length - A.length = 0 by omega]
            simp
          rw [hset.out] at hR4
          have hAB2 : Hid ((A ++ [y]) ++ B' = V1) := by rw [← hAB.out]; simp [Hid]
          have hk3 : Hid (k + 1 = a + (A ++ [y]).length) := by have := hk.out; unfold Hid; simp; omega
          have hkN : (k : Int) + 1 < (N : Int) := by omega
          clear hx1 hx2 hl1 hset hR hAB
          replace hk2 := Lib.hid hk2
          go_wp2
          go_region
          all_goals go_wp2
          all_goals go_roundw
          case measure => simp [intOf]; omega
          case rel => exact ⟨k + 1, A ++ [y], B', by go_num, by omega, by omega, hk3, hAB2, hR4.drewN 1⟩
        · have hB : B = [] := by
            have h1 := hk.out
            have h2 := he.out
            have h3 := congrArg List.length hAB.out
            simp at h3
            exact List.eq_nil_of_length_eq_zero (by omega)
          subst hB
          have hA : A = V1 := by have := hAB.out; simpa using this
          subst hA
          have hR2 : Row w wr g (p ++ (A ++ x :: V2) ++ s) pad := by simpa using hR
          clear hAB hR
          go_wp2
          refine bodyPost_ret (results_none rfl _ _ _) rfl ?_
          exact ⟨rfl, _, ⟨hperm.out, hsorted.out⟩, hR2⟩
end Go.Proofs.YtocbjhhnginebaaGreat.Sh

namespace Go.Proofs.YtocbjhhnginebaaGreat.Sh
open Go.RowKit Go.Lib
set_option linter.unusedVariables false
set_option linter.unusedSimpArgs false

set_option maxHeartbeats 8000000 in
set_option maxRecDepth 100000 in
theorem sym2_calls (g c : Nat) (y : Shot) (p U s : List Shot) (pad : List Value) (a m b N : Nat) (w W : World) (hR : Row w W g (p ++ U ++ [y] ++ s) pad) (hc : N ≤ c) (hm : N ≤ 4611686018427387) (hN : N = (p ++ U ++ [y] ++ s).length)
    (ha : a = p.length) (hmm : m = p.length + U.length) (hb : b = p.length + U.length + 1) (hU1 : U.length ≠ 1) (hsz : ∀ u ∈ y :: U, ShOk u) (hbe : ∀ u ∈ U, Bef u y) (hU : Sorted U) :
    Calls Tryz.prog 150 #[.slice (some ⟨g, 0, none⟩) N c, .int .i64 a, .int .i64 m, .int .i64 b, .func (.func 79) #[] #[]] W fun e w' => e = .returned (.tuple #[]) ∧ ∃ M' : List Shot, (M'.Perm (U ++ [y]) ∧ Sorted M') ∧ Row w w' g (p ++ M' ++ s) pad := by
  have hbN : b ≤ N := by subst hb hN; simp; omega
  have hbm : b = m + 1 := by omega
  have e1 : (((m : Int) - (a : Int)) == 1) = false := by rw [beq_eq_false_iff_ne]; omega
  have e2 : ((b : Int) - (m : Int)) = 1 := by omega
  have ham : a ≤ m := by omega
  have hmN : m < N := by omega
  replace hb := Lib.hid hb
  replace ha := Lib.hid ha
  replace hN := Lib.hid hN
  replace hmm := Lib.hid hmm
  replace hbm := Lib.hid hbm
  go_enter Tryz.func150, Tryz.ntmps150
  go_wp2
  clear e2
  go_loopw [14, 15] (fun i j W' => ∃ i' j' r q : Nat, i = .int .i64 i' ∧ j = .int .i64 j' ∧ a ≤ i' ∧ i' ≤ j' ∧ j' ≤ m ∧ Hid (i' = a + r) ∧ Hid (j' = a + q) ∧ Hid (∀ (t : Nat) (u : Shot), t < r → U[t]? = some u → 0 ≤ cmpS y u) ∧ Hid (∀ (t : Nat) (u : Shot), q ≤ t → U[t]? = some u → cmpS y u < 0) ∧ Row w W' g (p ++ U ++ [y] ++ s) pad) (fun i j _ => (intOf j).toNat - (intOf i).toNat)
  case atStart => exact ⟨a, m, 0, U.length, rfl, rfl, Nat.le_refl _, ham, Nat.le_refl _, rfl, by unfold Hid; rw [hmm.out, ha.out], fun t u h => by omega, (fun t u h1 h2 => by rw [List.getElem?_eq_none h1] at h2; cases h2), hR⟩
  case round =>
    clear hR
    obtain ⟨i, j, r, q, rfl, rfl, hai, hij, hjm, hi, hj, hlo, hhi, hR⟩ := hrel
    by_cases hlt : i < j
    · obtain ⟨h, hh⟩ : ∃ h : Nat, ((i : Int) + (j : Int)) / 2 = (h : Int) := ⟨(i + j) / 2, by omega⟩
      have hih : i ≤ h := by omega
      have hhj : h < j := by omega
      obtain ⟨t, ht⟩ : ∃ t, h = a + t := ⟨h - a, by omega⟩
      have htU : t < U.length := by have := ha.out; have := hmm.out; omega
      have hx1 : (p ++ U ++ [y] ++ s)[h]? = some U[t] := by
        rw [ht, ha.out]
        simp only [List.append_assoc]
        rw [get_right p _ _ (by omega), List.getElem?_append_left (by omega), ← List.getElem?_eq_getElem htU]
        congr 1; omega
      have hx2 : (p ++ U ++ [y] ++ s)[m]? = some y := by
        rw [hmm.out]
        simp only [List.append_assoc]
        rw [get_right p _ _ (by omega), get_right U _ _ (by omega), show p.length + U.length - p.length - U.length = 0 by omega]; rfl
      obtain ⟨hc1, hc1b⟩ := hR.cell hx1
      obtain ⟨hc2, hc2b⟩ := hR.cell hx2
      have hcmp := fun W' => cmp_mk y U[t] W' (hsz _ (by simp)) (hsz _ (List.mem_cons_of_mem _ (List.getElem_mem htU)))
      have hlo2 : Hid (¬ cmpS y U[t] < 0 → ∀ (t' : Nat) (u : Shot), t' < t + 1 → U[t']? = some u → 0 ≤ cmpS y u) := fun hc t' u h1 h2 => Int.not_lt.1 fun hc2 =>
        hc (lt_of_lt_le hc2 (sorted_get hU (show t' ≤ t by omega) h2 (List.getElem?_eq_getElem htU)))
      have hhi2 : Hid (cmpS y U[t] < 0 → ∀ (t' : Nat) (u : Shot), t ≤ t' → U[t']? = some u → cmpS y u < 0) := fun hc t' u h1 h2 =>
        lt_of_lt_le hc (sorted_get hU h1 (List.getElem?_eq_getElem htU) h2)
      have hmN' : (m : Int) < (N : Int) := by omega
      have hhN : (h : Int) < (N : Int) := by omega
      generalize U[t] = x at *
      replace hcmp := Lib.hid hcmp
      replace ht := Lib.hid ht
      clear hx1 hx2 hsz
      go_upto_region 17 with fail
      go_still_tail 9, (by kernel_rfl)
      change wpList _ _ _ _ _ wr.drew
      have hR1 := hR.drewN 1
      change Row w wr.drew g _ pad at hR1
      generalize wr.drew = w2 at *
      go_wp2_with fail
      refine (hcmp.out _).mono ?_
      rintro e w3 ⟨rfl, hB3⟩
      have hR3 := hR1.below hB3
      clear hcmp hc1 hc2 hR hR1
      by_cases hcx : cmpS y x < 0
      · have hdb : decide (cmpS y x < 0) = true := decide_eq_true hcx
        go_wp2
        go_roundw
        case measure => simp [intOf]; omega
        case rel => exact ⟨i, h, r, t, rfl, rfl, by omega, by omega, by omega, hi, ht, hlo, hhi2.out hcx, hR3⟩
      · have hdb : decide (cmpS y x < 0) = false := decide_eq_false hcx
        go_wp2
        go_roundw
        case measure => simp [intOf]; omega
        case rel => exact ⟨h + 1, j, t + 1, q, by go_num, rfl, by omega, by omega, by omega, by have := ht.out; unfold Hid; omega, hj, hlo2.out hcx, hhi, hR3⟩
    · obtain rfl : i = j := by omega
      have hrq : r = q := by have := hi.out; have := hj.out; omega
      subst hrq
      have hrU : r ≤ U.length := by have := hi.out; have := ha.out; have := hmm.out; omega
      obtain ⟨U1, U2, hU12, hV1, hV2⟩ := take_drop_len U r hrU
      have hsorted : Hid (Sorted (U1 ++ y :: U2)) := by
        unfold Hid Sorted
        rw [hU12] at hU
        unfold Sorted at hU
        rw [List.pairwise_append] at hU ⊢
        have hlow : ∀ v ∈ U1, leS v y := fun v hv => by
          obtain ⟨t, ht, rfl⟩ := List.getElem_of_mem hv
          refine leS_of_not (Int.not_lt.2 (hlo.out t U1[t] (by omega) ?_)) (hbe _ (by rw [hU12]; exact List.mem_append_left _ hv))
          rw [hU12, List.getElem?_append_left ht]; exact List.getElem?_eq_getElem ht
        refine ⟨hU.1, List.Pairwise.cons (fun v hv => ?_) hU.2.1, fun u hu v hv => ?_⟩
        · obtain ⟨t, ht, rfl⟩ := List.getElem_of_mem hv
          refine leS_of_lt (hhi.out (r + t) U2[t] (by omega) ?_)
          rw [hU12, List.getElem?_append_right (by omega), show r + t - U1.length = t by omega]; exact List.getElem?_eq_getElem ht
        · rcases List.mem_cons.1 hv with h | h
          · rw [h]; exact hlow u hu
          · exact hU.2.2 u hu v h
      have hperm : Hid ((U1 ++ y :: U2).Perm (U ++ [y])) := by
        rw [hU12]
        have : (U1 ++ U2 ++ [y]) = U1 ++ (U2 ++ [y]) := by simp
        unfold Hid
        rw [this]
        exact List.Perm.append_left _ (List.perm_append_comm (l₁ := [y]) (l₂ := U2))
      rw [hU12] at hR
      have hN2 : Hid (N = (p ++ (U1 ++ U2) ++ [y] ++ s).length) := by rw [← hU12]; exact hN
      have hmU : Hid (m = i + U2.length) := by
        have := hi.out; have := ha.out; have := hmm.out; unfold Hid; omega
      clear hlo hhi hsz hU
      replace hV1 := Lib.hid hV1
      replace hV2 := Lib.hid hV2
      replace hU12 := Lib.hid hU12
      have hlt' : ¬ (i : Int) < (i : Int) := by omega
      go_wp2
      go_loopw [17] (fun k W' => ∃ (k' : Nat) (A B : List Shot), k = .int .i64 k' ∧ i ≤ k' ∧ k' ≤ m ∧ Hid (k' = i + A.length) ∧ Hid (A ++ B = U2) ∧ Row w W' g (p ++ (U1 ++ A ++ y :: B) ++ s) pad) (fun k _ => (intOf k).toNat)
      case atStart => exact ⟨m, U2, [], rfl, hjm, Nat.le_refl _, hmU, by simp [Hid], by simpa using hR⟩
      case round =>
        clear hR
        obtain ⟨k, A, B, rfl, hik, hkm, hk, hAB, hR⟩ := hrel
        by_cases hlt2 : i < k
        · obtain ⟨A', z, rfl⟩ : ∃ A' z, A = A' ++ [z] := by
            have : A ≠ [] := fun h => by have := hk.out; rw [h] at this; simp at this; omega
            exact ⟨A.dropLast, A.getLast this, (List.dropLast_concat_getLast this).symm⟩
          obtain ⟨k', hk'⟩ : ∃ k', k = k' + 1 := ⟨k - 1, by omega⟩
          have hk2 : k' = p.length + (U1 ++ A').length := by
            have := hk.out; have := hi.out; have := ha.out; have := hV1.out; simp at *; omega
          have hx1 : (p ++ (U1 ++ (A' ++ [z]) ++ y :: B) ++ s)[k']? = some z := by
            rw [hk2, show p ++ (U1 ++ (A' ++ [z]) ++ y :: B) ++ s = p ++ ((U1 ++ A') ++ (z :: y :: B ++ s)) by simp]
            rw [get_right p _ _ (by omega), get_right (U1 ++ A') _ _ (by omega), show p.length + (U1 ++ A').length - p.length - (U1 ++ A').length = 0 by omega]; rfl
          have hx2 : (p ++ (U1 ++ (A' ++ [z]) ++ y :: B) ++ s)[k]? = some y := by
            rw [hk', hk2, show p ++ (U1 ++ (A' ++ [z]) ++ y :: B) ++ s = p ++ ((U1 ++ A') ++ (z :: y :: B ++ s)) by simp]
            rw [get_right p _ _ (by omega), get_right (U1 ++ A') _ _ (by omega), show p.length + (U1 ++ A').length + 1 - p.length - (U1 ++ A').length = 1 by omega]; rfl
          have hl1 : k < (p ++ (U1 ++ (A' ++ [z]) ++ y :: B) ++ s).length := (List.getElem?_eq_some_iff.1 hx2).1
          obtain ⟨hc1, hc1b⟩ := hR.cell hx1
          obtain ⟨hc2, hc2b⟩ := hR.cell hx2
          have hf1 := hR.free (k * 2)
          have hf1b := hR.free (k * 2 + 1)
          have hf2 := hR.free (k' * 2)
          have hf2b := hR.free (k' * 2 + 1)
          have hc3 := (hR.set k hl1 z).cell (i := k') (x := z) (by rw [List.getElem?_set_ne (by omega)]; exact hx1)
          have hR4 := (hR.set k hl1 z).set k' (by simp only [List.length_set]; omega) y
          have hset : Hid (((p ++ (U1 ++ (A' ++ [z]) ++ y :: B) ++ s).set k z).set k' y = p ++ (U1 ++ A' ++ y :: (z :: B)) ++ s) := by
            unfold Hid
            rw [hk', hk2, show p ++ (U1 ++ (A' ++ [z]) ++ y :: B) ++ s = p ++ ((U1 ++ A') ++ (z :: y :: B ++ s)) by simp]
            rw [List.set_append_right _ _ (by omega), List.set_append_right _ _ (by omega), List.set_append_right _ _ (by omega), List.set_append_right _ _ (by omega)]
            rw [show p.length + (U1 ++ A').length + 1 - p.length - (U1 ++ A').length = 1 by omega, show p.length + (U1 ++ A').length - p.length - (U1 ++ A').length = 0 by omega]
            simp
          rw [hset.out] at hR4
          have hAB2 : Hid (A' ++ (z :: B) = U2) := by rw [← hAB.out]; simp [Hid]
          have hk3 : Hid (k' = i + A'.length) := by have := hk.out; unfold Hid; simp at this; omega
          have hik' : i ≤ k' := by omega
          have hkm' : k' ≤ m := by omega
          have hkN : (k : Int) < (N : Int) := by omega
          have hkN' : (k' : Int) < (N : Int) := by omega
          have hw1 : IntKind.i64.wrap ((k : Int) - 1) = (k' : Int) := by rw [IntWalk.i64_in _ (by omega)]; omega
          have hw2 : (k : Int) - 1 = (k' : Int) := by omega
          clear hx1 hx2 hl1 hset hR hAB
          replace hk2 := Lib.hid hk2
          replace hk' := Lib.hid hk'
          go_wp2
          go_region
          all_goals go_wp2
          all_goals go_roundw
          case measure => have := hk'.out; simp [intOf]; omega
          case rel => exact ⟨k', A', z :: B, rfl, hik', hkm', hk3, hAB2, hR4.drewN 1⟩
        · have hA : A = [] := by
            have h1 := hk.out
            exact List.eq_nil_of_length_eq_zero (by omega)
          subst hA
          have hB : B = U2 := by have := hAB.out; simpa using this
          subst hB
          have hR2 : Row w wr g (p ++ (U1 ++ y :: B) ++ s) pad := by simpa using hR
          clear hAB hR
          go_wp2
          refine bodyPost_ret (results_none rfl _ _ _) rfl ?_
          exact ⟨rfl, _, ⟨hperm.out, hsorted.out⟩, hR2⟩
end Go.Proofs.YtocbjhhnginebaaGreat.Sh

namespace Go.Proofs.YtocbjhhnginebaaGreat.Sh
open Go.RowKit Go.Lib
set_option linter.unusedVariables false
set_option linter.unusedSimpArgs false

def Two (U V : List Shot) : Prop := (∀ y ∈ U ++ V, ShOk y) ∧ ∀ u ∈ U, ∀ v ∈ V, Bef u v
def SymOk (n : Nat) : Prop := ∀ (g c : Nat) (p U V s : List Shot) (pad : List Value) (a m b N : Nat) (w W : World), Row w W g (p ++ U ++ V ++ s) pad → N ≤ c → N ≤ 4611686018427387 → N = (p ++ U ++ V ++ s).length →
    a = p.length → m = p.length + U.length → b = p.length + U.length + V.length → U ≠ [] → V ≠ [] → U.length + V.length ≤ n → Two U V → Sorted U → Sorted V →
    Calls Tryz.prog 150 #[.slice (some ⟨g, 0, none⟩) N c, .int .i64 a, .int .i64 m, .int .i64 b, .func (.func 79) #[] #[]] W fun e w' => e = .returned (.tuple #[]) ∧ ∃ M' : List Shot, (M'.Perm (U ++ V) ∧ Sorted M') ∧ Row w w' g (p ++ M' ++ s) pad

/-- What stands left of the cut is not above what stands right of it. -/
theorem sym_parts {U1 U2 V1 V2 M1 M2 : List Shot} (hU : Sorted (U1 ++ U2)) (hV : Sorted (V1 ++ V2)) (h1 : ∀ u ∈ U1, ∀ v ∈ V2, leS u v) (h2 : ∀ v ∈ V1, ∀ u ∈ U2, leS v u)
    (p1 : M1.Perm (U1 ++ V1)) (p2 : M2.Perm (U2 ++ V2)) (s1 : Sorted M1) (s2 : Sorted M2) : (M1 ++ M2).Perm (U1 ++ U2 ++ (V1 ++ V2)) ∧ Sorted (M1 ++ M2) := by
  unfold Sorted at *
  rw [List.pairwise_append] at hU hV
  refine ⟨?_, List.pairwise_append.2 ⟨s1, s2, fun x hx y hy => ?_⟩⟩
  · refine (List.Perm.append p1 p2).trans ?_
    have e1 : U1 ++ V1 ++ (U2 ++ V2) = U1 ++ (V1 ++ U2) ++ V2 := by simp
    have e2 : U1 ++ U2 ++ (V1 ++ V2) = U1 ++ (U2 ++ V1) ++ V2 := by simp
    rw [e1, e2]
    exact List.Perm.append_right _ (List.Perm.append_left _ List.perm_append_comm)
  · have hx' := (p1.mem_iff).1 hx
    have hy' := (p2.mem_iff).1 hy
    rcases List.mem_append.1 hx' with a | a <;> rcases List.mem_append.1 hy' with b | b
    · exact hU.2.2 x a y b
    · exact h1 x a y b
    · exact h2 x a y b
    · exact hV.2.2 x a y b

/-- What the halving search has found out: t0 of the first half go left, h - t0 of the second. -/
theorem sym_cut {U V : List Shot} (hU : Sorted U) (hV : Sorted V) (h t0 : Nat) (ht : t0 ≤ h) (htU : t0 ≤ U.length) (htV : h - t0 ≤ V.length)
    (lo : t0 = 0 ∨ h - t0 = V.length ∨ ∀ u v, U[t0 - 1]? = some u → V[h - t0]? = some v → leS u v)
    (hi : t0 = U.length ∨ h = t0 ∨ ∀ u v, U[t0]? = some u → V[h - t0 - 1]? = some v → leS v u) :
    (∀ u ∈ U.take t0, ∀ v ∈ V.drop (h - t0), leS u v) ∧ (∀ v ∈ V.take (h - t0), ∀ u ∈ U.drop t0, leS v u) := by
  constructor
  · intro u hu v hv
    obtain ⟨i, hi', rfl⟩ := List.getElem_of_mem hu
    obtain ⟨j, hj', rfl⟩ := List.getElem_of_mem hv
    simp only [List.length_take, List.length_drop] at hi' hj'
    simp only [List.getElem_take, List.getElem_drop]
    rcases lo with h0 | h0 | h0
    · omega
    · omega
    · refine leS_trans (sorted_get hU (show i ≤ t0 - 1 by omega) (List.getElem?_eq_getElem (by omega)) (List.getElem?_eq_getElem (by omega))) (leS_trans (h0 _ _ (List.getElem?_eq_getElem (by omega)) (List.getElem?_eq_getElem (by omega))) (sorted_get hV (show h - t0 ≤ h - t0 + j by omega) (List.getElem?_eq_getElem (by omega)) (List.getElem?_eq_getElem (by omega))))
  · intro v hv u hu
    obtain ⟨i, hi', rfl⟩ := List.getElem_of_mem hv
    obtain ⟨j, hj', rfl⟩ := List.getElem_of_mem hu
    simp only [List.length_take, List.length_drop] at hi' hj'
    simp only [List.getElem_take, List.getElem_drop]
    rcases hi with h0 | h0 | h0
    · omega
    · omega
    · refine leS_trans (sorted_get hV (show i ≤ h - t0 - 1 by omega) (List.getElem?_eq_getElem (by omega)) (List.getElem?_eq_getElem (by omega))) (leS_trans (h0 _ _ (List.getElem?_eq_getElem (by omega)) (List.getElem?_eq_getElem (by omega))) (sorted_get hU (show t0 ≤ t0 + j by omega) (List.getElem?_eq_getElem (by omega)) (List.getElem?_eq_getElem (by omega))))

set_option maxHeartbeats 16000000 in
set_option maxRecDepth 100000 in
theorem sym_step (n : Nat) (ih : SymOk n) (g c : Nat) (p U V s : List Shot) (pad : List Value) (a m b N : Nat) (w W : World) (hR : Row w W g (p ++ U ++ V ++ s) pad) (hc : N ≤ c) (hm : N ≤ 4611686018427387) (hN : N = (p ++ U ++ V ++ s).length)
    (ha : a = p.length) (hmm : m = p.length + U.length) (hb : b = p.length + U.length + V.length) (hU1 : 2 ≤ U.length) (hV1 : 2 ≤ V.length) (hn : U.length + V.length ≤ n + 1) (hsz : Two U V) (hU : Sorted U) (hV : Sorted V) :
    Calls Tryz.prog 150 #[.slice (some ⟨g, 0, none⟩) N c, .int .i64 a, .int .i64 m, .int .i64 b, .func (.func 79) #[] #[]] W fun e w' => e = .returned (.tuple #[]) ∧ ∃ M' : List Shot, (M'.Perm (U ++ V) ∧ Sorted M') ∧ Row w w' g (p ++ M' ++ s) pad := by
  have hbN : b ≤ N := by subst hb hN; simp; omega
  have e1 : (((m : Int) - (a : Int)) == 1) = false := by rw [beq_eq_false_iff_ne]; omega
  have e2 : (((b : Int) - (m : Int)) == 1) = false := by rw [beq_eq_false_iff_ne]; omega
  have ham : a ≤ m := by omega
  have hmb : m ≤ b := by omega
  obtain ⟨mid, hmid⟩ : ∃ mid : Nat, ((a : Int) + (b : Int)) / 2 = (mid : Int) := ⟨(a + b) / 2, by omega⟩
  obtain ⟨h, hh⟩ : ∃ h, mid = a + h := ⟨mid - a, by omega⟩
  have hmid2 : mid < b := by omega
  have hmid1 : a < mid := by omega
  obtain ⟨nn, hnn⟩ : ∃ nn, nn = mid + m := ⟨_, rfl⟩
  have ennI : (mid : Int) + (m : Int) = (nn : Int) := by omega
  obtain ⟨pp, hpp⟩ : ∃ pp, nn = pp + 1 := ⟨nn - 1, by omega⟩
  have eppI : (nn : Int) - 1 = (pp : Int) := by omega
  -- the search's bounds, as places
  obtain ⟨st0, r0, hst0, hstr, hr0m, hr0mid, hast, hlobd, hhibd⟩ : ∃ st0 r0 : Nat, ((m > mid ∧ (nn : Int) - (b : Int) = (st0 : Int) ∧ r0 = mid) ∨ (¬ m > mid ∧ st0 = a ∧ r0 = m)) ∧ st0 ≤ r0 ∧ r0 ≤ m ∧ r0 ≤ mid ∧ a ≤ st0 ∧ (st0 = a ∨ st0 + b = nn) ∧ (r0 = m ∨ r0 = mid) := by
    by_cases hgt : m > mid
    · exact ⟨nn - b, mid, .inl ⟨hgt, by omega, rfl⟩, by omega, by omega, by omega, by omega, by omega, .inr rfl⟩
    · exact ⟨a, m, .inr ⟨hgt, rfl, rfl⟩, by omega, by omega, by omega, by omega, .inl rfl, .inl rfl⟩
  have hst0n : nn ≤ st0 + b := by omega
  have hnnN : nn ≤ N + N := by omega
  replace hb := Lib.hid hb
  replace ha := Lib.hid ha
  replace hN := Lib.hid hN
  replace hmm := Lib.hid hmm
  replace hh := Lib.hid hh
  replace hnn := Lib.hid hnn
  replace hpp := Lib.hid hpp
  replace hlobd := Lib.hid hlobd
  replace hhibd := Lib.hid hhibd
  replace ih := Lib.hid ih
  replace hst0n := Lib.hid hst0n
  replace hst0 := Lib.hid hst0
  go_enter Tryz.func150, Tryz.ntmps150
  go_upto_if 140 with fail
  go_cut [20, 21] (fun x y W' => x = .int .i64 st0 ∧ y = .int .i64 r0 ∧ W = W')
  case first =>
    rcases hst0.out with ⟨hgt, hstI, hr0e⟩ | ⟨hgt, hste, hr0e⟩
    · have hgt' : (mid : Int) < (m : Int) := by omega
      subst hr0e
      go_wp2
      go_meet
      exact ⟨rfl, rfl, rfl⟩
    · have hgt' : ¬ ((mid : Int) < (m : Int)) := by omega
      subst hste
      subst hr0e
      go_wp2
      go_meet
      exact ⟨rfl, rfl, rfl⟩
  case rest =>
    obtain ⟨rfl, rfl, rfl⟩ := hcut
    clear hst0 hmid
    go_wp2
    go_loopw [20, 21] (fun x y W' => ∃ i j : Nat, x = .int .i64 i ∧ y = .int .i64 j ∧ st0 ≤ i ∧ i ≤ j ∧ j ≤ r0 ∧
        Hid (∀ (cc : Nat) (u v : Shot), st0 ≤ cc → cc < i → U[cc - a]? = some u → V[pp - cc - m]? = some v → leS u v) ∧ Hid (∀ (cc : Nat) (u v : Shot), j ≤ cc → cc < r0 → U[cc - a]? = some u → V[pp - cc - m]? = some v → leS v u) ∧ Row w W' g (p ++ U ++ V ++ s) pad) (fun x y _ => (intOf y).toNat - (intOf x).toNat)
    case atStart => exact ⟨st0, r0, rfl, rfl, Nat.le_refl _, hstr, Nat.le_refl _, (fun cc u v h1 h2 => by omega), (fun cc u v h1 h2 => by omega), hR⟩
    case round =>
      clear hR
      obtain ⟨i, j, rfl, rfl, hsti, hij, hjr, hlo, hhi, hR⟩ := hrel
      by_cases hlt : i < j
      · obtain ⟨cc, hcc⟩ : ∃ cc : Nat, ((i : Int) + (j : Int)) / 2 = (cc : Int) := ⟨(i + j) / 2, by omega⟩
        have hic : i ≤ cc := by omega
        have hcj : cc < j := by omega
        have hppc : cc ≤ pp := by have := hpp.out; have := hnn.out; omega
        obtain ⟨d, hd⟩ : ∃ d, pp = cc + d := ⟨pp - cc, by omega⟩
        have edI : (pp : Int) - (cc : Int) = (d : Int) := by omega
        have ewI : IntKind.i64.wrap ((pp : Int) - (cc : Int)) = (d : Int) := by rw [edI]; exact IntWalk.i64_in _ (by have := hpp.out; omega)
        have hmd : m ≤ d := by have := hpp.out; have := hnn.out; omega
        have hdb : d < b := by have := hpp.out; have := hst0n.out; omega
        have htU : cc - a < U.length := by have := ha.out; have := hmm.out; omega
        have htV : d - m < V.length := by have := hmm.out; have := hb.out; omega
        have hx1 : (p ++ U ++ V ++ s)[d]? = some V[d - m] := by
          have h1 := hmm.out
          simp only [List.append_assoc]
          rw [get_right p _ _ (by omega), get_right U _ _ (by omega), List.getElem?_append_left (by omega), ← List.getElem?_eq_getElem htV]
          congr 1; omega
        have hx2 : (p ++ U ++ V ++ s)[cc]? = some U[cc - a] := by
          have h1 := ha.out
          simp only [List.append_assoc]
          rw [get_right p _ _ (by omega), List.getElem?_append_left (by omega), ← List.getElem?_eq_getElem htU]
          congr 1; omega
        obtain ⟨hc1, hc1b⟩ := hR.cell hx1
        obtain ⟨hc2, hc2b⟩ := hR.cell hx2
        have hcmp := fun W' => cmp_mk V[d - m] U[cc - a] W' (hsz.1 _ (List.mem_append_right _ (List.getElem_mem htV))) (hsz.1 _ (List.mem_append_left _ (List.getElem_mem htU)))
        have hlo2 : Hid (¬ cmpS V[d - m] U[cc - a] < 0 → ∀ (c' : Nat) (u v : Shot), st0 ≤ c' → c' < cc + 1 → U[c' - a]? = some u → V[pp - c' - m]? = some v → leS u v) := fun hcx c' u v h1 h2 h3 h4 =>
          leS_trans (sorted_get hU (show c' - a ≤ cc - a by omega) h3 (List.getElem?_eq_getElem htU)) (leS_trans (leS_of_not hcx (hsz.2 _ (List.getElem_mem htU) _ (List.getElem_mem htV))) (sorted_get hV (show d - m ≤ pp - c' - m by omega) (List.getElem?_eq_getElem htV) h4))
        have hhi2 : Hid (cmpS V[d - m] U[cc - a] < 0 → ∀ (c' : Nat) (u v : Shot), cc ≤ c' → c' < r0 → U[c' - a]? = some u → V[pp - c' - m]? = some v → leS v u) := fun hcx c' u v h1 h2 h3 h4 =>
          leS_trans (sorted_get hV (show pp - c' - m ≤ d - m by omega) h4 (List.getElem?_eq_getElem htV)) (leS_trans (leS_of_lt hcx) (sorted_get hU (show cc - a ≤ c' - a by omega) (List.getElem?_eq_getElem htU) h3))
        clear edI
        have hdN : (d : Int) < (N : Int) := by omega
        have hcN : (cc : Int) < (N : Int) := by omega
        generalize V[d - m] = y at *
        generalize U[cc - a] = x at *
        replace hcmp := Lib.hid hcmp
        replace hd := Lib.hid hd
        clear hx1 hx2 hsz
        go_upto_region 35 with fail
        go_still_tail 11, (by kernel_rfl)
        change wpList _ _ _ _ _ wr.drew
        have hR1 := hR.drewN 1
        change Row w wr.drew g _ pad at hR1
        generalize wr.drew = w2 at *
        go_wp2_with fail
        refine (hcmp.out _).mono ?_
        rintro e w3 ⟨rfl, hB3⟩
        have hR3 := hR1.below hB3
        clear hcmp hc1 hc2 hR hR1
        by_cases hcx : cmpS y x < 0
        · have hdb' : decide (cmpS y x < 0) = true := decide_eq_true hcx
          go_wp2
          go_roundw
          case measure => simp [intOf]; omega
          case rel => exact ⟨i, cc, rfl, rfl, by omega, by omega, by omega, hlo, hhi2.out hcx, hR3⟩
        · have hdb' : decide (cmpS y x < 0) = false := decide_eq_false hcx
          go_wp2
          go_roundw
          case measure => simp [intOf]; omega
          case rel => exact ⟨cc + 1, j, by go_num, rfl, by omega, by omega, by omega, hlo2.out hcx, hhi, hR3⟩
      · obtain rfl : i = j := by omega
        obtain ⟨t0, ht0⟩ : ∃ t0, i = a + t0 := ⟨i - a, by omega⟩
        have ht0h : t0 ≤ h := by have := hh.out; omega
        have ht0U : t0 ≤ U.length := by have := ha.out; have := hmm.out; omega
        have hhV : h - t0 ≤ V.length := by have := hh.out; have := hst0n.out; have := hnn.out; have := hmm.out; have := hb.out; omega
        have hcut := sym_cut hU hV h t0 ht0h ht0U hhV (by
            by_cases h1 : i = st0
            · rcases hlobd.out with h2 | h2
              · left; omega
              · right; left; have := hh.out; have := hnn.out; have := hmm.out; have := hb.out; omega
            · right; right
              intro u v h2 h3
              refine hlo.out (i - 1) u v (by omega) (by omega) (by rw [← h2]; congr 1; omega) ?_
              rw [← h3]; congr 1; have := hpp.out; have := hnn.out; have := hh.out; omega) (by
            by_cases h1 : i = r0
            · rcases hhibd.out with h2 | h2
              · left; have := hmm.out; have := ha.out; omega
              · right; left; have := hh.out; omega
            · right; right
              intro u v h2 h3
              refine hhi.out i u v (by omega) (by omega) (by rw [← h2]; congr 1; omega) ?_
              rw [← h3]; congr 1; have := hpp.out; have := hnn.out; have := hh.out; omega)
        obtain ⟨U1, U2, hU12, hlU1, hlU2⟩ := take_drop_len U t0 ht0U
        obtain ⟨V1, V2, hV12, hlV1, hlV2⟩ := take_drop_len V (h - t0) hhV
        have ht1 : U.take t0 = U1 := by rw [hU12, List.take_left' hlU1]
        have ht2 : U.drop t0 = U2 := by rw [hU12, List.drop_left' hlU1]
        have ht3 : V.take (h - t0) = V1 := by rw [hV12, List.take_left' hlV1]
        have ht4 : V.drop (h - t0) = V2 := by rw [hV12, List.drop_left' hlV1]
        rw [ht1, ht2, ht3, ht4] at hcut
        have hparts := fun (M1 M2 : List Shot) => sym_parts (U1 := U1) (U2 := U2) (V1 := V1) (V2 := V2) (M1 := M1) (M2 := M2) (by rw [← hU12]; exact hU) (by rw [← hV12]; exact hV) hcut.1 hcut.2
        rw [← hU12, ← hV12] at hparts
        have hsU : Sorted U1 ∧ Sorted U2 := by
          rw [hU12] at hU; unfold Sorted at hU ⊢; rw [List.pairwise_append] at hU; exact ⟨hU.1, hU.2.1⟩
        have hsV : Sorted V1 ∧ Sorted V2 := by
          rw [hV12] at hV; unfold Sorted at hV ⊢; rw [List.pairwise_append] at hV; exact ⟨hV.1, hV.2.1⟩
        obtain ⟨e, hend⟩ : ∃ e : Nat, (nn : Int) - (i : Int) = (e : Int) := ⟨nn - i, by have := hnn.out; omega⟩
        have hem : Hid (e = m + V1.length) := by have := hnn.out; have := hh.out; unfold Hid; omega
        have him : Hid (m = i + U2.length) := by have := hmm.out; have := ha.out; unfold Hid; omega
        have hia : Hid (i = a + U1.length) := by unfold Hid; omega
        have hmi : Hid (mid = i + V1.length) := by have := hh.out; unfold Hid; omega
        have hme : Hid (e = mid + U2.length) := by have := hnn.out; have := hh.out; have := hmm.out; have := ha.out; unfold Hid; omega
        have heb : Hid (b = e + V2.length) := by have := hem.out; have := hb.out; have := hmm.out; unfold Hid; omega
        have hiN : i ≤ N := by omega
        have heN : e ≤ N := by have := heb.out; omega
        have hszU : Hid (Two U1 V1) := ⟨fun y hy => hsz.1 y (by
          rw [hU12, hV12]; simp only [List.mem_append] at hy ⊢; rcases hy with h | h
          · exact .inl (.inl h)
          · exact .inr (.inl h)), fun u hu v hv => hsz.2 u (by rw [hU12]; exact List.mem_append_left _ hu) v (by rw [hV12]; exact List.mem_append_left _ hv)⟩
        have hszV : Hid (Two U2 V2) := ⟨fun y hy => hsz.1 y (by
          rw [hU12, hV12]; simp only [List.mem_append] at hy ⊢; rcases hy with h | h
          · exact .inl (.inr h)
          · exact .inr (.inr h)), fun u hu v hv => hsz.2 u (by rw [hU12]; exact List.mem_append_right _ hu) v (by rw [hV12]; exact List.mem_append_right _ hv)⟩
        have hlen1 : Hid (U1.length + V1.length ≤ n) := by have := ha.out; have := hmi.out; have := hia.out; have := hh.out; have := hmm.out; have := hb.out; unfold Hid; omega
        have hlen2 : Hid (U2.length + V2.length ≤ n) := by have := hme.out; have := heb.out; have := hh.out; have := hmm.out; have := hb.out; have := ha.out; unfold Hid; omega
        have hNe : Hid (N = (p ++ U1 ++ U2 ++ V1 ++ V2 ++ s).length) := by
          have := hN.out; rw [hU12, hV12] at this; unfold Hid; rw [this]; simp
        have hR0 : Row w wr g (p ++ U1 ++ U2 ++ V1 ++ (V2 ++ s)) pad := by rw [hU12, hV12] at hR; simpa using hR
        replace hparts := Lib.hid hparts
        replace hsU := Lib.hid hsU
        replace hsV := Lib.hid hsV
        have hi1 : Hid (a = p.length) := ha
        have hgi := hlt
        clear hR hlo hhi hsz hcut ht1 ht2 ht3 ht4 hU hV hlU1 hlU2 hlV1 hlV2 ht0 ht0h ht0U hhV
        replace hU12 := Lib.hid hU12
        replace hV12 := Lib.hid hV12
        clear hU1 hV1 hn hsti hij hjr hlt
        have cmb : Hid (∀ M1 M2 : List Shot, M1.Perm (U1 ++ V1) → M2.Perm (U2 ++ V2) → Sorted M1 → Sorted M2 → (M1 ++ M2).Perm (U ++ V) ∧ Sorted (M1 ++ M2)) := hparts.out
        clear hparts
        have hia' := hia.out
        have him' := him.out
        have hem' := hem.out
        have hmi' := hmi.out
        have hme' := hme.out
        have heb' := heb.out
        have hNe' := hNe.out
        have hi1' := hi1.out
        by_cases hzU1 : 0 < U1.length
        · by_cases hzU2 : 0 < U2.length
          · by_cases hzV1 : 0 < V1.length
            · by_cases hzV2 : 0 < V2.length
              · have t1 : ((i : Int) < (m : Int)) := by omega
                have t2 : ((m : Int) < (e : Int)) := by omega
                have t3 : ((a : Int) < (i : Int)) := by omega
                have t4 : ((i : Int) < (mid : Int)) := by omega
                have t5 : ((mid : Int) < (e : Int)) := by omega
                have t6 : ((e : Int) < (b : Int)) := by omega
                have hcall := rotate_calls g c (p ++ U1) U2 V1 (V2 ++ s) pad i m e N (.func (.func 79) #[] #[]) w wr hR0 hc (by omega) (by rw [hNe']; simp) (by simp; omega) (by simp; omega) (by simp; omega) (by omega) (by omega)
                replace hcall := Lib.hid hcall
                clear hia' him' hem' hmi' hme' heb' hNe' hi1'
                go_wp2_with fail
                refine hcall.out.mono ?_
                rintro e' w2 ⟨rfl, hRA⟩
                have hRA2 : Row w w2 g (p ++ U1 ++ V1 ++ (U2 ++ V2) ++ s) pad := by simpa using hRA
                clear hR0 hRA hcall
                have hcallB := ih.out g c p U1 V1 ((U2 ++ V2) ++ s) pad a i mid N w w2 (by simpa using hRA2) hc hm (by have := hNe.out; rw [this]; simp; omega) hi1.out (by have := hia.out; have := hi1.out; omega) (by have := hmi.out; have := hia.out; have := hi1.out; omega) (List.length_pos_iff.1 (by omega)) (List.length_pos_iff.1 (by omega)) hlen1.out hszU.out hsU.out.1 hsV.out.1
                replace hcallB := Lib.hid hcallB
                go_wp2_with fail
                refine hcallB.out.mono ?_
                rintro e' w3 ⟨rfl, M1, hM1, hRB⟩
                have hRB2 : Row w w3 g (p ++ M1 ++ (U2 ++ V2) ++ s) pad := by simpa using hRB
                clear hRA2 hRB hcallB
                have hM1p : Hid (M1.Perm (U1 ++ V1)) := hM1.1
                have hM1s : Hid (Sorted M1) := hM1.2
                clear hM1
                have hlM : Hid (M1.length = U1.length + V1.length) := by have := hM1p.out.length_eq; simpa [Hid] using this
                have hcallC := ih.out g c (p ++ M1) U2 V2 s pad mid e b N w w3 (by simpa using hRB2) hc hm (by have := hlM.out; rw [hNe.out]; simp; omega) (by have := hlM.out; have := hmi.out; have := hia.out; have := hi1.out; simp; omega) (by have := hlM.out; have := hme.out; have := hmi.out; have := hia.out; have := hi1.out; simp; omega) (by have := hlM.out; have := heb.out; have := hme.out; have := hmi.out; have := hia.out; have := hi1.out; simp; omega) (List.length_pos_iff.1 (by omega)) (List.length_pos_iff.1 (by omega)) hlen2.out hszV.out hsU.out.2 hsV.out.2
                replace hcallC := Lib.hid hcallC
                go_wp2_with fail
                refine hcallC.out.mono ?_
                rintro e' w4 ⟨rfl, M2, hM2, hRC⟩
                have hfin := cmb.out M1 M2 hM1p.out hM2.1 hM1s.out hM2.2
                replace hfin := Lib.hid hfin
                clear hM2 hcallC
                go_wp2
                go_end0
                exact ⟨rfl, M1 ++ M2, hfin.out, by simpa using hRC⟩
              · have hV2 : Hid (V2 = []) := List.eq_nil_of_length_eq_zero (by omega)
                have t1 : ((i : Int) < (m : Int)) := by omega
                have t2 : ((m : Int) < (e : Int)) := by omega
                have t3 : ((a : Int) < (i : Int)) := by omega
                have t4 : ((i : Int) < (mid : Int)) := by omega
                have t5 : ((mid : Int) < (e : Int)) := by omega
                have t6 : ¬ ((e : Int) < (b : Int)) := by omega
                have hcall := rotate_calls g c (p ++ U1) U2 V1 (V2 ++ s) pad i m e N (.func (.func 79) #[] #[]) w wr hR0 hc (by omega) (by rw [hNe']; simp) (by simp; omega) (by simp; omega) (by simp; omega) (by omega) (by omega)
                replace hcall := Lib.hid hcall
                clear hia' him' hem' hmi' hme' heb' hNe' hi1'
                go_wp2_with fail
                refine hcall.out.mono ?_
                rintro e' w2 ⟨rfl, hRA⟩
                have hRA2 : Row w w2 g (p ++ U1 ++ V1 ++ (U2 ++ V2) ++ s) pad := by simpa using hRA
                clear hR0 hRA hcall
                have hcallB := ih.out g c p U1 V1 ((U2 ++ V2) ++ s) pad a i mid N w w2 (by simpa using hRA2) hc hm (by have := hNe.out; rw [this]; simp; omega) hi1.out (by have := hia.out; have := hi1.out; omega) (by have := hmi.out; have := hia.out; have := hi1.out; omega) (List.length_pos_iff.1 (by omega)) (List.length_pos_iff.1 (by omega)) hlen1.out hszU.out hsU.out.1 hsV.out.1
                replace hcallB := Lib.hid hcallB
                go_wp2_with fail
                refine hcallB.out.mono ?_
                rintro e' w3 ⟨rfl, M1, hM1, hRB⟩
                have hRB2 : Row w w3 g (p ++ M1 ++ (U2 ++ V2) ++ s) pad := by simpa using hRB
                clear hRA2 hRB hcallB
                have hM1p : Hid (M1.Perm (U1 ++ V1)) := hM1.1
                have hM1s : Hid (Sorted M1) := hM1.2
                clear hM1
                have hlM : Hid (M1.length = U1.length + V1.length) := by have := hM1p.out.length_eq; simpa [Hid] using this
                have hfin := cmb.out M1 (U2 ++ V2) hM1p.out (List.Perm.refl _) hM1s.out (by rw [hV2.out]; simpa using hsU.out.2)
                replace hfin := Lib.hid hfin
                go_wp2
                go_end0
                exact ⟨rfl, M1 ++ (U2 ++ V2), hfin.out, by simpa using hRB2⟩
            · have hV1 : Hid (V1 = []) := List.eq_nil_of_length_eq_zero (by omega)
              by_cases hzV2 : 0 < V2.length
              · have t1 : ((i : Int) < (m : Int)) := by omega
                have t2 : ¬ ((m : Int) < (e : Int)) := by omega
                have t3 : ((a : Int) < (i : Int)) := by omega
                have t4 : ¬ ((i : Int) < (mid : Int)) := by omega
                have t5 : ((mid : Int) < (e : Int)) := by omega
                have t6 : ((e : Int) < (b : Int)) := by omega
                clear hia' him' hem' hmi' hme' heb' hNe' hi1'
                have hRA2 : Row w wr g (p ++ U1 ++ V1 ++ (U2 ++ V2) ++ s) pad := by have := hR0; rw [hV1.out] at this ⊢; simpa using this
                clear hR0
                obtain ⟨M1, hM1e⟩ : ∃ M1 : List Shot, M1 = U1 ++ V1 := ⟨_, rfl⟩
                have hM1p : Hid (M1.Perm (U1 ++ V1)) := by unfold Hid; rw [hM1e]
                have hM1s : Hid (Sorted M1) := by unfold Hid; rw [hM1e, hV1.out]; simpa using hsU.out.1
                have hRB2 : Row w wr g (p ++ M1 ++ (U2 ++ V2) ++ s) pad := by rw [hM1e]; simpa using hRA2
                clear hRA2 hM1e
                have hlM : Hid (M1.length = U1.length + V1.length) := by have := hM1p.out.length_eq; simpa [Hid] using this
                have hcallC := ih.out g c (p ++ M1) U2 V2 s pad mid e b N w wr (by simpa using hRB2) hc hm (by have := hlM.out; rw [hNe.out]; simp; omega) (by have := hlM.out; have := hmi.out; have := hia.out; have := hi1.out; simp; omega) (by have := hlM.out; have := hme.out; have := hmi.out; have := hia.out; have := hi1.out; simp; omega) (by have := hlM.out; have := heb.out; have := hme.out; have := hmi.out; have := hia.out; have := hi1.out; simp; omega) (List.length_pos_iff.1 (by omega)) (List.length_pos_iff.1 (by omega)) hlen2.out hszV.out hsU.out.2 hsV.out.2
                replace hcallC := Lib.hid hcallC
                go_wp2_with fail
                refine hcallC.out.mono ?_
                rintro e' w4 ⟨rfl, M2, hM2, hRC⟩
                have hfin := cmb.out M1 M2 hM1p.out hM2.1 hM1s.out hM2.2
                replace hfin := Lib.hid hfin
                clear hM2 hcallC
                go_wp2
                go_end0
                exact ⟨rfl, M1 ++ M2, hfin.out, by simpa using hRC⟩
              · have hV2 : Hid (V2 = []) := List.eq_nil_of_length_eq_zero (by omega)
                have t1 : ((i : Int) < (m : Int)) := by omega
                have t2 : ¬ ((m : Int) < (e : Int)) := by omega
                have t3 : ((a : Int) < (i : Int)) := by omega
                have t4 : ¬ ((i : Int) < (mid : Int)) := by omega
                have t5 : ((mid : Int) < (e : Int)) := by omega
                have t6 : ¬ ((e : Int) < (b : Int)) := by omega
                clear hia' him' hem' hmi' hme' heb' hNe' hi1'
                have hRA2 : Row w wr g (p ++ U1 ++ V1 ++ (U2 ++ V2) ++ s) pad := by have := hR0; rw [hV1.out] at this ⊢; simpa using this
                clear hR0
                obtain ⟨M1, hM1e⟩ : ∃ M1 : List Shot, M1 = U1 ++ V1 := ⟨_, rfl⟩
                have hM1p : Hid (M1.Perm (U1 ++ V1)) := by unfold Hid; rw [hM1e]
                have hM1s : Hid (Sorted M1) := by unfold Hid; rw [hM1e, hV1.out]; simpa using hsU.out.1
                have hRB2 : Row w wr g (p ++ M1 ++ (U2 ++ V2) ++ s) pad := by rw [hM1e]; simpa using hRA2
                clear hRA2 hM1e
                have hlM : Hid (M1.length = U1.length + V1.length) := by have := hM1p.out.length_eq; simpa [Hid] using this
                have hfin := cmb.out M1 (U2 ++ V2) hM1p.out (List.Perm.refl _) hM1s.out (by rw [hV2.out]; simpa using hsU.out.2)
                replace hfin := Lib.hid hfin
                go_wp2
                go_end0
                exact ⟨rfl, M1 ++ (U2 ++ V2), hfin.out, by simpa using hRB2⟩
          · have hU2 : Hid (U2 = []) := List.eq_nil_of_length_eq_zero (by omega)
            by_cases hzV1 : 0 < V1.length
            · by_cases hzV2 : 0 < V2.length
              · have t1 : ¬ ((i : Int) < (m : Int)) := by omega
                have t3 : ((a : Int) < (i : Int)) := by omega
                have t4 : ((i : Int) < (mid : Int)) := by omega
                have t5 : ¬ ((mid : Int) < (e : Int)) := by omega
                clear hia' him' hem' hmi' hme' heb' hNe' hi1'
                have hRA2 : Row w wr g (p ++ U1 ++ V1 ++ (U2 ++ V2) ++ s) pad := by have := hR0; rw [hU2.out] at this ⊢; simpa using this
                clear hR0
                have hcallB := ih.out g c p U1 V1 ((U2 ++ V2) ++ s) pad a i mid N w wr (by simpa using hRA2) hc hm (by have := hNe.out; rw [this]; simp; omega) hi1.out (by have := hia.out; have := hi1.out; omega) (by have := hmi.out; have := hia.out; have := hi1.out; omega) (List.length_pos_iff.1 (by omega)) (List.length_pos_iff.1 (by omega)) hlen1.out hszU.out hsU.out.1 hsV.out.1
                replace hcallB := Lib.hid hcallB
                go_wp2_with fail
                refine hcallB.out.mono ?_
                rintro e' w3 ⟨rfl, M1, hM1, hRB⟩
                have hRB2 : Row w w3 g (p ++ M1 ++ (U2 ++ V2) ++ s) pad := by simpa using hRB
                clear hRA2 hRB hcallB
                have hM1p : Hid (M1.Perm (U1 ++ V1)) := hM1.1
                have hM1s : Hid (Sorted M1) := hM1.2
                clear hM1
                have hlM : Hid (M1.length = U1.length + V1.length) := by have := hM1p.out.length_eq; simpa [Hid] using this
                have hfin := cmb.out M1 (U2 ++ V2) hM1p.out (List.Perm.refl _) hM1s.out (by rw [hU2.out]; simpa using hsV.out.2)
                replace hfin := Lib.hid hfin
                go_wp2
                go_end0
                exact ⟨rfl, M1 ++ (U2 ++ V2), hfin.out, by simpa using hRB2⟩
              · have hV2 : Hid (V2 = []) := List.eq_nil_of_length_eq_zero (by omega)
                have t1 : ¬ ((i : Int) < (m : Int)) := by omega
                have t3 : ((a : Int) < (i : Int)) := by omega
                have t4 : ((i : Int) < (mid : Int)) := by omega
                have t5 : ¬ ((mid : Int) < (e : Int)) := by omega
                clear hia' him' hem' hmi' hme' heb' hNe' hi1'
                have hRA2 : Row w wr g (p ++ U1 ++ V1 ++ (U2 ++ V2) ++ s) pad := by have := hR0; rw [hU2.out] at this ⊢; simpa using this
                clear hR0
                have hcallB := ih.out g c p U1 V1 ((U2 ++ V2) ++ s) pad a i mid N w wr (by simpa using hRA2) hc hm (by have := hNe.out; rw [this]; simp; omega) hi1.out (by have := hia.out; have := hi1.out; omega) (by have := hmi.out; have := hia.out; have := hi1.out; omega) (List.length_pos_iff.1 (by omega)) (List.length_pos_iff.1 (by omega)) hlen1.out hszU.out hsU.out.1 hsV.out.1
                replace hcallB := Lib.hid hcallB
                go_wp2_with fail
                refine hcallB.out.mono ?_
                rintro e' w3 ⟨rfl, M1, hM1, hRB⟩
                have hRB2 : Row w w3 g (p ++ M1 ++ (U2 ++ V2) ++ s) pad := by simpa using hRB
                clear hRA2 hRB hcallB
                have hM1p : Hid (M1.Perm (U1 ++ V1)) := hM1.1
                have hM1s : Hid (Sorted M1) := hM1.2
                clear hM1
                have hlM : Hid (M1.length = U1.length + V1.length) := by have := hM1p.out.length_eq; simpa [Hid] using this
                have hfin := cmb.out M1 (U2 ++ V2) hM1p.out (List.Perm.refl _) hM1s.out (by rw [hU2.out]; simpa using hsV.out.2)
                replace hfin := Lib.hid hfin
                go_wp2
                go_end0
                exact ⟨rfl, M1 ++ (U2 ++ V2), hfin.out, by simpa using hRB2⟩
            · have hV1 : Hid (V1 = []) := List.eq_nil_of_length_eq_zero (by omega)
              by_cases hzV2 : 0 < V2.length
              · have t1 : ¬ ((i : Int) < (m : Int)) := by omega
                have t3 : ((a : Int) < (i : Int)) := by omega
                have t4 : ¬ ((i : Int) < (mid : Int)) := by omega
                have t5 : ¬ ((mid : Int) < (e : Int)) := by omega
                clear hia' him' hem' hmi' hme' heb' hNe' hi1'
                have hRA2 : Row w wr g (p ++ U1 ++ V1 ++ (U2 ++ V2) ++ s) pad := by have := hR0; rw [hU2.out] at this ⊢; simpa using this
                clear hR0
                obtain ⟨M1, hM1e⟩ : ∃ M1 : List Shot, M1 = U1 ++ V1 := ⟨_, rfl⟩
                have hM1p : Hid (M1.Perm (U1 ++ V1)) := by unfold Hid; rw [hM1e]
                have hM1s : Hid (Sorted M1) := by unfold Hid; rw [hM1e, hV1.out]; simpa using hsU.out.1
                have hRB2 : Row w wr g (p ++ M1 ++ (U2 ++ V2) ++ s) pad := by rw [hM1e]; simpa using hRA2
                clear hRA2 hM1e
                have hlM : Hid (M1.length = U1.length + V1.length) := by have := hM1p.out.length_eq; simpa [Hid] using this
                have hfin := cmb.out M1 (U2 ++ V2) hM1p.out (List.Perm.refl _) hM1s.out (by rw [hU2.out]; simpa using hsV.out.2)
                replace hfin := Lib.hid hfin
                go_wp2
                go_end0
                exact ⟨rfl, M1 ++ (U2 ++ V2), hfin.out, by simpa using hRB2⟩
              · have hV2 : Hid (V2 = []) := List.eq_nil_of_length_eq_zero (by omega)
                have t1 : ¬ ((i : Int) < (m : Int)) := by omega
                have t3 : ((a : Int) < (i : Int)) := by omega
                have t4 : ¬ ((i : Int) < (mid : Int)) := by omega
                have t5 : ¬ ((mid : Int) < (e : Int)) := by omega
                clear hia' him' hem' hmi' hme' heb' hNe' hi1'
                have hRA2 : Row w wr g (p ++ U1 ++ V1 ++ (U2 ++ V2) ++ s) pad := by have := hR0; rw [hU2.out] at this ⊢; simpa using this
                clear hR0
                obtain ⟨M1, hM1e⟩ : ∃ M1 : List Shot, M1 = U1 ++ V1 := ⟨_, rfl⟩
                have hM1p : Hid (M1.Perm (U1 ++ V1)) := by unfold Hid; rw [hM1e]
                have hM1s : Hid (Sorted M1) := by unfold Hid; rw [hM1e, hV1.out]; simpa using hsU.out.1
                have hRB2 : Row w wr g (p ++ M1 ++ (U2 ++ V2) ++ s) pad := by rw [hM1e]; simpa using hRA2
                clear hRA2 hM1e
                have hlM : Hid (M1.length = U1.length + V1.length) := by have := hM1p.out.length_eq; simpa [Hid] using this
                have hfin := cmb.out M1 (U2 ++ V2) hM1p.out (List.Perm.refl _) hM1s.out (by rw [hU2.out]; simpa using hsV.out.2)
                replace hfin := Lib.hid hfin
                go_wp2
                go_end0
                exact ⟨rfl, M1 ++ (U2 ++ V2), hfin.out, by simpa using hRB2⟩
        · have hU1 : Hid (U1 = []) := List.eq_nil_of_length_eq_zero (by omega)
          by_cases hzU2 : 0 < U2.length
          · by_cases hzV1 : 0 < V1.length
            · by_cases hzV2 : 0 < V2.length
              · have t1 : ((i : Int) < (m : Int)) := by omega
                have t2 : ((m : Int) < (e : Int)) := by omega
                have t3 : ¬ ((a : Int) < (i : Int)) := by omega
                have t5 : ((mid : Int) < (e : Int)) := by omega
                have t6 : ((e : Int) < (b : Int)) := by omega
                have hcall := rotate_calls g c (p ++ U1) U2 V1 (V2 ++ s) pad i m e N (.func (.func 79) #[] #[]) w wr hR0 hc (by omega) (by rw [hNe']; simp) (by simp; omega) (by simp; omega) (by simp; omega) (by omega) (by omega)
                replace hcall := Lib.hid hcall
                clear hia' him' hem' hmi' hme' heb' hNe' hi1'
                go_wp2_with fail
                refine hcall.out.mono ?_
                rintro e' w2 ⟨rfl, hRA⟩
                have hRA2 : Row w w2 g (p ++ U1 ++ V1 ++ (U2 ++ V2) ++ s) pad := by simpa using hRA
                clear hR0 hRA hcall
                obtain ⟨M1, hM1e⟩ : ∃ M1 : List Shot, M1 = U1 ++ V1 := ⟨_, rfl⟩
                have hM1p : Hid (M1.Perm (U1 ++ V1)) := by unfold Hid; rw [hM1e]
                have hM1s : Hid (Sorted M1) := by unfold Hid; rw [hM1e, hU1.out]; simpa using hsV.out.1
                have hRB2 : Row w w2 g (p ++ M1 ++ (U2 ++ V2) ++ s) pad := by rw [hM1e]; simpa using hRA2
                clear hRA2 hM1e
                have hlM : Hid (M1.length = U1.length + V1.length) := by have := hM1p.out.length_eq; simpa [Hid] using this
                have hcallC := ih.out g c (p ++ M1) U2 V2 s pad mid e b N w w2 (by simpa using hRB2) hc hm (by have := hlM.out; rw [hNe.out]; simp; omega) (by have := hlM.out; have := hmi.out; have := hia.out; have := hi1.out; simp; omega) (by have := hlM.out; have := hme.out; have := hmi.out; have := hia.out; have := hi1.out; simp; omega) (by have := hlM.out; have := heb.out; have := hme.out; have := hmi.out; have := hia.out; have := hi1.out; simp; omega) (List.length_pos_iff.1 (by omega)) (List.length_pos_iff.1 (by omega)) hlen2.out hszV.out hsU.out.2 hsV.out.2
                replace hcallC := Lib.hid hcallC
                go_wp2_with fail
                refine hcallC.out.mono ?_
                rintro e' w4 ⟨rfl, M2, hM2, hRC⟩
                have hfin := cmb.out M1 M2 hM1p.out hM2.1 hM1s.out hM2.2
                replace hfin := Lib.hid hfin
                clear hM2 hcallC
                go_wp2
                go_end0
                exact ⟨rfl, M1 ++ M2, hfin.out, by simpa using hRC⟩
              · have hV2 : Hid (V2 = []) := List.eq_nil_of_length_eq_zero (by omega)
                have t1 : ((i : Int) < (m : Int)) := by omega
                have t2 : ((m : Int) < (e : Int)) := by omega
                have t3 : ¬ ((a : Int) < (i : Int)) := by omega
                have t5 : ((mid : Int) < (e : Int)) := by omega
                have t6 : ¬ ((e : Int) < (b : Int)) := by omega
                have hcall := rotate_calls g c (p ++ U1) U2 V1 (V2 ++ s) pad i m e N (.func (.func 79) #[] #[]) w wr hR0 hc (by omega) (by rw [hNe']; simp) (by simp; omega) (by simp; omega) (by simp; omega) (by omega) (by omega)
                replace hcall := Lib.hid hcall
                clear hia' him' hem' hmi' hme' heb' hNe' hi1'
                go_wp2_with fail
                refine hcall.out.mono ?_
                rintro e' w2 ⟨rfl, hRA⟩
                have hRA2 : Row w w2 g (p ++ U1 ++ V1 ++ (U2 ++ V2) ++ s) pad := by simpa using hRA
                clear hR0 hRA hcall
                obtain ⟨M1, hM1e⟩ : ∃ M1 : List Shot, M1 = U1 ++ V1 := ⟨_, rfl⟩
                have hM1p : Hid (M1.Perm (U1 ++ V1)) := by unfold Hid; rw [hM1e]
                have hM1s : Hid (Sorted M1) := by unfold Hid; rw [hM1e, hU1.out]; simpa using hsV.out.1
                have hRB2 : Row w w2 g (p ++ M1 ++ (U2 ++ V2) ++ s) pad := by rw [hM1e]; simpa using hRA2
                clear hRA2 hM1e
                have hlM : Hid (M1.length = U1.length + V1.length) := by have := hM1p.out.length_eq; simpa [Hid] using this
                have hfin := cmb.out M1 (U2 ++ V2) hM1p.out (List.Perm.refl _) hM1s.out (by rw [hV2.out]; simpa using hsU.out.2)
                replace hfin := Lib.hid hfin
                go_wp2
                go_end0
                exact ⟨rfl, M1 ++ (U2 ++ V2), hfin.out, by simpa using hRB2⟩
            · have hV1 : Hid (V1 = []) := List.eq_nil_of_length_eq_zero (by omega)
              by_cases hzV2 : 0 < V2.length
              · have t1 : ((i : Int) < (m : Int)) := by omega
                have t2 : ¬ ((m : Int) < (e : Int)) := by omega
                have t3 : ¬ ((a : Int) < (i : Int)) := by omega
                have t5 : ((mid : Int) < (e : Int)) := by omega
                have t6 : ((e : Int) < (b : Int)) := by omega
                clear hia' him' hem' hmi' hme' heb' hNe' hi1'
                have hRA2 : Row w wr g (p ++ U1 ++ V1 ++ (U2 ++ V2) ++ s) pad := by have := hR0; rw [hV1.out] at this ⊢; simpa using this
                clear hR0
                obtain ⟨M1, hM1e⟩ : ∃ M1 : List Shot, M1 = U1 ++ V1 := ⟨_, rfl⟩
                have hM1p : Hid (M1.Perm (U1 ++ V1)) := by unfold Hid; rw [hM1e]
                have hM1s : Hid (Sorted M1) := by unfold Hid; rw [hM1e, hU1.out]; simpa using hsV.out.1
                have hRB2 : Row w wr g (p ++ M1 ++ (U2 ++ V2) ++ s) pad := by rw [hM1e]; simpa using hRA2
                clear hRA2 hM1e
                have hlM : Hid (M1.length = U1.length + V1.length) := by have := hM1p.out.length_eq; simpa [Hid] using this
                have hcallC := ih.out g c (p ++ M1) U2 V2 s pad mid e b N w wr (by simpa using hRB2) hc hm (by have := hlM.out; rw [hNe.out]; simp; omega) (by have := hlM.out; have := hmi.out; have := hia.out; have := hi1.out; simp; omega) (by have := hlM.out; have := hme.out; have := hmi.out; have := hia.out; have := hi1.out; simp; omega) (by have := hlM.out; have := heb.out; have := hme.out; have := hmi.out; have := hia.out; have := hi1.out; simp; omega) (List.length_pos_iff.1 (by omega)) (List.length_pos_iff.1 (by omega)) hlen2.out hszV.out hsU.out.2 hsV.out.2
                replace hcallC := Lib.hid hcallC
                go_wp2_with fail
                refine hcallC.out.mono ?_
                rintro e' w4 ⟨rfl, M2, hM2, hRC⟩
                have hfin := cmb.out M1 M2 hM1p.out hM2.1 hM1s.out hM2.2
                replace hfin := Lib.hid hfin
                clear hM2 hcallC
                go_wp2
                go_end0
                exact ⟨rfl, M1 ++ M2, hfin.out, by simpa using hRC⟩
              · have hV2 : Hid (V2 = []) := List.eq_nil_of_length_eq_zero (by omega)
                have t1 : ((i : Int) < (m : Int)) := by omega
                have t2 : ¬ ((m : Int) < (e : Int)) := by omega
                have t3 : ¬ ((a : Int) < (i : Int)) := by omega
                have t5 : ((mid : Int) < (e : Int)) := by omega
                have t6 : ¬ ((e : Int) < (b : Int)) := by omega
                clear hia' him' hem' hmi' hme' heb' hNe' hi1'
                have hRA2 : Row w wr g (p ++ U1 ++ V1 ++ (U2 ++ V2) ++ s) pad := by have := hR0; rw [hV1.out] at this ⊢; simpa using this
                clear hR0
                obtain ⟨M1, hM1e⟩ : ∃ M1 : List Shot, M1 = U1 ++ V1 := ⟨_, rfl⟩
                have hM1p : Hid (M1.Perm (U1 ++ V1)) := by unfold Hid; rw [hM1e]
                have hM1s : Hid (Sorted M1) := by unfold Hid; rw [hM1e, hU1.out]; simpa using hsV.out.1
                have hRB2 : Row w wr g (p ++ M1 ++ (U2 ++ V2) ++ s) pad := by rw [hM1e]; simpa using hRA2
                clear hRA2 hM1e
                have hlM : Hid (M1.length = U1.length + V1.length) := by have := hM1p.out.length_eq; simpa [Hid] using this
                have hfin := cmb.out M1 (U2 ++ V2) hM1p.out (List.Perm.refl _) hM1s.out (by rw [hV2.out]; simpa using hsU.out.2)
                replace hfin := Lib.hid hfin
                go_wp2
                go_end0
                exact ⟨rfl, M1 ++ (U2 ++ V2), hfin.out, by simpa using hRB2⟩
          · have hU2 : Hid (U2 = []) := List.eq_nil_of_length_eq_zero (by omega)
            by_cases hzV1 : 0 < V1.length
            · by_cases hzV2 : 0 < V2.length
              · have t1 : ¬ ((i : Int) < (m : Int)) := by omega
                have t3 : ¬ ((a : Int) < (i : Int)) := by omega
                have t5 : ¬ ((mid : Int) < (e : Int)) := by omega
                clear hia' him' hem' hmi' hme' heb' hNe' hi1'
                have hRA2 : Row w wr g (p ++ U1 ++ V1 ++ (U2 ++ V2) ++ s) pad := by have := hR0; rw [hU2.out] at this ⊢; simpa using this
                clear hR0
                obtain ⟨M1, hM1e⟩ : ∃ M1 : List Shot, M1 = U1 ++ V1 := ⟨_, rfl⟩
                have hM1p : Hid (M1.Perm (U1 ++ V1)) := by unfold Hid; rw [hM1e]
                have hM1s : Hid (Sorted M1) := by unfold Hid; rw [hM1e, hU1.out]; simpa using hsV.out.1
                have hRB2 : Row w wr g (p ++ M1 ++ (U2 ++ V2) ++ s) pad := by rw [hM1e]; simpa using hRA2
                clear hRA2 hM1e
                have hlM : Hid (M1.length = U1.length + V1.length) := by have := hM1p.out.length_eq; simpa [Hid] using this
                have hfin := cmb.out M1 (U2 ++ V2) hM1p.out (List.Perm.refl _) hM1s.out (by rw [hU2.out]; simpa using hsV.out.2)
                replace hfin := Lib.hid hfin
                go_wp2
                go_end0
                exact ⟨rfl, M1 ++ (U2 ++ V2), hfin.out, by simpa using hRB2⟩
              · have hV2 : Hid (V2 = []) := List.eq_nil_of_length_eq_zero (by omega)
                have t1 : ¬ ((i : Int) < (m : Int)) := by omega
                have t3 : ¬ ((a : Int) < (i : Int)) := by omega
                have t5 : ¬ ((mid : Int) < (e : Int)) := by omega
                clear hia' him' hem' hmi' hme' heb' hNe' hi1'
                have hRA2 : Row w wr g (p ++ U1 ++ V1 ++ (U2 ++ V2) ++ s) pad := by have := hR0; rw [hU2.out] at this ⊢; simpa using this
                clear hR0
                obtain ⟨M1, hM1e⟩ : ∃ M1 : List Shot, M1 = U1 ++ V1 := ⟨_, rfl⟩
                have hM1p : Hid (M1.Perm (U1 ++ V1)) := by unfold Hid; rw [hM1e]
                have hM1s : Hid (Sorted M1) := by unfold Hid; rw [hM1e, hU1.out]; simpa using hsV.out.1
                have hRB2 : Row w wr g (p ++ M1 ++ (U2 ++ V2) ++ s) pad := by rw [hM1e]; simpa using hRA2
                clear hRA2 hM1e
                have hlM : Hid (M1.length = U1.length + V1.length) := by have := hM1p.out.length_eq; simpa [Hid] using this
                have hfin := cmb.out M1 (U2 ++ V2) hM1p.out (List.Perm.refl _) hM1s.out (by rw [hU2.out]; simpa using hsV.out.2)
                replace hfin := Lib.hid hfin
                go_wp2
                go_end0
                exact ⟨rfl, M1 ++ (U2 ++ V2), hfin.out, by simpa using hRB2⟩
            · have hV1 : Hid (V1 = []) := List.eq_nil_of_length_eq_zero (by omega)
              by_cases hzV2 : 0 < V2.length
              · have t1 : ¬ ((i : Int) < (m : Int)) := by omega
                have t3 : ¬ ((a : Int) < (i : Int)) := by omega
                have t5 : ¬ ((mid : Int) < (e : Int)) := by omega
                clear hia' him' hem' hmi' hme' heb' hNe' hi1'
                have hRA2 : Row w wr g (p ++ U1 ++ V1 ++ (U2 ++ V2) ++ s) pad := by have := hR0; rw [hU2.out] at this ⊢; simpa using this
                clear hR0
                obtain ⟨M1, hM1e⟩ : ∃ M1 : List Shot, M1 = U1 ++ V1 := ⟨_, rfl⟩
                have hM1p : Hid (M1.Perm (U1 ++ V1)) := by unfold Hid; rw [hM1e]
                have hM1s : Hid (Sorted M1) := by unfold Hid; rw [hM1e, hU1.out]; simpa using hsV.out.1
                have hRB2 : Row w wr g (p ++ M1 ++ (U2 ++ V2) ++ s) pad := by rw [hM1e]; simpa using hRA2
                clear hRA2 hM1e
                have hlM : Hid (M1.length = U1.length + V1.length) := by have := hM1p.out.length_eq; simpa [Hid] using this
                have hfin := cmb.out M1 (U2 ++ V2) hM1p.out (List.Perm.refl _) hM1s.out (by rw [hU2.out]; simpa using hsV.out.2)
                replace hfin := Lib.hid hfin
                go_wp2
                go_end0
                exact ⟨rfl, M1 ++ (U2 ++ V2), hfin.out, by simpa using hRB2⟩
              · have hV2 : Hid (V2 = []) := List.eq_nil_of_length_eq_zero (by omega)
                have t1 : ¬ ((i : Int) < (m : Int)) := by omega
                have t3 : ¬ ((a : Int) < (i : Int)) := by omega
                have t5 : ¬ ((mid : Int) < (e : Int)) := by omega
                clear hia' him' hem' hmi' hme' heb' hNe' hi1'
                have hRA2 : Row w wr g (p ++ U1 ++ V1 ++ (U2 ++ V2) ++ s) pad := by have := hR0; rw [hU2.out] at this ⊢; simpa using this
                clear hR0
                obtain ⟨M1, hM1e⟩ : ∃ M1 : List Shot, M1 = U1 ++ V1 := ⟨_, rfl⟩
                have hM1p : Hid (M1.Perm (U1 ++ V1)) := by unfold Hid; rw [hM1e]
                have hM1s : Hid (Sorted M1) := by unfold Hid; rw [hM1e, hU1.out]; simpa using hsV.out.1
                have hRB2 : Row w wr g (p ++ M1 ++ (U2 ++ V2) ++ s) pad := by rw [hM1e]; simpa using hRA2
                clear hRA2 hM1e
                have hlM : Hid (M1.length = U1.length + V1.length) := by have := hM1p.out.length_eq; simpa [Hid] using this
                have hfin := cmb.out M1 (U2 ++ V2) hM1p.out (List.Perm.refl _) hM1s.out (by rw [hU2.out]; simpa using hsV.out.2)
                replace hfin := Lib.hid hfin
                go_wp2
                go_end0
                exact ⟨rfl, M1 ++ (U2 ++ V2), hfin.out, by simpa using hRB2⟩

theorem sym_ok : ∀ n, SymOk n
  | 0 => fun g c p U V s pad a m b N w W _ _ _ _ _ _ _ hU _ hn _ _ _ => by
    exfalso; exact hU (List.eq_nil_of_length_eq_zero (by omega))
  | n + 1 => fun g c p U V s pad a m b N w W hR hc hm hN ha hmm hb hU hV hn hsz sU sV => by
    have hu : 0 < U.length := List.length_pos_iff.2 hU
    have hv : 0 < V.length := List.length_pos_iff.2 hV
    by_cases h1 : U.length = 1
    · obtain ⟨x, rfl⟩ := List.length_eq_one_iff.1 h1
      exact sym1_calls g c x p V s pad a m b N w W hR hc hm hN ha (by simpa using hmm) (by simpa using hb) (by simpa using hsz.1) (fun v hv => hsz.2 x (by simp) v hv) sV
    · by_cases h2 : V.length = 1
      · obtain ⟨y, rfl⟩ := List.length_eq_one_iff.1 h2
        exact sym2_calls g c y p U s pad a m b N w W hR hc hm hN ha hmm (by simpa using hb) h1 (fun u hu => hsz.1 u (by simp at hu ⊢; rcases hu with h | h; exact .inr h; exact .inl h)) (fun u hu => hsz.2 u hu y (by simp)) sU
      · exact sym_step n (sym_ok n) g c p U V s pad a m b N w W hR hc hm hN ha hmm hb (by omega) (by omega) hn hsz sU sV
end Go.Proofs.YtocbjhhnginebaaGreat.Sh
