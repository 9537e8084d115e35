/-
  tree.alike.
  tree.Same.
  remoralaw17.Do and Build: acts, on a tree.
  remoraref17.Small and remoralaw17.Build.
  remoralaw17.awake: the chapter's example.
  Acts as an argument.
  Calls that tell an error; two trees apart; an act as a list.
  A region that draws its order, and whose calls make memory alone: one walk in the order of the text.
  What is told of a name: the plain law's Stat, Read, Names and Paths in terms of the names.
  append of a slice of any length, none too, to a row of the call's own.
  Small words more: quiet calls whose contract says 'w = w'', strings that are the same or not.
  The reference's tree in memory: which blocks hold the tree of the plain law, and what leaves them as they are.
  remoraref17: At, Look, There, File, Count.
  remoraref13: Base and Sort.
  remoraref13.Sort: the walk.
  The reference's answers in the plain law's own words.
  remoraref17: There, File, In, Names, Paths.
  remoraref17: Paths, Names, List.
  remoraref17: List, Read, Stat.
-/
import Derived.Test.YtemdinjiplglgaaGreatB3
import Derived.Laws.IdiomRangeMap
import Derived.Lib.SlBytesConst
import Derived.Deep.Slices
import Derived.Deep.Fields
import Derived.ChangeSame
import Derived.ChangeSlices
import Derived.Carry
import Derived.Test.YtemdinjiplglgaaGreatB1
import Derived.Deep.Quiet
import Derived.BigQuiet
import Derived.Test.YtemdinjiplglgaaGreatB2
set_option linter.unusedVariables false
set_option linter.unusedSimpArgs false

namespace Go.Proofs.YtemdinjiplglgaaGreat
open Go.RowKit

section
variable {w : World} {tb ub : Nat} {A M B N : Nat → Nat} {T U : Fs} {pb kb i j : Nat} {Pr : List (Nat × Nat)}

theorem ptr_inj {a b : Nat} (h : ptr a = ptr b) : a = b := by
  simp only [ptr] at h
  injection h with h
  injection h with h
  injection h

theorem prL_key (hR : Rep w tb A M T) (hi : T.Live i) (hD : ∀ x ∈ Pr, T.Live x.1) : Keyable Tryz.prog 72 w (ptr (A i)) ((prL A B Pr).map (·.1)) := by
  refine keyable_ptr Tryz.underlying72 info_node node_size (hR.ptrAt hi) ?_
  intro v hv
  unfold prL at hv
  rw [List.map_map] at hv
  obtain ⟨x, hx, rfl⟩ := List.mem_map.1 hv
  exact hR.ptrAt (hD x hx)
theorem prR_key (hR : Rep w ub B N U) (hj : U.Live j) (hD : ∀ x ∈ Pr, U.Live x.2) : Keyable Tryz.prog 72 w (ptr (B j)) ((prR A B Pr).map (·.1)) := by
  refine keyable_ptr Tryz.underlying72 info_node node_size (hR.ptrAt hj) ?_
  intro v hv
  unfold prR at hv
  rw [List.map_map] at hv
  obtain ⟨x, hx, rfl⟩ := List.mem_map.1 hv
  exact hR.ptrAt (hD x hx)
theorem prL_none (hR : Rep w tb A M T) (hi : T.Live i) (hD : ∀ x ∈ Pr, T.Live x.1) (hn : ∀ k, (i, k) ∉ Pr) : ∀ q ∈ prL A B Pr, q.1 ≠ ptr (A i) := by
  intro q hq e
  obtain ⟨x, hx, rfl⟩ := List.mem_map.1 hq
  have := hR.injA x.1 i (hD x hx) hi (ptr_inj e)
  exact hn x.2 (by rw [← this]; exact hx)
theorem prR_none (hR : Rep w ub B N U) (hj : U.Live j) (hD : ∀ x ∈ Pr, U.Live x.2) (hn : ∀ k, (k, j) ∉ Pr) : ∀ q ∈ prR A B Pr, q.1 ≠ ptr (B j) := by
  intro q hq e
  obtain ⟨x, hx, rfl⟩ := List.mem_map.1 hq
  have := hR.injA x.2 j (hD x hx) hj (ptr_inj e)
  exact hn x.1 (by rw [← this]; exact hx)

theorem prL_snoc (A B : Nat → Nat) (Pr : List (Nat × Nat)) (i j : Nat) : prL A B (Pr ++ [(i, j)]) = prL A B Pr ++ [(ptr (A i), ptr (B j))] := by simp [prL]
theorem prR_snoc (A B : Nat → Nat) (Pr : List (Nat × Nat)) (i j : Nat) : prR A B (Pr ++ [(i, j)]) = prR A B Pr ++ [(ptr (B j), ptr (A i))] := by simp [prR]

/-- A tree stays where two maps of the call's own turn. -/
theorem Rep.two_maps {w' : World} {l1 l2 : List (Value × Value)} (hR : Rep w tb A M T) (h1 : MapIs w pb l1) (h2 : MapIs w kb l2) (n1 : ¬ Own tb A M T pb) (n2 : ¬ Own tb A M T kb) (ht : Turn w w' (fun b => b = pb ∨ b = kb)) : Rep w' tb A M T := by
  refine hR.kept (fun b hb => ht.block b (hR.lt hb) ?_) (fun g ⟨cs, hg⟩ => ht.block g (Array.getElem?_eq_some_iff.1 hg).1 ?_)
  · rintro (rfl | rfl)
    · exact n1 hb
    · exact n2 hb
  · rintro (e | e)
    · exact map_ne_cells h1 hg e
    · exact map_ne_cells h2 hg e

/-- Both maps get the new pair. -/
theorem pair_store (hpk : pb ≠ kb) (hR : Rep w tb A M T) (hS : Rep w ub B N U) (hi : T.Live i) (hj : U.Live j) (hD : ∀ x ∈ Pr, T.Live x.1) (hE : ∀ x ∈ Pr, U.Live x.2) (hn1 : ∀ k, (i, k) ∉ Pr) (hn2 : ∀ k, (k, j) ∉ Pr) (m1 : MapIs w pb (prL A B Pr)) (m2 : MapIs w kb (prR A B Pr))
    (n1 : ¬ Own ub B N U pb) (n2 : ¬ Own ub B N U kb) :
    ∃ w1, (Instr.mapUpdate 97 (.map (some pb)) (ptr (A i)) (ptr (B j))).run Tryz.prog w = .ok () w1 ∧ ∃ w2, (Instr.mapUpdate 97 (.map (some kb)) (ptr (B j)) (ptr (A i))).run Tryz.prog w1 = .ok () w2 ∧
      MapIs w2 pb (prL A B (Pr ++ [(i, j)])) ∧ MapIs w2 kb (prR A B (Pr ++ [(i, j)])) ∧ Turn w w2 (fun b => b = pb ∨ b = kb) := by
  obtain ⟨w1, g1, g2, g3⟩ := m1.store_new under_met (v := ptr (B j)) (prL_key hR hi hD) (prL_none hR hi hD hn1)
  have t1 : Turn w w1 (fun b => b = pb ∨ b = kb) := Turn.of_grown g3.grown (fun j e => by cases e; exact Or.inl rfl)
  have hS1 := hS.two_maps m1 m2 n1 n2 t1
  have m2' := m2.kept g3.grown (by simpa using hpk.symm)
  obtain ⟨w2, k1, k2, k3⟩ := m2'.store_new under_met (v := ptr (A i)) (prR_key hS1 hj hE) (prR_none hS1 hj hE hn2)
  refine ⟨w1, g1, w2, k1, ?_, ?_, t1.trans ((Turn.of_grown (S := fun b => b = kb) k3.grown (fun j e => by cases e; rfl)).mono fun b _ hb => Or.inl (Or.inr hb))⟩
  · rw [prL_snoc]
    exact (g2.kept k3.grown (by simpa using hpk)).perm (List.perm_append_singleton _ _)
  · rw [prR_snoc]
    exact k2.perm (List.perm_append_singleton _ _)

end

theorem two_blocks (W : World) (o1 o2 : Obj) : ((W.alloc o1).alloc o2).heap[W.heap.size]? = some o1 ∧ ((W.alloc o1).alloc o2).heap[W.heap.size + 1]? = some o2 := by
  have s1 : (W.alloc o1).heap.size = W.heap.size + 1 := by simp
  constructor
  · rw [(MapKept.heap_alloc (W.alloc o1) o2).2 W.heap.size (by rw [s1]; omega)]
    exact (MapKept.heap_alloc W o1).1
  · have := (MapKept.heap_alloc (W.alloc o1) o2).1
    rwa [s1] at this

theorem neq_mt (W : World) (a1 a2 a3 a4 a5 b1 b2 b3 b4 b5 : Int) :
    (binOp .neq 40 (.agg #[.int .i64 a1, .int .i64 a2, .int .i64 a3, .int .i64 a4, .int .i64 a5]) (.agg #[.int .i64 b1, .int .i64 b2, .int .i64 b3, .int .i64 b4, .int .i64 b5])).run Tryz.prog W = .ok (.bool (!decide (a1 = b1 ∧ a2 = b2 ∧ a3 = b3 ∧ a4 = b4 ∧ a5 = b5))) W := by
  go_simp
  by_cases h1 : a1 = b1 <;> by_cases h2 : a2 = b2 <;> by_cases h3 : a3 = b3 <;> by_cases h4 : a4 = b4 <;> by_cases h5 : a5 = b5 <;> simp [h1, h2, h3, h4, h5]

theorem mt_eq {a b : Mt} : (a.mode = b.mode ∧ a.sec = b.sec ∧ a.nano = b.nano ∧ a.uid = b.uid ∧ a.gid = b.gid) ↔ a = b := by
  cases a
  cases b
  simp

theorem bytesOf_ints (l : Bytes) : Lib.bytesOf (l.map fun b => (b.toNat : Int)) = l := by
  unfold Lib.bytesOf
  rw [List.map_map]
  conv => rhs; rw [← List.map_id l]
  refine List.map_congr_left fun b _ => ?_
  simp

theorem RdB.bytesIn {W : World} {A : Option Addr} {n c : Nat} {l : Bytes} (h : RdB W (.slice A n c) l) : n = l.length ∧ Lib.BytesIn W A l.length (l.map fun b => (b.toNat : Int)) := by
  obtain ⟨A', c', e, _, _, h4⟩ := h
  simp only [Value.slice.injEq] at e
  obtain ⟨rfl, rfl, rfl⟩ := e
  refine ⟨rfl, fun h0 => ?_⟩
  obtain ⟨g, o, e, _⟩ := h4 0 h0
  refine ⟨g, o, e, fun i hi => ?_⟩
  obtain ⟨g', o', e', hc⟩ := h4 i hi
  rw [e] at e'
  cases e'
  rw [hc]
  simp [hi]

theorem bequal_rd (v1 v2 : Value) (l1 l2 : Bytes) (w : World) (h1 : RdB w v1 l1) (h2 : RdB w v2 l2) :
    Calls Tryz.prog 112 #[v1, v2] w fun e w' => e = .returned (.bool (decide (l1 = l2))) ∧ w' = w := by
  obtain ⟨A1, c1, rfl, _⟩ := id h1
  obtain ⟨A2, c2, rfl, _⟩ := id h2
  have := sh_bytes_Equal_all A1 A2 l1.length c1 l2.length c2 (l1.map fun b => (b.toNat : Int)) (l2.map fun b => (b.toNat : Int)) w (by simp) (by simp) h1.bytesIn.2 h2.bytesIn.2
  rw [bytesOf_ints, bytesOf_ints] at this
  have e : (l1 == l2) = decide (l1 = l2) := by
    rw [Bool.eq_iff_iff]
    simp
  rwa [e] at this

theorem mkS_toList (l : Bytes) : (mkS l).toList = l := by rw [toList_bl, bl_mkS]

def AlkPost (w : World) (A B : Nat → Nat) (T U : Fs) (pb kb : Nat) (p : Pt) (i j : Nat) (Pr : List (Nat × Nat)) (e : Ending) (w' : World) : Prop :=
  ∃ r Pr', e = .returned (.bool r) ∧ AlkDone w w' A B T U pb kb p i j Pr r Pr'

def statA (n : Nd) (i : Nat) : Array Value :=
  #[.int .i64 n.kind, .int .i64 i, .int .i64 0, .int .i64 n.links, .int .i64 n.mt.mode, .int .i64 n.mt.sec, .int .i64 n.mt.nano, .int .i64 n.mt.uid, .int .i64 n.mt.gid, .string (mkS n.target)]

/-- What stands in the two variables that hold a copy of each thing's Stat. -/
def TwoStats (w W : World) (T U : Fs) (i j : Nat) (x y : Value) : Prop :=
  ∃ bx by', x = .pointer (some ⟨bx, 0, none⟩) ∧ y = .pointer (some ⟨by', 0, none⟩) ∧ W.heap[bx]? = some (.cells (statA (T.nd i) i) 50 (0, 0)) ∧ W.heap[by']? = some (.cells (statA (U.nd j) j) 50 (0, 0)) ∧ Below w.heap.size w W

set_option maxHeartbeats 4000000 in
set_option maxRecDepth 100000 in
theorem alike_calls (tb : Nat) (A M : Nat → Nat) (T : Fs) (ub : Nat) (B N : Nat → Nat) (U : Fs) (pb kb : Nat) (hpk : pb ≠ kb) (n1 : ¬ Own tb A M T pb) (n2 : ¬ Own tb A M T kb) (n3 : ¬ Own ub B N U pb) (n4 : ¬ Own ub B N U kb) :
    ∀ (n : Nat) (p : Pt) (i j : Nat) (Pr : List (Nat × Nat)) (w : World), Rep w tb A M T → Rep w ub B N U → (p, i) ∈ T.names → (p, j) ∈ U.names → (∀ t k, (p ++ t, k) ∈ T.names → t.length ≤ n) → MapIs w pb (prL A B Pr) → MapIs w kb (prR A B Pr) →
      (∀ x ∈ Pr, ∃ q, (q, x.1) ∈ T.names ∧ (q, x.2) ∈ U.names) → (∀ x ∈ Pr, Lk T U x.1 x.2) → (∀ t k, (p ++ t, k) ∈ T.names → (T.nd k).kind = 2 → ∀ l, (k, l) ∉ Pr) →
    Calls Tryz.prog 76 #[ptr (A i), ptr (B j), .map (some pb), .map (some kb)] w (AlkPost w A B T U pb kb p i j Pr) := by
  intro n
  induction n using Nat.strongRecOn with
  | _ n ih =>
    intro p i j Pr w hR hS hp hq hlen m1 m2 wit like hdir
    have hT := hR.inv
    have hU := hS.inv
    have hD : ∀ x ∈ Pr, T.Live x.1 := fun x hx => by obtain ⟨q, h1, _⟩ := wit x hx; exact ⟨q, h1⟩
    have hE : ∀ x ∈ Pr, U.Live x.2 := fun x hx => by obtain ⟨q, _, h1⟩ := wit x hx; exact ⟨q, h1⟩
    by_cases hin : ∃ j', (i, j') ∈ Pr
    · obtain ⟨j', hin⟩ := hin
      have hk : (T.nd i).kind ≠ 2 := fun hk => hdir [] i (by simpa using hp) hk j' hin
      have hlk : (Instr.lookup 97 (.map (some pb)) (ptr (A i)) true).run Tryz.prog w = .ok (.tuple #[ptr (B j'), .bool true]) w := m1.look_hit under_met (prL_key hR ⟨_, hp⟩ hD) (List.mem_map.2 ⟨_, hin, rfl⟩) true
      have hfin := alk_again hT hU hp hq hk m1 m2 wit like hin
      by_cases e : j' = j
      · subst e
        rw [show decide (j' = j') = true by simp] at hfin
        have hptr := fun W : World => run_eql_ptr_same (P := Tryz.prog) W ⟨B j', 0, none⟩ Tryz.underlying72 info_node
        replace hfin := Lib.hid hfin
        clear hR hS m1 m2 ih hlen hdir wit like hT hU hD hE hin
        unfold ptr at *
        go_enter Tryz.func76, Tryz.ntmps76
        go_wp2
        go_ret
        exact ⟨true, Pr, rfl, hfin.out⟩
      · rw [show decide (j' = j) = false by simpa using e] at hfin
        obtain ⟨dv1, _, hn1⟩ := hS.node j' (hE _ hin)
        obtain ⟨dv2, _, hn2⟩ := hS.node j ⟨_, hq⟩
        have hptr := run_eql_ptr_other (P := Tryz.prog) w (a := ⟨B j', 0, none⟩) (b := ⟨B j, 0, none⟩) Tryz.underlying72 info_node node_size (fun e2 => e (hS.injA j' j (hE _ hin) ⟨_, hq⟩ (congrArg Addr.block e2))) hn1 hn2
        replace hfin := Lib.hid hfin
        clear hR hS m1 m2 ih hlen hdir wit like hT hU hD hE hin hn1 hn2 e
        unfold ptr at *
        go_enter Tryz.func76, Tryz.ntmps76
        go_wp2
        go_ret
        exact ⟨false, Pr, rfl, hfin.out⟩
    · have hin2 : ∀ k, (i, k) ∉ Pr := fun k hk => hin ⟨k, hk⟩
      have hlk : (Instr.lookup 97 (.map (some pb)) (ptr (A i)) true).run Tryz.prog w = .ok (.tuple #[.pointer none, .bool false]) w := m1.look_miss under_met (prL_key hR ⟨_, hp⟩ hD) (prL_none hR ⟨_, hp⟩ hD hin2) (zero_node w) true
      by_cases hta : ∃ i', (i', j) ∈ Pr
      · obtain ⟨i', hta⟩ := hta
        have hlk2 : (Instr.lookup 97 (.map (some kb)) (ptr (B j)) true).run Tryz.prog w = .ok (.tuple #[ptr (A i'), .bool true]) w := m2.look_hit under_met (prR_key hS ⟨_, hq⟩ hE) (List.mem_map.2 ⟨_, hta, rfl⟩) true
        have hfin := alk_taken hT hp hq m1 m2 wit hta hin2
        replace hfin := Lib.hid hfin
        clear hR hS m1 m2 ih hlen hdir wit like hT hU hD hE hin hta hin2
        unfold ptr at *
        go_enter Tryz.func76, Tryz.ntmps76
        go_wp2
        go_ret
        exact ⟨false, Pr, rfl, hfin.out⟩
      · have hta2 : ∀ k, (k, j) ∉ Pr := fun k hk => hta ⟨k, hk⟩
        have hlk2 : (Instr.lookup 97 (.map (some kb)) (ptr (B j)) true).run Tryz.prog w = .ok (.tuple #[.pointer none, .bool false]) w := m2.look_miss under_met (prR_key hS ⟨_, hq⟩ hE) (prR_none hS ⟨_, hq⟩ hE hta2) (zero_node w) true
        obtain ⟨w1, hst1, w2, hst2, m1', m2', ht2⟩ := pair_store hpk hR hS ⟨_, hp⟩ ⟨_, hq⟩ hD hE hin2 hta2 m1 m2 n3 n4
        have hR2 := hR.two_maps m1 m2 n1 n2 ht2
        have hS2 := hS.two_maps m1 m2 n3 n4 ht2
        obtain ⟨dv, hDv, c0, c1, c2, c3, c4, c5, c6, c7, c8, c9, c10, c11⟩ := hR2.cells ⟨p, hp⟩
        obtain ⟨ev, hEv, d0, d1, d2, d3, d4, d5, d6, d7, d8, d9, d10, d11⟩ := hS2.cells ⟨p, hq⟩
        replace hR := Lib.hid hR
        replace hS := Lib.hid hS
        replace hR2 := Lib.hid hR2
        replace hS2 := Lib.hid hS2
        replace m1 := Lib.hid m1
        replace m2 := Lib.hid m2
        replace m1' := Lib.hid m1'
        replace m2' := Lib.hid m2'
        replace ht2 := Lib.hid ht2
        replace ih := Lib.hid ih
        replace hlen := Lib.hid hlen
        replace hdir := Lib.hid hdir
        replace wit := Lib.hid wit
        replace like := Lib.hid like
        replace hT := Lib.hid hT
        replace hU := Lib.hid hU
        replace hD := Lib.hid hD
        replace hE := Lib.hid hE
        replace hin2 := Lib.hid hin2
        replace hta2 := Lib.hid hta2
        replace hst1 := Lib.hid hst1
        replace hst2 := Lib.hid hst2
        clear hin hta
        unfold ptr at *
        go_enter Tryz.func76, Tryz.ntmps76
        go_upto_region 8 with (first | (at_mapUpdate; refine wp_store _ rfl _ _ _ 97 rfl (.map (some pb)) (.pointer (some ⟨A i, 0, none⟩)) (.pointer (some ⟨B j, 0, none⟩)) rfl rfl rfl w1 hst1.out ?_) | (at_mapUpdate; refine wp_store _ rfl _ _ _ 97 rfl (.map (some kb)) (.pointer (some ⟨B j, 0, none⟩)) (.pointer (some ⟨A i, 0, none⟩)) rfl rfl rfl w2 hst2.out ?_))
        go_frame
        go_cut [13, 14] (fun x y W => TwoStats w2 W T U i j x y)
        case first =>
          have e0 := World.new_ne w2 ⟨A i, 0, none⟩ c0
          have e1 := World.new_ne w2 ⟨B j, 0, none⟩ d0
          go_region_held3 (fun W => W.cell? ⟨A i, 0, none⟩ = some (.int .i64 (T.nd i).kind) ∧ W.cell? ⟨A i, 1, none⟩ = some (.int .i64 i) ∧ W.cell? ⟨A i, 2, none⟩ = some (.int .i64 0) ∧ W.cell? ⟨A i, 3, none⟩ = some (.int .i64 (T.nd i).links) ∧ W.cell? ⟨A i, 4, none⟩ = some (.int .i64 (T.nd i).mt.mode) ∧ W.cell? ⟨A i, 5, none⟩ = some (.int .i64 (T.nd i).mt.sec) ∧ W.cell? ⟨A i, 6, none⟩ = some (.int .i64 (T.nd i).mt.nano) ∧ W.cell? ⟨A i, 7, none⟩ = some (.int .i64 (T.nd i).mt.uid) ∧ W.cell? ⟨A i, 8, none⟩ = some (.int .i64 (T.nd i).mt.gid) ∧ W.cell? ⟨A i, 9, none⟩ = some (.string (mkS (T.nd i).target)) ∧ W.cell? ⟨B j, 0, none⟩ = some (.int .i64 (U.nd j).kind) ∧ W.cell? ⟨B j, 1, none⟩ = some (.int .i64 j) ∧ W.cell? ⟨B j, 2, none⟩ = some (.int .i64 0) ∧ W.cell? ⟨B j, 3, none⟩ = some (.int .i64 (U.nd j).links) ∧ W.cell? ⟨B j, 4, none⟩ = some (.int .i64 (U.nd j).mt.mode) ∧ W.cell? ⟨B j, 5, none⟩ = some (.int .i64 (U.nd j).mt.sec) ∧ W.cell? ⟨B j, 6, none⟩ = some (.int .i64 (U.nd j).mt.nano) ∧ W.cell? ⟨B j, 7, none⟩ = some (.int .i64 (U.nd j).mt.uid) ∧ W.cell? ⟨B j, 8, none⟩ = some (.int .i64 (U.nd j).mt.gid) ∧ W.cell? ⟨B j, 9, none⟩ = some (.string (mkS (U.nd j).target))) (go_keep) (fail)
          all_goals (go_wp2_with fail)
          · go_meet
            exact ⟨_, _, rfl, rfl, (two_blocks w2.drew _ _).1, (two_blocks w2.drew _ _).2, below_alloc (below_alloc (below_drewN (Below.refl _ _) 1) _) _⟩
          · go_meet
            exact ⟨_, _, rfl, rfl, (two_blocks w2.drew _ _).2, (two_blocks w2.drew _ _).1, below_alloc (below_alloc (below_drewN (Below.refl _ _) 1) _) _⟩
        case rest =>
          obtain ⟨bx, by', rfl, rfl, hx, hy, hB3⟩ := hcut
          have hRc := hR2.out.below hB3
          have hSc := hS2.out.below hB3
          obtain ⟨dvc, hDvc, _, _, _, _, _, _, _, _, _, _, cc10, cc11⟩ := hRc.cells ⟨p, hp⟩
          obtain ⟨evc, hEvc, _, _, _, _, _, _, _, _, _, _, dd10, dd11⟩ := hSc.cells ⟨p, hq⟩
          have x0 := cell_of (j := 0) hx (v := .int .i64 (T.nd i).kind) rfl
          have x4 := cell_of (j := 4) hx (v := .int .i64 (T.nd i).mt.mode) rfl
          have x5 := cell_of (j := 5) hx (v := .int .i64 (T.nd i).mt.sec) rfl
          have x6 := cell_of (j := 6) hx (v := .int .i64 (T.nd i).mt.nano) rfl
          have x7 := cell_of (j := 7) hx (v := .int .i64 (T.nd i).mt.uid) rfl
          have x8 := cell_of (j := 8) hx (v := .int .i64 (T.nd i).mt.gid) rfl
          have x9 := cell_of (j := 9) hx (v := .string (mkS (T.nd i).target)) rfl
          have y0 := cell_of (j := 0) hy (v := .int .i64 (U.nd j).kind) rfl
          have y4 := cell_of (j := 4) hy (v := .int .i64 (U.nd j).mt.mode) rfl
          have y5 := cell_of (j := 5) hy (v := .int .i64 (U.nd j).mt.sec) rfl
          have y6 := cell_of (j := 6) hy (v := .int .i64 (U.nd j).mt.nano) rfl
          have y7 := cell_of (j := 7) hy (v := .int .i64 (U.nd j).mt.uid) rfl
          have y8 := cell_of (j := 8) hy (v := .int .i64 (U.nd j).mt.gid) rfl
          have y9 := cell_of (j := 9) hy (v := .string (mkS (U.nd j).target)) rfl
          replace hRc := Lib.hid hRc
          replace hSc := Lib.hid hSc
          replace hx := Lib.hid hx
          replace hy := Lib.hid hy
          clear c0 c1 c2 c3 c4 c5 c6 c7 c8 c9 c10 c11 d0 d1 d2 d3 d4 d5 d6 d7 d8 d9 d10 d11 hlk hlk2
          have hmt := fun W => neq_mt W (T.nd i).mt.mode (T.nd i).mt.sec (T.nd i).mt.nano (T.nd i).mt.uid (T.nd i).mt.gid (U.nd j).mt.mode (U.nd j).mt.sec (U.nd j).mt.nano (U.nd j).mt.uid (U.nd j).mt.gid
          obtain ⟨mq, hmq⟩ : ∃ b : Bool, b = !decide ((T.nd i).mt.mode = (U.nd j).mt.mode ∧ (T.nd i).mt.sec = (U.nd j).mt.sec ∧ (T.nd i).mt.nano = (U.nd j).mt.nano ∧ (T.nd i).mt.uid = (U.nd j).mt.uid ∧ (T.nd i).mt.gid = (U.nd j).mt.gid) := ⟨_, rfl⟩
          rw [← hmq] at hmt
          have hmq2 : mq = false ↔ (T.nd i).mt = (U.nd j).mt := by
            rw [hmq, ← mt_eq]
            simp
          replace hmq2 := Lib.hid hmq2
          clear hmq
          go_upto_region 9 with fail
          go_cut [91] (fun c W => ∃ r : Bool, c = .bool (!r) ∧ (r = true ↔ Lk T U i j ∧ (T.kids p).length = (U.kids p).length) ∧ ∃ m, wc.drewN m = W)
          case first =>
            by_cases hk1 : (T.nd i).kind = (U.nd j).kind
            · have hk2 : ((T.nd i).kind != (U.nd j).kind) = false := by simpa using hk1
              replace hk1 := Lib.hid hk1
              cases mq with
              | true =>
                have hnm : (T.nd i).mt ≠ (U.nd j).mt := fun e => by have := hmq2.out.2 e; cases this
                replace hnm := Lib.hid hnm
                go_quiet (fail)
                go_wp2_with fail
                go_meet
                exact ⟨false, rfl, ⟨fun h => (by cases h), fun h => absurd h.1 (fun h => hnm.out h.2.1)⟩, _, rfl⟩
              | false =>
                have hmm := hmq2.out.1 rfl
                replace hmm := Lib.hid hmm
                by_cases htg : (T.nd i).target = (U.nd j).target
                · have ht1 : (mkS (T.nd i).target).toList = (mkS (U.nd j).target).toList := by rw [htg]
                  have ht3 : ((mkS (T.nd i).target).toList == (mkS (U.nd j).target).toList) = true := by simp [ht1]
                  replace htg := Lib.hid htg
                  have hbe := fun m : Nat => bequal_rd dvc evc (T.nd i).data (U.nd j).data (wc.drewN m) hDvc.rdb hEvc.rdb
                  by_cases hdt : (T.nd i).data = (U.nd j).data
                  · rw [show decide ((T.nd i).data = (U.nd j).data) = true by simpa using hdt] at hbe
                    replace hdt := Lib.hid hdt
                    replace hbe := Lib.hid hbe
                    have hl1 := fun (m : Nat) ty => (hRc.out.drewN m).len_kids hp ty
                    have hl2 := fun (m : Nat) ty => (hSc.out.drewN m).len_kids hq ty
                    by_cases hln : (T.kids p).length = (U.kids p).length
                    · have hln2 : (((T.kids p).length : Int) != ((U.kids p).length : Int)) = false := by simp [hln]
                      have hln3 : ((T.kids p).length != (U.kids p).length) = false := by simp [hln]
                      replace hln := Lib.hid hln
                      go_quiet ((go_at_call 112; exact Calls.quiet_of_same (hbe.out _)))
                      go_wp2_with fail
                      go_meet
                      exact ⟨true, rfl, ⟨fun _ => ⟨⟨hk1.out, hmm.out, htg.out, hdt.out⟩, hln.out⟩, fun _ => rfl⟩, _, rfl⟩
                    · have hln2 : (((T.kids p).length : Int) != ((U.kids p).length : Int)) = true := by simp only [bne_iff_ne, ne_eq]; omega
                      have hln3 : ((T.kids p).length != (U.kids p).length) = true := by simpa using hln
                      replace hln := Lib.hid hln
                      go_quiet ((go_at_call 112; exact Calls.quiet_of_same (hbe.out _)))
                      go_wp2_with fail
                      go_meet
                      exact ⟨false, rfl, ⟨fun h => (by cases h), fun h => absurd h.2 hln.out⟩, _, rfl⟩
                  · rw [show decide ((T.nd i).data = (U.nd j).data) = false by simpa using hdt] at hbe
                    replace hdt := Lib.hid hdt
                    replace hbe := Lib.hid hbe
                    go_quiet ((go_at_call 112; exact Calls.quiet_of_same (hbe.out _)))
                    go_wp2_with fail
                    go_meet
                    exact ⟨false, rfl, ⟨fun h => (by cases h), fun h => absurd h.1 (fun h => hdt.out h.2.2.2)⟩, _, rfl⟩
                · have ht1 : ¬ (mkS (T.nd i).target).toList = (mkS (U.nd j).target).toList := by rw [mkS_toList, mkS_toList]; exact htg
                  have ht3 : ((mkS (T.nd i).target).toList == (mkS (U.nd j).target).toList) = false := by simpa using ht1
                  replace htg := Lib.hid htg
                  go_quiet (fail)
                  go_wp2_with fail
                  go_meet
                  exact ⟨false, rfl, ⟨fun h => (by cases h), fun h => absurd h.1 (fun h => htg.out h.2.2.1)⟩, _, rfl⟩
            · have hk2 : ((T.nd i).kind != (U.nd j).kind) = true := by simpa using hk1
              replace hk1 := Lib.hid hk1
              go_quiet (fail)
              go_wp2_with fail
              go_meet
              exact ⟨false, rfl, ⟨fun h => (by cases h), fun h => absurd h.1 (fun h => hk1.out h.1)⟩, _, rfl⟩
          case rest =>
            obtain ⟨r, rfl, hr, m, rfl⟩ := hcut
            have hmc1 : MapIs (wc.drewN m) pb (prL A B (Pr ++ [(i, j)])) := m1'.out.of_block (hB3.block pb m1'.out.lt)
            have hmc2 : MapIs (wc.drewN m) kb (prR A B (Pr ++ [(i, j)])) := m2'.out.of_block (hB3.block kb m2'.out.lt)
            have htc : Turn w (wc.drewN m) (fun b => b = pb ∨ b = kb) := (ht2.out.trans (Turn.of_below hB3 _)).drewN m
            have hRd := hRc.out.drewN m
            have hSd := hSc.out.drewN m
            replace hmc1 := Lib.hid hmc1
            replace hmc2 := Lib.hid hmc2
            replace htc := Lib.hid htc
            replace hr := Lib.hid hr
            clear x0 x4 x5 x6 x7 x8 x9 y0 y4 y5 y6 y7 y8 y9 hmt hmq2 hx hy dd10 cc10 hB3 hRc hSc hDvc hEvc m1' m2' ht2 hst1 hst2 hDv hEv hR2 hS2
            cases r with
            | false =>
              have hno : ¬ SameFs T U := fun hs => by
                have := hr.out.2 ⟨hs.like p i j hp hq, hs.kids_len hT.out hU.out p⟩
                cases this
              have hfin := alk_no hp hq hmc1.out hmc2.out wit.out hno htc.out
              replace hfin := Lib.hid hfin
              replace hRd := Lib.hid hRd
              replace hSd := Lib.hid hSd
              go_wp2
              go_ret
              exact ⟨false, _, rfl, hfin.out⟩
            | true =>
              obtain ⟨hlk0, hkl⟩ := hr.out.1 rfl
              have hI0 := alk_start hp hq hmc1.out hmc2.out wit.out like.out hlk0 htc.out
              have hmn := fun W m => map_not_nil W m
              replace hmc1 := hmc1
              by_cases hk : (T.nd i).kind = 2
              · have hk' : (U.nd j).kind = 2 := by rw [← hlk0.1]; exact hk
                have hM := hRd.kids p i hp hk
                have hMl : M i < w.heap.size := (hR.out.kids p i hp hk).lt
                have hpb := m1.out.lt
                have hkb := m2.out.lt
                have hNlt := (hS.out.kids p j hq hk').lt
                rw [kidsV, if_pos hk] at cc11
                rw [kidsV, if_pos hk'] at dd11
                replace hk := Lib.hid hk
                replace hk' := Lib.hid hk'
                replace hM := Lib.hid hM
                replace hI0 := Lib.hid hI0
                replace hlk0 := Lib.hid hlk0
                replace hkl := Lib.hid hkl
                replace hRd := Lib.hid hRd
                replace hSd := Lib.hid hSd
                go_wp2_with (at_range; refine wp_range _ rfl _ 75 rfl 9 72 under_kids (M i) _ rfl hM.out ?_)
                intro w5 hrg5 hg5 _
                have hI5 := hI0.out.other (S := fun _ => False) (Turn.of_grown hg5 (fun j e => by cases e)) (fun b hb => hb.elim)
                have hrw : w.heap.size ≤ wc.heap.size := htc.out.size
                replace hI5 := Lib.hid hI5
                clear hI0 hM hmc1 hmc2 htc hr hg5 hRd hSd cc11 dd11 hlk0
                obtain ⟨rr, hrr⟩ : ∃ x, x = wc.heap.size := ⟨_, rfl⟩
                rw [← hrr] at hrg5 hrw ⊢
                replace hrr := Lib.hid hrr
                go_wp2
                go_loopw [15, 16] (fun x kk wr => ∃ (K1 K2 : List (Bytes × Nat)) (left : List (Value × Value)) (Pr1 : List (Nat × Nat)), Ranges wr (M i) rr (entries A (T.kids p)) left ∧ left.Perm (entries A K2) ∧ (T.kids p).Perm (K1 ++ K2) ∧ AlkInv w wr A B T U pb kb p i j Pr K1 Pr1) (fun _ _ wr => wr.rangeLeft (M i) rr)
                case atStart => exact ⟨[], T.kids p, _, _, hrg5, .refl _, .refl _, hI5.out⟩
                case round =>
                  clear hI5 hrg5
                  obtain ⟨K1, K2, left, Pr1, hrg, hL, hK, hI⟩ := hrel
                  replace hL := Lib.hid hL
                  replace hK := Lib.hid hK
                  replace hI := Lib.hid hI
                  go_wp2_with (at_next; refine wp_next _ rfl _ rfl (M i) rr _ _ rfl hrg ?_ ?_)
                  · intro hl0
                    have hLK : K2 = [] := entries_nil (A := A) (by have := hL.out; rwa [hl0] at this)
                    have hKd : (T.kids p).Perm K1 := by
                      have := hK.out
                      rwa [hLK, List.append_nil] at this
                    have hfin := alk_end hT.out hU.out hp hq hI.out hKd hkl.out
                    replace hfin := Lib.hid hfin
                    clear hL hK hI hLK hKd hl0 hrg
                    go_wp2
                    go_ret
                    exact ⟨true, Pr1, rfl, hfin.out⟩
                  · intro x v left' w6 hp2 hmem hrg6 hg6 hs6 hen
                    obtain ⟨y, k, L', hL1, rfl, rfl, hL2⟩ := entries_pick hL.out hp2
                    have hK2 : (T.kids p).Perm ((K1 ++ [(y, k)]) ++ L') := hK.out.trans (by simpa using hL1.append_left K1)
                    have hkm : (p ++ [y], k) ∈ T.names := mem_kidsL.1 (hK2.mem_iff.2 (by simp))
                    have hit := hrg.iter
                    have hI6 : AlkInv w w6 A B T U pb kb p i j Pr K1 Pr1 := by
                      refine hI.out.other (S := fun b => b = rr) (Turn.of_grown hg6 (fun j e => by cases e; rfl)) ?_
                      rintro b rfl
                      exact ⟨hrw, hit.2⟩
                    have hR6 := hR.out.two_maps m1.out m2.out n1 n2 hI6.turn
                    have hS6 := hS.out.two_maps m1.out m2.out n3 n4 hI6.turn
                    have hlkB := hS6.look hq hk'.out y
                    have hd11 := dir_cell hS6 hq hk'.out
                    have hmeas : wr.rangeLeft (M i) rr = left.length := hrg.left_eq
                    have hlt : left'.length < left.length := by have := hp2.length_eq; simp at this; omega
                    have hMip : M i ≠ pb := fun e => n1 (by rw [← e]; exact Or.inr (Or.inr ⟨i, ⟨p, hp⟩, hk.out, rfl⟩))
                    have hMik : M i ≠ kb := fun e => n2 (by rw [← e]; exact Or.inr (Or.inr ⟨i, ⟨p, hp⟩, hk.out, rfl⟩))
                    cases hat : U.at (p ++ [y]) with
                    | none =>
                      rw [hat, optPtr_none] at hlkB
                      have hno : ¬ SameFs T U := fun hs => by
                        obtain ⟨j', hj'⟩ := hs.there _ _ hkm
                        exact Fs.at_none.1 hat j' hj'
                      have hfin := hI6.stop hp hno
                      replace hfin := Lib.hid hfin
                      replace hat := Lib.hid hat
                      replace hR6 := Lib.hid hR6
                      replace hS6 := Lib.hid hS6
                      unfold ptr at hen
                      clear hK2 hL2 hmeas hlt hit hI6 hL hK hI hL1 hp2 hmem hrg hg6 hs6 hrg6 hMip hMik
                      go_wp2
                      go_ret
                      exact ⟨false, Pr1, rfl, hfin.out⟩
                    | some l =>
                      have hlm := hU.out.at_some.1 hat
                      rw [hat, optPtr_some] at hlkB
                      have hn1 : 1 ≤ n := by simpa using hlen.out [y] k hkm
                      have hyK : ∀ k, (y, k) ∉ K1 := fun k hk => by
                        have hnd := (hK2.map (·.1)).nodup_iff.1 (hT.out.kids_nodup p)
                        rw [List.map_append, List.map_append, List.append_assoc] at hnd
                        exact (List.nodup_append.1 hnd).2.2 y (List.mem_map.2 ⟨_, hk, rfl⟩) y (by simp) rfl
                      have hrec := ih.out (n - 1) (by omega) (p ++ [y]) k l Pr1 w6 hR6 hS6 hkm hlm (fun t u hu => by
                        have := hlen.out (y :: t) u (by simpa using hu)
                        simp at this
                        omega) hI6.m1 hI6.m2 hI6.wit hI6.like (fun t u hu hk2 l' hin3 => by
                          have hu' : (p ++ y :: t, u) ∈ T.names := by simpa using hu
                          rcases hI6.low _ hin3 with h | h | ⟨z, hz, t', hzt⟩
                          · exact hdir.out (y :: t) u hu' hk2 l' h
                          · simp only [Prod.mk.injEq] at h
                            obtain ⟨rfl, _⟩ := h
                            have := hT.out.dir_one hp hu' hk2
                            simp at this
                          · have := hT.out.dir_one hzt hu' hk2
                            rw [List.append_cancel_left_eq, List.cons.injEq] at this
                            exact hyK z.2 (by rw [this.1]; exact hz))
                      have hyes := fun w7 Pr2 (hd : AlkDone w6 w7 A B T U pb kb (p ++ [y]) k l Pr1 true Pr2) => (⟨alk_step hI6 hd, hrg6.of_blocks (hd.turn.block _ hrg6.is.lt (by rintro (e | e); exact hMip e; exact hMik e)) (hd.turn.block _ hrg6.lt (by omega))⟩ : AlkInv w w7 A B T U pb kb p i j Pr (K1 ++ [(y, k)]) Pr2 ∧ Ranges w7 (M i) rr (entries A (T.kids p)) left')
                      have hnay := fun w7 Pr2 (hd : AlkDone w6 w7 A B T U pb kb (p ++ [y]) k l Pr1 false Pr2) => alk_fall hp hI6 hd
                      unfold ptr at hrec hen
                      replace hrec := Lib.hid hrec
                      replace hyes := Lib.hid hyes
                      replace hnay := Lib.hid hnay
                      replace hK2 := Lib.hid hK2
                      replace hL2 := Lib.hid hL2
                      replace hmeas := Lib.hid hmeas
                      replace hkm := Lib.hid hkm
                      replace hlm := Lib.hid hlm
                      replace hyK := Lib.hid hyK
                      replace hat := Lib.hid hat
                      replace hR6 := Lib.hid hR6
                      replace hS6 := Lib.hid hS6
                      clear hK hL hI hL1 hp2 hmem hrg hg6 hs6 hrg6 hit hI6 hMip hMik
                      go_wp2_with fail
                      refine hrec.out.mono ?_
                      rintro e w7 ⟨r2, Pr2, rfl, hd⟩
                      cases r2 with
                      | true =>
                        obtain ⟨hI7, hrg7⟩ := hyes.out w7 Pr2 hd
                        replace hI7 := Lib.hid hI7
                        clear hd hyes hnay hrec
                        go_wp2
                        go_roundw
                        case rel => exact ⟨K1 ++ [(y, k)], L', left', Pr2, hrg7, hL2.out, hK2.out, hI7.out⟩
                        case measure => rw [hrg7.left_eq, hmeas.out]; exact hlt
                      | false =>
                        have hfin := hnay.out w7 Pr2 hd
                        replace hfin := Lib.hid hfin
                        clear hd hyes hnay hrec
                        go_wp2
                        go_ret
                        exact ⟨false, Pr2, rfl, hfin.out⟩
              · have hkids := kids_file hT.out hp hk
                have hI5 := hI0.other (S := fun _ => False) (Turn.of_below ((Below.refl (wc.drewN m).heap.size (wc.drewN m)).alloc (Nat.le_refl _) (.mapIter none 0 #[] 0)) _) (fun b hb => hb.elim)
                have hfin := alk_end hT.out hU.out hp hq hI5 (by rw [hkids]) hkl
                have hrg := run_range_nilMap (P := Tryz.prog) (wc.drewN m) 75 9 72 under_kids
                have hnx : ∀ ty, (Instr.next (.pointer (some ⟨(wc.drewN m).heap.size, 0, none⟩)) false ty).run Tryz.prog ((wc.drewN m).alloc (.mapIter none 0 #[] 0)) = _ := fun ty => run_next_nilMap (wc.drewN m) ty 0 0 #[]
                rw [kidsV, if_neg hk] at cc11
                replace hfin := Lib.hid hfin
                replace hk := Lib.hid hk
                replace hRd := Lib.hid hRd
                replace hSd := Lib.hid hSd
                have cc11' : (wc.drewN m).cell? ⟨A i, 11, none⟩ = some (.map none) := cc11
                clear hI0 hI5 hmc1 hmc2 htc hr hlk0 hkl hkids cc11 dd11
                generalize wc.drewN m = wd at *
                go_wp2
                refine wp_loop_rounds 1 ?_
                rw [rounds_succ]
                go_wp2
                go_ret
                exact ⟨true, _, rfl, hfin.out⟩

end Go.Proofs.YtemdinjiplglgaaGreat

namespace Go.Proofs.YtemdinjiplglgaaGreat
open Go.RowKit

def SameRes (T U : Fs) (w : World) (e : Ending) (w' : World) : Prop := (∃ r : Bool, e = .returned (.bool r) ∧ (r = true ↔ SameFs T U)) ∧ Below w.heap.size w w'

set_option maxHeartbeats 2000000 in
set_option maxRecDepth 100000 in
theorem same_calls (tb : Nat) (A M : Nat → Nat) (T : Fs) (ub : Nat) (B N : Nat → Nat) (U : Fs) (w : World) (hR : Rep w tb A M T) (hS : Rep w ub B N U) :
    Calls Tryz.prog 29 #[ptr tb, ptr ub] w (SameRes T U w) := by
  have hT := hR.inv
  have hU := hS.inv
  have hkeep : ∀ W, Below w.heap.size w W → W.cell? ⟨tb, 0, none⟩ = some (.pointer (some ⟨A 1, 0, none⟩)) ∧ W.cell? ⟨ub, 0, none⟩ = some (.pointer (some ⟨B 1, 0, none⟩)) := fun W hB => ⟨cell_of (hR.below hB).tree rfl, cell_of (hS.below hB).tree rfl⟩
  have hB1 : Below w.heap.size w (w.drew.alloc (.map #[] 0)) := below_alloc (below_drewN (Below.refl _ _) 1) _
  have hB0 : Below w.heap.size w ((w.drew.alloc (.map #[] 0)).alloc (.map #[] 0)) := below_alloc hB1 _
  have n1 : ∀ k, ¬ Own tb A M T (w.heap.size + k) := fun k h => by have := hR.lt h; omega
  have n2 : ∀ k, ¬ Own ub B N U (w.heap.size + k) := fun k h => by have := hS.lt h; omega
  have hm1 : MapIs ((w.drew.alloc (.map #[] 0)).alloc (.map #[] 0)) w.heap.size [] := (show MapIs (w.drew.alloc (.map #[] 0)) w.heap.size [] from mapIs_made w.drew).kept (World.grownBy_alloc _ _ none) (by simp)
  have hm2 : MapIs ((w.drew.alloc (.map #[] 0)).alloc (.map #[] 0)) (w.heap.size + 1) [] := by
    have := mapIs_made (w.drew.alloc (.map #[] 0))
    rwa [show (w.drew.alloc (.map #[] 0)).heap.size = w.heap.size + 1 by simp] at this
  have hcall := fun pb kb (h1 : pb ≠ kb) (h2 : pb = w.heap.size ∨ pb = w.heap.size + 1) (h3 : kb = w.heap.size ∨ kb = w.heap.size + 1) =>
    alike_calls tb A M T ub B N U pb kb h1 (by rcases h2 with rfl | rfl; exact n1 0; exact n1 1) (by rcases h3 with rfl | rfl; exact n1 0; exact n1 1) (by rcases h2 with rfl | rfl; exact n2 0; exact n2 1) (by rcases h3 with rfl | rfl; exact n2 0; exact n2 1)
      12 [] 1 1 [] ((w.drew.alloc (.map #[] 0)).alloc (.map #[] 0)) (hR.below hB0) (hS.below hB0) hT.one hU.one (fun t j hm => (hT.pth _ _ hm).few) (by rcases h2 with rfl | rfl; exact hm1; exact hm2) (by rcases h3 with rfl | rfl; exact hm1; exact hm2) (by simp) (by simp) (by simp)
  have hfin : ∀ pb kb w1 r Pr', (pb = w.heap.size ∨ pb = w.heap.size + 1) → (kb = w.heap.size ∨ kb = w.heap.size + 1) → AlkDone ((w.drew.alloc (.map #[] 0)).alloc (.map #[] 0)) w1 A B T U pb kb [] 1 1 [] r Pr' → (r = true ↔ SameFs T U) ∧ Below w.heap.size w w1 := by
    intro pb kb w1 r Pr' h2 h3 hd
    exact ⟨alk_same hU hd.m1.nodup hd.m2.nodup hd, hB0.trans ⟨hd.turn.os, hd.turn.tape, hd.turn.output, hd.turn.size, fun k hk => hd.turn.block k (by simp; omega) (by omega)⟩⟩
  have hmk := @run_makeMap Tryz.prog
  unfold ptr at *
  replace hcall := Lib.hid hcall
  replace hkeep := Lib.hid hkeep
  replace hB0 := Lib.hid hB0
  replace hB1 := Lib.hid hB1
  replace hfin := Lib.hid hfin
  replace hR := Lib.hid hR
  replace hS := Lib.hid hS
  replace hm1 := Lib.hid hm1
  replace hm2 := Lib.hid hm2
  replace n1 := Lib.hid n1
  replace n2 := Lib.hid n2
  go_enter Tryz.func29, Tryz.ntmps29
  go_wp2_with fail
  go_region_held3 (fun W => W.cell? ⟨tb, 0, none⟩ = some (.pointer (some ⟨A 1, 0, none⟩)) ∧ W.cell? ⟨ub, 0, none⟩ = some (.pointer (some ⟨B 1, 0, none⟩))) (first | (exact hkeep.out _ (below_drewN (Below.refl _ _) 1)) | (exact hkeep.out _ hB1.out) | (exact hkeep.out _ hB0.out) | (exact hkeep.out _ hBc))
    ((go_at_call 76; refine (hcall.out _ _ (by omega) (by simp) (by simp)).mono ?_; rintro e w1 ⟨r, Pr', rfl, hd⟩; obtain ⟨hr, hBc⟩ := hfin.out _ _ _ _ _ (by simp) (by simp) hd; replace hr := Lib.hid hr; clear hd))
  all_goals
    rename_i hHeld
    clear hHeld
    go_wp2
    go_ret
    exact ⟨⟨r, rfl, hr.out⟩, hBc⟩

end Go.Proofs.YtemdinjiplglgaaGreat

namespace Go.Proofs.YtemdinjiplglgaaGreat
open Go.RowKit

/-- A call on a tree. -/
structure Act17 where
  d : Int
  path : Bytes
  arg : Bytes
  data : Bytes
  mt : Mt

def Fs.act (T : Fs) (a : Act17) : Fs × Int :=
  if a.d = 0 then T.mkdir a.path a.mt else if a.d = 1 then T.write a.path a.data a.mt else if a.d = 2 then T.symlink a.path a.arg a.mt else if a.d = 3 then T.link a.path a.arg else
  if a.d = 4 then T.remove a.path else if a.d = 5 then T.rename a.path a.arg else if a.d = 6 then T.setM a.path a.mt else if a.d = 7 then T.append a.path a.data else (T, 0)

def actCells (a : Act17) (v : Value) : List Value := [.int .i64 a.d, .string (mkS a.path), .string (mkS a.arg), v, .int .i64 a.mt.mode, .int .i64 a.mt.sec, .int .i64 a.mt.nano, .int .i64 a.mt.uid, .int .i64 a.mt.gid]
def actV (a : Act17) (v : Value) : Value := .agg (actCells a v).toArray

set_option maxHeartbeats 2000000 in
set_option maxRecDepth 100000 in
theorem do_calls (tb : Nat) (A M : Nat → Nat) (T : Fs) (a : Act17) (v : Value) (w : World) (hR : Rep w tb A M T) (hp : a.path.length ≤ 1000000) (ht : a.arg.length ≤ 1000000) (hv : RdB w v a.data) (hd : a.data.length ≤ 1000000) (hnx : T.next < 4611686018427387904) (hf : T.names.length ≤ 1000000) :
    Calls Tryz.prog 16 #[ptr tb, actV a v] w fun e w' => e = .returned (.int .i64 (T.act a).2) ∧ Stp w w' tb A M T (T.act a).1 := by
  obtain ⟨d, p, t, b, m⟩ := a
  obtain ⟨m1, m2, m3, m4, m5⟩ := m
  dsimp only at hp ht hv hd
  have hps := mkS_size p
  have hts := mkS_size t
  obtain ⟨dA, dc, rfl, hl1, hl2⟩ : ∃ A c, v = .slice A b.length c ∧ b.length ≤ c ∧ c ≤ maxLen := by
    obtain ⟨A', c, h1, h2, h3, _⟩ := hv
    exact ⟨A', c, h1, h2, h3⟩
  have hB0 : Below w.heap.size w (w.alloc (.cells #[.int .i64 d, .string (mkS p), .string (mkS t), .slice dA b.length dc, .int .i64 m1, .int .i64 m2, .int .i64 m3, .int .i64 m4, .int .i64 m5] 42)) := (Below.refl _ _).alloc (Nat.le_refl _) _
  have hR0 := hR.below hB0
  have hv0 := hv.below hB0
  have q0 := mkdir_calls tb A M T (mkS p) ⟨m1, m2, m3, m4, m5⟩ _ hR0 (by omega) hnx
  have q1 := write_calls tb A M T (mkS p) _ b ⟨m1, m2, m3, m4, m5⟩ _ hR0 (by omega) hv0 (by omega) hnx
  have q2 := symlink_calls tb A M T (mkS p) (mkS t) ⟨m1, m2, m3, m4, m5⟩ _ hR0 (by omega) hnx
  have q3 := link_calls tb A M T (mkS p) (mkS t) _ hR0 (by omega) (by omega) hf
  have q4 := remove_calls tb A M T (mkS p) _ hR0 (by omega) hf
  have q5 := rename_calls tb A M T (mkS p) (mkS t) _ hR0 (by omega) (by omega) hf
  have q6 := set_calls tb A M T (mkS p) ⟨m1, m2, m3, m4, m5⟩ _ hR0 (by omega)
  have q7 := append_calls tb A M T (mkS p) _ b _ hR0 (by omega) hv0 (by omega)
  simp only [bl_mkS] at q0 q1 q2 q3 q4 q5 q6 q7
  unfold mtV mtCells ptr at *
  unfold actV actCells Fs.act
  dsimp only at *
  replace q0 := Lib.hid q0
  replace q1 := Lib.hid q1
  replace q2 := Lib.hid q2
  replace q3 := Lib.hid q3
  replace q4 := Lib.hid q4
  replace q5 := Lib.hid q5
  replace q6 := Lib.hid q6
  replace q7 := Lib.hid q7
  replace hR0 := Lib.hid hR0
  replace hR := Lib.hid hR
  replace hv0 := Lib.hid hv0
  replace hv := Lib.hid hv
  replace hB0 := Lib.hid hB0
  by_cases e0 : d = 0
  · subst e0
    rw [if_pos rfl]
    go_enter Tryz.func16, Tryz.ntmps16
    go_wp2_with fail
    refine q0.out.mono ?_
    rintro e w1 ⟨rfl, hst⟩
    replace hst := Lib.hid hst
    go_wp2
    go_ret
    exact ⟨rfl, hst.out.after hB0.out⟩
  by_cases e1 : d = 1
  · subst e1
    rw [if_neg (by decide)]; rw [if_pos rfl]
    go_enter Tryz.func16, Tryz.ntmps16
    go_wp2_with fail
    refine q1.out.mono ?_
    rintro e w1 ⟨rfl, hst⟩
    replace hst := Lib.hid hst
    go_wp2
    go_ret
    exact ⟨rfl, hst.out.after hB0.out⟩
  by_cases e2 : d = 2
  · subst e2
    rw [if_neg (by decide)]; rw [if_neg (by decide)]; rw [if_pos rfl]
    go_enter Tryz.func16, Tryz.ntmps16
    go_wp2_with fail
    refine q2.out.mono ?_
    rintro e w1 ⟨rfl, hst⟩
    replace hst := Lib.hid hst
    go_wp2
    go_ret
    exact ⟨rfl, hst.out.after hB0.out⟩
  by_cases e3 : d = 3
  · subst e3
    rw [if_neg (by decide)]; rw [if_neg (by decide)]; rw [if_neg (by decide)]; rw [if_pos rfl]
    go_enter Tryz.func16, Tryz.ntmps16
    go_wp2_with fail
    refine q3.out.mono ?_
    rintro e w1 ⟨rfl, hst⟩
    replace hst := Lib.hid hst
    go_wp2
    go_ret
    exact ⟨rfl, hst.out.after hB0.out⟩
  by_cases e4 : d = 4
  · subst e4
    rw [if_neg (by decide)]; rw [if_neg (by decide)]; rw [if_neg (by decide)]; rw [if_neg (by decide)]; rw [if_pos rfl]
    go_enter Tryz.func16, Tryz.ntmps16
    go_wp2_with fail
    refine q4.out.mono ?_
    rintro e w1 ⟨rfl, hst⟩
    replace hst := Lib.hid hst
    go_wp2
    go_ret
    exact ⟨rfl, hst.out.after hB0.out⟩
  by_cases e5 : d = 5
  · subst e5
    rw [if_neg (by decide)]; rw [if_neg (by decide)]; rw [if_neg (by decide)]; rw [if_neg (by decide)]; rw [if_neg (by decide)]; rw [if_pos rfl]
    go_enter Tryz.func16, Tryz.ntmps16
    go_wp2_with fail
    refine q5.out.mono ?_
    rintro e w1 ⟨rfl, hst⟩
    replace hst := Lib.hid hst
    go_wp2
    go_ret
    exact ⟨rfl, hst.out.after hB0.out⟩
  by_cases e6 : d = 6
  · subst e6
    rw [if_neg (by decide)]; rw [if_neg (by decide)]; rw [if_neg (by decide)]; rw [if_neg (by decide)]; rw [if_neg (by decide)]; rw [if_neg (by decide)]; rw [if_pos rfl]
    go_enter Tryz.func16, Tryz.ntmps16
    go_wp2_with fail
    refine q6.out.mono ?_
    rintro e w1 ⟨rfl, hst⟩
    replace hst := Lib.hid hst
    go_wp2
    go_ret
    exact ⟨rfl, hst.out.after hB0.out⟩
  by_cases e7 : d = 7
  · subst e7
    rw [if_neg (by decide)]; rw [if_neg (by decide)]; rw [if_neg (by decide)]; rw [if_neg (by decide)]; rw [if_neg (by decide)]; rw [if_neg (by decide)]; rw [if_neg (by decide)]; rw [if_pos rfl]
    go_enter Tryz.func16, Tryz.ntmps16
    go_wp2_with fail
    refine q7.out.mono ?_
    rintro e w1 ⟨rfl, hst⟩
    replace hst := Lib.hid hst
    go_wp2
    go_ret
    exact ⟨rfl, hst.out.after hB0.out⟩
  have f0 : (d == 0) = false := by simpa using e0
  have f1 : (d == 1) = false := by simpa using e1
  have f2 : (d == 2) = false := by simpa using e2
  have f3 : (d == 3) = false := by simpa using e3
  have f4 : (d == 4) = false := by simpa using e4
  have f5 : (d == 5) = false := by simpa using e5
  have f6 : (d == 6) = false := by simpa using e6
  have f7 : (d == 7) = false := by simpa using e7
  rw [if_neg e0, if_neg e1, if_neg e2, if_neg e3, if_neg e4, if_neg e5, if_neg e6, if_neg e7]
  clear e0 e1 e2 e3 e4 e5 e6 e7 q0 q1 q2 q3 q4 q5 q6 q7
  go_enter Tryz.func16, Tryz.ntmps16
  go_wp2
  go_ret
  exact ⟨rfl, Stp.same hR.out hB0.out⟩

end Go.Proofs.YtemdinjiplglgaaGreat

namespace Go.Proofs.YtemdinjiplglgaaGreat
open Go.RowKit

/-- v reads as the acts l. -/
def Acts (W : World) (v : Value) (l : List Act17) : Prop :=
  ∃ A c, v = .slice A l.length c ∧ l.length ≤ c ∧ c ≤ maxLen ∧ ∀ k (h : k < l.length), ∃ g o dv, A = some ⟨g, o, none⟩ ∧ RdB W dv (l[k]).data ∧ ∀ j, j < 9 → W.cell? ⟨g, o + k * 9 + j, none⟩ = (actCells l[k] dv)[j]?

theorem cell_lt {W : World} {a : Addr} {v : Value} (h : W.cell? a = some v) : a.block < W.heap.size := by
  rcases Nat.lt_or_ge a.block W.heap.size with h1 | h1
  · exact h1
  · simp [World.cell?, Array.getElem?_eq_none h1] at h

theorem Acts.below {W W' : World} {v : Value} {l : List Act17} (h : Acts W v l) (hb : Below W.heap.size W W') : Acts W' v l := by
  obtain ⟨A, c, h1, h2, h3, h4⟩ := h
  refine ⟨A, c, h1, h2, h3, fun k hk => ?_⟩
  obtain ⟨g, o, dv, e, h5, h6⟩ := h4 k hk
  refine ⟨g, o, dv, e, h5.below hb, fun j hj => ?_⟩
  have h7 := h6 0 (by omega)
  have hlt : g < W.heap.size := cell_lt (a := ⟨g, o + k * 9 + 0, none⟩) h7
  rw [← h6 j hj]
  simp only [World.cell?, hb.block g hlt]

def actOk (a : Act17) : Bool := decide (a.data.length ≤ 400) && decide (a.path.length ≤ 600) && decide (a.arg.length ≤ 600)
def small (l : List Act17) : Bool := l.all actOk && decide (l.length ≤ 40)

theorem ret_bool {a b : Bool} (h : a = b) : Ending.returned (.bool a) = .returned (.bool b) := by rw [h]

theorem all_take_snoc {α : Type} (f : α → Bool) (l : List α) {k : Nat} (hk : k < l.length) : (l.take (k + 1)).all f = ((l.take k).all f && f l[k]) := by
  rw [List.take_succ_eq_append_getElem hk, List.all_append]
  simp

theorem all_not {α : Type} {f : α → Bool} {l : List α} {k : Nat} (hk : k < l.length) (h : f l[k] = false) : l.all f = false := by
  rw [Bool.eq_false_iff]
  intro h2
  have := List.all_eq_true.1 h2 _ (List.getElem_mem hk)
  rw [h] at this
  cases this

set_option maxHeartbeats 2000000 in
set_option maxRecDepth 100000 in
theorem small_calls (v : Value) (l : List Act17) (w : World) (hv : Acts w v l) :
    Calls Tryz.prog 7 #[v] w fun e w' => e = .returned (.bool (small l)) ∧ w = w' := by
  obtain ⟨A, c, rfl, h2, h3, h4⟩ := hv
  unfold maxLen at h3
  replace h4 := Lib.hid h4
  go_enter Tryz.func7, Tryz.ntmps7
  go_wp2_with fail
  go_loop [3] (fun i => ∃ k : Nat, i = .int .i64 k ∧ k ≤ l.length ∧ (l.take k).all actOk = true) (fun i => l.length - (intOf i).toNat)
  case atStart => exact ⟨0, rfl, Nat.zero_le _, by simp⟩
  case round =>
    obtain ⟨k, rfl, hk, hall⟩ := hrel
    replace hall := Lib.hid hall
    by_cases hlt : k < l.length
    · obtain ⟨g, o, dv, rfl, hdv, hc⟩ := h4.out k hlt
      obtain ⟨dA, dc, rfl, _, _⟩ := hdv
      have c1 : w.cell? ⟨g, o + k * 9 + 1, none⟩ = some (.string (mkS (l[k]).path)) := hc 1 (by decide)
      have c2 : w.cell? ⟨g, o + k * 9 + 2, none⟩ = some (.string (mkS (l[k]).arg)) := hc 2 (by decide)
      have c3 : w.cell? ⟨g, o + k * 9 + 3, none⟩ = some (.slice dA (l[k]).data.length dc) := hc 3 (by decide)
      clear hc
      have hs1 := mkS_size (l[k]).path
      have hs2 := mkS_size (l[k]).arg
      have hat := all_take_snoc actOk l hlt
      have hno := all_not (f := actOk) (l := l) hlt
      replace hat := Lib.hid hat
      replace hno := Lib.hid hno
      have hbad : actOk l[k] = false → small l = false := fun h => by unfold small; rw [hno.out h]; rfl
      have hgood : actOk l[k] = true → (l.take (k + 1)).all actOk = true := fun h => by rw [hat.out, hall.out, h]; rfl
      replace hbad := Lib.hid hbad
      replace hgood := Lib.hid hgood
      go_wp2
      all_goals first
        | (go_round
           case rel => exact ⟨k + 1, by go_num, by omega, hgood.out (by unfold actOk; simp only [Bool.and_eq_true, decide_eq_true_eq]; omega)⟩
           case measure => simp [intOf]; omega)
        | (go_ret
           rw [hbad.out (by unfold actOk; simp only [Bool.and_eq_false_iff, decide_eq_false_iff_not]; omega)]
           exact ⟨rfl, rfl⟩)
    · obtain rfl : k = l.length := by omega
      rw [List.take_length] at hall
      have hfin : small l = decide (l.length ≤ 40) := by unfold small; rw [hall.out]; rfl
      replace hfin := Lib.hid hfin
      go_wp2
      go_ret
      rw [hfin.out]
      exact ⟨ret_bool (by rw [Bool.eq_iff_iff]; simp only [decide_eq_true_eq]; omega), rfl⟩

/-! ### how much an act adds -/

def Grow (T T' : Fs) : Prop := T'.names.length ≤ T.names.length + 1 ∧ T'.next ≤ T.next + 1
theorem grow_refl (T : Fs) : Grow T T := ⟨Nat.le_succ _, Nat.le_succ _⟩
theorem grow_add (T : Fs) (p : Pt) (n : Nd) : Grow T (T.add p n) := ⟨by simp [Fs.add], by simp [Fs.add]⟩
theorem grow_set (T : Fs) (i : Nat) (n : Nd) : Grow T (T.set i n) := ⟨by simp [Fs.set], by simp [Fs.set]⟩
theorem grow_name (T : Fs) (p : Pt) (i : Nat) : Grow T (T.name p i) := ⟨by simp [Fs.name], by simp [Fs.name]⟩
theorem gone_few (T : Fs) (p : Pt) (i : Nat) : (T.gone p i).names.length ≤ T.names.length := List.length_filter_le _ _
theorem grow_gone (T : Fs) (p : Pt) (i : Nat) : Grow T (T.gone p i) := ⟨Nat.le_succ_of_le (gone_few T p i), by simp [Fs.gone]⟩
theorem grow_move (T : Fs) (o p : Pt) : Grow T (T.move o p) := ⟨by simp [Fs.move], by simp [Fs.move]⟩
theorem grow_over (T : Fs) (o p : Pt) (j : Nat) : Grow T ((T.gone p j).move o p) := ⟨by have := gone_few T p j; simp [Fs.move]; omega, by simp [Fs.move, Fs.gone]⟩

theorem grow_act (T : Fs) (a : Act17) : Grow T (T.act a).1 := by
  have g1 : ∀ s m, Grow T (T.mkdir s m).1 := fun s m => by unfold Fs.mkdir; (repeat' split); all_goals first | exact grow_refl T | exact grow_add T _ _
  have g2 : ∀ s b m, Grow T (T.write s b m).1 := fun s b m => by unfold Fs.write; (repeat' split); all_goals first | exact grow_refl T | exact grow_add T _ _ | exact grow_set T _ _
  have g3 : ∀ s t m, Grow T (T.symlink s t m).1 := fun s t m => by unfold Fs.symlink; (repeat' split); all_goals first | exact grow_refl T | exact grow_add T _ _
  have g4 : ∀ o p, Grow T (T.link o p).1 := fun o p => by unfold Fs.link; (repeat' split); all_goals first | exact grow_refl T | exact grow_name T _ _
  have g5 : ∀ s, Grow T (T.remove s).1 := fun s => by unfold Fs.remove; (repeat' split); all_goals first | exact grow_refl T | exact grow_gone T _ _
  have g6 : ∀ o p, Grow T (T.rename o p).1 := fun o p => by unfold Fs.rename Fs.ren2 Fs.ren3; (repeat' split); all_goals first | exact grow_refl T | exact grow_move T _ _ | exact grow_over T _ _ _
  have g7 : ∀ s m, Grow T (T.setM s m).1 := fun s m => by unfold Fs.setM; (repeat' split); all_goals first | exact grow_refl T | exact grow_set T _ _
  have g8 : ∀ s b, Grow T (T.append s b).1 := fun s b => by unfold Fs.append; (repeat' split); all_goals first | exact grow_refl T | exact grow_set T _ _
  unfold Fs.act
  repeat' split
  all_goals first | exact g1 _ _ | exact g2 _ _ _ | exact g3 _ _ _ | exact g4 _ _ | exact g5 _ | exact g6 _ _ | exact g7 _ _ | exact g8 _ _ | exact grow_refl T

def Fs.acts (T : Fs) (l : List Act17) : Fs := l.foldl (fun T a => (T.act a).1) T
def Fs.build (l : List Act17) : Fs := Fs.start.acts l
theorem acts_snoc (T : Fs) (l : List Act17) (a : Act17) : T.acts (l ++ [a]) = ((T.acts l).act a).1 := by simp [Fs.acts]
theorem acts_grow (T : Fs) : ∀ l : List Act17, (T.acts l).names.length ≤ T.names.length + l.length ∧ (T.acts l).next ≤ T.next + l.length := by
  refine snoc_rec (by simp [Fs.acts]) fun l a ih => ?_
  rw [acts_snoc]
  have := grow_act (T.acts l) a
  obtain ⟨h1, h2⟩ := this
  simp only [List.length_append, List.length_singleton]
  omega

/-- A call on a tree of one's own leaves what was there. -/
theorem Stp.mine {w wr w' : World} {tb : Nat} {A M : Nat → Nat} {T T' : Fs} (hB : Below w.heap.size w wr) (hown : ∀ b, Own tb A M T b → w.heap.size ≤ b) (hs : Stp wr w' tb A M T T') : Below w.heap.size w w' ∧ ∃ A' M', Rep w' tb A' M' T' ∧ ∀ b, Own tb A' M' T' b → w.heap.size ≤ b := by
  obtain ⟨A', M', h1, h2, h3⟩ := hs
  refine ⟨hB.trans ⟨h2.os, h2.tape, h2.output, h2.size, fun k hk => h2.block k (Nat.lt_of_lt_of_le hk hB.size) (fun h => by have := hown k h; omega)⟩, A', M', h1, fun b hb => ?_⟩
  rcases h3 b hb with h | h
  · exact hown b h
  · exact Nat.le_trans hB.size h

theorem small_at {l : List Act17} (h : small l = true) : l.length ≤ 40 ∧ ∀ a ∈ l, a.data.length ≤ 400 ∧ a.path.length ≤ 600 ∧ a.arg.length ≤ 600 := by
  unfold small at h
  simp only [Bool.and_eq_true, decide_eq_true_eq, List.all_eq_true] at h
  refine ⟨h.2, fun a ha => ?_⟩
  have := h.1 a ha
  unfold actOk at this
  simp only [Bool.and_eq_true, decide_eq_true_eq] at this
  exact ⟨this.1.1, this.1.2, this.2⟩

set_option maxHeartbeats 4000000 in
set_option maxRecDepth 100000 in
theorem build_calls (v : Value) (l : List Act17) (w : World) (hv : Acts w v l) (hs : small l = true) :
    Calls Tryz.prog 10 #[v] w (NewTree w (Fs.build l)) := by
  obtain ⟨hl40, hsm⟩ := small_at hs
  have hv0 := hv
  obtain ⟨A, c, rfl, h2, h3, h4⟩ := hv
  unfold maxLen at h3
  have hnew := new_calls w
  replace h4 := Lib.hid h4
  replace hsm := Lib.hid hsm
  replace hnew := Lib.hid hnew
  replace hv0 := Lib.hid hv0
  clear hs
  go_enter Tryz.func10, Tryz.ntmps10
  go_wp2_with fail
  refine hnew.out.mono ?_
  rintro e w0 ⟨tc, C, MC, rfl, hR0, hO0, hB0⟩
  replace hR0 := Lib.hid hR0
  replace hO0 := Lib.hid hO0
  replace hB0 := Lib.hid hB0
  go_wp2_with fail
  go_loopw [4] (fun i wr => ∃ (k : Nat) (C1 MC1 : Nat → Nat), i = .int .i64 k ∧ k ≤ l.length ∧ Rep wr tc C1 MC1 (Fs.build (l.take k)) ∧ (∀ b, Own tc C1 MC1 (Fs.build (l.take k)) b → w.heap.size ≤ b) ∧ Below w.heap.size w wr) (fun i _ => l.length - (intOf i).toNat)
  case atStart => exact ⟨0, C, MC, rfl, Nat.zero_le _, hR0.out, hO0.out, hB0.out⟩
  case round =>
    clear hR0 hO0 hB0
    obtain ⟨k, C1, MC1, rfl, hk, hR, hO, hB⟩ := hrel
    by_cases hlt : k < l.length
    · obtain ⟨g, o, dv, rfl, hdv, hc⟩ := h4.out k hlt
      obtain ⟨h5, h6, h7⟩ := hsm.out _ (List.getElem_mem hlt)
      have hgr := acts_grow Fs.start (l.take k)
      have hnm : (Fs.build (l.take k)).names.length ≤ 1000000 := by
        have h8 : (l.take k).length ≤ k := List.length_take_le _ _
        have : (Fs.build (l.take k)).names.length ≤ Fs.start.names.length + (l.take k).length := hgr.1
        have h9 : Fs.start.names.length = 1 := rfl
        omega
      have hnx : (Fs.build (l.take k)).next < 4611686018427387904 := by
        have h8 : (l.take k).length ≤ k := List.length_take_le _ _
        have : (Fs.build (l.take k)).next ≤ Fs.start.next + (l.take k).length := hgr.2
        have h9 : Fs.start.next = 2 := rfl
        omega
      have hdv' := hdv.below hB
      have hglt : g < w.heap.size := cell_lt (a := ⟨g, o + k * 9 + 0, none⟩) (hc 0 (by decide))
      have hc' : ∀ j, j < 9 → wr.cell? ⟨g, o + k * 9 + j, none⟩ = (actCells l[k] dv)[j]? := fun j hj => by
        rw [← hc j hj]
        simp only [World.cell?, hB.block g hglt]
      have hcall := do_calls tc C1 MC1 (Fs.build (l.take k)) l[k] dv wr hR (by omega) (by omega) hdv' (by omega) hnx hnm
      have hbs : ((Fs.build (l.take k)).act l[k]).1 = Fs.build (l.take (k + 1)) := by
        rw [List.take_succ_eq_append_getElem hlt]
        exact (acts_snoc _ _ _).symm
      rw [hbs] at hcall
      have d0 : wr.cell? ⟨g, o + k * 9, none⟩ = some (.int .i64 (l[k]).d) := hc' 0 (by decide)
      have d1 : wr.cell? ⟨g, o + k * 9 + 1, none⟩ = some (.string (mkS (l[k]).path)) := hc' 1 (by decide)
      have d2 : wr.cell? ⟨g, o + k * 9 + 2, none⟩ = some (.string (mkS (l[k]).arg)) := hc' 2 (by decide)
      have d3 : wr.cell? ⟨g, o + k * 9 + 3, none⟩ = some dv := hc' 3 (by decide)
      have d4 : wr.cell? ⟨g, o + k * 9 + 4, none⟩ = some (.int .i64 (l[k]).mt.mode) := hc' 4 (by decide)
      have d5 : wr.cell? ⟨g, o + k * 9 + 5, none⟩ = some (.int .i64 (l[k]).mt.sec) := hc' 5 (by decide)
      have d6 : wr.cell? ⟨g, o + k * 9 + 6, none⟩ = some (.int .i64 (l[k]).mt.nano) := hc' 6 (by decide)
      have d7 : wr.cell? ⟨g, o + k * 9 + 7, none⟩ = some (.int .i64 (l[k]).mt.uid) := hc' 7 (by decide)
      have d8 : wr.cell? ⟨g, o + k * 9 + 8, none⟩ = some (.int .i64 (l[k]).mt.gid) := hc' 8 (by decide)
      have hfin := fun w' (hst : Stp wr w' tc C1 MC1 (Fs.build (l.take k)) (Fs.build (l.take (k + 1)))) => Stp.mine hB hO hst
      unfold actV actCells ptr at hcall
      replace hcall := Lib.hid hcall
      replace hfin := Lib.hid hfin
      clear hR hO hB hc hc' hdv hdv' hbs hgr hnm hnx
      go_wp2_with fail
      refine hcall.out.mono ?_
      rintro e w1 ⟨rfl, hst⟩
      obtain ⟨hB1, C2, MC2, hR2, hO2⟩ := hfin.out w1 hst
      replace hB1 := Lib.hid hB1
      replace hR2 := Lib.hid hR2
      replace hO2 := Lib.hid hO2
      clear hst hfin hcall
      go_wp2
      go_roundw
      case rel => exact ⟨k + 1, C2, MC2, by go_num, by omega, hR2.out, hO2.out, hB1.out⟩
      case measure => simp [intOf]; omega
    · obtain rfl : k = l.length := by omega
      rw [List.take_length] at hR hO
      replace hR := Lib.hid hR
      replace hO := Lib.hid hO
      replace hB := Lib.hid hB
      go_wp2
      go_ret
      exact ⟨tc, C1, MC1, rfl, hR.out, hO.out, hB.out⟩

end Go.Proofs.YtemdinjiplglgaaGreat

namespace Go.Proofs.YtemdinjiplglgaaGreat
open Go.RowKit

def aw1 : Fs := (Fs.start.write [97] [120] noMt).1
def aw2 : Fs := (aw1.link [97] [98]).1
def aw3 : Fs := (aw2.write [98] [121, 122] ⟨0, 3, 0, 0, 0⟩).1
theorem aw_1 : (Fs.start.write [97] [120] noMt).2 = 0 := by decide +kernel
theorem aw_2 : (aw1.link [97] [98]).2 = 0 := by decide +kernel
theorem aw_3 : (aw2.write [98] [121, 122] ⟨0, 3, 0, 0, 0⟩).2 = 0 := by decide +kernel
theorem aw_4 : aw3.stat [97] = (⟨1, 2, 2, 2, ⟨0, 3, 0, 0, 0⟩, []⟩, 0) := by decide +kernel
theorem aw_5 : (aw3.rename [97] [98]).2 = 0 := by decide +kernel
theorem aw_6 : ((aw3.rename [97] [98]).1.below []).length = 2 := by decide +kernel
theorem aw_7 : ((aw3.rename [97] [98]).1.mkdir [100, 47, 101] noMt).2 = 10 := by decide +kernel
theorem aw_8 : aw1.names.length ≤ 1000000 ∧ aw2.names.length ≤ 1000000 ∧ aw2.next < 4611686018427387904 ∧ aw3.names.length ≤ 1000000 ∧ (aw3.rename [97] [98]).1.names.length ≤ 1000000 ∧ (aw3.rename [97] [98]).1.next < 4611686018427387904 := by decide +kernel

theorem rdb_const (w : World) (l : Bytes) (C : Array Value) (f : Nat × Nat) (hC : C.toList = byteCells l) (hm : l.length ≤ maxLen) : RdB (w.alloc (.cells C 5 f)) (.slice (some ⟨w.heap.size, 0, none⟩) l.length l.length) l := by
  refine ⟨_, _, rfl, Nat.le_refl _, hm, fun j hj => ⟨_, 0, rfl, ?_⟩⟩
  have h := (MapKept.heap_alloc w (.cells C 5 f)).1
  have hget : C[j]? = (byteCells l)[j]? := by rw [← hC, Array.getElem?_toList]
  simp only [World.cell?, h, Nat.zero_add, hget]
  simp [byteCells, hj]

set_option maxHeartbeats 4000000 in
set_option maxRecDepth 100000 in
theorem awake17_calls (w : World) : Calls Tryz.prog 13 #[] w fun e w' => e = .returned (.bool true) ∧ Below w.heap.size w w' := by
  have kc := fun (w : World) (C : Array Value) (n c : Nat) => Lib.run_convert_bytes_const (P := Tryz.prog) w 38 5 C n c Tryz.underlying38 Tryz.underlying5
  have hnew := new_calls w
  obtain ⟨b1, b2, b3, b4, b5, b6⟩ := aw_8
  have k1 := fun tb A M W v (hR : Rep W tb A M Fs.start) hv => write_calls tb A M Fs.start ⟨#[97]⟩ v [120] noMt W hR (by decide) hv (by decide) (by decide)
  have k2 := fun tb A M W (hR : Rep W tb A M aw1) => link_calls tb A M aw1 ⟨#[97]⟩ ⟨#[98]⟩ W hR (by decide) (by decide) b1
  have k3 := fun tb A M W v (hR : Rep W tb A M aw2) hv => write_calls tb A M aw2 ⟨#[98]⟩ v [121, 122] ⟨0, 3, 0, 0, 0⟩ W hR (by decide) hv (by decide) b3
  have k4 := fun tb A M W (hR : Rep W tb A M aw3) => stat_calls tb A M aw3 ⟨#[97]⟩ W hR (by decide)
  have k5 := fun tb A M W (hR : Rep W tb A M aw3) => rename_calls tb A M aw3 ⟨#[97]⟩ ⟨#[98]⟩ W hR (by decide) (by decide) b4
  have k6 := fun tb A M W (hR : Rep W tb A M (aw3.rename [97] [98]).1) => count_calls tb A M (aw3.rename [97] [98]).1 W hR b5
  have k7 := fun tb A M W (hR : Rep W tb A M (aw3.rename [97] [98]).1) => mkdir_calls tb A M (aw3.rename [97] [98]).1 ⟨#[100, 47, 101]⟩ noMt W hR (by decide) b6
  rw [show bl ⟨#[97]⟩ = [97] from rfl] at k1 k2 k4 k5
  rw [show bl ⟨#[98]⟩ = [98] from rfl] at k2 k3 k5
  rw [show bl ⟨#[100, 47, 101]⟩ = [100, 47, 101] from rfl] at k7
  rw [aw_1] at k1
  rw [aw_2] at k2
  rw [aw_3] at k3
  rw [aw_4] at k4
  rw [aw_5] at k5
  rw [aw_6] at k6
  rw [aw_7] at k7
  change ∀ tb A M W v, Rep W tb A M Fs.start → RdB W v [120] → Calls _ _ _ _ fun e w' => _ ∧ Stp W w' tb A M Fs.start aw1 at k1
  change ∀ tb A M W, Rep W tb A M aw1 → Calls _ _ _ _ fun e w' => _ ∧ Stp W w' tb A M aw1 aw2 at k2
  change ∀ tb A M W v, Rep W tb A M aw2 → RdB W v [121, 122] → Calls _ _ _ _ fun e w' => _ ∧ Stp W w' tb A M aw2 aw3 at k3
  generalize hT4 : (aw3.rename [97] [98]).1 = aw4 at *
  generalize aw1 = T1 at *
  generalize aw2 = T2 at *
  generalize aw3 = T3 at *
  clear b1 b2 b3 b4 b5 b6 hT4
  unfold noMt mtV mtCells statV statCells ptr at *
  dsimp only at k1 k3 k4 k7
  rw [show mkS [] = ⟨#[]⟩ from rfl] at k4
  replace hnew := Lib.hid hnew
  replace k1 := Lib.hid k1
  replace k2 := Lib.hid k2
  replace k3 := Lib.hid k3
  replace k4 := Lib.hid k4
  replace k5 := Lib.hid k5
  replace k6 := Lib.hid k6
  replace k7 := Lib.hid k7
  go_enter Tryz.func13, Tryz.ntmps13
  go_wp2_with fail
  refine hnew.out.mono ?_
  rintro e w0 ⟨tc, C, M, rfl, hR0, hO0, hB0⟩
  have hBa := below_alloc hB0 (.cells #[.int .u8 120] 5 (1, 2))
  have hRa := hR0.below ((Below.refl w0.heap.size w0).alloc (Nat.le_refl _) (.cells #[.int .u8 120] 5 (1, 2)))
  have hva := rdb_const w0 [120] #[.int .u8 120] (1, 2) rfl (by simp [maxLen])
  have q1 := k1.out tc C M _ _ hRa hva
  replace q1 := Lib.hid q1
  replace hR0 := Lib.hid hR0
  replace hO0 := Lib.hid hO0
  replace hB0 := Lib.hid hB0
  replace hBa := Lib.hid hBa
  replace hRa := Lib.hid hRa
  replace hva := Lib.hid hva
  go_wp2_with fail
  refine q1.out.mono ?_
  rintro e w1 ⟨rfl, hst⟩
  obtain ⟨hB1, C1, M1, hR1, hO1⟩ := Stp.mine hBa.out hO0.out hst
  have q2 := k2.out tc C1 M1 w1 hR1
  replace q2 := Lib.hid q2
  replace hB1 := Lib.hid hB1
  replace hR1 := Lib.hid hR1
  replace hO1 := Lib.hid hO1
  clear hst q1 hR0 hO0 hB0 hBa hRa hva
  go_wp2_with fail
  refine q2.out.mono ?_
  rintro e w2 ⟨rfl, hst⟩
  obtain ⟨hB2, C2, M2, hR2, hO2⟩ := Stp.mine hB1.out hO1.out hst
  have hBa := below_alloc hB2 (.cells #[.int .u8 121, .int .u8 122] 5 (2, 3))
  have hRa := hR2.below ((Below.refl w2.heap.size w2).alloc (Nat.le_refl _) (.cells #[.int .u8 121, .int .u8 122] 5 (2, 3)))
  have hva := rdb_const w2 [121, 122] #[.int .u8 121, .int .u8 122] (2, 3) rfl (by simp [maxLen])
  have q3 := k3.out tc C2 M2 _ _ hRa hva
  replace q3 := Lib.hid q3
  replace hB2 := Lib.hid hB2
  replace hR2 := Lib.hid hR2
  replace hO2 := Lib.hid hO2
  replace hBa := Lib.hid hBa
  replace hRa := Lib.hid hRa
  replace hva := Lib.hid hva
  clear hst q2 hR1 hO1 hB1
  go_wp2_with fail
  refine q3.out.mono ?_
  rintro e w3 ⟨rfl, hst⟩
  obtain ⟨hB3, C3, M3, hR3, hO3⟩ := Stp.mine hBa.out hO2.out hst
  have q4 := k4.out tc C3 M3 w3 hR3
  replace q4 := Lib.hid q4
  replace hB3 := Lib.hid hB3
  replace hR3 := Lib.hid hR3
  replace hO3 := Lib.hid hO3
  clear hst q3 hBa hRa hva hR2 hO2 hB2
  go_wp2_with fail
  refine q4.out.mono ?_
  rintro e w4 ⟨rfl, hB34⟩
  have hB4 := below_step hB3.out hB34
  have hR4 := hR3.out.below hB34
  replace hB4 := Lib.hid hB4
  replace hR4 := Lib.hid hR4
  clear hB34 q4 hR3 hB3
  have hBa := below_alloc hB4.out (.cells #[.int .i64 1, .int .i64 2, .int .i64 2, .int .i64 2, .int .i64 0, .int .i64 3, .int .i64 0, .int .i64 0, .int .i64 0, .string ⟨#[]⟩] 50)
  have hRa := hR4.out.below ((Below.refl w4.heap.size w4).alloc (Nat.le_refl _) (.cells #[.int .i64 1, .int .i64 2, .int .i64 2, .int .i64 2, .int .i64 0, .int .i64 3, .int .i64 0, .int .i64 0, .int .i64 0, .string ⟨#[]⟩] 50))
  have q5 := k5.out tc C3 M3 _ hRa
  replace q5 := Lib.hid q5
  replace hBa := Lib.hid hBa
  replace hRa := Lib.hid hRa
  go_wp2_with fail
  refine q5.out.mono ?_
  rintro e w5 ⟨rfl, hst⟩
  obtain ⟨hB5, C5, M5, hR5, hO5⟩ := Stp.mine hBa.out hO3.out hst
  have q6 := k6.out tc C5 M5 w5 hR5
  replace q6 := Lib.hid q6
  replace hB5 := Lib.hid hB5
  replace hR5 := Lib.hid hR5
  replace hO5 := Lib.hid hO5
  clear hst q5 hBa hRa hR4 hO3 hB4
  go_wp2_with fail
  refine q6.out.mono ?_
  rintro e w6 ⟨rfl, hB56⟩
  have hB6 := below_step hB5.out hB56
  have hR6 := hR5.out.below hB56
  have q7 := k7.out tc C5 M5 w6 hR6
  replace q7 := Lib.hid q7
  replace hB6 := Lib.hid hB6
  replace hR6 := Lib.hid hR6
  clear q6 hB56 hR5 hB5
  go_wp2_with fail
  refine q7.out.mono ?_
  rintro e w7 ⟨rfl, hst⟩
  obtain ⟨hB7, _⟩ := Stp.mine hB6.out hO5.out hst
  replace hB7 := Lib.hid hB7
  clear hst q7 hR6 hB6 hO5
  go_wp2
  go_ret
  exact ⟨rfl, hB7.out⟩

end Go.Proofs.YtemdinjiplglgaaGreat

namespace Go.Proofs.YtemdinjiplglgaaGreat
open Go.RowKit Go.ChangeShapes Go.WideShapes Go.Deep

section
variable {H : Type} {enc : TypeId × Value → H} {W : World} {spare : Nat → Bool} {held : Bool}

theorem laid_ok : laidOutB Tryz.prog = true := by kernel_rfl

theorem open_bytes {fuel : Nat} {cs : List Value} {x : DataW H × List MemPlace} (h : DataW.trod enc Tryz.prog W 0 spare held fuel 38 cs = some x) : ∃ v l, cs = [v] ∧ RdB W v l := by
  rcases open_ints Tryz.underlying38 Tryz.underlying5 (by kernel_rfl) h with ⟨rfl, _⟩ | ⟨a, len, cap, zs, rfl, _, h1, h2, h3, _, h5, h6⟩
  · exact ⟨_, [], rfl, none, 0, rfl, Nat.le_refl _, Nat.zero_le _, fun j hj => by simp at hj⟩
  · have hle : len ≤ zs.length := by rw [h3]; split <;> omega
    refine ⟨_, (zs.take len).map fun n => UInt8.ofNat n.toNat, rfl, some a, cap, ?_, ?_, h2, fun j hj => ?_⟩
    · simp; omega
    · simp; omega
    · have hj' : j < len := by simp at hj; omega
      have hc := h5 j (by omega)
      have hsp := World.cell?_spot (h5 0 (by omega))
      obtain ⟨g, o, s⟩ := a
      have hs : s = none := by
        have e : (⟨g, o, s⟩ : Addr).add 0 = ⟨g, o, s⟩ := by simp [Addr.add]
        rw [e] at hsp
        exact hsp
      subst hs
      refine ⟨g, o, rfl, ?_⟩
      rw [add_plain] at hc
      rw [hc]
      have hwf := h6 (zs.getD j 0) (by simp [List.getD]; rw [List.getElem?_eq_getElem (by omega)]; simp)
      simp only [Lit.wf, Bool.and_eq_true, decide_eq_true_eq] at hwf
      have h0 : (0 : Int) ≤ zs.getD j 0 := hwf.1
      have h255 : zs.getD j 0 ≤ 255 := hwf.2
      congr 2
      simp only [List.getElem_map, List.getElem_take]
      have hz : zs.getD j 0 = zs[j] := by simp [List.getD]; rw [List.getElem?_eq_getElem (by omega)]; rfl
      rw [hz] at h0 h255 ⊢
      simp only [UInt8.toNat_ofNat']
      omega

set_option maxRecDepth 100000 in
theorem act_of_cells {fuel : Nat} {cs : List Value} {x : DataW H × List MemPlace} (h : DataW.trod enc Tryz.prog W 0 spare held fuel 42 cs = some x) : ∃ a dv, cs = actCells a dv ∧ RdB W dv a.data := by
  obtain ⟨xs, n, _, _, hl, hxl, hf⟩ := DataW.trod_struct Tryz.underlying42 h
  have hl9 : cs.length = 9 := hl.trans (by kernel_rfl)
  match cs, hl9 with
  | [c0, c1, c2, c3, c4, c5, c6, c7, c8], _ =>
    have hx : ∀ i, i < 5 → ∃ y, xs[i]? = some y := fun i hi => ⟨_, List.getElem?_eq_getElem (by rw [hxl]; exact hi)⟩
    obtain ⟨y0, e0⟩ := hx 0 (by decide)
    obtain ⟨y1, e1⟩ := hx 1 (by decide)
    obtain ⟨y2, e2⟩ := hx 2 (by decide)
    obtain ⟨y3, e3⟩ := hx 3 (by decide)
    obtain ⟨y4, e4⟩ := hx 4 (by decide)
    have f0 : DataW.trod enc Tryz.prog W 0 spare held n 3 (([c0, c1, c2, c3, c4, c5, c6, c7, c8].drop 0).take (Tryz.prog.cellsOf 3)) = some y0 := (hf 0 _ rfl).trans e0
    have f1 : DataW.trod enc Tryz.prog W 0 spare held n 9 (([c0, c1, c2, c3, c4, c5, c6, c7, c8].drop 1).take (Tryz.prog.cellsOf 9)) = some y1 := (hf 1 _ rfl).trans e1
    have f2 : DataW.trod enc Tryz.prog W 0 spare held n 9 (([c0, c1, c2, c3, c4, c5, c6, c7, c8].drop 2).take (Tryz.prog.cellsOf 9)) = some y2 := (hf 2 _ rfl).trans e2
    have f3 : DataW.trod enc Tryz.prog W 0 spare held n 38 (([c0, c1, c2, c3, c4, c5, c6, c7, c8].drop 3).take (Tryz.prog.cellsOf 38)) = some y3 := (hf 3 _ rfl).trans e3
    have f4 : DataW.trod enc Tryz.prog W 0 spare held n 40 (([c0, c1, c2, c3, c4, c5, c6, c7, c8].drop 4).take (Tryz.prog.cellsOf 40)) = some y4 := (hf 4 _ rfl).trans e4
    have k1 : Tryz.prog.cellsOf 3 = 1 := by kernel_rfl
    have k2 : Tryz.prog.cellsOf 9 = 1 := by kernel_rfl
    have k3 : Tryz.prog.cellsOf 38 = 1 := by kernel_rfl
    have k4 : Tryz.prog.cellsOf 40 = 5 := by kernel_rfl
    rw [k1] at f0
    rw [k2] at f1 f2
    rw [k3] at f3
    rw [k4] at f4
    simp only [List.drop_zero, List.drop_succ_cons, List.take_succ_cons, List.take_zero] at f0 f1 f2 f3 f4
    obtain ⟨d, q0, _⟩ := DataW.trod_int Tryz.underlying3 f0
    obtain ⟨p, q1, _⟩ := DataW.trod_string Tryz.underlying9 f1
    obtain ⟨t, q2, _⟩ := DataW.trod_string Tryz.underlying9 f2
    obtain ⟨dv, l, q3, hrd⟩ := open_bytes f3
    obtain ⟨zs, n', _, _, _, hzl, hg⟩ := DataW.trod_struct Tryz.underlying40 f4
    have hz : ∀ i, i < 5 → ∃ y, zs[i]? = some y := fun i hi => ⟨_, List.getElem?_eq_getElem (by rw [hzl]; exact hi)⟩
    obtain ⟨z0, u0⟩ := hz 0 (by decide)
    obtain ⟨z1, u1⟩ := hz 1 (by decide)
    obtain ⟨z2, u2⟩ := hz 2 (by decide)
    obtain ⟨z3, u3⟩ := hz 3 (by decide)
    obtain ⟨z4, u4⟩ := hz 4 (by decide)
    have g0 : DataW.trod enc Tryz.prog W 0 spare held n' 3 (([c4, c5, c6, c7, c8].drop 0).take (Tryz.prog.cellsOf 3)) = some z0 := (hg 0 _ rfl).trans u0
    have g1 : DataW.trod enc Tryz.prog W 0 spare held n' 3 (([c4, c5, c6, c7, c8].drop 1).take (Tryz.prog.cellsOf 3)) = some z1 := (hg 1 _ rfl).trans u1
    have g2 : DataW.trod enc Tryz.prog W 0 spare held n' 3 (([c4, c5, c6, c7, c8].drop 2).take (Tryz.prog.cellsOf 3)) = some z2 := (hg 2 _ rfl).trans u2
    have g3 : DataW.trod enc Tryz.prog W 0 spare held n' 3 (([c4, c5, c6, c7, c8].drop 3).take (Tryz.prog.cellsOf 3)) = some z3 := (hg 3 _ rfl).trans u3
    have g4 : DataW.trod enc Tryz.prog W 0 spare held n' 3 (([c4, c5, c6, c7, c8].drop 4).take (Tryz.prog.cellsOf 3)) = some z4 := (hg 4 _ rfl).trans u4
    rw [k1] at g0 g1 g2 g3 g4
    simp only [List.drop_zero, List.drop_succ_cons, List.take_succ_cons, List.take_zero] at g0 g1 g2 g3 g4
    obtain ⟨m0, v0, _⟩ := DataW.trod_int Tryz.underlying3 g0
    obtain ⟨m1, v1, _⟩ := DataW.trod_int Tryz.underlying3 g1
    obtain ⟨m2, v2, _⟩ := DataW.trod_int Tryz.underlying3 g2
    obtain ⟨m3, v3, _⟩ := DataW.trod_int Tryz.underlying3 g3
    obtain ⟨m4, v4, _⟩ := DataW.trod_int Tryz.underlying3 g4
    refine ⟨⟨d, bl p, bl t, l, ⟨m0, m1, m2, m3, m4⟩⟩, dv, ?_, hrd⟩
    simp only [List.cons.injEq, and_true] at q0 q1 q2 q3 v0 v1 v2 v3 v4
    subst q0 q1 q2 q3 v0 v1 v2 v3 v4
    simp [actCells, mkS_bl]

theorem choose_acts {m : Nat} {p : Nat → Act17 → Value → Prop} (h : ∀ i, i < m → ∃ a v, p i a v) : ∃ l : List Act17, l.length = m ∧ ∀ i (hi : i < l.length), ∃ v, p i l[i] v := by
  induction m with
  | zero => exact ⟨[], rfl, fun i hi => by simp at hi⟩
  | succ m ih =>
    obtain ⟨l, h1, h2⟩ := ih (fun i hi => h i (by omega))
    obtain ⟨a, v, hav⟩ := h m (by omega)
    refine ⟨l ++ [a], by simp [h1], fun i hi => ?_⟩
    by_cases hl : i < l.length
    · rw [List.getElem_append_left hl]
      exact h2 i hl
    · have : i = l.length := by simp at hi; omega
      subst this
      rw [List.getElem_append_right (Nat.le_refl _)]
      simp only [Nat.sub_self, List.getElem_cons_zero]
      exact ⟨v, by rw [h1]; exact hav⟩

set_option maxRecDepth 100000 in
theorem open_acts {v : Value} {d : DataW H} {ps : List MemPlace} {r : Reach} {b0 : Nat} (hv : Value.okWide Tryz.prog W r b0 22 v) (h : DataW.Trod enc Tryz.prog W 0 spare held 22 v d ps) : ∃ l, Acts W v l := by
  obtain ⟨fuel, hf⟩ := h
  rcases open_slice Tryz.underlying22 hf with ⟨e, _⟩ | ⟨a, len, cap, m, n, D, Pl, e, _, h1, h2, hm, _, hel⟩
  · obtain ⟨A', n', c', rfl⟩ := okWide_slice Tryz.underlying22 hv
    have e2 : [Value.slice A' n' c'] = [Value.slice none 0 0] := e
    simp only [List.cons.injEq, Value.slice.injEq, and_true] at e2
    obtain ⟨rfl, rfl, rfl⟩ := e2
    exact ⟨[], none, 0, rfl, Nat.le_refl _, Nat.zero_le _, fun k hk => by simp at hk⟩
  · obtain ⟨A', n', c', rfl⟩ := okWide_slice Tryz.underlying22 hv
    have e2 : [Value.slice A' n' c'] = [Value.slice (some a) len cap] := e
    simp only [List.cons.injEq, Value.slice.injEq, and_true] at e2
    obtain ⟨rfl, rfl, rfl⟩ := e2
    have hlm : n' ≤ m := by rw [hm]; split <;> omega
    have k9 : Tryz.prog.cellsOf 42 = 9 := by kernel_rfl
    rw [k9] at hel
    have hspot : ∀ i, i < n' → a.spot = none := fun i hi => by
      obtain ⟨cs, hc, ht⟩ := hel 0 (by omega)
      obtain ⟨a', dv, rfl, hrd⟩ := act_of_cells ht
      obtain ⟨_, _, hat⟩ := World.cells?_some hc
      have := World.cell?_spot ((hat 0 (by decide)).trans rfl)
      simpa [Addr.add] using this
    obtain ⟨l, hl1, hl2⟩ := choose_acts (m := n') (p := fun i a' dv => RdB W dv a'.data ∧ ∃ g o, a = ⟨g, o, none⟩ ∧ ∀ j, j < 9 → W.cell? ⟨g, o + i * 9 + j, none⟩ = (actCells a' dv)[j]?) (fun i hi => by
      obtain ⟨cs, hc, ht⟩ := hel i (by omega)
      obtain ⟨a', dv, rfl, hrd⟩ := act_of_cells ht
      obtain ⟨_, _, hat⟩ := World.cells?_some hc
      refine ⟨a', dv, hrd, ?_⟩
      obtain ⟨g, o, s⟩ := a
      have hs : s = none := hspot i hi
      subst hs
      refine ⟨g, o, rfl, fun j hj => ?_⟩
      have := hat j hj
      rw [add_plain, add_plain] at this
      exact this)
    refine ⟨l, some a, c', by rw [hl1], by omega, h2, fun k hk => ?_⟩
    obtain ⟨dv, hrd, g, o, rfl, hc⟩ := hl2 k hk
    exact ⟨g, o, dv, rfl, hrd, hc⟩

set_option maxRecDepth 100000 in
theorem open_act {v : Value} {d : DataW H} {ps : List MemPlace} {r : Reach} {b0 : Nat} (hv : Value.okWide Tryz.prog W r b0 42 v) (h : DataW.Trod enc Tryz.prog W 0 spare held 42 v d ps) : ∃ a dv, v = actV a dv ∧ RdB W dv a.data := by
  obtain ⟨cs, rfl, hsz⟩ := okWide_struct Tryz.underlying42 hv
  obtain ⟨fuel, hf⟩ := h
  have hf' : DataW.trod enc Tryz.prog W 0 spare held fuel 42 cs.toList = some (d, ps) := hf
  obtain ⟨a, dv, e, hrd⟩ := act_of_cells hf'
  refine ⟨a, dv, ?_, hrd⟩
  unfold actV
  rw [← e]

end

end Go.Proofs.YtemdinjiplglgaaGreat

namespace Go.Proofs.YtemdinjiplglgaaGreat
open Go.RowKit

def ErrKeeps (T : Fs) (r : Fs × Int) : Prop := r.2 ≠ 0 → r.1 = T
theorem err_same (T : Fs) (e : Int) : ErrKeeps T (T, e) := fun _ => rfl
theorem err_ok (T T' : Fs) : ErrKeeps T (T', 0) := fun h => absurd rfl h

/-- ALL OR NOTHING, the plain law. -/
theorem act_err (T : Fs) (a : Act17) : ErrKeeps T (T.act a) := by
  have g1 : ∀ s m, ErrKeeps T (T.mkdir s m) := fun s m => by unfold Fs.mkdir; (repeat' split); all_goals first | exact err_same T _ | exact err_ok T _
  have g2 : ∀ s b m, ErrKeeps T (T.write s b m) := fun s b m => by unfold Fs.write; (repeat' split); all_goals first | exact err_same T _ | exact err_ok T _
  have g3 : ∀ s t m, ErrKeeps T (T.symlink s t m) := fun s t m => by unfold Fs.symlink; (repeat' split); all_goals first | exact err_same T _ | exact err_ok T _
  have g4 : ∀ o p, ErrKeeps T (T.link o p) := fun o p => by unfold Fs.link; (repeat' split); all_goals first | exact err_same T _ | exact err_ok T _
  have g5 : ∀ s, ErrKeeps T (T.remove s) := fun s => by unfold Fs.remove; (repeat' split); all_goals first | exact err_same T _ | exact err_ok T _
  have g6 : ∀ o p, ErrKeeps T (T.rename o p) := fun o p => by unfold Fs.rename Fs.ren2 Fs.ren3; (repeat' split); all_goals first | exact err_same T _ | exact err_ok T _
  have g7 : ∀ s m, ErrKeeps T (T.setM s m) := fun s m => by unfold Fs.setM; (repeat' split); all_goals first | exact err_same T _ | exact err_ok T _
  have g8 : ∀ s b, ErrKeeps T (T.append s b) := fun s b => by unfold Fs.append; (repeat' split); all_goals first | exact err_same T _ | exact err_ok T _
  unfold Fs.act
  repeat' split
  all_goals first | exact g1 _ _ | exact g2 _ _ _ | exact g3 _ _ _ | exact g4 _ _ | exact g5 _ | exact g6 _ _ | exact g7 _ _ | exact g8 _ _ | exact err_same T _

/-- A tree apart from another one stays where the other one turns. -/
theorem Rep.beside {w w' : World} {tb ub : Nat} {A M B N : Nat → Nat} {T U : Fs} (hU : Rep w ub B N U) (hT : Rep w tb A M T) (hd : ∀ b, Own ub B N U b → ¬ Own tb A M T b) (ht : Turn w w' (Own tb A M T)) : Rep w' ub B N U :=
  hU.kept (fun b hb => ht.block b (hU.lt hb) (hd b hb)) (fun g ⟨cs, hg⟩ => ht.block g (Array.getElem?_eq_some_iff.1 hg).1 (hT.not_own hg (by decide) (by decide)))

/-- .. and so do both, apart still. -/
theorem Stp.two {w w' : World} {tb ub : Nat} {A M B N : Nat → Nat} {T T' U : Fs} (hU : Rep w ub B N U) (hT : Rep w tb A M T) (hd : ∀ b, Own ub B N U b → ¬ Own tb A M T b) (hs : Stp w w' tb A M T T') :
    Rep w' ub B N U ∧ ∃ A' M', Rep w' tb A' M' T' ∧ (∀ b, Own ub B N U b → ¬ Own tb A' M' T' b) ∧ ∀ b, Own tb A' M' T' b → Own tb A M T b ∨ w.heap.size ≤ b := by
  obtain ⟨A', M', h1, h2, h3⟩ := hs
  refine ⟨hU.beside hT hd h2, A', M', h1, fun b hb hb2 => ?_, h3⟩
  rcases h3 b hb2 with h | h
  · exact hd b hb h
  · have := hU.lt hb
    omega

theorem small_not {l : List Act17} (h : small l ≠ true) : small l = false := by
  cases hs : small l with
  | true => exact absurd hs h
  | false => rfl

/-- An act in a block of its own, as a list. -/
theorem acts_one (w : World) (a : Act17) (dv : Value) (C : Array Value) (hC : C.toList = actCells a dv) (hv : RdB w dv a.data) : Acts (w.alloc (.cells C 42)) (.slice (some ⟨w.heap.size, 0, none⟩) 1 1) [a] := by
  refine ⟨_, 1, rfl, Nat.le_refl _, by simp [maxLen], fun k hk => ?_⟩
  have : k = 0 := by simp at hk; omega
  subst this
  refine ⟨_, 0, dv, rfl, hv.below ((Below.refl _ _).alloc (Nat.le_refl _) _), fun j hj => ?_⟩
  have h := (MapKept.heap_alloc w (.cells C 42)).1
  have h2 : C[j]? = (actCells a dv)[j]? := by rw [← hC, Array.getElem?_toList]
  simp only [World.cell?, h, Nat.zero_mul, Nat.zero_add, h2]
  rfl

end Go.Proofs.YtemdinjiplglgaaGreat

namespace Go.Proofs.YtemdinjiplglgaaGreat
open Go.RowKit

/-- The worlds in which nothing of w's has turned. -/
def Gr (w : World) : Type := { W : World // Below w.heap.size w W }
instance (w : World) : Nonempty (Gr w) := ⟨⟨w, Below.refl _ _⟩⟩

theorem wp_region_grow {P : Program} {id : Nat} {Q : Exit → Act → World → Prop} {a : Act} {w : World} {l : List Oper} (hm : P.follows .mixedOrders = true) (hB : Region.lexB .any l.toArray = true)
    (h : wpQuiet P l.toArray (fun W => ∃ x : Gr w, W = x.1) (fun a' => ∀ W, (∃ x : Gr w, W = x.1) → Q .normal a' W) l a) : (Code.region id l.toArray true).wp P Q a w :=
  wp_region_quiet (C := fun W => ∃ x : Gr w, W = x.1) hm hB ⟨⟨w.drew, below_drewN (Below.refl _ _) 1⟩, rfl⟩ (by simpa using h)

/-- A callee's contract, met in such a world. -/
theorem grow_of {P : Program} {f : FuncId} {args : Array Value} {w : World} {v : Value} (x : Gr w) (h : Calls P f args x.1 fun e w' => e = .returned v ∧ Below x.1.heap.size x.1 w') :
    Calls P f args x.1 fun e w'' => e = .returned v ∧ ∃ y : Gr w, w'' = y.1 :=
  h.mono fun _ w' ⟨he, hb⟩ => ⟨he, ⟨w', x.2.trans (hb.mono x.2.size)⟩, rfl⟩

theorem Gr.cell {w : World} {a : Addr} {v : Value} (h : w.cell? a = some v) (x : Gr w) : x.1.cell? a = some v := by
  rw [← h]
  refine x.2.cell (p := a) ?_
  rcases Nat.lt_or_ge a.block w.heap.size with h1 | h1
  · exact h1
  · simp [World.cell?, Array.getElem?_eq_none h1] at h

end Go.Proofs.YtemdinjiplglgaaGreat

namespace Go.Proofs.YtemdinjiplglgaaGreat

section
variable {T : Fs}

theorem split_ne_nil {s : Bytes} (h : s ≠ []) : split s ≠ [] := fun e => h (split_eq_nil e)

theorem look_name (hI : T.Inv) {s : Bytes} {i : Nat} (hr : right s = true) (hm : (split s, i) ∈ T.names) : (T.look s).1 = some i ∧ (T.look s).2.2 = 0 := by
  unfold Fs.look
  rw [if_pos hr]
  by_cases hs : s = []
  · subst hs
    rw [if_pos rfl]
    exact ⟨by rw [hI.at_one hm hI.one], rfl⟩
  · rw [if_neg hs]
    obtain ⟨d, hd, hk⟩ := hI.up _ _ hm (split_ne_nil hs)
    rw [hI.at_some.2 hd]
    dsimp only
    rw [if_pos hk]
    exact ⟨hI.at_some.2 hm, rfl⟩

theorem there_name (hI : T.Inv) {s : Bytes} {i : Nat} (hr : right s = true) (hm : (split s, i) ∈ T.names) : (T.there s).1 = some i ∧ (T.there s).2.2 = 0 := by
  obtain ⟨h1, h2⟩ := look_name hI hr hm
  unfold Fs.there
  exact ⟨h1, by dsimp only; rw [if_neg (fun h => by rw [h1] at h; cases h.2), h2]⟩

theorem there_zero (hI : T.Inv) {s : Bytes} (h : (T.there s).2.2 = 0) : right s = true ∧ ∃ i, (T.there s).1 = some i ∧ (split s, i) ∈ T.names := by
  obtain ⟨h1, i, h2, h3, _⟩ := hI.there_ok h
  exact ⟨h1, i, h2, h3⟩

theorem stat_name (hI : T.Inv) {s : Bytes} {i : Nat} (hr : right s = true) (hm : (split s, i) ∈ T.names) : T.stat s = (T.tell (split s) i, 0) := by
  obtain ⟨h1, h2⟩ := there_name hI hr hm
  unfold Fs.stat
  rw [if_pos h2, h1]

theorem stat_zero (hI : T.Inv) {s : Bytes} (h : (T.stat s).2 = 0) : right s = true ∧ ∃ i, (split s, i) ∈ T.names ∧ T.stat s = (T.tell (split s) i, 0) := by
  have hz : (T.there s).2.2 = 0 := by
    unfold Fs.stat at h
    by_cases hz : (T.there s).2.2 = 0
    · exact hz
    · rw [if_neg hz] at h
      exact h
  obtain ⟨h1, i, _, h3⟩ := there_zero hI hz
  exact ⟨h1, i, h3, stat_name hI h1 h3⟩

theorem stat_none (hI : T.Inv) {s : Bytes} (h : ∀ i, (split s, i) ∉ T.names) : (T.stat s).2 ≠ 0 := fun h0 => by
  obtain ⟨_, i, hi, _⟩ := stat_zero hI h0
  exact h i hi

/-- What is missing right in a directory. -/
theorem stat_missing (hI : T.Inv) {s : Bytes} (hr : right s = true) (hs : s ≠ []) {d : Nat} (hd : ((split s).dropLast, d) ∈ T.names) (hk : (T.nd d).kind = 2) (h : T.at (split s) = none) : T.stat s = (noSt, 10) := by
  have hl : T.look s = (none, some d, 0) := by
    unfold Fs.look
    rw [if_pos hr, if_neg hs, hI.at_some.2 hd]
    dsimp only
    rw [if_pos hk, h]
  have ht : (T.there s).2.2 = 10 := by
    unfold Fs.there
    rw [hl]
    rfl
  unfold Fs.stat
  rw [if_neg (by rw [ht]; decide), ht]

theorem read_name (hI : T.Inv) {s : Bytes} {i : Nat} (hr : right s = true) (hm : (split s, i) ∈ T.names) (hk : (T.nd i).kind = 1) : T.read s = ((T.nd i).data, 0) := by
  obtain ⟨h1, h2⟩ := there_name hI hr hm
  have hf : T.file s = (some i, 0) := by
    unfold Fs.file
    rw [if_pos h2, h1]
    dsimp only
    unfold notFile
    rw [if_neg (by rw [hk]; decide), if_neg (by rw [hk]; decide)]
  unfold Fs.read
  rw [hf, if_pos rfl]

theorem file_name (hI : T.Inv) {s : Bytes} {i : Nat} (hr : right s = true) (hm : (split s, i) ∈ T.names) (hk : (T.nd i).kind = 1) : T.file s = (some i, 0) := by
  obtain ⟨h1, h2⟩ := there_name hI hr hm
  unfold Fs.file
  rw [if_pos h2, h1]
  dsimp only
  unfold notFile
  rw [if_neg (by rw [hk]; decide), if_neg (by rw [hk]; decide)]

/-- A name as a text. -/
theorem Pth.text {p : Pt} (h : Pth p) : right (glue p) = true ∧ split (glue p) = p := by
  obtain ⟨s, h1, rfl⟩ := h
  rw [glue_split]
  exact ⟨h1, rfl⟩
theorem glue_ne {p : Pt} (h : Pth p) (hp : p ≠ []) : glue p ≠ [] := fun e => by
  have := h.text.2
  rw [e] at this
  exact hp this.symm

theorem mem_paths (hI : T.Inv) {s : Bytes} : s ∈ T.paths ↔ right s = true ∧ s ≠ [] ∧ ∃ i, (split s, i) ∈ T.names := by
  unfold Fs.paths
  rw [(sortP_perm _).mem_iff, List.mem_map]
  constructor
  · rintro ⟨⟨t, j⟩, hm, rfl⟩
    obtain ⟨h1, h2⟩ := mem_below.1 hm
    rw [List.nil_append] at h2
    have hP := hI.pth _ _ h2
    obtain ⟨h3, h4⟩ := hP.text
    exact ⟨h3, glue_ne hP h1, j, by rw [h4]; exact h2⟩
  · rintro ⟨h1, h2, i, hi⟩
    exact ⟨(split s, i), mem_below.2 ⟨split_ne_nil h2, by simpa using hi⟩, glue_split s⟩

theorem paths_len (T : Fs) : T.paths.length = (T.below []).length := by
  unfold Fs.paths
  rw [(sortP_perm _).length_eq, List.length_map]

theorem below_glue_nodup (hI : T.Inv) : ((T.below []).map fun y => glue y.1).Nodup := by
  have hnd := hI.nodup
  have h := below_nodup hI []
  rw [List.Nodup, List.pairwise_map]
  refine List.Pairwise.imp_of_mem ?_ h
  rintro ⟨a, i⟩ ⟨b, j⟩ ha hb hne e
  obtain ⟨_, h1⟩ := mem_below.1 ha
  obtain ⟨_, h2⟩ := mem_below.1 hb
  rw [List.nil_append] at h1 h2
  have e1 := (hI.pth _ _ h1).text.2
  have e2 := (hI.pth _ _ h2).text.2
  dsimp only at e
  rw [e, e2] at e1
  subst e1
  exact hne (by rw [hI.at_one h1 h2])

theorem paths_nodup (hI : T.Inv) : T.paths.Nodup := (sortP_perm _).nodup_iff.2 (below_glue_nodup hI)

/-- All rising. -/
theorem paths_rising (hI : T.Inv) : T.paths.Pairwise (fun a b => lessP a b = true) := by
  have h1 : Sorted T.paths := sortP_sorted _
  have h2 := paths_nodup hI
  have h3 : T.paths.Pairwise (fun a b => leP a b ∧ a ≠ b) := List.Pairwise.and h1 h2
  refine h3.imp ?_
  rintro a b ⟨h, hne⟩
  unfold lessP
  unfold leP at h
  rw [decide_eq_true_eq]
  rcases Int.lt_or_eq_of_le h with h | h
  · exact h
  · exact absurd (cmpP_eq h) hne

/-- Counting over the paths is counting over the names. -/
theorem paths_count (f : Bytes → Bool) : (T.paths.filter f).length = ((T.below []).filter fun y => f (glue y.1)).length := by
  have := ((sortP_perm ((T.below []).map fun y => glue y.1)).filter f).length_eq
  unfold Fs.paths
  rw [this, List.filter_map, List.length_map]
  rfl

theorem below_top_map (hI : T.Inv) : ∃ r, T.names = ([], 1) :: r ∧ T.below [] = r := by
  obtain ⟨r, e⟩ := hI.top
  refine ⟨r, e, ?_⟩
  have hnd := hI.nodup
  rw [e, List.map_cons] at hnd
  have hr : ∀ x ∈ r, x.1 ≠ [] := fun x hx h => (List.nodup_cons.1 hnd).1 (List.mem_map.2 ⟨x, hx, h⟩)
  unfold Fs.below
  rw [e, List.filterMap_cons]
  have h0 : (if ([] : Pt).isPrefixOf ([] : Pt) = true ∧ ([] : Pt) ≠ [] then some (([] : Pt).drop ([] : Pt).length, 1) else none : Option (Pt × Nat)) = none := if_neg (fun h => h.2 rfl)
  simp only [h0]
  clear e hnd h0
  induction r with
  | nil => rfl
  | cons a l ih =>
    have ha := hr a (List.mem_cons_self ..)
    rw [List.filterMap_cons]
    have : (if ([] : Pt).isPrefixOf a.1 = true ∧ a.1 ≠ [] then some (a.1.drop ([] : Pt).length, a.2) else none : Option (Pt × Nat)) = some a := by
      rw [if_pos ⟨by simp, ha⟩]
      simp
    rw [this]
    dsimp only
    rw [ih (fun x hx => hr x (List.mem_cons_of_mem _ hx))]

/-- How many names stand right in a directory, counted by their parents. -/
theorem count_kids (hI : T.Inv) (p : Pt) : ((T.below []).filter fun y => decide (y.1.dropLast = p)).length = (T.kids p).length := by
  obtain ⟨r, e, hb⟩ := below_top_map hI
  rw [hb]
  have hnd := hI.nodup
  rw [e, List.map_cons] at hnd
  have hr : ∀ x ∈ r, x.1 ≠ [] := fun x hx h => (List.nodup_cons.1 hnd).1 (List.mem_map.2 ⟨x, hx, h⟩)
  have hk : T.kids p = kidsL r p := by
    unfold Fs.kids
    rw [e]
    show kidsL ([([], 1)] ++ r) p = _
    rw [kidsL_append]
    simp [kidsL, kidOf]
  rw [hk]
  clear e hb hnd hk
  unfold kidsL
  induction r with
  | nil => rfl
  | cons a l ih =>
    have ha := hr a (List.mem_cons_self ..)
    have ih := ih (fun x hx => hr x (List.mem_cons_of_mem _ hx))
    rw [List.filter_cons, List.filterMap_cons]
    unfold kidOf at ih ⊢
    by_cases hc : a.1.dropLast = p
    · simp only [hc, decide_true, if_true, ha, ne_eq, not_false_eq_true, and_self, List.length_cons]
      rw [ih]
    · simp only [hc, decide_false, and_false, if_false, Bool.false_eq_true]
      exact ih

/-- How many names a thing has, the top's aside. -/
theorem count_names (hI : T.Inv) {i : Nat} (hi : i ≠ 1) : ((T.below []).filter fun y => decide (y.2 = i)).length = namesOf T.names i := by
  obtain ⟨r, e, hb⟩ := below_top_map hI
  rw [hb, e]
  unfold namesOf
  rw [List.filter_cons]
  simp [Ne.symm hi]

end

end Go.Proofs.YtemdinjiplglgaaGreat

namespace Go.Proofs.YtemdinjiplglgaaGreat
open Go.RowKit

theorem run_append_zero (w : World) (t e ty : TypeId) (i : TypeInfo) (ht : Tryz.prog.underlying t = some (.slice e)) (hi : Tryz.prog.info? e = some i) (A A' : Option Addr) (n c1 c : Nat) (hn : n ≤ c1) :
    (Builtin.append_ #[t, t] ty #[.slice A n c1, .slice A' 0 c]).run Tryz.prog w = .ok (.slice A n c1) w := by
  cases A <;> cases A' <;> simp [Builtin.append_, run_underlying ht, sizeOf, typeInfo, hi, Builtin.lenOf, Builtin.firstCells, storeCells, loadCells, loadCellsFrom, Result.andThen, hn]

theorem own_base {w : World} {base : Nat} {e : TypeId} {size n : Nat} {v : Value} {xs : List Value} (h : w.ownsRow base e size v n xs) : ∀ k, v.ownBlock = some k → base ≤ k := fun k hk => by
  obtain ⟨h1, ⟨rfl, h⟩ | ⟨g', cap, cur, rfl, hb, hh, r⟩⟩ := h
  · cases hk
  · cases hk
    exact hb

/-- What a slice is that is put behind a row: m elements, whose cells are news. -/
def Src (w : World) (sv : Value) (size m : Nat) (news : List Value) : Prop :=
  (m = 0 ∧ news = [] ∧ ∃ A c, sv = .slice A 0 c) ∨ ∃ ad c, sv = .slice (some ad) m c ∧ news.length = m * size ∧ ∀ j u, news[j]? = some u → w.cell? (ad.add j) = some u

theorem wp_append_any {ops : Array Oper} {rest : List Oper} {o : Oper} {a : Act} {Q : Exit → Act → World → Prop} {w : World} (base : Nat) (hgd : o.guard = none) (s x : Operand) (t e : TypeId)
    (ho : o.op = .call { callee := .builtin .append, args := #[s, x], argTypes := #[t, t] }) (ht : Tryz.prog.underlying t = some (.slice e)) (z : Value) (size bytes : Nat)
    (hinfo : (Tryz.prog.info? e).map (fun i => (i.zero, i.size, i.bytes)) = some (some z, size, bytes)) (hz : z.cells.size = size) (hsz : 0 < size) (v : Value) (n : Nat) (xs : List Value) (hs : a.eval s = v)
    (sv : Value) (m : Nat) (news : List Value) (hx : a.eval x = sv) (hsv : Src w sv size m news) (hown : w.ownsRow base e size v n xs) (h1 : ∀ u ∈ news, u.oneCell' = true) (h63 : n + m ≤ maxLen) (hb : (n + m) * bytes ≤ 140737488355328) (hbase : base ≤ w.heap.size)
    (h : ∀ v1 w1, w1.ownsRow base e size v1 (n + m) (xs ++ news) → w.grownBy w1 v.ownBlock → (v1.ownBlock = v.ownBlock ∨ v1.ownBlock = some w.heap.size) → wpList Tryz.prog ops Q rest (a.put o.dst v1) w1) :
    wpList Tryz.prog ops Q (o :: rest) a w := by
  obtain ⟨i0, hi, hzz⟩ := Option.map_eq_some_iff.1 hinfo
  simp only [Prod.mk.injEq] at hzz
  obtain ⟨hz0, hz1, hz2⟩ := hzz
  rcases hsv with ⟨rfl, rfl, A, c, rfl⟩ | ⟨ad, c, rfl, hl, hn⟩
  · obtain ⟨A0, c0, rfl, hc0, _⟩ := own_shape hown
    refine wpList_plain hgd fun K hK => ?_
    have hr := run_append_zero w t e o.type i0 ht hi A0 A n c0 c hc0
    unfold Oper.wp execOp
    simp only [ho, resolve, invoke, builtin, Sem.run_bind, Sem.run_pure, Result.andThen_ok, List.map_toArray, List.map_cons, List.map_nil, hs, hx, hr]
    refine hK _ _ (h _ _ ?_ ⟨rfl, rfl, rfl, Nat.le_refl _, fun _ _ _ => rfl⟩ (Or.inl rfl))
    rw [List.append_nil]
    exact hown
  · refine wpList_append_own_at w hgd s x t ho base e i0 z size bytes ht hi hz0 hz1 hz2 hz hsz v n xs hs hown ad m c news hx hl hn h1 h63 hb hbase ?_
    intro v1 w1 g1 g2 _ g3
    exact h v1 w1 g1 g2 g3

end Go.Proofs.YtemdinjiplglgaaGreat

namespace Go.Proofs.YtemdinjiplglgaaGreat
open Go.RowKit

theorem quiet_eq {P : Program} {f : FuncId} {args : Array Value} {w : World} {n : Nat} {v : Value}
    (h : Calls P f args (w.drewN n) fun e w' => e = .returned v ∧ w.drewN n = w') : Calls P f args (w.drewN n) fun e w'' => e = .returned v ∧ ∃ m, w'' = w.drewN m :=
  h.mono fun _ _ ⟨he, hm⟩ => ⟨he, n, hm.symm⟩
theorem grow_eq {P : Program} {f : FuncId} {args : Array Value} {w : World} {v : Value} (x : Gr w) (h : Calls P f args x.1 fun e w' => e = .returned v ∧ x.1 = w') :
    Calls P f args x.1 fun e w'' => e = .returned v ∧ ∃ y : Gr w, w'' = y.1 := h.mono fun _ _ ⟨he, hm⟩ => ⟨he, x, hm.symm⟩
theorem strs_diff {a b : ByteArray} (h : a ≠ b) : (a.toList == b.toList) = false := by rw [str_eq]; simpa using h
theorem strs_alike {a b : ByteArray} (h : a = b) : (a.toList == b.toList) = true := by rw [str_eq]; simpa using h

end Go.Proofs.YtemdinjiplglgaaGreat

namespace Go.Proofs.YtemdinjiplglgaaGreat
open Go.RowKit

def rrow (A : Nat → Nat) (l : List (Pt × Nat)) : List Value := l.flatMap fun x => [.string (mkS (glue x.1)), ptr (A x.2)]
def rnode (n : Nd) (i : Nat) (dv : Value) : Array Value :=
  #[.int .i64 n.kind, .int .i64 i, dv, .string (mkS n.target), .int .i64 n.mt.mode, .int .i64 n.mt.sec, .int .i64 n.mt.nano, .int .i64 n.mt.uid, .int .i64 n.mt.gid]

theorem rrow_length (A : Nat → Nat) : ∀ l : List (Pt × Nat), (rrow A l).length = l.length * 2
  | [] => rfl
  | x :: l => by
    have := rrow_length A l
    simp only [rrow, List.flatMap_cons, List.length_append, List.length_cons, List.length_nil] at this ⊢
    omega
theorem rrow_append (A : Nat → Nat) (l r : List (Pt × Nat)) : rrow A (l ++ r) = rrow A l ++ rrow A r := by simp [rrow]
theorem rrow_at (A : Nat → Nat) : ∀ (l : List (Pt × Nat)) (k : Nat) (x : Pt × Nat), l[k]? = some x → (rrow A l)[k * 2]? = some (.string (mkS (glue x.1))) ∧ (rrow A l)[k * 2 + 1]? = some (ptr (A x.2))
  | [], k, x, h => by simp at h
  | y :: l, 0, x, h => by
    simp only [List.getElem?_cons_zero, Option.some.injEq] at h
    subst h
    exact ⟨rfl, rfl⟩
  | y :: l, k + 1, x, h => by
    simp only [List.getElem?_cons_succ] at h
    obtain ⟨h1, h2⟩ := rrow_at A l k x h
    have e : rrow A (y :: l) = [.string (mkS (glue y.1)), ptr (A y.2)] ++ rrow A l := rfl
    rw [e, List.getElem?_append_right (by simp; omega), List.getElem?_append_right (by simp; omega)]
    rw [show (k + 1) * 2 - [Value.string (mkS (glue y.1)), ptr (A y.2)].length = k * 2 by simp; omega, show (k + 1) * 2 + 1 - [Value.string (mkS (glue y.1)), ptr (A y.2)].length = k * 2 + 1 by simp; omega]
    exact ⟨h1, h2⟩
theorem rrow_congr {A A' : Nat → Nat} : ∀ {l : List (Pt × Nat)}, (∀ x ∈ l, A' x.2 = A x.2) → rrow A' l = rrow A l
  | [], _ => rfl
  | x :: l, h => by
    have ih := rrow_congr (A := A) (A' := A') (l := l) fun y hy => h y (List.mem_cons_of_mem _ hy)
    have e1 : rrow A' (x :: l) = [.string (mkS (glue x.1)), ptr (A' x.2)] ++ rrow A' l := rfl
    have e2 : rrow A (x :: l) = [.string (mkS (glue x.1)), ptr (A x.2)] ++ rrow A l := rfl
    rw [e1, e2, ih, h x (List.mem_cons_self ..)]

/-- Block rb of w is the reference's tree T: its names' row is v, its thing i lies in block A i. -/
structure RRep (w : World) (rb : Nat) (v : Value) (A : Nat → Nat) (T : Fs) : Prop where
  inv : T.Inv
  tree : w.heap[rb]? = some (.cells #[v, .int .i64 T.next] 85 (0, 0))
  row : w.ownsRow 0 82 2 v T.names.length (rrow A T.names)
  node : ∀ i, T.Live i → ∃ dv, Dat w dv (T.nd i).data ∧ w.heap[A i]? = some (.cells (rnode (T.nd i) i dv) 80 (0, 0))
  injA : ∀ i j, T.Live i → T.Live j → A i = A j → i = j

/-- The blocks that its calls may write. -/
def ROwn (rb : Nat) (v : Value) (A : Nat → Nat) (T : Fs) (b : Nat) : Prop := b = rb ∨ v.ownBlock = some b ∨ ∃ i, T.Live i ∧ b = A i

theorem own_blocks {w w' : World} {base : Nat} {e : TypeId} {size n : Nat} {v : Value} {xs : List Value} (h : w.ownsRow base e size v n xs) (hk : ∀ g, v.ownBlock = some g → w'.heap[g]? = w.heap[g]?) : w'.ownsRow base e size v n xs := by
  obtain ⟨h1, h | ⟨g, cap, cur, rfl, hb, hh, r⟩⟩ := h
  · exact ⟨h1, Or.inl h⟩
  · exact ⟨h1, Or.inr ⟨g, cap, cur, rfl, hb, (hk g rfl).trans hh, r⟩⟩
theorem own_cells {w : World} {base : Nat} {e : TypeId} {size n : Nat} {v : Value} {xs : List Value} (h : w.ownsRow base e size v n xs) {g : Nat} (hg : v.ownBlock = some g) : base ≤ g ∧ ∃ cur, w.heap[g]? = some (.cells cur e (0, 0)) := by
  obtain ⟨h1, ⟨rfl, h⟩ | ⟨g', cap, cur, rfl, hb, hh, r⟩⟩ := h
  · cases hg
  · cases hg
    exact ⟨hb, cur, hh⟩

section
variable {w w' : World} {rb : Nat} {v : Value} {A : Nat → Nat} {T : Fs}

theorem RRep.kept (h : RRep w rb v A T) (hk : ∀ b, ROwn rb v A T b → w'.heap[b]? = w.heap[b]?)
    (hb : ∀ i, T.Live i → ∀ dv, Dat w dv (T.nd i).data → w.heap[A i]? = some (.cells (rnode (T.nd i) i dv) 80 (0, 0)) → Dat w' dv (T.nd i).data) : RRep w' rb v A T := by
  refine ⟨h.inv, (hk rb (Or.inl rfl)).trans h.tree, own_blocks h.row fun g hg => hk g (Or.inr (Or.inl hg)), fun i hi => ?_, h.injA⟩
  obtain ⟨dv, h1, h2⟩ := h.node i hi
  exact ⟨dv, hb i hi dv h1 h2, (hk _ (Or.inr (Or.inr ⟨i, hi, rfl⟩))).trans h2⟩

theorem RRep.lt (h : RRep w rb v A T) {b : Nat} (hb : ROwn rb v A T b) : b < w.heap.size := by
  rcases hb with rfl | hb | ⟨i, hi, rfl⟩
  · exact (Array.getElem?_eq_some_iff.1 h.tree).1
  · obtain ⟨_, cur, hc⟩ := own_cells h.row hb
    exact (Array.getElem?_eq_some_iff.1 hc).1
  · obtain ⟨dv, _, h2⟩ := h.node i hi
    exact (Array.getElem?_eq_some_iff.1 h2).1

theorem RRep.below (h : RRep w rb v A T) (hb : Below w.heap.size w w') : RRep w' rb v A T :=
  h.kept (fun b ho => hb.block b (h.lt ho)) (fun _ _ _ hd _ => hd.kept fun g ⟨_, hc⟩ => hb.block g (Array.getElem?_eq_some_iff.1 hc).1)

theorem RRep.drewN (h : RRep w rb v A T) (n : Nat) : RRep (w.drewN n) rb v A T := h.below (below_drewN (Below.refl _ _) n)

theorem RRep.not_own (h : RRep w rb v A T) {g : Nat} {cs : Array Value} {t : TypeId} {f : Nat × Nat} (hg : w.heap[g]? = some (.cells cs t f)) (h1 : t ≠ 85) (h2 : t ≠ 82) (h3 : t ≠ 80) : ¬ ROwn rb v A T g := by
  rintro (rfl | hv | ⟨i, hi, rfl⟩)
  · rw [h.tree] at hg
    cases hg
    exact h1 rfl
  · obtain ⟨_, cur, hc⟩ := own_cells h.row hv
    rw [hc] at hg
    cases hg
    exact h2 rfl
  · obtain ⟨dv, _, h4⟩ := h.node i hi
    rw [h4] at hg
    cases hg
    exact h3 rfl
theorem RRep.not_map (h : RRep w rb v A T) {g : Nat} {es : Array MapEntry} {c : Nat} (hg : w.heap[g]? = some (.map es c)) : ¬ ROwn rb v A T g := by
  rintro (rfl | hv | ⟨i, hi, rfl⟩)
  · rw [h.tree] at hg
    cases hg
  · obtain ⟨_, cur, hc⟩ := own_cells h.row hv
    rw [hc] at hg
    cases hg
  · obtain ⟨dv, _, h4⟩ := h.node i hi
    rw [h4] at hg
    cases hg

theorem RRep.bytes_kept (hR : RRep w rb v A T) (ht : Turn w w' (ROwn rb v A T)) {g : Nat} (hg : ∃ cs, w.heap[g]? = some (Obj.cells cs 5 (0, 0))) : w'.heap[g]? = w.heap[g]? := by
  obtain ⟨cs, h⟩ := hg
  exact ht.block g (Array.getElem?_eq_some_iff.1 h).1 (hR.not_own h (by decide) (by decide) (by decide))

/-- The row's cells. -/
theorem RRep.at_ (h : RRep w rb v A T) : ∃ g c, v = .slice (some ⟨g, 0, none⟩) T.names.length c ∧ T.names.length ≤ c ∧ c ≤ maxLen ∧ 0 < T.names.length ∧ w.cell? ⟨rb, 0, none⟩ = some (.slice (some ⟨g, 0, none⟩) T.names.length c) ∧
    ∀ k x, T.names[k]? = some x → w.cell? ⟨g, k * 2, none⟩ = some (.string (mkS (glue x.1))) ∧ w.cell? ⟨g, k * 2 + 1, none⟩ = some (ptr (A x.2)) := by
  have hp : 0 < T.names.length := by
    obtain ⟨r, e⟩ := h.inv.top
    rw [e]
    simp
  obtain ⟨g, c, h1, _, h2, h3, _, h4⟩ := own_at h.row hp
  refine ⟨g, c, h1, h2, h3, hp, cell_of (j := 0) h.tree (by rw [← h1]; rfl), fun k x hx => ?_⟩
  obtain ⟨g1, g2⟩ := rrow_at A _ _ _ hx
  exact ⟨h4 _ _ g1, h4 _ _ g2⟩

/-- A thing's cells. -/
theorem RRep.cells (h : RRep w rb v A T) {i : Nat} (hi : T.Live i) :
    ∃ dv, Dat w dv (T.nd i).data ∧ w.cell? ⟨A i, 0, none⟩ = some (.int .i64 (T.nd i).kind) ∧ w.cell? ⟨A i, 1, none⟩ = some (.int .i64 i) ∧ w.cell? ⟨A i, 2, none⟩ = some dv ∧ w.cell? ⟨A i, 3, none⟩ = some (.string (mkS (T.nd i).target)) ∧
      w.cell? ⟨A i, 4, none⟩ = some (.int .i64 (T.nd i).mt.mode) ∧ w.cell? ⟨A i, 5, none⟩ = some (.int .i64 (T.nd i).mt.sec) ∧ w.cell? ⟨A i, 6, none⟩ = some (.int .i64 (T.nd i).mt.nano) ∧ w.cell? ⟨A i, 7, none⟩ = some (.int .i64 (T.nd i).mt.uid) ∧ w.cell? ⟨A i, 8, none⟩ = some (.int .i64 (T.nd i).mt.gid) := by
  obtain ⟨dv, h1, h2⟩ := h.node i hi
  exact ⟨dv, h1, cell_of h2 rfl, cell_of h2 rfl, cell_of h2 rfl, cell_of h2 rfl, cell_of h2 rfl, cell_of h2 rfl, cell_of h2 rfl, cell_of h2 rfl, cell_of h2 rfl⟩
end

/-- .. and where a record of another type is written. -/
theorem RRep.setCell {w : World} {rb : Nat} {v : Value} {A : Nat → Nat} {T : Fs} (h : RRep w rb v A T) {x : Nat} {cs : Array Value} {t : TypeId} {f : Nat × Nat} (hx : w.heap[x]? = some (.cells cs t f)) (h1 : t ≠ 5) (h2 : t ≠ 85) (h3 : t ≠ 82) (h4 : t ≠ 80) (k : Nat) (u : Value) : RRep (w.setCell ⟨x, k, none⟩ u) rb v A T := by
  refine h.kept (fun b hb => heap_set_other w (by rintro rfl; exact h.not_own hx h2 h3 h4 hb) k u) (fun _ _ _ hd _ => hd.kept fun g ⟨cs', hg⟩ => heap_set_other w (fun e => ?_) k u)
  subst e
  rw [hx] at hg
  cases hg
  exact h1 rfl

/-- A call on the reference's tree. -/
def RStp (w w' : World) (rb : Nat) (v : Value) (A : Nat → Nat) (T T' : Fs) : Prop :=
  ∃ v' A', RRep w' rb v' A' T' ∧ Turn w w' (ROwn rb v A T) ∧ ∀ b, ROwn rb v' A' T' b → ROwn rb v A T b ∨ w.heap.size ≤ b

theorem RStp.same {w w' : World} {rb : Nat} {v : Value} {A : Nat → Nat} {T : Fs} (h : RRep w rb v A T) (hb : Below w.heap.size w w') : RStp w w' rb v A T T :=
  ⟨v, A, h.below hb, Turn.of_below hb _, fun _ h => Or.inl h⟩
theorem RStp.after {w w1 w' : World} {rb : Nat} {v : Value} {A : Nat → Nat} {T T' : Fs} (hb : Below w.heap.size w w1) (h : RStp w1 w' rb v A T T') : RStp w w' rb v A T T' := by
  obtain ⟨v', A', h1, h2, h3⟩ := h
  exact ⟨v', A', h1, (Turn.of_below hb _).trans (h2.mono fun i _ hi => Or.inl hi), fun b hb2 => (h3 b hb2).imp id (fun h => Nat.le_trans hb.size h)⟩
theorem RStp.then {w w1 w' : World} {rb : Nat} {v : Value} {A : Nat → Nat} {T T' : Fs} (h : RStp w w1 rb v A T T') (hb : Below w1.heap.size w1 w') : RStp w w' rb v A T T' := by
  obtain ⟨v', A', h1, h2, h3⟩ := h
  exact ⟨v', A', h1.below hb, h2.trans (Turn.of_below hb _), h3⟩
theorem RStp.mine {w wr w' : World} {rb : Nat} {v : Value} {A : Nat → Nat} {T T' : Fs} (hB : Below w.heap.size w wr) (hown : ∀ b, ROwn rb v A T b → w.heap.size ≤ b) (hs : RStp wr w' rb v A T T') : Below w.heap.size w w' ∧ ∃ v' A', RRep w' rb v' A' T' ∧ ∀ b, ROwn rb v' A' T' b → w.heap.size ≤ b := by
  obtain ⟨v', A', h1, h2, h3⟩ := hs
  refine ⟨hB.trans ⟨h2.os, h2.tape, h2.output, h2.size, fun k hk => h2.block k (Nat.lt_of_lt_of_le hk hB.size) (fun h => by have := hown k h; omega)⟩, v', A', h1, fun b hb => ?_⟩
  rcases h3 b hb with h | h
  · exact hown b h
  · exact Nat.le_trans hB.size h

/-- A program's tree beside the reference's: each stays where the other one turns. -/
theorem Rep.besideR {w w' : World} {tb rb : Nat} {A M B : Nat → Nat} {v : Value} {T U : Fs} (hU : Rep w tb A M U) (hT : RRep w rb v B T) (ht : Turn w w' (ROwn rb v B T)) : Rep w' tb A M U := by
  refine hU.kept (fun b hb => ht.block b (hU.lt hb) fun h => ?_) (fun g hg => hT.bytes_kept ht hg)
  rcases hb with rfl | ⟨i, hi, rfl⟩ | ⟨i, ⟨p, hi⟩, hk, rfl⟩
  · exact hT.not_own hU.tree (by decide) (by decide) (by decide) h
  · obtain ⟨dv, _, h2⟩ := hU.node i hi
    exact hT.not_own h2 (by decide) (by decide) (by decide) h
  · obtain ⟨es, c, h2, _⟩ := hU.kids p i hi hk
    exact hT.not_map h2 h
theorem RRep.beside {w w' : World} {tb rb : Nat} {A M B : Nat → Nat} {v : Value} {T U : Fs} (hT : RRep w rb v B T) (hU : Rep w tb A M U) (ht : Turn w w' (Own tb A M U)) : RRep w' rb v B T := by
  refine hT.kept (fun b hb => ht.block b (hT.lt hb) fun h => ?_) (fun i hi dv hd _ => hd.kept fun g ⟨cs, hg⟩ => ht.block g (Array.getElem?_eq_some_iff.1 hg).1 (hU.not_own hg (by decide) (by decide)))
  rcases hb with rfl | hv | ⟨i, hi, rfl⟩
  · exact hU.not_own hT.tree (by decide) (by decide) h
  · obtain ⟨_, cur, hc⟩ := own_cells hT.row hv
    exact hU.not_own hc (by decide) (by decide) h
  · obtain ⟨dv, _, h2⟩ := hT.node i hi
    exact hU.not_own h2 (by decide) (by decide) h

end Go.Proofs.YtemdinjiplglgaaGreat

namespace Go.Proofs.YtemdinjiplglgaaGreat
open Go.RowKit

/-- The place of a name; below 0: there is none. -/
def atIdx (l : List (Pt × Nat)) (s : Bytes) : Int :=
  match l.findIdx? (fun x => decide (glue x.1 = s)) with
  | some k => k
  | none => -1

theorem atIdx_hit {l : List (Pt × Nat)} {s : Bytes} {k : Nat} (hk : k < l.length) (h : glue (l[k]).1 = s) (hn : ∀ j (hj : j < k), glue (l[j]'(by omega)).1 ≠ s) : atIdx l s = k := by
  have : l.findIdx? (fun x => decide (glue x.1 = s)) = some k := by
    rw [List.findIdx?_eq_some_iff_getElem]
    exact ⟨hk, by simpa using h, fun j hj => by simpa using hn j hj⟩
  unfold atIdx
  rw [this]
theorem atIdx_miss {l : List (Pt × Nat)} {s : Bytes} (hn : ∀ x ∈ l, glue x.1 ≠ s) : atIdx l s = -1 := by
  have : l.findIdx? (fun x => decide (glue x.1 = s)) = none := by
    rw [List.findIdx?_eq_none_iff]
    intro x hx
    simpa using hn x hx
  unfold atIdx
  rw [this]

theorem glue_is {p : Pt} (hp : Pth p) {s : Bytes} : glue p = s ↔ p = split s := by
  obtain ⟨h1, h2⟩ := hp.text
  constructor
  · rintro rfl
    exact h2.symm
  · rintro rfl
    exact glue_split s

/-- At a name, or none. -/
theorem atIdx_at {T : Fs} (hI : T.Inv) (s : Bytes) : (atIdx T.names s = -1 ∧ T.at (split s) = none) ∨ (∃ (k : Nat) (i : Nat), atIdx T.names s = k ∧ T.names[k]? = some (split s, i) ∧ T.at (split s) = some i) := by
  cases h : T.at (split s) with
  | none =>
    refine Or.inl ⟨atIdx_miss fun x hx e => ?_, rfl⟩
    obtain ⟨p, i⟩ := x
    have := (glue_is (hI.pth _ _ hx)).1 e
    subst this
    exact Fs.at_none.1 h i hx
  | some i =>
    obtain ⟨k, hk, he⟩ := List.mem_iff_getElem.1 (hI.at_some.1 h)
    refine Or.inr ⟨k, i, atIdx_hit hk (by rw [he]; exact glue_split s) fun j hj e => ?_, by rw [List.getElem?_eq_getElem hk, he], rfl⟩
    have h1 := (glue_is (hI.pth (T.names[j]'(by omega)).1 (T.names[j]'(by omega)).2 (List.getElem_mem _))).1 e
    have hnd := hI.nodup
    have h2 := List.pairwise_iff_getElem.1 hnd j k (by simp; omega) (by simpa using hk) hj
    simp only [List.getElem_map, he] at h2
    exact h2 h1

section
variable (rb : Nat) (v : Value) (A : Nat → Nat) (T : Fs)

set_option maxHeartbeats 2000000 in
set_option maxRecDepth 100000 in
theorem rat_calls (s : ByteArray) (w : World) (hR : RRep w rb v A T) :
    Calls Tryz.prog 106 #[ptr rb, .string s] w fun e w' => e = .returned (.int .i64 (atIdx T.names (bl s))) ∧ w = w' := by
  obtain ⟨g, c, rfl, hc1, hc2, hp, t0, hcs⟩ := hR.at_
  unfold maxLen at hc2
  have hhit := fun k hk h hn => @atIdx_hit T.names (bl s) k hk h hn
  have hmiss := @atIdx_miss T.names (bl s)
  unfold ptr at *
  replace hR := Lib.hid hR
  replace hcs := Lib.hid hcs
  replace hhit := Lib.hid hhit
  replace hmiss := Lib.hid hmiss
  go_enter Tryz.func106, Tryz.ntmps106
  go_wp2
  go_loop [5] (fun i => ∃ k : Nat, i = .int .i64 k ∧ k ≤ T.names.length ∧ Hid (∀ j (hj : j < k) (hl : j < T.names.length), glue (T.names[j]).1 ≠ bl s)) (fun i => T.names.length - (intOf i).toNat)
  case atStart => exact ⟨0, rfl, Nat.zero_le _, fun j hj => by omega⟩
  case round =>
    obtain ⟨k, rfl, hk, hn⟩ := hrel
    by_cases hlt : k < T.names.length
    · obtain ⟨c0, _⟩ := hcs.out k _ (List.getElem?_eq_getElem hlt)
      by_cases he : glue (T.names[k]).1 = bl s
      · have hv := hhit.out k hlt he (fun j hj => hn.out j hj (by omega))
        have hse : (mkS (glue (T.names[k]).1)).toList == s.toList := by rw [toList_bl, toList_bl, bl_mkS, he]; simp
        replace he := Lib.hid he
        replace hv := Lib.hid hv
        go_wp2
        go_ret
        exact ⟨ret_int hv.out.symm, rfl⟩
      · have hse : ((mkS (glue (T.names[k]).1)).toList == s.toList) = false := by rw [toList_bl, toList_bl, bl_mkS]; simpa using he
        have hn' : Hid (∀ j (hj : j < k + 1) (hl : j < T.names.length), glue (T.names[j]).1 ≠ bl s) := fun j hj hl => by
          by_cases e : j = k
          · subst e
            exact he
          · exact hn.out j (by omega) hl
        replace he := Lib.hid he
        go_wp2
        go_round
        case rel => exact ⟨k + 1, by go_num, by omega, hn'⟩
        case measure => simp [intOf]; omega
    · obtain rfl : k = T.names.length := by omega
      have hv := hmiss.out fun x hx => by
        obtain ⟨j, hj, rfl⟩ := List.mem_iff_getElem.1 hx
        exact hn.out j hj hj
      replace hv := Lib.hid hv
      go_wp2
      go_ret
      exact ⟨ret_int hv.out.symm, rfl⟩

theorem rcount_calls (w : World) (hR : RRep w rb v A T) :
    Calls Tryz.prog 19 #[ptr rb] w fun e w' => e = .returned (.int .i64 (T.names.length - 1 : Int)) ∧ w = w' := by
  obtain ⟨g, c, rfl, hc1, hc2, hp, t0, hcs⟩ := hR.at_
  unfold maxLen at hc2
  unfold ptr at *
  replace hR := Lib.hid hR
  replace hcs := Lib.hid hcs
  go_enter Tryz.func19, Tryz.ntmps19
  go_wp2
  go_ret
  exact ⟨rfl, rfl⟩

set_option maxHeartbeats 2000000 in
set_option maxRecDepth 100000 in
theorem rlook_calls (s : ByteArray) (w : World) (hR : RRep w rb v A T) (hs : s.size ≤ 16777216) :
    Calls Tryz.prog 77 #[ptr rb, .string s] w fun e w' => e = .returned (.tuple #[optPtr A (T.look (bl s)).1, .int .i64 (T.look (bl s)).2.2]) ∧ Below w.heap.size w w' := by
  have hI := hR.inv
  have h1 := fun W => refright_calls s W hs
  have h2 := fun W => refparent_calls s W hs
  unfold Fs.look
  by_cases hr : right (bl s) = true
  · rw [if_pos hr]
    rw [hr] at h1
    have hn := str_nil s
    by_cases h0 : bl s = []
    · rw [if_pos h0]
      have hn2 : s.toList.isEmpty = true := by rw [hn]; simpa using h0
      replace hn := Lib.hid hn
      replace h0 := Lib.hid h0
      replace h1 := Lib.hid h1
      replace h2 := Lib.hid h2
      unfold ptr at *
      replace hr := Lib.hid hr
      go_enter Tryz.func77, Tryz.ntmps77
      go_wp2_with fail
      (with_reducible refine (h1.out _).mono ?_)
      rintro e w1 ⟨rfl, hB1⟩
      have hR1 := hR.below hB1
      obtain ⟨g, c, rfl, hc1, hc2, hp, t0, hcs⟩ := hR1.at_
      unfold maxLen at hc2
      obtain ⟨r, hr0⟩ := hI.top
      obtain ⟨_, c1⟩ := hcs 0 _ (by rw [hr0]; rfl)
      simp only [Nat.zero_mul, Nat.zero_add] at c1
      unfold ptr at c1
      replace hcs := Lib.hid hcs
      replace hR := Lib.hid hR
      replace hR1 := Lib.hid hR1
      replace hB1 := Lib.hid hB1
      replace hr0 := Lib.hid hr0
      replace hI := Lib.hid hI
      go_wp2
      go_ret2
      exact ⟨rfl, hB1.out⟩
    · rw [if_neg h0]
      have hn2 : s.toList.isEmpty = false := by rw [hn]; simpa using h0
      have hsd := split_parent hr
      have hat1 := fun W hW => rat_calls rb v A T (mkS (parent (bl s))) W hW
      have hat2 := fun W hW => rat_calls rb v A T s W hW
      rw [bl_mkS] at hat1
      have ha1 := atIdx_at hI (parent (bl s))
      have ha2 := atIdx_at hI (bl s)
      rw [hsd] at ha1
      replace hn := Lib.hid hn
      replace h0 := Lib.hid h0
      replace h1 := Lib.hid h1
      replace h2 := Lib.hid h2
      replace hr := Lib.hid hr
      replace hsd := Lib.hid hsd
      replace hat2 := Lib.hid hat2
      unfold ptr at *
      rcases ha1 with ⟨e1, e2⟩ | ⟨k, d, e1, e2, e3⟩
      · rw [e1] at hat1
        rw [e2]
        replace hat1 := Lib.hid hat1
        replace e1 := Lib.hid e1
        replace e2 := Lib.hid e2
        replace ha2 := Lib.hid ha2
        replace hI := Lib.hid hI
        go_enter Tryz.func77, Tryz.ntmps77
        go_wp2_with fail
        (with_reducible refine (h1.out _).mono ?_)
        rintro e w1 ⟨rfl, hB1⟩
        go_wp2_with fail
        (with_reducible refine (h2.out _).mono ?_)
        rintro e w2 ⟨rfl, hB2⟩
        have hB02 := below_step hB1 hB2
        have hat1' := hat1.out w2 (hR.below hB02)
        replace hB02 := Lib.hid hB02
        replace hat1' := Lib.hid hat1'
        replace hR := Lib.hid hR
        clear hB1 hB2
        go_wp2_with fail
        (with_reducible refine (hat1'.out).mono ?_)
        rintro e w3 ⟨rfl, rfl⟩
        go_wp2
        go_ret2
        exact ⟨rfl, hB02.out⟩
      · rw [e1] at hat1
        rw [e3]
        dsimp only
        have hd : (split (bl s)).dropLast = (split (bl s)).dropLast := rfl
        have hmd := hI.at_some.1 e3
        have hkl : k < T.names.length := (List.getElem?_eq_some_iff.1 e2).1
        by_cases hk2 : (T.nd d).kind = 2
        · rw [if_pos hk2]
          rcases ha2 with ⟨f1, f2⟩ | ⟨k2, i, f1, f2, f3⟩
          · rw [f2]
            have hat2' := hat2.out
            rw [f1] at hat2'
            clear hat2
            replace hat1 := Lib.hid hat1
            replace e1 := Lib.hid e1
            replace e3 := Lib.hid e3
            replace hI := Lib.hid hI
            replace hat2' := Lib.hid hat2'
            replace f1 := Lib.hid f1
            replace f2 := Lib.hid f2
            go_enter Tryz.func77, Tryz.ntmps77
            go_wp2_with fail
            (with_reducible refine (h1.out _).mono ?_)
            rintro e w1 ⟨rfl, hB1⟩
            go_wp2_with fail
            (with_reducible refine (h2.out _).mono ?_)
            rintro e w2 ⟨rfl, hB2⟩
            have hB02 := below_step hB1 hB2
            have hR2 := hR.below hB02
            have hat1' := hat1.out w2 hR2
            obtain ⟨dv, _, n0, _⟩ := hR2.cells ⟨_, hmd⟩
            obtain ⟨g, c, rfl, hc1, hc2, hp, t0, hcs⟩ := hR2.at_
            unfold maxLen at hc2
            obtain ⟨_, c1⟩ := hcs _ _ e2
            rw [hk2] at n0
            unfold ptr at c1
            have hat2'' := hat2'.out w2 hR2
            replace hB02 := Lib.hid hB02
            replace hat1' := Lib.hid hat1'
            replace hR := Lib.hid hR
            replace hR2 := Lib.hid hR2
            replace hcs := Lib.hid hcs
            replace e2 := Lib.hid e2
            replace hk2 := Lib.hid hk2
            replace hat2'' := Lib.hid hat2''
            replace hmd := Lib.hid hmd
            clear hB1 hB2
            go_wp2_with fail
            (with_reducible refine (hat1'.out).mono ?_)
            rintro e w3 ⟨rfl, rfl⟩
            go_wp2_with fail
            (with_reducible refine (hat2''.out).mono ?_)
            rintro e w3 ⟨rfl, rfl⟩
            go_wp2
            go_ret2
            exact ⟨rfl, hB02.out⟩
          · rw [f3]
            have hat2' := hat2.out
            rw [f1] at hat2'
            have hkl2 : k2 < T.names.length := (List.getElem?_eq_some_iff.1 f2).1
            clear hat2
            replace hat1 := Lib.hid hat1
            replace e1 := Lib.hid e1
            replace e3 := Lib.hid e3
            replace hI := Lib.hid hI
            replace hat2' := Lib.hid hat2'
            replace f1 := Lib.hid f1
            replace f3 := Lib.hid f3
            go_enter Tryz.func77, Tryz.ntmps77
            go_wp2_with fail
            (with_reducible refine (h1.out _).mono ?_)
            rintro e w1 ⟨rfl, hB1⟩
            go_wp2_with fail
            (with_reducible refine (h2.out _).mono ?_)
            rintro e w2 ⟨rfl, hB2⟩
            have hB02 := below_step hB1 hB2
            have hR2 := hR.below hB02
            have hat1' := hat1.out w2 hR2
            obtain ⟨dv, _, n0, _⟩ := hR2.cells ⟨_, hmd⟩
            obtain ⟨g, c, rfl, hc1, hc2, hp, t0, hcs⟩ := hR2.at_
            unfold maxLen at hc2
            obtain ⟨_, c1⟩ := hcs _ _ e2
            obtain ⟨_, c2⟩ := hcs _ _ f2
            rw [hk2] at n0
            unfold ptr at c1 c2
            have hat2'' := hat2'.out w2 hR2
            replace hB02 := Lib.hid hB02
            replace hat1' := Lib.hid hat1'
            replace hR := Lib.hid hR
            replace hR2 := Lib.hid hR2
            replace hcs := Lib.hid hcs
            replace e2 := Lib.hid e2
            replace hk2 := Lib.hid hk2
            replace hat2'' := Lib.hid hat2''
            replace f2 := Lib.hid f2
            replace hmd := Lib.hid hmd
            clear hB1 hB2
            go_wp2_with fail
            (with_reducible refine (hat1'.out).mono ?_)
            rintro e w3 ⟨rfl, rfl⟩
            go_wp2_with fail
            (with_reducible refine (hat2''.out).mono ?_)
            rintro e w3 ⟨rfl, rfl⟩
            go_wp2
            go_ret2
            exact ⟨rfl, hB02.out⟩
        · rw [if_neg hk2]
          have hk3 : ((T.nd d).kind == 2) = false := by simpa using hk2
          have hk4 : ((T.nd d).kind != 2) = true := by simpa using hk2
          clear hat2
          replace hat1 := Lib.hid hat1
          replace e1 := Lib.hid e1
          replace e3 := Lib.hid e3
          replace hI := Lib.hid hI
          go_enter Tryz.func77, Tryz.ntmps77
          go_wp2_with fail
          (with_reducible refine (h1.out _).mono ?_)
          rintro e w1 ⟨rfl, hB1⟩
          go_wp2_with fail
          (with_reducible refine (h2.out _).mono ?_)
          rintro e w2 ⟨rfl, hB2⟩
          have hB02 := below_step hB1 hB2
          have hR2 := hR.below hB02
          have hat1' := hat1.out w2 hR2
          obtain ⟨dv, _, n0, _⟩ := hR2.cells ⟨_, hmd⟩
          obtain ⟨g, c, rfl, hc1, hc2, hp, t0, hcs⟩ := hR2.at_
          unfold maxLen at hc2
          obtain ⟨_, c1⟩ := hcs _ _ e2
          unfold ptr at c1
          replace hB02 := Lib.hid hB02
          replace hat1' := Lib.hid hat1'
          replace hR := Lib.hid hR
          replace hR2 := Lib.hid hR2
          replace hcs := Lib.hid hcs
          replace e2 := Lib.hid e2
          replace hk2 := Lib.hid hk2
          replace hmd := Lib.hid hmd
          clear hB1 hB2
          go_wp2_with fail
          (with_reducible refine (hat1'.out).mono ?_)
          rintro e w3 ⟨rfl, rfl⟩
          go_wp2
          go_ret2
          exact ⟨rfl, hB02.out⟩
  · rw [if_neg hr]
    rw [show right (bl s) = false by simpa using hr] at h1
    unfold ptr at *
    replace h1 := Lib.hid h1
    replace h2 := Lib.hid h2
    replace hr := Lib.hid hr
    replace hR := Lib.hid hR
    replace hI := Lib.hid hI
    go_enter Tryz.func77, Tryz.ntmps77
    go_wp2_with fail
    (with_reducible refine (h1.out _).mono ?_)
    rintro e w1 ⟨rfl, hB1⟩
    replace hB1 := Lib.hid hB1
    go_wp2
    go_ret2
    exact ⟨rfl, hB1.out⟩
end

end Go.Proofs.YtemdinjiplglgaaGreat

namespace Go.Proofs.YtemdinjiplglgaaGreat
open Go.RowKit

set_option maxHeartbeats 1000000 in
set_option maxRecDepth 100000 in
theorem refbase_calls (s : ByteArray) (w : World) (hs : s.size ≤ 16777216) :
    Calls Tryz.prog 44 #[.string s] w fun e w' => e = .returned (.string (mkS (base (bl s)))) ∧ Below w.heap.size w w' := by
  have h0 := refsplit_calls s w hs
  have hb : base (bl s) = (split (bl s)).getLastD [] := rfl
  rw [hb]
  generalize split (bl s) = l at *
  replace h0 := Lib.hid h0
  clear hb
  go_enter Tryz.func44, Tryz.ntmps44
  go_wp2_with fail
  (with_reducible refine (h0.out).mono ?_)
  rintro e w1 ⟨⟨v, rfl, hS⟩, hB⟩
  obtain ⟨A, c, rfl, hc1, hc2⟩ := hS.rd.shape
  unfold maxLen at hc2
  by_cases hl : l = []
  · subst hl
    replace hB := Lib.hid hB
    replace hS := Lib.hid hS
    go_wp2
    go_ret
    exact ⟨rfl, hB.out⟩
  · have hp : 0 < l.length := List.length_pos_iff.2 hl
    obtain ⟨g, o, rfl, hcell⟩ := hS.rd.cell (j := l.length - 1) (by omega)
    have hz : ¬ l.length = 0 := by omega
    have hz2 : (l.length == 0) = false := by simpa using hz
    have hwr : IntKind.i64.wrap ((l.length : Int) - 1) = ((l.length - 1 : Nat) : Int) := by rw [IntWalk.i64_in _ (by omega)]; omega
    have hlast : l.getLastD [] = l[l.length - 1] := by
      rw [List.getLastD_eq_getLast?, List.getLast?_eq_getElem?, List.getElem?_eq_getElem (by omega)]
      rfl
    have hi : ((l.length : Int) - 1).toNat = l.length - 1 := by omega
    have hi0 : (0 : Int) ≤ (l.length : Int) - 1 := by omega
    replace hB := Lib.hid hB
    replace hS := Lib.hid hS
    replace hl := Lib.hid hl
    replace hz := Lib.hid hz
    replace hlast := Lib.hid hlast
    go_wp2
    go_ret
    exact ⟨by rw [hlast.out]; rfl, hB.out⟩

theorem add_at (g o j : Nat) : (⟨g, o, none⟩ : Addr).add j = ⟨g, o + j, none⟩ := by
  simp only [Addr.add]
  split
  · rename_i h
    rw [h]
    rfl
  · rfl

theorem Rd.src {W : World} {v : Value} {l : List Bytes} (h : Rd W v l) : Src W v 1 l.length (strs l) := by
  obtain ⟨A, c, rfl, h1, h2, hc⟩ := h
  by_cases hl : l = []
  · subst hl
    exact Or.inl ⟨rfl, rfl, A, c, rfl⟩
  · have hp : 0 < l.length := List.length_pos_iff.2 hl
    obtain ⟨g, o, rfl, _⟩ := hc 0 _ (List.getElem?_eq_getElem hp)
    refine Or.inr ⟨_, c, rfl, by simp [strs], fun j u hj => ?_⟩
    have hlt : j < l.length := by have := (List.getElem?_eq_some_iff.1 hj).1; simpa [strs] using this
    obtain ⟨g', o', e, hcell⟩ := hc j _ (List.getElem?_eq_getElem hlt)
    cases e
    have : u = .string (mkS l[j]) := by
      simp only [strs, List.getElem?_map, List.getElem?_eq_getElem hlt, Option.map_some, Option.some.injEq] at hj
      exact hj.symm
    rw [add_at, this]
    exact hcell

theorem Rd.drop {W : World} {A : Option Addr} {n c : Nat} {l : List Bytes} (h : Rd W (.slice A n c) l) (k : Nat) (hk : k ≤ l.length) : Rd W (.slice (if c = k then A else Option.map (fun x : Addr => x.add k) A) (n - k) (c - k)) (l.drop k) := by
  obtain ⟨A', c', e, h1, h2, hc⟩ := h
  simp only [Value.slice.injEq] at e
  obtain ⟨rfl, rfl, rfl⟩ := e
  refine ⟨_, c - k, by rw [List.length_drop], by rw [List.length_drop]; omega, by omega, fun j u hj => ?_⟩
  rw [List.getElem?_drop] at hj
  have hlt : k + j < l.length := (List.getElem?_eq_some_iff.1 hj).1
  obtain ⟨g, o, rfl, hcell⟩ := hc (k + j) u hj
  refine ⟨g, o + k, ?_, by rw [Nat.add_assoc]; exact hcell⟩
  rw [if_neg (by omega)]
  simp only [Option.map_some, Addr.add]
  split
  · rename_i h0
    rw [h0]
    rfl
  · rfl

/-- Two rising rows, and what of both has been taken. -/
structure Mrg (l out a b : List Bytes) : Prop where
  perm : (out ++ (a ++ b)).Perm l
  sa : Sorted (out ++ a)
  sb : Sorted (out ++ b)

theorem sorted_cons {a : Bytes} {l : List Bytes} : Sorted (a :: l) ↔ (∀ x ∈ l, cmpP a x ≤ 0) ∧ Sorted l := List.pairwise_cons
theorem sorted_append {l r : List Bytes} : Sorted (l ++ r) ↔ Sorted l ∧ Sorted r ∧ ∀ x ∈ l, ∀ y ∈ r, cmpP x y ≤ 0 := List.pairwise_append

theorem Mrg.right {l out a b : List Bytes} {x y : Bytes} (h : Mrg l out (x :: a) (y :: b)) (hlt : cmpP y x < 0) : Mrg l (out ++ [y]) (x :: a) b := by
  refine ⟨?_, ?_, ?_⟩
  · refine List.Perm.trans ?_ h.perm
    rw [List.append_assoc]
    exact List.Perm.append_left out (List.perm_middle (l₁ := x :: a) (l₂ := b) (a := y)).symm
  · obtain ⟨s1, s2, s3⟩ := sorted_append.1 h.sa
    obtain ⟨t1, t2, t3⟩ := sorted_append.1 h.sb
    rw [List.append_assoc]
    refine sorted_append.2 ⟨s1, ?_, fun u hu v hv => ?_⟩
    · refine sorted_cons.2 ⟨fun u hu => ?_, s2⟩
      rcases List.mem_cons.1 hu with rfl | hu
      · omega
      · exact leP_trans (a := y) (b := x) (c := u) (Int.le_of_lt hlt) ((sorted_cons.1 s2).1 u hu)
    · rcases List.mem_append.1 hv with hv | hv
      · rw [List.mem_singleton.1 hv]
        exact t3 u hu y (List.mem_cons_self ..)
      · exact s3 u hu v hv
  · rw [List.append_assoc]
    exact h.sb
theorem Mrg.left {l out a b : List Bytes} {x y : Bytes} (h : Mrg l out (x :: a) (y :: b)) (hlt : ¬ cmpP y x < 0) : Mrg l (out ++ [x]) a (y :: b) := by
  refine ⟨?_, ?_, ?_⟩
  · refine List.Perm.trans ?_ h.perm
    rw [List.append_assoc]
    exact List.Perm.refl _
  · rw [List.append_assoc]
    exact h.sa
  · obtain ⟨s1, s2, s3⟩ := sorted_append.1 h.sa
    obtain ⟨t1, t2, t3⟩ := sorted_append.1 h.sb
    have hxy : cmpP x y ≤ 0 := by have := cmpP_swap x y; omega
    rw [List.append_assoc]
    refine sorted_append.2 ⟨s1, ?_, fun u hu v hv => ?_⟩
    · refine sorted_cons.2 ⟨fun u hu => ?_, t2⟩
      rcases List.mem_cons.1 hu with rfl | hu
      · exact hxy
      · exact leP_trans (a := x) (b := y) (c := u) hxy ((sorted_cons.1 t2).1 u hu)
    · rcases List.mem_append.1 hv with hv | hv
      · rw [List.mem_singleton.1 hv]
        exact s3 u hu x (List.mem_cons_self ..)
      · exact t3 u hu v hv
theorem Mrg.fin {l out a b : List Bytes} (h : Mrg l out a b) (he : a = [] ∨ b = []) : out ++ a ++ b = sortP l := by
  refine sortP_eq (by rw [List.append_assoc]; exact h.perm) ?_
  rcases he with rfl | rfl
  · rw [List.append_nil]
    exact h.sb
  · rw [List.append_nil]
    exact h.sa

end Go.Proofs.YtemdinjiplglgaaGreat

namespace Go.Proofs.YtemdinjiplglgaaGreat
open Go.RowKit

theorem sortP_short {l : List Bytes} (h : l.length < 2) : sortP l = l := by
  refine (sortP_eq (List.Perm.refl l) ?_).symm
  match l, h with
  | [], _ => exact List.Pairwise.nil
  | [x], _ => exact List.pairwise_singleton _ _
  | _ :: _ :: _, h => simp at h; omega

theorem merge_start {l x y : List Bytes} (hp : (x ++ y).Perm l) (hx : Sorted x) (hy : Sorted y) : Mrg l [] x y := ⟨hp, hx, hy⟩

set_option maxHeartbeats 4000000 in
set_option maxRecDepth 100000 in
theorem refsort_short (v : Value) (l : List Bytes) (w : World) (hR : Rd w v l) (h2 : l.length < 2) :
    Calls Tryz.prog 41 #[v] w fun e w' => (∃ v', e = .returned v' ∧ Strs w.heap.size w' v' (sortP l)) ∧ Below w.heap.size w w' := by
  obtain ⟨A, c, rfl, hc1, hc2⟩ := hR.shape
  unfold maxLen at hc2
  have hsrc := hR.src
  have hso := sortP_short h2
  have hnil : w.ownsRow w.heap.size 9 1 (.slice none 0 0) 0 [] := ⟨rfl, Or.inl ⟨rfl, rfl⟩⟩
  replace hR := Lib.hid hR
  replace hsrc := Lib.hid hsrc
  replace hso := Lib.hid hso
  replace hnil := Lib.hid hnil
  go_enter Tryz.func41, Tryz.ntmps41
  go_wp2_with (at_builtin; refine wp_append_any w.heap.size rfl (.tmp 10) (.tmp 11) 45 9 rfl Tryz.underlying45 (.string ⟨#[]⟩) 1 16 info_string rfl (by decide) (.slice none 0 0) 0 [] rfl (.slice A l.length c) l.length (strs l) rfl hsrc.out hnil.out ?_ ?_ ?_ (Nat.le_refl _) ?_)
  · simp [strs, Value.oneCell']
  · simp [maxLen]; omega
  · omega
  · intro v1 w1 h1 hg _
    have hS1 : Strs w.heap.size w1 v1 l := by
      unfold Strs
      exact h1
    have hB1 : Below w.heap.size w w1 := ⟨hg.os, hg.tape, hg.output, hg.size, fun i hi => hg.block i hi (by simp [Value.ownBlock])⟩
    replace hS1 := Lib.hid hS1
    replace hB1 := Lib.hid hB1
    clear h1 hg
    go_wp2
    go_ret
    rw [hso.out]
    exact ⟨⟨_, rfl, hS1.out⟩, hB1.out⟩

def lenOf : Value → Nat
  | .slice _ n _ => n
  | _ => 0

theorem half_perm (l : List Bytes) (k : Nat) : (sortP (l.take k) ++ sortP (l.drop k)).Perm l := by
  have := (sortP_perm (l.take k)).append (sortP_perm (l.drop k))
  rwa [List.take_append_drop] at this

set_option maxHeartbeats 8000000 in
set_option maxRecDepth 100000 in
theorem refsort_calls : ∀ (n : Nat) (v : Value) (l : List Bytes) (w : World), l.length ≤ n → Rd w v l → l.length ≤ 1000000 → (∀ y ∈ l, y.length ≤ 16777216) →
    Calls Tryz.prog 41 #[v] w fun e w' => (∃ v', e = .returned v' ∧ Strs w.heap.size w' v' (sortP l)) ∧ Below w.heap.size w w' := by
  intro n
  induction n with
  | zero =>
    intro v l w hn hR hm hsz
    exact refsort_short v l w hR (by omega)
  | succ n ih =>
    intro v l w hn hR hm hsz
    by_cases h2 : l.length < 2
    · exact refsort_short v l w hR h2
    obtain ⟨A, c, rfl, hc1, hc2⟩ := hR.shape
    unfold maxLen at hc2
    have hi1 : ∀ W, Below w.heap.size w W → _ := fun W hW => ih _ _ W (by simp; omega) ((hR.below hW).take (l.length / 2) (by omega)) (by simp; omega) (fun y hy => hsz y (List.mem_of_mem_take hy))
    have hdr := fun W (hW : Below w.heap.size w W) => (hR.below hW).drop (l.length / 2) (by omega)
    rw [if_neg (by omega)] at hdr
    have hi2 : ∀ W, Below w.heap.size w W → _ := fun W hW => ih _ _ W (by simp; omega) (hdr W hW) (by simp; omega) (fun y hy => hsz y (List.mem_of_mem_drop hy))
    have hl2 : decide (l.length < 2) = false := by simpa using h2
    have hqa : (l.length : Int).tdiv 2 = (l.length : Int) / 2 := by rw [Int.tdiv_eq_ediv_of_nonneg (by omega)]
    have hqb : IntKind.i64.wrap ((l.length : Int) / 2) = (l.length : Int) / 2 := IntWalk.i64_in _ (by omega)
    have hq3 : (0 : Int) ≤ (l.length : Int) / 2 := by omega
    have hq4 : (l.length : Int) / 2 ≤ (c : Int) := by omega
    have hq5 : (l.length : Int) / 2 ≤ (l.length : Int) := by omega
    have hq6 : ((l.length : Int) / 2).toNat = l.length / 2 := by omega
    have hq7 : l.length / 2 ≤ c := by omega
    have hq8 : l.length / 2 ≤ l.length := by omega
    have hlt : ¬ c = l.length / 2 := by omega
    replace hR := Lib.hid hR
    replace hi1 := Lib.hid hi1
    replace hi2 := Lib.hid hi2
    replace hsz := Lib.hid hsz
    replace ih := Lib.hid ih
    replace hdr := Lib.hid hdr
    go_enter Tryz.func41, Tryz.ntmps41
    go_upto_region 4 with fail
    go_region_held3 (fun W => Below w.heap.size w W) (first | exact below_drewN (Below.refl _ _) 1 | exact hBa.out | exact hBb.out)
      (first | (go_at_call 41; (with_reducible refine (hi1.out _ (by assumption)).mono ?_); rintro e w1 ⟨⟨va, rfl, hSa⟩, hBa⟩; replace hBa := below_step (by assumption) hBa; replace hBa := Lib.hid hBa; replace hSa := Lib.hid hSa) | (go_at_call 41; (with_reducible refine (hi2.out _ (by assumption)).mono ?_); rintro e w2 ⟨⟨vb, rfl, hSb⟩, hBb⟩; have hBab := Lib.hid hBb; replace hBb := below_step (by assumption) hBb; replace hBb := Lib.hid hBb; replace hSb := Lib.hid hSb))
    rename_i hHeld
    clear hHeld
    have hRa := hSa.out.rd.below hBab.out
    have hRb := hSb.out.rd
    have hM0 := merge_start (half_perm l (l.length / 2)) (sortP_sorted _) (sortP_sorted _)
    have hlen : (sortP (l.take (l.length / 2))).length ≤ 1000000 ∧ (sortP (l.drop (l.length / 2))).length ≤ 1000000 := by
      rw [(sortP_perm _).length_eq, (sortP_perm _).length_eq, List.length_take, List.length_drop]
      omega
    generalize sortP (l.take (l.length / 2)) = xa0 at *
    generalize sortP (l.drop (l.length / 2)) = xb0 at *
    have hnil : w2.ownsRow w2.heap.size 9 1 (.slice none 0 0) 0 [] := ⟨rfl, Or.inl ⟨rfl, rfl⟩⟩
    replace hRa := Lib.hid hRa
    replace hRb := Lib.hid hRb
    replace hM0 := Lib.hid hM0
    replace hlen := Lib.hid hlen
    replace hnil := Lib.hid hnil
    clear hSa hSb hBa hi1 hi2 hdr hq3 hq4 hq5 hq6 hq7 hq8 hqa hqb hlt hl2 ih hR hBab
    go_wp2_with fail
    go_loopw [4, 5, 6] (fun va vb vo wr => ∃ xa xb xo : List Bytes, Rd w2 va xa ∧ Rd w2 vb xb ∧ Strs w2.heap.size wr vo xo ∧ Mrg l xo xa xb ∧ Below w2.heap.size w2 wr ∧ Hid (xo.length + (xa.length + xb.length) = l.length)) (fun va vb _ _ => (lenOf va + lenOf vb))
    case atStart => exact ⟨_, _, [], hRa.out, hRb.out, hnil.out, hM0.out, Below.refl _ _, Lib.hid (by have := hM0.out.perm.length_eq; simpa using this)⟩
    case round =>
      clear hM0 hRa hRb hlen
      obtain ⟨xa, xb, xo, hRa, hRb, hSo, hM, hB, hL⟩ := hrel
      have hL2 := hL.out
      obtain ⟨aA, ac, rfl, ha1, ha2⟩ := hRa.shape
      obtain ⟨bA, bc, rfl, hb1, hb2⟩ := hRb.shape
      obtain ⟨oA, oc, rfl, ho1, ho2⟩ := hSo.rd.shape
      unfold maxLen at ha2 hb2 ho2
      by_cases hne : xa = [] ∨ xb = []
      · have hfin := hM.fin hne
        have hsa := (hRa.below hB).src
        have hz : xa.length = 0 ∨ xb.length = 0 := hne.imp (fun h => by rw [h]; rfl) (fun h => by rw [h]; rfl)
        by_cases hxa : xa.length = 0
        · have t1 : decide (0 < xa.length) = false := decide_eq_false (by omega)
          replace hxa := Lib.hid hxa
          have hown := hSo.own
          replace hRa := Lib.hid hRa
          replace hRb := Lib.hid hRb
          replace hSo := Lib.hid hSo
          replace hM := Lib.hid hM
          replace hB := Lib.hid hB
          replace hfin := Lib.hid hfin
          replace hsa := Lib.hid hsa
          replace hz := Lib.hid hz
          replace hne := Lib.hid hne
          replace hown := Lib.hid hown
          replace hL := Lib.hid hL
          go_wp2_with (at_builtin; refine wp_append_any w2.heap.size rfl (.tmp 56) (.tmp 57) 45 9 rfl Tryz.underlying45 (.string ⟨#[]⟩) 1 16 info_string rfl (by decide) (.slice oA xo.length oc) xo.length (strs xo) rfl (.slice aA xa.length ac) xa.length (strs xa) rfl hsa.out hown.out ?_ ?_ ?_ hB.out.size ?_)
          · simp [strs, Value.oneCell']
          · simp only [maxLen]; omega
          · omega
          · intro v1 w3 h1 hg hat
            have hS3 : Strs w2.heap.size w3 v1 (xo ++ xa) := by
              unfold Strs
              rw [List.length_append]
              simpa [strs] using h1
            have hB3 := hB.out.grown hg hB.out.size (own_base hown.out)
            have hsb := (hRb.out.below hB3).src
            have hl3 : (xo ++ xa).length + xb.length = l.length := by rw [List.length_append]; omega
            obtain ⟨A3, c3, rfl, hd1, hd2⟩ := own_shape hS3.own
            have hown3 := hS3.own
            replace hS3 := Lib.hid hS3
            replace hB3 := Lib.hid hB3
            replace hsb := Lib.hid hsb
            replace hown3 := Lib.hid hown3
            replace hl3 := Lib.hid hl3
            clear h1 hg hat hown hsa
            go_wp2_with (at_builtin; refine wp_append_any w2.heap.size rfl (.tmp 58) (.tmp 59) 45 9 rfl Tryz.underlying45 (.string ⟨#[]⟩) 1 16 info_string rfl (by decide) (.slice A3 (xo ++ xa).length c3) (xo ++ xa).length (strs (xo ++ xa)) rfl (.slice bA xb.length bc) xb.length (strs xb) rfl hsb.out hown3.out ?_ ?_ ?_ hB3.out.size ?_)
            · simp [strs, Value.oneCell']
            · rw [hl3.out]; simp only [maxLen]; omega
            · rw [hl3.out]; omega
            · intro v2 w4 h2' hg2 hat2
              have hS4 : Strs w2.heap.size w4 v2 (xo ++ xa ++ xb) := by
                unfold Strs
                simpa [strs, Nat.add_assoc] using h2'
              have hB4 := hB3.out.grown hg2 hB3.out.size (fun k hk => own_base hown3.out k (by rw [List.length_append]; exact hk))
              replace hS4 := Lib.hid hS4
              replace hB4 := Lib.hid hB4
              clear h2' hg2 hat2
              go_wp2
              go_ret
              rw [← hfin.out]
              exact ⟨⟨_, rfl, own_low hS4.out.own hBb.out.size⟩, below_step hBb.out hB4.out⟩
        · have t1 : decide (0 < xa.length) = true := decide_eq_true (by omega)
          have t2 : decide (0 < xb.length) = false := decide_eq_false (by omega)
          have hown := hSo.own
          replace hRa := Lib.hid hRa
          replace hRb := Lib.hid hRb
          replace hSo := Lib.hid hSo
          replace hM := Lib.hid hM
          replace hB := Lib.hid hB
          replace hfin := Lib.hid hfin
          replace hsa := Lib.hid hsa
          replace hz := Lib.hid hz
          replace hne := Lib.hid hne
          replace hown := Lib.hid hown
          replace hL := Lib.hid hL
          go_wp2_with (at_builtin; refine wp_append_any w2.heap.size rfl (.tmp 56) (.tmp 57) 45 9 rfl Tryz.underlying45 (.string ⟨#[]⟩) 1 16 info_string rfl (by decide) (.slice oA xo.length oc) xo.length (strs xo) rfl (.slice aA xa.length ac) xa.length (strs xa) rfl hsa.out hown.out ?_ ?_ ?_ hB.out.size ?_)
          · simp [strs, Value.oneCell']
          · simp only [maxLen]; omega
          · omega
          · intro v1 w3 h1 hg hat
            have hS3 : Strs w2.heap.size w3 v1 (xo ++ xa) := by
              unfold Strs
              rw [List.length_append]
              simpa [strs] using h1
            have hB3 := hB.out.grown hg hB.out.size (own_base hown.out)
            have hsb := (hRb.out.below hB3).src
            have hl3 : (xo ++ xa).length + xb.length = l.length := by rw [List.length_append]; omega
            obtain ⟨A3, c3, rfl, hd1, hd2⟩ := own_shape hS3.own
            have hown3 := hS3.own
            replace hS3 := Lib.hid hS3
            replace hB3 := Lib.hid hB3
            replace hsb := Lib.hid hsb
            replace hown3 := Lib.hid hown3
            replace hl3 := Lib.hid hl3
            clear h1 hg hat hown hsa
            go_wp2_with (at_builtin; refine wp_append_any w2.heap.size rfl (.tmp 58) (.tmp 59) 45 9 rfl Tryz.underlying45 (.string ⟨#[]⟩) 1 16 info_string rfl (by decide) (.slice A3 (xo ++ xa).length c3) (xo ++ xa).length (strs (xo ++ xa)) rfl (.slice bA xb.length bc) xb.length (strs xb) rfl hsb.out hown3.out ?_ ?_ ?_ hB3.out.size ?_)
            · simp [strs, Value.oneCell']
            · rw [hl3.out]; simp only [maxLen]; omega
            · rw [hl3.out]; omega
            · intro v2 w4 h2' hg2 hat2
              have hS4 : Strs w2.heap.size w4 v2 (xo ++ xa ++ xb) := by
                unfold Strs
                simpa [strs, Nat.add_assoc] using h2'
              have hB4 := hB3.out.grown hg2 hB3.out.size (fun k hk => own_base hown3.out k (by rw [List.length_append]; exact hk))
              replace hS4 := Lib.hid hS4
              replace hB4 := Lib.hid hB4
              clear h2' hg2 hat2
              go_wp2
              go_ret
              rw [← hfin.out]
              exact ⟨⟨_, rfl, own_low hS4.out.own hBb.out.size⟩, below_step hBb.out hB4.out⟩
      · obtain ⟨x, ya, rfl⟩ : ∃ x ya, xa = x :: ya := by
          cases xa with
          | nil => exact absurd (Or.inl rfl) hne
          | cons x ya => exact ⟨x, ya, rfl⟩
        obtain ⟨y, yb, rfl⟩ : ∃ y yb, xb = y :: yb := by
          cases xb with
          | nil => exact absurd (Or.inr rfl) hne
          | cons y yb => exact ⟨y, yb, rfl⟩
        have hpm := hM.perm
        have hmx : x ∈ l := hpm.mem_iff.1 (by simp)
        have hmy : y ∈ l := hpm.mem_iff.1 (by simp)
        have hzx := hsz x hmx
        have hzy := hsz y hmy
        have t1 : decide (0 < (x :: ya).length) = true := decide_eq_true (by simp)
        have t2 : decide (0 < (y :: yb).length) = true := decide_eq_true (by simp)
        obtain ⟨ga, oa, rfl, ca⟩ := (hRa.below hB).cell (j := 0) (by simp)
        obtain ⟨gb, ob, rfl, cb⟩ := (hRb.below hB).cell (j := 0) (by simp)
        simp only [Nat.add_zero, List.getElem_cons_zero] at ca cb
        have hless := fun W => refless_calls (mkS y) (mkS x) W (by rw [mkS_size]; omega) (by rw [mkS_size]; omega)
        rw [bl_mkS, bl_mkS] at hless
        have hright := fun h => hM.right h
        have hleft := fun h => hM.left h
        have hda := hRa.drop 1 (by simp)
        have hdb := hRb.drop 1 (by simp)
        simp only [List.drop_succ_cons, List.drop_zero] at hda hdb
        have hga := fun x : Gr wr => Gr.cell ca x
        have hgb := fun x : Gr wr => Gr.cell cb x
        have hown := hSo.own
        have hxl : ((xo ++ [y]).length + ((x :: ya).length + yb.length) = l.length) ∧ ((xo ++ [x]).length + (ya.length + (y :: yb).length) = l.length) := by
          simp at hL2 ⊢
          omega
        simp only [List.length_cons] at hL2 t1 t2 ha1 hb1 hda hdb ⊢
        replace hRa := Lib.hid hRa
        replace hRb := Lib.hid hRb
        replace hSo := Lib.hid hSo
        replace hM := Lib.hid hM
        replace hB := Lib.hid hB
        replace hL := Lib.hid hL
        replace hne := Lib.hid hne
        replace hpm := Lib.hid hpm
        replace hmx := Lib.hid hmx
        replace hmy := Lib.hid hmy
        replace hless := Lib.hid hless
        replace hright := Lib.hid hright
        replace hleft := Lib.hid hleft
        replace hda := Lib.hid hda
        replace hdb := Lib.hid hdb
        replace hown := Lib.hid hown
        replace hxl := Lib.hid hxl
        go_upto_region 7 with fail
        by_cases hlt : cmpP y x < 0
        · have hlp : lessP y x = true := by unfold lessP; simpa using hlt
          replace hless := hless.out
          rw [hlp] at hless
          replace hless := Lib.hid hless
          replace hlt := Lib.hid hlt
          replace hlp := Lib.hid hlp
          refine wp_region_grow (by kernel_rfl) (by kernel_rfl) ?_
          repeat (any_goals (first | go_big_quiet_step ((go_at_call 85; exact grow_of _ (hless.out _))) | quiet_step ((go_at_call 85; exact grow_of _ (hless.out _)))))
          refine wpQuiet_nil ?_
          rintro w5 ⟨⟨_, hB5⟩, rfl⟩
          have hB25 := below_step hB.out hB5
          have hown5 := own_below hown.out hB5
          have ca5 := (hB5.cell (cell_lt ca)).trans ca
          have cb5 := (hB5.cell (cell_lt cb)).trans cb
          replace hB25 := Lib.hid hB25
          replace hown5 := Lib.hid hown5
          clear hga hgb ca cb
          have hr2 := hright.out hlt.out
          replace hr2 := Lib.hid hr2
          go_wp2_with (at_builtin; refine wp_append1 w2.heap.size rfl (.tmp 40) (.tmp 44) 45 9 rfl Tryz.underlying45 (.string ⟨#[]⟩) 1 16 info_string rfl (by decide) (.slice oA xo.length oc) _ _ rfl [.string (mkS y)] rfl hown5.out rfl ?_ ?_ ?_ hB25.out.size ?_)
          · simp [Value.oneCell']
          · simp only [maxLen]; omega
          · omega
          · intro v1 w6 h1 hg hat
            have hS6 : Strs w2.heap.size w6 v1 (xo ++ [y]) := Strs.snoc h1
            have hB6 := hB25.out.grown hg hB25.out.size (own_base hown5.out)
            obtain ⟨A6, c6, rfl, _, _⟩ := own_shape hS6.own
            have hd := hdb.out
            replace hS6 := Lib.hid hS6
            replace hB6 := Lib.hid hB6
            clear h1 hg hat
            by_cases hc1 : bc = 1
            · rw [if_pos hc1] at hd
              have hif : (bc = 1) = True := eq_true hc1
              replace hd := Lib.hid hd
              replace hc1 := Lib.hid hc1
              go_wp2
              go_roundw
              case rel => exact ⟨_, _, _, hRa.out, hd.out, hS6.out, hr2.out, hB6.out, Lib.hid hxl.out.1⟩
              case measure => simp [lenOf]
            · rw [if_neg hc1] at hd
              replace hd := Lib.hid hd
              go_wp2
              go_roundw
              case rel => exact ⟨_, _, _, hRa.out, hd.out, hS6.out, hr2.out, hB6.out, Lib.hid hxl.out.1⟩
              case measure => simp [lenOf]
        · have hlp : lessP y x = false := by unfold lessP; simpa using hlt
          replace hless := hless.out
          rw [hlp] at hless
          replace hless := Lib.hid hless
          replace hlt := Lib.hid hlt
          replace hlp := Lib.hid hlp
          refine wp_region_grow (by kernel_rfl) (by kernel_rfl) ?_
          repeat (any_goals (first | go_big_quiet_step ((go_at_call 85; exact grow_of _ (hless.out _))) | quiet_step ((go_at_call 85; exact grow_of _ (hless.out _)))))
          refine wpQuiet_nil ?_
          rintro w5 ⟨⟨_, hB5⟩, rfl⟩
          have hB25 := below_step hB.out hB5
          have hown5 := own_below hown.out hB5
          have ca5 := (hB5.cell (cell_lt ca)).trans ca
          have cb5 := (hB5.cell (cell_lt cb)).trans cb
          replace hB25 := Lib.hid hB25
          replace hown5 := Lib.hid hown5
          clear hga hgb ca cb
          have hr2 := hleft.out hlt.out
          replace hr2 := Lib.hid hr2
          go_wp2_with (at_builtin; refine wp_append1 w2.heap.size rfl (.tmp 48) (.tmp 52) 45 9 rfl Tryz.underlying45 (.string ⟨#[]⟩) 1 16 info_string rfl (by decide) (.slice oA xo.length oc) _ _ rfl [.string (mkS x)] rfl hown5.out rfl ?_ ?_ ?_ hB25.out.size ?_)
          · simp [Value.oneCell']
          · simp only [maxLen]; omega
          · omega
          · intro v1 w6 h1 hg hat
            have hS6 : Strs w2.heap.size w6 v1 (xo ++ [x]) := Strs.snoc h1
            have hB6 := hB25.out.grown hg hB25.out.size (own_base hown5.out)
            obtain ⟨A6, c6, rfl, _, _⟩ := own_shape hS6.own
            have hd := hda.out
            replace hS6 := Lib.hid hS6
            replace hB6 := Lib.hid hB6
            clear h1 hg hat
            by_cases hc1 : ac = 1
            · rw [if_pos hc1] at hd
              have hif : (ac = 1) = True := eq_true hc1
              replace hd := Lib.hid hd
              replace hc1 := Lib.hid hc1
              go_wp2
              go_roundw
              case rel => exact ⟨_, _, _, hd.out, hRb.out, hS6.out, hr2.out, hB6.out, Lib.hid hxl.out.2⟩
              case measure => simp [lenOf]
            · rw [if_neg hc1] at hd
              replace hd := Lib.hid hd
              go_wp2
              go_roundw
              case rel => exact ⟨_, _, _, hd.out, hRb.out, hS6.out, hr2.out, hB6.out, Lib.hid hxl.out.2⟩
              case measure => simp [lenOf]

end Go.Proofs.YtemdinjiplglgaaGreat

namespace Go.Proofs.YtemdinjiplglgaaGreat
open Go.RowKit

theorem le_cmpB : ∀ {a b : Bytes}, a ≤ b → cmpB a b ≤ 0
  | [], [], _ => by simp [cmpB]
  | [], _ :: _, _ => by simp [cmpB]
  | _ :: _, [], h => by simp at h
  | a :: x, b :: y, h => by
    simp only [cmpB]
    rcases List.cons_le_cons_iff.1 h with h1 | ⟨rfl, h1⟩
    · rw [if_pos h1]
      decide
    · rw [if_neg (UInt8.lt_irrefl a), if_neg (UInt8.lt_irrefl a)]
      exact le_cmpB h1

theorem cmpP_part {a b : Bytes} (ha : a ≠ [] ∧ (47 : UInt8) ∉ a) (hb : b ≠ [] ∧ (47 : UInt8) ∉ b) (h : cmpB a b ≤ 0) : cmpP a b ≤ 0 := by
  unfold cmpP
  rw [split_ne ha.1, split_ne hb.1, splitL_one ha.2, splitL_one hb.2]
  rcases cmpB_range a b with e | e | e
  · simp [cmpL, e]
  · simp [cmpL, e]
  · omega

theorem sortB_sortP {l : List Bytes} (h : ∀ x ∈ l, x ≠ [] ∧ (47 : UInt8) ∉ x) : sortB l = sortP l := by
  refine sortP_eq (sortB_perm l) ?_
  refine List.Pairwise.imp_of_mem ?_ (sortB_sorted l)
  intro a b ha hb hab
  exact cmpP_part (h a ((sortB_perm l).mem_iff.1 ha)) (h b ((sortB_perm l).mem_iff.1 hb)) (le_cmpB hab)

theorem right_len {s : Bytes} (h : right s = true) : s.length ≤ 200 := by
  simp only [right, Bool.and_eq_true, decide_eq_true_eq] at h
  exact h.2

/-- What In collects. -/
def inL (l : List (Pt × Nat)) (s : Bytes) : List Bytes := (l.filter fun x => decide (parent (glue x.1) = s)).map fun x => base (glue x.1)

section
variable {T : Fs}

theorem rest_path (hI : T.Inv) {r : List (Pt × Nat)} (hr : T.names = ([], 1) :: r) {x : Pt × Nat} (hx : x ∈ r) : Pth x.1 ∧ x.1 ≠ [] := by
  have hm : (x.1, x.2) ∈ T.names := by rw [hr]; exact List.mem_cons_of_mem _ hx
  refine ⟨hI.pth _ _ hm, fun e => ?_⟩
  have hnd := hI.nodup
  rw [hr, List.map_cons] at hnd
  exact (List.nodup_cons.1 hnd).1 (by rw [← e]; exact List.mem_map.2 ⟨x, hx, rfl⟩)

theorem in_kids (hI : T.Inv) {r : List (Pt × Nat)} (hr : T.names = ([], 1) :: r) (s : Bytes) : inL r s = (T.kids (split s)).map (·.1) := by
  have hk : T.kids (split s) = kidsL r (split s) := by
    unfold Fs.kids
    rw [hr]
    simp [kidsL, kidOf]
  rw [hk]
  have hp : ∀ x ∈ r, Pth x.1 ∧ x.1 ≠ [] := fun x hx => rest_path hI hr hx
  clear hk hr
  induction r with
  | nil => rfl
  | cons x r ih =>
    obtain ⟨h1, h2⟩ := hp x (List.mem_cons_self ..)
    have ih := ih fun y hy => hp y (List.mem_cons_of_mem _ hy)
    obtain ⟨g1, g2⟩ := h1.text
    have hpar : parent (glue x.1) = s ↔ x.1.dropLast = split s := by
      have e : split (parent (glue x.1)) = x.1.dropLast := by rw [split_parent g1, g2]
      constructor
      · rintro rfl
        exact e.symm
      · intro h
        rw [← e] at h
        exact split_inj h
    have hbase : base (glue x.1) = x.1.getLastD [] := by unfold base; rw [g2]
    unfold inL kidsL at ih ⊢
    by_cases hc : parent (glue x.1) = s
    · rw [List.filter_cons_of_pos (by simpa using hc), List.map_cons, ih, hbase, List.filterMap_cons]
      have : kidOf (split s) x = some (x.1.getLastD [], x.2) := if_pos ⟨h2, hpar.1 hc⟩
      rw [this]
      rfl
    · rw [List.filter_cons_of_neg (by simpa using hc), ih, List.filterMap_cons]
      have : kidOf (split s) x = none := if_neg fun h => hc (hpar.2 h.2)
      rw [this]

theorem kids_parts (hI : T.Inv) {p : Pt} {x : Bytes} (hx : x ∈ (T.kids p).map (·.1)) : x ≠ [] ∧ (47 : UInt8) ∉ x := by
  obtain ⟨⟨y, i⟩, hy, rfl⟩ := List.mem_map.1 hx
  have hm := mem_kidsL.1 hy
  obtain ⟨s, h1, h2⟩ := hI.pth _ _ hm
  have hy2 : y ∈ split s := by rw [h2]; simp
  exact ⟨partOk_ne (right_part h1 y hy2), split_parts s y hy2⟩

theorem in_sorted (hI : T.Inv) {r : List (Pt × Nat)} (hr : T.names = ([], 1) :: r) (s : Bytes) : sortP (inL r s) = sortB ((T.kids (split s)).map (·.1)) := by
  rw [in_kids hI hr s, sortB_sortP fun x hx => kids_parts hI hx]

theorem paths_rest (hI : T.Inv) {r : List (Pt × Nat)} (hr : T.names = ([], 1) :: r) : T.paths = sortP (r.map fun x => glue x.1) := by
  obtain ⟨r', h1, h2⟩ := below_top_map hI
  have : r' = r := by rw [hr] at h1; exact (List.cons.inj h1).2.symm
  unfold Fs.paths
  rw [h2, this]

/-- The names of one thing. -/
def nmL (l : List (Pt × Nat)) (i : Nat) : List Bytes := (l.filter fun x => decide (x.2 = i)).map fun x => glue x.1

theorem filter_one {l : List (Pt × Nat)} (hnd : (l.map (·.1)).Nodup) {p : Pt} {i : Nat} (hm : (p, i) ∈ l) (h1 : ∀ q, (q, i) ∈ l → q = p) : (l.filter fun x => decide (x.2 = i)) = [(p, i)] := by
  induction l with
  | nil => cases hm
  | cons x l ih =>
    obtain ⟨q, j⟩ := x
    rw [List.map_cons] at hnd
    obtain ⟨n1, n2⟩ := List.nodup_cons.1 hnd
    by_cases hj : j = i
    · subst hj
      have hq := h1 q (List.mem_cons_self ..)
      subst hq
      rw [List.filter_cons_of_pos (by simp)]
      have : (l.filter fun x => decide (x.2 = j)) = [] := by
        rw [List.filter_eq_nil_iff]
        rintro ⟨q', j'⟩ hx hj'
        simp only [decide_eq_true_eq] at hj'
        subst hj'
        have := h1 q' (List.mem_cons_of_mem _ hx)
        subst this
        exact n1 (List.mem_map.2 ⟨_, hx, rfl⟩)
      rw [this]
    · rw [List.filter_cons_of_neg (by simpa using hj)]
      rcases List.mem_cons.1 hm with h | h
      · cases h
        exact absurd rfl hj
      · exact ih n2 h fun q' hq' => h1 q' (List.mem_cons_of_mem _ hq')

theorem nmL_names (hI : T.Inv) {s : Bytes} {i : Nat} (hr : right s = true) (hs : s ≠ []) (hm : (split s, i) ∈ T.names) : sortP (nmL T.names i) = T.nameList s := by
  obtain ⟨h1, h2⟩ := there_name hI hr hm
  unfold Fs.nameList
  rw [if_neg (by simp [h2, hs]), h1]
  dsimp only
  by_cases hk : (T.nd i).kind = 1
  · rw [if_pos hk]
    obtain ⟨r, hr1, hr2⟩ := below_top_map hI
    rw [hr2, hr1]
    unfold nmL
    have hi1 : i ≠ 1 := fun e => by
      subst e
      rw [hI.topKind] at hk
      cases hk
    rw [List.filter_cons_of_neg (by simpa using fun e => hi1 e.symm)]
  · rw [if_neg hk]
    unfold nmL
    rw [filter_one hI.nodup hm (fun q hq => hI.single _ _ hm hk q hq)]
    rw [List.map_cons, List.map_nil, glue_split]
    exact sortP_short (by simp)

theorem links_one (hI : T.Inv) {p : Pt} {i : Nat} (hm : (p, i) ∈ T.names) (hk : (T.nd i).kind ≠ 1) : (T.nd i).links = 1 := by
  rw [hI.links _ _ hm]
  unfold namesOf
  rw [filter_one hI.nodup hm (fun q hq => hI.single _ _ hm hk q hq)]
  rfl
theorem links_names (hI : T.Inv) {s : Bytes} {i : Nat} (hr : right s = true) (hm : (split s, i) ∈ T.names) (hk : (T.nd i).kind = 1) : ((T.nameList s).length : Int) = (T.nd i).links := by
  have hs : s ≠ [] := fun e => by
    subst e
    have h1 := hI.at_some.2 hm
    rw [split_nil, hI.at_top] at h1
    cases h1
    rw [hI.topKind] at hk
    cases hk
  rw [← nmL_names hI hr hs hm, (sortP_perm _).length_eq, hI.links _ _ hm]
  unfold nmL namesOf
  rw [List.length_map]

theorem data_file (hI : T.Inv) {p : Pt} {i : Nat} (hm : (p, i) ∈ T.names) : T.size p i = if (T.nd i).kind = 2 then ((T.kids p).length : Int) else if (T.nd i).kind = 3 then ((T.nd i).target.length : Int) else ((T.nd i).data.length : Int) := by
  unfold Fs.size
  rcases hI.kinds _ _ hm with h | h | h <;> simp [h]
end

end Go.Proofs.YtemdinjiplglgaaGreat

namespace Go.Proofs.YtemdinjiplglgaaGreat
open Go.RowKit

section
variable (rb : Nat) (v : Value) (A : Nat → Nat) (T : Fs)

set_option maxHeartbeats 1000000 in
set_option maxRecDepth 100000 in
theorem rthere_calls (s : ByteArray) (w : World) (hR : RRep w rb v A T) (hs : s.size ≤ 16777216) :
    Calls Tryz.prog 101 #[ptr rb, .string s] w fun e w' => e = .returned (.tuple #[optPtr A (T.there (bl s)).1, .int .i64 (T.there (bl s)).2.2]) ∧ Below w.heap.size w w' := by
  have h1 := rlook_calls rb v A T s w hR hs
  unfold Fs.there
  generalize T.look (bl s) = lk at *
  obtain ⟨n, d, e⟩ := lk
  dsimp only at *
  unfold ptr at *
  by_cases he : e = 0
  · subst he
    cases n with
    | none =>
      rw [optPtr_none] at h1
      rw [if_pos ⟨rfl, rfl⟩]
      replace h1 := Lib.hid h1
      replace hR := Lib.hid hR
      go_enter Tryz.func101, Tryz.ntmps101
      go_wp2_with fail
      (with_reducible refine (h1.out).mono ?_)
      rintro e w1 ⟨rfl, hB⟩
      replace hB := Lib.hid hB
      go_wp2
      go_ret2
      exact ⟨rfl, hB.out⟩
    | some i =>
      rw [optPtr_some] at h1
      rw [if_neg (by simp)]
      replace h1 := Lib.hid h1
      replace hR := Lib.hid hR
      go_enter Tryz.func101, Tryz.ntmps101
      go_wp2_with fail
      (with_reducible refine (h1.out).mono ?_)
      rintro e w1 ⟨rfl, hB⟩
      replace hB := Lib.hid hB
      go_wp2
      go_ret2
      exact ⟨rfl, hB.out⟩
  · have he2 : (e == 0) = false := by simpa using he
    rw [if_neg (fun h => he h.1)]
    replace h1 := Lib.hid h1
    replace hR := Lib.hid hR
    replace he := Lib.hid he
    go_enter Tryz.func101, Tryz.ntmps101
    go_wp2_with fail
    (with_reducible refine (h1.out).mono ?_)
    rintro e w1 ⟨rfl, hB⟩
    replace hB := Lib.hid hB
    go_wp2
    go_ret2
    exact ⟨rfl, hB.out⟩

theorem base_le (s : Bytes) : (base s).length ≤ s.length := by
  rcases parent_at (mkS s) with ⟨_, _, h⟩ | ⟨i, _, _, _, h⟩
  · rw [bl_mkS] at h
    rw [h]
    exact Nat.le_refl _
  · rw [bl_mkS] at h
    rw [h]
    simp

/-- A file that is there. -/
def Fs.fileOk (T : Fs) (s : Bytes) : Option Nat := if (T.file s).2 = 0 then (T.file s).1 else none

theorem file_there {T : Fs} (hI : T.Inv) (s : Bytes) : ((T.there s).2.2 ≠ 0 ∧ T.file s = (none, (T.there s).2.2)) ∨ (∃ i, (T.there s).2.2 = 0 ∧ (T.there s).1 = some i ∧ (split s, i) ∈ T.names ∧ right s = true ∧ T.file s = (some i, notFile (T.nd i))) := by
  by_cases hz : (T.there s).2.2 = 0
  · obtain ⟨hr, i, h1, h2⟩ := there_zero hI hz
    refine Or.inr ⟨i, hz, h1, h2, hr, ?_⟩
    unfold Fs.file
    rw [if_pos hz, h1]
  · refine Or.inl ⟨hz, ?_⟩
    unfold Fs.file
    rw [if_neg hz]

set_option maxHeartbeats 1000000 in
set_option maxRecDepth 100000 in
theorem rfile_calls (s : ByteArray) (w : World) (hR : RRep w rb v A T) (hs : s.size ≤ 16777216) :
    Calls Tryz.prog 100 #[ptr rb, .string s] w fun e w' => e = .returned (.tuple #[optPtr A (T.fileOk (bl s)), .int .i64 (T.file (bl s)).2]) ∧ Below w.heap.size w w' := by
  have h1 := rthere_calls rb v A T s w hR hs
  unfold Fs.fileOk
  unfold ptr at *
  rcases file_there hR.inv (bl s) with ⟨hz, hf⟩ | ⟨i, hz, h2, hm, _, hf⟩
  · rw [hf]
    dsimp only
    rw [if_neg hz]
    generalize (T.there (bl s)).2.2 = e at *
    generalize (T.there (bl s)).1 = n at *
    have he2 : (e == 0) = false := by simpa using hz
    have he3 : (e != 0) = true := by simpa using hz
    have hn : ∃ a, optPtr A n = .pointer a := by cases n <;> exact ⟨_, rfl⟩
    obtain ⟨a, hn⟩ := hn
    rw [hn] at h1
    replace h1 := Lib.hid h1
    replace hR := Lib.hid hR
    replace hz := Lib.hid hz
    replace hf := Lib.hid hf
    replace hn := Lib.hid hn
    go_enter Tryz.func100, Tryz.ntmps100
    go_wp2_with fail
    (with_reducible refine (h1.out).mono ?_)
    rintro e w1 ⟨rfl, hB⟩
    replace hB := Lib.hid hB
    go_wp2
    go_ret2
    exact ⟨rfl, hB.out⟩
  · rw [hz, h2, optPtr_some] at h1
    rw [hf]
    dsimp only
    have hk := hR.inv.kinds _ _ hm
    replace hf := Lib.hid hf
    replace hz := Lib.hid hz
    replace h2 := Lib.hid h2
    rcases hk with hk | hk | hk
    · have hnf : notFile (T.nd i) = 0 := by unfold notFile; rw [hk]; rfl
      rw [hnf]
      replace h1 := Lib.hid h1
      replace hnf := Lib.hid hnf
      go_enter Tryz.func100, Tryz.ntmps100
      go_wp2_with fail
      (with_reducible refine (h1.out).mono ?_)
      rintro e w1 ⟨rfl, hB⟩
      obtain ⟨dv, _, c0, _⟩ := (hR.below hB).cells ⟨_, hm⟩
      rw [hk] at c0
      replace hB := Lib.hid hB
      replace hk := Lib.hid hk
      replace hR := Lib.hid hR
      go_wp2
      go_ret2
      exact ⟨rfl, hB.out⟩
    · have hnf : notFile (T.nd i) = 13 := by unfold notFile; rw [hk]; rfl
      rw [hnf]
      replace h1 := Lib.hid h1
      replace hnf := Lib.hid hnf
      go_enter Tryz.func100, Tryz.ntmps100
      go_wp2_with fail
      (with_reducible refine (h1.out).mono ?_)
      rintro e w1 ⟨rfl, hB⟩
      obtain ⟨dv, _, c0, _⟩ := (hR.below hB).cells ⟨_, hm⟩
      rw [hk] at c0
      replace hB := Lib.hid hB
      replace hk := Lib.hid hk
      replace hR := Lib.hid hR
      go_wp2
      go_ret2
      exact ⟨rfl, hB.out⟩
    · have hnf : notFile (T.nd i) = 17 := by unfold notFile; rw [hk]; rfl
      rw [hnf]
      replace h1 := Lib.hid h1
      replace hnf := Lib.hid hnf
      go_enter Tryz.func100, Tryz.ntmps100
      go_wp2_with fail
      (with_reducible refine (h1.out).mono ?_)
      rintro e w1 ⟨rfl, hB⟩
      obtain ⟨dv, _, c0, _⟩ := (hR.below hB).cells ⟨_, hm⟩
      rw [hk] at c0
      replace hB := Lib.hid hB
      replace hk := Lib.hid hk
      replace hR := Lib.hid hR
      go_wp2
      go_ret2
      exact ⟨rfl, hB.out⟩

set_option maxHeartbeats 2000000 in
set_option maxRecDepth 100000 in
theorem rin_calls (s : ByteArray) (w : World) (hR : RRep w rb v A T) (hf : T.names.length ≤ 1000000) :
    Calls Tryz.prog 102 #[ptr rb, .string s] w fun e w' => (∃ v', e = .returned v' ∧ Strs w.heap.size w' v' (sortB ((T.kids (split (bl s))).map (·.1)))) ∧ Below w.heap.size w w' := by
  have hI := hR.inv
  obtain ⟨r, hr⟩ := hI.top
  have hin := in_sorted hI hr (bl s)
  have hrl : T.names.length = r.length + 1 := by rw [hr]; rfl
  have hrl2 : r.length ≤ 999999 := by omega
  have hrp : ∀ x ∈ r, Pth x.1 ∧ x.1 ≠ [] := fun x hx => rest_path hI hr hx
  obtain ⟨g, c, rfl, hc1, hc2, hp, t0, hcs⟩ := hR.at_
  unfold maxLen at hc2
  have hcs2 : ∀ k (hk : k < r.length), w.cell? ⟨g, (k + 1) * 2, none⟩ = some (.string (mkS (glue (r[k]).1))) := fun k hk => (hcs (k + 1) _ (by rw [hr, List.getElem?_cons_succ, List.getElem?_eq_getElem hk])).1
  rw [← hin]
  rw [hrl] at *
  have hnil : w.ownsRow w.heap.size 9 1 (.slice none 0 0) 0 [] := ⟨rfl, Or.inl ⟨rfl, rfl⟩⟩
  unfold ptr at *
  replace hR := Lib.hid hR
  replace hcs := Lib.hid hcs
  replace hcs2 := Lib.hid hcs2
  replace hr := Lib.hid hr
  replace hin := Lib.hid hin
  replace hI := Lib.hid hI
  replace hrp := Lib.hid hrp
  replace hnil := Lib.hid hnil
  clear hrl
  go_enter Tryz.func102, Tryz.ntmps102
  go_wp2
  go_loopw [5, 6] (fun o i wr => ∃ k : Nat, i = .int .i64 ((k : Int) + 1) ∧ k ≤ r.length ∧ Strs w.heap.size wr o (inL (r.take k) (bl s)) ∧ Below w.heap.size w wr) (fun _ i _ => (r.length + 1) - (intOf i).toNat)
  case atStart => exact ⟨0, rfl, Nat.zero_le _, hnil.out, Below.refl _ _⟩
  case round =>
    obtain ⟨k, rfl, hk, hS, hB⟩ := hrel
    have hil : (inL (r.take k) (bl s)).length ≤ 1000000 := by
      unfold inL
      rw [List.length_map]
      have h1 := List.length_filter_le (fun x : Pt × Nat => decide (parent (glue x.1) = bl s)) (r.take k)
      have h2 : (r.take k).length ≤ k := List.length_take_le _ _
      omega
    by_cases hlt : k < r.length
    · have ck := (hB.cell (cell_lt (hcs2.out k hlt))).trans (hcs2.out k hlt)
      have t1 := (hB.cell (cell_lt t0)).trans t0
      obtain ⟨hpx, hpn⟩ := hrp.out r[k] (List.getElem_mem hlt)
      have hgl : (glue (r[k]).1).length ≤ 200 := right_len hpx.text.1
      have hsn : inL (r.take (k + 1)) (bl s) = inL (r.take k) (bl s) ++ if parent (glue (r[k]).1) = bl s then [base (glue (r[k]).1)] else [] := by
        rw [List.take_succ_eq_append_getElem hlt]
        unfold inL
        rw [List.filter_append, List.map_append]
        congr 1
        by_cases h : parent (glue (r[k]).1) = bl s <;> simp [h]
      generalize glue (r[k]).1 = x at *
      have hxz := mkS_size x
      have hpar := fun W => refparent_calls (mkS x) W (by omega)
      have hbas := fun W => refbase_calls (mkS x) W (by omega)
      rw [bl_mkS] at hpar hbas
      obtain ⟨oA, oc, ho, ho1, ho2⟩ := own_shape hS.own
      subst ho
      unfold maxLen at ho2
      have hi1 : (k : Int) + 1 < (r.length : Int) + 1 := by omega
      have hwr : IntKind.i64.wrap ((k : Int) + 1) = (k : Int) + 1 := IntWalk.i64_in _ (by omega)
      have hnt : ((k : Int) + 1).toNat = k + 1 := by omega
      by_cases hpe : parent x = bl s
      · have t2 : ((mkS (parent x)).toList == s.toList) = true := by rw [toList_bl, toList_bl, bl_mkS, hpe]; simp
        rw [if_pos hpe] at hsn
        replace hS := Lib.hid hS
        replace hB := Lib.hid hB
        replace hsn := Lib.hid hsn
        replace hpe := Lib.hid hpe
        replace hpar := Lib.hid hpar
        replace hbas := Lib.hid hbas
        replace hpx := Lib.hid hpx
        go_wp2_with fail
        (with_reducible refine (hpar.out _).mono ?_)
        rintro e w1 ⟨rfl, hB1⟩
        have hB01 := below_step hB.out hB1
        have ck1 := (hB1.cell (cell_lt ck)).trans ck
        have t3 := (hB1.cell (cell_lt t1)).trans t1
        have hS1 := own_below hS.out hB1
        replace hB01 := Lib.hid hB01
        replace hS1 := Lib.hid hS1
        clear hB1 ck t1
        go_wp2_with fail
        (with_reducible refine (hbas.out _).mono ?_)
        rintro e w2 ⟨rfl, hB2⟩
        have hB02 := below_step hB01.out hB2
        have hS2 := own_below hS1.out hB2
        replace hB02 := Lib.hid hB02
        replace hS2 := Lib.hid hS2
        clear hB2 ck1 t3
        go_wp2_with (at_builtin; refine wp_append1 w.heap.size rfl (.tmp 27) (.tmp 37) 45 9 rfl Tryz.underlying45 (.string ⟨#[]⟩) 1 16 info_string rfl (by decide) (.slice oA (inL (r.take k) (bl s)).length oc) _ _ rfl [.string (mkS (base x))] rfl hS2.out rfl ?_ ?_ ?_ hB02.out.size ?_)
        · simp [Value.oneCell']
        · simp only [maxLen]; omega
        · omega
        · intro v1 w3 h1 hg hat
          have hS3 : Strs w.heap.size w3 v1 (inL (r.take k) (bl s) ++ [base x]) := Strs.snoc h1
          have hB3 := hB02.out.grown hg hB02.out.size (own_base hS2.out)
          replace hS3 := Lib.hid hS3
          replace hB3 := Lib.hid hB3
          clear h1 hg hat
          go_wp2
          go_roundw
          case rel => exact ⟨k + 1, by go_num, by omega, by rw [hsn.out]; exact hS3.out, hB3.out⟩
          case measure => simp [intOf]; omega
      · have t2 : ((mkS (parent x)).toList == s.toList) = false := by rw [toList_bl, toList_bl, bl_mkS]; simpa using hpe
        rw [if_neg hpe, List.append_nil] at hsn
        replace hS := Lib.hid hS
        replace hB := Lib.hid hB
        replace hsn := Lib.hid hsn
        replace hpe := Lib.hid hpe
        replace hpar := Lib.hid hpar
        replace hbas := Lib.hid hbas
        replace hpx := Lib.hid hpx
        go_wp2_with fail
        (with_reducible refine (hpar.out _).mono ?_)
        rintro e w1 ⟨rfl, hB1⟩
        have hB01 := below_step hB.out hB1
        have hS1 := own_below hS.out hB1
        replace hB01 := Lib.hid hB01
        replace hS1 := Lib.hid hS1
        clear hB1 ck t1
        go_wp2
        go_roundw
        case rel => exact ⟨k + 1, by go_num, by omega, by rw [hsn.out]; exact hS1.out, hB01.out⟩
        case measure => simp [intOf]; omega
    · obtain rfl : k = r.length := by omega
      rw [List.take_length] at hS hil
      have t1 := (hB.cell (cell_lt t0)).trans t0
      have hso := refsort_calls _ _ _ wr (Nat.le_refl _) hS.rd hil (fun y hy => by
        unfold inL at hy
        obtain ⟨x, hx, rfl⟩ := List.mem_map.1 hy
        have hx2 := (hrp.out x (List.mem_filter.1 hx).1).1
        have := right_len hx2.text.1
        have h3 : (base (glue x.1)).length ≤ (glue x.1).length := base_le _
        omega)
      obtain ⟨oA, oc, ho, ho1, ho2⟩ := own_shape hS.own
      subst ho
      unfold maxLen at ho2
      replace hS := Lib.hid hS
      replace hB := Lib.hid hB
      replace hso := Lib.hid hso
      go_wp2_with fail
      (with_reducible refine (hso.out).mono ?_)
      rintro e w1 ⟨⟨v2, rfl, hS2⟩, hB2⟩
      obtain ⟨oA2, oc2, ho2', _, _⟩ := own_shape hS2.own
      subst ho2'
      replace hS2 := Lib.hid hS2
      replace hB2 := Lib.hid hB2
      go_wp2
      go_ret
      exact ⟨⟨_, rfl, own_low hS2.out.own hB.out.size⟩, below_step hB.out hB2.out⟩

end

end Go.Proofs.YtemdinjiplglgaaGreat

namespace Go.Proofs.YtemdinjiplglgaaGreat
open Go.RowKit

/-- The texts of names. -/
def glL (l : List (Pt × Nat)) : List Bytes := l.map fun x => glue x.1

section
variable (rb : Nat) (v : Value) (A : Nat → Nat) (T : Fs)


set_option maxHeartbeats 2000000 in
set_option maxRecDepth 100000 in
theorem rpaths_calls (w : World) (hR : RRep w rb v A T) (hf : T.names.length ≤ 1000000) :
    Calls Tryz.prog 20 #[ptr rb] w fun e w' => (∃ v', e = .returned v' ∧ Strs w.heap.size w' v' T.paths) ∧ Below w.heap.size w w' := by
  have hI := hR.inv
  obtain ⟨r, hr⟩ := hI.top
  have hin := paths_rest hI hr
  have hrl : T.names.length = r.length + 1 := by rw [hr]; rfl
  have hrl2 : r.length ≤ 999999 := by omega
  have hrp : ∀ x ∈ r, Pth x.1 ∧ x.1 ≠ [] := fun x hx => rest_path hI hr hx
  obtain ⟨g, c, rfl, hc1, hc2, hp, t0, hcs⟩ := hR.at_
  unfold maxLen at hc2
  have hcs2 : ∀ k (hk : k < r.length), w.cell? ⟨g, (k + 1) * 2, none⟩ = some (.string (mkS (glue (r[k]).1))) := fun k hk => (hcs (k + 1) _ (by rw [hr, List.getElem?_cons_succ, List.getElem?_eq_getElem hk])).1
  rw [hin]
  change Calls Tryz.prog 20 #[ptr rb] w fun e w' => (∃ v', e = .returned v' ∧ Strs w.heap.size w' v' (sortP (glL r))) ∧ Below w.heap.size w w'
  rw [hrl] at *
  have hnil : w.ownsRow w.heap.size 9 1 (.slice none 0 0) 0 [] := ⟨rfl, Or.inl ⟨rfl, rfl⟩⟩
  unfold ptr at *
  replace hR := Lib.hid hR
  replace hcs := Lib.hid hcs
  replace hcs2 := Lib.hid hcs2
  replace hr := Lib.hid hr
  replace hin := Lib.hid hin
  replace hI := Lib.hid hI
  replace hrp := Lib.hid hrp
  replace hnil := Lib.hid hnil
  clear hrl
  go_enter Tryz.func20, Tryz.ntmps20
  go_wp2
  go_loopw [3, 4] (fun o i wr => ∃ k : Nat, i = .int .i64 ((k : Int) + 1) ∧ k ≤ r.length ∧ Strs w.heap.size wr o (glL (r.take k)) ∧ Below w.heap.size w wr) (fun _ i _ => (r.length + 1) - (intOf i).toNat)
  case atStart => exact ⟨0, rfl, Nat.zero_le _, hnil.out, Below.refl _ _⟩
  case round =>
    obtain ⟨k, rfl, hk, hS, hB⟩ := hrel
    have hil : (glL (r.take k)).length ≤ 1000000 := by
      unfold glL
      rw [List.length_map]
      have h2 : (r.take k).length ≤ k := List.length_take_le _ _
      omega
    by_cases hlt : k < r.length
    · have ck := (hB.cell (cell_lt (hcs2.out k hlt))).trans (hcs2.out k hlt)
      have t1 := (hB.cell (cell_lt t0)).trans t0
      have hsn : glL (r.take (k + 1)) = glL (r.take k) ++ [glue (r[k]).1] := by
        rw [List.take_succ_eq_append_getElem hlt]
        unfold glL
        rw [List.map_append]
        rfl
      generalize glue (r[k]).1 = x at *
      obtain ⟨oA, oc, ho, ho1, ho2⟩ := own_shape hS.own
      subst ho
      unfold maxLen at ho2
      have hi1 : (k : Int) + 1 < (r.length : Int) + 1 := by omega
      have hwr : IntKind.i64.wrap ((k : Int) + 1) = (k : Int) + 1 := IntWalk.i64_in _ (by omega)
      have hnt : ((k : Int) + 1).toNat = k + 1 := by omega
      replace hS := Lib.hid hS
      replace hB := Lib.hid hB
      replace hsn := Lib.hid hsn
      go_wp2_with (at_builtin; refine wp_append1 w.heap.size rfl (.tmp 14) (.tmp 23) 45 9 rfl Tryz.underlying45 (.string ⟨#[]⟩) 1 16 info_string rfl (by decide) (.slice oA (glL (r.take k)).length oc) _ _ rfl [.string (mkS x)] rfl hS.out rfl ?_ ?_ ?_ hB.out.size ?_)
      · simp [Value.oneCell']
      · simp only [maxLen]; omega
      · omega
      · intro v1 w3 h1 hg hat
        have hS3 : Strs w.heap.size w3 v1 (glL (r.take k) ++ [x]) := Strs.snoc h1
        have hB3 := hB.out.grown hg hB.out.size (own_base hS.out)
        replace hS3 := Lib.hid hS3
        replace hB3 := Lib.hid hB3
        clear h1 hg hat
        go_wp2
        go_roundw
        case rel => exact ⟨k + 1, by go_num, by omega, by rw [hsn.out]; exact hS3.out, hB3.out⟩
        case measure => simp [intOf]; omega
    · obtain rfl : k = r.length := by omega
      rw [List.take_length] at hS hil
      have t1 := (hB.cell (cell_lt t0)).trans t0
      have hso := refsort_calls _ _ _ wr (Nat.le_refl _) hS.rd hil (fun y hy => by
        unfold glL at hy
        obtain ⟨x, hx, rfl⟩ := List.mem_map.1 hy
        have := right_len (hrp.out x hx).1.text.1
        omega)
      obtain ⟨oA, oc, ho, ho1, ho2⟩ := own_shape hS.own
      subst ho
      unfold maxLen at ho2
      replace hS := Lib.hid hS
      replace hB := Lib.hid hB
      replace hso := Lib.hid hso
      go_wp2_with fail
      (with_reducible refine (hso.out).mono ?_)
      rintro e w1 ⟨⟨v2, rfl, hS2⟩, hB2⟩
      obtain ⟨oA2, oc2, ho2', _, _⟩ := own_shape hS2.own
      subst ho2'
      replace hS2 := Lib.hid hS2
      replace hB2 := Lib.hid hB2
      go_wp2
      go_ret
      exact ⟨⟨_, rfl, own_low hS2.out.own hB.out.size⟩, below_step hB.out hB2.out⟩

set_option maxHeartbeats 2000000 in
set_option maxRecDepth 100000 in
theorem rnames_calls (s : ByteArray) (w : World) (hR : RRep w rb v A T) (hs : s.size ≤ 16777216) (hf : T.names.length ≤ 1000000) :
    Calls Tryz.prog 66 #[ptr rb, .string s] w fun e w' => (∃ v', e = .returned v' ∧ Strs w.heap.size w' v' (T.nameList (bl s))) ∧ Below w.heap.size w w' := by
  have hI := hR.inv
  have h1 := rthere_calls rb v A T s w hR hs
  have hnil0 : ∀ (B : Nat) (W : World), Strs B W (.slice none 0 0) [] := fun B W => ⟨rfl, Or.inl ⟨rfl, rfl⟩⟩
  have hse := str_nil s
  rcases file_there hI (bl s) with ⟨hz, _⟩ | ⟨i, hz, h2, hm, hrs, _⟩
  · have hnl : T.nameList (bl s) = [] := by unfold Fs.nameList; rw [if_pos (Or.inl hz)]
    rw [hnl]
    have he2 : ((T.there (bl s)).2.2 == 0) = false := by simpa using hz
    have he3 : ((T.there (bl s)).2.2 != 0) = true := by simpa using hz
    generalize (T.there (bl s)).2.2 = e at *
    generalize (T.there (bl s)).1 = n at *
    have hn : ∃ a, optPtr A n = .pointer a := by cases n <;> exact ⟨_, rfl⟩
    obtain ⟨a, hn⟩ := hn
    rw [hn] at h1
    unfold ptr at *
    replace h1 := Lib.hid h1
    replace hR := Lib.hid hR
    replace hz := Lib.hid hz
    replace hn := Lib.hid hn
    replace hnil0 := Lib.hid hnil0
    replace hse := Lib.hid hse
    replace hnl := Lib.hid hnl
    replace hI := Lib.hid hI
    go_enter Tryz.func66, Tryz.ntmps66
    go_wp2_with fail
    (with_reducible refine (h1.out).mono ?_)
    rintro e w1 ⟨rfl, hB⟩
    replace hB := Lib.hid hB
    go_wp2
    go_ret
    exact ⟨⟨_, rfl, hnil0.out _ _⟩, hB.out⟩
  · rw [hz, h2, optPtr_some] at h1
    by_cases hs0 : bl s = []
    · have hnl : T.nameList (bl s) = [] := by unfold Fs.nameList; rw [if_pos (Or.inr hs0)]
      rw [hnl]
      have he2 : s.toList.isEmpty = true := by rw [hse]; simpa using hs0
      unfold ptr at *
      replace h1 := Lib.hid h1
      replace hR := Lib.hid hR
      replace hz := Lib.hid hz
      replace hnil0 := Lib.hid hnil0
      replace hse := Lib.hid hse
      replace hnl := Lib.hid hnl
      replace hI := Lib.hid hI
      replace hs0 := Lib.hid hs0
      replace h2 := Lib.hid h2
      go_enter Tryz.func66, Tryz.ntmps66
      go_wp2_with fail
      (with_reducible refine (h1.out).mono ?_)
      rintro e w1 ⟨rfl, hB⟩
      replace hB := Lib.hid hB
      go_wp2
      go_ret
      exact ⟨⟨_, rfl, hnil0.out _ _⟩, hB.out⟩
    · have he2 : s.toList.isEmpty = false := by rw [hse]; simpa using hs0
      have hin := nmL_names hI hrs hs0 hm
      have hpt := hI.pth
      have hlv : ∀ k (hk : k < T.names.length), T.Live (T.names[k]).2 := fun k hk => ⟨(T.names[k]).1, List.getElem_mem hk⟩
      rw [← hin]
      unfold ptr at *
      replace h1 := Lib.hid h1
      replace hz := Lib.hid hz
      replace hnil0 := Lib.hid hnil0
      replace hse := Lib.hid hse
      replace hI := Lib.hid hI
      replace hs0 := Lib.hid hs0
      replace h2 := Lib.hid h2
      replace hin := Lib.hid hin
      replace hpt := Lib.hid hpt
      replace hlv := Lib.hid hlv
      go_enter Tryz.func66, Tryz.ntmps66
      go_wp2_with fail
      (with_reducible refine (h1.out).mono ?_)
      rintro e w1 ⟨rfl, hB1⟩
      have hR1 := hR.below hB1
      obtain ⟨g, c, rfl, hc1, hc2, hp, t0, hcs⟩ := hR1.at_
      unfold maxLen at hc2
      obtain ⟨dv, _, _, n1, _⟩ := hR1.cells ⟨_, hm⟩
      unfold ptr at hcs
      replace hR := Lib.hid hR
      replace hR1 := Lib.hid hR1
      replace hB1 := Lib.hid hB1
      replace hcs := Lib.hid hcs
      go_wp2
      go_loopw [7, 8] (fun o i' wr => ∃ k : Nat, i' = .int .i64 k ∧ k ≤ T.names.length ∧ Strs w1.heap.size wr o (nmL (T.names.take k) i) ∧ Below w1.heap.size w1 wr) (fun _ i' _ => T.names.length - (intOf i').toNat)
      case atStart => exact ⟨0, rfl, Nat.zero_le _, hnil0.out _ _, Below.refl _ _⟩
      case round =>
        obtain ⟨k, rfl, hk, hS, hB⟩ := hrel
        have hil : (nmL (T.names.take k) i).length ≤ 1000000 := by
          unfold nmL
          rw [List.length_map]
          have h1 := List.length_filter_le (fun x : Pt × Nat => decide (x.2 = i)) (T.names.take k)
          have h2 : (T.names.take k).length ≤ k := List.length_take_le _ _
          omega
        have hBw := below_step hB1.out hB
        have t1 := (hB.cell (cell_lt t0)).trans t0
        have n2 := (hB.cell (cell_lt n1)).trans n1
        by_cases hlt : k < T.names.length
        · obtain ⟨ca, cb⟩ := hcs.out k _ (List.getElem?_eq_getElem hlt)
          have ca1 := (hB.cell (cell_lt ca)).trans ca
          have cb1 := (hB.cell (cell_lt cb)).trans cb
          obtain ⟨dj, _, _, m1, _⟩ := (hR1.out.below hB).cells (hlv.out k hlt)
          have hsn : nmL (T.names.take (k + 1)) i = nmL (T.names.take k) i ++ if (T.names[k]).2 = i then [glue (T.names[k]).1] else [] := by
            rw [List.take_succ_eq_append_getElem hlt]
            unfold nmL
            rw [List.filter_append, List.map_append]
            congr 1
            by_cases h : (T.names[k]).2 = i <;> simp [h]
          generalize T.names[k] = y at *
          obtain ⟨q, j⟩ := y
          dsimp only at *
          generalize glue q = x at *
          obtain ⟨oA, oc, ho, ho1, ho2⟩ := own_shape hS.own
          subst ho
          unfold maxLen at ho2
          have hkn : (k : Int) < (T.names.length : Int) := by omega
          clear ca cb
          go_upto_region 8 with fail
          by_cases hji : j = i
          · have t2 : (j == i) = true := by simpa using hji
            have t3 : ((j : Int) == (i : Int)) = true := by rw [hji]; simp
            rw [if_pos hji] at hsn
            replace hS := Lib.hid hS
            replace hB := Lib.hid hB
            replace hsn := Lib.hid hsn
            replace hji := Lib.hid hji
            replace hBw := Lib.hid hBw
            go_quiet (fail)
            go_wp2_with (at_builtin; refine wp_append1 w1.heap.size rfl (.tmp 46) (.tmp 55) 45 9 rfl Tryz.underlying45 (.string ⟨#[]⟩) 1 16 info_string rfl (by decide) (.slice oA (nmL (T.names.take k) i).length oc) _ _ rfl [.string (mkS x)] rfl hS.out rfl ?_ ?_ ?_ hB.out.size ?_)
            · simp [Value.oneCell']
            · simp only [maxLen]; omega
            · omega
            · intro v1 w3 h1 hg hat
              have hS3 : Strs w1.heap.size w3 v1 (nmL (T.names.take k) i ++ [x]) := Strs.snoc h1
              have hB3 := (below_drewN hB.out _).grown hg hB.out.size (own_base hS.out)
              replace hS3 := Lib.hid hS3
              replace hB3 := Lib.hid hB3
              clear h1 hg hat
              go_wp2
              go_roundw
              case rel => exact ⟨k + 1, by go_num, by omega, by rw [hsn.out]; exact hS3.out, hB3.out⟩
              case measure => simp [intOf]; omega
          · have t2 : (j == i) = false := by simpa using hji
            have t3 : ((j : Int) == (i : Int)) = false := by simp only [beq_eq_false_iff_ne, ne_eq]; omega
            rw [if_neg hji, List.append_nil] at hsn
            replace hS := Lib.hid hS
            replace hB := Lib.hid hB
            replace hsn := Lib.hid hsn
            replace hji := Lib.hid hji
            replace hBw := Lib.hid hBw
            go_quiet (fail)
            go_wp2
            go_roundw
            case rel => exact ⟨k + 1, by go_num, by omega, by rw [hsn.out]; exact hS.out, below_drewN hB.out _⟩
            case measure => simp [intOf]; omega
        · obtain rfl : k = T.names.length := by omega
          rw [List.take_length] at hS hil
          have hso := refsort_calls _ _ _ wr (Nat.le_refl _) hS.rd hil (fun y hy => by
            unfold nmL at hy
            obtain ⟨x, hx, rfl⟩ := List.mem_map.1 hy
            have := right_len (hpt.out x.1 x.2 (List.mem_filter.1 hx).1).text.1
            omega)
          obtain ⟨oA, oc, ho, ho1, ho2⟩ := own_shape hS.own
          subst ho
          unfold maxLen at ho2
          replace hBw := Lib.hid hBw
          replace hS := Lib.hid hS
          replace hB := Lib.hid hB
          replace hso := Lib.hid hso
          go_wp2_with fail
          (with_reducible refine (hso.out).mono ?_)
          rintro e w2 ⟨⟨v2, rfl, hS2⟩, hB2⟩
          obtain ⟨oA2, oc2, ho2', _, _⟩ := own_shape hS2.own
          subst ho2'
          replace hS2 := Lib.hid hS2
          replace hB2 := Lib.hid hB2
          go_wp2
          go_ret
          exact ⟨⟨_, rfl, own_low hS2.out.own hBw.out.size⟩, below_step hBw.out hB2.out⟩

end

end Go.Proofs.YtemdinjiplglgaaGreat

namespace Go.Proofs.YtemdinjiplglgaaGreat
open Go.RowKit

theorem RdB.src {W : World} {v : Value} {l : Bytes} (h : RdB W v l) : Src W v 1 l.length (byteCells l) := by
  obtain ⟨A, c, rfl, h1, h2, hc⟩ := h
  by_cases hl : l = []
  · subst hl
    exact Or.inl ⟨rfl, rfl, A, c, rfl⟩
  · have hp : 0 < l.length := List.length_pos_iff.2 hl
    obtain ⟨g, o, rfl, _⟩ := hc 0 hp
    refine Or.inr ⟨_, c, rfl, by simp [byteCells], fun j u hj => ?_⟩
    have hlt : j < l.length := by have := (List.getElem?_eq_some_iff.1 hj).1; simpa [byteCells] using this
    obtain ⟨g', o', e, hcell⟩ := hc j hlt
    cases e
    have : u = .int .u8 (l[j]).toNat := by
      simp only [byteCells, List.getElem?_map, List.getElem?_eq_getElem hlt, Option.map_some, Option.some.injEq] at hj
      exact hj.symm
    rw [add_at, this]
    exact hcell

section
variable (rb : Nat) (v : Value) (A : Nat → Nat) (T : Fs)

set_option maxHeartbeats 1000000 in
set_option maxRecDepth 100000 in
theorem rlist_calls (s : ByteArray) (w : World) (hR : RRep w rb v A T) (hs : s.size ≤ 16777216) (hf : T.names.length ≤ 1000000) :
    Calls Tryz.prog 65 #[ptr rb, .string s] w fun e w' => (∃ v', e = .returned (.tuple #[v', .int .i64 (T.list (bl s)).2]) ∧ Strs w.heap.size w' v' (T.list (bl s)).1) ∧ Below w.heap.size w w' := by
  have hI := hR.inv
  have h1 := rthere_calls rb v A T s w hR hs
  have h2 := fun W hW => rin_calls rb v A T s W hW hf
  have hnil0 : ∀ (B : Nat) (W : World), Strs B W (.slice none 0 0) [] := fun B W => ⟨rfl, Or.inl ⟨rfl, rfl⟩⟩
  unfold Fs.list
  rcases file_there hI (bl s) with ⟨hz, _⟩ | ⟨i, hz, h3, hm, hrs, _⟩
  · rw [if_neg hz]
    dsimp only
    have he2 : ((T.there (bl s)).2.2 == 0) = false := by simpa using hz
    have he3 : ((T.there (bl s)).2.2 != 0) = true := by simpa using hz
    generalize (T.there (bl s)).2.2 = e at *
    generalize (T.there (bl s)).1 = n at *
    have hn : ∃ a, optPtr A n = .pointer a := by cases n <;> exact ⟨_, rfl⟩
    obtain ⟨a, hn⟩ := hn
    rw [hn] at h1
    unfold ptr at *
    replace h1 := Lib.hid h1
    replace h2 := Lib.hid h2
    replace hR := Lib.hid hR
    replace hz := Lib.hid hz
    replace hn := Lib.hid hn
    replace hnil0 := Lib.hid hnil0
    replace hI := Lib.hid hI
    go_enter Tryz.func65, Tryz.ntmps65
    go_wp2_with fail
    (with_reducible refine (h1.out).mono ?_)
    rintro e w1 ⟨rfl, hB⟩
    replace hB := Lib.hid hB
    go_wp2
    go_ret2
    exact ⟨⟨_, rfl, hnil0.out _ _⟩, hB.out⟩
  · rw [hz, h3, optPtr_some] at h1
    rw [if_pos hz, h3]
    dsimp only
    by_cases hk : (T.nd i).kind = 2
    · rw [if_pos hk]
      unfold ptr at *
      replace h1 := Lib.hid h1
      replace h2 := Lib.hid h2
      replace hz := Lib.hid hz
      replace hnil0 := Lib.hid hnil0
      replace hI := Lib.hid hI
      replace h3 := Lib.hid h3
      go_enter Tryz.func65, Tryz.ntmps65
      go_wp2_with fail
      (with_reducible refine (h1.out).mono ?_)
      rintro e w1 ⟨rfl, hB1⟩
      have hR1 := hR.below hB1
      obtain ⟨dv, _, n0, _⟩ := hR1.cells ⟨_, hm⟩
      rw [hk] at n0
      have h2' := h2.out w1 hR1
      replace hR := Lib.hid hR
      replace hR1 := Lib.hid hR1
      replace hB1 := Lib.hid hB1
      replace h2' := Lib.hid h2'
      replace hk := Lib.hid hk
      go_wp2_with fail
      (with_reducible refine (h2'.out).mono ?_)
      rintro e w2 ⟨⟨v2, rfl, hS⟩, hB2⟩
      obtain ⟨oA, oc, ho, _, _⟩ := own_shape hS.own
      subst ho
      replace hS := Lib.hid hS
      replace hB2 := Lib.hid hB2
      go_wp2
      go_ret2
      exact ⟨⟨_, rfl, own_low hS.out.own hB1.out.size⟩, below_step hB1.out hB2.out⟩
    · rw [if_neg hk]
      have hk2 : ((T.nd i).kind == 2) = false := by simpa using hk
      have hk3 : ((T.nd i).kind != 2) = true := by simpa using hk
      unfold ptr at *
      replace h1 := Lib.hid h1
      replace h2 := Lib.hid h2
      replace hz := Lib.hid hz
      replace hnil0 := Lib.hid hnil0
      replace hI := Lib.hid hI
      replace h3 := Lib.hid h3
      replace hk := Lib.hid hk
      go_enter Tryz.func65, Tryz.ntmps65
      go_wp2_with fail
      (with_reducible refine (h1.out).mono ?_)
      rintro e w1 ⟨rfl, hB1⟩
      have hR1 := hR.below hB1
      obtain ⟨dv, _, n0, _⟩ := hR1.cells ⟨_, hm⟩
      replace hR := Lib.hid hR
      replace hR1 := Lib.hid hR1
      replace hB1 := Lib.hid hB1
      go_wp2
      go_ret2
      exact ⟨⟨_, rfl, hnil0.out _ _⟩, hB1.out⟩

set_option maxHeartbeats 1000000 in
set_option maxRecDepth 100000 in
theorem rread_calls (s : ByteArray) (w : World) (hR : RRep w rb v A T) (hs : s.size ≤ 16777216) :
    Calls Tryz.prog 64 #[ptr rb, .string s] w fun e w' => (∃ v', e = .returned (.tuple #[v', .int .i64 (T.read (bl s)).2]) ∧ Byts w.heap.size w' v' (T.read (bl s)).1) ∧ Below w.heap.size w w' := by
  have hI := hR.inv
  have h1 := rfile_calls rb v A T s w hR hs
  have hnil0 : ∀ (B : Nat) (W : World), Byts B W (.slice none 0 0) [] := fun B W => ⟨rfl, Or.inl ⟨rfl, rfl⟩⟩
  unfold Fs.read
  unfold Fs.fileOk at h1
  by_cases hz : (T.file (bl s)).2 = 0
  · rw [if_pos hz] at h1 ⊢
    rw [hz] at h1
    rcases file_there hI (bl s) with ⟨hz1, hfe⟩ | ⟨i, hz1, h3, hm, hrs, hfe⟩
    · rw [hfe] at hz
      exact absurd hz hz1
    · rw [hfe] at h1 ⊢
      dsimp only at h1 ⊢
      rw [optPtr_some] at h1
      have hdl := hI.data _ _ hm
      unfold ptr at *
      replace h1 := Lib.hid h1
      replace hz := Lib.hid hz
      replace hnil0 := Lib.hid hnil0
      replace hI := Lib.hid hI
      replace h3 := Lib.hid h3
      replace hfe := Lib.hid hfe
      replace hz1 := Lib.hid hz1
      go_enter Tryz.func64, Tryz.ntmps64
      go_wp2_with fail
      (with_reducible refine (h1.out).mono ?_)
      rintro e w1 ⟨rfl, hB1⟩
      have hR1 := hR.below hB1
      have hB2 := below_alloc hB1 (.cells #[] 5)
      have hB12 := (Below.refl w1.heap.size w1).alloc (Nat.le_refl _) (.cells #[] 5)
      have hR2 := hR1.below hB12
      obtain ⟨dv, hd, _, _, n2, _⟩ := hR2.cells ⟨_, hm⟩
      have hown := own_made w1 w1.heap.size 5 1 0 [] (Nat.le_refl _) rfl (by simp [maxLen])
      obtain ⟨dA, dc, rfl, hd1, hd2⟩ := hd.shape
      have hsrc := hd.rdb.src
      generalize hD : (T.nd i).data = D at *
      replace hD := Lib.hid hD
      replace hR := Lib.hid hR
      replace hR1 := Lib.hid hR1
      replace hR2 := Lib.hid hR2
      replace hB1 := Lib.hid hB1
      replace hB2 := Lib.hid hB2
      replace hB12 := Lib.hid hB12
      replace hd := Lib.hid hd
      replace hown := Lib.hid hown
      replace hsrc := Lib.hid hsrc
      go_wp2_with (at_builtin; refine wp_append_any w1.heap.size rfl (.tmp 17) (.tmp 21) 38 5 rfl Tryz.underlying38 (.int .u8 0) 1 1 info_u8 rfl (by decide) (.slice (some ⟨w1.heap.size, 0, none⟩) 0 0) 0 [] rfl (.slice dA D.length dc) D.length (byteCells D) rfl hsrc.out hown.out ?_ ?_ ?_ (by simp) ?_)
      · simp [byteCells, Value.oneCell']
      · simp only [maxLen]; omega
      · omega
      · intro v1 w3 g1 hg hat
        have hS3 : Byts w1.heap.size w3 v1 D := by
          unfold Byts
          simpa using g1
        have hB3 : Below w1.heap.size w1 w3 := hB12.out.grown hg (by simp) (own_base hown.out)
        obtain ⟨oA, oc, ho, _, _⟩ := own_shape hS3.own
        subst ho
        replace hS3 := Lib.hid hS3
        replace hB3 := Lib.hid hB3
        clear g1 hg hat
        go_wp2
        go_ret2
        exact ⟨⟨.slice oA D.length oc, rfl, by rw [hD.out]; exact own_low hS3.out.own hB1.out.size⟩, below_step hB1.out hB3.out⟩
  · rw [if_neg hz] at h1 ⊢
    dsimp only
    have he2 : ((T.file (bl s)).2 == 0) = false := by simpa using hz
    have he3 : ((T.file (bl s)).2 != 0) = true := by simpa using hz
    generalize (T.file (bl s)).2 = e at *
    rw [optPtr_none] at h1
    unfold ptr at *
    replace h1 := Lib.hid h1
    replace hR := Lib.hid hR
    replace hz := Lib.hid hz
    replace hnil0 := Lib.hid hnil0
    replace hI := Lib.hid hI
    go_enter Tryz.func64, Tryz.ntmps64
    go_wp2_with fail
    (with_reducible refine (h1.out).mono ?_)
    rintro e w1 ⟨rfl, hB⟩
    replace hB := Lib.hid hB
    go_wp2
    go_ret2
    exact ⟨⟨_, rfl, hnil0.out _ _⟩, hB.out⟩


theorem mkS_nil : mkS [] = ⟨#[]⟩ := rfl

set_option maxHeartbeats 4000000 in
set_option maxRecDepth 100000 in
theorem rstat_calls (s : ByteArray) (w : World) (hR : RRep w rb v A T) (hs : s.size ≤ 16777216) (hf : T.names.length ≤ 1000000) :
    Calls Tryz.prog 63 #[ptr rb, .string s] w fun e w' => e = .returned (.tuple #[statV (T.stat (bl s)).1, .int .i64 (T.stat (bl s)).2]) ∧ Below w.heap.size w w' := by
  have hI := hR.inv
  have hB0 : ∀ C, Below w.heap.size w (w.alloc (.cells C 50)) := fun C => (Below.refl _ _).alloc (Nat.le_refl _) _
  have hsz : ∀ o, (w.alloc o).heap.size = w.heap.size + 1 := fun o => by simp
  have h1 := fun W hW => rthere_calls rb v A T s W hW hs
  have h4 := fun W hW => rnames_calls rb v A T s W hW hs hf
  have h5 := fun W hW => rin_calls rb v A T s W hW hf
  unfold Fs.stat
  rcases file_there hI (bl s) with ⟨hz, _⟩ | ⟨i, hz, h3, hm, hrs, _⟩
  · rw [if_neg hz]
    unfold statV statCells noSt noMt
    dsimp only
    have he2 : ((T.there (bl s)).2.2 == 0) = false := by simpa using hz
    have he3 : ((T.there (bl s)).2.2 != 0) = true := by simpa using hz
    generalize (T.there (bl s)).2.2 = e at *
    generalize (T.there (bl s)).1 = n at *
    have hn : ∃ a, optPtr A n = .pointer a := by cases n <;> exact ⟨_, rfl⟩
    obtain ⟨a, hn⟩ := hn
    simp only [hn] at h1
    unfold ptr at *
    replace h1 := Lib.hid h1
    replace h4 := Lib.hid h4
    replace h5 := Lib.hid h5
    replace hz := Lib.hid hz
    replace hn := Lib.hid hn
    replace hI := Lib.hid hI
    replace hsz := Lib.hid hsz
    go_enter Tryz.func63, Tryz.ntmps63
    go_wp2_with fail
    (with_reducible refine (h1.out _ (hR.below (hB0 _))).mono ?_)
    rintro e w1 ⟨rfl, hB1⟩
    have hblk := (hB1.block w.heap.size (by rw [hsz.out]; omega)).trans (MapKept.heap_alloc w _).1
    have hBf := below_step (hB0 _) hB1
    have hsz2 := hB1.size
    rw [hsz.out] at hsz2
    clear hB0 hB1
    have hfz : ∀ k, w1.frozen? ⟨w.heap.size, k, none⟩ = false := fun k => by simp [World.frozen?, hblk]
    have d0 := cell_of (j := 0) hblk rfl
    have d1 := cell_of (j := 1) hblk rfl
    have d2 := cell_of (j := 2) hblk rfl
    have d3 := cell_of (j := 3) hblk rfl
    have d4 := cell_of (j := 4) hblk rfl
    have d5 := cell_of (j := 5) hblk rfl
    have d6 := cell_of (j := 6) hblk rfl
    have d7 := cell_of (j := 7) hblk rfl
    have d8 := cell_of (j := 8) hblk rfl
    have d9 := cell_of (j := 9) hblk rfl
    replace hblk := Lib.hid hblk
    replace hR := Lib.hid hR
    go_wp2
    refine bodyPost_ret (v := .tuple #[.agg #[.int .i64 0, .int .i64 0, .int .i64 0, .int .i64 0, .int .i64 0, .int .i64 0, .int .i64 0, .int .i64 0, .int .i64 0, .string (mkS [])], .int .i64 e]) ?_ rfl ⟨rfl, ?_⟩
    · rw [results_cell_tmp rfl]
      go_simp
      rfl
    · iterate 10 refine below_set ?_
      exact hBf
  · simp only [hz, h3, optPtr_some] at h1
    rw [if_pos hz, h3]
    unfold statV statCells Fs.tell
    dsimp only
    have hsize := data_file hI hm
    have hki := hI.kinds _ _ hm
    have hlk1 := fun h => links_one hI hm h
    have hlk2 := fun h => links_names hI hrs hm h
    have hdl := hI.data _ _ hm
    have htl := (hI.plain _ _ hm).2.2
    unfold ptr at *
    replace h1 := Lib.hid h1
    replace h4 := Lib.hid h4
    replace h5 := Lib.hid h5
    replace hz := Lib.hid hz
    replace hI := Lib.hid hI
    replace hsz := Lib.hid hsz
    replace hlk1 := Lib.hid hlk1
    replace hlk2 := Lib.hid hlk2
    replace h3 := Lib.hid h3
    replace hsize := Lib.hid hsize
    go_enter Tryz.func63, Tryz.ntmps63
    go_wp2_with fail
    (with_reducible refine (h1.out _ (hR.below (hB0 _))).mono ?_)
    rintro e w1 ⟨rfl, hB1⟩
    have hR1 := (hR.below (hB0 _)).below hB1
    have hblk := (hB1.block w.heap.size (by rw [hsz.out]; omega)).trans (MapKept.heap_alloc w _).1
    have hBf := below_step (hB0 _) hB1
    have hsz2 := hB1.size
    rw [hsz.out] at hsz2
    obtain ⟨dv, hd, n0, n1, n2, n3, n4, n5, n6, n7, n8⟩ := hR1.cells ⟨_, hm⟩
    obtain ⟨dA, dc, rfl, hd1, hd2⟩ := hd.shape
    unfold maxLen at hd2
    have hai : A i < w1.heap.size := cell_lt n0
    clear hB0 hB1
    replace hblk := Lib.hid hblk
    replace hBf := Lib.hid hBf
    replace hR1 := Lib.hid hR1
    replace hd := Lib.hid hd
    go_upto_region 4 with fail
    have hkeep : ∀ W, Below w1.heap.size w1 W → W.cell? ⟨A i, 0, none⟩ = some (.int .i64 (T.nd i).kind) ∧ W.cell? ⟨A i, 1, none⟩ = some (.int .i64 i) ∧ W.cell? ⟨A i, 2, none⟩ = some (.slice dA (T.nd i).data.length dc) ∧ W.cell? ⟨A i, 3, none⟩ = some (.string (mkS (T.nd i).target)) ∧ W.cell? ⟨A i, 4, none⟩ = some (.int .i64 (T.nd i).mt.mode) ∧ W.cell? ⟨A i, 5, none⟩ = some (.int .i64 (T.nd i).mt.sec) ∧ W.cell? ⟨A i, 6, none⟩ = some (.int .i64 (T.nd i).mt.nano) ∧ W.cell? ⟨A i, 7, none⟩ = some (.int .i64 (T.nd i).mt.uid) ∧ W.cell? ⟨A i, 8, none⟩ = some (.int .i64 (T.nd i).mt.gid) := fun W hW => by
      obtain ⟨_, _, g0, g1, g2, g3, g4, g5, g6, g7, g8⟩ := (hR1.out.below hW).cells ⟨_, hm⟩
      refine ⟨g0, g1, ?_, g3, g4, g5, g6, g7, g8⟩
      exact (hW.cell (cell_lt n2)).trans n2
    replace hkeep := Lib.hid hkeep
    go_region_held3 (fun W => W.cell? ⟨A i, 0, none⟩ = some (.int .i64 (T.nd i).kind) ∧ W.cell? ⟨A i, 1, none⟩ = some (.int .i64 i) ∧ W.cell? ⟨A i, 2, none⟩ = some (.slice dA (T.nd i).data.length dc) ∧ W.cell? ⟨A i, 3, none⟩ = some (.string (mkS (T.nd i).target)) ∧ W.cell? ⟨A i, 4, none⟩ = some (.int .i64 (T.nd i).mt.mode) ∧ W.cell? ⟨A i, 5, none⟩ = some (.int .i64 (T.nd i).mt.sec) ∧ W.cell? ⟨A i, 6, none⟩ = some (.int .i64 (T.nd i).mt.nano) ∧ W.cell? ⟨A i, 7, none⟩ = some (.int .i64 (T.nd i).mt.uid) ∧ W.cell? ⟨A i, 8, none⟩ = some (.int .i64 (T.nd i).mt.gid)) (first | exact hkeep.out _ (below_drewN (Below.refl _ _) 1) | exact hkeep.out _ (below_alloc (below_drewN (Below.refl _ _) 1) _)) (fail)
    rename_i hHeld
    clear hHeld hkeep n0 n1 n2 n3 n4 n5 n6 n7 n8
    have hB12 : Below w1.heap.size w1 (w1.alloc (.cells #[.int .i64 (T.nd i).kind, .int .i64 i, .int .i64 ((T.nd i).data.length : Int), .int .i64 1, .int .i64 (T.nd i).mt.mode, .int .i64 (T.nd i).mt.sec, .int .i64 (T.nd i).mt.nano, .int .i64 (T.nd i).mt.uid, .int .i64 (T.nd i).mt.gid, .string (mkS (T.nd i).target)] 50)).drew := below_drewN (below_alloc (Below.refl _ _) _) 1
    have hs2 : (w1.alloc (.cells #[.int .i64 (T.nd i).kind, .int .i64 i, .int .i64 ((T.nd i).data.length : Int), .int .i64 1, .int .i64 (T.nd i).mt.mode, .int .i64 (T.nd i).mt.sec, .int .i64 (T.nd i).mt.nano, .int .i64 (T.nd i).mt.uid, .int .i64 (T.nd i).mt.gid, .string (mkS (T.nd i).target)] 50)).drew.heap[w1.heap.size]? = some (.cells #[.int .i64 (T.nd i).kind, .int .i64 i, .int .i64 ((T.nd i).data.length : Int), .int .i64 1, .int .i64 (T.nd i).mt.mode, .int .i64 (T.nd i).mt.sec, .int .i64 (T.nd i).mt.nano, .int .i64 (T.nd i).mt.uid, .int .i64 (T.nd i).mt.gid, .string (mkS (T.nd i).target)] 50 (0, 0)) := (MapKept.heap_alloc w1 _).1
    have hR2 := hR1.out.below hB12
    have hblk2 := (hB12.block w.heap.size (by omega)).trans hblk.out
    have hBf2 := below_step hBf.out hB12
    have hne : A i ≠ w1.heap.size := by omega
    have hne2 : w.heap.size ≠ w1.heap.size := by omega
    obtain ⟨n1, hn1⟩ : ∃ x, x = w1.heap.size := ⟨_, rfl⟩
    generalize (w1.alloc (.cells #[.int .i64 (T.nd i).kind, .int .i64 i, .int .i64 ((T.nd i).data.length : Int), .int .i64 1, .int .i64 (T.nd i).mt.mode, .int .i64 (T.nd i).mt.sec, .int .i64 (T.nd i).mt.nano, .int .i64 (T.nd i).mt.uid, .int .i64 (T.nd i).mt.gid, .string (mkS (T.nd i).target)] 50)).drew = W2 at *
    rw [← hn1] at hs2 hne hne2
    rw [← hn1]
    have hlo : w.heap.size ≤ n1 := by omega
    replace hB12 := Lib.hid hB12
    replace hn1 := Lib.hid hn1
    replace hR1 := Lib.hid hR1
    replace hblk := Lib.hid hblk
    replace hBf := Lib.hid hBf
    clear hai hsz2
    rcases hki with hk | hk | hk
    · have h4' := h4.out W2 hR2
      have hsz1 : T.size (split (bl s)) i = ((T.nd i).data.length : Int) := by rw [hsize.out, if_neg (by rw [hk]; decide), if_neg (by rw [hk]; decide)]
      have hlk := (hlk2.out hk).symm
      obtain ⟨_, _, c0, _⟩ := hR2.cells ⟨_, hm⟩
      rw [hk] at c0 hs2
      replace hR2 := Lib.hid hR2
      replace hs2 := Lib.hid hs2
      replace hblk2 := Lib.hid hblk2
      replace hBf2 := Lib.hid hBf2
      replace h4' := Lib.hid h4'
      replace hk := Lib.hid hk
      replace hsz1 := Lib.hid hsz1
      replace hlk := Lib.hid hlk
      go_wp2_with fail
      (with_reducible refine (h4'.out).mono ?_)
      rintro e w3 ⟨⟨nv, rfl, hS3⟩, hB3⟩
      obtain ⟨nA, nc, hnv, hnc1, hnc2⟩ := own_shape hS3.own
      subst hnv
      have hs3 := (hB3.block n1 (Array.getElem?_eq_some_iff.1 hs2.out).1).trans hs2.out
      have hblk3 := (hB3.block w.heap.size (Array.getElem?_eq_some_iff.1 hblk2.out).1).trans hblk2.out
      have hR3 := hR2.out.below hB3
      have hBf3 := below_step hBf2.out hB3
      have q3 := cell_of (j := 3) hs3 (v := .int .i64 1) rfl
      have hfq : w3.frozen? ⟨n1, 3, none⟩ = false := by simp [World.frozen?, hs3]
      replace hs3 := Lib.hid hs3
      replace hblk3 := Lib.hid hblk3
      replace hR3 := Lib.hid hR3
      replace hBf3 := Lib.hid hBf3
      clear h4' hB3 c0
      go_upto_region 7 with fail
      have hs4 : ((w3).setCell ⟨n1, 3, none⟩ (.int .i64 ((T.nameList (bl s)).length : Int))).heap[n1]? = some (.cells #[.int .i64 1, .int .i64 i, .int .i64 ((T.nd i).data.length : Int), .int .i64 ((T.nameList (bl s)).length : Int), .int .i64 (T.nd i).mt.mode, .int .i64 (T.nd i).mt.sec, .int .i64 (T.nd i).mt.nano, .int .i64 (T.nd i).mt.uid, .int .i64 (T.nd i).mt.gid, .string (mkS (T.nd i).target)] 50 (0, 0)) := heap_set_same hs3.out 3 _
      have hblk4 := (heap_set_other (w3) hne2 3 (.int .i64 ((T.nameList (bl s)).length : Int))).trans hblk3.out
      have hR4 := hR3.out.setCell hs3.out (by decide) (by decide) (by decide) (by decide) 3 (.int .i64 ((T.nameList (bl s)).length : Int))
      have hBf4 := hBf3.out.setCell (p := ⟨n1, 3, none⟩) hlo (.int .i64 ((T.nameList (bl s)).length : Int))
      generalize w3.setCell ⟨n1, 3, none⟩ (.int .i64 ((T.nameList (bl s)).length : Int)) = W4 at *
      obtain ⟨_, _, c0, _⟩ := hR4.cells ⟨_, hm⟩
      rw [hk.out] at c0
      have e0 := cell_of (j := 0) hblk4 rfl
      have e1 := cell_of (j := 1) hblk4 rfl
      have e2 := cell_of (j := 2) hblk4 rfl
      have e3 := cell_of (j := 3) hblk4 rfl
      have e4 := cell_of (j := 4) hblk4 rfl
      have e5 := cell_of (j := 5) hblk4 rfl
      have e6 := cell_of (j := 6) hblk4 rfl
      have e7 := cell_of (j := 7) hblk4 rfl
      have e8 := cell_of (j := 8) hblk4 rfl
      have e9 := cell_of (j := 9) hblk4 rfl
      have x0 := cell_of (j := 0) hs4 rfl
      have x1 := cell_of (j := 1) hs4 rfl
      have x2 := cell_of (j := 2) hs4 rfl
      have x3 := cell_of (j := 3) hs4 rfl
      have x4 := cell_of (j := 4) hs4 rfl
      have x5 := cell_of (j := 5) hs4 rfl
      have x6 := cell_of (j := 6) hs4 rfl
      have x7 := cell_of (j := 7) hs4 rfl
      have x8 := cell_of (j := 8) hs4 rfl
      have x9 := cell_of (j := 9) hs4 rfl
      have hfz : ∀ k, (W4).frozen? ⟨w.heap.size, k, none⟩ = false := fun k => by simp [World.frozen?, hblk4]
      clear hR4 q3 hfq
      replace hs4 := Lib.hid hs4
      replace hblk4 := Lib.hid hblk4
      replace hBf4 := Lib.hid hBf4
      go_wp2
      refine bodyPost_ret (v := .tuple #[.agg #[.int .i64 1, .int .i64 i, .int .i64 ((T.nd i).data.length : Int), .int .i64 ((T.nameList (bl s)).length : Int), .int .i64 (T.nd i).mt.mode, .int .i64 (T.nd i).mt.sec, .int .i64 (T.nd i).mt.nano, .int .i64 (T.nd i).mt.uid, .int .i64 (T.nd i).mt.gid, .string (mkS (T.nd i).target)], .int .i64 0]) ?_ rfl ⟨?_, ?_⟩
      · rw [results_cell_tmp rfl]
        go_simp
      · rw [hsz1.out, hlk.out, hk.out]
      · iterate 10 refine below_set ?_
        exact hBf4.out
    · have h5' := h5.out W2 hR2
      have hkl : (((sortB ((T.kids (split (bl s))).map (·.1))).length : Int)) = ((T.kids (split (bl s))).length : Int) := by rw [(sortB_perm _).length_eq, List.length_map]
      have hsz1 : T.size (split (bl s)) i = ((sortB ((T.kids (split (bl s))).map (·.1))).length : Int) := by rw [hsize.out, if_pos hk, hkl]
      have hlk := hlk1.out (by rw [hk]; decide)
      obtain ⟨_, _, c0, _⟩ := hR2.cells ⟨_, hm⟩
      rw [hk] at c0 hs2
      replace hR2 := Lib.hid hR2
      replace hs2 := Lib.hid hs2
      replace hblk2 := Lib.hid hblk2
      replace hBf2 := Lib.hid hBf2
      replace h5' := Lib.hid h5'
      replace hk := Lib.hid hk
      replace hsz1 := Lib.hid hsz1
      replace hlk := Lib.hid hlk
      replace hkl := Lib.hid hkl
      go_wp2_with fail
      (with_reducible refine (h5'.out).mono ?_)
      rintro e w3 ⟨⟨nv, rfl, hS3⟩, hB3⟩
      obtain ⟨nA, nc, hnv, hnc1, hnc2⟩ := own_shape hS3.own
      subst hnv
      have hs3 := (hB3.block n1 (Array.getElem?_eq_some_iff.1 hs2.out).1).trans hs2.out
      have hblk3 := (hB3.block w.heap.size (Array.getElem?_eq_some_iff.1 hblk2.out).1).trans hblk2.out
      have hR3 := hR2.out.below hB3
      have hBf3 := below_step hBf2.out hB3
      have q3 := cell_of (j := 2) hs3 (v := .int .i64 ((T.nd i).data.length : Int)) rfl
      have hfq : w3.frozen? ⟨n1, 2, none⟩ = false := by simp [World.frozen?, hs3]
      replace hs3 := Lib.hid hs3
      replace hblk3 := Lib.hid hblk3
      replace hR3 := Lib.hid hR3
      replace hBf3 := Lib.hid hBf3
      clear h5' hB3 c0
      go_upto_region 9 with fail
      have hs4 : ((w3).setCell ⟨n1, 2, none⟩ (.int .i64 ((sortB ((T.kids (split (bl s))).map (·.1))).length : Int))).heap[n1]? = some (.cells #[.int .i64 2, .int .i64 i, .int .i64 ((sortB ((T.kids (split (bl s))).map (·.1))).length : Int), .int .i64 1, .int .i64 (T.nd i).mt.mode, .int .i64 (T.nd i).mt.sec, .int .i64 (T.nd i).mt.nano, .int .i64 (T.nd i).mt.uid, .int .i64 (T.nd i).mt.gid, .string (mkS (T.nd i).target)] 50 (0, 0)) := heap_set_same hs3.out 2 _
      have hblk4 := (heap_set_other (w3) hne2 2 (.int .i64 ((sortB ((T.kids (split (bl s))).map (·.1))).length : Int))).trans hblk3.out
      have hR4 := hR3.out.setCell hs3.out (by decide) (by decide) (by decide) (by decide) 2 (.int .i64 ((sortB ((T.kids (split (bl s))).map (·.1))).length : Int))
      have hBf4 := hBf3.out.setCell (p := ⟨n1, 2, none⟩) hlo (.int .i64 ((sortB ((T.kids (split (bl s))).map (·.1))).length : Int))
      generalize w3.setCell ⟨n1, 2, none⟩ (.int .i64 ((sortB ((T.kids (split (bl s))).map (·.1))).length : Int)) = W4 at *
      obtain ⟨_, _, c0, _⟩ := hR4.cells ⟨_, hm⟩
      rw [hk.out] at c0
      have e0 := cell_of (j := 0) hblk4 rfl
      have e1 := cell_of (j := 1) hblk4 rfl
      have e2 := cell_of (j := 2) hblk4 rfl
      have e3 := cell_of (j := 3) hblk4 rfl
      have e4 := cell_of (j := 4) hblk4 rfl
      have e5 := cell_of (j := 5) hblk4 rfl
      have e6 := cell_of (j := 6) hblk4 rfl
      have e7 := cell_of (j := 7) hblk4 rfl
      have e8 := cell_of (j := 8) hblk4 rfl
      have e9 := cell_of (j := 9) hblk4 rfl
      have x0 := cell_of (j := 0) hs4 rfl
      have x1 := cell_of (j := 1) hs4 rfl
      have x2 := cell_of (j := 2) hs4 rfl
      have x3 := cell_of (j := 3) hs4 rfl
      have x4 := cell_of (j := 4) hs4 rfl
      have x5 := cell_of (j := 5) hs4 rfl
      have x6 := cell_of (j := 6) hs4 rfl
      have x7 := cell_of (j := 7) hs4 rfl
      have x8 := cell_of (j := 8) hs4 rfl
      have x9 := cell_of (j := 9) hs4 rfl
      have hfz : ∀ k, (W4).frozen? ⟨w.heap.size, k, none⟩ = false := fun k => by simp [World.frozen?, hblk4]
      clear hR4 q3 hfq
      replace hs4 := Lib.hid hs4
      replace hblk4 := Lib.hid hblk4
      replace hBf4 := Lib.hid hBf4
      go_wp2
      refine bodyPost_ret (v := .tuple #[.agg #[.int .i64 2, .int .i64 i, .int .i64 ((sortB ((T.kids (split (bl s))).map (·.1))).length : Int), .int .i64 1, .int .i64 (T.nd i).mt.mode, .int .i64 (T.nd i).mt.sec, .int .i64 (T.nd i).mt.nano, .int .i64 (T.nd i).mt.uid, .int .i64 (T.nd i).mt.gid, .string (mkS (T.nd i).target)], .int .i64 0]) ?_ rfl ⟨?_, ?_⟩
      · rw [results_cell_tmp rfl]
        go_simp
      · rw [hsz1.out, hlk.out, hk.out]
      · iterate 10 refine below_set ?_
        exact hBf4.out
    · have hsz1 : T.size (split (bl s)) i = ((T.nd i).target.length : Int) := by rw [hsize.out, if_neg (by rw [hk]; decide), if_pos hk]
      have hlk := hlk1.out (by rw [hk]; decide)
      obtain ⟨_, _, c0, _, _, c3, _⟩ := hR2.cells ⟨_, hm⟩
      rw [hk] at c0 hs2
      have q3 := cell_of (j := 2) hs2 (v := .int .i64 ((T.nd i).data.length : Int)) rfl
      have hfq : W2.frozen? ⟨n1, 2, none⟩ = false := by simp [World.frozen?, hs2]
      have hts := mkS_size (T.nd i).target
      replace hR2 := Lib.hid hR2
      replace hs2 := Lib.hid hs2
      replace hblk2 := Lib.hid hblk2
      replace hBf2 := Lib.hid hBf2
      replace hk := Lib.hid hk
      replace hsz1 := Lib.hid hsz1
      replace hlk := Lib.hid hlk
      go_upto_region 11 with fail
      have hs4 : ((W2).setCell ⟨n1, 2, none⟩ (.int .i64 ((T.nd i).target.length : Int))).heap[n1]? = some (.cells #[.int .i64 3, .int .i64 i, .int .i64 ((T.nd i).target.length : Int), .int .i64 1, .int .i64 (T.nd i).mt.mode, .int .i64 (T.nd i).mt.sec, .int .i64 (T.nd i).mt.nano, .int .i64 (T.nd i).mt.uid, .int .i64 (T.nd i).mt.gid, .string (mkS (T.nd i).target)] 50 (0, 0)) := heap_set_same hs2.out 2 _
      have hblk4 := (heap_set_other (W2) hne2 2 (.int .i64 ((T.nd i).target.length : Int))).trans hblk2.out
      have hR4 := hR2.out.setCell hs2.out (by decide) (by decide) (by decide) (by decide) 2 (.int .i64 ((T.nd i).target.length : Int))
      have hBf4 := hBf2.out.setCell (p := ⟨n1, 2, none⟩) hlo (.int .i64 ((T.nd i).target.length : Int))
      generalize W2.setCell ⟨n1, 2, none⟩ (.int .i64 ((T.nd i).target.length : Int)) = W4 at *
      have e0 := cell_of (j := 0) hblk4 rfl
      have e1 := cell_of (j := 1) hblk4 rfl
      have e2 := cell_of (j := 2) hblk4 rfl
      have e3 := cell_of (j := 3) hblk4 rfl
      have e4 := cell_of (j := 4) hblk4 rfl
      have e5 := cell_of (j := 5) hblk4 rfl
      have e6 := cell_of (j := 6) hblk4 rfl
      have e7 := cell_of (j := 7) hblk4 rfl
      have e8 := cell_of (j := 8) hblk4 rfl
      have e9 := cell_of (j := 9) hblk4 rfl
      have x0 := cell_of (j := 0) hs4 rfl
      have x1 := cell_of (j := 1) hs4 rfl
      have x2 := cell_of (j := 2) hs4 rfl
      have x3 := cell_of (j := 3) hs4 rfl
      have x4 := cell_of (j := 4) hs4 rfl
      have x5 := cell_of (j := 5) hs4 rfl
      have x6 := cell_of (j := 6) hs4 rfl
      have x7 := cell_of (j := 7) hs4 rfl
      have x8 := cell_of (j := 8) hs4 rfl
      have x9 := cell_of (j := 9) hs4 rfl
      have hfz : ∀ k, (W4).frozen? ⟨w.heap.size, k, none⟩ = false := fun k => by simp [World.frozen?, hblk4]
      clear hR4 q3 hfq c0 c3
      replace hs4 := Lib.hid hs4
      replace hblk4 := Lib.hid hblk4
      replace hBf4 := Lib.hid hBf4
      go_wp2
      refine bodyPost_ret (v := .tuple #[.agg #[.int .i64 3, .int .i64 i, .int .i64 ((T.nd i).target.length : Int), .int .i64 1, .int .i64 (T.nd i).mt.mode, .int .i64 (T.nd i).mt.sec, .int .i64 (T.nd i).mt.nano, .int .i64 (T.nd i).mt.uid, .int .i64 (T.nd i).mt.gid, .string (mkS (T.nd i).target)], .int .i64 0]) ?_ rfl ⟨?_, ?_⟩
      · rw [results_cell_tmp rfl]
        go_simp
      · rw [hsz1.out, hlk.out, hk.out]
      · iterate 10 refine below_set ?_
        exact hBf4.out

end

end Go.Proofs.YtemdinjiplglgaaGreat
