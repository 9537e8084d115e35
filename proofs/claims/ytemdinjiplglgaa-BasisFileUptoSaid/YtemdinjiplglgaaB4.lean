/-
  tree.alike.
  tree.Same.
  remoralaw17.Do and Build: acts, on a tree.
  remoraref17.Small and remoralaw17.Build.
  remoralaw17.awake: the chapter's example.
  Acts as an argument.
  Calls that tell an error; two trees apart; an act as a list.
  A region that draws its order, and whose calls make memory alone: one walk in the order of the text.
  What is told of a name: the plain law's Stat, Read, Names and Paths in terms of the names.
  What P17.11 says of any tree, the plain law.
  What a Rename did: the plain law.
  One file of several names: the plain law.
  What stays where a tree of its own turns: rows of names, bytes, records.
  The distance of two strings is a metric: plain laws, no Go in sight.
  The distance of two strings: what the walks of basis.Apart and of the reference's Apart compute, as a plain function of lists.
  The table of distances is the distance of lists; its laws, for strings.
  Score: the walk of the program's, and of what it calls.
  remoralaw22.awake: the chapter's small case.
  What a file is made of, the plain law: itself, a part, or a file beside it whose name is most alike.
  A file more, elsewhere, changes nothing of what is chosen: the plain law.
  Small words more: quiet calls whose contract says 'w = w'', strings that are the same or not.
-/
import Derived.Test.YtemdinjiplglgaaB3
import Derived.Laws.IdiomRangeMap
import Derived.Lib.SlBytesConst
import Derived.Deep.Slices
import Derived.Deep.Fields
import Derived.ChangeSame
import Derived.ChangeSlices
import Derived.Carry
import Derived.Test.YtemdinjiplglgaaB1
import Derived.Deep.Quiet
import Derived.BigQuiet
import Derived.Shelf.Bytes.SlSmallAll
set_option linter.unusedVariables false
set_option linter.unusedSimpArgs false

namespace Go.Proofs.Ytemdinjiplglgaa
open Go.RowKit

section
variable {w : World} {tb ub : Nat} {A M B N : Nat → Nat} {T U : Fs} {pb kb i j : Nat} {Pr : List (Nat × Nat)}

theorem ptr_inj {a b : Nat} (h : ptr a = ptr b) : a = b := by
  simp only [ptr] at h
  injection h with h
  injection h with h
  injection h

theorem prL_key (hR : Rep w tb A M T) (hi : T.Live i) (hD : ∀ x ∈ Pr, T.Live x.1) : Keyable Try.prog 64 w (ptr (A i)) ((prL A B Pr).map (·.1)) := by
  refine keyable_ptr Try.underlying64 info_node node_size (hR.ptrAt hi) ?_
  intro v hv
  unfold prL at hv
  rw [List.map_map] at hv
  obtain ⟨x, hx, rfl⟩ := List.mem_map.1 hv
  exact hR.ptrAt (hD x hx)
theorem prR_key (hR : Rep w ub B N U) (hj : U.Live j) (hD : ∀ x ∈ Pr, U.Live x.2) : Keyable Try.prog 64 w (ptr (B j)) ((prR A B Pr).map (·.1)) := by
  refine keyable_ptr Try.underlying64 info_node node_size (hR.ptrAt hj) ?_
  intro v hv
  unfold prR at hv
  rw [List.map_map] at hv
  obtain ⟨x, hx, rfl⟩ := List.mem_map.1 hv
  exact hR.ptrAt (hD x hx)
theorem prL_none (hR : Rep w tb A M T) (hi : T.Live i) (hD : ∀ x ∈ Pr, T.Live x.1) (hn : ∀ k, (i, k) ∉ Pr) : ∀ q ∈ prL A B Pr, q.1 ≠ ptr (A i) := by
  intro q hq e
  obtain ⟨x, hx, rfl⟩ := List.mem_map.1 hq
  have := hR.injA x.1 i (hD x hx) hi (ptr_inj e)
  exact hn x.2 (by rw [← this]; exact hx)
theorem prR_none (hR : Rep w ub B N U) (hj : U.Live j) (hD : ∀ x ∈ Pr, U.Live x.2) (hn : ∀ k, (k, j) ∉ Pr) : ∀ q ∈ prR A B Pr, q.1 ≠ ptr (B j) := by
  intro q hq e
  obtain ⟨x, hx, rfl⟩ := List.mem_map.1 hq
  have := hR.injA x.2 j (hD x hx) hj (ptr_inj e)
  exact hn x.1 (by rw [← this]; exact hx)

theorem prL_snoc (A B : Nat → Nat) (Pr : List (Nat × Nat)) (i j : Nat) : prL A B (Pr ++ [(i, j)]) = prL A B Pr ++ [(ptr (A i), ptr (B j))] := by simp [prL]
theorem prR_snoc (A B : Nat → Nat) (Pr : List (Nat × Nat)) (i j : Nat) : prR A B (Pr ++ [(i, j)]) = prR A B Pr ++ [(ptr (B j), ptr (A i))] := by simp [prR]

/-- A tree stays where two maps of the call's own turn. -/
theorem Rep.two_maps {w' : World} {l1 l2 : List (Value × Value)} (hR : Rep w tb A M T) (h1 : MapIs w pb l1) (h2 : MapIs w kb l2) (n1 : ¬ Own tb A M T pb) (n2 : ¬ Own tb A M T kb) (ht : Turn w w' (fun b => b = pb ∨ b = kb)) : Rep w' tb A M T := by
  refine hR.kept (fun b hb => ht.block b (hR.lt hb) ?_) (fun g ⟨cs, hg⟩ => ht.block g (Array.getElem?_eq_some_iff.1 hg).1 ?_)
  · rintro (rfl | rfl)
    · exact n1 hb
    · exact n2 hb
  · rintro (e | e)
    · exact map_ne_cells h1 hg e
    · exact map_ne_cells h2 hg e

/-- Both maps get the new pair. -/
theorem pair_store (hpk : pb ≠ kb) (hR : Rep w tb A M T) (hS : Rep w ub B N U) (hi : T.Live i) (hj : U.Live j) (hD : ∀ x ∈ Pr, T.Live x.1) (hE : ∀ x ∈ Pr, U.Live x.2) (hn1 : ∀ k, (i, k) ∉ Pr) (hn2 : ∀ k, (k, j) ∉ Pr) (m1 : MapIs w pb (prL A B Pr)) (m2 : MapIs w kb (prR A B Pr))
    (n1 : ¬ Own ub B N U pb) (n2 : ¬ Own ub B N U kb) :
    ∃ w1, (Instr.mapUpdate 68 (.map (some pb)) (ptr (A i)) (ptr (B j))).run Try.prog w = .ok () w1 ∧ ∃ w2, (Instr.mapUpdate 68 (.map (some kb)) (ptr (B j)) (ptr (A i))).run Try.prog w1 = .ok () w2 ∧
      MapIs w2 pb (prL A B (Pr ++ [(i, j)])) ∧ MapIs w2 kb (prR A B (Pr ++ [(i, j)])) ∧ Turn w w2 (fun b => b = pb ∨ b = kb) := by
  obtain ⟨w1, g1, g2, g3⟩ := m1.store_new under_met (v := ptr (B j)) (prL_key hR hi hD) (prL_none hR hi hD hn1)
  have t1 : Turn w w1 (fun b => b = pb ∨ b = kb) := Turn.of_grown g3.grown (fun j e => by cases e; exact Or.inl rfl)
  have hS1 := hS.two_maps m1 m2 n1 n2 t1
  have m2' := m2.kept g3.grown (by simpa using hpk.symm)
  obtain ⟨w2, k1, k2, k3⟩ := m2'.store_new under_met (v := ptr (A i)) (prR_key hS1 hj hE) (prR_none hS1 hj hE hn2)
  refine ⟨w1, g1, w2, k1, ?_, ?_, t1.trans ((Turn.of_grown (S := fun b => b = kb) k3.grown (fun j e => by cases e; rfl)).mono fun b _ hb => Or.inl (Or.inr hb))⟩
  · rw [prL_snoc]
    exact (g2.kept k3.grown (by simpa using hpk)).perm (List.perm_append_singleton _ _)
  · rw [prR_snoc]
    exact k2.perm (List.perm_append_singleton _ _)

end

theorem two_blocks (W : World) (o1 o2 : Obj) : ((W.alloc o1).alloc o2).heap[W.heap.size]? = some o1 ∧ ((W.alloc o1).alloc o2).heap[W.heap.size + 1]? = some o2 := by
  have s1 : (W.alloc o1).heap.size = W.heap.size + 1 := by simp
  constructor
  · rw [(MapKept.heap_alloc (W.alloc o1) o2).2 W.heap.size (by rw [s1]; omega)]
    exact (MapKept.heap_alloc W o1).1
  · have := (MapKept.heap_alloc (W.alloc o1) o2).1
    rwa [s1] at this

theorem neq_mt (W : World) (a1 a2 a3 a4 a5 b1 b2 b3 b4 b5 : Int) :
    (binOp .neq 25 (.agg #[.int .i64 a1, .int .i64 a2, .int .i64 a3, .int .i64 a4, .int .i64 a5]) (.agg #[.int .i64 b1, .int .i64 b2, .int .i64 b3, .int .i64 b4, .int .i64 b5])).run Try.prog W = .ok (.bool (!decide (a1 = b1 ∧ a2 = b2 ∧ a3 = b3 ∧ a4 = b4 ∧ a5 = b5))) W := by
  go_simp
  by_cases h1 : a1 = b1 <;> by_cases h2 : a2 = b2 <;> by_cases h3 : a3 = b3 <;> by_cases h4 : a4 = b4 <;> by_cases h5 : a5 = b5 <;> simp [h1, h2, h3, h4, h5]

theorem mt_eq {a b : Mt} : (a.mode = b.mode ∧ a.sec = b.sec ∧ a.nano = b.nano ∧ a.uid = b.uid ∧ a.gid = b.gid) ↔ a = b := by
  cases a
  cases b
  simp

theorem bytesOf_ints (l : Bytes) : Lib.bytesOf (l.map fun b => (b.toNat : Int)) = l := by
  unfold Lib.bytesOf
  rw [List.map_map]
  conv => rhs; rw [← List.map_id l]
  refine List.map_congr_left fun b _ => ?_
  simp

theorem RdB.bytesIn {W : World} {A : Option Addr} {n c : Nat} {l : Bytes} (h : RdB W (.slice A n c) l) : n = l.length ∧ Lib.BytesIn W A l.length (l.map fun b => (b.toNat : Int)) := by
  obtain ⟨A', c', e, _, _, h4⟩ := h
  simp only [Value.slice.injEq] at e
  obtain ⟨rfl, rfl, rfl⟩ := e
  refine ⟨rfl, fun h0 => ?_⟩
  obtain ⟨g, o, e, _⟩ := h4 0 h0
  refine ⟨g, o, e, fun i hi => ?_⟩
  obtain ⟨g', o', e', hc⟩ := h4 i hi
  rw [e] at e'
  cases e'
  rw [hc]
  simp [hi]

theorem bequal_rd (v1 v2 : Value) (l1 l2 : Bytes) (w : World) (h1 : RdB w v1 l1) (h2 : RdB w v2 l2) :
    Calls Try.prog 68 #[v1, v2] w fun e w' => e = .returned (.bool (decide (l1 = l2))) ∧ w' = w := by
  obtain ⟨A1, c1, rfl, _⟩ := id h1
  obtain ⟨A2, c2, rfl, _⟩ := id h2
  have := sh_bytes_Equal_all A1 A2 l1.length c1 l2.length c2 (l1.map fun b => (b.toNat : Int)) (l2.map fun b => (b.toNat : Int)) w (by simp) (by simp) h1.bytesIn.2 h2.bytesIn.2
  rw [bytesOf_ints, bytesOf_ints] at this
  have e : (l1 == l2) = decide (l1 = l2) := by
    rw [Bool.eq_iff_iff]
    simp
  rwa [e] at this

theorem mkS_toList (l : Bytes) : (mkS l).toList = l := by rw [toList_bl, bl_mkS]

def AlkPost (w : World) (A B : Nat → Nat) (T U : Fs) (pb kb : Nat) (p : Pt) (i j : Nat) (Pr : List (Nat × Nat)) (e : Ending) (w' : World) : Prop :=
  ∃ r Pr', e = .returned (.bool r) ∧ AlkDone w w' A B T U pb kb p i j Pr r Pr'

def statA (n : Nd) (i : Nat) : Array Value :=
  #[.int .i64 n.kind, .int .i64 i, .int .i64 0, .int .i64 n.links, .int .i64 n.mt.mode, .int .i64 n.mt.sec, .int .i64 n.mt.nano, .int .i64 n.mt.uid, .int .i64 n.mt.gid, .string (mkS n.target)]

/-- What stands in the two variables that hold a copy of each thing's Stat. -/
def TwoStats (w W : World) (T U : Fs) (i j : Nat) (x y : Value) : Prop :=
  ∃ bx by', x = .pointer (some ⟨bx, 0, none⟩) ∧ y = .pointer (some ⟨by', 0, none⟩) ∧ W.heap[bx]? = some (.cells (statA (T.nd i) i) 38 (0, 0)) ∧ W.heap[by']? = some (.cells (statA (U.nd j) j) 38 (0, 0)) ∧ Below w.heap.size w W

set_option maxHeartbeats 4000000 in
set_option maxRecDepth 100000 in
theorem alike_calls (tb : Nat) (A M : Nat → Nat) (T : Fs) (ub : Nat) (B N : Nat → Nat) (U : Fs) (pb kb : Nat) (hpk : pb ≠ kb) (n1 : ¬ Own tb A M T pb) (n2 : ¬ Own tb A M T kb) (n3 : ¬ Own ub B N U pb) (n4 : ¬ Own ub B N U kb) :
    ∀ (n : Nat) (p : Pt) (i j : Nat) (Pr : List (Nat × Nat)) (w : World), Rep w tb A M T → Rep w ub B N U → (p, i) ∈ T.names → (p, j) ∈ U.names → (∀ t k, (p ++ t, k) ∈ T.names → t.length ≤ n) → MapIs w pb (prL A B Pr) → MapIs w kb (prR A B Pr) →
      (∀ x ∈ Pr, ∃ q, (q, x.1) ∈ T.names ∧ (q, x.2) ∈ U.names) → (∀ x ∈ Pr, Lk T U x.1 x.2) → (∀ t k, (p ++ t, k) ∈ T.names → (T.nd k).kind = 2 → ∀ l, (k, l) ∉ Pr) →
    Calls Try.prog 40 #[ptr (A i), ptr (B j), .map (some pb), .map (some kb)] w (AlkPost w A B T U pb kb p i j Pr) := by
  intro n
  induction n using Nat.strongRecOn with
  | _ n ih =>
    intro p i j Pr w hR hS hp hq hlen m1 m2 wit like hdir
    have hT := hR.inv
    have hU := hS.inv
    have hD : ∀ x ∈ Pr, T.Live x.1 := fun x hx => by obtain ⟨q, h1, _⟩ := wit x hx; exact ⟨q, h1⟩
    have hE : ∀ x ∈ Pr, U.Live x.2 := fun x hx => by obtain ⟨q, _, h1⟩ := wit x hx; exact ⟨q, h1⟩
    by_cases hin : ∃ j', (i, j') ∈ Pr
    · obtain ⟨j', hin⟩ := hin
      have hk : (T.nd i).kind ≠ 2 := fun hk => hdir [] i (by simpa using hp) hk j' hin
      have hlk : (Instr.lookup 68 (.map (some pb)) (ptr (A i)) true).run Try.prog w = .ok (.tuple #[ptr (B j'), .bool true]) w := m1.look_hit under_met (prL_key hR ⟨_, hp⟩ hD) (List.mem_map.2 ⟨_, hin, rfl⟩) true
      have hfin := alk_again hT hU hp hq hk m1 m2 wit like hin
      by_cases e : j' = j
      · subst e
        rw [show decide (j' = j') = true by simp] at hfin
        have hptr := fun W : World => run_eql_ptr_same (P := Try.prog) W ⟨B j', 0, none⟩ Try.underlying64 info_node
        replace hfin := Lib.hid hfin
        clear hR hS m1 m2 ih hlen hdir wit like hT hU hD hE hin
        unfold ptr at *
        go_enter Try.func40, Try.ntmps40
        go_wp2
        go_ret
        exact ⟨true, Pr, rfl, hfin.out⟩
      · rw [show decide (j' = j) = false by simpa using e] at hfin
        obtain ⟨dv1, _, hn1⟩ := hS.node j' (hE _ hin)
        obtain ⟨dv2, _, hn2⟩ := hS.node j ⟨_, hq⟩
        have hptr := run_eql_ptr_other (P := Try.prog) w (a := ⟨B j', 0, none⟩) (b := ⟨B j, 0, none⟩) Try.underlying64 info_node node_size (fun e2 => e (hS.injA j' j (hE _ hin) ⟨_, hq⟩ (congrArg Addr.block e2))) hn1 hn2
        replace hfin := Lib.hid hfin
        clear hR hS m1 m2 ih hlen hdir wit like hT hU hD hE hin hn1 hn2 e
        unfold ptr at *
        go_enter Try.func40, Try.ntmps40
        go_wp2
        go_ret
        exact ⟨false, Pr, rfl, hfin.out⟩
    · have hin2 : ∀ k, (i, k) ∉ Pr := fun k hk => hin ⟨k, hk⟩
      have hlk : (Instr.lookup 68 (.map (some pb)) (ptr (A i)) true).run Try.prog w = .ok (.tuple #[.pointer none, .bool false]) w := m1.look_miss under_met (prL_key hR ⟨_, hp⟩ hD) (prL_none hR ⟨_, hp⟩ hD hin2) (zero_node w) true
      by_cases hta : ∃ i', (i', j) ∈ Pr
      · obtain ⟨i', hta⟩ := hta
        have hlk2 : (Instr.lookup 68 (.map (some kb)) (ptr (B j)) true).run Try.prog w = .ok (.tuple #[ptr (A i'), .bool true]) w := m2.look_hit under_met (prR_key hS ⟨_, hq⟩ hE) (List.mem_map.2 ⟨_, hta, rfl⟩) true
        have hfin := alk_taken hT hp hq m1 m2 wit hta hin2
        replace hfin := Lib.hid hfin
        clear hR hS m1 m2 ih hlen hdir wit like hT hU hD hE hin hta hin2
        unfold ptr at *
        go_enter Try.func40, Try.ntmps40
        go_wp2
        go_ret
        exact ⟨false, Pr, rfl, hfin.out⟩
      · have hta2 : ∀ k, (k, j) ∉ Pr := fun k hk => hta ⟨k, hk⟩
        have hlk2 : (Instr.lookup 68 (.map (some kb)) (ptr (B j)) true).run Try.prog w = .ok (.tuple #[.pointer none, .bool false]) w := m2.look_miss under_met (prR_key hS ⟨_, hq⟩ hE) (prR_none hS ⟨_, hq⟩ hE hta2) (zero_node w) true
        obtain ⟨w1, hst1, w2, hst2, m1', m2', ht2⟩ := pair_store hpk hR hS ⟨_, hp⟩ ⟨_, hq⟩ hD hE hin2 hta2 m1 m2 n3 n4
        have hR2 := hR.two_maps m1 m2 n1 n2 ht2
        have hS2 := hS.two_maps m1 m2 n3 n4 ht2
        obtain ⟨dv, hDv, c0, c1, c2, c3, c4, c5, c6, c7, c8, c9, c10, c11⟩ := hR2.cells ⟨p, hp⟩
        obtain ⟨ev, hEv, d0, d1, d2, d3, d4, d5, d6, d7, d8, d9, d10, d11⟩ := hS2.cells ⟨p, hq⟩
        replace hR := Lib.hid hR
        replace hS := Lib.hid hS
        replace hR2 := Lib.hid hR2
        replace hS2 := Lib.hid hS2
        replace m1 := Lib.hid m1
        replace m2 := Lib.hid m2
        replace m1' := Lib.hid m1'
        replace m2' := Lib.hid m2'
        replace ht2 := Lib.hid ht2
        replace ih := Lib.hid ih
        replace hlen := Lib.hid hlen
        replace hdir := Lib.hid hdir
        replace wit := Lib.hid wit
        replace like := Lib.hid like
        replace hT := Lib.hid hT
        replace hU := Lib.hid hU
        replace hD := Lib.hid hD
        replace hE := Lib.hid hE
        replace hin2 := Lib.hid hin2
        replace hta2 := Lib.hid hta2
        replace hst1 := Lib.hid hst1
        replace hst2 := Lib.hid hst2
        clear hin hta
        unfold ptr at *
        go_enter Try.func40, Try.ntmps40
        go_upto_region 8 with (first | (at_mapUpdate; refine wp_store _ rfl _ _ _ 68 rfl (.map (some pb)) (.pointer (some ⟨A i, 0, none⟩)) (.pointer (some ⟨B j, 0, none⟩)) rfl rfl rfl w1 hst1.out ?_) | (at_mapUpdate; refine wp_store _ rfl _ _ _ 68 rfl (.map (some kb)) (.pointer (some ⟨B j, 0, none⟩)) (.pointer (some ⟨A i, 0, none⟩)) rfl rfl rfl w2 hst2.out ?_))
        go_frame
        go_cut [13, 14] (fun x y W => TwoStats w2 W T U i j x y)
        case first =>
          have e0 := World.new_ne w2 ⟨A i, 0, none⟩ c0
          have e1 := World.new_ne w2 ⟨B j, 0, none⟩ d0
          go_region_held3 (fun W => W.cell? ⟨A i, 0, none⟩ = some (.int .i64 (T.nd i).kind) ∧ W.cell? ⟨A i, 1, none⟩ = some (.int .i64 i) ∧ W.cell? ⟨A i, 2, none⟩ = some (.int .i64 0) ∧ W.cell? ⟨A i, 3, none⟩ = some (.int .i64 (T.nd i).links) ∧ W.cell? ⟨A i, 4, none⟩ = some (.int .i64 (T.nd i).mt.mode) ∧ W.cell? ⟨A i, 5, none⟩ = some (.int .i64 (T.nd i).mt.sec) ∧ W.cell? ⟨A i, 6, none⟩ = some (.int .i64 (T.nd i).mt.nano) ∧ W.cell? ⟨A i, 7, none⟩ = some (.int .i64 (T.nd i).mt.uid) ∧ W.cell? ⟨A i, 8, none⟩ = some (.int .i64 (T.nd i).mt.gid) ∧ W.cell? ⟨A i, 9, none⟩ = some (.string (mkS (T.nd i).target)) ∧ W.cell? ⟨B j, 0, none⟩ = some (.int .i64 (U.nd j).kind) ∧ W.cell? ⟨B j, 1, none⟩ = some (.int .i64 j) ∧ W.cell? ⟨B j, 2, none⟩ = some (.int .i64 0) ∧ W.cell? ⟨B j, 3, none⟩ = some (.int .i64 (U.nd j).links) ∧ W.cell? ⟨B j, 4, none⟩ = some (.int .i64 (U.nd j).mt.mode) ∧ W.cell? ⟨B j, 5, none⟩ = some (.int .i64 (U.nd j).mt.sec) ∧ W.cell? ⟨B j, 6, none⟩ = some (.int .i64 (U.nd j).mt.nano) ∧ W.cell? ⟨B j, 7, none⟩ = some (.int .i64 (U.nd j).mt.uid) ∧ W.cell? ⟨B j, 8, none⟩ = some (.int .i64 (U.nd j).mt.gid) ∧ W.cell? ⟨B j, 9, none⟩ = some (.string (mkS (U.nd j).target))) (go_keep) (fail)
          all_goals (go_wp2_with fail)
          · go_meet
            exact ⟨_, _, rfl, rfl, (two_blocks w2.drew _ _).1, (two_blocks w2.drew _ _).2, below_alloc (below_alloc (below_drewN (Below.refl _ _) 1) _) _⟩
          · go_meet
            exact ⟨_, _, rfl, rfl, (two_blocks w2.drew _ _).2, (two_blocks w2.drew _ _).1, below_alloc (below_alloc (below_drewN (Below.refl _ _) 1) _) _⟩
        case rest =>
          obtain ⟨bx, by', rfl, rfl, hx, hy, hB3⟩ := hcut
          have hRc := hR2.out.below hB3
          have hSc := hS2.out.below hB3
          obtain ⟨dvc, hDvc, _, _, _, _, _, _, _, _, _, _, cc10, cc11⟩ := hRc.cells ⟨p, hp⟩
          obtain ⟨evc, hEvc, _, _, _, _, _, _, _, _, _, _, dd10, dd11⟩ := hSc.cells ⟨p, hq⟩
          have x0 := cell_of (j := 0) hx (v := .int .i64 (T.nd i).kind) rfl
          have x4 := cell_of (j := 4) hx (v := .int .i64 (T.nd i).mt.mode) rfl
          have x5 := cell_of (j := 5) hx (v := .int .i64 (T.nd i).mt.sec) rfl
          have x6 := cell_of (j := 6) hx (v := .int .i64 (T.nd i).mt.nano) rfl
          have x7 := cell_of (j := 7) hx (v := .int .i64 (T.nd i).mt.uid) rfl
          have x8 := cell_of (j := 8) hx (v := .int .i64 (T.nd i).mt.gid) rfl
          have x9 := cell_of (j := 9) hx (v := .string (mkS (T.nd i).target)) rfl
          have y0 := cell_of (j := 0) hy (v := .int .i64 (U.nd j).kind) rfl
          have y4 := cell_of (j := 4) hy (v := .int .i64 (U.nd j).mt.mode) rfl
          have y5 := cell_of (j := 5) hy (v := .int .i64 (U.nd j).mt.sec) rfl
          have y6 := cell_of (j := 6) hy (v := .int .i64 (U.nd j).mt.nano) rfl
          have y7 := cell_of (j := 7) hy (v := .int .i64 (U.nd j).mt.uid) rfl
          have y8 := cell_of (j := 8) hy (v := .int .i64 (U.nd j).mt.gid) rfl
          have y9 := cell_of (j := 9) hy (v := .string (mkS (U.nd j).target)) rfl
          replace hRc := Lib.hid hRc
          replace hSc := Lib.hid hSc
          replace hx := Lib.hid hx
          replace hy := Lib.hid hy
          clear c0 c1 c2 c3 c4 c5 c6 c7 c8 c9 c10 c11 d0 d1 d2 d3 d4 d5 d6 d7 d8 d9 d10 d11 hlk hlk2
          have hmt := fun W => neq_mt W (T.nd i).mt.mode (T.nd i).mt.sec (T.nd i).mt.nano (T.nd i).mt.uid (T.nd i).mt.gid (U.nd j).mt.mode (U.nd j).mt.sec (U.nd j).mt.nano (U.nd j).mt.uid (U.nd j).mt.gid
          obtain ⟨mq, hmq⟩ : ∃ b : Bool, b = !decide ((T.nd i).mt.mode = (U.nd j).mt.mode ∧ (T.nd i).mt.sec = (U.nd j).mt.sec ∧ (T.nd i).mt.nano = (U.nd j).mt.nano ∧ (T.nd i).mt.uid = (U.nd j).mt.uid ∧ (T.nd i).mt.gid = (U.nd j).mt.gid) := ⟨_, rfl⟩
          rw [← hmq] at hmt
          have hmq2 : mq = false ↔ (T.nd i).mt = (U.nd j).mt := by
            rw [hmq, ← mt_eq]
            simp
          replace hmq2 := Lib.hid hmq2
          clear hmq
          go_upto_region 9 with fail
          go_cut [91] (fun c W => ∃ r : Bool, c = .bool (!r) ∧ (r = true ↔ Lk T U i j ∧ (T.kids p).length = (U.kids p).length) ∧ ∃ m, wc.drewN m = W)
          case first =>
            by_cases hk1 : (T.nd i).kind = (U.nd j).kind
            · have hk2 : ((T.nd i).kind != (U.nd j).kind) = false := by simpa using hk1
              replace hk1 := Lib.hid hk1
              cases mq with
              | true =>
                have hnm : (T.nd i).mt ≠ (U.nd j).mt := fun e => by have := hmq2.out.2 e; cases this
                replace hnm := Lib.hid hnm
                go_quiet (fail)
                go_wp2_with fail
                go_meet
                exact ⟨false, rfl, ⟨fun h => (by cases h), fun h => absurd h.1 (fun h => hnm.out h.2.1)⟩, _, rfl⟩
              | false =>
                have hmm := hmq2.out.1 rfl
                replace hmm := Lib.hid hmm
                by_cases htg : (T.nd i).target = (U.nd j).target
                · have ht1 : (mkS (T.nd i).target).toList = (mkS (U.nd j).target).toList := by rw [htg]
                  have ht3 : ((mkS (T.nd i).target).toList == (mkS (U.nd j).target).toList) = true := by simp [ht1]
                  replace htg := Lib.hid htg
                  have hbe := fun m : Nat => bequal_rd dvc evc (T.nd i).data (U.nd j).data (wc.drewN m) hDvc.rdb hEvc.rdb
                  by_cases hdt : (T.nd i).data = (U.nd j).data
                  · rw [show decide ((T.nd i).data = (U.nd j).data) = true by simpa using hdt] at hbe
                    replace hdt := Lib.hid hdt
                    replace hbe := Lib.hid hbe
                    have hl1 := fun (m : Nat) ty => (hRc.out.drewN m).len_kids hp ty
                    have hl2 := fun (m : Nat) ty => (hSc.out.drewN m).len_kids hq ty
                    by_cases hln : (T.kids p).length = (U.kids p).length
                    · have hln2 : (((T.kids p).length : Int) != ((U.kids p).length : Int)) = false := by simp [hln]
                      have hln3 : ((T.kids p).length != (U.kids p).length) = false := by simp [hln]
                      replace hln := Lib.hid hln
                      go_quiet ((go_at_call 68; exact Calls.quiet_of_same (hbe.out _)))
                      go_wp2_with fail
                      go_meet
                      exact ⟨true, rfl, ⟨fun _ => ⟨⟨hk1.out, hmm.out, htg.out, hdt.out⟩, hln.out⟩, fun _ => rfl⟩, _, rfl⟩
                    · have hln2 : (((T.kids p).length : Int) != ((U.kids p).length : Int)) = true := by simp only [bne_iff_ne, ne_eq]; omega
                      have hln3 : ((T.kids p).length != (U.kids p).length) = true := by simpa using hln
                      replace hln := Lib.hid hln
                      go_quiet ((go_at_call 68; exact Calls.quiet_of_same (hbe.out _)))
                      go_wp2_with fail
                      go_meet
                      exact ⟨false, rfl, ⟨fun h => (by cases h), fun h => absurd h.2 hln.out⟩, _, rfl⟩
                  · rw [show decide ((T.nd i).data = (U.nd j).data) = false by simpa using hdt] at hbe
                    replace hdt := Lib.hid hdt
                    replace hbe := Lib.hid hbe
                    go_quiet ((go_at_call 68; exact Calls.quiet_of_same (hbe.out _)))
                    go_wp2_with fail
                    go_meet
                    exact ⟨false, rfl, ⟨fun h => (by cases h), fun h => absurd h.1 (fun h => hdt.out h.2.2.2)⟩, _, rfl⟩
                · have ht1 : ¬ (mkS (T.nd i).target).toList = (mkS (U.nd j).target).toList := by rw [mkS_toList, mkS_toList]; exact htg
                  have ht3 : ((mkS (T.nd i).target).toList == (mkS (U.nd j).target).toList) = false := by simpa using ht1
                  replace htg := Lib.hid htg
                  go_quiet (fail)
                  go_wp2_with fail
                  go_meet
                  exact ⟨false, rfl, ⟨fun h => (by cases h), fun h => absurd h.1 (fun h => htg.out h.2.2.1)⟩, _, rfl⟩
            · have hk2 : ((T.nd i).kind != (U.nd j).kind) = true := by simpa using hk1
              replace hk1 := Lib.hid hk1
              go_quiet (fail)
              go_wp2_with fail
              go_meet
              exact ⟨false, rfl, ⟨fun h => (by cases h), fun h => absurd h.1 (fun h => hk1.out h.1)⟩, _, rfl⟩
          case rest =>
            obtain ⟨r, rfl, hr, m, rfl⟩ := hcut
            have hmc1 : MapIs (wc.drewN m) pb (prL A B (Pr ++ [(i, j)])) := m1'.out.of_block (hB3.block pb m1'.out.lt)
            have hmc2 : MapIs (wc.drewN m) kb (prR A B (Pr ++ [(i, j)])) := m2'.out.of_block (hB3.block kb m2'.out.lt)
            have htc : Turn w (wc.drewN m) (fun b => b = pb ∨ b = kb) := (ht2.out.trans (Turn.of_below hB3 _)).drewN m
            have hRd := hRc.out.drewN m
            have hSd := hSc.out.drewN m
            replace hmc1 := Lib.hid hmc1
            replace hmc2 := Lib.hid hmc2
            replace htc := Lib.hid htc
            replace hr := Lib.hid hr
            clear x0 x4 x5 x6 x7 x8 x9 y0 y4 y5 y6 y7 y8 y9 hmt hmq2 hx hy dd10 cc10 hB3 hRc hSc hDvc hEvc m1' m2' ht2 hst1 hst2 hDv hEv hR2 hS2
            cases r with
            | false =>
              have hno : ¬ SameFs T U := fun hs => by
                have := hr.out.2 ⟨hs.like p i j hp hq, hs.kids_len hT.out hU.out p⟩
                cases this
              have hfin := alk_no hp hq hmc1.out hmc2.out wit.out hno htc.out
              replace hfin := Lib.hid hfin
              replace hRd := Lib.hid hRd
              replace hSd := Lib.hid hSd
              go_wp2
              go_ret
              exact ⟨false, _, rfl, hfin.out⟩
            | true =>
              obtain ⟨hlk0, hkl⟩ := hr.out.1 rfl
              have hI0 := alk_start hp hq hmc1.out hmc2.out wit.out like.out hlk0 htc.out
              have hmn := fun W m => map_not_nil W m
              replace hmc1 := hmc1
              by_cases hk : (T.nd i).kind = 2
              · have hk' : (U.nd j).kind = 2 := by rw [← hlk0.1]; exact hk
                have hM := hRd.kids p i hp hk
                have hMl : M i < w.heap.size := (hR.out.kids p i hp hk).lt
                have hpb := m1.out.lt
                have hkb := m2.out.lt
                have hNlt := (hS.out.kids p j hq hk').lt
                rw [kidsV, if_pos hk] at cc11
                rw [kidsV, if_pos hk'] at dd11
                replace hk := Lib.hid hk
                replace hk' := Lib.hid hk'
                replace hM := Lib.hid hM
                replace hI0 := Lib.hid hI0
                replace hlk0 := Lib.hid hlk0
                replace hkl := Lib.hid hkl
                replace hRd := Lib.hid hRd
                replace hSd := Lib.hid hSd
                go_wp2_with (at_range; refine wp_range _ rfl _ 74 rfl 9 64 under_kids (M i) _ rfl hM.out ?_)
                intro w5 hrg5 hg5 _
                have hI5 := hI0.out.other (S := fun _ => False) (Turn.of_grown hg5 (fun j e => by cases e)) (fun b hb => hb.elim)
                have hrw : w.heap.size ≤ wc.heap.size := htc.out.size
                replace hI5 := Lib.hid hI5
                clear hI0 hM hmc1 hmc2 htc hr hg5 hRd hSd cc11 dd11 hlk0
                obtain ⟨rr, hrr⟩ : ∃ x, x = wc.heap.size := ⟨_, rfl⟩
                rw [← hrr] at hrg5 hrw ⊢
                replace hrr := Lib.hid hrr
                go_wp2
                go_loopw [15, 16] (fun x kk wr => ∃ (K1 K2 : List (Bytes × Nat)) (left : List (Value × Value)) (Pr1 : List (Nat × Nat)), Ranges wr (M i) rr (entries A (T.kids p)) left ∧ left.Perm (entries A K2) ∧ (T.kids p).Perm (K1 ++ K2) ∧ AlkInv w wr A B T U pb kb p i j Pr K1 Pr1) (fun _ _ wr => wr.rangeLeft (M i) rr)
                case atStart => exact ⟨[], T.kids p, _, _, hrg5, .refl _, .refl _, hI5.out⟩
                case round =>
                  clear hI5 hrg5
                  obtain ⟨K1, K2, left, Pr1, hrg, hL, hK, hI⟩ := hrel
                  replace hL := Lib.hid hL
                  replace hK := Lib.hid hK
                  replace hI := Lib.hid hI
                  go_wp2_with (at_next; refine wp_next _ rfl _ rfl (M i) rr _ _ rfl hrg ?_ ?_)
                  · intro hl0
                    have hLK : K2 = [] := entries_nil (A := A) (by have := hL.out; rwa [hl0] at this)
                    have hKd : (T.kids p).Perm K1 := by
                      have := hK.out
                      rwa [hLK, List.append_nil] at this
                    have hfin := alk_end hT.out hU.out hp hq hI.out hKd hkl.out
                    replace hfin := Lib.hid hfin
                    clear hL hK hI hLK hKd hl0 hrg
                    go_wp2
                    go_ret
                    exact ⟨true, Pr1, rfl, hfin.out⟩
                  · intro x v left' w6 hp2 hmem hrg6 hg6 hs6 hen
                    obtain ⟨y, k, L', hL1, rfl, rfl, hL2⟩ := entries_pick hL.out hp2
                    have hK2 : (T.kids p).Perm ((K1 ++ [(y, k)]) ++ L') := hK.out.trans (by simpa using hL1.append_left K1)
                    have hkm : (p ++ [y], k) ∈ T.names := mem_kidsL.1 (hK2.mem_iff.2 (by simp))
                    have hit := hrg.iter
                    have hI6 : AlkInv w w6 A B T U pb kb p i j Pr K1 Pr1 := by
                      refine hI.out.other (S := fun b => b = rr) (Turn.of_grown hg6 (fun j e => by cases e; rfl)) ?_
                      rintro b rfl
                      exact ⟨hrw, hit.2⟩
                    have hR6 := hR.out.two_maps m1.out m2.out n1 n2 hI6.turn
                    have hS6 := hS.out.two_maps m1.out m2.out n3 n4 hI6.turn
                    have hlkB := hS6.look hq hk'.out y
                    have hd11 := dir_cell hS6 hq hk'.out
                    have hmeas : wr.rangeLeft (M i) rr = left.length := hrg.left_eq
                    have hlt : left'.length < left.length := by have := hp2.length_eq; simp at this; omega
                    have hMip : M i ≠ pb := fun e => n1 (by rw [← e]; exact Or.inr (Or.inr ⟨i, ⟨p, hp⟩, hk.out, rfl⟩))
                    have hMik : M i ≠ kb := fun e => n2 (by rw [← e]; exact Or.inr (Or.inr ⟨i, ⟨p, hp⟩, hk.out, rfl⟩))
                    cases hat : U.at (p ++ [y]) with
                    | none =>
                      rw [hat, optPtr_none] at hlkB
                      have hno : ¬ SameFs T U := fun hs => by
                        obtain ⟨j', hj'⟩ := hs.there _ _ hkm
                        exact Fs.at_none.1 hat j' hj'
                      have hfin := hI6.stop hp hno
                      replace hfin := Lib.hid hfin
                      replace hat := Lib.hid hat
                      replace hR6 := Lib.hid hR6
                      replace hS6 := Lib.hid hS6
                      unfold ptr at hen
                      clear hK2 hL2 hmeas hlt hit hI6 hL hK hI hL1 hp2 hmem hrg hg6 hs6 hrg6 hMip hMik
                      go_wp2
                      go_ret
                      exact ⟨false, Pr1, rfl, hfin.out⟩
                    | some l =>
                      have hlm := hU.out.at_some.1 hat
                      rw [hat, optPtr_some] at hlkB
                      have hn1 : 1 ≤ n := by simpa using hlen.out [y] k hkm
                      have hyK : ∀ k, (y, k) ∉ K1 := fun k hk => by
                        have hnd := (hK2.map (·.1)).nodup_iff.1 (hT.out.kids_nodup p)
                        rw [List.map_append, List.map_append, List.append_assoc] at hnd
                        exact (List.nodup_append.1 hnd).2.2 y (List.mem_map.2 ⟨_, hk, rfl⟩) y (by simp) rfl
                      have hrec := ih.out (n - 1) (by omega) (p ++ [y]) k l Pr1 w6 hR6 hS6 hkm hlm (fun t u hu => by
                        have := hlen.out (y :: t) u (by simpa using hu)
                        simp at this
                        omega) hI6.m1 hI6.m2 hI6.wit hI6.like (fun t u hu hk2 l' hin3 => by
                          have hu' : (p ++ y :: t, u) ∈ T.names := by simpa using hu
                          rcases hI6.low _ hin3 with h | h | ⟨z, hz, t', hzt⟩
                          · exact hdir.out (y :: t) u hu' hk2 l' h
                          · simp only [Prod.mk.injEq] at h
                            obtain ⟨rfl, _⟩ := h
                            have := hT.out.dir_one hp hu' hk2
                            simp at this
                          · have := hT.out.dir_one hzt hu' hk2
                            rw [List.append_cancel_left_eq, List.cons.injEq] at this
                            exact hyK z.2 (by rw [this.1]; exact hz))
                      have hyes := fun w7 Pr2 (hd : AlkDone w6 w7 A B T U pb kb (p ++ [y]) k l Pr1 true Pr2) => (⟨alk_step hI6 hd, hrg6.of_blocks (hd.turn.block _ hrg6.is.lt (by rintro (e | e); exact hMip e; exact hMik e)) (hd.turn.block _ hrg6.lt (by omega))⟩ : AlkInv w w7 A B T U pb kb p i j Pr (K1 ++ [(y, k)]) Pr2 ∧ Ranges w7 (M i) rr (entries A (T.kids p)) left')
                      have hnay := fun w7 Pr2 (hd : AlkDone w6 w7 A B T U pb kb (p ++ [y]) k l Pr1 false Pr2) => alk_fall hp hI6 hd
                      unfold ptr at hrec hen
                      replace hrec := Lib.hid hrec
                      replace hyes := Lib.hid hyes
                      replace hnay := Lib.hid hnay
                      replace hK2 := Lib.hid hK2
                      replace hL2 := Lib.hid hL2
                      replace hmeas := Lib.hid hmeas
                      replace hkm := Lib.hid hkm
                      replace hlm := Lib.hid hlm
                      replace hyK := Lib.hid hyK
                      replace hat := Lib.hid hat
                      replace hR6 := Lib.hid hR6
                      replace hS6 := Lib.hid hS6
                      clear hK hL hI hL1 hp2 hmem hrg hg6 hs6 hrg6 hit hI6 hMip hMik
                      go_wp2_with fail
                      refine hrec.out.mono ?_
                      rintro e w7 ⟨r2, Pr2, rfl, hd⟩
                      cases r2 with
                      | true =>
                        obtain ⟨hI7, hrg7⟩ := hyes.out w7 Pr2 hd
                        replace hI7 := Lib.hid hI7
                        clear hd hyes hnay hrec
                        go_wp2
                        go_roundw
                        case rel => exact ⟨K1 ++ [(y, k)], L', left', Pr2, hrg7, hL2.out, hK2.out, hI7.out⟩
                        case measure => rw [hrg7.left_eq, hmeas.out]; exact hlt
                      | false =>
                        have hfin := hnay.out w7 Pr2 hd
                        replace hfin := Lib.hid hfin
                        clear hd hyes hnay hrec
                        go_wp2
                        go_ret
                        exact ⟨false, Pr2, rfl, hfin.out⟩
              · have hkids := kids_file hT.out hp hk
                have hI5 := hI0.other (S := fun _ => False) (Turn.of_below ((Below.refl (wc.drewN m).heap.size (wc.drewN m)).alloc (Nat.le_refl _) (.mapIter none 0 #[] 0)) _) (fun b hb => hb.elim)
                have hfin := alk_end hT.out hU.out hp hq hI5 (by rw [hkids]) hkl
                have hrg := run_range_nilMap (P := Try.prog) (wc.drewN m) 74 9 64 under_kids
                have hnx : ∀ ty, (Instr.next (.pointer (some ⟨(wc.drewN m).heap.size, 0, none⟩)) false ty).run Try.prog ((wc.drewN m).alloc (.mapIter none 0 #[] 0)) = _ := fun ty => run_next_nilMap (wc.drewN m) ty 0 0 #[]
                rw [kidsV, if_neg hk] at cc11
                replace hfin := Lib.hid hfin
                replace hk := Lib.hid hk
                replace hRd := Lib.hid hRd
                replace hSd := Lib.hid hSd
                have cc11' : (wc.drewN m).cell? ⟨A i, 11, none⟩ = some (.map none) := cc11
                clear hI0 hI5 hmc1 hmc2 htc hr hlk0 hkl hkids cc11 dd11
                generalize wc.drewN m = wd at *
                go_wp2
                refine wp_loop_rounds 1 ?_
                rw [rounds_succ]
                go_wp2
                go_ret
                exact ⟨true, _, rfl, hfin.out⟩

end Go.Proofs.Ytemdinjiplglgaa

namespace Go.Proofs.Ytemdinjiplglgaa
open Go.RowKit

def SameRes (T U : Fs) (w : World) (e : Ending) (w' : World) : Prop := (∃ r : Bool, e = .returned (.bool r) ∧ (r = true ↔ SameFs T U)) ∧ Below w.heap.size w w'

set_option maxHeartbeats 2000000 in
set_option maxRecDepth 100000 in
theorem same_calls (tb : Nat) (A M : Nat → Nat) (T : Fs) (ub : Nat) (B N : Nat → Nat) (U : Fs) (w : World) (hR : Rep w tb A M T) (hS : Rep w ub B N U) :
    Calls Try.prog 14 #[ptr tb, ptr ub] w (SameRes T U w) := by
  have hT := hR.inv
  have hU := hS.inv
  have hkeep : ∀ W, Below w.heap.size w W → W.cell? ⟨tb, 0, none⟩ = some (.pointer (some ⟨A 1, 0, none⟩)) ∧ W.cell? ⟨ub, 0, none⟩ = some (.pointer (some ⟨B 1, 0, none⟩)) := fun W hB => ⟨cell_of (hR.below hB).tree rfl, cell_of (hS.below hB).tree rfl⟩
  have hB1 : Below w.heap.size w (w.drew.alloc (.map #[] 0)) := below_alloc (below_drewN (Below.refl _ _) 1) _
  have hB0 : Below w.heap.size w ((w.drew.alloc (.map #[] 0)).alloc (.map #[] 0)) := below_alloc hB1 _
  have n1 : ∀ k, ¬ Own tb A M T (w.heap.size + k) := fun k h => by have := hR.lt h; omega
  have n2 : ∀ k, ¬ Own ub B N U (w.heap.size + k) := fun k h => by have := hS.lt h; omega
  have hm1 : MapIs ((w.drew.alloc (.map #[] 0)).alloc (.map #[] 0)) w.heap.size [] := (show MapIs (w.drew.alloc (.map #[] 0)) w.heap.size [] from mapIs_made w.drew).kept (World.grownBy_alloc _ _ none) (by simp)
  have hm2 : MapIs ((w.drew.alloc (.map #[] 0)).alloc (.map #[] 0)) (w.heap.size + 1) [] := by
    have := mapIs_made (w.drew.alloc (.map #[] 0))
    rwa [show (w.drew.alloc (.map #[] 0)).heap.size = w.heap.size + 1 by simp] at this
  have hcall := fun pb kb (h1 : pb ≠ kb) (h2 : pb = w.heap.size ∨ pb = w.heap.size + 1) (h3 : kb = w.heap.size ∨ kb = w.heap.size + 1) =>
    alike_calls tb A M T ub B N U pb kb h1 (by rcases h2 with rfl | rfl; exact n1 0; exact n1 1) (by rcases h3 with rfl | rfl; exact n1 0; exact n1 1) (by rcases h2 with rfl | rfl; exact n2 0; exact n2 1) (by rcases h3 with rfl | rfl; exact n2 0; exact n2 1)
      12 [] 1 1 [] ((w.drew.alloc (.map #[] 0)).alloc (.map #[] 0)) (hR.below hB0) (hS.below hB0) hT.one hU.one (fun t j hm => (hT.pth _ _ hm).few) (by rcases h2 with rfl | rfl; exact hm1; exact hm2) (by rcases h3 with rfl | rfl; exact hm1; exact hm2) (by simp) (by simp) (by simp)
  have hfin : ∀ pb kb w1 r Pr', (pb = w.heap.size ∨ pb = w.heap.size + 1) → (kb = w.heap.size ∨ kb = w.heap.size + 1) → AlkDone ((w.drew.alloc (.map #[] 0)).alloc (.map #[] 0)) w1 A B T U pb kb [] 1 1 [] r Pr' → (r = true ↔ SameFs T U) ∧ Below w.heap.size w w1 := by
    intro pb kb w1 r Pr' h2 h3 hd
    exact ⟨alk_same hU hd.m1.nodup hd.m2.nodup hd, hB0.trans ⟨hd.turn.os, hd.turn.tape, hd.turn.output, hd.turn.size, fun k hk => hd.turn.block k (by simp; omega) (by omega)⟩⟩
  have hmk := @run_makeMap Try.prog
  unfold ptr at *
  replace hcall := Lib.hid hcall
  replace hkeep := Lib.hid hkeep
  replace hB0 := Lib.hid hB0
  replace hB1 := Lib.hid hB1
  replace hfin := Lib.hid hfin
  replace hR := Lib.hid hR
  replace hS := Lib.hid hS
  replace hm1 := Lib.hid hm1
  replace hm2 := Lib.hid hm2
  replace n1 := Lib.hid n1
  replace n2 := Lib.hid n2
  go_enter Try.func14, Try.ntmps14
  go_wp2_with fail
  go_region_held3 (fun W => W.cell? ⟨tb, 0, none⟩ = some (.pointer (some ⟨A 1, 0, none⟩)) ∧ W.cell? ⟨ub, 0, none⟩ = some (.pointer (some ⟨B 1, 0, none⟩))) (first | (exact hkeep.out _ (below_drewN (Below.refl _ _) 1)) | (exact hkeep.out _ hB1.out) | (exact hkeep.out _ hB0.out) | (exact hkeep.out _ hBc))
    ((go_at_call 40; refine (hcall.out _ _ (by omega) (by simp) (by simp)).mono ?_; rintro e w1 ⟨r, Pr', rfl, hd⟩; obtain ⟨hr, hBc⟩ := hfin.out _ _ _ _ _ (by simp) (by simp) hd; replace hr := Lib.hid hr; clear hd))
  all_goals
    rename_i hHeld
    clear hHeld
    go_wp2
    go_ret
    exact ⟨⟨r, rfl, hr.out⟩, hBc⟩

end Go.Proofs.Ytemdinjiplglgaa

namespace Go.Proofs.Ytemdinjiplglgaa
open Go.RowKit

/-- A call on a tree. -/
structure Act17 where
  d : Int
  path : Bytes
  arg : Bytes
  data : Bytes
  mt : Mt

def Fs.act (T : Fs) (a : Act17) : Fs × Int :=
  if a.d = 0 then T.mkdir a.path a.mt else if a.d = 1 then T.write a.path a.data a.mt else if a.d = 2 then T.symlink a.path a.arg a.mt else if a.d = 3 then T.link a.path a.arg else
  if a.d = 4 then T.remove a.path else if a.d = 5 then T.rename a.path a.arg else if a.d = 6 then T.setM a.path a.mt else if a.d = 7 then T.append a.path a.data else (T, 0)

def actCells (a : Act17) (v : Value) : List Value := [.int .i64 a.d, .string (mkS a.path), .string (mkS a.arg), v, .int .i64 a.mt.mode, .int .i64 a.mt.sec, .int .i64 a.mt.nano, .int .i64 a.mt.uid, .int .i64 a.mt.gid]
def actV (a : Act17) (v : Value) : Value := .agg (actCells a v).toArray

set_option maxHeartbeats 2000000 in
set_option maxRecDepth 100000 in
theorem do_calls (tb : Nat) (A M : Nat → Nat) (T : Fs) (a : Act17) (v : Value) (w : World) (hR : Rep w tb A M T) (hp : a.path.length ≤ 1000000) (ht : a.arg.length ≤ 1000000) (hv : RdB w v a.data) (hd : a.data.length ≤ 1000000) (hnx : T.next < 4611686018427387904) (hf : T.names.length ≤ 1000000) :
    Calls Try.prog 13 #[ptr tb, actV a v] w fun e w' => e = .returned (.int .i64 (T.act a).2) ∧ Stp w w' tb A M T (T.act a).1 := by
  obtain ⟨d, p, t, b, m⟩ := a
  obtain ⟨m1, m2, m3, m4, m5⟩ := m
  dsimp only at hp ht hv hd
  have hps := mkS_size p
  have hts := mkS_size t
  obtain ⟨dA, dc, rfl, hl1, hl2⟩ : ∃ A c, v = .slice A b.length c ∧ b.length ≤ c ∧ c ≤ maxLen := by
    obtain ⟨A', c, h1, h2, h3, _⟩ := hv
    exact ⟨A', c, h1, h2, h3⟩
  have hB0 : Below w.heap.size w (w.alloc (.cells #[.int .i64 d, .string (mkS p), .string (mkS t), .slice dA b.length dc, .int .i64 m1, .int .i64 m2, .int .i64 m3, .int .i64 m4, .int .i64 m5] 27)) := (Below.refl _ _).alloc (Nat.le_refl _) _
  have hR0 := hR.below hB0
  have hv0 := hv.below hB0
  have q0 := mkdir_calls tb A M T (mkS p) ⟨m1, m2, m3, m4, m5⟩ _ hR0 (by omega) hnx
  have q1 := write_calls tb A M T (mkS p) _ b ⟨m1, m2, m3, m4, m5⟩ _ hR0 (by omega) hv0 (by omega) hnx
  have q2 := symlink_calls tb A M T (mkS p) (mkS t) ⟨m1, m2, m3, m4, m5⟩ _ hR0 (by omega) hnx
  have q3 := link_calls tb A M T (mkS p) (mkS t) _ hR0 (by omega) (by omega) hf
  have q4 := remove_calls tb A M T (mkS p) _ hR0 (by omega) hf
  have q5 := rename_calls tb A M T (mkS p) (mkS t) _ hR0 (by omega) (by omega) hf
  have q6 := set_calls tb A M T (mkS p) ⟨m1, m2, m3, m4, m5⟩ _ hR0 (by omega)
  have q7 := append_calls tb A M T (mkS p) _ b _ hR0 (by omega) hv0 (by omega)
  simp only [bl_mkS] at q0 q1 q2 q3 q4 q5 q6 q7
  unfold mtV mtCells ptr at *
  unfold actV actCells Fs.act
  dsimp only at *
  replace q0 := Lib.hid q0
  replace q1 := Lib.hid q1
  replace q2 := Lib.hid q2
  replace q3 := Lib.hid q3
  replace q4 := Lib.hid q4
  replace q5 := Lib.hid q5
  replace q6 := Lib.hid q6
  replace q7 := Lib.hid q7
  replace hR0 := Lib.hid hR0
  replace hR := Lib.hid hR
  replace hv0 := Lib.hid hv0
  replace hv := Lib.hid hv
  replace hB0 := Lib.hid hB0
  by_cases e0 : d = 0
  · subst e0
    rw [if_pos rfl]
    go_enter Try.func13, Try.ntmps13
    go_wp2_with fail
    refine q0.out.mono ?_
    rintro e w1 ⟨rfl, hst⟩
    replace hst := Lib.hid hst
    go_wp2
    go_ret
    exact ⟨rfl, hst.out.after hB0.out⟩
  by_cases e1 : d = 1
  · subst e1
    rw [if_neg (by decide)]; rw [if_pos rfl]
    go_enter Try.func13, Try.ntmps13
    go_wp2_with fail
    refine q1.out.mono ?_
    rintro e w1 ⟨rfl, hst⟩
    replace hst := Lib.hid hst
    go_wp2
    go_ret
    exact ⟨rfl, hst.out.after hB0.out⟩
  by_cases e2 : d = 2
  · subst e2
    rw [if_neg (by decide)]; rw [if_neg (by decide)]; rw [if_pos rfl]
    go_enter Try.func13, Try.ntmps13
    go_wp2_with fail
    refine q2.out.mono ?_
    rintro e w1 ⟨rfl, hst⟩
    replace hst := Lib.hid hst
    go_wp2
    go_ret
    exact ⟨rfl, hst.out.after hB0.out⟩
  by_cases e3 : d = 3
  · subst e3
    rw [if_neg (by decide)]; rw [if_neg (by decide)]; rw [if_neg (by decide)]; rw [if_pos rfl]
    go_enter Try.func13, Try.ntmps13
    go_wp2_with fail
    refine q3.out.mono ?_
    rintro e w1 ⟨rfl, hst⟩
    replace hst := Lib.hid hst
    go_wp2
    go_ret
    exact ⟨rfl, hst.out.after hB0.out⟩
  by_cases e4 : d = 4
  · subst e4
    rw [if_neg (by decide)]; rw [if_neg (by decide)]; rw [if_neg (by decide)]; rw [if_neg (by decide)]; rw [if_pos rfl]
    go_enter Try.func13, Try.ntmps13
    go_wp2_with fail
    refine q4.out.mono ?_
    rintro e w1 ⟨rfl, hst⟩
    replace hst := Lib.hid hst
    go_wp2
    go_ret
    exact ⟨rfl, hst.out.after hB0.out⟩
  by_cases e5 : d = 5
  · subst e5
    rw [if_neg (by decide)]; rw [if_neg (by decide)]; rw [if_neg (by decide)]; rw [if_neg (by decide)]; rw [if_neg (by decide)]; rw [if_pos rfl]
    go_enter Try.func13, Try.ntmps13
    go_wp2_with fail
    refine q5.out.mono ?_
    rintro e w1 ⟨rfl, hst⟩
    replace hst := Lib.hid hst
    go_wp2
    go_ret
    exact ⟨rfl, hst.out.after hB0.out⟩
  by_cases e6 : d = 6
  · subst e6
    rw [if_neg (by decide)]; rw [if_neg (by decide)]; rw [if_neg (by decide)]; rw [if_neg (by decide)]; rw [if_neg (by decide)]; rw [if_neg (by decide)]; rw [if_pos rfl]
    go_enter Try.func13, Try.ntmps13
    go_wp2_with fail
    refine q6.out.mono ?_
    rintro e w1 ⟨rfl, hst⟩
    replace hst := Lib.hid hst
    go_wp2
    go_ret
    exact ⟨rfl, hst.out.after hB0.out⟩
  by_cases e7 : d = 7
  · subst e7
    rw [if_neg (by decide)]; rw [if_neg (by decide)]; rw [if_neg (by decide)]; rw [if_neg (by decide)]; rw [if_neg (by decide)]; rw [if_neg (by decide)]; rw [if_neg (by decide)]; rw [if_pos rfl]
    go_enter Try.func13, Try.ntmps13
    go_wp2_with fail
    refine q7.out.mono ?_
    rintro e w1 ⟨rfl, hst⟩
    replace hst := Lib.hid hst
    go_wp2
    go_ret
    exact ⟨rfl, hst.out.after hB0.out⟩
  have f0 : (d == 0) = false := by simpa using e0
  have f1 : (d == 1) = false := by simpa using e1
  have f2 : (d == 2) = false := by simpa using e2
  have f3 : (d == 3) = false := by simpa using e3
  have f4 : (d == 4) = false := by simpa using e4
  have f5 : (d == 5) = false := by simpa using e5
  have f6 : (d == 6) = false := by simpa using e6
  have f7 : (d == 7) = false := by simpa using e7
  rw [if_neg e0, if_neg e1, if_neg e2, if_neg e3, if_neg e4, if_neg e5, if_neg e6, if_neg e7]
  clear e0 e1 e2 e3 e4 e5 e6 e7 q0 q1 q2 q3 q4 q5 q6 q7
  go_enter Try.func13, Try.ntmps13
  go_wp2
  go_ret
  exact ⟨rfl, Stp.same hR.out hB0.out⟩

end Go.Proofs.Ytemdinjiplglgaa

namespace Go.Proofs.Ytemdinjiplglgaa
open Go.RowKit

/-- v reads as the acts l. -/
def Acts (W : World) (v : Value) (l : List Act17) : Prop :=
  ∃ A c, v = .slice A l.length c ∧ l.length ≤ c ∧ c ≤ maxLen ∧ ∀ k (h : k < l.length), ∃ g o dv, A = some ⟨g, o, none⟩ ∧ RdB W dv (l[k]).data ∧ ∀ j, j < 9 → W.cell? ⟨g, o + k * 9 + j, none⟩ = (actCells l[k] dv)[j]?

theorem cell_lt {W : World} {a : Addr} {v : Value} (h : W.cell? a = some v) : a.block < W.heap.size := by
  rcases Nat.lt_or_ge a.block W.heap.size with h1 | h1
  · exact h1
  · simp [World.cell?, Array.getElem?_eq_none h1] at h

theorem Acts.below {W W' : World} {v : Value} {l : List Act17} (h : Acts W v l) (hb : Below W.heap.size W W') : Acts W' v l := by
  obtain ⟨A, c, h1, h2, h3, h4⟩ := h
  refine ⟨A, c, h1, h2, h3, fun k hk => ?_⟩
  obtain ⟨g, o, dv, e, h5, h6⟩ := h4 k hk
  refine ⟨g, o, dv, e, h5.below hb, fun j hj => ?_⟩
  have h7 := h6 0 (by omega)
  have hlt : g < W.heap.size := cell_lt (a := ⟨g, o + k * 9 + 0, none⟩) h7
  rw [← h6 j hj]
  simp only [World.cell?, hb.block g hlt]

def actOk (a : Act17) : Bool := decide (a.data.length ≤ 400) && decide (a.path.length ≤ 600) && decide (a.arg.length ≤ 600)
def small (l : List Act17) : Bool := l.all actOk && decide (l.length ≤ 40)

theorem ret_bool {a b : Bool} (h : a = b) : Ending.returned (.bool a) = .returned (.bool b) := by rw [h]

theorem all_take_snoc {α : Type} (f : α → Bool) (l : List α) {k : Nat} (hk : k < l.length) : (l.take (k + 1)).all f = ((l.take k).all f && f l[k]) := by
  rw [List.take_succ_eq_append_getElem hk, List.all_append]
  simp

theorem all_not {α : Type} {f : α → Bool} {l : List α} {k : Nat} (hk : k < l.length) (h : f l[k] = false) : l.all f = false := by
  rw [Bool.eq_false_iff]
  intro h2
  have := List.all_eq_true.1 h2 _ (List.getElem_mem hk)
  rw [h] at this
  cases this

set_option maxHeartbeats 2000000 in
set_option maxRecDepth 100000 in
theorem small_calls (v : Value) (l : List Act17) (w : World) (hv : Acts w v l) :
    Calls Try.prog 9 #[v] w fun e w' => e = .returned (.bool (small l)) ∧ w = w' := by
  obtain ⟨A, c, rfl, h2, h3, h4⟩ := hv
  unfold maxLen at h3
  replace h4 := Lib.hid h4
  go_enter Try.func9, Try.ntmps9
  go_wp2_with fail
  go_loop [3] (fun i => ∃ k : Nat, i = .int .i64 k ∧ k ≤ l.length ∧ (l.take k).all actOk = true) (fun i => l.length - (intOf i).toNat)
  case atStart => exact ⟨0, rfl, Nat.zero_le _, by simp⟩
  case round =>
    obtain ⟨k, rfl, hk, hall⟩ := hrel
    replace hall := Lib.hid hall
    by_cases hlt : k < l.length
    · obtain ⟨g, o, dv, rfl, hdv, hc⟩ := h4.out k hlt
      obtain ⟨dA, dc, rfl, _, _⟩ := hdv
      have c1 : w.cell? ⟨g, o + k * 9 + 1, none⟩ = some (.string (mkS (l[k]).path)) := hc 1 (by decide)
      have c2 : w.cell? ⟨g, o + k * 9 + 2, none⟩ = some (.string (mkS (l[k]).arg)) := hc 2 (by decide)
      have c3 : w.cell? ⟨g, o + k * 9 + 3, none⟩ = some (.slice dA (l[k]).data.length dc) := hc 3 (by decide)
      clear hc
      have hs1 := mkS_size (l[k]).path
      have hs2 := mkS_size (l[k]).arg
      have hat := all_take_snoc actOk l hlt
      have hno := all_not (f := actOk) (l := l) hlt
      replace hat := Lib.hid hat
      replace hno := Lib.hid hno
      have hbad : actOk l[k] = false → small l = false := fun h => by unfold small; rw [hno.out h]; rfl
      have hgood : actOk l[k] = true → (l.take (k + 1)).all actOk = true := fun h => by rw [hat.out, hall.out, h]; rfl
      replace hbad := Lib.hid hbad
      replace hgood := Lib.hid hgood
      go_wp2
      all_goals first
        | (go_round
           case rel => exact ⟨k + 1, by go_num, by omega, hgood.out (by unfold actOk; simp only [Bool.and_eq_true, decide_eq_true_eq]; omega)⟩
           case measure => simp [intOf]; omega)
        | (go_ret
           rw [hbad.out (by unfold actOk; simp only [Bool.and_eq_false_iff, decide_eq_false_iff_not]; omega)]
           exact ⟨rfl, rfl⟩)
    · obtain rfl : k = l.length := by omega
      rw [List.take_length] at hall
      have hfin : small l = decide (l.length ≤ 40) := by unfold small; rw [hall.out]; rfl
      replace hfin := Lib.hid hfin
      go_wp2
      go_ret
      rw [hfin.out]
      exact ⟨ret_bool (by rw [Bool.eq_iff_iff]; simp only [decide_eq_true_eq]; omega), rfl⟩

/-! ### how much an act adds -/

def Grow (T T' : Fs) : Prop := T'.names.length ≤ T.names.length + 1 ∧ T'.next ≤ T.next + 1
theorem grow_refl (T : Fs) : Grow T T := ⟨Nat.le_succ _, Nat.le_succ _⟩
theorem grow_add (T : Fs) (p : Pt) (n : Nd) : Grow T (T.add p n) := ⟨by simp [Fs.add], by simp [Fs.add]⟩
theorem grow_set (T : Fs) (i : Nat) (n : Nd) : Grow T (T.set i n) := ⟨by simp [Fs.set], by simp [Fs.set]⟩
theorem grow_name (T : Fs) (p : Pt) (i : Nat) : Grow T (T.name p i) := ⟨by simp [Fs.name], by simp [Fs.name]⟩
theorem gone_few (T : Fs) (p : Pt) (i : Nat) : (T.gone p i).names.length ≤ T.names.length := List.length_filter_le _ _
theorem grow_gone (T : Fs) (p : Pt) (i : Nat) : Grow T (T.gone p i) := ⟨Nat.le_succ_of_le (gone_few T p i), by simp [Fs.gone]⟩
theorem grow_move (T : Fs) (o p : Pt) : Grow T (T.move o p) := ⟨by simp [Fs.move], by simp [Fs.move]⟩
theorem grow_over (T : Fs) (o p : Pt) (j : Nat) : Grow T ((T.gone p j).move o p) := ⟨by have := gone_few T p j; simp [Fs.move]; omega, by simp [Fs.move, Fs.gone]⟩

theorem grow_act (T : Fs) (a : Act17) : Grow T (T.act a).1 := by
  have g1 : ∀ s m, Grow T (T.mkdir s m).1 := fun s m => by unfold Fs.mkdir; (repeat' split); all_goals first | exact grow_refl T | exact grow_add T _ _
  have g2 : ∀ s b m, Grow T (T.write s b m).1 := fun s b m => by unfold Fs.write; (repeat' split); all_goals first | exact grow_refl T | exact grow_add T _ _ | exact grow_set T _ _
  have g3 : ∀ s t m, Grow T (T.symlink s t m).1 := fun s t m => by unfold Fs.symlink; (repeat' split); all_goals first | exact grow_refl T | exact grow_add T _ _
  have g4 : ∀ o p, Grow T (T.link o p).1 := fun o p => by unfold Fs.link; (repeat' split); all_goals first | exact grow_refl T | exact grow_name T _ _
  have g5 : ∀ s, Grow T (T.remove s).1 := fun s => by unfold Fs.remove; (repeat' split); all_goals first | exact grow_refl T | exact grow_gone T _ _
  have g6 : ∀ o p, Grow T (T.rename o p).1 := fun o p => by unfold Fs.rename Fs.ren2 Fs.ren3; (repeat' split); all_goals first | exact grow_refl T | exact grow_move T _ _ | exact grow_over T _ _ _
  have g7 : ∀ s m, Grow T (T.setM s m).1 := fun s m => by unfold Fs.setM; (repeat' split); all_goals first | exact grow_refl T | exact grow_set T _ _
  have g8 : ∀ s b, Grow T (T.append s b).1 := fun s b => by unfold Fs.append; (repeat' split); all_goals first | exact grow_refl T | exact grow_set T _ _
  unfold Fs.act
  repeat' split
  all_goals first | exact g1 _ _ | exact g2 _ _ _ | exact g3 _ _ _ | exact g4 _ _ | exact g5 _ | exact g6 _ _ | exact g7 _ _ | exact g8 _ _ | exact grow_refl T

def Fs.acts (T : Fs) (l : List Act17) : Fs := l.foldl (fun T a => (T.act a).1) T
def Fs.build (l : List Act17) : Fs := Fs.start.acts l
theorem acts_snoc (T : Fs) (l : List Act17) (a : Act17) : T.acts (l ++ [a]) = ((T.acts l).act a).1 := by simp [Fs.acts]
theorem acts_grow (T : Fs) : ∀ l : List Act17, (T.acts l).names.length ≤ T.names.length + l.length ∧ (T.acts l).next ≤ T.next + l.length := by
  refine snoc_rec (by simp [Fs.acts]) fun l a ih => ?_
  rw [acts_snoc]
  have := grow_act (T.acts l) a
  obtain ⟨h1, h2⟩ := this
  simp only [List.length_append, List.length_singleton]
  omega

/-- A call on a tree of one's own leaves what was there. -/
theorem Stp.mine {w wr w' : World} {tb : Nat} {A M : Nat → Nat} {T T' : Fs} (hB : Below w.heap.size w wr) (hown : ∀ b, Own tb A M T b → w.heap.size ≤ b) (hs : Stp wr w' tb A M T T') : Below w.heap.size w w' ∧ ∃ A' M', Rep w' tb A' M' T' ∧ ∀ b, Own tb A' M' T' b → w.heap.size ≤ b := by
  obtain ⟨A', M', h1, h2, h3⟩ := hs
  refine ⟨hB.trans ⟨h2.os, h2.tape, h2.output, h2.size, fun k hk => h2.block k (Nat.lt_of_lt_of_le hk hB.size) (fun h => by have := hown k h; omega)⟩, A', M', h1, fun b hb => ?_⟩
  rcases h3 b hb with h | h
  · exact hown b h
  · exact Nat.le_trans hB.size h

theorem small_at {l : List Act17} (h : small l = true) : l.length ≤ 40 ∧ ∀ a ∈ l, a.data.length ≤ 400 ∧ a.path.length ≤ 600 ∧ a.arg.length ≤ 600 := by
  unfold small at h
  simp only [Bool.and_eq_true, decide_eq_true_eq, List.all_eq_true] at h
  refine ⟨h.2, fun a ha => ?_⟩
  have := h.1 a ha
  unfold actOk at this
  simp only [Bool.and_eq_true, decide_eq_true_eq] at this
  exact ⟨this.1.1, this.1.2, this.2⟩

set_option maxHeartbeats 4000000 in
set_option maxRecDepth 100000 in
theorem build_calls (v : Value) (l : List Act17) (w : World) (hv : Acts w v l) (hs : small l = true) :
    Calls Try.prog 11 #[v] w (NewTree w (Fs.build l)) := by
  obtain ⟨hl40, hsm⟩ := small_at hs
  have hv0 := hv
  obtain ⟨A, c, rfl, h2, h3, h4⟩ := hv
  unfold maxLen at h3
  have hnew := new_calls w
  replace h4 := Lib.hid h4
  replace hsm := Lib.hid hsm
  replace hnew := Lib.hid hnew
  replace hv0 := Lib.hid hv0
  clear hs
  go_enter Try.func11, Try.ntmps11
  go_wp2_with fail
  refine hnew.out.mono ?_
  rintro e w0 ⟨tc, C, MC, rfl, hR0, hO0, hB0⟩
  replace hR0 := Lib.hid hR0
  replace hO0 := Lib.hid hO0
  replace hB0 := Lib.hid hB0
  go_wp2_with fail
  go_loopw [4] (fun i wr => ∃ (k : Nat) (C1 MC1 : Nat → Nat), i = .int .i64 k ∧ k ≤ l.length ∧ Rep wr tc C1 MC1 (Fs.build (l.take k)) ∧ (∀ b, Own tc C1 MC1 (Fs.build (l.take k)) b → w.heap.size ≤ b) ∧ Below w.heap.size w wr) (fun i _ => l.length - (intOf i).toNat)
  case atStart => exact ⟨0, C, MC, rfl, Nat.zero_le _, hR0.out, hO0.out, hB0.out⟩
  case round =>
    clear hR0 hO0 hB0
    obtain ⟨k, C1, MC1, rfl, hk, hR, hO, hB⟩ := hrel
    by_cases hlt : k < l.length
    · obtain ⟨g, o, dv, rfl, hdv, hc⟩ := h4.out k hlt
      obtain ⟨h5, h6, h7⟩ := hsm.out _ (List.getElem_mem hlt)
      have hgr := acts_grow Fs.start (l.take k)
      have hnm : (Fs.build (l.take k)).names.length ≤ 1000000 := by
        have h8 : (l.take k).length ≤ k := List.length_take_le _ _
        have : (Fs.build (l.take k)).names.length ≤ Fs.start.names.length + (l.take k).length := hgr.1
        have h9 : Fs.start.names.length = 1 := rfl
        omega
      have hnx : (Fs.build (l.take k)).next < 4611686018427387904 := by
        have h8 : (l.take k).length ≤ k := List.length_take_le _ _
        have : (Fs.build (l.take k)).next ≤ Fs.start.next + (l.take k).length := hgr.2
        have h9 : Fs.start.next = 2 := rfl
        omega
      have hdv' := hdv.below hB
      have hglt : g < w.heap.size := cell_lt (a := ⟨g, o + k * 9 + 0, none⟩) (hc 0 (by decide))
      have hc' : ∀ j, j < 9 → wr.cell? ⟨g, o + k * 9 + j, none⟩ = (actCells l[k] dv)[j]? := fun j hj => by
        rw [← hc j hj]
        simp only [World.cell?, hB.block g hglt]
      have hcall := do_calls tc C1 MC1 (Fs.build (l.take k)) l[k] dv wr hR (by omega) (by omega) hdv' (by omega) hnx hnm
      have hbs : ((Fs.build (l.take k)).act l[k]).1 = Fs.build (l.take (k + 1)) := by
        rw [List.take_succ_eq_append_getElem hlt]
        exact (acts_snoc _ _ _).symm
      rw [hbs] at hcall
      have d0 : wr.cell? ⟨g, o + k * 9, none⟩ = some (.int .i64 (l[k]).d) := hc' 0 (by decide)
      have d1 : wr.cell? ⟨g, o + k * 9 + 1, none⟩ = some (.string (mkS (l[k]).path)) := hc' 1 (by decide)
      have d2 : wr.cell? ⟨g, o + k * 9 + 2, none⟩ = some (.string (mkS (l[k]).arg)) := hc' 2 (by decide)
      have d3 : wr.cell? ⟨g, o + k * 9 + 3, none⟩ = some dv := hc' 3 (by decide)
      have d4 : wr.cell? ⟨g, o + k * 9 + 4, none⟩ = some (.int .i64 (l[k]).mt.mode) := hc' 4 (by decide)
      have d5 : wr.cell? ⟨g, o + k * 9 + 5, none⟩ = some (.int .i64 (l[k]).mt.sec) := hc' 5 (by decide)
      have d6 : wr.cell? ⟨g, o + k * 9 + 6, none⟩ = some (.int .i64 (l[k]).mt.nano) := hc' 6 (by decide)
      have d7 : wr.cell? ⟨g, o + k * 9 + 7, none⟩ = some (.int .i64 (l[k]).mt.uid) := hc' 7 (by decide)
      have d8 : wr.cell? ⟨g, o + k * 9 + 8, none⟩ = some (.int .i64 (l[k]).mt.gid) := hc' 8 (by decide)
      have hfin := fun w' (hst : Stp wr w' tc C1 MC1 (Fs.build (l.take k)) (Fs.build (l.take (k + 1)))) => Stp.mine hB hO hst
      unfold actV actCells ptr at hcall
      replace hcall := Lib.hid hcall
      replace hfin := Lib.hid hfin
      clear hR hO hB hc hc' hdv hdv' hbs hgr hnm hnx
      go_wp2_with fail
      refine hcall.out.mono ?_
      rintro e w1 ⟨rfl, hst⟩
      obtain ⟨hB1, C2, MC2, hR2, hO2⟩ := hfin.out w1 hst
      replace hB1 := Lib.hid hB1
      replace hR2 := Lib.hid hR2
      replace hO2 := Lib.hid hO2
      clear hst hfin hcall
      go_wp2
      go_roundw
      case rel => exact ⟨k + 1, C2, MC2, by go_num, by omega, hR2.out, hO2.out, hB1.out⟩
      case measure => simp [intOf]; omega
    · obtain rfl : k = l.length := by omega
      rw [List.take_length] at hR hO
      replace hR := Lib.hid hR
      replace hO := Lib.hid hO
      replace hB := Lib.hid hB
      go_wp2
      go_ret
      exact ⟨tc, C1, MC1, rfl, hR.out, hO.out, hB.out⟩

end Go.Proofs.Ytemdinjiplglgaa

namespace Go.Proofs.Ytemdinjiplglgaa
open Go.RowKit

def aw1 : Fs := (Fs.start.write [97] [120] noMt).1
def aw2 : Fs := (aw1.link [97] [98]).1
def aw3 : Fs := (aw2.write [98] [121, 122] ⟨0, 3, 0, 0, 0⟩).1
theorem aw_1 : (Fs.start.write [97] [120] noMt).2 = 0 := by decide +kernel
theorem aw_2 : (aw1.link [97] [98]).2 = 0 := by decide +kernel
theorem aw_3 : (aw2.write [98] [121, 122] ⟨0, 3, 0, 0, 0⟩).2 = 0 := by decide +kernel
theorem aw_4 : aw3.stat [97] = (⟨1, 2, 2, 2, ⟨0, 3, 0, 0, 0⟩, []⟩, 0) := by decide +kernel
theorem aw_5 : (aw3.rename [97] [98]).2 = 0 := by decide +kernel
theorem aw_6 : ((aw3.rename [97] [98]).1.below []).length = 2 := by decide +kernel
theorem aw_7 : ((aw3.rename [97] [98]).1.mkdir [100, 47, 101] noMt).2 = 10 := by decide +kernel
theorem aw_8 : aw1.names.length ≤ 1000000 ∧ aw2.names.length ≤ 1000000 ∧ aw2.next < 4611686018427387904 ∧ aw3.names.length ≤ 1000000 ∧ (aw3.rename [97] [98]).1.names.length ≤ 1000000 ∧ (aw3.rename [97] [98]).1.next < 4611686018427387904 := by decide +kernel

theorem rdb_const (w : World) (l : Bytes) (C : Array Value) (f : Nat × Nat) (hC : C.toList = byteCells l) (hm : l.length ≤ maxLen) : RdB (w.alloc (.cells C 5 f)) (.slice (some ⟨w.heap.size, 0, none⟩) l.length l.length) l := by
  refine ⟨_, _, rfl, Nat.le_refl _, hm, fun j hj => ⟨_, 0, rfl, ?_⟩⟩
  have h := (MapKept.heap_alloc w (.cells C 5 f)).1
  have hget : C[j]? = (byteCells l)[j]? := by rw [← hC, Array.getElem?_toList]
  simp only [World.cell?, h, Nat.zero_add, hget]
  simp [byteCells, hj]

set_option maxHeartbeats 4000000 in
set_option maxRecDepth 100000 in
theorem awake17_calls (w : World) : Calls Try.prog 10 #[] w fun e w' => e = .returned (.bool true) ∧ Below w.heap.size w w' := by
  have kc := fun (w : World) (C : Array Value) (n c : Nat) => Lib.run_convert_bytes_const (P := Try.prog) w 23 5 C n c Try.underlying23 Try.underlying5
  have hnew := new_calls w
  obtain ⟨b1, b2, b3, b4, b5, b6⟩ := aw_8
  have k1 := fun tb A M W v (hR : Rep W tb A M Fs.start) hv => write_calls tb A M Fs.start ⟨#[97]⟩ v [120] noMt W hR (by decide) hv (by decide) (by decide)
  have k2 := fun tb A M W (hR : Rep W tb A M aw1) => link_calls tb A M aw1 ⟨#[97]⟩ ⟨#[98]⟩ W hR (by decide) (by decide) b1
  have k3 := fun tb A M W v (hR : Rep W tb A M aw2) hv => write_calls tb A M aw2 ⟨#[98]⟩ v [121, 122] ⟨0, 3, 0, 0, 0⟩ W hR (by decide) hv (by decide) b3
  have k4 := fun tb A M W (hR : Rep W tb A M aw3) => stat_calls tb A M aw3 ⟨#[97]⟩ W hR (by decide)
  have k5 := fun tb A M W (hR : Rep W tb A M aw3) => rename_calls tb A M aw3 ⟨#[97]⟩ ⟨#[98]⟩ W hR (by decide) (by decide) b4
  have k6 := fun tb A M W (hR : Rep W tb A M (aw3.rename [97] [98]).1) => count_calls tb A M (aw3.rename [97] [98]).1 W hR b5
  have k7 := fun tb A M W (hR : Rep W tb A M (aw3.rename [97] [98]).1) => mkdir_calls tb A M (aw3.rename [97] [98]).1 ⟨#[100, 47, 101]⟩ noMt W hR (by decide) b6
  rw [show bl ⟨#[97]⟩ = [97] from rfl] at k1 k2 k4 k5
  rw [show bl ⟨#[98]⟩ = [98] from rfl] at k2 k3 k5
  rw [show bl ⟨#[100, 47, 101]⟩ = [100, 47, 101] from rfl] at k7
  rw [aw_1] at k1
  rw [aw_2] at k2
  rw [aw_3] at k3
  rw [aw_4] at k4
  rw [aw_5] at k5
  rw [aw_6] at k6
  rw [aw_7] at k7
  change ∀ tb A M W v, Rep W tb A M Fs.start → RdB W v [120] → Calls _ _ _ _ fun e w' => _ ∧ Stp W w' tb A M Fs.start aw1 at k1
  change ∀ tb A M W, Rep W tb A M aw1 → Calls _ _ _ _ fun e w' => _ ∧ Stp W w' tb A M aw1 aw2 at k2
  change ∀ tb A M W v, Rep W tb A M aw2 → RdB W v [121, 122] → Calls _ _ _ _ fun e w' => _ ∧ Stp W w' tb A M aw2 aw3 at k3
  generalize hT4 : (aw3.rename [97] [98]).1 = aw4 at *
  generalize aw1 = T1 at *
  generalize aw2 = T2 at *
  generalize aw3 = T3 at *
  clear b1 b2 b3 b4 b5 b6 hT4
  unfold noMt mtV mtCells statV statCells ptr at *
  dsimp only at k1 k3 k4 k7
  rw [show mkS [] = ⟨#[]⟩ from rfl] at k4
  replace hnew := Lib.hid hnew
  replace k1 := Lib.hid k1
  replace k2 := Lib.hid k2
  replace k3 := Lib.hid k3
  replace k4 := Lib.hid k4
  replace k5 := Lib.hid k5
  replace k6 := Lib.hid k6
  replace k7 := Lib.hid k7
  go_enter Try.func10, Try.ntmps10
  go_wp2_with fail
  refine hnew.out.mono ?_
  rintro e w0 ⟨tc, C, M, rfl, hR0, hO0, hB0⟩
  have hBa := below_alloc hB0 (.cells #[.int .u8 120] 5 (1, 2))
  have hRa := hR0.below ((Below.refl w0.heap.size w0).alloc (Nat.le_refl _) (.cells #[.int .u8 120] 5 (1, 2)))
  have hva := rdb_const w0 [120] #[.int .u8 120] (1, 2) rfl (by simp [maxLen])
  have q1 := k1.out tc C M _ _ hRa hva
  replace q1 := Lib.hid q1
  replace hR0 := Lib.hid hR0
  replace hO0 := Lib.hid hO0
  replace hB0 := Lib.hid hB0
  replace hBa := Lib.hid hBa
  replace hRa := Lib.hid hRa
  replace hva := Lib.hid hva
  go_wp2_with fail
  refine q1.out.mono ?_
  rintro e w1 ⟨rfl, hst⟩
  obtain ⟨hB1, C1, M1, hR1, hO1⟩ := Stp.mine hBa.out hO0.out hst
  have q2 := k2.out tc C1 M1 w1 hR1
  replace q2 := Lib.hid q2
  replace hB1 := Lib.hid hB1
  replace hR1 := Lib.hid hR1
  replace hO1 := Lib.hid hO1
  clear hst q1 hR0 hO0 hB0 hBa hRa hva
  go_wp2_with fail
  refine q2.out.mono ?_
  rintro e w2 ⟨rfl, hst⟩
  obtain ⟨hB2, C2, M2, hR2, hO2⟩ := Stp.mine hB1.out hO1.out hst
  have hBa := below_alloc hB2 (.cells #[.int .u8 121, .int .u8 122] 5 (2, 3))
  have hRa := hR2.below ((Below.refl w2.heap.size w2).alloc (Nat.le_refl _) (.cells #[.int .u8 121, .int .u8 122] 5 (2, 3)))
  have hva := rdb_const w2 [121, 122] #[.int .u8 121, .int .u8 122] (2, 3) rfl (by simp [maxLen])
  have q3 := k3.out tc C2 M2 _ _ hRa hva
  replace q3 := Lib.hid q3
  replace hB2 := Lib.hid hB2
  replace hR2 := Lib.hid hR2
  replace hO2 := Lib.hid hO2
  replace hBa := Lib.hid hBa
  replace hRa := Lib.hid hRa
  replace hva := Lib.hid hva
  clear hst q2 hR1 hO1 hB1
  go_wp2_with fail
  refine q3.out.mono ?_
  rintro e w3 ⟨rfl, hst⟩
  obtain ⟨hB3, C3, M3, hR3, hO3⟩ := Stp.mine hBa.out hO2.out hst
  have q4 := k4.out tc C3 M3 w3 hR3
  replace q4 := Lib.hid q4
  replace hB3 := Lib.hid hB3
  replace hR3 := Lib.hid hR3
  replace hO3 := Lib.hid hO3
  clear hst q3 hBa hRa hva hR2 hO2 hB2
  go_wp2_with fail
  refine q4.out.mono ?_
  rintro e w4 ⟨rfl, hB34⟩
  have hB4 := below_step hB3.out hB34
  have hR4 := hR3.out.below hB34
  replace hB4 := Lib.hid hB4
  replace hR4 := Lib.hid hR4
  clear hB34 q4 hR3 hB3
  have hBa := below_alloc hB4.out (.cells #[.int .i64 1, .int .i64 2, .int .i64 2, .int .i64 2, .int .i64 0, .int .i64 3, .int .i64 0, .int .i64 0, .int .i64 0, .string ⟨#[]⟩] 38)
  have hRa := hR4.out.below ((Below.refl w4.heap.size w4).alloc (Nat.le_refl _) (.cells #[.int .i64 1, .int .i64 2, .int .i64 2, .int .i64 2, .int .i64 0, .int .i64 3, .int .i64 0, .int .i64 0, .int .i64 0, .string ⟨#[]⟩] 38))
  have q5 := k5.out tc C3 M3 _ hRa
  replace q5 := Lib.hid q5
  replace hBa := Lib.hid hBa
  replace hRa := Lib.hid hRa
  go_wp2_with fail
  refine q5.out.mono ?_
  rintro e w5 ⟨rfl, hst⟩
  obtain ⟨hB5, C5, M5, hR5, hO5⟩ := Stp.mine hBa.out hO3.out hst
  have q6 := k6.out tc C5 M5 w5 hR5
  replace q6 := Lib.hid q6
  replace hB5 := Lib.hid hB5
  replace hR5 := Lib.hid hR5
  replace hO5 := Lib.hid hO5
  clear hst q5 hBa hRa hR4 hO3 hB4
  go_wp2_with fail
  refine q6.out.mono ?_
  rintro e w6 ⟨rfl, hB56⟩
  have hB6 := below_step hB5.out hB56
  have hR6 := hR5.out.below hB56
  have q7 := k7.out tc C5 M5 w6 hR6
  replace q7 := Lib.hid q7
  replace hB6 := Lib.hid hB6
  replace hR6 := Lib.hid hR6
  clear q6 hB56 hR5 hB5
  go_wp2_with fail
  refine q7.out.mono ?_
  rintro e w7 ⟨rfl, hst⟩
  obtain ⟨hB7, _⟩ := Stp.mine hB6.out hO5.out hst
  replace hB7 := Lib.hid hB7
  clear hst q7 hR6 hB6 hO5
  go_wp2
  go_ret
  exact ⟨rfl, hB7.out⟩

end Go.Proofs.Ytemdinjiplglgaa

namespace Go.Proofs.Ytemdinjiplglgaa
open Go.RowKit Go.ChangeShapes Go.WideShapes Go.Deep

section
variable {H : Type} {enc : TypeId × Value → H} {W : World} {spare : Nat → Bool} {held : Bool}

theorem laid_ok : laidOutB Try.prog = true := by kernel_rfl

theorem open_bytes {fuel : Nat} {cs : List Value} {x : DataW H × List MemPlace} (h : DataW.trod enc Try.prog W 0 spare held fuel 23 cs = some x) : ∃ v l, cs = [v] ∧ RdB W v l := by
  rcases open_ints Try.underlying23 Try.underlying5 (by kernel_rfl) h with ⟨rfl, _⟩ | ⟨a, len, cap, zs, rfl, _, h1, h2, h3, _, h5, h6⟩
  · exact ⟨_, [], rfl, none, 0, rfl, Nat.le_refl _, Nat.zero_le _, fun j hj => by simp at hj⟩
  · have hle : len ≤ zs.length := by rw [h3]; split <;> omega
    refine ⟨_, (zs.take len).map fun n => UInt8.ofNat n.toNat, rfl, some a, cap, ?_, ?_, h2, fun j hj => ?_⟩
    · simp; omega
    · simp; omega
    · have hj' : j < len := by simp at hj; omega
      have hc := h5 j (by omega)
      have hsp := World.cell?_spot (h5 0 (by omega))
      obtain ⟨g, o, s⟩ := a
      have hs : s = none := by
        have e : (⟨g, o, s⟩ : Addr).add 0 = ⟨g, o, s⟩ := by simp [Addr.add]
        rw [e] at hsp
        exact hsp
      subst hs
      refine ⟨g, o, rfl, ?_⟩
      rw [add_plain] at hc
      rw [hc]
      have hwf := h6 (zs.getD j 0) (by simp [List.getD]; rw [List.getElem?_eq_getElem (by omega)]; simp)
      simp only [Lit.wf, Bool.and_eq_true, decide_eq_true_eq] at hwf
      have h0 : (0 : Int) ≤ zs.getD j 0 := hwf.1
      have h255 : zs.getD j 0 ≤ 255 := hwf.2
      congr 2
      simp only [List.getElem_map, List.getElem_take]
      have hz : zs.getD j 0 = zs[j] := by simp [List.getD]; rw [List.getElem?_eq_getElem (by omega)]; rfl
      rw [hz] at h0 h255 ⊢
      simp only [UInt8.toNat_ofNat']
      omega

set_option maxRecDepth 100000 in
theorem act_of_cells {fuel : Nat} {cs : List Value} {x : DataW H × List MemPlace} (h : DataW.trod enc Try.prog W 0 spare held fuel 27 cs = some x) : ∃ a dv, cs = actCells a dv ∧ RdB W dv a.data := by
  obtain ⟨xs, n, _, _, hl, hxl, hf⟩ := DataW.trod_struct Try.underlying27 h
  have hl9 : cs.length = 9 := hl.trans (by kernel_rfl)
  match cs, hl9 with
  | [c0, c1, c2, c3, c4, c5, c6, c7, c8], _ =>
    have hx : ∀ i, i < 5 → ∃ y, xs[i]? = some y := fun i hi => ⟨_, List.getElem?_eq_getElem (by rw [hxl]; exact hi)⟩
    obtain ⟨y0, e0⟩ := hx 0 (by decide)
    obtain ⟨y1, e1⟩ := hx 1 (by decide)
    obtain ⟨y2, e2⟩ := hx 2 (by decide)
    obtain ⟨y3, e3⟩ := hx 3 (by decide)
    obtain ⟨y4, e4⟩ := hx 4 (by decide)
    have f0 : DataW.trod enc Try.prog W 0 spare held n 3 (([c0, c1, c2, c3, c4, c5, c6, c7, c8].drop 0).take (Try.prog.cellsOf 3)) = some y0 := (hf 0 _ rfl).trans e0
    have f1 : DataW.trod enc Try.prog W 0 spare held n 9 (([c0, c1, c2, c3, c4, c5, c6, c7, c8].drop 1).take (Try.prog.cellsOf 9)) = some y1 := (hf 1 _ rfl).trans e1
    have f2 : DataW.trod enc Try.prog W 0 spare held n 9 (([c0, c1, c2, c3, c4, c5, c6, c7, c8].drop 2).take (Try.prog.cellsOf 9)) = some y2 := (hf 2 _ rfl).trans e2
    have f3 : DataW.trod enc Try.prog W 0 spare held n 23 (([c0, c1, c2, c3, c4, c5, c6, c7, c8].drop 3).take (Try.prog.cellsOf 23)) = some y3 := (hf 3 _ rfl).trans e3
    have f4 : DataW.trod enc Try.prog W 0 spare held n 25 (([c0, c1, c2, c3, c4, c5, c6, c7, c8].drop 4).take (Try.prog.cellsOf 25)) = some y4 := (hf 4 _ rfl).trans e4
    have k1 : Try.prog.cellsOf 3 = 1 := by kernel_rfl
    have k2 : Try.prog.cellsOf 9 = 1 := by kernel_rfl
    have k3 : Try.prog.cellsOf 23 = 1 := by kernel_rfl
    have k4 : Try.prog.cellsOf 25 = 5 := by kernel_rfl
    rw [k1] at f0
    rw [k2] at f1 f2
    rw [k3] at f3
    rw [k4] at f4
    simp only [List.drop_zero, List.drop_succ_cons, List.take_succ_cons, List.take_zero] at f0 f1 f2 f3 f4
    obtain ⟨d, q0, _⟩ := DataW.trod_int Try.underlying3 f0
    obtain ⟨p, q1, _⟩ := DataW.trod_string Try.underlying9 f1
    obtain ⟨t, q2, _⟩ := DataW.trod_string Try.underlying9 f2
    obtain ⟨dv, l, q3, hrd⟩ := open_bytes f3
    obtain ⟨zs, n', _, _, _, hzl, hg⟩ := DataW.trod_struct Try.underlying25 f4
    have hz : ∀ i, i < 5 → ∃ y, zs[i]? = some y := fun i hi => ⟨_, List.getElem?_eq_getElem (by rw [hzl]; exact hi)⟩
    obtain ⟨z0, u0⟩ := hz 0 (by decide)
    obtain ⟨z1, u1⟩ := hz 1 (by decide)
    obtain ⟨z2, u2⟩ := hz 2 (by decide)
    obtain ⟨z3, u3⟩ := hz 3 (by decide)
    obtain ⟨z4, u4⟩ := hz 4 (by decide)
    have g0 : DataW.trod enc Try.prog W 0 spare held n' 3 (([c4, c5, c6, c7, c8].drop 0).take (Try.prog.cellsOf 3)) = some z0 := (hg 0 _ rfl).trans u0
    have g1 : DataW.trod enc Try.prog W 0 spare held n' 3 (([c4, c5, c6, c7, c8].drop 1).take (Try.prog.cellsOf 3)) = some z1 := (hg 1 _ rfl).trans u1
    have g2 : DataW.trod enc Try.prog W 0 spare held n' 3 (([c4, c5, c6, c7, c8].drop 2).take (Try.prog.cellsOf 3)) = some z2 := (hg 2 _ rfl).trans u2
    have g3 : DataW.trod enc Try.prog W 0 spare held n' 3 (([c4, c5, c6, c7, c8].drop 3).take (Try.prog.cellsOf 3)) = some z3 := (hg 3 _ rfl).trans u3
    have g4 : DataW.trod enc Try.prog W 0 spare held n' 3 (([c4, c5, c6, c7, c8].drop 4).take (Try.prog.cellsOf 3)) = some z4 := (hg 4 _ rfl).trans u4
    rw [k1] at g0 g1 g2 g3 g4
    simp only [List.drop_zero, List.drop_succ_cons, List.take_succ_cons, List.take_zero] at g0 g1 g2 g3 g4
    obtain ⟨m0, v0, _⟩ := DataW.trod_int Try.underlying3 g0
    obtain ⟨m1, v1, _⟩ := DataW.trod_int Try.underlying3 g1
    obtain ⟨m2, v2, _⟩ := DataW.trod_int Try.underlying3 g2
    obtain ⟨m3, v3, _⟩ := DataW.trod_int Try.underlying3 g3
    obtain ⟨m4, v4, _⟩ := DataW.trod_int Try.underlying3 g4
    refine ⟨⟨d, bl p, bl t, l, ⟨m0, m1, m2, m3, m4⟩⟩, dv, ?_, hrd⟩
    simp only [List.cons.injEq, and_true] at q0 q1 q2 q3 v0 v1 v2 v3 v4
    subst q0 q1 q2 q3 v0 v1 v2 v3 v4
    simp [actCells, mkS_bl]

theorem choose_acts {m : Nat} {p : Nat → Act17 → Value → Prop} (h : ∀ i, i < m → ∃ a v, p i a v) : ∃ l : List Act17, l.length = m ∧ ∀ i (hi : i < l.length), ∃ v, p i l[i] v := by
  induction m with
  | zero => exact ⟨[], rfl, fun i hi => by simp at hi⟩
  | succ m ih =>
    obtain ⟨l, h1, h2⟩ := ih (fun i hi => h i (by omega))
    obtain ⟨a, v, hav⟩ := h m (by omega)
    refine ⟨l ++ [a], by simp [h1], fun i hi => ?_⟩
    by_cases hl : i < l.length
    · rw [List.getElem_append_left hl]
      exact h2 i hl
    · have : i = l.length := by simp at hi; omega
      subst this
      rw [List.getElem_append_right (Nat.le_refl _)]
      simp only [Nat.sub_self, List.getElem_cons_zero]
      exact ⟨v, by rw [h1]; exact hav⟩

set_option maxRecDepth 100000 in
theorem open_acts {v : Value} {d : DataW H} {ps : List MemPlace} {r : Reach} {b0 : Nat} (hv : Value.okWide Try.prog W r b0 22 v) (h : DataW.Trod enc Try.prog W 0 spare held 22 v d ps) : ∃ l, Acts W v l := by
  obtain ⟨fuel, hf⟩ := h
  rcases open_slice Try.underlying22 hf with ⟨e, _⟩ | ⟨a, len, cap, m, n, D, Pl, e, _, h1, h2, hm, _, hel⟩
  · obtain ⟨A', n', c', rfl⟩ := okWide_slice Try.underlying22 hv
    have e2 : [Value.slice A' n' c'] = [Value.slice none 0 0] := e
    simp only [List.cons.injEq, Value.slice.injEq, and_true] at e2
    obtain ⟨rfl, rfl, rfl⟩ := e2
    exact ⟨[], none, 0, rfl, Nat.le_refl _, Nat.zero_le _, fun k hk => by simp at hk⟩
  · obtain ⟨A', n', c', rfl⟩ := okWide_slice Try.underlying22 hv
    have e2 : [Value.slice A' n' c'] = [Value.slice (some a) len cap] := e
    simp only [List.cons.injEq, Value.slice.injEq, and_true] at e2
    obtain ⟨rfl, rfl, rfl⟩ := e2
    have hlm : n' ≤ m := by rw [hm]; split <;> omega
    have k9 : Try.prog.cellsOf 27 = 9 := by kernel_rfl
    rw [k9] at hel
    have hspot : ∀ i, i < n' → a.spot = none := fun i hi => by
      obtain ⟨cs, hc, ht⟩ := hel 0 (by omega)
      obtain ⟨a', dv, rfl, hrd⟩ := act_of_cells ht
      obtain ⟨_, _, hat⟩ := World.cells?_some hc
      have := World.cell?_spot ((hat 0 (by decide)).trans rfl)
      simpa [Addr.add] using this
    obtain ⟨l, hl1, hl2⟩ := choose_acts (m := n') (p := fun i a' dv => RdB W dv a'.data ∧ ∃ g o, a = ⟨g, o, none⟩ ∧ ∀ j, j < 9 → W.cell? ⟨g, o + i * 9 + j, none⟩ = (actCells a' dv)[j]?) (fun i hi => by
      obtain ⟨cs, hc, ht⟩ := hel i (by omega)
      obtain ⟨a', dv, rfl, hrd⟩ := act_of_cells ht
      obtain ⟨_, _, hat⟩ := World.cells?_some hc
      refine ⟨a', dv, hrd, ?_⟩
      obtain ⟨g, o, s⟩ := a
      have hs : s = none := hspot i hi
      subst hs
      refine ⟨g, o, rfl, fun j hj => ?_⟩
      have := hat j hj
      rw [add_plain, add_plain] at this
      exact this)
    refine ⟨l, some a, c', by rw [hl1], by omega, h2, fun k hk => ?_⟩
    obtain ⟨dv, hrd, g, o, rfl, hc⟩ := hl2 k hk
    exact ⟨g, o, dv, rfl, hrd, hc⟩

set_option maxRecDepth 100000 in
theorem open_act {v : Value} {d : DataW H} {ps : List MemPlace} {r : Reach} {b0 : Nat} (hv : Value.okWide Try.prog W r b0 27 v) (h : DataW.Trod enc Try.prog W 0 spare held 27 v d ps) : ∃ a dv, v = actV a dv ∧ RdB W dv a.data := by
  obtain ⟨cs, rfl, hsz⟩ := okWide_struct Try.underlying27 hv
  obtain ⟨fuel, hf⟩ := h
  have hf' : DataW.trod enc Try.prog W 0 spare held fuel 27 cs.toList = some (d, ps) := hf
  obtain ⟨a, dv, e, hrd⟩ := act_of_cells hf'
  refine ⟨a, dv, ?_, hrd⟩
  unfold actV
  rw [← e]

end

end Go.Proofs.Ytemdinjiplglgaa

namespace Go.Proofs.Ytemdinjiplglgaa
open Go.RowKit

def ErrKeeps (T : Fs) (r : Fs × Int) : Prop := r.2 ≠ 0 → r.1 = T
theorem err_same (T : Fs) (e : Int) : ErrKeeps T (T, e) := fun _ => rfl
theorem err_ok (T T' : Fs) : ErrKeeps T (T', 0) := fun h => absurd rfl h

/-- ALL OR NOTHING, the plain law. -/
theorem act_err (T : Fs) (a : Act17) : ErrKeeps T (T.act a) := by
  have g1 : ∀ s m, ErrKeeps T (T.mkdir s m) := fun s m => by unfold Fs.mkdir; (repeat' split); all_goals first | exact err_same T _ | exact err_ok T _
  have g2 : ∀ s b m, ErrKeeps T (T.write s b m) := fun s b m => by unfold Fs.write; (repeat' split); all_goals first | exact err_same T _ | exact err_ok T _
  have g3 : ∀ s t m, ErrKeeps T (T.symlink s t m) := fun s t m => by unfold Fs.symlink; (repeat' split); all_goals first | exact err_same T _ | exact err_ok T _
  have g4 : ∀ o p, ErrKeeps T (T.link o p) := fun o p => by unfold Fs.link; (repeat' split); all_goals first | exact err_same T _ | exact err_ok T _
  have g5 : ∀ s, ErrKeeps T (T.remove s) := fun s => by unfold Fs.remove; (repeat' split); all_goals first | exact err_same T _ | exact err_ok T _
  have g6 : ∀ o p, ErrKeeps T (T.rename o p) := fun o p => by unfold Fs.rename Fs.ren2 Fs.ren3; (repeat' split); all_goals first | exact err_same T _ | exact err_ok T _
  have g7 : ∀ s m, ErrKeeps T (T.setM s m) := fun s m => by unfold Fs.setM; (repeat' split); all_goals first | exact err_same T _ | exact err_ok T _
  have g8 : ∀ s b, ErrKeeps T (T.append s b) := fun s b => by unfold Fs.append; (repeat' split); all_goals first | exact err_same T _ | exact err_ok T _
  unfold Fs.act
  repeat' split
  all_goals first | exact g1 _ _ | exact g2 _ _ _ | exact g3 _ _ _ | exact g4 _ _ | exact g5 _ | exact g6 _ _ | exact g7 _ _ | exact g8 _ _ | exact err_same T _

/-- A tree apart from another one stays where the other one turns. -/
theorem Rep.beside {w w' : World} {tb ub : Nat} {A M B N : Nat → Nat} {T U : Fs} (hU : Rep w ub B N U) (hT : Rep w tb A M T) (hd : ∀ b, Own ub B N U b → ¬ Own tb A M T b) (ht : Turn w w' (Own tb A M T)) : Rep w' ub B N U :=
  hU.kept (fun b hb => ht.block b (hU.lt hb) (hd b hb)) (fun g ⟨cs, hg⟩ => ht.block g (Array.getElem?_eq_some_iff.1 hg).1 (hT.not_own hg (by decide) (by decide)))

/-- .. and so do both, apart still. -/
theorem Stp.two {w w' : World} {tb ub : Nat} {A M B N : Nat → Nat} {T T' U : Fs} (hU : Rep w ub B N U) (hT : Rep w tb A M T) (hd : ∀ b, Own ub B N U b → ¬ Own tb A M T b) (hs : Stp w w' tb A M T T') :
    Rep w' ub B N U ∧ ∃ A' M', Rep w' tb A' M' T' ∧ (∀ b, Own ub B N U b → ¬ Own tb A' M' T' b) ∧ ∀ b, Own tb A' M' T' b → Own tb A M T b ∨ w.heap.size ≤ b := by
  obtain ⟨A', M', h1, h2, h3⟩ := hs
  refine ⟨hU.beside hT hd h2, A', M', h1, fun b hb hb2 => ?_, h3⟩
  rcases h3 b hb2 with h | h
  · exact hd b hb h
  · have := hU.lt hb
    omega

theorem small_not {l : List Act17} (h : small l ≠ true) : small l = false := by
  cases hs : small l with
  | true => exact absurd hs h
  | false => rfl

/-- An act in a block of its own, as a list. -/
theorem acts_one (w : World) (a : Act17) (dv : Value) (C : Array Value) (hC : C.toList = actCells a dv) (hv : RdB w dv a.data) : Acts (w.alloc (.cells C 27)) (.slice (some ⟨w.heap.size, 0, none⟩) 1 1) [a] := by
  refine ⟨_, 1, rfl, Nat.le_refl _, by simp [maxLen], fun k hk => ?_⟩
  have : k = 0 := by simp at hk; omega
  subst this
  refine ⟨_, 0, dv, rfl, hv.below ((Below.refl _ _).alloc (Nat.le_refl _) _), fun j hj => ?_⟩
  have h := (MapKept.heap_alloc w (.cells C 27)).1
  have h2 : C[j]? = (actCells a dv)[j]? := by rw [← hC, Array.getElem?_toList]
  simp only [World.cell?, h, Nat.zero_mul, Nat.zero_add, h2]
  rfl

end Go.Proofs.Ytemdinjiplglgaa

namespace Go.Proofs.Ytemdinjiplglgaa
open Go.RowKit

/-- The worlds in which nothing of w's has turned. -/
def Gr (w : World) : Type := { W : World // Below w.heap.size w W }
instance (w : World) : Nonempty (Gr w) := ⟨⟨w, Below.refl _ _⟩⟩

theorem wp_region_grow {P : Program} {id : Nat} {Q : Exit → Act → World → Prop} {a : Act} {w : World} {l : List Oper} (hm : P.follows .mixedOrders = true) (hB : Region.lexB .any l.toArray = true)
    (h : wpQuiet P l.toArray (fun W => ∃ x : Gr w, W = x.1) (fun a' => ∀ W, (∃ x : Gr w, W = x.1) → Q .normal a' W) l a) : (Code.region id l.toArray true).wp P Q a w :=
  wp_region_quiet (C := fun W => ∃ x : Gr w, W = x.1) hm hB ⟨⟨w.drew, below_drewN (Below.refl _ _) 1⟩, rfl⟩ (by simpa using h)

/-- A callee's contract, met in such a world. -/
theorem grow_of {P : Program} {f : FuncId} {args : Array Value} {w : World} {v : Value} (x : Gr w) (h : Calls P f args x.1 fun e w' => e = .returned v ∧ Below x.1.heap.size x.1 w') :
    Calls P f args x.1 fun e w'' => e = .returned v ∧ ∃ y : Gr w, w'' = y.1 :=
  h.mono fun _ w' ⟨he, hb⟩ => ⟨he, ⟨w', x.2.trans (hb.mono x.2.size)⟩, rfl⟩

theorem Gr.cell {w : World} {a : Addr} {v : Value} (h : w.cell? a = some v) (x : Gr w) : x.1.cell? a = some v := by
  rw [← h]
  refine x.2.cell (p := a) ?_
  rcases Nat.lt_or_ge a.block w.heap.size with h1 | h1
  · exact h1
  · simp [World.cell?, Array.getElem?_eq_none h1] at h

end Go.Proofs.Ytemdinjiplglgaa

namespace Go.Proofs.Ytemdinjiplglgaa

section
variable {T : Fs}

theorem split_ne_nil {s : Bytes} (h : s ≠ []) : split s ≠ [] := fun e => h (split_eq_nil e)

theorem look_name (hI : T.Inv) {s : Bytes} {i : Nat} (hr : right s = true) (hm : (split s, i) ∈ T.names) : (T.look s).1 = some i ∧ (T.look s).2.2 = 0 := by
  unfold Fs.look
  rw [if_pos hr]
  by_cases hs : s = []
  · subst hs
    rw [if_pos rfl]
    exact ⟨by rw [hI.at_one hm hI.one], rfl⟩
  · rw [if_neg hs]
    obtain ⟨d, hd, hk⟩ := hI.up _ _ hm (split_ne_nil hs)
    rw [hI.at_some.2 hd]
    dsimp only
    rw [if_pos hk]
    exact ⟨hI.at_some.2 hm, rfl⟩

theorem there_name (hI : T.Inv) {s : Bytes} {i : Nat} (hr : right s = true) (hm : (split s, i) ∈ T.names) : (T.there s).1 = some i ∧ (T.there s).2.2 = 0 := by
  obtain ⟨h1, h2⟩ := look_name hI hr hm
  unfold Fs.there
  exact ⟨h1, by dsimp only; rw [if_neg (fun h => by rw [h1] at h; cases h.2), h2]⟩

theorem there_zero (hI : T.Inv) {s : Bytes} (h : (T.there s).2.2 = 0) : right s = true ∧ ∃ i, (T.there s).1 = some i ∧ (split s, i) ∈ T.names := by
  obtain ⟨h1, i, h2, h3, _⟩ := hI.there_ok h
  exact ⟨h1, i, h2, h3⟩

theorem stat_name (hI : T.Inv) {s : Bytes} {i : Nat} (hr : right s = true) (hm : (split s, i) ∈ T.names) : T.stat s = (T.tell (split s) i, 0) := by
  obtain ⟨h1, h2⟩ := there_name hI hr hm
  unfold Fs.stat
  rw [if_pos h2, h1]

theorem stat_zero (hI : T.Inv) {s : Bytes} (h : (T.stat s).2 = 0) : right s = true ∧ ∃ i, (split s, i) ∈ T.names ∧ T.stat s = (T.tell (split s) i, 0) := by
  have hz : (T.there s).2.2 = 0 := by
    unfold Fs.stat at h
    by_cases hz : (T.there s).2.2 = 0
    · exact hz
    · rw [if_neg hz] at h
      exact h
  obtain ⟨h1, i, _, h3⟩ := there_zero hI hz
  exact ⟨h1, i, h3, stat_name hI h1 h3⟩

theorem stat_none (hI : T.Inv) {s : Bytes} (h : ∀ i, (split s, i) ∉ T.names) : (T.stat s).2 ≠ 0 := fun h0 => by
  obtain ⟨_, i, hi, _⟩ := stat_zero hI h0
  exact h i hi

/-- What is missing right in a directory. -/
theorem stat_missing (hI : T.Inv) {s : Bytes} (hr : right s = true) (hs : s ≠ []) {d : Nat} (hd : ((split s).dropLast, d) ∈ T.names) (hk : (T.nd d).kind = 2) (h : T.at (split s) = none) : T.stat s = (noSt, 10) := by
  have hl : T.look s = (none, some d, 0) := by
    unfold Fs.look
    rw [if_pos hr, if_neg hs, hI.at_some.2 hd]
    dsimp only
    rw [if_pos hk, h]
  have ht : (T.there s).2.2 = 10 := by
    unfold Fs.there
    rw [hl]
    rfl
  unfold Fs.stat
  rw [if_neg (by rw [ht]; decide), ht]

theorem read_name (hI : T.Inv) {s : Bytes} {i : Nat} (hr : right s = true) (hm : (split s, i) ∈ T.names) (hk : (T.nd i).kind = 1) : T.read s = ((T.nd i).data, 0) := by
  obtain ⟨h1, h2⟩ := there_name hI hr hm
  have hf : T.file s = (some i, 0) := by
    unfold Fs.file
    rw [if_pos h2, h1]
    dsimp only
    unfold notFile
    rw [if_neg (by rw [hk]; decide), if_neg (by rw [hk]; decide)]
  unfold Fs.read
  rw [hf, if_pos rfl]

theorem file_name (hI : T.Inv) {s : Bytes} {i : Nat} (hr : right s = true) (hm : (split s, i) ∈ T.names) (hk : (T.nd i).kind = 1) : T.file s = (some i, 0) := by
  obtain ⟨h1, h2⟩ := there_name hI hr hm
  unfold Fs.file
  rw [if_pos h2, h1]
  dsimp only
  unfold notFile
  rw [if_neg (by rw [hk]; decide), if_neg (by rw [hk]; decide)]

/-- A name as a text. -/
theorem Pth.text {p : Pt} (h : Pth p) : right (glue p) = true ∧ split (glue p) = p := by
  obtain ⟨s, h1, rfl⟩ := h
  rw [glue_split]
  exact ⟨h1, rfl⟩
theorem glue_ne {p : Pt} (h : Pth p) (hp : p ≠ []) : glue p ≠ [] := fun e => by
  have := h.text.2
  rw [e] at this
  exact hp this.symm

theorem mem_paths (hI : T.Inv) {s : Bytes} : s ∈ T.paths ↔ right s = true ∧ s ≠ [] ∧ ∃ i, (split s, i) ∈ T.names := by
  unfold Fs.paths
  rw [(sortP_perm _).mem_iff, List.mem_map]
  constructor
  · rintro ⟨⟨t, j⟩, hm, rfl⟩
    obtain ⟨h1, h2⟩ := mem_below.1 hm
    rw [List.nil_append] at h2
    have hP := hI.pth _ _ h2
    obtain ⟨h3, h4⟩ := hP.text
    exact ⟨h3, glue_ne hP h1, j, by rw [h4]; exact h2⟩
  · rintro ⟨h1, h2, i, hi⟩
    exact ⟨(split s, i), mem_below.2 ⟨split_ne_nil h2, by simpa using hi⟩, glue_split s⟩

theorem paths_len (T : Fs) : T.paths.length = (T.below []).length := by
  unfold Fs.paths
  rw [(sortP_perm _).length_eq, List.length_map]

theorem below_glue_nodup (hI : T.Inv) : ((T.below []).map fun y => glue y.1).Nodup := by
  have hnd := hI.nodup
  have h := below_nodup hI []
  rw [List.Nodup, List.pairwise_map]
  refine List.Pairwise.imp_of_mem ?_ h
  rintro ⟨a, i⟩ ⟨b, j⟩ ha hb hne e
  obtain ⟨_, h1⟩ := mem_below.1 ha
  obtain ⟨_, h2⟩ := mem_below.1 hb
  rw [List.nil_append] at h1 h2
  have e1 := (hI.pth _ _ h1).text.2
  have e2 := (hI.pth _ _ h2).text.2
  dsimp only at e
  rw [e, e2] at e1
  subst e1
  exact hne (by rw [hI.at_one h1 h2])

theorem paths_nodup (hI : T.Inv) : T.paths.Nodup := (sortP_perm _).nodup_iff.2 (below_glue_nodup hI)

/-- All rising. -/
theorem paths_rising (hI : T.Inv) : T.paths.Pairwise (fun a b => lessP a b = true) := by
  have h1 : Sorted T.paths := sortP_sorted _
  have h2 := paths_nodup hI
  have h3 : T.paths.Pairwise (fun a b => leP a b ∧ a ≠ b) := List.Pairwise.and h1 h2
  refine h3.imp ?_
  rintro a b ⟨h, hne⟩
  unfold lessP
  unfold leP at h
  rw [decide_eq_true_eq]
  rcases Int.lt_or_eq_of_le h with h | h
  · exact h
  · exact absurd (cmpP_eq h) hne

/-- Counting over the paths is counting over the names. -/
theorem paths_count (f : Bytes → Bool) : (T.paths.filter f).length = ((T.below []).filter fun y => f (glue y.1)).length := by
  have := ((sortP_perm ((T.below []).map fun y => glue y.1)).filter f).length_eq
  unfold Fs.paths
  rw [this, List.filter_map, List.length_map]
  rfl

theorem below_top_map (hI : T.Inv) : ∃ r, T.names = ([], 1) :: r ∧ T.below [] = r := by
  obtain ⟨r, e⟩ := hI.top
  refine ⟨r, e, ?_⟩
  have hnd := hI.nodup
  rw [e, List.map_cons] at hnd
  have hr : ∀ x ∈ r, x.1 ≠ [] := fun x hx h => (List.nodup_cons.1 hnd).1 (List.mem_map.2 ⟨x, hx, h⟩)
  unfold Fs.below
  rw [e, List.filterMap_cons]
  have h0 : (if ([] : Pt).isPrefixOf ([] : Pt) = true ∧ ([] : Pt) ≠ [] then some (([] : Pt).drop ([] : Pt).length, 1) else none : Option (Pt × Nat)) = none := if_neg (fun h => h.2 rfl)
  simp only [h0]
  clear e hnd h0
  induction r with
  | nil => rfl
  | cons a l ih =>
    have ha := hr a (List.mem_cons_self ..)
    rw [List.filterMap_cons]
    have : (if ([] : Pt).isPrefixOf a.1 = true ∧ a.1 ≠ [] then some (a.1.drop ([] : Pt).length, a.2) else none : Option (Pt × Nat)) = some a := by
      rw [if_pos ⟨by simp, ha⟩]
      simp
    rw [this]
    dsimp only
    rw [ih (fun x hx => hr x (List.mem_cons_of_mem _ hx))]

/-- How many names stand right in a directory, counted by their parents. -/
theorem count_kids (hI : T.Inv) (p : Pt) : ((T.below []).filter fun y => decide (y.1.dropLast = p)).length = (T.kids p).length := by
  obtain ⟨r, e, hb⟩ := below_top_map hI
  rw [hb]
  have hnd := hI.nodup
  rw [e, List.map_cons] at hnd
  have hr : ∀ x ∈ r, x.1 ≠ [] := fun x hx h => (List.nodup_cons.1 hnd).1 (List.mem_map.2 ⟨x, hx, h⟩)
  have hk : T.kids p = kidsL r p := by
    unfold Fs.kids
    rw [e]
    show kidsL ([([], 1)] ++ r) p = _
    rw [kidsL_append]
    simp [kidsL, kidOf]
  rw [hk]
  clear e hb hnd hk
  unfold kidsL
  induction r with
  | nil => rfl
  | cons a l ih =>
    have ha := hr a (List.mem_cons_self ..)
    have ih := ih (fun x hx => hr x (List.mem_cons_of_mem _ hx))
    rw [List.filter_cons, List.filterMap_cons]
    unfold kidOf at ih ⊢
    by_cases hc : a.1.dropLast = p
    · simp only [hc, decide_true, if_true, ha, ne_eq, not_false_eq_true, and_self, List.length_cons]
      rw [ih]
    · simp only [hc, decide_false, and_false, if_false, Bool.false_eq_true]
      exact ih

/-- How many names a thing has, the top's aside. -/
theorem count_names (hI : T.Inv) {i : Nat} (hi : i ≠ 1) : ((T.below []).filter fun y => decide (y.2 = i)).length = namesOf T.names i := by
  obtain ⟨r, e, hb⟩ := below_top_map hI
  rw [hb, e]
  unfold namesOf
  rw [List.filter_cons]
  simp [Ne.symm hi]

end

end Go.Proofs.Ytemdinjiplglgaa

namespace Go.Proofs.Ytemdinjiplglgaa

/-- How many of the first paths stand right in a directory, and how many are names of a thing. -/
def inCnt (P : List Bytes) (s : Bytes) (k : Nat) : Nat := ((P.take k).filter fun x => decide (parent x = s)).length
def linkCnt (T : Fs) (i : Nat) (k : Nat) : Nat := ((T.paths.take k).filter fun x => decide ((T.stat x).1.ino = i)).length

theorem cnt_snoc {α : Type} (f : α → Bool) (l : List α) {k : Nat} (hk : k < l.length) : ((l.take (k + 1)).filter f).length = ((l.take k).filter f).length + if f l[k] = true then 1 else 0 := by
  rw [List.take_succ_eq_append_getElem hk, List.filter_append, List.length_append]
  congr 1
  by_cases h : f l[k] = true <;> simp [h]

section
variable {T : Fs}

theorem filter_len_congr {α : Type} {f g : α → Bool} {l : List α} (h : ∀ x ∈ l, f x = g x) : (l.filter f).length = (l.filter g).length := by
  rw [List.filter_congr h]

theorem parent_is {x s : Bytes} (hx : right x = true) : parent x = s ↔ (split x).dropLast = split s := by
  rw [← split_parent hx]
  exact ⟨fun e => by rw [e], fun e => split_inj e⟩

theorem inCnt_all (hI : T.Inv) (s : Bytes) : inCnt T.paths s T.paths.length = (T.kids (split s)).length := by
  unfold inCnt
  rw [List.take_length, paths_count, ← count_kids hI]
  refine filter_len_congr ?_
  rintro ⟨t, j⟩ hm
  obtain ⟨h1, h2⟩ := mem_below.1 hm
  rw [List.nil_append] at h2
  obtain ⟨h3, h4⟩ := (hI.pth _ _ h2).text
  rw [Bool.eq_iff_iff, decide_eq_true_eq, decide_eq_true_eq, parent_is h3, h4]

theorem linkCnt_all (hI : T.Inv) {i : Nat} (hi : i ≠ 1) : linkCnt T i T.paths.length = namesOf T.names i := by
  unfold linkCnt
  rw [List.take_length, paths_count, ← count_names hI hi]
  refine filter_len_congr ?_
  rintro ⟨t, j⟩ hm
  obtain ⟨h1, h2⟩ := mem_below.1 hm
  rw [List.nil_append] at h2
  obtain ⟨h3, h4⟩ := (hI.pth _ _ h2).text
  have := stat_name hI h3 (i := j) (by rw [h4]; exact h2)
  rw [Bool.eq_iff_iff, decide_eq_true_eq, decide_eq_true_eq, this]
  show ((j : Int) = i) ↔ j = i
  omega

/-- One of the paths: what is told of it and of the directory above it. -/
theorem path_at (hI : T.Inv) {k : Nat} (hk : k < T.paths.length) : right (T.paths[k]) = true ∧ T.paths[k] ≠ [] ∧ ∃ i, (split T.paths[k], i) ∈ T.names ∧ i ≠ 1 ∧ 2 ≤ i ∧ T.stat T.paths[k] = (T.tell (split T.paths[k]) i, 0) ∧
    ∃ d, ((split T.paths[k]).dropLast, d) ∈ T.names ∧ (T.nd d).kind = 2 ∧ T.stat (parent T.paths[k]) = (T.tell ((split T.paths[k]).dropLast) d, 0) := by
  obtain ⟨h1, h2, i, h3⟩ := (mem_paths hI).1 (List.getElem_mem hk)
  have hne : i ≠ 1 := fun e => by
    subst e
    exact split_ne_nil h2 (top_nil hI h3)
  have hlt := (hI.lt _ _ h3).1
  obtain ⟨d, h4, h5⟩ := hI.up _ _ h3 (split_ne_nil h2)
  refine ⟨h1, h2, i, h3, hne, by omega, stat_name hI h1 h3, d, h4, h5, ?_⟩
  have hp := split_parent h1
  obtain ⟨h6, h7⟩ := (hI.pth _ _ h4).text
  have := stat_name hI (s := parent T.paths[k]) (i := d) (by unfold parent; exact h6) (by rw [hp]; exact h4)
  rw [hp] at this
  exact this

theorem path_rise (hI : T.Inv) {k : Nat} (hk : k + 1 < T.paths.length) : lessP T.paths[k] T.paths[k + 1] = true := (List.pairwise_iff_getElem.1 (paths_rising hI)) k (k + 1) (by omega) hk (Nat.lt_succ_self k)

/-- What P17.11 says of a name. -/
theorem holds_at (hI : T.Inv) {s : Bytes} {i : Nat} (hr : right s = true) (hs : s ≠ []) (hm : (split s, i) ∈ T.names) (hi : i ≠ 1) :
    ((T.nd i).kind = 2 → T.size (split s) i = inCnt T.paths s T.paths.length) ∧ ((T.nd i).kind ≠ 2 → inCnt T.paths s T.paths.length = 0) ∧ (T.nd i).links = linkCnt T i T.paths.length ∧
      (T.nameList s).length = linkCnt T i T.paths.length ∧ ((T.nd i).kind ≠ 1 → linkCnt T i T.paths.length = 1) := by
  rw [inCnt_all hI, linkCnt_all hI hi]
  have h1 : (T.nd i).kind ≠ 1 → namesOf T.names i = 1 := fun hk => by
    unfold namesOf
    have hsing := hI.single _ i hm hk
    obtain ⟨a, b, e1, e2⟩ := split_at hI.nodup hm
    rw [e1, List.filter_append, List.filter_cons]
    simp only [decide_true, if_true]
    have hno : ∀ x, x ∈ a ∨ x ∈ b → x.2 ≠ i := by
      rintro ⟨q, j⟩ hx rfl
      have hq : (q, j) ∈ T.names := by rw [e1]; rcases hx with h | h <;> simp [h]
      have := hsing q hq
      subst this
      have hm2 : (split s, j) ∈ T.names.filter (fun x => x.1 ≠ split s) := by rw [e2]; rcases hx with h | h <;> simp [h]
      simp at hm2
    rw [List.filter_eq_nil_iff.2 (fun x hx => by simpa using hno x (Or.inl hx)), List.filter_eq_nil_iff.2 (fun x hx => by simpa using hno x (Or.inr hx))]
    rfl
  refine ⟨fun hk => ?_, fun hk => ?_, hI.links _ _ hm, ?_, h1⟩
  · unfold Fs.size
    rw [if_neg (by rw [hk]; decide), if_pos hk]
  · rw [kids_file hI hm hk]
    rfl
  · obtain ⟨g1, g2⟩ := there_name hI hr hm
    unfold Fs.nameList
    rw [if_neg (by simp [g2, hs]), g1]
    dsimp only
    by_cases hk : (T.nd i).kind = 1
    · rw [if_pos hk, (sortP_perm _).length_eq, List.length_map, count_names hI hi]
    · rw [if_neg hk, h1 hk]
      rfl

end

end Go.Proofs.Ytemdinjiplglgaa

namespace Go.Proofs.Ytemdinjiplglgaa

section
variable {T : Fs}

/-- A Rename that told no error: it moved to a free place, or over a file, or on itself. -/
theorem ren_zero (hI : T.Inv) {o p : Bytes} (h : (T.rename o p).2 = 0) : right o = true ∧ right p = true ∧ o ≠ [] ∧ p ≠ [] ∧ ∃ i, (split o, i) ∈ T.names ∧
    ((∃ d, T.at (split p) = none ∧ Moves T (split o) (split p) i d ∧ (T.rename o p).1 = T.move (split o) (split p)) ∨
     ((split p, i) ∈ T.names ∧ (T.rename o p).1 = T) ∨
     (∃ d j, (split p, j) ∈ T.names ∧ j ≠ i ∧ (T.nd i).kind ≠ 2 ∧ (T.gone (split p) j).Inv ∧ Moves (T.gone (split p) j) (split o) (split p) i d ∧ (T.rename o p).1 = (T.gone (split p) j).move (split o) (split p))) := by
  unfold Fs.rename at h ⊢
  by_cases hr : right o = false ∨ right p = false
  · rw [if_pos hr] at h; cases h
  rw [if_neg hr] at h ⊢
  have hro : right o = true := by cases h1 : right o <;> simp_all
  have hrp : right p = true := by cases h1 : right p <;> simp_all
  unfold Fs.ren2 at h ⊢
  by_cases h0 : o = [] ∨ p = []
  · rw [if_pos h0] at h; cases h
  rw [if_neg h0] at h ⊢
  have ho0 : o ≠ [] := fun e => h0 (Or.inl e)
  have hp0 : p ≠ [] := fun e => h0 (Or.inr e)
  by_cases ht : (T.there o).2.2 ≠ 0
  · rw [if_pos ht] at h; exact absurd h ht
  rw [if_neg ht] at h ⊢
  obtain ⟨_, i, hi1, hi2⟩ := there_zero hI (by simpa using ht)
  rw [hi1] at h ⊢
  dsimp only at h ⊢
  refine ⟨hro, hrp, ho0, hp0, i, hi2, ?_⟩
  unfold Fs.ren3 at h ⊢
  by_cases h1 : (T.nd i).kind = 2 ∧ p ≠ o ∧ under p o = true
  · rw [if_pos h1] at h; cases h
  rw [if_neg h1] at h ⊢
  by_cases hle : (T.look p).2.2 ≠ 0
  · rw [if_pos hle] at h; exact absurd h hle
  rw [if_neg hle] at h ⊢
  obtain ⟨_, hl2, hl3⟩ := hI.look_ok (s := p) (by simpa using hle)
  rcases hl3 with ⟨e, _, _⟩ | ⟨_, d, _, hd, hdk⟩
  · exact absurd e hp0
  rw [hl2] at h ⊢
  by_cases h2 : (T.nd i).kind = 2 ∧ T.at (split p) ≠ none
  · rw [if_pos h2] at h; cases h
  rw [if_neg h2] at h ⊢
  by_cases h3 : (T.nd i).kind = 2 ∧ T.fits o p = false
  · rw [if_pos h3] at h; cases h
  rw [if_neg h3] at h ⊢
  cases hn : T.at (split p) with
  | none =>
    rw [hn] at h h2
    exact Or.inl ⟨d, rfl, moves_of hI hrp ho0 hp0 hi2 hd hdk hn h1 h3, rfl⟩
  | some j =>
    rw [hn] at h h2
    dsimp only at h ⊢
    have hj := hI.at_some.1 hn
    by_cases hjk : (T.nd j).kind = 2
    · rw [if_pos hjk] at h; cases h
    rw [if_neg hjk] at h ⊢
    by_cases hji : j = i
    · rw [if_pos hji]
      exact Or.inr (Or.inl ⟨hji ▸ hj, rfl⟩)
    · rw [if_neg hji]
      have hik : (T.nd i).kind ≠ 2 := fun e => h2 ⟨e, by simp⟩
      obtain ⟨g1, g2⟩ := moves_over hI hrp ho0 hp0 hi2 hd hdk hj hjk hji hik
      exact Or.inr (Or.inr ⟨d, j, hj, hji, hik, g1, g2, rfl⟩)

/-- Nothing is left where it stood. -/
theorem moved_away (hI : T.Inv) {old p : Pt} {i d : Nat} (h : Moves T old p i d) {q : Pt} {k : Nat} (hq : old <+: q) : (q, k) ∉ (T.move old p).names := fun hm => by
  obtain ⟨r, hr, e⟩ := (mem_move q k).1 hm
  rcases moveP_cases old p r with ⟨t, rfl, e1⟩ | ⟨h1, e1⟩
  · rw [e1] at e
    subst e
    rcases List.prefix_or_prefix_of_prefix hq (List.prefix_append p t) with h2 | h2
    · exact h.apart h2
    · obtain ⟨v, hv⟩ := h2
      have := h.hold
      rw [← hv] at this
      exact h.none hI this
  · rw [e1] at e
    subst e
    exact h1 hq

theorem move_nd (old p : Pt) (j : Nat) : (T.move old p).nd j = T.nd j := rfl

/-- What moved is told at its new place as it was told. -/
theorem tell_moved (hI : T.Inv) {old p : Pt} {i d : Nat} (h : Moves T old p i d) (t : Pt) (j : Nat) : (T.move old p).tell (p ++ t) j = T.tell (old ++ t) j := by
  unfold Fs.tell Fs.size
  rw [kids_move_under hI h, move_nd]

/-- A text under another one, as the other one and a rest. -/
theorem under_rest {q o : Bytes} (ho : o ≠ []) (h : under q o = true) : ∃ t, split q = split o ++ t ∧ o.length ≤ q.length ∧ ∀ p : Bytes, p ≠ [] → split (p ++ q.drop o.length) = split p ++ t := by
  obtain ⟨t, ht⟩ := under_prefix.1 h
  have h47 : ∀ x ∈ t, (47 : UInt8) ∉ x := fun x hx => split_parts q x (by rw [← ht]; exact List.mem_append_right _ hx)
  have hg : q = glue (split o ++ t) := by rw [ht, glue_split]
  by_cases h0 : t = []
  · subst h0
    rw [List.append_nil, glue_split] at hg
    subst hg
    exact ⟨[], by simp, Nat.le_refl _, fun p _ => by simp⟩
  · have hs : q = o ++ 47 :: glue t := by
      have h1 := split_below ho h0 h47
      have h2 := glue_split (o ++ 47 :: glue t)
      rw [h1, ht, glue_split] at h2
      exact h2
    refine ⟨t, ht.symm, by rw [hs]; simp, fun p hp => ?_⟩
    have : q.drop o.length = 47 :: glue t := by rw [hs]; simp
    rw [this]
    exact split_below hp h0 h47

theorem read_data (hI : T.Inv) {s : Bytes} {i : Nat} (hr : right s = true) (hm : (split s, i) ∈ T.names) : (T.read s).1 = (T.nd i).data := by
  by_cases hk : (T.nd i).kind = 1
  · rw [read_name hI hr hm hk]
  · rw [(hI.plain _ _ hm).1 hk]
    obtain ⟨h1, h2⟩ := there_name hI hr hm
    unfold Fs.read
    by_cases hf : (T.file s).2 = 0
    · rw [if_pos hf]
      unfold Fs.file
      rw [if_pos h2, h1]
      exact (hI.plain _ _ hm).1 hk
    · rw [if_neg hf]

/-- Back again. -/
theorem move_back (hI : T.Inv) {old p : Pt} {i d : Nat} (h : Moves T old p i d) : (T.move old p).move p old = T := by
  obtain ⟨names, nd, next⟩ := T
  unfold Fs.move
  dsimp only
  rw [List.map_map]
  have : names.map ((fun x : Pt × Nat => (moveP p old x.1, x.2)) ∘ fun x => (moveP old p x.1, x.2)) = names.map id := by
    refine List.map_congr_left ?_
    rintro ⟨q, j⟩ hx
    dsimp only [Function.comp_apply, id_eq]
    rcases moveP_cases old p q with ⟨t, rfl, e1⟩ | ⟨h1, e1⟩
    · rw [e1, moveP_under]
    · rw [e1, moveP_other]
      rintro ⟨t, rfl⟩
      exact h.none (T := ⟨names, nd, next⟩) hI hx
  rw [this, List.map_id]

theorem ren_back (hI : T.Inv) {o p : Bytes} {i d : Nat} (ho : right o = true) (hp : right p = true) (ho0 : o ≠ []) (hp0 : p ≠ []) (h : Moves T (split o) (split p) i d) :
    (T.move (split o) (split p)).rename p o = (T, 0) := by
  have hI' := move_inv hI h
  have hmi : (split p, i) ∈ (T.move (split o) (split p)).names := (mem_move _ _).2 ⟨_, h.hold, by have := moveP_under (split o) (split p) []; simpa using this⟩
  obtain ⟨f, hf, hfk⟩ := hI.up _ _ h.hold h.one
  have hf' : ((split o).dropLast, f) ∈ (T.move (split o) (split p)).names := (mem_move _ _).2 ⟨_, hf, moveP_other (fun hc => by
    have := hc.length_le
    have h0 : (split o).length ≠ 0 := fun e => h.one (List.eq_nil_of_length_eq_zero e)
    simp at this
    omega)⟩
  have hno : (T.move (split o) (split p)).at (split o) = none := Fs.at_none.2 fun k => moved_away hI h (List.prefix_rfl)
  have hl : (T.move (split o) (split p)).look o = (none, some f, 0) := by
    unfold Fs.look
    rw [if_pos ho, if_neg ho0, hI'.at_some.2 hf']
    dsimp only
    rw [if_pos (by rw [move_nd]; exact hfk), hno]
  obtain ⟨t1, t2⟩ := there_name hI' hp hmi
  unfold Fs.rename
  rw [if_neg (by simp [ho, hp]), hl, t1, t2]
  unfold Fs.ren2
  rw [if_neg (by simp [ho0, hp0]), if_neg (by simp)]
  dsimp only
  unfold Fs.ren3
  have hup : ¬ under o p = true := fun e => by
    obtain ⟨v, hv⟩ := under_prefix.1 e
    have := h.hold
    rw [← hv] at this
    exact h.none hI this
  rw [if_neg (fun e => hup e.2.2), if_neg (by simp), if_neg (by simp)]
  have hfit : (T.move (split o) (split p)).fits p o = true := by
    unfold Fs.fits
    refine List.all_eq_true.2 ?_
    rintro ⟨t, j⟩ hm
    obtain ⟨ht, hm⟩ := mem_below.1 hm
    have hm2 : (split o ++ t, j) ∈ T.names := by
      obtain ⟨r, hr, e⟩ := (mem_move _ _).1 hm
      rcases moveP_cases (split o) (split p) r with ⟨u, rfl, e1⟩ | ⟨h1, e1⟩
      · rw [e1] at e
        rw [← List.append_cancel_left e]
        exact hr
      · rw [e1] at e
        subst e
        exact absurd hr (h.none hI)
    have hP := hI.pth _ _ hm2
    have h1 := split_below ho0 ht fun x hx => hP.no_slash (List.mem_append_right _ hx)
    obtain ⟨g1, g2⟩ := hP.text
    have h2 := glue_split (o ++ 47 :: glue t)
    rw [h1] at h2
    dsimp only
    rw [← h2]
    exact g1
  rw [if_neg (by simp [hfit])]
  dsimp only
  rw [move_back hI h]

/-- What a walk over the old paths finds. -/
def Told (T T' : Fs) (q nw : Bytes) : Prop := ∃ s e, T.stat q = (s, 0) ∧ T'.stat nw = (s, 0) ∧ (T'.stat q).2 = e ∧ e ≠ 0 ∧ (T'.read nw).1 = (T.read q).1 ∧ nw.length ≤ 200

theorem told_move {U : Fs} (hI : U.Inv) {old : Bytes} {p : Bytes} {i d : Nat} (ho0 : old ≠ []) (hp0 : p ≠ []) (h : Moves U (split old) (split p) i d) {q : Bytes} (hq : right q = true) {j : Nat} (hj : (split q, j) ∈ U.names) (hu : under q old = true) :
    Told U (U.move (split old) (split p)) q (p ++ q.drop old.length) := by
  have hI' := move_inv hI h
  obtain ⟨t, h1, h2, h3⟩ := under_rest ho0 hu
  have h4 := h3 p hp0
  have hj2 := hj
  rw [h1] at hj2
  have hm : (split p ++ t, j) ∈ (U.move (split old) (split p)).names := (mem_move _ _).2 ⟨_, hj2, moveP_under _ _ _⟩
  obtain ⟨s, g1, g2⟩ := hI'.pth _ _ hm
  have hs : p ++ q.drop old.length = s := by
    have e1 := glue_split (p ++ q.drop old.length)
    rw [h4, ← g2, glue_split] at e1
    exact e1.symm
  have hr : right (p ++ q.drop old.length) = true := by rw [hs]; exact g1
  have hm2 : (split (p ++ q.drop old.length), j) ∈ (U.move (split old) (split p)).names := by rw [h4]; exact hm
  refine ⟨_, _, stat_name hI hq hj, ?_, rfl, ?_, ?_, ?_⟩
  · rw [stat_name hI' hr hm2, h4, tell_moved hI h, ← h1]
  · exact stat_none hI' fun k hk => moved_away hI h (under_prefix.1 hu) hk
  · rw [read_data hI' hr hm2, read_data hI hq hj, move_nd]
  · have := hr
    simp only [right, Bool.and_eq_true, decide_eq_true_eq] at this
    exact this.2

theorem gone_tell {p : Pt} {i j : Nat} (hij : i ≠ j) (hk : (T.nd i).kind ≠ 2) (q : Pt) : (T.gone p j).tell q i = T.tell q i := by
  have h : (T.gone p j).nd i = T.nd i := by simp [Fs.gone, hij]
  unfold Fs.tell Fs.size
  rw [h, if_neg hk, if_neg hk]

/-- .. of every path below the old one. -/
theorem ren_told (hI : T.Inv) {o p : Bytes} (h : (T.rename o p).2 = 0) (hne : ∀ i, (split o, i) ∈ T.names → (split p, i) ∉ T.names) {q : Bytes} (hq : q ∈ T.paths) (hu : under q o = true) :
    Told T (T.rename o p).1 q (p ++ q.drop o.length) := by
  obtain ⟨h1, h2, h3, h4, i, hi, hc⟩ := ren_zero hI h
  obtain ⟨q1, q2, j, hj⟩ := (mem_paths hI).1 hq
  rcases hc with ⟨d, _, hM, e⟩ | ⟨hpi, _⟩ | ⟨d, k, hk, hki, hik, hIg, hM, e⟩
  · rw [e]
    exact told_move hI h3 h4 hM q1 hj hu
  · exact absurd hpi (hne i hi)
  · rw [e]
    obtain ⟨t, e1, e2, e3⟩ := under_rest h3 hu
    have ht : t = [] := by
      refine Classical.byContradiction fun ht => ?_
      have := hI.at_below t ht (p := split o) (fun j hj => by rw [hI.at_some.2 hi] at hj; cases hj; exact hik)
      rw [← e1, hI.at_some.2 hj] at this
      cases this
    rw [ht, List.append_nil] at e1
    have hqo : q = o := by have := congrArg glue e1; rwa [glue_split, glue_split] at this
    subst hqo
    obtain rfl := hI.at_one hj hi
    have hjg : (split q, j) ∈ (T.gone (split p) k).names := hM.hold
    obtain ⟨s, er, a1, a2, a3, a4, a5, a6⟩ := told_move hIg h3 h4 hM q1 hjg hu
    refine ⟨s, er, ?_, a2, a3, a4, ?_, a6⟩
    · rw [← a1, stat_name hI q1 hj, stat_name hIg q1 hjg, gone_tell (Ne.symm hki) hik]
    · rw [a5, read_data hI q1 hj, read_data hIg q1 hjg]
      simp [Fs.gone, Ne.symm hki]

end

end Go.Proofs.Ytemdinjiplglgaa

namespace Go.Proofs.Ytemdinjiplglgaa

/-! ### how long the files of a built tree are -/

structure DataLe (T : Fs) (n : Nat) : Prop where
  le : ∀ j, (T.nd j).data.length ≤ n
theorem dl_mono {T : Fs} {n m : Nat} (h : DataLe T n) (hm : n ≤ m) : DataLe T m := ⟨fun j => Nat.le_trans (h.le j) hm⟩
theorem dl_upd {T : Fs} {n m : Nat} (h : DataLe T n) (hm : n ≤ m) {f : Nat → Nd} {i : Nat} {x : Nd} (hx : x.data.length ≤ m) (hf : f = fun j => if j = i then x else T.nd j) (j : Nat) : (f j).data.length ≤ m := by
  subst hf
  dsimp only
  split
  · exact hx
  · exact Nat.le_trans (h.le j) hm
theorem dl_add {T : Fs} {n m : Nat} (h : DataLe T n) (hm : n ≤ m) (p : Pt) {x : Nd} (hx : x.data.length ≤ m) : DataLe (T.add p x) m := ⟨dl_upd h hm hx rfl⟩
theorem dl_set {T : Fs} {n m : Nat} (h : DataLe T n) (hm : n ≤ m) (i : Nat) {x : Nd} (hx : x.data.length ≤ m) : DataLe (T.set i x) m := ⟨dl_upd h hm hx rfl⟩
theorem dl_name {T : Fs} {n m : Nat} (h : DataLe T n) (hm : n ≤ m) (p : Pt) (i : Nat) : DataLe (T.name p i) m := ⟨dl_upd h hm (x := { T.nd i with links := (T.nd i).links + 1 }) (Nat.le_trans (h.le i) hm) rfl⟩
theorem dl_gone {T : Fs} {n m : Nat} (h : DataLe T n) (hm : n ≤ m) (p : Pt) (i : Nat) : DataLe (T.gone p i) m := ⟨dl_upd h hm (x := { T.nd i with links := (T.nd i).links - 1 }) (Nat.le_trans (h.le i) hm) rfl⟩
theorem dl_move {T : Fs} {n m : Nat} (h : DataLe T n) (hm : n ≤ m) (o p : Pt) : DataLe (T.move o p) m := ⟨(dl_mono h hm).le⟩
theorem dl_over {T : Fs} {n m : Nat} (h : DataLe T n) (hm : n ≤ m) (o p : Pt) (j : Nat) : DataLe ((T.gone p j).move o p) m := ⟨(dl_gone h hm p j).le⟩

set_option maxHeartbeats 2000000 in
theorem dl_act {T : Fs} {n : Nat} (h : DataLe T n) (a : Act17) (ha : a.data.length ≤ 400) : DataLe (T.act a).1 (n + 400) := by
  have hm : n ≤ n + 400 := by omega
  have h0 : DataLe T (n + 400) := dl_mono h hm
  have g1 : ∀ s m, DataLe (T.mkdir s m).1 (n + 400) := fun s m => by unfold Fs.mkdir; (repeat' split); all_goals first | exact h0 | exact dl_add h hm _ (by simp)
  have g2 : ∀ s m, DataLe (T.write s a.data m).1 (n + 400) := fun s m => by unfold Fs.write; (repeat' split); all_goals first | exact h0 | exact dl_add h hm _ (by dsimp only; omega) | exact dl_set h hm _ (by dsimp only; omega)
  have g3 : ∀ s t m, DataLe (T.symlink s t m).1 (n + 400) := fun s t m => by unfold Fs.symlink; (repeat' split); all_goals first | exact h0 | exact dl_add h hm _ (by simp)
  have g4 : ∀ o p, DataLe (T.link o p).1 (n + 400) := fun o p => by unfold Fs.link; (repeat' split); all_goals first | exact h0 | exact dl_name h hm _ _
  have g5 : ∀ s, DataLe (T.remove s).1 (n + 400) := fun s => by unfold Fs.remove; (repeat' split); all_goals first | exact h0 | exact dl_gone h hm _ _
  have g6 : ∀ o p, DataLe (T.rename o p).1 (n + 400) := fun o p => by unfold Fs.rename Fs.ren2 Fs.ren3; (repeat' split); all_goals first | exact h0 | exact dl_move h hm _ _ | exact dl_over h hm _ _ _
  have g7 : ∀ s m, DataLe (T.setM s m).1 (n + 400) := fun s m => by unfold Fs.setM; (repeat' split); all_goals first | exact h0 | exact dl_set h hm _ (Nat.le_trans (h.le _) hm)
  have g8 : ∀ s, DataLe (T.append s a.data).1 (n + 400) := fun s => by
    unfold Fs.append
    (repeat' split)
    all_goals first
      | exact h0
      | (refine dl_set h hm _ ?_
         dsimp only
         rw [List.length_append]
         exact Nat.add_le_add (h.le _) ha)
  unfold Fs.act
  repeat' split
  all_goals first | exact g1 _ _ | exact g2 _ _ | exact g3 _ _ _ | exact g4 _ _ | exact g5 _ | exact g6 _ _ | exact g7 _ _ | exact g8 _ | exact h0

set_option maxHeartbeats 2000000 in
theorem dl_acts {T : Fs} (hT : DataLe T 0) : ∀ l : List Act17, (∀ a ∈ l, a.data.length ≤ 400) → DataLe (T.acts l) (400 * l.length) := by
  refine snoc_rec (fun _ => by simpa [Fs.acts] using hT) fun l a ih h => ?_
  rw [acts_snoc]
  have := dl_act (ih fun x hx => h x (List.mem_append_left _ hx)) a (h a (by simp))
  simpa [Nat.mul_add] using this

theorem dl_build {l : List Act17} (h : small l = true) : DataLe (Fs.build l) 16000 := by
  obtain ⟨h1, h2⟩ := small_at h
  have h3 : DataLe Fs.start 0 := ⟨fun j => by simp [Fs.start]⟩
  exact dl_mono (dl_acts h3 l fun a ha => (h2 a ha).1) (by omega)

/-! ### the names of a file -/

section
variable {T : Fs}

theorem stat_kind (hI : T.Inv) {p : Bytes} (h : (T.stat p).1.kind = 1) : right p = true ∧ ∃ i, (split p, i) ∈ T.names ∧ (T.nd i).kind = 1 ∧ T.stat p = (T.tell (split p) i, 0) := by
  have hz : (T.there p).2.2 = 0 := by
    unfold Fs.stat at h
    by_cases hz : (T.there p).2.2 = 0
    · exact hz
    · rw [if_neg hz] at h
      cases h
  obtain ⟨h1, i, _, h3⟩ := there_zero hI hz
  have h4 := stat_name hI h1 h3
  rw [h4] at h
  exact ⟨h1, i, h3, h, h4⟩

theorem not_top (hI : T.Inv) {i : Nat} (hk : (T.nd i).kind = 1) : i ≠ 1 := fun e => by
  subst e
  rw [hI.topKind] at hk
  cases hk
theorem not_empty (hI : T.Inv) {p : Bytes} {i : Nat} (hm : (split p, i) ∈ T.names) (hk : (T.nd i).kind = 1) : p ≠ [] := fun e => by
  subst e
  exact not_top hI hk (hI.at_one hm hI.one)

theorem nameList_file (hI : T.Inv) {p : Bytes} {i : Nat} (hr : right p = true) (hm : (split p, i) ∈ T.names) (hk : (T.nd i).kind = 1) :
    T.nameList p = sortP (((T.below []).filter fun y => y.2 = i).map fun y => glue y.1) := by
  obtain ⟨h1, h2⟩ := there_name hI hr hm
  unfold Fs.nameList
  rw [if_neg (by simp [h2, not_empty hI hm hk]), h1]
  dsimp only
  rw [if_pos hk]

theorem names_len (hI : T.Inv) {p : Bytes} {i : Nat} (hr : right p = true) (hm : (split p, i) ∈ T.names) (hk : (T.nd i).kind = 1) : ((T.nameList p).length : Int) = (T.nd i).links := by
  rw [nameList_file hI hr hm hk, (sortP_perm _).length_eq, List.length_map, hI.links _ _ hm, count_names hI (not_top hI hk)]

theorem names_mem (hI : T.Inv) {p : Bytes} {i : Nat} (hr : right p = true) (hm : (split p, i) ∈ T.names) (hk : (T.nd i).kind = 1) {n : Bytes} (hn : n ∈ T.nameList p) : right n = true ∧ (split n, i) ∈ T.names := by
  rw [nameList_file hI hr hm hk, (sortP_perm _).mem_iff, List.mem_map] at hn
  obtain ⟨⟨t, j⟩, h1, rfl⟩ := hn
  obtain ⟨h2, h3⟩ := List.mem_filter.1 h1
  simp only [decide_eq_true_eq] at h3
  subst h3
  obtain ⟨_, h4⟩ := mem_below.1 h2
  rw [List.nil_append] at h4
  obtain ⟨g1, g2⟩ := (hI.pth _ _ h4).text
  exact ⟨g1, by dsimp only; rw [g2]; exact h4⟩

theorem names_nodup (hI : T.Inv) {p : Bytes} {i : Nat} (hr : right p = true) (hm : (split p, i) ∈ T.names) (hk : (T.nd i).kind = 1) : (T.nameList p).Nodup := by
  rw [nameList_file hI hr hm hk, (sortP_perm _).nodup_iff]
  exact (List.filter_sublist.map _).nodup (below_glue_nodup hI)

/-- What the walk finds. -/
structure OneFile (T T2 : Fs) (f : Int) (p b : Bytes) (m : Mt) (n0 : Bytes) : Prop where
  set : f = 0 → (T2.stat p).1.mt = m
  data : ∃ c, (T2.read p).1 = c ++ b
  all : ∀ n ∈ T.nameList p, T2.read n = ((T2.read p).1, 0) ∧ T2.stat n = ((T2.stat p).1, 0)
  out : (T2.remove n0).2 = 0
  rest : ∀ n ∈ T.nameList p, n ≠ n0 → ((T2.remove n0).1.read n).1 = (T2.read p).1 ∧ (T2.remove n0).1.stat n = ({ (T2.stat p).1 with links := (T.nameList p).length - 1 }, 0)
  none : ((T2.remove n0).1.stat n0).2 = 10
  short : ∀ n ∈ T.nameList p, n.length ≤ 200
  few : T2.names = T.names

theorem set_names (i : Nat) (n : Nd) : (T.set i n).names = T.names := rfl
theorem set_nd (i : Nat) (n : Nd) : (T.set i n).nd i = n := by simp [Fs.set]

theorem one_file (hI : T.Inv) {p b : Bytes} {m : Mt} {n0 : Bytes} (hk : (T.stat p).1.kind = 1) (hd : DataLe T 16000) (hb : b.length ≤ 400) (hn : n0 ∈ T.nameList p) : (T.append p b).2 = 0 ∧ OneFile T ((T.append p b).1.setM n0 m).1 ((T.append p b).1.setM n0 m).2 p b m n0 := by
  obtain ⟨hr, i, hm, hki, _⟩ := stat_kind hI hk
  have hnm := fun n (h : n ∈ T.nameList p) => names_mem hI hr hm hki h
  have hln := names_len hI hr hm hki
  have hne := fun n (h : n ∈ T.nameList p) => not_empty hI (hnm n h).2 hki
  have hdi := hd.le i
  have hE : T.append p b = (T.set i { T.nd i with data := (T.nd i).data ++ b }, 0) := by
    unfold Fs.append
    rw [file_name hI hr hm hki, if_neg (by simp)]
    dsimp only
    rw [if_neg (by omega)]
  obtain ⟨q1, q2, q3⟩ := hI.plain _ _ hm
  have hI1 : (T.set i { T.nd i with data := (T.nd i).data ++ b }).Inv := by
    refine set_inv hI ⟨hI.kinds _ _ hm, ?_, ⟨?_, q2, q3⟩⟩ rfl rfl
    · dsimp only; rw [List.length_append]; omega
    · intro h; exact absurd hki h
  obtain ⟨hr0, hm0⟩ := hnm n0 hn
  -- behind Set
  have hS : ∃ N : Nd, N.kind = 1 ∧ N.links = (T.nd i).links ∧ N.data = (T.nd i).data ++ b ∧ ((T.append p b).1.setM n0 m).1.names = T.names ∧ ((T.append p b).1.setM n0 m).1.nd i = N ∧ ((T.append p b).1.setM n0 m).1.Inv ∧
      (((T.append p b).1.setM n0 m).2 = 0 → N.mt = m) ∧ ∀ j, (T.nd j).kind = 2 → (((T.append p b).1.setM n0 m).1.nd j).kind = 2 := by
    rw [hE]
    dsimp only
    generalize hT1 : T.set i { T.nd i with data := (T.nd i).data ++ b } = T1 at *
    have hn1 : T1.names = T.names := by rw [← hT1]; rfl
    have hd1 : T1.nd i = { T.nd i with data := (T.nd i).data ++ b } := by rw [← hT1]; exact set_nd _ _
    have hk1 : ∀ j, (T.nd j).kind = 2 → (T1.nd j).kind = 2 := fun j hj => by
      have : j ≠ i := fun e => by subst e; rw [hki] at hj; cases hj
      rw [← hT1]
      simp [Fs.set, this, hj]
    obtain ⟨t1, t2⟩ := there_name hI1 hr0 (by rw [hn1]; exact hm0)
    unfold Fs.setM
    by_cases hme : mayE n0 m ≠ 0
    · rw [if_pos hme]
      exact ⟨T1.nd i, by rw [hd1]; exact hki, by rw [hd1], by rw [hd1], hn1, rfl, hI1, fun h => absurd h hme, hk1⟩
    · rw [if_neg hme, if_neg (by simp [t2]), t1]
      dsimp only
      refine ⟨{ T1.nd i with mt := m }, by rw [hd1]; exact hki, by rw [hd1], by rw [hd1], hn1, set_nd _ _, ?_, fun _ => rfl, fun j hj => ?_⟩
      · have hm1 : (split p, i) ∈ T1.names := by rw [hn1]; exact hm
        obtain ⟨r1, r2, r3⟩ := hI1.plain _ _ hm1
        exact set_inv hI1 ⟨hI1.kinds _ _ hm1, hI1.data _ _ hm1, ⟨r1, r2, r3⟩⟩ rfl rfl
      · have : j ≠ i := fun e => by subst e; rw [hki] at hj; cases hj
        simp [Fs.set, this, hk1 j hj]
  obtain ⟨N, n1, n2, n3, e1, e2, hI2, e3, e4⟩ := hS
  have hput : (T.append p b).2 = 0 := by rw [hE]
  refine ⟨hput, ?_⟩
  clear hput hE
  generalize ((T.append p b).1.setM n0 m).2 = f at *
  generalize ((T.append p b).1.setM n0 m).1 = T2 at *
  have hk2 : (T2.nd i).kind = 1 := by rw [e2]; exact n1
  have hm2 : (split p, i) ∈ T2.names := by rw [e1]; exact hm
  have hnm2 := fun n (h : n ∈ T.nameList p) => (show (split n, i) ∈ T2.names by rw [e1]; exact (hnm n h).2)
  have htell : ∀ q, T2.tell q i = ⟨1, i, (T2.nd i).data.length, N.links, N.mt, (T2.nd i).target⟩ := fun q => by
    unfold Fs.tell Fs.size
    rw [if_pos hk2, hk2]
    rw [e2]
  have hrm : T2.remove n0 = (T2.gone (split n0) i, 0) := by
    obtain ⟨t1, t2⟩ := there_name hI2 hr0 (hnm2 n0 hn)
    unfold Fs.remove
    rw [if_neg (by simp [hr0]), if_neg (hne n0 hn), if_neg (by simp [t2]), t1]
    dsimp only
    rw [if_neg (by simp [kids_file hI2 (hnm2 n0 hn) (by rw [hk2]; decide)])]
  have hs0 : split n0 ≠ [] := split_ne_nil (hne n0 hn)
  have hI3 : (T2.gone (split n0) i).Inv := gone_inv hI2 (hnm2 n0 hn) hs0 (kids_file hI2 (hnm2 n0 hn) (by rw [hk2]; decide))
  have hnd3 : (T2.gone (split n0) i).nd i = { T2.nd i with links := (T2.nd i).links - 1 } := by simp [Fs.gone]
  have hk3 : ((T2.gone (split n0) i).nd i).kind = 1 := by rw [hnd3]; exact hk2
  refine ⟨?_, ?_, ?_, ?_, ?_, ?_, ?_, e1⟩
  · intro h
    rw [stat_name hI2 hr hm2, htell]
    exact e3 h
  · exact ⟨(T.nd i).data, by rw [read_name hI2 hr hm2 hk2, e2, n3]⟩
  · intro n h
    rw [read_name hI2 hr hm2 hk2, read_name hI2 (hnm n h).1 (hnm2 n h) hk2, stat_name hI2 hr hm2, stat_name hI2 (hnm n h).1 (hnm2 n h), htell, htell]
    exact ⟨rfl, rfl⟩
  · rw [hrm]
  · intro n h hne0
    have hsn : split n ≠ split n0 := fun e => hne0 (by have := congrArg glue e; rwa [glue_split, glue_split] at this)
    have hm3 : (split n, i) ∈ (T2.gone (split n0) i).names := (mem_gone _ _).2 ⟨hnm2 n h, hsn⟩
    rw [hrm]
    dsimp only
    rw [read_name hI3 (hnm n h).1 hm3 hk3, read_name hI2 hr hm2 hk2, stat_name hI3 (hnm n h).1 hm3, stat_name hI2 hr hm2, htell, hnd3]
    refine ⟨rfl, ?_⟩
    unfold Fs.tell Fs.size
    rw [hk3, if_pos rfl, hnd3, e2]
    dsimp only
    rw [hln, ← n2]
  · rw [hrm]
    dsimp only
    obtain ⟨d, hd1, hd2⟩ := hI.up _ _ hm0 hs0
    rw [stat_missing hI3 hr0 (hne n0 hn) (d := d) ((mem_gone _ _).2 ⟨by rw [e1]; exact hd1, dropLast_ne hs0⟩) (by rw [gone_kind]; exact e4 d hd2) (Fs.at_none.2 fun k hk => ((mem_gone _ _).1 hk).2 rfl)]
  · intro n h
    have := (hnm n h).1
    simp only [right, Bool.and_eq_true, decide_eq_true_eq] at this
    exact this.2

end

end Go.Proofs.Ytemdinjiplglgaa

namespace Go.Proofs.Ytemdinjiplglgaa
open Go.RowKit

theorem RdB.string {W : World} {v : Value} {l : Bytes} (h : RdB W v l) : (convert 23 9 v).run Try.prog W = .ok (.string (mkS l)) W := by
  obtain ⟨A, c, rfl, h2, h3, h4⟩ := h
  by_cases hl : l = []
  · subst hl
    exact run_convert_bytes_zero W 23 5 Try.underlying23 Try.underlying5 A c 9 Try.underlying9
  · have hp : 0 < l.length := List.length_pos_iff.2 hl
    obtain ⟨g, o, rfl, _⟩ := h4 0 hp
    rw [← strOfNums_bytes l]
    refine run_convert_bytes_arg W 23 5 Try.underlying23 Try.underlying5 g o l.length c (l.map fun b => (b.toNat : Int)) (by simp) (fun i hi => ?_) 9 Try.underlying9
    obtain ⟨g', o', e', hc⟩ := h4 i hi
    cases e'
    rw [hc]
    simp [hi]

/-- The end of a file's bytes, as a slice of them. -/
theorem Dat.tail {W : World} {bA : Option Addr} {D cp b : Bytes} {bc : Nat} (h : Dat W (.slice bA D.length bc) D) (hD : D = cp ++ b) :
    RdB W (.slice (if bc = D.length - b.length then bA else Option.map (fun x => x.add (D.length - b.length)) bA) (D.length - (D.length - b.length)) (bc - (D.length - b.length))) b := by
  have hl : D.length = cp.length + b.length := by rw [hD, List.length_append]
  rcases h with ⟨h1, h2⟩ | ⟨g, c, cur, h1, h2, h3, h4, h5, h6⟩
  · have hb : b = [] := by
      rw [h2] at hD
      exact (List.append_eq_nil_iff.1 hD.symm).2
    subst hb
    simp only [Value.slice.injEq] at h1
    obtain ⟨rfl, h0, rfl⟩ := h1
    exact ⟨none, 0, by simp [h2], Nat.zero_le _, by simp [maxLen], fun k hk => by simp at hk⟩
  · simp only [Value.slice.injEq, true_and] at h1
    obtain ⟨rfl, rfl⟩ := h1
    refine ⟨if bc = D.length - b.length then some ⟨g, 0, none⟩ else Option.map (fun x : Addr => x.add (D.length - b.length)) (some ⟨g, 0, none⟩), bc - (D.length - b.length), ?_, by omega, by omega, fun k hk => ⟨g, D.length - b.length, ?_, ?_⟩⟩
    · rw [show D.length - (D.length - b.length) = b.length by omega]
    · rw [if_neg (by omega)]
      simp only [Option.map_some, Addr.add, Nat.zero_add]
      split
      · rename_i h0
        rw [h0]
      · rfl
    · refine cell_of (j := D.length - b.length + k) h2 ?_
      have e : cur.toList[D.length - b.length + k]? = (byteCells D)[D.length - b.length + k]? := by
        rw [← h6, List.getElem?_take_of_lt (by omega)]
      rw [← Array.getElem?_toList, e]
      unfold byteCells
      rw [List.getElem?_map, hD, List.getElem?_append_right (by rw [List.length_append]; omega)]
      rw [show (cp ++ b).length - b.length + k - cp.length = k by rw [List.length_append]; omega]
      simp [hk]

/-- A row of names as one block. -/
theorem row_block {B : Nat} {W : World} {v : Value} {l : List Bytes} (h : Strs B W v l) (hl : 0 < l.length) : ∃ g c X, v = .slice (some ⟨g, 0, none⟩) l.length c ∧ l.length ≤ c ∧ c ≤ maxLen ∧ B ≤ g ∧ W.heap[g]? = some (.cells X 9 (0, 0)) ∧
    ∀ W' : World, W'.heap[g]? = some (.cells X 9 (0, 0)) → ∀ k (hk : k < l.length), W'.cell? ⟨g, k, none⟩ = some (.string (mkS l[k])) := by
  rcases h.block with ⟨_, _, rfl, _⟩ | ⟨g, c, pad, rfl, h1, h2, h3, h4, h5⟩
  · simp at hl
  · refine ⟨g, c, _, rfl, h3, h4, h1, h2, fun W' hW' k hk => cell_of (j := k) hW' ?_⟩
    rw [List.getElem?_toArray, List.getElem?_append_left (by simpa [strs] using hk)]
    simp [strs, hk]

theorem Stp.turn {w w' : World} {tb : Nat} {A M : Nat → Nat} {T T' : Fs} (h : Stp w w' tb A M T T') : Turn w w' (Own tb A M T) := by
  obtain ⟨_, _, _, h2, _⟩ := h
  exact h2

/-- A block of another type stays. -/
theorem Stp.cells {w w' : World} {tb : Nat} {A M : Nat → Nat} {T T' : Fs} (h : Stp w w' tb A M T T') (hR : Rep w tb A M T) {g : Nat} {cs : Array Value} {t : TypeId} {f : Nat × Nat} (hg : w.heap[g]? = some (.cells cs t f)) (h1 : t ≠ 67) (h2 : t ≠ 76) :
    w'.heap[g]? = some (.cells cs t f) := (h.turn.block g (Array.getElem?_eq_some_iff.1 hg).1 (hR.not_own hg h1 h2)).trans hg

theorem Dat.stp {w w' : World} {tb : Nat} {A M : Nat → Nat} {T T' : Fs} {v : Value} {l : Bytes} (h : Dat w v l) (hR : Rep w tb A M T) (hs : Stp w w' tb A M T T') : Dat w' v l :=
  h.kept fun g ⟨cs, hg⟩ => (hs.turn.block g (Array.getElem?_eq_some_iff.1 hg).1 (hR.not_own hg (by decide) (by decide)))
theorem Dat.below {w w' : World} {v : Value} {l : Bytes} (h : Dat w v l) (hB : Below w.heap.size w w') : Dat w' v l :=
  h.kept fun g ⟨_, hg⟩ => hB.block g (Array.getElem?_eq_some_iff.1 hg).1

theorem type_ne {w : World} {x g : Nat} {cs ds : Array Value} {t u : TypeId} {f f' : Nat × Nat} (hx : w.heap[x]? = some (.cells cs t f)) (hg : w.heap[g]? = some (.cells ds u f')) (h : t ≠ u) : g ≠ x := by
  rintro rfl
  rw [hx] at hg
  cases hg
  exact h rfl

/-- .. and where a record of another type is written. -/
theorem Dat.setCell {w : World} {v : Value} {l : Bytes} (h : Dat w v l) {x : Nat} {cs : Array Value} {t : TypeId} {f : Nat × Nat} (hx : w.heap[x]? = some (.cells cs t f)) (ht : t ≠ 5) (k : Nat) (u : Value) : Dat (w.setCell ⟨x, k, none⟩ u) v l :=
  h.kept fun _ ⟨_, hg⟩ => heap_set_other w (type_ne hx hg ht) k u
theorem Rep.setCell {w : World} {tb : Nat} {A M : Nat → Nat} {T : Fs} (h : Rep w tb A M T) {x : Nat} {cs : Array Value} {t : TypeId} {f : Nat × Nat} (hx : w.heap[x]? = some (.cells cs t f)) (h1 : t ≠ 5) (h2 : t ≠ 67) (h3 : t ≠ 76) (k : Nat) (u : Value) : Rep (w.setCell ⟨x, k, none⟩ u) tb A M T :=
  h.kept (fun b hb => heap_set_other w (by rintro rfl; exact h.not_own hx h2 h3 hb) k u) (fun _ ⟨_, hg⟩ => heap_set_other w (type_ne hx hg h1) k u)

end Go.Proofs.Ytemdinjiplglgaa

namespace Go.Proofs.Ytemdinjiplglgaa

/-- The distance of two lists, from their heads on. -/
def lev {α : Type} [DecidableEq α] : List α → List α → Int
  | [], ys => ys.length
  | _ :: xs, [] => xs.length + 1
  | x :: xs, y :: ys => mn (mn (lev xs ys + if x = y then 0 else 1) (lev xs (y :: ys) + 1)) (lev (x :: xs) ys + 1)
termination_by xs ys => xs.length + ys.length

section
variable {α : Type} [DecidableEq α]
theorem lev_nil_left (ys : List α) : lev [] ys = ys.length := by cases ys <;> simp [lev]
theorem lev_nil_right (xs : List α) : lev xs [] = xs.length := by cases xs <;> simp [lev]
theorem lev_cons (x y : α) (xs ys : List α) : lev (x :: xs) (y :: ys) = mn (mn (lev xs ys + if x = y then 0 else 1) (lev xs (y :: ys) + 1)) (lev (x :: xs) ys + 1) := by rw [lev]
theorem mn_comm (a b : Int) : mn a b = mn b a := by unfold mn; split <;> split <;> omega
theorem mn_le_left (a b : Int) : mn a b ≤ a := by unfold mn; split <;> omega
theorem mn_le_right (a b : Int) : mn a b ≤ b := by unfold mn; split <;> omega
theorem le_mn {a b c : Int} (h : c ≤ a) (k : c ≤ b) : c ≤ mn a b := by unfold mn; split <;> omega
theorem mn_cases (a b : Int) : mn a b = a ∨ mn a b = b := by unfold mn; split <;> simp

theorem lev_symm : ∀ (n : Nat) (xs ys : List α), xs.length + ys.length ≤ n → lev xs ys = lev ys xs
  | n, [], ys, _ => by rw [lev_nil_left, lev_nil_right]
  | n, x :: xs, [], _ => by rw [lev_nil_left, lev_nil_right]
  | 0, x :: xs, y :: ys, h => by simp at h
  | n + 1, x :: xs, y :: ys, h => by
    simp only [List.length_cons] at h
    rw [lev_cons, lev_cons, lev_symm n xs ys (by omega), lev_symm n xs (y :: ys) (by simp; omega), lev_symm n (x :: xs) ys (by simp; omega)]
    have e : (if x = y then (0 : Int) else 1) = if y = x then 0 else 1 := by simp only [eq_comm]
    rw [e]
    unfold mn
    repeat' split
    all_goals omega
theorem lev_comm (xs ys : List α) : lev xs ys = lev ys xs := lev_symm _ xs ys (Nat.le_refl _)

theorem lev_cons_le (x : α) (xs ys : List α) : lev (x :: xs) ys ≤ lev xs ys + 1 := by
  cases ys with
  | nil => simp [lev_nil_right]
  | cons y ys => rw [lev_cons]; exact Int.le_trans (mn_le_left _ _) (mn_le_right _ _)
theorem lev_le_cons (y : α) (xs ys : List α) : lev xs (y :: ys) ≤ lev xs ys + 1 := by
  rw [lev_comm xs, lev_comm xs]; exact lev_cons_le y ys xs
theorem lev_cons_cons_le (x y : α) (xs ys : List α) : lev (x :: xs) (y :: ys) ≤ lev xs ys + if x = y then 0 else 1 := by
  rw [lev_cons]; exact Int.le_trans (mn_le_left _ _) (mn_le_left _ _)

theorem lev_nonneg : ∀ (n : Nat) (xs ys : List α), xs.length + ys.length ≤ n → 0 ≤ lev xs ys
  | n, [], ys, _ => by rw [lev_nil_left]; omega
  | n, x :: xs, [], _ => by rw [lev_nil_right]; omega
  | 0, x :: xs, y :: ys, h => by simp at h
  | n + 1, x :: xs, y :: ys, h => by
    simp only [List.length_cons] at h
    rw [lev_cons]
    have h1 := lev_nonneg n xs ys (by omega)
    have h2 := lev_nonneg n xs (y :: ys) (by simp; omega)
    have h3 := lev_nonneg n (x :: xs) ys (by simp; omega)
    exact le_mn (le_mn (by split <;> omega) (by omega)) (by omega)
theorem lev_ge (xs ys : List α) : 0 ≤ lev xs ys := lev_nonneg _ xs ys (Nat.le_refl _)

theorem lev_len_le (ys zs : List α) : (zs.length : Int) ≤ ys.length + lev ys zs := by
  induction ys generalizing zs with
  | nil => rw [lev_nil_left]; simp
  | cons y ys ih =>
    induction zs with
    | nil => have := lev_ge (y :: ys) ([] : List α); simp; omega
    | cons z zs ihz =>
      rw [lev_cons]
      have h1 := ih zs
      have h2 := ih (z :: zs)
      simp only [List.length_cons] at h2 ihz ⊢
      rcases mn_cases (mn (lev ys zs + if y = z then 0 else 1) (lev ys (z :: zs) + 1)) (lev (y :: ys) zs + 1) with e | e
      · rcases mn_cases (lev ys zs + if y = z then 0 else 1) (lev ys (z :: zs) + 1) with e' | e'
        · have : 0 ≤ (if y = z then (0 : Int) else 1) := by split <;> omega
          rw [e, e']; push_cast; omega
        · rw [e, e']; push_cast at h2 ⊢; omega
      · rw [e]; push_cast at ihz ⊢; omega
theorem lev_max_le (xs zs : List α) : lev xs zs ≤ xs.length + zs.length := by
  induction xs with
  | nil => rw [lev_nil_left]; simp
  | cons x xs ih => have := lev_cons_le x xs zs; simp only [List.length_cons]; push_cast; omega

theorem lev_triangle : ∀ (n : Nat) (xs ys zs : List α), xs.length + ys.length + zs.length ≤ n → lev xs zs ≤ lev xs ys + lev ys zs
  | n, [], ys, zs, _ => by
    rw [lev_nil_left, lev_nil_left]
    exact lev_len_le ys zs
  | n, xs, ys, [], _ => by
    rw [lev_nil_right, lev_nil_right, lev_comm xs ys]
    have := lev_len_le ys xs
    omega
  | n, xs, [], zs, _ => by
    rw [lev_nil_left, lev_nil_right]
    exact lev_max_le xs zs
  | 0, x :: xs, y :: ys, z :: zs, h => by simp at h
  | n + 1, x :: xs, y :: ys, z :: zs, h => by
    simp only [List.length_cons] at h
    have t1 := lev_triangle n xs ys zs (by omega)
    have t2 := lev_triangle n xs (y :: ys) (z :: zs) (by simp; omega)
    have t3 := lev_triangle n (x :: xs) ys (z :: zs) (by simp; omega)
    have t4 := lev_triangle n (x :: xs) (y :: ys) zs (by simp; omega)
    have c1 := lev_cons_cons_le x z xs zs
    have c2 := lev_cons_le x xs (z :: zs)
    have c3 := lev_le_cons z (x :: xs) zs
    have hx : (if x = z then (0 : Int) else 1) ≤ (if x = y then 0 else 1) + if y = z then 0 else 1 := by
      by_cases h1 : x = y
      · subst h1; simp
      · rw [if_neg h1]; split <;> split <;> omega
    have e1 := lev_cons x y xs ys
    have e2 := lev_cons y z ys zs
    rcases mn_cases (mn (lev xs ys + if x = y then 0 else 1) (lev xs (y :: ys) + 1)) (lev (x :: xs) ys + 1) with h1 | h1
    · rcases mn_cases (lev xs ys + if x = y then 0 else 1) (lev xs (y :: ys) + 1) with h2 | h2
      · rcases mn_cases (mn (lev ys zs + if y = z then 0 else 1) (lev ys (z :: zs) + 1)) (lev (y :: ys) zs + 1) with h3 | h3
        · rcases mn_cases (lev ys zs + if y = z then 0 else 1) (lev ys (z :: zs) + 1) with h4 | h4
          · omega
          · have t5 := lev_triangle n xs ys (z :: zs) (by simp; omega)
            have : 0 ≤ (if x = y then (0 : Int) else 1) := by split <;> omega
            omega
        · omega
      · omega
    · rcases mn_cases (mn (lev ys zs + if y = z then 0 else 1) (lev ys (z :: zs) + 1)) (lev (y :: ys) zs + 1) with h3 | h3
      · rcases mn_cases (lev ys zs + if y = z then 0 else 1) (lev ys (z :: zs) + 1) with h4 | h4
        · have t6 := lev_triangle n (x :: xs) ys zs (by simp; omega)
          have : 0 ≤ (if y = z then (0 : Int) else 1) := by split <;> omega
          omega
        · omega
      · omega
theorem lev_tri (xs ys zs : List α) : lev xs zs ≤ lev xs ys + lev ys zs := lev_triangle _ xs ys zs (Nat.le_refl _)
theorem lev_len (ys zs : List α) : (zs.length : Int) ≤ ys.length + lev ys zs := lev_len_le ys zs
theorem lev_max : ∀ (n : Nat) (xs ys : List α), xs.length + ys.length ≤ n → lev xs ys ≤ max xs.length ys.length
  | n, [], ys, _ => by rw [lev_nil_left]; omega
  | n, x :: xs, [], _ => by rw [lev_nil_right]; omega
  | 0, x :: xs, y :: ys, h => by simp at h
  | n + 1, x :: xs, y :: ys, h => by
    simp only [List.length_cons] at h ⊢
    have h1 := lev_max n xs ys (by omega)
    have h2 := lev_cons_cons_le x y xs ys
    have : (if x = y then (0 : Int) else 1) ≤ 1 := by split <;> omega
    omega
theorem lev_self (xs : List α) : lev xs xs = 0 := by
  induction xs with
  | nil => rw [lev_nil_left]; rfl
  | cons x xs ih =>
    have h1 := lev_cons_cons_le x x xs xs
    have h2 := lev_ge (x :: xs) (x :: xs)
    rw [if_pos rfl, ih] at h1
    omega
theorem lev_eq : ∀ (n : Nat) (xs ys : List α), xs.length + ys.length ≤ n → lev xs ys = 0 → xs = ys
  | n, [], ys, _, h => by rw [lev_nil_left] at h; exact (List.eq_nil_of_length_eq_zero (by omega)).symm
  | n, x :: xs, [], _, h => by rw [lev_nil_right] at h; simp at h; omega
  | 0, x :: xs, y :: ys, hl, h => by simp at hl
  | n + 1, x :: xs, y :: ys, hl, h => by
    simp only [List.length_cons] at hl
    rw [lev_cons] at h
    have g1 := lev_ge xs ys
    have g2 := lev_ge xs (y :: ys)
    have g3 := lev_ge (x :: xs) ys
    rcases mn_cases (mn (lev xs ys + if x = y then 0 else 1) (lev xs (y :: ys) + 1)) (lev (x :: xs) ys + 1) with e | e
    · rcases mn_cases (lev xs ys + if x = y then 0 else 1) (lev xs (y :: ys) + 1) with e' | e'
      · rw [e, e'] at h
        by_cases hxy : x = y
        · rw [if_pos hxy] at h
          rw [hxy, lev_eq n xs ys (by omega) (by omega)]
        · rw [if_neg hxy] at h; omega
      · omega
    · omega

/-- The same head. -/
theorem lev_same (c : α) (xs ys : List α) : lev (c :: xs) (c :: ys) = lev xs ys := by
  have h := lev_cons c c xs ys
  rw [if_pos rfl] at h
  have h1 := lev_le_cons c xs ys
  have h2 : lev xs ys ≤ lev xs (c :: ys) + 1 := by
    have := lev_tri xs (c :: ys) ys
    have k : lev (c :: ys) ys ≤ 1 := by
      have := lev_cons_le c ys ys
      rw [lev_self] at this; omega
    omega
  have h3 : lev xs ys ≤ lev (c :: xs) ys + 1 := by
    have := lev_tri xs (c :: xs) ys
    have k : lev xs (c :: xs) ≤ 1 := by
      have := lev_le_cons c xs xs
      rw [lev_self] at this; omega
    omega
  rw [h]
  unfold mn
  repeat' split
  all_goals omega
theorem lev_one (c : α) (zs : List α) : lev [c] (zs ++ [c]) = zs.length := by
  induction zs with
  | nil => exact lev_self _
  | cons y ys ih =>
    simp only [List.cons_append, List.length_cons] at ih ⊢
    rw [lev_cons, lev_nil_left, lev_nil_left, ih]
    simp only [List.length_cons, List.length_append, List.length_nil]
    unfold mn
    repeat' split
    all_goals omega
/-- The same last. -/
theorem lev_snoc (c : α) : ∀ (n : Nat) (xs ys : List α), xs.length + ys.length ≤ n → lev (xs ++ [c]) (ys ++ [c]) = lev xs ys
  | n, [], ys, _ => by rw [lev_nil_left, List.nil_append]; exact lev_one c ys
  | n, x :: xs, [], _ => by
    rw [lev_comm, lev_nil_right, List.nil_append]
    exact lev_one c (x :: xs)
  | 0, x :: xs, y :: ys, h => by simp at h
  | n + 1, x :: xs, y :: ys, h => by
    simp only [List.length_cons] at h
    simp only [List.cons_append]
    rw [lev_cons, lev_cons]
    have h1 := lev_snoc c n xs ys (by omega)
    have h2 := lev_snoc c n xs (y :: ys) (by simp; omega)
    have h3 := lev_snoc c n (x :: xs) ys (by simp; omega)
    simp only [List.cons_append] at h2 h3
    rw [h1, h2, h3]
end
end Go.Proofs.Ytemdinjiplglgaa

namespace Go.Proofs.Ytemdinjiplglgaa
open Go.RowKit
set_option linter.unusedVariables false
set_option linter.unusedSimpArgs false

def rd (xs : List Int) (i : Nat) : Int := xs.getD i 0

/-- The next row's first k + 1 numbers. -/
def stepRow (a b : ByteArray) (i : Nat) (row : List Int) : Nat → List Int
  | 0 => [(i : Int) + 1]
  | k + 1 => stepRow a b i row k ++ [mn (mn (if bt a i = bt b k then rd row k else rd row k + 1) (rd row (k + 1) + 1)) (rd (stepRow a b i row k) k + 1)]
def rowAt (a b : ByteArray) : Nat → List Int
  | 0 => (List.range (b.size + 1)).map fun (k : Nat) => (k : Int)
  | i + 1 => stepRow a b i (rowAt a b i) b.size
def cutS (s : ByteArray) : ByteArray := s.extract 0 (min s.size 200)
def dist (a b : ByteArray) : Int := rd (rowAt a b a.size) b.size
def ints (xs : List Int) : Array Value := (xs.map fun x => Value.int .i64 x).toArray

set_option maxHeartbeats 1000000 in
set_option maxRecDepth 100000 in
theorem short_calls (s : ByteArray) (w : World) : Calls Try.prog 66 #[.string s] w fun e w' => e = .returned (.string (cutS s)) ∧ w = w' := by
  have h0 : 0 ≤ mn (s.size : Int) 200 := by unfold mn; split <;> omega
  have h1 : mn (s.size : Int) 200 ≤ (s.size : Int) := by unfold mn; split <;> omega
  have h2 : (mn (s.size : Int) 200).toNat = min s.size 200 := by unfold mn; split <;> omega
  have H := Lib.hid h2
  clear h2
  go_enter Try.func66, Try.ntmps66
  go_wp2
  go_ret
  exact ⟨ret_str (by unfold cutS; rw [H.out]), rfl⟩

theorem cutS_size (s : ByteArray) : (cutS s).size ≤ 200 := by unfold cutS; simp; omega
theorem info_int : (Try.prog.info? 3).map (fun i => (i.zero, i.size, i.bytes)) = some (some (.int .i64 0), 1, 8) := by kernel_rfl

/-- Two rows of the call's own, each a block that is known whole; what was there before is as it was. -/
structure Two (w W : World) (g1 g2 : Nat) (xs ys : List Int) : Prop where
  b1 : w.heap.size ≤ g1
  b2 : w.heap.size ≤ g2
  ne : g1 ≠ g2
  h1 : W.heap[g1]? = some (.cells (ints xs) 3 (0, 0))
  h2 : W.heap[g2]? = some (.cells (ints ys) 3 (0, 0))
  below : Below w.heap.size w W
theorem Two.swap {w W : World} {g1 g2 : Nat} {xs ys : List Int} (h : Two w W g1 g2 xs ys) : Two w W g2 g1 ys xs := ⟨h.b2, h.b1, h.ne.symm, h.h2, h.h1, h.below⟩
theorem Two.drewN {w W : World} {g1 g2 : Nat} {xs ys : List Int} (h : Two w W g1 g2 xs ys) (n : Nat) : Two w (W.drewN n) g1 g2 xs ys := ⟨h.b1, h.b2, h.ne, h.h1, h.h2, below_drewN h.below n⟩
theorem ints_get {xs : List Int} {i : Nat} (h : i < xs.length) : (ints xs)[i]? = some (.int .i64 (rd xs i)) := by
  simp [ints, rd, h]
theorem Two.cell {w W : World} {g1 g2 : Nat} {xs ys : List Int} (h : Two w W g1 g2 xs ys) {i : Nat} (hi : i < xs.length) : W.cell? ⟨g1, i, none⟩ = some (.int .i64 (rd xs i)) := by
  rw [cell_of_row W g1 i (ints xs) 3 (0, 0) h.h1]; exact ints_get hi
theorem Two.free {w W : World} {g1 g2 : Nat} {xs ys : List Int} (h : Two w W g1 g2 xs ys) (i : Nat) : W.frozen? ⟨g1, i, none⟩ = false := by simp [World.frozen?, h.h1]
theorem blk_setA {w : World} {g : Nat} {t : TypeId} {cs : Array Value} (h : w.heap[g]? = some (.cells cs t (0, 0))) (i : Nat) (u : Value) : (w.setCell ⟨g, i, none⟩ u).heap[g]? = some (.cells (cs.setIfInBounds i u) t (0, 0)) := by
  have hlt : g < w.heap.size := (Array.getElem?_eq_some_iff.1 h).1
  have h' : w.heap[g] = .cells cs t (0, 0) := (Array.getElem?_eq_some_iff.1 h).2
  show (w.heap.modify g _)[g]? = _
  rw [Array.getElem?_eq_getElem (by simpa using hlt), Array.getElem_modify_self, h']
  rfl
theorem Two.set {w W : World} {g1 g2 : Nat} {xs ys : List Int} (h : Two w W g1 g2 xs ys) (i : Nat) (v : Int) : Two w (W.setCell ⟨g1, i, none⟩ (.int .i64 v)) g1 g2 (xs.set i v) ys := by
  refine ⟨h.b1, h.b2, h.ne, ?_, ?_, h.below.setCell h.b1 _⟩
  · rw [blk_setA h.h1]
    congr 2
    simp only [ints, List.map_set, List.setIfInBounds_toArray]
  · rw [Below.heap_setCell _ _ _ _ (fun e => h.ne e.symm)]; exact h.h2
theorem Two.sets {w : World} {g1 g2 : Nat} {ys : List Int} : ∀ (zs : List Int) (W : World) (xs : List Int) (o : Nat), Two w W g1 g2 xs ys → ∃ xs', Two w (W.setCells g1 o (zs.map fun z => .int .i64 z)) g1 g2 xs' ys ∧ xs'.length = xs.length ∧ (∀ j, j < o → rd xs' j = rd xs j) ∧ ∀ j, o ≤ j → j < xs.length → j < o + zs.length → rd xs' j = rd zs (j - o)
  | [], W, xs, o, h => ⟨xs, h, rfl, fun _ _ => rfl, fun j h1 _ h2 => by simp at h2; omega⟩
  | z :: r, W, xs, o, h => by
    obtain ⟨xs', h1, h2, h3, h4⟩ := Two.sets r _ _ (o + 1) (h.set o z)
    refine ⟨xs', h1, by simpa using h2, fun j hj => ?_, fun j hj hl hl2 => ?_⟩
    · rw [h3 j (by omega)]; simp [rd, List.getElem?_set, show o ≠ j by omega]
    · by_cases e : j = o
      · subst e
        rw [h3 _ (by omega)]; simp [rd, List.getElem?_set, hl]
      · rw [h4 j (by omega) (by simpa using hl) (by simp at hl2; omega)]
        obtain ⟨q, rfl⟩ : ∃ q, j = o + 1 + q := ⟨j - o - 1, by omega⟩
        simp [rd, show o + 1 + q - o = q + 1 by omega]
theorem rd_ext {xs ys : List Int} (hl : xs.length = ys.length) (h : ∀ j, j < xs.length → rd xs j = rd ys j) : xs = ys := by
  apply List.ext_getElem hl
  intro i h1 h2
  have := h i h1
  simpa [rd, h1, h2] using this
/-- clear(next). -/
theorem Two.clear {w W : World} {g1 g2 n : Nat} {xs ys : List Int} (h : Two w W g1 g2 xs ys) (hl : xs.length = n + 1) (ty : TypeId) :
    ∃ W', (Builtin.clear_ #[95] ty #[.slice (some ⟨g1, 0, none⟩) (n + 1) (n + 1)]).run Try.prog W = .ok (.tuple #[]) W' ∧ Two w W' g1 g2 (List.replicate (n + 1) 0) ys := by
  refine ⟨_, Lib.run_clear_slice W 95 3 ty (.int .i64 0) Try.underlying95 (fun w => by kernel_rfl) rfl rfl g1 0 (n + 1) (n + 1) (by omega) (fun j hj => ?_) (fun j _ => ?_), ?_⟩
  · rw [Nat.zero_add, h.cell (by omega)]; rfl
  · exact h.free _
  · obtain ⟨xs', h1, h2, _, h4⟩ := Two.sets (List.replicate (n + 1) 0) W xs 0 h
    have e : xs' = List.replicate (n + 1) 0 := rd_ext (by rw [h2, hl]; simp) (fun j hj => by
      have hj' : j < n + 1 := by omega
      rw [h4 j (Nat.zero_le _) (by omega) (by simp; omega)]; simp [rd])
    rw [e] at h1
    simpa using h1

/-- The first row while it is filled. -/
def iota (m k : Nat) : List Int := (List.range (m + 1)).map fun (j : Nat) => if j < k then (j : Int) else 0
theorem iota_length (m k : Nat) : (iota m k).length = m + 1 := by simp [iota]
theorem iota_zero (m : Nat) : iota m 0 = List.replicate (m + 1) 0 := by
  apply List.ext_getElem <;> simp [iota]
theorem iota_set (m k : Nat) (h : k < m + 1) : (iota m k).set k (k : Int) = iota m (k + 1) := by
  apply List.ext_getElem
  · simp [iota]
  · intro i h1 h2
    simp only [iota, List.getElem_set, List.getElem_map, List.getElem_range]
    split
    · rename_i e; subst e; simp
    · rename_i e
      split <;> split <;> first | rfl | omega
theorem iota_all (a b : ByteArray) : iota b.size (b.size + 1) = rowAt a b 0 := by
  apply List.ext_getElem
  · simp [iota, rowAt]
  · intro i h1 h2
    simp only [iota, List.length_map, List.length_range] at h1
    simp [iota, rowAt, h1]

theorem stepRow_length (a b : ByteArray) (i : Nat) (row : List Int) : ∀ k, (stepRow a b i row k).length = k + 1
  | 0 => rfl
  | k + 1 => by simp [stepRow, stepRow_length a b i row k]
theorem rowAt_length (a b : ByteArray) : ∀ i, (rowAt a b i).length = b.size + 1
  | 0 => by simp [rowAt]
  | i + 1 => stepRow_length ..
/-- The next row while it is filled. -/
def part (a b : ByteArray) (i : Nat) (row : List Int) (k : Nat) : List Int := stepRow a b i row k ++ List.replicate (b.size - k) 0
theorem part_length (a b : ByteArray) (i : Nat) (row : List Int) (k : Nat) (h : k ≤ b.size) : (part a b i row k).length = b.size + 1 := by
  simp [part, stepRow_length]; omega
theorem part_zero (a b : ByteArray) (i : Nat) (row : List Int) : (List.replicate (b.size + 1) (0 : Int)).set 0 ((i : Int) + 1) = part a b i row 0 := by
  simp [part, stepRow, List.replicate_succ]
theorem part_rd (a b : ByteArray) (i : Nat) (row : List Int) (k : Nat) : rd (part a b i row k) k = rd (stepRow a b i row k) k := by
  simp [rd, part, List.getElem?_append, stepRow_length]
theorem part_set (a b : ByteArray) (i : Nat) (row : List Int) (k : Nat) (h : k < b.size) (v : Int)
    (hv : v = mn (mn (if bt a i = bt b k then rd row k else rd row k + 1) (rd row (k + 1) + 1)) (rd (part a b i row k) k + 1)) : (part a b i row k).set (k + 1) v = part a b i row (k + 1) := by
  rw [part_rd] at hv
  subst hv
  have e : List.replicate (b.size - k) (0 : Int) = 0 :: List.replicate (b.size - (k + 1)) 0 := by
    rw [show b.size - k = (b.size - (k + 1)) + 1 by omega, List.replicate_succ]
  unfold part
  rw [e, List.set_append]
  simp [stepRow_length, stepRow]
theorem part_all (a b : ByteArray) (i : Nat) : part a b i (rowAt a b i) b.size = rowAt a b (i + 1) := by simp [part, rowAt]
theorem mn_bd {a b : Int} (ha : 0 ≤ a) (hb : 0 ≤ b) {c : Int} (h : a ≤ c ∨ b ≤ c) : 0 ≤ mn a b ∧ mn a b ≤ c := by
  unfold mn; split <;> omega
theorem rd_snoc (xs : List Int) (v : Int) (j : Nat) : rd (xs ++ [v]) j = if j = xs.length then v else rd xs j := by
  simp only [rd, List.getD_eq_getElem?_getD, List.getElem?_append]
  split
  · rw [if_neg (by omega)]
  · split
    · rename_i h; simp [h]
    · rw [List.getElem?_eq_none (by simp; omega), List.getElem?_eq_none (by omega)]
theorem step_bd (a b : ByteArray) (i m : Nat) (row : List Int) (h : ∀ j, j ≤ m → 0 ≤ rd row j ∧ rd row j ≤ (i : Int) + j) : ∀ k, k ≤ m → ∀ j, j ≤ k → 0 ≤ rd (stepRow a b i row k) j ∧ rd (stepRow a b i row k) j ≤ (i : Int) + 1 + j
  | 0, _, j, hj => by
    obtain rfl : j = 0 := by omega
    simp [stepRow, rd]; omega
  | k + 1, hk, j, hj => by
    have ih := step_bd a b i m row h k (by omega)
    simp only [stepRow]
    rw [rd_snoc, stepRow_length]
    split
    · rename_i e
      subst e
      have h1 := h k (by omega)
      have h2 := h (k + 1) (by omega)
      have h3 := ih k (by omega)
      refine mn_bd ?_ (by omega) (.inr (by omega))
      refine (mn_bd (c := (i : Int) + (k + 1) + 1) ?_ (by omega) (.inr (by omega))).1
      split <;> omega
    · exact ih j (by omega)
theorem row_bd (a b : ByteArray) : ∀ i j, j ≤ b.size → 0 ≤ rd (rowAt a b i) j ∧ rd (rowAt a b i) j ≤ (i : Int) + j
  | 0, j, hj => by
    have : rd (rowAt a b 0) j = j := by simp [rd, rowAt, show j < b.size + 1 by omega]
    rw [this]; omega
  | i + 1, j, hj => by
    have h := step_bd a b i b.size (rowAt a b i) (row_bd a b i) b.size (Nat.le_refl _) j hj
    simp only [rowAt]
    exact ⟨h.1, by have := h.2; omega⟩
theorem part_bd (a b : ByteArray) (i k : Nat) (hk : k ≤ b.size) : 0 ≤ rd (part a b i (rowAt a b i) k) k ∧ rd (part a b i (rowAt a b i) k) k ≤ (i : Int) + 1 + k := by
  rw [part_rd]
  exact step_bd a b i b.size (rowAt a b i) (row_bd a b i) k hk k (Nat.le_refl _)

theorem made_ints (m : Nat) : madeCells #[.int .i64 0] (m + 1) = ints (List.replicate (m + 1) 0) := by
  apply Array.ext
  · simp [madeCells, ints]
  · intro i h1 h2
    simp [madeCells, ints, Nat.mod_one]
theorem two_made (w : World) (m : Nat) : Two w ((w.alloc (.cells (madeCells #[.int .i64 0] (m + 1)) 3)).alloc (.cells (madeCells #[.int .i64 0] (m + 1)) 3)) w.heap.size (w.heap.size + 1) (List.replicate (m + 1) 0) (List.replicate (m + 1) 0) := by
  rw [made_ints]
  refine ⟨Nat.le_refl _, by omega, by omega, ?_, ?_, ((Below.refl _ _).alloc (Nat.le_refl _) _).alloc (by simp) _⟩
  · rw [Below.heap_alloc _ _ _ (by simp)]; exact heap_alloc_new w _
  · have := heap_alloc_new (w.alloc (.cells (ints (List.replicate (m + 1) 0)) 3)) (.cells (ints (List.replicate (m + 1) 0)) 3)
    simpa using this

set_option maxHeartbeats 1000000 in
set_option maxRecDepth 100000 in
theorem apart_calls (a b : ByteArray) (w : World) :
    Calls Try.prog 46 #[.string a, .string b] w fun e w' => e = .returned (.int .i64 (dist (cutS a) (cutS b))) ∧ Below w.heap.size w w' := by
  have HA := cutS_size a
  have HB := cutS_size b
  have ha := fun W => short_calls a W
  have hb := fun W => short_calls b W
  generalize cutS a = A at *
  generalize cutS b = B at *
  have Ha := Lib.hid ha
  have Hb := Lib.hid hb
  clear ha hb
  obtain ⟨n, hn⟩ : ∃ n, n = A.size := ⟨_, rfl⟩
  obtain ⟨m, hm⟩ : ∃ m, m = B.size := ⟨_, rfl⟩
  have hmk := run_make_row' (P := Try.prog) 95 3 (.int .i64 0) 8 Try.underlying95 info_int rfl .i64 .i64 (B.size + 1) (by omega) (by omega)
  have ec : ((B.size + 1 : Nat) : Int) = (B.size : Int) + 1 := by omega
  rw [ec] at hmk
  clear ec hm hn
  go_enter Try.func46, Try.ntmps46
  go_wp2_with fail
  refine (Ha.out _).mono ?_
  rintro e w1 ⟨rfl, rfl⟩
  go_wp2_with fail
  refine (Hb.out _).mono ?_
  rintro e w1 ⟨rfl, rfl⟩
  go_upto_region 2 with fail
  go_cut [5, 6] (fun r n W => ∃ g1 g2, r = .slice (some ⟨g1, 0, none⟩) (B.size + 1) (B.size + 1) ∧ n = .slice (some ⟨g2, 0, none⟩) (B.size + 1) (B.size + 1) ∧ Two w W g1 g2 (List.replicate (B.size + 1) 0) (List.replicate (B.size + 1) 0))
  case first =>
    go_region
    all_goals go_wp2
    all_goals go_meet
    · exact ⟨w.heap.size, w.heap.size + 1, rfl, rfl, (two_made w B.size).drewN 1⟩
    · exact ⟨w.heap.size + 1, w.heap.size, rfl, rfl, ((two_made w B.size).drewN 1).swap⟩
  case rest =>
    obtain ⟨g1, g2, rfl, rfl, HT⟩ := hcut
    clear hmk
    rw [← iota_zero] at HT
    go_wp2
    go_loopw [25] (fun i W => ∃ k : Nat, i = .int .i64 k ∧ k ≤ B.size + 1 ∧ Two w W g1 g2 (iota B.size k) (iota B.size 0)) (fun i _ => B.size + 1 - (intOf i).toNat)
    case atStart => exact ⟨0, rfl, by omega, HT⟩
    case round =>
      clear HT
      obtain ⟨k, rfl, hk, HT⟩ := hrel
      by_cases hlt : k < B.size + 1
      · have hc := HT.cell (i := k) (by rw [iota_length]; omega)
        have hf := HT.free k
        go_wp2
        go_roundw
        case measure => simp [intOf]; omega
        case rel => exact ⟨k + 1, by go_num, by omega, by rw [← iota_set _ _ hlt]; exact HT.set k k⟩
      · obtain rfl : k = B.size + 1 := by omega
        rw [iota_all A B, iota_zero] at HT
        clear hk hlt
        go_wp2
        go_loopw [5, 6, 35] (fun r n i W => ∃ (k g1 g2 : Nat) (ys : List Int), i = .int .i64 k ∧ k ≤ A.size ∧ r = .slice (some ⟨g1, 0, none⟩) (B.size + 1) (B.size + 1) ∧ n = .slice (some ⟨g2, 0, none⟩) (B.size + 1) (B.size + 1) ∧ ys.length = B.size + 1 ∧ Two w W g1 g2 (rowAt A B k) ys) (fun _ _ i _ => A.size - (intOf i).toNat)
        case atStart => exact ⟨0, g1, g2, _, rfl, by omega, rfl, rfl, by simp, HT⟩
        case round =>
          clear HT
          obtain ⟨k, g1, g2, ys, rfl, hk, rfl, rfl, hy, HT⟩ := hrel
          by_cases hlt : k < A.size
          · obtain ⟨W1, hcl, HT1⟩ := HT.swap.clear hy 0
            have hc1 := HT1.cell (i := 0) (by simp)
            have hf1 := HT1.free 0
            have HT2 := HT1.set 0 ((k : Int) + 1)
            rw [part_zero A B k (rowAt A B k)] at HT2
            have Hy := Lib.hid hy
            clear hy HT HT1
            go_wp2
            go_loopw [45] (fun i W => ∃ j : Nat, i = .int .i64 j ∧ j ≤ B.size ∧ Two w W g2 g1 (part A B k (rowAt A B k) j) (rowAt A B k)) (fun i _ => B.size - (intOf i).toNat)
            case atStart => exact ⟨0, rfl, by omega, HT2⟩
            case round =>
              clear HT2 hcl hc1 hf1
              obtain ⟨j, rfl, hj, HT⟩ := hrel
              by_cases hlj : j < B.size
              · have hr1 := HT.swap.cell (i := j) (by rw [rowAt_length]; omega)
                have hr2 := HT.swap.cell (i := j + 1) (by rw [rowAt_length]; omega)
                have hn1 := HT.cell (i := j) (by rw [part_length _ _ _ _ _ hj]; omega)
                have hn2 := HT.cell (i := j + 1) (by rw [part_length _ _ _ _ _ hj]; omega)
                have hf := HT.free (j + 1)
                have hba := bt_at A k hlt
                have hbb := bt_at B j hlj
                have hp := part_set A B k (rowAt A B k) j hlj
                have bd1 := row_bd A B k j hj
                have bd2 := row_bd A B k (j + 1) hlj
                have bd3 := part_bd A B k j hj
                have s1 := HT.set (j + 1) (mn (mn (rd (rowAt A B k) j) (rd (rowAt A B k) (j + 1) + 1)) (rd (part A B k (rowAt A B k) j) j + 1))
                have s2 := HT.set (j + 1) (mn (mn (rd (rowAt A B k) j + 1) (rd (rowAt A B k) (j + 1) + 1)) (rd (part A B k (rowAt A B k) j) j + 1))
                generalize rd (rowAt A B k) j = x at *
                generalize rd (rowAt A B k) (j + 1) = y at *
                generalize rd (part A B k (rowAt A B k) j) j = z at *
                generalize rd (part A B k (rowAt A B k) j) (j + 1) = u at *
                generalize part A B k (rowAt A B k) j = pr at *
                have Hp := Lib.hid hp
                clear hp
                by_cases hbt : bt A k = bt B j
                · have Hp2 : Hid (pr.set (j + 1) (mn (mn x (y + 1)) (z + 1)) = part A B k (rowAt A B k) (j + 1)) := Hp.out _ (by rw [if_pos hbt])
                  clear Hp s2
                  go_wp2
                  go_quiet (fail)
                  go_wp2
                  go_region
                  all_goals go_wp2
                  all_goals go_roundw
                  case measure => simp [intOf]; omega
                  case rel => exact ⟨j + 1, by go_num, by omega, by rw [← Hp2.out]; exact s1.drewN (nq + 1)⟩
                · have Hp2 : Hid (pr.set (j + 1) (mn (mn (x + 1) (y + 1)) (z + 1)) = part A B k (rowAt A B k) (j + 1)) := Hp.out _ (by rw [if_neg hbt])
                  have hbf : (bt A k == bt B j) = false := by simpa using hbt
                  have hbg : (bt A k != bt B j) = true := by simpa using hbt
                  clear Hp s1 hbt
                  go_wp2
                  go_quiet (fail)
                  go_wp2
                  go_region
                  all_goals go_wp2
                  all_goals go_roundw
                  case measure => simp [intOf]; omega
                  case rel => exact ⟨j + 1, by go_num, by omega, by rw [← Hp2.out]; exact s2.drewN (nq + 1)⟩
              · obtain rfl : j = B.size := by omega
                rw [part_all] at HT
                clear hlj hj
                go_wp2
                go_roundw
                case measure => simp [intOf]; omega
                case rel => exact ⟨k + 1, g2, g1, _, by go_num, by omega, rfl, rfl, rowAt_length _ _ _, HT⟩
          · obtain rfl : k = A.size := by omega
            have hc := HT.cell (i := B.size) (by rw [rowAt_length]; omega)
            have Hy := Lib.hid hy
            clear hy hlt hk
            go_wp2
            go_ret
            exact ⟨rfl, HT.below⟩

end Go.Proofs.Ytemdinjiplglgaa

namespace Go.Proofs.Ytemdinjiplglgaa

theorem bt_bl (s : ByteArray) (i : Nat) (h : i < s.size) : bt s i = ((bl s)[i]'(by rw [bl_length]; exact h)).toNat := by
  simp [bt, h, bl]
  rfl
theorem bt_eq (s t : ByteArray) (i j : Nat) (hi : i < s.size) (hj : j < t.size) : bt s i = bt t j ↔ (bl s)[i]'(by rw [bl_length]; exact hi) = (bl t)[j]'(by rw [bl_length]; exact hj) := by
  rw [bt_bl s i hi, bt_bl t j hj]
  constructor
  · intro h
    exact UInt8.toNat_inj.1 (by omega)
  · intro h; rw [h]
theorem take_rev (l : List UInt8) (i : Nat) (h : i < l.length) : (l.take (i + 1)).reverse = l[i] :: (l.take i).reverse := by
  rw [List.take_succ_eq_append_getElem h]; simp

theorem stepRow_lev (a b : ByteArray) (i : Nat) (hi : i < a.size) (row : List Int) (h : ∀ j, j ≤ b.size → rd row j = lev ((bl a).take i).reverse ((bl b).take j).reverse) :
    ∀ k, k ≤ b.size → ∀ j, j ≤ k → rd (stepRow a b i row k) j = lev ((bl a).take (i + 1)).reverse ((bl b).take j).reverse
  | 0, _, j, hj => by
    obtain rfl : j = 0 := by omega
    rw [List.take_zero, List.reverse_nil, lev_nil_right, List.length_reverse, List.length_take, bl_length, show min (i + 1) a.size = i + 1 by omega]
    simp [stepRow, rd]
  | k + 1, hk, j, hj => by
    have ih := stepRow_lev a b i hi row h k (by omega)
    simp only [stepRow]
    rw [rd_snoc, stepRow_length]
    split
    · rename_i e
      subst e
      rw [take_rev (bl a) i (by rw [bl_length]; exact hi), take_rev (bl b) k (by rw [bl_length]; omega), lev_cons, h k (by omega), h (k + 1) hk, ih k (Nat.le_refl _),
        take_rev (bl a) i (by rw [bl_length]; exact hi), take_rev (bl b) k (by rw [bl_length]; omega)]
      by_cases hb : bt a i = bt b k
      · rw [if_pos hb, if_pos ((bt_eq a b i k hi (by omega)).1 hb), Int.add_zero]
      · rw [if_neg hb, if_neg (fun hh => hb ((bt_eq a b i k hi (by omega)).2 hh))]
    · exact ih j (by omega)
theorem rowAt_lev (a b : ByteArray) : ∀ i, i ≤ a.size → ∀ j, j ≤ b.size → rd (rowAt a b i) j = lev ((bl a).take i).reverse ((bl b).take j).reverse
  | 0, _, j, hj => by
    rw [List.take_zero, List.reverse_nil, lev_nil_left, List.length_reverse, List.length_take, bl_length, show min j b.size = j by omega]
    simp [rd, rowAt, show j < b.size + 1 by omega]
  | i + 1, hi, j, hj => stepRow_lev a b i (by omega) _ (rowAt_lev a b i (by omega)) b.size (Nat.le_refl _) j hj
theorem dist_lev (a b : ByteArray) : dist a b = lev (bl a).reverse (bl b).reverse := by
  unfold dist
  rw [rowAt_lev a b a.size (Nat.le_refl _) b.size (Nat.le_refl _), ← bl_length a, ← bl_length b, List.take_length, List.take_length]

theorem dist_comm (a b : ByteArray) : dist a b = dist b a := by rw [dist_lev, dist_lev, lev_comm]
theorem dist_ge (a b : ByteArray) : 0 ≤ dist a b := by rw [dist_lev]; exact lev_ge _ _
theorem dist_le (a b : ByteArray) : dist a b ≤ max a.size b.size := by
  have := lev_max _ (bl a).reverse (bl b).reverse (Nat.le_refl _)
  simpa [dist_lev, bl_length] using this
theorem dist_len (a b : ByteArray) : (b.size : Int) ≤ a.size + dist a b := by
  have := lev_len (bl a).reverse (bl b).reverse
  simpa [dist_lev, bl_length] using this
theorem dist_tri (a b c : ByteArray) : dist a c ≤ dist a b + dist b c := by rw [dist_lev, dist_lev, dist_lev]; exact lev_tri _ _ _
theorem dist_self (a : ByteArray) : dist a a = 0 := by rw [dist_lev]; exact lev_self _
theorem dist_eq {a b : ByteArray} (h : dist a b = 0) : a = b := by
  rw [dist_lev] at h
  exact bl_inj (List.reverse_inj.1 (lev_eq _ _ _ (Nat.le_refl _) h))
theorem dist_pre (c a b : ByteArray) : dist (c ++ a) (c ++ b) = dist a b := by
  simp only [dist_lev, bl_append, List.reverse_append]
  generalize (bl a).reverse = x
  generalize (bl b).reverse = y
  induction (bl c) with
  | nil => simp
  | cons z zs ih =>
    rw [List.reverse_cons, ← List.append_assoc, ← List.append_assoc, lev_snoc z _ _ _ (Nat.le_refl _)]
    exact ih
theorem dist_post (c a b : ByteArray) : dist (a ++ c) (b ++ c) = dist a b := by
  simp only [dist_lev, bl_append, List.reverse_append]
  generalize (bl a).reverse = x
  generalize (bl b).reverse = y
  induction (bl c).reverse with
  | nil => simp
  | cons z zs ih => simp only [List.cons_append]; rw [lev_same]; exact ih
theorem dist_nil (a : ByteArray) : dist (⟨#[]⟩ : ByteArray) a = a.size := by
  rw [dist_lev]
  have : bl (⟨#[]⟩ : ByteArray) = [] := rfl
  rw [this, List.reverse_nil, lev_nil_left, List.length_reverse, bl_length]
end Go.Proofs.Ytemdinjiplglgaa

namespace Go.Proofs.Ytemdinjiplglgaa
open Go.RowKit
set_option linter.unusedVariables false
set_option linter.unusedSimpArgs false

def hasPt (s : ByteArray) : Bool := decide (0 ≤ lastAt s 46 s.size)
def tailS (s : ByteArray) : ByteArray := if hasPt s then s.extract (lastAt s 46 s.size).toNat s.size else ⟨#[]⟩

set_option maxHeartbeats 1000000 in
set_option maxRecDepth 100000 in
theorem end_calls (s : ByteArray) (w : World) (hs : s.size ≤ maxLen) :
    Calls Try.prog 67 #[.string s] w fun e w' => e = .returned (.tuple #[.string (tailS s), .bool (hasPt s)]) ∧ w = w' := by
  have hb := lastAt_bd s 46 s.size
  have hl := last_calls s 46 w hs
  have hm := hs
  unfold maxLen at hm
  by_cases h : 0 ≤ lastAt s 46 s.size
  · have e1 : tailS s = s.extract (lastAt s 46 s.size).toNat s.size := by simp [tailS, hasPt, h]
    have e2 : hasPt s = true := by simp [hasPt, h]
    rw [e1, e2]
    clear e1 e2
    generalize lastAt s 46 s.size = n at *
    obtain ⟨n, rfl⟩ := Int.eq_ofNat_of_zero_le h
    have Hl := Lib.hid hl
    clear hl
    go_enter Try.func67, Try.ntmps67
    go_wp2_with fail
    refine Hl.out.mono ?_
    rintro e w1 ⟨rfl, rfl⟩
    go_wp2
    go_ret2
    exact ⟨rfl, rfl⟩
  · have e1 : tailS s = ⟨#[]⟩ := by simp [tailS, hasPt, h]
    have e2 : hasPt s = false := by simp [hasPt, h]
    rw [e1, e2]
    clear e1 e2
    generalize lastAt s 46 s.size = n at *
    obtain rfl : n = -1 := by omega
    have Hl := Lib.hid hl
    clear hl
    go_enter Try.func67, Try.ntmps67
    go_wp2_with fail
    refine Hl.out.mono ?_
    rintro e w1 ⟨rfl, rfl⟩
    go_wp2
    go_ret2
    exact ⟨rfl, rfl⟩

theorem cutS_cut (s : ByteArray) : cutS (cutS s) = cutS s := by
  have h := cutS_size s
  generalize cutS s = t at *
  unfold cutS
  rw [show min t.size 200 = t.size by omega, extract_whole]

/-- What the two contents are worth without the ends. -/
def worth (a b : ByteArray) : Int := if mx a.size b.size = 0 then 1000 else 1000 * (mx a.size b.size - dist a b) / mx a.size b.size
def bonus (a b : ByteArray) : Bool := hasPt a && hasPt b && decide (tailS a = tailS b)
def scoreC (a b : ByteArray) : Int := if bonus a b then worth a b + 100 else worth a b
def scoreF (a b : ByteArray) : Int := scoreC (cutS a) (cutS b)

theorem mx_max (a b : Nat) : mx (a : Int) (b : Int) = max a b := by unfold mx; split <;> omega
theorem worth_bd (a b : ByteArray) : 0 ≤ worth a b ∧ worth a b ≤ 1000 := by
  unfold worth
  split
  · omega
  · rename_i h
    have h1 := dist_ge a b
    have h2 := dist_le a b
    rw [mx_max] at *
    generalize dist a b = d at *
    generalize hm : max a.size b.size = m at *
    have hm0 : 0 < (m : Int) := by omega
    have h3 : d ≤ (m : Int) := by omega
    refine ⟨Int.ediv_nonneg (by omega) (by omega), ?_⟩
    have := Int.ediv_le_ediv hm0 (show 1000 * ((m : Int) - d) ≤ 1000 * m by omega)
    rwa [Int.mul_ediv_cancel _ (by omega)] at this

set_option maxHeartbeats 1000000 in
set_option maxRecDepth 100000 in
theorem score_calls (a b : ByteArray) (w : World) :
    Calls Try.prog 34 #[.string a, .string b] w fun e w' => e = .returned (.int .i64 (scoreF a b)) ∧ Below w.heap.size w w' := by
  unfold scoreF
  have ha := fun W => short_calls a W
  have hb := fun W => short_calls b W
  have hd := fun W => apart_calls (cutS a) (cutS b) W
  rw [cutS_cut, cutS_cut] at hd
  have HA := cutS_size a
  have HB := cutS_size b
  generalize cutS a = A at *
  generalize cutS b = B at *
  have hx := fun W => end_calls A W (by simp [maxLen]; omega)
  have hy := fun W => end_calls B W (by simp [maxLen]; omega)
  have hw := worth_bd A B
  have d1 := dist_ge A B
  have d2 := dist_le A B
  have Ha := Lib.hid ha
  have Hb := Lib.hid hb
  have Hd := Lib.hid hd
  have Hx := Lib.hid hx
  have Hy := Lib.hid hy
  clear ha hb hd hx hy
  have hs : scoreC A B = if hasPt A && hasPt B && decide (tailS A = tailS B) then worth A B + 100 else worth A B := rfl
  have hwd : worth A B = if mx A.size B.size = 0 then 1000 else 1000 * (mx A.size B.size - dist A B) / mx A.size B.size := rfl
  have hm1 : 0 ≤ mx (A.size : Int) (B.size : Int) := by rw [mx_max]; omega
  have hm2 : mx (A.size : Int) (B.size : Int) ≤ 200 := by rw [mx_max]; omega
  have hm3 : dist A B ≤ mx (A.size : Int) (B.size : Int) := by rw [mx_max]; omega
  generalize scoreC A B = sc at *
  generalize worth A B = wo at *
  generalize dist A B = d at *
  generalize hmx : mx (A.size : Int) (B.size : Int) = m at *
  generalize hasPt A = p at *
  generalize hasPt B = q at *
  generalize tailS A = x at *
  generalize tailS B = y at *
  have hxy : (x = y ∧ (x.toList == y.toList) = true) ∨ (¬ x = y ∧ (x.toList == y.toList) = false) := by
    rw [str_eq]
    by_cases h : x = y
    · exact .inl ⟨h, by simp [h]⟩
    · exact .inr ⟨h, by simp [h]⟩
  clear d2
  by_cases hm0 : m = 0
  · subst hm0
    rw [if_pos rfl] at hwd
    subst hwd
    have Hs := Lib.hid hs
    clear hs
    cases p <;> cases q <;> rcases hxy with ⟨h1, h2⟩ | ⟨h1, h2⟩
    all_goals
      have Hs2 := Hs.out
      simp only [Bool.true_and, Bool.false_and, Bool.and_true, Bool.and_false, h1, decide_true, decide_false, if_true, if_false, Bool.false_eq_true] at Hs2
      replace Hs2 := Lib.hid Hs2
      clear Hs h1
      go_enter Try.func34, Try.ntmps34
      go_wp2_with fail
      refine (Ha.out _).mono ?_
      rintro e w1 ⟨rfl, rfl⟩
      go_wp2_with fail
      refine (Hb.out _).mono ?_
      rintro e w1 ⟨rfl, rfl⟩
      go_wp2_with fail
      refine (Hx.out _).mono ?_
      rintro e w1 ⟨rfl, rfl⟩
      go_wp2_with fail
      refine (Hy.out _).mono ?_
      rintro e w1 ⟨rfl, rfl⟩
      go_wp2
      go_ret
      exact ⟨ret_int Hs2.out.symm, by first | exact HBL | exact Below.refl _ _⟩
  · rw [if_neg hm0] at hwd
    have hq0 : 0 ≤ 1000 * (m - d) / m := by rw [← hwd]; exact hw.1
    have hq1 : 1000 * (m - d) / m ≤ 1000 := by rw [← hwd]; exact hw.2
    have hmp : 0 < m := by omega
    subst hwd
    clear hw
    have Hs := Lib.hid hs
    clear hs
    cases p <;> cases q <;> rcases hxy with ⟨h1, h2⟩ | ⟨h1, h2⟩
    all_goals
      have Hs2 := Hs.out
      simp only [Bool.true_and, Bool.false_and, Bool.and_true, Bool.and_false, h1, decide_true, decide_false, if_true, if_false, Bool.false_eq_true] at Hs2
      replace Hs2 := Lib.hid Hs2
      clear Hs h1
      go_enter Try.func34, Try.ntmps34
      go_wp2_with fail
      refine (Ha.out _).mono ?_
      rintro e w1 ⟨rfl, rfl⟩
      go_wp2_with fail
      refine (Hb.out _).mono ?_
      rintro e w1 ⟨rfl, rfl⟩
      go_wp2_with fail
      refine (Hd.out _).mono ?_
      rintro e w1 ⟨rfl, HBL⟩
      go_wp2_with fail
      refine (Hx.out _).mono ?_
      rintro e w1 ⟨rfl, rfl⟩
      go_wp2_with fail
      refine (Hy.out _).mono ?_
      rintro e w1 ⟨rfl, rfl⟩
      go_wp2
      go_ret
      exact ⟨ret_int Hs2.out.symm, by first | exact HBL | exact Below.refl _ _⟩
end Go.Proofs.Ytemdinjiplglgaa

namespace Go.Proofs.Ytemdinjiplglgaa
open Go.RowKit
set_option linter.unusedVariables false
set_option linter.unusedSimpArgs false

theorem awake_apart : dist (cutS ⟨#[107, 105, 116, 116, 101, 110]⟩) (cutS ⟨#[115, 105, 116, 116, 105, 110, 103]⟩) = 3 := by decide +kernel
theorem awake_score1 : scoreF ⟨#[97, 46, 116, 120, 116]⟩ ⟨#[98, 46, 116, 120, 116]⟩ = 900 := by decide +kernel
theorem awake_score2 : scoreF ⟨#[111, 108, 100, 46, 116, 120, 116]⟩ ⟨#[110, 101, 119, 46, 116, 120, 116]⟩ = 671 := by decide +kernel

set_option maxHeartbeats 1000000 in
theorem awake22_calls (w : World) : Calls Try.prog 17 #[] w fun e w' => e = .returned (.bool true) ∧ Below w.heap.size w w' := by
  go_enter Try.func17, Try.ntmps17
  go_wp2_with fail
  refine (apart_calls _ _ _).mono ?_
  rintro e w1 ⟨rfl, hb1⟩
  rw [awake_apart]
  go_wp2_with fail
  refine (score_calls _ _ _).mono ?_
  rintro e w2 ⟨rfl, hb2⟩
  rw [awake_score1]
  go_wp2_with fail
  refine (score_calls _ _ _).mono ?_
  rintro e w3 ⟨rfl, hb3⟩
  rw [awake_score2]
  go_wp2
  go_ret
  exact ⟨rfl, below_step (below_step hb1 hb2) hb3⟩
end Go.Proofs.Ytemdinjiplglgaa

namespace Go.Proofs.Ytemdinjiplglgaa

def scoreB (a b : Bytes) : Int := scoreF (mkS a) (mkS b)
def Fs.isFile (T : Fs) (s : Bytes) : Bool := decide ((T.stat s).2 = 0) && decide ((T.stat s).1.kind = 1)
def beside (p x : Bytes) : Bytes := if parent p = [] then x else parent p ++ 47 :: x
def betterOf (ok : Bytes → Bool) (nm : Bytes → Bytes) (sc : Bytes → Int) (b : Bytes × Int) (x : Bytes) : Bytes × Int := if b.2 < sc x ∧ ok (nm x) = true then (nm x, sc x) else b
def bestOf (ok : Bytes → Bool) (nm : Bytes → Bytes) (sc : Bytes → Int) (l : List Bytes) : Bytes × Int := l.foldl (betterOf ok nm sc) ([], 499)
def Fs.better (T : Fs) (p : Bytes) (b : Bytes × Int) (x : Bytes) : Bytes × Int := betterOf T.isFile (beside p) (fun x => scoreB x (base p)) b x
def Fs.best (T : Fs) (p : Bytes) (l : List Bytes) : Bytes × Int := bestOf T.isFile (beside p) (fun x => scoreB x (base p)) l
def Fs.choose (T : Fs) (p q : Bytes) (fuzzy : Bool) : Bytes × Bool :=
  if right p = false then ([], false) else if T.isFile p = true then (p, true) else if q ≠ [] ∧ T.isFile q = true then (q, true) else if fuzzy = false then ([], false) else
  ((T.best p (T.list (parent p)).1).1, decide (500 ≤ (T.best p (T.list (parent p)).1).2))

theorem bestOf_snoc (ok : Bytes → Bool) (nm : Bytes → Bytes) (sc : Bytes → Int) (l : List Bytes) (x : Bytes) : bestOf ok nm sc (l ++ [x]) = betterOf ok nm sc (bestOf ok nm sc l) x := by simp [bestOf]
theorem best_snoc (T : Fs) (p : Bytes) (l : List Bytes) (x : Bytes) : T.best p (l ++ [x]) = T.better p (T.best p l) x := bestOf_snoc _ _ _ l x
theorem best_take (T : Fs) (p : Bytes) {l : List Bytes} {k : Nat} (h : k < l.length) : T.best p (l.take (k + 1)) = T.better p (T.best p (l.take k)) l[k] := by
  rw [List.take_succ_eq_append_getElem h, best_snoc]
theorem better_is (T : Fs) (p : Bytes) (b : Bytes × Int) (x : Bytes) : T.better p b x = if b.2 < scoreB x (base p) ∧ T.isFile (beside p x) = true then (beside p x, scoreB x (base p)) else b := rfl

theorem isFile_iff {T : Fs} {s : Bytes} : T.isFile s = true ↔ (T.stat s).2 = 0 ∧ (T.stat s).1.kind = 1 := by simp [Fs.isFile]

/-- What the best one is. -/
structure BestIs (ok : Bytes → Bool) (nm : Bytes → Bytes) (sc : Bytes → Int) (l : List Bytes) (b : Bytes × Int) : Prop where
  start : b = ([], 499) ∨ (∃ x ∈ l, b.1 = nm x ∧ ok b.1 = true ∧ b.2 = sc x ∧ 500 ≤ b.2)
  most : ∀ x ∈ l, ok (nm x) = true → sc x ≤ b.2 ∨ sc x ≤ 499

theorem best_is (ok : Bytes → Bool) (nm : Bytes → Bytes) (sc : Bytes → Int) : ∀ l, BestIs ok nm sc l (bestOf ok nm sc l) := by
  refine snoc_rec ⟨Or.inl rfl, by simp⟩ fun l x ih => ?_
  rw [bestOf_snoc]
  unfold betterOf
  generalize bestOf ok nm sc l = b at *
  obtain ⟨b1, b2⟩ := b
  obtain ⟨i1, i2⟩ := ih
  dsimp only at *
  by_cases h : b2 < sc x ∧ ok (nm x) = true
  · rw [if_pos h]
    have h499 : 499 ≤ b2 := by
      rcases i1 with e | ⟨_, _, _, _, _, e⟩
      · simp only [Prod.mk.injEq] at e
        omega
      · omega
    obtain ⟨h1, h2⟩ := h
    refine ⟨Or.inr ⟨x, by simp, rfl, h2, rfl, by dsimp only; omega⟩, fun y hy hf => ?_⟩
    rcases List.mem_append.1 hy with hy | hy
    · rcases i2 y hy hf with e | e
      · exact Or.inl (by dsimp only; omega)
      · exact Or.inr e
    · rw [List.mem_singleton.1 hy]
      exact Or.inl (Int.le_refl _)
  · rw [if_neg h]
    refine ⟨i1.imp id fun ⟨y, hy, r⟩ => ⟨y, List.mem_append_left _ hy, r⟩, fun y hy hf => ?_⟩
    rcases List.mem_append.1 hy with hy | hy
    · exact i2 y hy hf
    · obtain rfl := List.mem_singleton.1 hy
      refine Or.inl ?_
      dsimp only
      by_cases hlt : b2 < sc y
      · exact absurd ⟨hlt, hf⟩ h
      · omega

section
variable {T : Fs}

theorem right_list {s : Bytes} (h : right s = true) : (∀ x ∈ split s, partOk x = true) ∧ (split s).length ≤ 12 ∧ s.length ≤ 200 := by
  refine ⟨right_part h, ?_⟩
  simp only [right, Bool.and_eq_true, decide_eq_true_eq] at h
  exact ⟨h.1.2, h.2⟩

theorem right_parent {s : Bytes} (h : right s = true) : right (parent s) = true := by
  obtain ⟨h1, h2, h3⟩ := right_list h
  have h4 := split_parent h
  simp only [right, Bool.and_eq_true, decide_eq_true_eq, List.all_eq_true]
  refine ⟨⟨fun x hx => h1 x ?_, ?_⟩, ?_⟩
  · rw [h4] at hx
    exact List.dropLast_subset _ hx
  · rw [h4, List.length_dropLast]
    omega
  · exact Nat.le_trans (parent_le s) h3

/-- What the directory of a path tells. -/
theorem list_names (hI : T.Inv) {s : Bytes} {x : Bytes} (hx : x ∈ (T.list s).1) : right s = true ∧ ∃ i, (split s ++ [x], i) ∈ T.names := by
  unfold Fs.list at hx
  by_cases hz : (T.there s).2.2 = 0
  · obtain ⟨hr, i, h1, h2⟩ := there_zero hI hz
    rw [if_pos hz, h1] at hx
    dsimp only at hx
    by_cases hk : (T.nd i).kind = 2
    · rw [if_pos hk] at hx
      dsimp only at hx
      unfold sortB at hx
      rw [List.mem_mergeSort, List.mem_map] at hx
      obtain ⟨⟨y, j⟩, hy, rfl⟩ := hx
      exact ⟨hr, j, mem_kidsL.1 hy⟩
    · rw [if_neg hk] at hx
      simp at hx
  · rw [if_neg hz] at hx
    simp at hx

theorem names_list (hI : T.Inv) {s : Bytes} {x : Bytes} {i : Nat} (hr : right s = true) (hx : (split s ++ [x], i) ∈ T.names) : x ∈ (T.list s).1 := by
  obtain ⟨j, hj, hk⟩ := hI.up _ _ hx (by simp)
  rw [List.dropLast_concat] at hj
  obtain ⟨h1, h2⟩ := there_name hI hr hj
  unfold Fs.list
  rw [if_pos h2, h1]
  dsimp only
  rw [if_pos hk]
  dsimp only
  unfold sortB
  rw [List.mem_mergeSort, List.mem_map]
  exact ⟨(x, i), mem_kidsL.2 hx, rfl⟩

theorem kid_part (hI : T.Inv) {q : Pt} {x : Bytes} {i : Nat} (h : (q ++ [x], i) ∈ T.names) : (47 : UInt8) ∉ x := by
  obtain ⟨s, h1, h2⟩ := hI.pth _ _ h
  exact split_parts s x (by rw [h2]; simp)

theorem beside_parent {p x : Bytes} (hx : (47 : UInt8) ∉ x) : parent (beside p x) = parent p ∧ base (beside p x) = x := by
  unfold beside
  by_cases h : parent p = []
  · rw [if_pos h]
    exact ⟨by rw [parent_none hx, h], base_none hx⟩
  · rw [if_neg h]
    exact ⟨parent_slash _ _ hx, base_slash _ _ hx⟩

theorem beside_split {p x : Bytes} (hp : right p = true) (hx : (47 : UInt8) ∉ x) (hx0 : x ≠ []) : split (beside p x) = split (parent p) ++ [x] := by
  have h1 : beside p x = glue (split (parent p) ++ [x]) := by
    rw [glue_snoc, glue_split]
    unfold beside
    by_cases h : parent p = []
    · rw [if_pos h, h, if_pos split_nil]
    · rw [if_neg h, if_neg (fun e => h (split_eq_nil e))]
  rw [h1]
  refine split_glue (fun y hy => ?_) (fun y hy => ?_)
  · rcases List.mem_append.1 hy with hy | hy
    · exact split_parts _ y hy
    · rw [List.mem_singleton.1 hy]
      exact hx
  · rcases List.mem_append.1 hy with hy | hy
    · exact partOk_ne (right_part (right_parent hp) y hy)
    · rw [List.mem_singleton.1 hy]
      exact hx0

theorem isFile_at (hI : T.Inv) {s : Bytes} (h : T.isFile s = true) : right s = true ∧ ∃ i, (split s, i) ∈ T.names ∧ (T.nd i).kind = 1 := by
  obtain ⟨h1, h2⟩ := isFile_iff.1 h
  obtain ⟨hr, i, hm, e⟩ := stat_zero hI h1
  rw [e] at h2
  exact ⟨hr, i, hm, h2⟩
theorem isFile_of (hI : T.Inv) {s : Bytes} {i : Nat} (hr : right s = true) (hm : (split s, i) ∈ T.names) (hk : (T.nd i).kind = 1) : T.isFile s = true := by
  rw [isFile_iff, stat_name hI hr hm]
  exact ⟨rfl, hk⟩
theorem isFile_ne (hI : T.Inv) {s : Bytes} (h : T.isFile s = true) : s ≠ [] := fun e => by
  subst e
  obtain ⟨_, i, hm, hk⟩ := isFile_at hI h
  have h1 := hI.at_some.2 hm
  have h2 : T.at [] = some 1 := hI.at_top
  rw [split_nil, h2] at h1
  cases h1
  rw [hI.topKind] at hk
  cases hk

/-- P22.2. -/
structure FileIs (T : Fs) (p q : Bytes) (r : Bytes × Bool) : Prop where
  no : r.2 = false → r.1 = []
  file : r.2 = true → T.isFile r.1 = true
  own : r.2 = true → T.isFile p = true → r.1 = p
  rest : r.2 = true → T.isFile p = false → r.1 = q ∨ (500 ≤ scoreB (base r.1) (base p) ∧ parent r.1 = parent p ∧
    ∀ a ∈ T.paths, parent a = parent p → T.isFile a = true → scoreB (base a) (base p) ≤ scoreB (base r.1) (base p))

theorem file_is (hI : T.Inv) (p q : Bytes) : FileIs T p q (T.choose p q true) := by
  unfold Fs.choose
  by_cases hr : right p = false
  · rw [if_pos hr]
    exact ⟨fun _ => rfl, (fun h => by cases h), (fun h => by cases h), (fun h => by cases h)⟩
  rw [if_neg hr]
  replace hr : right p = true := by simpa using hr
  by_cases hf : T.isFile p = true
  · rw [if_pos hf]
    exact ⟨(fun h => by cases h), fun _ => hf, fun _ _ => rfl, (fun _ h => by rw [hf] at h; cases h)⟩
  rw [if_neg hf]
  by_cases hq : q ≠ [] ∧ T.isFile q = true
  · rw [if_pos hq]
    exact ⟨(fun h => by cases h), fun _ => hq.2, fun _ h => absurd hf (by simp [h]), fun _ _ => Or.inl rfl⟩
  rw [if_neg hq, if_neg (by simp)]
  have hb := best_is T.isFile (beside p) (fun x => scoreB x (base p)) (T.list (parent p)).1
  change FileIs T p q ((bestOf T.isFile (beside p) (fun x => scoreB x (base p)) (T.list (parent p)).1).1, decide (500 ≤ (bestOf T.isFile (beside p) (fun x => scoreB x (base p)) (T.list (parent p)).1).2))
  generalize bestOf T.isFile (beside p) (fun x => scoreB x (base p)) (T.list (parent p)).1 = b at *
  have hsc : ∃ f : Bytes → Int, ∀ x, scoreB x (base p) = f x := ⟨_, fun _ => rfl⟩
  obtain ⟨sc, hsc⟩ := hsc
  simp only [hsc] at hb
  rcases hb.start with rfl | ⟨x, hx, h1, h2, h3, h4⟩
  · refine ⟨fun _ => rfl, fun h => ?_, fun h => ?_, fun h => ?_⟩ <;> simp at h
  · obtain ⟨_, i, hm⟩ := list_names hI hx
    obtain ⟨g1, g2⟩ := beside_parent (p := p) (kid_part hI hm)
    refine ⟨fun h => ?_, fun _ => h2, fun _ h => absurd h hf, fun _ _ => Or.inr ⟨?_, ?_, fun a ha hpa hfa => ?_⟩⟩
    · simp only [decide_eq_false_iff_not] at h
      exact absurd h4 h
    · rw [h1, g2, hsc, ← h3]
      exact h4
    · rw [h1, g1]
    · obtain ⟨ra, na, j, hj⟩ := (mem_paths hI).1 ha
      have hsa := split_base na
      rw [← split_parent ra, hpa] at hsa
      have hxa : base a ∈ (T.list (parent p)).1 := names_list hI (i := j) (right_parent hr) (by rw [hsa]; exact hj)
      have hba : beside p (base a) = a := by
        refine split_inj ?_
        have hpart : partOk (base a) = true := right_part ra _ (by rw [← split_base na]; simp)
        rw [beside_split hr (kid_part hI (q := split (parent p)) (i := j) (by rw [hsa]; exact hj)) (partOk_ne hpart), hsa]
      rw [h1, g2, hsc, hsc, ← h3]
      rcases hb.most _ hxa (by rw [hba]; exact hfa) with e | e
      · exact e
      · omega
end

end Go.Proofs.Ytemdinjiplglgaa

namespace Go.Proofs.Ytemdinjiplglgaa

def Fs.isDir (T : Fs) (s : Bytes) : Prop := right s = true ∧ ∃ i, (split s, i) ∈ T.names ∧ (T.nd i).kind = 2

open Classical in
theorem list_is {T : Fs} (hI : T.Inv) (s : Bytes) : (T.list s).1 = if T.isDir s then sortB ((T.kids (split s)).map (·.1)) else [] := by
  by_cases h : T.isDir s
  · rw [if_pos h]
    obtain ⟨hr, i, hi, hk⟩ := h
    obtain ⟨h1, h2⟩ := there_name hI hr hi
    unfold Fs.list
    rw [if_pos h2, h1]
    dsimp only
    rw [if_pos hk]
  · rw [if_neg h]
    unfold Fs.list
    by_cases hz : (T.there s).2.2 = 0
    · obtain ⟨hr, i, h1, h2⟩ := there_zero hI hz
      rw [if_pos hz, h1]
      dsimp only
      by_cases hk : (T.nd i).kind = 2
      · exact absurd ⟨hr, i, h2, hk⟩ h
      · rw [if_neg hk]
    · rw [if_neg hz]

theorem isFile_is {T : Fs} (hI : T.Inv) (s : Bytes) : T.isFile s = true ↔ right s = true ∧ ∃ i, (split s, i) ∈ T.names ∧ (T.nd i).kind = 1 :=
  ⟨isFile_at hI, fun ⟨hr, _, hm, hk⟩ => isFile_of hI hr hm hk⟩

/-- What a Write turns: nothing, a file's bytes and Meta, or one name more. -/
def Wrote (T T2 : Fs) (r : Bytes) : Prop :=
  (T2.names = T.names ∧ ∀ i, (T2.nd i).kind = (T.nd i).kind) ∨ ∃ n : Nd, n.kind = 1 ∧ T2 = T.add (split r) n

theorem wrote (T : Fs) (r b : Bytes) (m : Mt) : Wrote T (T.write r b m).1 r := by
  unfold Fs.write
  (repeat' split)
  all_goals first
    | exact Or.inl ⟨rfl, fun _ => rfl⟩
    | exact Or.inr ⟨_, rfl, rfl⟩
    | (refine Or.inl ⟨rfl, fun j => ?_⟩
       simp only [Fs.set]
       split
       · rename_i h
         rw [h]
       · rfl)

theorem wrote_file {T T2 : Fs} {r : Bytes} (hI : T.Inv) (hI2 : T2.Inv) (h : Wrote T T2 r) {s : Bytes} (hs : s ≠ r) : T2.isFile s = T.isFile s := by
  rw [Bool.eq_iff_iff, isFile_is hI, isFile_is hI2]
  rcases h with ⟨h1, h2⟩ | ⟨n, hn, rfl⟩
  · rw [h1]
    simp only [h2]
  · refine and_congr_right fun hr => ?_
    constructor
    · rintro ⟨i, hi, hk⟩
      simp only [Fs.add, List.mem_append, List.mem_singleton, Prod.mk.injEq] at hi hk
      rcases hi with hi | ⟨e, _⟩
      · have := (hI.lt _ _ hi).2
        rw [if_neg (by omega)] at hk
        exact ⟨i, hi, hk⟩
      · exact absurd (split_inj e) hs
    · rintro ⟨i, hi, hk⟩
      have := (hI.lt _ _ hi).2
      refine ⟨i, ?_, ?_⟩
      · simp only [Fs.add, List.mem_append]
        exact Or.inl hi
      · simp only [Fs.add]
        rw [if_neg (by omega)]
        exact hk

theorem wrote_list {T T2 : Fs} {r : Bytes} (hI : T.Inv) (hI2 : T2.Inv) (h : Wrote T T2 r) {s : Bytes} (hs : parent r ≠ s) : (T2.list s).1 = (T.list s).1 := by
  rw [list_is hI, list_is hI2]
  rcases h with ⟨h1, h2⟩ | ⟨n, hn, rfl⟩
  · have he : T2.isDir s = T.isDir s := by simp only [Fs.isDir, h1, h2]
    by_cases hd : T.isDir s
    · rw [if_pos hd, if_pos (by rw [he]; exact hd)]
      simp only [Fs.kids, h1]
    · rw [if_neg hd, if_neg (by rw [he]; exact hd)]
  · have hk : (T.add (split r) n).kids (split s) = T.kids (split s) := by
      simp only [Fs.kids, Fs.add, kidsL, List.filterMap_append]
      have : kidOf (split s) (split r, T.next) = none := by
        unfold kidOf
        rw [if_neg]
        rintro ⟨_, h3⟩
        refine hs ?_
        unfold parent
        rw [h3, glue_split]
      simp [this]
    have he : (T.add (split r) n).isDir s = T.isDir s := by
      refine propext (and_congr_right fun _ => ?_)
      constructor
      · rintro ⟨i, hi, hk⟩
        simp only [Fs.add, List.mem_append, List.mem_singleton, Prod.mk.injEq] at hi hk
        rcases hi with hi | ⟨_, e⟩
        · have := (hI.lt _ _ hi).2
          rw [if_neg (by omega)] at hk
          exact ⟨i, hi, hk⟩
        · rw [if_pos e, hn] at hk
          cases hk
      · rintro ⟨i, hi, hk⟩
        have := (hI.lt _ _ hi).2
        refine ⟨i, ?_, ?_⟩
        · simp only [Fs.add, List.mem_append]
          exact Or.inl hi
        · simp only [Fs.add]
          rw [if_neg (by omega)]
          exact hk
    by_cases hd : T.isDir s
    · rw [if_pos hd, if_pos (by rw [he]; exact hd), hk]
    · rw [if_neg hd, if_neg (by rw [he]; exact hd)]

theorem best_congr {T T2 : Fs} {p : Bytes} : ∀ l : List Bytes, (∀ x ∈ l, T2.isFile (beside p x) = T.isFile (beside p x)) → T2.best p l = T.best p l := by
  refine snoc_rec (fun _ => rfl) fun l x ih h => ?_
  rw [best_snoc, best_snoc, ih fun y hy => h y (List.mem_append_left _ hy), better_is, better_is, h x (by simp)]

/-- P22.3. -/
theorem choose_far {T T2 : Fs} {r : Bytes} (hI : T.Inv) (hI2 : T2.Inv) (h : Wrote T T2 r) {p q : Bytes} (hp : r ≠ p) (hq : r ≠ q) (hr : parent r ≠ parent p) (fz : Bool) : T2.choose p q fz = T.choose p q fz := by
  unfold Fs.choose
  rw [wrote_file hI hI2 h (Ne.symm hp), wrote_file hI hI2 h (Ne.symm hq), wrote_list hI hI2 h hr]
  rw [best_congr _ fun x hx => wrote_file hI hI2 h fun e => hr ?_]
  obtain ⟨_, i, hm⟩ := list_names hI hx
  rw [← e]
  exact (beside_parent (kid_part hI hm)).1

end Go.Proofs.Ytemdinjiplglgaa

namespace Go.Proofs.Ytemdinjiplglgaa
open Go.RowKit

theorem quiet_eq {P : Program} {f : FuncId} {args : Array Value} {w : World} {n : Nat} {v : Value}
    (h : Calls P f args (w.drewN n) fun e w' => e = .returned v ∧ w.drewN n = w') : Calls P f args (w.drewN n) fun e w'' => e = .returned v ∧ ∃ m, w'' = w.drewN m :=
  h.mono fun _ _ ⟨he, hm⟩ => ⟨he, n, hm.symm⟩
theorem grow_eq {P : Program} {f : FuncId} {args : Array Value} {w : World} {v : Value} (x : Gr w) (h : Calls P f args x.1 fun e w' => e = .returned v ∧ x.1 = w') :
    Calls P f args x.1 fun e w'' => e = .returned v ∧ ∃ y : Gr w, w'' = y.1 := h.mono fun _ _ ⟨he, hm⟩ => ⟨he, x, hm.symm⟩
theorem strs_diff {a b : ByteArray} (h : a ≠ b) : (a.toList == b.toList) = false := by rw [str_eq]; simpa using h
theorem strs_alike {a b : ByteArray} (h : a = b) : (a.toList == b.toList) = true := by rw [str_eq]; simpa using h

end Go.Proofs.Ytemdinjiplglgaa
