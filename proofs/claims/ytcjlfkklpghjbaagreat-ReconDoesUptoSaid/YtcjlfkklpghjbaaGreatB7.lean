/-
  recon's states: maps from paths to entries; its maps from paths to ints.
  recon: alike, dir, later, wish.
  recon.sorted: all paths of some states, in order.
  recon.held: which way a path goes that is held.
  recon.of: a list's entries by their paths.
  What stays where one map of a call's own turns.
  remoraref44.Paths: all paths of two lists, rising, each once.
  remoraref44.held.
  remoraref44.Plan.
  recon.Plan.
  remoralaw44.same.
  remoralaw44.awake: the chapter's example.
  One file of several names: the plain law.
  What stays where a tree of its own turns: rows of names, bytes, records.
  remoralaw17.thing: both trees tell the same of a path.
  When two trees are the same, path by path: the plain law.
  remoralaw17.thing without the numbers, and Same: both trees hold the same.
  remoralaw44.Of; the walk of remoralaw44.ReconDoes.
-/
import Derived.Test.YtcjlfkklpghjbaaGreatB3
import Derived.Test.YtcjlfkklpghjbaaGreatB6
import Derived.Test.YtcjlfkklpghjbaaGreatB2
import Derived.Test.YtcjlfkklpghjbaaGreatB1
import Derived.Test.YtcjlfkklpghjbaaGreatB4
import Derived.Test.YtcjlfkklpghjbaaGreatB5
import Derived.Shelf.Bytes.SlSmallAll
set_option linter.unusedVariables false
set_option linter.unusedSimpArgs false
open Go.Lib (hid)

namespace Go.Proofs.YtcjlfkklpghjbaaGreat
open Go.RowKit
theorem under_states : Tryz.prog.underlying 69 = some (.map 9 74) := by kernel_rfl
theorem under_wishes : Tryz.prog.underlying 71 = some (.map 9 3) := by kernel_rfl
theorem zero_pent (w : World) : (zeroValue 74).run Tryz.prog w = .ok (.pointer none) w := by kernel_rfl
theorem zero_int0 (w : World) : (zeroValue 3).run Tryz.prog w = .ok (.int .i64 0) w := by kernel_rfl
def entB (x : Ent) : Obj := .cells (entCells x).toArray 45 (0, 0)
/-- v points to an entry; nil: to none. -/
def PtrE (W : World) (v : Value) (o : Option Ent) : Prop :=
  match o with
  | none => v = .pointer none
  | some x => ∃ g, v = ptr g ∧ W.heap[g]? = some (entB x)
theorem PtrE.below {W W' : World} {v : Value} {o : Option Ent} (h : PtrE W v o) (hb : Below W.heap.size W W') : PtrE W' v o := by
 cases o with
 | none => exact h
 | some x =>
  obtain ⟨g, h1, h2⟩ := h
  exact ⟨g, h1, (hb.block g (Array.getElem?_eq_some_iff.1 h2).1).trans h2⟩
def stE (A : Bytes → Nat) (l : List Ent) : List (Value × Value) := l.map fun x => (.string (mkS x.path), ptr (A x.path))
/-- Block b is the map of a list's entries by their paths. -/
def States (W : World) (b : Nat) (l : List Ent) : Prop := ∃ A : Bytes → Nat, MapIs W b (stE A l) ∧ ∀ x ∈ l, W.heap[A x.path]? = some (entB x)
theorem States.below {W W' : World} {b : Nat} {l : List Ent} (h : States W b l) (hb : Below W.heap.size W W') : States W' b l := by
 obtain ⟨A, h1, h2⟩ := h
 exact ⟨A, h1.of_block (hb.block _ h1.lt), fun x hx => (hb.block _ (Array.getElem?_eq_some_iff.1 (h2 x hx)).1).trans (h2 x hx)⟩
theorem States.lt {W : World} {b : Nat} {l : List Ent} (h : States W b l) : b < W.heap.size := by
 obtain ⟨A, h1, _⟩ := h
 exact h1.lt
theorem strings_key {α : Type} (W : World) (s : ByteArray) (l : List α) (f : α → Bytes) (g : α → Value) : Keyable Tryz.prog 9 W (.string s) ((l.map fun x => (Value.string (mkS (f x)), g x)).map (·.1)) :=
 keyable_string Tryz.underlying9 W s (fun v hv => by
  rw [List.map_map] at hv
  obtain ⟨p, _, rfl⟩ := List.mem_map.1 hv
  exact ⟨_, rfl⟩)
/-- A path looked for among states: in every world that only grew. -/
theorem st_look {W : World} {b : Nat} {l : List Ent} (h : States W b l) (p : Bytes) :
  ∃ v, PtrE W v (entAt l p) ∧ ∀ W', Below W.heap.size W W' → (Instr.lookup 69 (.map (some b)) (.string (mkS p)) false).run Tryz.prog W' = .ok v W' := by
 obtain ⟨A, h1, h2⟩ := h
 cases he : entAt l p with
 | none =>
  exact ⟨_, rfl, fun W' hb => (h1.of_block (hb.block _ h1.lt)).look_miss under_states (strings_key W' (mkS p) l (·.path) _) (fun q hq e => by
   obtain ⟨x, hx, rfl⟩ := List.mem_map.1 hq
   simp only [Value.string.injEq] at e
   exact entAt_none he x hx (mkS_inj e)) (zero_pent W') false⟩
 | some x =>
  obtain ⟨hx, rfl⟩ := entAt_some he
  exact ⟨_, ⟨A x.path, rfl, h2 x hx⟩, fun W' hb => (h1.of_block (hb.block _ h1.lt)).look_hit under_states (strings_key W' (mkS x.path) l (·.path) _) (v := ptr (A x.path)) (List.mem_map.2 ⟨x, hx, rfl⟩) false⟩
/-- A look-up of a quiet region. -/
theorem quiet_lookup {P : Program} {C : World → Prop} {a : Act} {o : Oper} {K : Act → Prop} (m x : Operand) (t : TypeId) (c : Bool) (hop : o.op = Op.lookup t m x c) (mv key v : Value) (hm : a.eval m = mv) (hx : a.eval x = key)
  (hrun : ∀ W, C W → (Instr.lookup t mv key c).run P W = .ok v W) (hk : K (a.put o.dst v)) : o.quiet P a C K :=
 ⟨v, fun W hW => by
  unfold Oper.quietAt
  have : (execOp a.eval o).run P W = .ok (.value v) W := by simp [execOp, hop, hm, hx, hrun W hW, Result.andThen]
  rw [this]
  exact ⟨rfl, rfl⟩, hk⟩
/-- One entry more, its path new. -/
theorem st_store {W : World} {b g : Nat} {l : List Ent} {x : Ent} (h : States W b l) (hg : W.heap[g]? = some (entB x)) (hx : ∀ y ∈ l, y.path ≠ x.path) :
  ∃ W', (Instr.mapUpdate 69 (.map (some b)) (.string (mkS x.path)) (ptr g)).run Tryz.prog W = .ok () W' ∧ States W' b (x :: l) ∧ W.grownBy W' (some b) := by
 obtain ⟨A, h1, h2⟩ := h
 obtain ⟨W', r1, r2, r3⟩ := h1.store_new under_states (v := ptr g) (strings_key W (mkS x.path) l (·.path) _) (fun q hq e => by
  obtain ⟨y, hy, rfl⟩ := List.mem_map.1 hq
  simp only [Value.string.injEq] at e
  exact hx y hy (mkS_inj e))
 obtain ⟨es, clock, hb, _⟩ := h1
 have hne : ∀ c y, W.heap[c]? = some (entB y) → some c ≠ some b := fun c y hc e => by
  unfold entB at hc
  simp only [Option.some.injEq] at e
  rw [e, hb, Option.some.injEq] at hc
  exact Obj.noConfusion hc
 refine ⟨W', r1, ⟨fun q => if q = x.path then g else A q, r2.perm (List.Perm.of_eq ?_), fun y hy => ?_⟩, r3.grown⟩
 ·unfold stE
  rw [List.map_cons]
  dsimp only
  rw [if_pos rfl]
  refine congrArg (List.cons _) (List.map_congr_left fun y hy => ?_)
  rw [if_neg (hx y hy)]
 ·dsimp only
  rcases List.mem_cons.1 hy with rfl | hy
  ·rw [if_pos rfl]
   exact (r3.grown.block g (Array.getElem?_eq_some_iff.1 hg).1 (hne _ _ hg)).trans hg
  ·rw [if_neg (hx y hy)]
   exact (r3.grown.block _ (Array.getElem?_eq_some_iff.1 (h2 y hy)).1 (hne _ _ (h2 y hy))).trans (h2 y hy)
/-! ### paths to ints -/
def intE (l : Acts44) : List (Value × Value) := l.map fun y => (.string (mkS y.1), .int .i64 y.2)
/-- The first act of a path. -/
def actAt (l : Acts44) (p : Bytes) : Option Int := (l.find? fun y => decide (y.1 = p)).map (·.2)
theorem actAt_some {l : Acts44} {p : Bytes} {t : Int} (h : actAt l p = some t) : (p, t) ∈ l := by
 unfold actAt at h
 obtain ⟨y, hy, rfl⟩ := Option.map_eq_some_iff.1 h
 have h1 := List.mem_of_find?_eq_some hy
 have h2 : y.1 = p := by simpa using List.find?_some hy
 rw [← h2]
 exact h1
theorem actAt_none {l : Acts44} {p : Bytes} (h : actAt l p = none) : ∀ y ∈ l, y.1 ≠ p := by
 unfold actAt at h
 rw [Option.map_eq_none_iff, List.find?_eq_none] at h
 intro y hy
 simpa using h y hy
theorem actAt_of {l : Acts44} (hn : (l.map (·.1)).Nodup) {y : Bytes × Int} (hy : y ∈ l) : actAt l y.1 = some y.2 := by
 cases h : actAt l y.1 with
 | none => exact absurd rfl (actAt_none h y hy)
 | some t =>
  have hm := actAt_some h
  induction l with
  | nil => cases hy
  | cons z l ih =>
   obtain ⟨h1, h2⟩ := List.nodup_cons.1 hn
   rcases List.mem_cons.1 hy with rfl | hy'
   ·rcases List.mem_cons.1 hm with e | hm'
    ·rw [← e]
    ·exact absurd (List.mem_map.2 ⟨_, hm', rfl⟩) h1
   ·rcases List.mem_cons.1 hm with e | hm'
    ·rw [← e] at h1
     exact absurd (List.mem_map.2 ⟨_, hy', rfl⟩) h1
    ·have hne : z.1 ≠ y.1 := fun e => h1 (by dsimp only; rw [e]; exact List.mem_map.2 ⟨_, hy', rfl⟩)
     refine ih h2 hy' ?_ hm'
     unfold actAt at h ⊢
     rw [List.find?_cons_of_neg (by simpa using hne)] at h
     exact h
theorem int_look {W : World} {b : Nat} {l : Acts44} (h : MapIs W b (intE l)) (p : Bytes) :
  (Instr.lookup 71 (.map (some b)) (.string (mkS p)) false).run Tryz.prog W = .ok (.int .i64 ((actAt l p).getD 0)) W := by
 cases he : actAt l p with
 | none =>
  exact h.look_miss under_wishes (strings_key W (mkS p) l (·.1) _) (fun q hq e => by
   obtain ⟨x, hx, rfl⟩ := List.mem_map.1 hq
   simp only [Value.string.injEq] at e
   exact actAt_none he x hx (mkS_inj e)) (zero_int0 W) false
 | some t =>
  exact h.look_hit under_wishes (strings_key W (mkS p) l (·.1) _) (v := .int .i64 t) (List.mem_map.2 ⟨(p, t), actAt_some he, rfl⟩) false
theorem int_look2 {W : World} {b : Nat} {l : Acts44} (h : MapIs W b (intE l)) (p : Bytes) :
  (Instr.lookup 71 (.map (some b)) (.string (mkS p)) true).run Tryz.prog W = .ok (.tuple #[.int .i64 ((actAt l p).getD 0), .bool (actAt l p).isSome]) W := by
 cases he : actAt l p with
 | none =>
  exact h.look_miss under_wishes (strings_key W (mkS p) l (·.1) _) (fun q hq e => by
   obtain ⟨x, hx, rfl⟩ := List.mem_map.1 hq
   simp only [Value.string.injEq] at e
   exact actAt_none he x hx (mkS_inj e)) (zero_int0 W) true
 | some t =>
  exact h.look_hit under_wishes (strings_key W (mkS p) l (·.1) _) (v := .int .i64 t) (List.mem_map.2 ⟨(p, t), actAt_some he, rfl⟩) true
theorem int_new {W : World} {b : Nat} {l : Acts44} (h : MapIs W b (intE l)) (p : Bytes) (t : Int) (hp : ∀ y ∈ l, y.1 ≠ p) :
  ∃ W', (Instr.mapUpdate 71 (.map (some b)) (.string (mkS p)) (.int .i64 t)).run Tryz.prog W = .ok () W' ∧ MapIs W' b (intE (l ++ [(p, t)])) ∧ W.grownBy W' (some b) := by
 obtain ⟨W', r1, r2, r3⟩ := h.store_new under_wishes (v := .int .i64 t) (strings_key W (mkS p) l (·.1) _) (fun q hq e => by
  obtain ⟨y, hy, rfl⟩ := List.mem_map.1 hq
  simp only [Value.string.injEq] at e
  exact hp y hy (mkS_inj e))
 refine ⟨W', r1, r2.perm ?_, r3.grown⟩
 unfold intE
 rw [List.map_append]
 exact List.perm_append_singleton _ _
/-- The last one's number is written anew. -/
theorem int_last {W : World} {b : Nat} {l : Acts44} {p : Bytes} {t : Int} (h : MapIs W b (intE (l ++ [(p, t)]))) (t2 : Int) :
  ∃ W', (Instr.mapUpdate 71 (.map (some b)) (.string (mkS p)) (.int .i64 t2)).run Tryz.prog W = .ok () W' ∧ MapIs W' b (intE (l ++ [(p, t2)])) ∧ W.grownBy W' (some b) := by
 have hp : ∀ t, (intE (l ++ [(p, t)])).Perm ((.string (mkS p), .int .i64 t) :: intE l) := fun t => by
  unfold intE
  rw [List.map_append]
  exact List.perm_append_singleton _ _
 obtain ⟨W', r1, r2, r3⟩ := h.store_old under_wishes (v := .int .i64 t2) (strings_key W (mkS p) (l ++ [(p, t)]) (·.1) _) (hp t)
 exact ⟨W', r1, r2.perm (hp t2), r3.grown⟩
end Go.Proofs.YtcjlfkklpghjbaaGreat

namespace Go.Proofs.YtcjlfkklpghjbaaGreat
open Go.RowKit
theorem eql_nil_ptr (W : World) (h : Nat) : (binOp .eql 74 (.pointer none) (.pointer (some ⟨h, 0, none⟩))).run Tryz.prog W = .ok (.bool false) W := by kernel_rfl
set_option maxHeartbeats 4000000 in
set_option maxRecDepth 100000 in
theorem ralike_some (g h : Nat) (x y : Ent) (w : World) (q1 : w.heap[g]? = some (entB x)) (q2 : w.heap[h]? = some (entB y)) :
  Calls Tryz.prog 32 #[ptr g, ptr h] w fun e w' => e = .returned (.bool (alikeE (some x) (some y))) ∧ Below w.heap.size w w' := by
 have hal : alikeE (some x) (some y) = (decide (x.kind = y.kind) && decide (x.mt = y.mt) && decide (x.target = y.target) && (decide (x.kind ≠ 1) || (decide (x.size = y.size) && decide (x.sum = y.sum)))) := rfl
 have hmtq := @mt_eq x.mt y.mt
 generalize alikeE (some x) (some y) = r at *
 obtain ⟨p1, kd1, sz1, ⟨a1, a2, a3, a4, a5⟩, tg1, sm1, gr1⟩ := x
 obtain ⟨p2, kd2, sz2, ⟨b1, b2, b3, b4, b5⟩, tg2, sm2, gr2⟩ := y
 unfold entB entCells at q1 q2
 dsimp only at *
 unfold ptr
 have x0 := cell_of (j := 0) q1 rfl
 have x1 := cell_of (j := 1) q1 rfl
 have x2 := cell_of (j := 2) q1 rfl
 have x3 := cell_of (j := 3) q1 rfl
 have x4 := cell_of (j := 4) q1 rfl
 have x5 := cell_of (j := 5) q1 rfl
 have x6 := cell_of (j := 6) q1 rfl
 have x7 := cell_of (j := 7) q1 rfl
 have x8 := cell_of (j := 8) q1 rfl
 have x9 := cell_of (j := 9) q1 rfl
 have y0 := cell_of (j := 0) q2 rfl
 have y1 := cell_of (j := 1) q2 rfl
 have y2 := cell_of (j := 2) q2 rfl
 have y3 := cell_of (j := 3) q2 rfl
 have y4 := cell_of (j := 4) q2 rfl
 have y5 := cell_of (j := 5) q2 rfl
 have y6 := cell_of (j := 6) q2 rfl
 have y7 := cell_of (j := 7) q2 rfl
 have y8 := cell_of (j := 8) q2 rfl
 have y9 := cell_of (j := 9) q2 rfl
 have hem := fun W => eql_mt W a1 a2 a3 a4 a5 b1 b2 b3 b4 b5
 have hnm := fun W => neq_mt W a1 a2 a3 a4 a5 b1 b2 b3 b4 b5
 obtain ⟨mq, hmq⟩ : ∃ b : Bool, b = decide (a1 = b1 ∧ a2 = b2 ∧ a3 = b3 ∧ a4 = b4 ∧ a5 = b5) := ⟨_, rfl⟩
 rw [← hmq] at hem hnm
 have hmd : decide ((⟨a1, a2, a3, a4, a5⟩ : Mt) = ⟨b1, b2, b3, b4, b5⟩) = mq := by
  rw [hmq, Bool.eq_iff_iff, decide_eq_true_eq, decide_eq_true_eq]
  exact hmtq.symm
 rw [hmd] at hal
 have ht : ((mkS tg1).toList == (mkS tg2).toList) = decide (tg1 = tg2) := by rw [mkS_toList, mkS_toList, Bool.eq_iff_iff]; simp
 have hs : ((mkS sm1).toList == (mkS sm2).toList) = decide (sm1 = sm2) := by rw [mkS_toList, mkS_toList, Bool.eq_iff_iff]; simp
 have hk : (kd1 == kd2) = decide (kd1 = kd2) := by rw [Bool.eq_iff_iff]; simp
 have hk2 : (kd1 != kd2) = !decide (kd1 = kd2) := by rw [Bool.eq_iff_iff]; simp
 have hz : (sz1 == sz2) = decide (sz1 = sz2) := by rw [Bool.eq_iff_iff]; simp
 have ho : (kd1 != 1) = decide (kd1 ≠ 1) := by rw [Bool.eq_iff_iff]; simp
 generalize decide (tg1 = tg2) = tq at *
 generalize decide (sm1 = sm2) = sq at *
 generalize decide (kd1 = kd2) = kq at *
 generalize decide (sz1 = sz2) = zq at *
 generalize decide (kd1 ≠ 1) = oq at *
 replace hal := hid hal
 replace q1 := hid q1
 replace q2 := hid q2
 replace hmq := hid hmq
 replace hmd := hid hmd
 replace hmtq := hid hmtq
 have hB0 := fun n => below_drewN (Below.refl w.heap.size w) n
 replace hB0 := hid hB0
 cases kq with
 | false =>
  go_enter Tryz.func32, Tryz.ntmps32
  go_upto_region 3 with fail
  go_quiet (fail)
  go_wp2
  go_ret
  exact ⟨ret_bool (by rw [hal.out]; rfl), hB0.out _⟩
 | true =>
  cases mq with
  | false =>
   go_enter Tryz.func32, Tryz.ntmps32
   go_upto_region 3 with fail
   go_quiet (fail)
   go_wp2
   go_ret
   exact ⟨ret_bool (by rw [hal.out]; rfl), hB0.out _⟩
  | true =>
   cases tq with
   | false =>
    go_enter Tryz.func32, Tryz.ntmps32
    go_upto_region 3 with fail
    go_quiet (fail)
    go_wp2
    go_ret
    exact ⟨ret_bool (by rw [hal.out]; rfl), hB0.out _⟩
   | true =>
    cases oq with
    | true =>
     go_enter Tryz.func32, Tryz.ntmps32
     go_upto_region 3 with fail
     go_quiet (fail)
     go_upto_region 5 with fail
     go_quiet (fail)
     go_wp2
     go_ret
     exact ⟨ret_bool (by rw [hal.out]; rfl), below_drewN (hB0.out _) _⟩
    | false =>
     cases zq <;> cases sq <;>
     ·go_enter Tryz.func32, Tryz.ntmps32
      go_upto_region 3 with fail
      go_quiet (fail)
      go_upto_region 5 with fail
      go_quiet (fail)
      go_wp2
      go_ret
      exact ⟨ret_bool (by rw [hal.out]; rfl), below_drewN (hB0.out _) _⟩
set_option maxHeartbeats 2000000 in
set_option maxRecDepth 100000 in
theorem ralike_calls (va vb : Value) (a b : Option Ent) (w : World) (ha : PtrE w va a) (hb : PtrE w vb b) :
  Calls Tryz.prog 32 #[va, vb] w fun e w' => e = .returned (.bool (alikeE a b)) ∧ Below w.heap.size w w' := by
 cases a with
 | none =>
  cases (show va = .pointer none from ha)
  cases b with
  | none =>
   cases (show vb = .pointer none from hb)
   clear ha hb
   go_enter Tryz.func32, Tryz.ntmps32
   go_wp2
   go_ret
   exact ⟨rfl, Below.refl _ _⟩
  | some y =>
   obtain ⟨h, rfl, q2⟩ := hb
   unfold ptr
   clear ha
   replace q2 := hid q2
   have hne := fun W => eql_nil_ptr W h
   go_enter Tryz.func32, Tryz.ntmps32
   go_wp2
   go_ret
   exact ⟨rfl, Below.refl _ _⟩
 | some x =>
  obtain ⟨g, rfl, q1⟩ := ha
  cases b with
  | none =>
   cases (show vb = .pointer none from hb)
   unfold ptr
   clear hb
   replace q1 := hid q1
   go_enter Tryz.func32, Tryz.ntmps32
   go_wp2
   go_ret
   exact ⟨rfl, Below.refl _ _⟩
  | some y =>
   obtain ⟨h, rfl, q2⟩ := hb
   exact ralike_some g h x y w q1 q2
set_option maxHeartbeats 2000000 in
set_option maxRecDepth 100000 in
theorem rdir_calls (va : Value) (a : Option Ent) (w : World) (ha : PtrE w va a) :
  Calls Tryz.prog 36 #[va] w fun e w' => e = .returned (.bool (isDirE a)) ∧ w = w' := by
 cases a with
 | none =>
  cases (show va = .pointer none from ha)
  clear ha
  go_enter Tryz.func36, Tryz.ntmps36
  go_wp2
  go_ret
  exact ⟨rfl, rfl⟩
 | some x =>
  obtain ⟨g, rfl, q1⟩ := ha
  have hd : isDirE (some x) = decide (x.kind = 2) := rfl
  rw [hd]
  clear hd
  unfold ptr
  unfold entB entCells at q1
  have x1 := cell_of (j := 1) q1 rfl
  replace q1 := hid q1
  have hk : (x.kind == 2) = decide (x.kind = 2) := by rw [Bool.eq_iff_iff]; simp
  generalize x.kind = kd at *
  generalize decide (kd = 2) = kq at *
  cases kq <;>
  ·go_enter Tryz.func36, Tryz.ntmps36
   go_wp2
   go_ret
   exact ⟨rfl, rfl⟩
def laterE (a b : Option Ent) : Bool :=
  match b with
  | none => true
  | some y => match a with
    | none => false
    | some x => laterM x.mt y.mt
theorem wishE_eq (w a b : Option Ent) (po : Int) : wishE w a b po = if alikeE w b = true then 1 else if alikeE w a = true then 2 else if po ≠ 3 then po else if laterE b a = true then 2 else 1 := by
 unfold wishE laterE
 rw [alikeE_comm w b, alikeE_comm w a]
 cases a <;> cases b <;> rfl
set_option maxHeartbeats 2000000 in
set_option maxRecDepth 100000 in
theorem rlater_calls (va vb : Value) (a b : Option Ent) (w : World) (ha : PtrE w va a) (hb : PtrE w vb b) :
  Calls Tryz.prog 73 #[va, vb] w fun e w' => e = .returned (.bool (laterE a b)) ∧ Below w.heap.size w w' := by
 cases a with
 | none =>
  cases (show va = .pointer none from ha)
  cases b with
  | none =>
   cases (show vb = .pointer none from hb)
   clear ha hb
   go_enter Tryz.func73, Tryz.ntmps73
   go_wp2
   go_ret
   exact ⟨rfl, Below.refl _ _⟩
  | some y =>
   obtain ⟨h, rfl, q2⟩ := hb
   unfold ptr
   clear ha
   replace q2 := hid q2
   go_enter Tryz.func73, Tryz.ntmps73
   go_wp2
   go_ret
   exact ⟨rfl, Below.refl _ _⟩
 | some x =>
  obtain ⟨g, rfl, q1⟩ := ha
  cases b with
  | none =>
   cases (show vb = .pointer none from hb)
   unfold ptr
   clear hb
   replace q1 := hid q1
   go_enter Tryz.func73, Tryz.ntmps73
   go_wp2
   go_ret
   exact ⟨rfl, Below.refl _ _⟩
  | some y =>
   obtain ⟨h, rfl, q2⟩ := hb
   have hl : laterE (some x) (some y) = (decide (y.mt.sec < x.mt.sec) || (decide (x.mt.sec = y.mt.sec) && decide (y.mt.nano < x.mt.nano))) := rfl
   generalize laterE (some x) (some y) = r at *
   obtain ⟨p1, kd1, sz1, ⟨a1, a2, a3, a4, a5⟩, tg1, sm1, gr1⟩ := x
   obtain ⟨p2, kd2, sz2, ⟨b1, b2, b3, b4, b5⟩, tg2, sm2, gr2⟩ := y
   unfold entB entCells at q1 q2
   dsimp only at *
   unfold ptr
   have x1 := cell_of (j := 4) q1 rfl
   have x2 := cell_of (j := 5) q1 rfl
   have y1 := cell_of (j := 4) q2 rfl
   have y2 := cell_of (j := 5) q2 rfl
   have hB0 := fun n => below_drewN (Below.refl w.heap.size w) n
   replace q1 := hid q1
   replace q2 := hid q2
   replace hB0 := hid hB0
   by_cases h1 : b2 < a2
   ·rw [decide_eq_true h1] at hl
    replace hl := hid hl
    go_enter Tryz.func73, Tryz.ntmps73
    go_upto_region 3 with fail
    go_quiet (fail)
    go_wp2
    go_ret
    exact ⟨ret_bool (by (rw [hl.out]; rfl)), hB0.out _⟩
   ·have h2 : decide (b2 < a2) = false := by simpa using h1
    rw [h2] at hl
    by_cases h3 : a2 = b2
    ·have h4 : (a2 == b2) = true := by simpa using h3
     rw [decide_eq_true h3] at hl
     by_cases h5 : b3 < a3
     ·rw [decide_eq_true h5] at hl
      replace hl := hid hl
      replace h1 := hid h1
      replace h3 := hid h3
      go_enter Tryz.func73, Tryz.ntmps73
      go_upto_region 3 with fail
      go_quiet (fail)
      go_wp2
      go_ret
      exact ⟨ret_bool (by (rw [hl.out]; rfl)), hB0.out _⟩
     ·have h6 : decide (b3 < a3) = false := by simpa using h5
      rw [h6] at hl
      replace hl := hid hl
      replace h1 := hid h1
      replace h3 := hid h3
      replace h5 := hid h5
      go_enter Tryz.func73, Tryz.ntmps73
      go_upto_region 3 with fail
      go_quiet (fail)
      go_wp2
      go_ret
      exact ⟨ret_bool (by first | (rw [hl.out]; rfl) | (rw [h6, hl.out]; rfl)), hB0.out _⟩
    ·have h4 : (a2 == b2) = false := by simpa using h3
     rw [decide_eq_false h3] at hl
     replace hl := hid hl
     replace h1 := hid h1
     replace h3 := hid h3
     go_enter Tryz.func73, Tryz.ntmps73
     go_upto_region 3 with fail
     go_quiet (fail)
     go_wp2
     go_ret
     exact ⟨ret_bool (by (rw [hl.out]; rfl)), hB0.out _⟩
theorem PtrE.shape {W : World} {v : Value} {o : Option Ent} (h : PtrE W v o) : ∃ g, v = .pointer g := by
 cases o with
 | none => exact ⟨_, h⟩
 | some x => obtain ⟨g, h1, _⟩ := h; exact ⟨_, h1⟩
set_option maxHeartbeats 2000000 in
set_option maxRecDepth 100000 in
theorem rwish_calls (vw va vb : Value) (ow a b : Option Ent) (po : Int) (w : World) (hw : PtrE w vw ow) (ha : PtrE w va a) (hb' : PtrE w vb b) :
  Calls Tryz.prog 33 #[vw, va, vb, .int .i64 po] w fun e w' => e = .returned (.int .i64 (wishE ow a b po)) ∧ Below w.heap.size w w' := by
 have h1 := fun W (hb : Below w.heap.size w W) => ralike_calls vw vb ow b W (hw.below hb) (hb'.below hb)
 have h2 := fun W (hb : Below w.heap.size w W) => ralike_calls vw va ow a W (hw.below hb) (ha.below hb)
 have h3 := fun W (hb : Below w.heap.size w W) => rlater_calls vb va b a W (hb'.below hb) (ha.below hb)
 rw [wishE_eq]
 obtain ⟨g1, rfl⟩ := hw.shape
 obtain ⟨g2, rfl⟩ := ha.shape
 obtain ⟨g3, rfl⟩ := hb'.shape
 generalize alikeE ow b = q1 at *
 generalize alikeE ow a = q2 at *
 generalize laterE b a = q3 at *
 replace h1 := hid h1
 replace h2 := hid h2
 replace h3 := hid h3
 replace hw := hid hw
 replace ha := hid ha
 replace hb' := hid hb'
 go_enter Tryz.func33, Tryz.ntmps33
 go_wp2_with fail
 (with_reducible refine (h1.out _ (Below.refl _ _)).mono ?_)
 rintro e w1 ⟨rfl, hB1⟩
 replace hB1 := hid hB1
 cases q1 with
 | true =>
  go_wp2
  go_ret
  exact ⟨rfl, hB1.out⟩
 | false =>
  go_wp2_with fail
  (with_reducible refine (h2.out _ hB1.out).mono ?_)
  rintro e w2 ⟨rfl, hB2⟩
  have hB02 := below_step hB1.out hB2
  replace hB02 := hid hB02
  clear hB2
  cases q2 with
  | true =>
   go_wp2
   go_ret
   exact ⟨rfl, hB02.out⟩
  | false =>
   by_cases hp : po = 3
   ·subst hp
    go_wp2_with fail
    (with_reducible refine (h3.out _ hB02.out).mono ?_)
    rintro e w3 ⟨rfl, hB3⟩
    have hB03 := below_step hB02.out hB3
    replace hB03 := hid hB03
    clear hB3
    cases q3 <;>
    ·go_wp2
     go_ret
     exact ⟨rfl, hB03.out⟩
   ·have t1 : (po != 3) = true := by simpa using hp
    have hq : (if false = true then (1 : Int) else if false = true then 2 else if po ≠ 3 then po else if q3 = true then 2 else 1) = po := by rw [if_neg (by simp), if_neg (by simp), if_pos hp]
    replace hp := hid hp
    replace hq := hid hq
    go_wp2
    go_ret
    exact ⟨ret_int (by first | rfl | exact hq.out.symm), hB02.out⟩
end Go.Proofs.YtcjlfkklpghjbaaGreat

namespace Go.Proofs.YtcjlfkklpghjbaaGreat
open Go.RowKit
theorem met_look {W : World} {db : Nat} {o : List Bytes} (p : Bytes) (h : MapIs W db (dirsE o)) :
  (Instr.lookup 115 (.map (some db)) (.string (mkS p)) false).run Tryz.prog W = .ok (.bool (decide (p ∈ o))) W := by
 by_cases hd : p ∈ o
 ·have := h.look_hit under_dirs (string_key W (mkS p) _) (v := .bool true) (List.mem_map.2 ⟨p, hd, rfl⟩) false
  rw [decide_eq_true hd]
  exact this
 ·have := h.look_miss under_dirs (string_key W (mkS p) _) (fun q hq e => by
   obtain ⟨p', hp, rfl⟩ := List.mem_map.1 hq
   simp only [Value.string.injEq] at e
   rw [mkS_inj e] at hp
   exact hd hp) (zero_bool W) false
  rw [decide_eq_false hd]
  exact this
/-- An own row's block is no map's, and no iterator's. -/
theorem own_ne_map {W : World} {B : Nat} {t : TypeId} {sz n : Nat} {v : Value} {xs : List Value} {mb : Nat} {l : List (Value × Value)} (h : W.ownsRow B t sz v n xs) (hm : MapIs W mb l) : ∀ b, v.ownBlock = some b → some b ≠ some mb := by
 intro b hb e
 cases e
 obtain ⟨_, cur, hc⟩ := own_cells h hb
 obtain ⟨es, clock, h1, _⟩ := hm
 rw [h1] at hc
 cases hc
theorem own_ne_iter {W : World} {B : Nat} {t : TypeId} {sz n : Nat} {v : Value} {xs : List Value} {mb r : Nat} {l left : List (Value × Value)} (h : W.ownsRow B t sz v n xs) (hm : Ranges W mb r l left) : ∀ b, v.ownBlock = some b → some b ≠ some r := by
 intro b hb e
 cases e
 obtain ⟨_, cur, hc⟩ := own_cells h hb
 obtain ⟨es, clock, since, seen, c0, _, _, _, h1, _⟩ := hm
 rw [h1] at hc
 cases hc
theorem stE_pick {A : Bytes → Nat} {L : List Ent} {left left' : List (Value × Value)} {x v : Value} (h : left.Perm (stE A L)) (k : left.Perm ((x, v) :: left')) :
  ∃ y L', L.Perm (y :: L') ∧ x = .string (mkS y.path) ∧ v = ptr (A y.path) ∧ left'.Perm (stE A L') := by
 have hm : (x, v) ∈ stE A L := (k.symm.trans h).mem_iff.1 (List.mem_cons_self ..)
 obtain ⟨y, hy, he⟩ := List.mem_map.1 hm
 simp only [Prod.mk.injEq] at he
 obtain ⟨s, t, rfl⟩ := List.append_of_mem hy
 refine ⟨y, s ++ t, List.perm_middle, he.1.symm, he.2.symm, ?_⟩
 have h1 : (stE A (s ++ y :: t)).Perm ((x, v) :: stE A (s ++ t)) := by
  have : stE A (s ++ y :: t) = stE A s ++ (x, v) :: stE A t := by simp [stE, he.1, he.2]
  rw [this]
  refine List.perm_middle.trans ?_
  simp [stE]
 exact (List.perm_cons _).1 (k.symm.trans (h.trans h1))
theorem stE_nil {A : Bytes → Nat} {L : List Ent} (h : ([] : List (Value × Value)).Perm (stE A L)) : L = [] := by
 have := h.symm.eq_nil
 simpa [stE] using this
/-- The paths met: of the first lists, and of some entries. -/
structure Met (Ls : List (List Ent)) (k : Nat) (done : List Ent) (o : List Bytes) : Prop where
  nodup : o.Nodup
  mem : ∀ x, x ∈ o ↔ (∃ L ∈ Ls.take k, x ∈ entPaths L) ∨ x ∈ entPaths done
theorem met_nil (Ls : List (List Ent)) : Met Ls 0 [] [] := ⟨List.nodup_nil, by simp [entPaths]⟩
theorem Met.old {Ls : List (List Ent)} {k : Nat} {done : List Ent} {o : List Bytes} (h : Met Ls k done o) {y : Ent} (hy : y.path ∈ o) : Met Ls k (done ++ [y]) o := ⟨h.nodup, fun x => by
 rw [h.mem]
 unfold entPaths
 rw [List.map_append, List.mem_append]
 constructor
 ·rintro (h1 | h1)
  ·exact Or.inl h1
  ·exact Or.inr (Or.inl h1)
 ·rintro (h1 | h1 | h1)
  ·exact Or.inl h1
  ·exact Or.inr h1
  ·simp only [List.map_cons, List.map_nil, List.mem_singleton] at h1
   subst h1
   exact (h.mem _).1 hy⟩
theorem Met.new {Ls : List (List Ent)} {k : Nat} {done : List Ent} {o : List Bytes} (h : Met Ls k done o) {y : Ent} (hy : y.path ∉ o) : Met Ls k (done ++ [y]) (o ++ [y.path]) := ⟨by
 rw [List.nodup_append]
 exact ⟨h.nodup, by simp, fun a ha b hb => by simp only [List.mem_singleton] at hb; rintro rfl; exact hy (hb ▸ ha)⟩, fun x => by
 rw [List.mem_append, h.mem]
 unfold entPaths
 rw [List.map_append, List.mem_append]
 simp only [List.map_cons, List.map_nil, List.mem_singleton]
 exact or_assoc⟩
theorem Met.next {Ls : List (List Ent)} {k : Nat} {L done : List Ent} {o : List Bytes} (h : Met Ls k done o) (hk : Ls[k]? = some L) (hd : L.Perm done) : Met Ls (k + 1) [] o := ⟨h.nodup, fun x => by
 rw [h.mem]
 obtain ⟨hlt, rfl⟩ := List.getElem?_eq_some_iff.1 hk
 rw [List.take_succ_eq_append_getElem hlt]
 have : x ∈ entPaths done ↔ x ∈ entPaths Ls[k] := (hd.map (·.path)).mem_iff.symm
 simp only [List.mem_append, List.mem_singleton, entPaths, List.map_nil, List.not_mem_nil, or_false] at this ⊢
 rw [this]
 constructor
 ·rintro (⟨L, h1, h2⟩ | h1)
  ·exact ⟨L, Or.inl h1, h2⟩
  ·exact ⟨_, Or.inr rfl, h1⟩
 ·rintro ⟨L, h1 | rfl, h2⟩
  ·exact Or.inl ⟨L, h1, h2⟩
  ·exact Or.inr h2⟩
theorem Met.from {Ls : List (List Ent)} {k : Nat} {done : List Ent} {o : List Bytes} (h : Met Ls k done o) (hd : ∀ y ∈ done, y ∈ Ls.flatten) : ∀ x ∈ o, x ∈ entPaths Ls.flatten := fun x hx => by
 rcases (h.mem x).1 hx with ⟨L, h1, h2⟩ | h1
 ·obtain ⟨y, hy, rfl⟩ := List.mem_map.1 h2
  exact List.mem_map.2 ⟨y, List.mem_flatten.2 ⟨L, List.mem_of_mem_take h1, hy⟩, rfl⟩
 ·obtain ⟨y, hy, rfl⟩ := List.mem_map.1 h1
  exact List.mem_map.2 ⟨y, hd y hy, rfl⟩
theorem Met.few {Ls : List (List Ent)} {k : Nat} {done : List Ent} {o : List Bytes} (h : Met Ls k done o) (hd : ∀ y ∈ done, y ∈ Ls.flatten) : o.length ≤ Ls.flatten.length := by
 have := List.Nodup.length_le_of_subset h.nodup (fun x hx => h.from hd x hx)
 unfold entPaths at this
 rwa [List.length_map] at this
set_option maxHeartbeats 8000000 in
set_option maxRecDepth 100000 in
theorem rsorted_calls (g0 : Nat) (Bs : List Nat) (Ls : List (List Ent)) (w : World) (hn : Bs.length = Ls.length) (hl2 : Bs.length ≤ 1000) (hb : ∀ k B L, Bs[k]? = some B → Ls[k]? = some L → w.cell? ⟨g0, k, none⟩ = some (.map (some B)) ∧ States w B L) (hlen : Ls.flatten.length ≤ 1000000) (hp : ∀ y ∈ Ls.flatten, y.path.length ≤ 16777216) :
  Calls Tryz.prog 31 #[.slice (some ⟨g0, 0, none⟩) Bs.length Bs.length] w fun e w' => (∃ v' o, e = .returned v' ∧ Met Ls Ls.length [] o ∧ Strs w.heap.size w' v' (sortP o)) ∧ Below w.heap.size w w' := by
 have hmk := @run_makeMap Tryz.prog
 have hm0 : MapIs (w.alloc (.map #[] 0)) w.heap.size (dirsE []) := mapIs_made w
 have hB0 : Below w.heap.size w (w.alloc (.map #[] 0)) := below_alloc (Below.refl _ _) _
 have hnil : (w.alloc (.map #[] 0)).ownsRow w.heap.size 9 1 (.slice none 0 0) 0 [] := ⟨rfl, Or.inl ⟨rfl, rfl⟩⟩
 replace hm0 := hid hm0
 replace hB0 := hid hB0
 replace hnil := hid hnil
 replace hb := hid hb
 replace hp := hid hp
 replace hn := hid hn
 go_enter Tryz.func31, Tryz.ntmps31
 go_wp2_with fail
 go_loopw [4, 11] (fun out i wr => ∃ (k : Nat) (o : List Bytes), i = .int .i64 k ∧ k ≤ Bs.length ∧ Met Ls k [] o ∧ MapIs wr w.heap.size (dirsE o) ∧ Strs w.heap.size wr out o ∧ Below w.heap.size w wr) (fun _ i _ => Bs.length - (intOf i).toNat)
 case atStart => exact ⟨0, [], rfl, Nat.zero_le _, met_nil Ls, hm0.out, hnil.out, hB0.out⟩
 case round =>
  clear hm0 hB0 hnil hmk
  obtain ⟨k, o, rfl, hk, hMt, hM, hS, hB⟩ := hrel
  obtain ⟨oA, oc, ho, hc1, hc2⟩ := own_shape hS.own
  subst ho
  unfold maxLen at hc2
  by_cases hlt : k < Bs.length
  ·have hkl : k < Ls.length := by rw [← hn.out]; exact hlt
   obtain ⟨b0, hSt⟩ := hb.out k Bs[k] Ls[k] (List.getElem?_eq_getElem hlt) (List.getElem?_eq_getElem hkl)
   have hLk : Ls[k]? = some Ls[k] := List.getElem?_eq_getElem hkl
   have hLf : ∀ y ∈ Ls[k], y ∈ Ls.flatten := fun y hy => List.mem_flatten.2 ⟨_, List.getElem_mem hkl, hy⟩
   have bx := (hB.cell (cell_lt b0)).trans b0
   have hblt := hSt.lt
   have hSt' := hSt.below hB
   generalize Bs[k] = bb at *
   generalize Ls[k] = L at *
   obtain ⟨A, hMA, _⟩ := hSt'
   have hki : (k : Int) < (Bs.length : Int) := by omega
   have hmbr := hM.lt
   replace hLk := hid hLk
   replace hLf := hid hLf
   replace hMA := hid hMA
   replace hMt := hid hMt
   replace hM := hid hM
   replace hS := hid hS
   replace hB := hid hB
   replace hSt := hid hSt
   replace hblt := hid hblt
   replace hmbr := hid hmbr
   clear b0
   go_wp2_with (at_range; refine wp_range _ rfl _ 69 rfl 9 74 under_states bb _ rfl hMA.out ?_)
   intro w1 hrg1 hg1 hs1
   have hM1 := hM.out.kept hg1 (by simp)
   have hS1 : Strs w.heap.size w1 (.slice oA o.length oc) o := own_kept hS.out hg1 (fun b hb => by simp)
   have hB1 : Below w.heap.size w w1 := hB.out.grown hg1 hB.out.size (fun j hj => by cases hj)
   generalize wr.heap.size = r at *
   replace hM1 := hid hM1
   replace hS1 := hid hS1
   replace hB1 := hid hB1
   replace hrg1 := hid hrg1
   clear hM hS hB hg1 hs1 hMA bx
   go_wp2_with fail
   try go_frame
   go_loopw [4, 7] (fun out x wr => ∃ (o : List Bytes) (done leftK : List Ent) (left : List (Value × Value)), Met Ls k done o ∧ MapIs wr w.heap.size (dirsE o) ∧ Strs w.heap.size wr out o ∧ Below w.heap.size w wr ∧ Ranges wr bb r (stE A L) left ∧ left.Perm (stE A leftK) ∧ L.Perm (done ++ leftK)) (fun _ _ wr => wr.rangeLeft bb r)
   case atStart => exact ⟨o, [], L, _, hMt.out, hM1.out, hS1.out, hB1.out, hrg1.out, .refl _, .refl _⟩
   case round =>
    clear hM1 hS1 hB1 hrg1 hMt hc1 hc2
    obtain ⟨o, done, leftK, left, hMt, hM, hS, hB, hrg, hL, hK⟩ := hrel
    obtain ⟨oA, oc, ho, hc1, hc2⟩ := own_shape hS.own
    subst ho
    unfold maxLen at hc2
    replace hMt := hid hMt
    replace hM := hid hM
    replace hS := hid hS
    replace hB := hid hB
    replace hL := hid hL
    replace hK := hid hK
    go_wp2_with (at_next; refine wp_next _ rfl _ rfl bb r _ _ rfl hrg ?_ ?_)
    ·intro hl0
     have hLK : leftK = [] := stE_nil (A := A) (by have := hL.out; rwa [hl0] at this)
     have hLd : L.Perm done := by
      have := hK.out
      rwa [hLK, List.append_nil] at this
     have hMt2 := hMt.out.next hLk.out hLd
     replace hMt2 := hid hMt2
     clear hrg hl0 hLK hLd
     go_wp2
     go_roundw
     case rel => exact ⟨k + 1, o, by go_num, by omega, hMt2.out, hM.out, hS.out, hB.out⟩
     case measure => simp [intOf]; omega
    ·intro x v left' w2 hp2 hmem hrg2 hg2 hs2 hen
     obtain ⟨y, L', hL1, rfl, rfl, hL2⟩ := stE_pick hL.out hp2
     have hK2 : L.Perm ((done ++ [y]) ++ L') := hK.out.trans (by simpa using hL1.append_left done)
     have hyL : y ∈ L := hK2.mem_iff.2 (by simp)
     have hS2 : Strs w.heap.size w2 (.slice oA o.length oc) o := own_kept hS.out hg2 (own_ne_iter hS.out hrg)
     have hM2 := hM.out.kept hg2 (by intro e; cases e; have := hmbr.out; omega)
     have hB2 : Below w.heap.size w w2 := hB.out.grown hg2 hB.out.size (fun b hb => by cases hb; have := hmbr.out; omega)
     have hmeas : wr.rangeLeft bb r = left.length := hrg.left_eq
     have hllt : left'.length < left.length := by have := hp2.length_eq; simp at this; omega
     have hlk := met_look y.path hM2
     have hfew := hMt.out.few (fun z hz => hLf.out z (hK2.mem_iff.2 (by simp [hz])))
     unfold ptr at hen
     replace hK2 := hid hK2
     replace hL2 := hid hL2
     replace hmeas := hid hmeas
     replace hyL := hid hyL
     replace hS2 := hid hS2
     replace hM2 := hid hM2
     replace hB2 := hid hB2
     clear hK hL hL1 hp2 hmem hrg hS hM hB hg2 hs2
     by_cases hin : y.path ∈ o
     ·have hMt2 := hMt.out.old hin
      rw [decide_eq_true hin] at hlk
      generalize y.path = q at *
      replace hMt2 := hid hMt2
      replace hlk := hid hlk
      replace hin := hid hin
      replace hrg2 := hid hrg2
      go_wp2_with (at_lookup; refine wp_look _ rfl _ _ 115 false rfl (.map (some w.heap.size)) (.string (mkS q)) _ rfl rfl hlk.out ?_)
      go_roundw
      case rel => exact ⟨o, done ++ [y], L', left', hMt2.out, hM2.out, hS2.out, hB2.out, hrg2.out, hL2.out, hK2.out⟩
      case measure => rw [hrg2.out.left_eq, hmeas.out]; exact hllt
     ·have hMt2 := hMt.out.new hin
      rw [decide_eq_false hin] at hlk
      obtain ⟨w3, hsto, hM3, hg3⟩ := dirs_store hM2.out hin
      have hS3 : Strs w.heap.size w3 (.slice oA o.length oc) o := own_kept hS2.out hg3 (own_ne_map hS2.out hM2.out)
      have hrg3 := hrg2.kept hg3 (by intro e; cases e; have := hblt.out; omega) (by intro e; cases e; have := hmbr.out; omega)
      have hB3 := hB2.out.grown hg3 hB2.out.size (fun b hb => by cases hb; exact Nat.le_refl _)
      generalize y.path = q at *
      replace hMt2 := hid hMt2
      replace hlk := hid hlk
      replace hin := hid hin
      replace hsto := hid hsto
      replace hM3 := hid hM3
      replace hS3 := hid hS3
      replace hrg3 := hid hrg3
      replace hB3 := hid hB3
      clear hg3 hrg2
      go_wp2_with (first | (at_lookup; refine wp_look _ rfl _ _ 115 false rfl (.map (some w.heap.size)) (.string (mkS q)) _ rfl rfl hlk.out ?_) | (at_mapUpdate; refine wp_store _ rfl _ _ _ 115 rfl (.map (some w.heap.size)) (.string (mkS q)) (.bool true) rfl rfl rfl w3 hsto.out ?_) | (at_builtin; refine wp_append1 w.heap.size rfl (.tmp 27) (.tmp 29) 62 9 rfl Tryz.underlying62 (.string ⟨#[]⟩) 1 16 info_string rfl (by decide) (.slice oA o.length oc) _ _ rfl [.string (mkS q)] rfl hS3.out rfl ?_ ?_ ?_ hB3.out.size ?_))
      ·simp [Value.oneCell']
      ·simp only [maxLen]; omega
      ·omega
      ·intro v1 w4 g1 hg hat
       have hM4 := hM3.out.kept hg (fun e => own_ne_map hS3.out hM3.out _ e.symm rfl)
       have hrg4 := hrg3.out.kept hg (fun e => own_ne_map hS3.out hrg3.out.is _ e.symm rfl) (fun e => own_ne_iter hS3.out hrg3.out _ e.symm rfl)
       have hB4 := hB3.out.grown hg hB3.out.size (own_base hS3.out)
       have hS4 : Strs w.heap.size w4 v1 (o ++ [q]) := Strs.snoc g1
       replace hM4 := hid hM4
       replace hrg4 := hid hrg4
       replace hB4 := hid hB4
       replace hS4 := hid hS4
       clear g1 hg hat
       go_wp2
       go_roundw
       case rel => exact ⟨o ++ [q], done ++ [y], L', left', hMt2.out, hM4.out, hS4.out, hB4.out, hrg4.out, hL2.out, hK2.out⟩
       case measure => rw [hrg4.out.left_eq, hmeas.out]; exact hllt
  ·obtain rfl : k = Bs.length := by omega
   rw [hn.out] at hMt
   have hfew := hMt.few (by simp)
   have hfrom := hMt.from (by simp)
   have hso := sort_calls (.slice oA o.length oc) o wr hS.rd (by omega) (fun y hy => by
    obtain ⟨z, hz, rfl⟩ := List.mem_map.1 (hfrom y hy)
    exact hp.out z hz)
   replace hMt := hid hMt
   replace hM := hid hM
   replace hS := hid hS
   replace hB := hid hB
   replace hso := hid hso
   replace hfrom := hid hfrom
   go_wp2_with fail
   (with_reducible refine (hso.out).mono ?_)
   rintro e w1 ⟨⟨v2, rfl, hS2⟩, hB2⟩
   go_wp2
   go_ret
   exact ⟨⟨_, o, rfl, hMt.out, own_low hS2 hB.out.size⟩, below_step hB.out hB2⟩
end Go.Proofs.YtcjlfkklpghjbaaGreat

namespace Go.Proofs.YtcjlfkklpghjbaaGreat
open Go.RowKit
def heldK (l : Acts44) (L R : List Ent) (p : Bytes) : Int × Bool :=
  let b := isDirE (entAt R p)
  let own := if b = true then R else L
  let other := if b = true then L else R
  let away : Int := if b = true then 1 else 2
  if isDirE (entAt L p) = b ∨ (actAt l p).getD 0 ≠ away then (0, false)
  else if belowA l own p away = true then ((if (entAt other p).isSome = true then 0 else 3 - away), true) else (0, false)
theorem heldK_is {l : Acts44} {L R : List Ent} (hn : (l.map (·.1)).Nodup) {y : Bytes × Int} (hy : y ∈ l) : heldA l L R y = if (heldK l L R y.1).2 = true then (heldK l L R y.1).1 else y.2 := by
 obtain ⟨p, t⟩ := y
 have hat := actAt_of hn hy
 dsimp only at hat ⊢
 unfold heldA heldK
 dsimp only
 rw [hat]
 cases isDirE (entAt R p) with
 | true =>
  cases isDirE (entAt L p) with
  | true => simp
  | false =>
   by_cases ht : t = 1
   ·subst ht
    by_cases hb : belowA l R p 1 = true
    ·cases h9 : entAt L p <;> simp [hb, h9]
    ·simp [hb]
   ·simp [ht]
 | false =>
  cases isDirE (entAt L p) with
  | false => simp
  | true =>
   by_cases ht : t = 2
   ·subst ht
    by_cases hb : belowA l L p 2 = true
    ·cases h9 : entAt R p <;> simp [hb, h9]
    ·simp [hb]
   ·simp [ht]
def condQ (l : Acts44) (p : Bytes) (away : Int) (q : Bytes) : Bool := decide (q ≠ p) && under q p && (actAt l q).isSome && decide ((actAt l q).getD 0 ≠ away)
theorem belowA_own {l : Acts44} {own : List Ent} {p : Bytes} {away : Int} (hn : (l.map (·.1)).Nodup) : belowA l own p away = own.any fun x => condQ l p away x.path := by
 rw [Bool.eq_iff_iff]
 unfold belowA condQ
 simp only [List.any_eq_true, Bool.and_eq_true, decide_eq_true_eq]
 constructor
 ·rintro ⟨y, hy, ⟨⟨h1, h2⟩, h3⟩, h4⟩
  obtain ⟨x, hx⟩ := Option.isSome_iff_exists.1 h4
  obtain ⟨h5, h6⟩ := entAt_some hx
  have h7 := actAt_of hn hy
  refine ⟨x, h5, ?_⟩
  rw [h6, h7]
  exact ⟨⟨⟨h1, h2⟩, rfl⟩, h3⟩
 ·rintro ⟨x, hx, ⟨⟨h1, h2⟩, h3⟩, h4⟩
  obtain ⟨t, ht⟩ := Option.isSome_iff_exists.1 h3
  rw [ht] at h4
  refine ⟨(x.path, t), actAt_some ht, ⟨⟨h1, h2⟩, h4⟩, ?_⟩
  cases he : entAt own x.path with
  | none => exact absurd rfl (entAt_none he x hx)
  | some z => rfl
set_option maxHeartbeats 8000000 in
set_option maxRecDepth 100000 in
theorem rheld_calls (p : Bytes) (lb rb wb : Nat) (l : Acts44) (L R : List Ent) (w : World) (hL : States w lb L) (hR : States w rb R) (hW : MapIs w wb (intE l)) (hn : (l.map (·.1)).Nodup) (hp : p.length ≤ 1000000) (hLp : ∀ x ∈ L, x.path.length ≤ 1000000) (hRp : ∀ x ∈ R, x.path.length ≤ 1000000) :
  Calls Tryz.prog 34 #[.string (mkS p), .map (some lb), .map (some rb), .map (some wb)] w fun e w' => e = .returned (.tuple #[.int .i64 (heldK l L R p).1, .bool (heldK l L R p).2]) ∧ Below w.heap.size w w' := by
 obtain ⟨v1, hv1, hlk1⟩ := st_look hL p
 obtain ⟨v2, hv2, hlk2⟩ := st_look hR p
 have hlw : ∀ W', Below w.heap.size w W' → (Instr.lookup 71 (.map (some wb)) (.string (mkS p)) false).run Tryz.prog W' = .ok (.int .i64 ((actAt l p).getD 0)) W' := fun W' hb => int_look (hW.of_block (hb.block _ hW.lt)) p
 have hlq : ∀ q W', Below w.heap.size w W' → (Instr.lookup 71 (.map (some wb)) (.string (mkS q)) true).run Tryz.prog W' = .ok (.tuple #[.int .i64 ((actAt l q).getD 0), .bool (actAt l q).isSome]) W' := fun q W' hb => int_look2 (hW.of_block (hb.block _ hW.lt)) q
 have hd1 := fun W' (hb : Below w.heap.size w W') => rdir_calls v1 (entAt L p) W' (hv1.below hb)
 have hd2 := fun W' (hb : Below w.heap.size w W') => rdir_calls v2 (entAt R p) W' (hv2.below hb)
 have hn1 : v1 = .pointer none ↔ (entAt L p).isSome = false := by
  cases h : entAt L p with
  | none => rw [h] at hv1; exact ⟨fun _ => rfl, fun _ => hv1⟩
  | some x => rw [h] at hv1; obtain ⟨g, rfl, _⟩ := hv1; simp [ptr]
 have hn2 : v2 = .pointer none ↔ (entAt R p).isSome = false := by
  cases h : entAt R p with
  | none => rw [h] at hv2; exact ⟨fun _ => rfl, fun _ => hv2⟩
  | some x => rw [h] at hv2; obtain ⟨g, rfl, _⟩ := hv2; simp [ptr]
 obtain ⟨g1, rfl⟩ := hv1.shape
 obtain ⟨g2, rfl⟩ := hv2.shape
 have hps := mkS_size p
 have hbL := @belowA_own l L p 2 hn
 have hbR := @belowA_own l R p 1 hn
 obtain ⟨A1, hM1, _⟩ := id hL
 obtain ⟨A2, hM2, _⟩ := id hR
 have hK : heldK l L R p = if isDirE (entAt L p) = isDirE (entAt R p) ∨ (actAt l p).getD 0 ≠ (if isDirE (entAt R p) = true then 1 else 2) then (0, false) else if belowA l (if isDirE (entAt R p) = true then R else L) p (if isDirE (entAt R p) = true then 1 else 2) = true then ((if (if isDirE (entAt R p) = true then (entAt L p).isSome else (entAt R p).isSome) = true then 0 else 3 - (if isDirE (entAt R p) = true then 1 else 2)), true) else (0, false) := by
  unfold heldK
  cases isDirE (entAt R p) <;> rfl
 generalize heldK l L R p = hk at *
 generalize (entAt L p).isSome = s1 at *
 generalize (entAt R p).isSome = s2 at *
 generalize isDirE (entAt L p) = a at *
 generalize isDirE (entAt R p) = b at *
 generalize (actAt l p).getD 0 = t at *
 have hdx1 := fun x : Gr w => (hd1 x.1 x.2).mono (R' := fun e w' => e = .returned (.bool a) ∧ Below x.1.heap.size x.1 w') (fun _ _ h => ⟨h.1, h.2 ▸ Below.refl _ _⟩)
 have hdx2 := fun x : Gr w => (hd2 x.1 x.2).mono (R' := fun e w' => e = .returned (.bool b) ∧ Below x.1.heap.size x.1 w') (fun _ _ h => ⟨h.1, h.2 ▸ Below.refl _ _⟩)
 have lk1 := fun x : Gr w => hlk1 x.1 x.2
 have lk2 := fun x : Gr w => hlk2 x.1 x.2
 have lkw := fun x : Gr w => hlw x.1 x.2
 replace hL := hid hL
 replace hR := hid hR
 replace hW := hid hW
 replace hn := hid hn
 replace hlk1 := hid hlk1
 replace hlk2 := hid hlk2
 replace hlw := hid hlw
 replace hlq := hid hlq
 replace hd1 := hid hd1
 replace hd2 := hid hd2
 replace hn1 := hid hn1
 replace hn2 := hid hn2
 replace hM1 := hid hM1
 replace hM2 := hid hM2
 replace hbL := hid hbL
 replace hbR := hid hbR
 replace hLp := hid hLp
 replace hRp := hid hRp
 replace hv1 := hid hv1
 replace hv2 := hid hv2
 replace hdx1 := hid hdx1
 replace hdx2 := hid hdx2
 replace hK := hid hK
 replace lk1 := hid lk1
 replace lk2 := hid lk2
 replace lkw := hid lkw
 cases b with
 | true =>
  cases a with
  | true =>
   have hz : hk = (0, false) := by rw [hK.out]; simp
   replace hz := hid hz
   go_enter Tryz.func34, Tryz.ntmps34
   go_wp2_with (at_lookup; refine wp_look _ rfl _ _ 69 false rfl (.map (some rb)) (.string (mkS p)) _ rfl rfl (hlk2.out _ (Below.refl _ _)) ?_)
   (with_reducible refine (hd2.out _ (Below.refl _ _)).mono ?_)
   rintro e w0 ⟨rfl, rfl⟩
   go_upto_region 4 with fail
   refine wp_region_grow (by kernel_rfl) (by kernel_rfl) ?_
   repeat (any_goals (first
    | go_big_quiet_step ((go_at_call 36; first | with_reducible exact grow_of _ (hdx1.out _) | with_reducible exact grow_of _ (hdx2.out _)))
    | (refine BigFrame.wpQuiet_want rfl (fun K hK => ?_); refine quiet_lookup _ _ _ _ rfl _ _ _ rfl rfl (by rintro W ⟨x, rfl⟩; first | exact lk1.out x | exact lk2.out x | exact lkw.out x) ?_; refine hK _ ?_; clear hK K; simp only [Act.put, List.setIfInBounds_toArray, List.set_cons_zero, List.set_cons_succ])))
   refine wpQuiet_nil ?_
   rintro w1 ⟨⟨W1, hB1⟩, hW1⟩
   obtain rfl : w1 = W1 := hW1
   go_wp2
   go_ret2
   exact ⟨by rw [hz.out]; rfl, hB1⟩
  | false =>
   by_cases ht : t = 1
   ·subst ht
    have hoth : ∃ q, g1 = q ∧ ((q = none ∧ s1 = false) ∨ (∃ ad, q = some ad) ∧ s1 = true) := by
     refine ⟨_, rfl, ?_⟩
     cases hS : s1 with
     | false => exact Or.inl ⟨by simpa using hn1.out.2 hS, rfl⟩
     | true =>
      cases hG : g1 with
      | none => exact absurd (hn1.out.1 (by rw [hG])) (by rw [hS]; simp)
      | some ad => exact Or.inr ⟨⟨ad, rfl⟩, rfl⟩
    replace hoth := hid hoth
    have hoff : belowA l R p 1 = false → hk = (0, false) := fun h => by rw [hK.out]; simp [h]
    have hon : belowA l R p 1 = true → hk = (if s1 = true then 0 else 2, true) := fun h => by rw [hK.out]; simp [h]
    replace hoff := hid hoff
    replace hon := hid hon
    go_enter Tryz.func34, Tryz.ntmps34
    go_wp2_with (at_lookup; refine wp_look _ rfl _ _ 69 false rfl (.map (some rb)) (.string (mkS p)) _ rfl rfl (hlk2.out _ (Below.refl _ _)) ?_)
    (with_reducible refine (hd2.out _ (Below.refl _ _)).mono ?_)
    rintro e w0 ⟨rfl, rfl⟩
    go_upto_region 4 with fail
    refine wp_region_grow (by kernel_rfl) (by kernel_rfl) ?_
    repeat (any_goals (first
     | go_big_quiet_step ((go_at_call 36; first | with_reducible exact grow_of _ (hdx1.out _) | with_reducible exact grow_of _ (hdx2.out _)))
     | (refine BigFrame.wpQuiet_want rfl (fun K hK => ?_); refine quiet_lookup _ _ _ _ rfl _ _ _ rfl rfl (by rintro W ⟨x, rfl⟩; first | exact lk1.out x | exact lk2.out x | exact lkw.out x) ?_; refine hK _ ?_; clear hK K; simp only [Act.put, List.setIfInBounds_toArray, List.set_cons_zero, List.set_cons_succ])))
    refine wpQuiet_nil ?_
    rintro w1 ⟨⟨W1, hB1⟩, hW1⟩
    obtain rfl : w1 = W1 := hW1
    have hM1' := hM2.out.of_block (hB1.block _ hM2.out.lt)
    replace hM1' := hid hM1'
    replace hB1 := hid hB1
    go_wp2_with (at_range; refine wp_range _ rfl _ 69 rfl 9 74 under_states rb _ rfl hM1'.out ?_)
    intro w2 hrg2 hg2 hs2
    have hB2 : Below w.heap.size w w2 := hB1.out.grown hg2 hB1.out.size (fun j hj => by cases hj)
    have hrlt : w.heap.size ≤ w1.heap.size := hB1.out.size
    generalize w1.heap.size = r at *
    replace hrg2 := hid hrg2
    replace hB2 := hid hB2
    replace hrlt := hid hrlt
    clear hg2 hs2 hM1' hB1
    go_wp2_with fail
    try go_frame
    go_loopw [13, 14, 15] (fun q ww dd wr => ∃ (done leftK : List Ent) (left : List (Value × Value)), (∀ x ∈ done, condQ l p 1 x.path = false) ∧ Ranges wr rb r (stE A2 R) left ∧ left.Perm (stE A2 leftK) ∧ (R).Perm (done ++ leftK) ∧ Below w.heap.size w wr) (fun _ _ _ wr => wr.rangeLeft rb r)
    case atStart => exact ⟨[], R, _, by simp, hrg2.out, .refl _, .refl _, hB2.out⟩
    case round =>
     clear hrg2 hB2
     obtain ⟨done, leftK, left, hno, hrg, hLp2, hKp, hB⟩ := hrel
     replace hno := hid hno
     replace hLp2 := hid hLp2
     replace hKp := hid hKp
     replace hB := hid hB
     go_wp2_with (at_next; refine wp_next _ rfl _ rfl rb r _ _ rfl hrg ?_ ?_)
     ·intro hl0
      have hLK : leftK = [] := stE_nil (A := A2) (by have := hLp2.out; rwa [hl0] at this)
      have hLd : (R).Perm done := by
       have := hKp.out
       rwa [hLK, List.append_nil] at this
      have hz := hoff.out (by
       rw [hbR.out, List.any_eq_false]
       intro x hx
       rw [hno.out x (hLd.mem_iff.1 hx)]
       simp)
      replace hz := hid hz
      clear hrg hl0 hLK hLd
      go_wp2
      go_ret2
      exact ⟨by rw [hz.out]; rfl, hB.out⟩
     ·intro x v left' w2 hp2 hmem hrg2 hg2 hs2 hen
      obtain ⟨y, L', hL1, rfl, rfl, hL2⟩ := stE_pick hLp2.out hp2
      have hK2 : (R).Perm ((done ++ [y]) ++ L') := hKp.out.trans (by simpa using hL1.append_left done)
      have hyL : y ∈ R := hK2.mem_iff.2 (by simp)
      have hB2 : Below w.heap.size w w2 := hB.out.grown hg2 hB.out.size (fun b hb => by cases hb; exact hrlt.out)
      have hmeas : wr.rangeLeft rb r = left.length := hrg.left_eq
      have hllt : left'.length < left.length := by have := hp2.length_eq; simp at this; omega
      have hlkq := hlq.out y.path w2 hB2
      have hyp := hRp.out y hyL
      have hcq : condQ l p 1 y.path = (decide (y.path ≠ p) && under y.path p && (actAt l y.path).isSome && decide ((actAt l y.path).getD 0 ≠ 1)) := rfl
      have hyes : condQ l p 1 y.path = true → hk = (if s1 = true then 0 else 2, true) := fun h => hon.out (by
       rw [hbR.out, List.any_eq_true]
       exact ⟨y, hyL, h⟩)
      have hnn : condQ l p 1 y.path = false → ∀ x ∈ done ++ [y], condQ l p 1 x.path = false := fun h x hx => by
       rcases List.mem_append.1 hx with hx | hx
       ·exact hno.out x hx
       ·rw [List.mem_singleton.1 hx]
        exact h
      generalize condQ l p 1 y.path = cq at *
      generalize y.path = q at *
      generalize (actAt l q).getD 0 = tq at *
      generalize (actAt l q).isSome = sq at *
      generalize hu : under q p = u at *
      have hqs := mkS_size q
      have hun := fun W => under_calls (mkS q) (mkS p) W (by omega) (by omega)
      rw [bl_mkS, bl_mkS, hu] at hun
      have hlko := fun W hW => hlk1.out W hW
      unfold ptr at hen
      replace hK2 := hid hK2
      replace hL2 := hid hL2
      replace hmeas := hid hmeas
      replace hyL := hid hyL
      replace hB2 := hid hB2
      replace hllt := hid hllt
      replace hlkq := hid hlkq
      replace hcq := hid hcq
      replace hyes := hid hyes
      replace hnn := hid hnn
      replace hun := hid hun
      replace hlko := hid hlko
      replace hrg2 := hid hrg2
      clear hKp hLp2 hL1 hp2 hmem hrg hB hg2 hs2 hno hu
      by_cases hqp : q = p
      ·have t1 : ((mkS q).toList == (mkS p).toList) = true := strs_alike (by rw [hqp])
       replace hqp := hid hqp
       have hn2' := hnn.out (by rw [hcq.out]; first | rfl | simp [hqp.out] | simp [htq.out] | simp)
       replace hn2' := hid hn2'
       go_wp2_with (at_lookup; refine wp_look _ rfl _ _ 71 true rfl (.map (some wb)) (.string (mkS q)) _ rfl rfl hlkq.out ?_)
       go_roundw
       case rel => exact ⟨done ++ [y], L', left', hn2'.out, hrg2.out, hL2.out, hK2.out, hB2.out⟩
       case measure => rw [hrg2.out.left_eq, hmeas.out]; exact hllt.out
      ·have t1 : ((mkS q).toList == (mkS p).toList) = false := strs_diff (fun e => hqp (mkS_inj e))
       replace hqp := hid hqp
       cases u with
       | false =>
        go_wp2_with (at_lookup; refine wp_look _ rfl _ _ 71 true rfl (.map (some wb)) (.string (mkS q)) _ rfl rfl hlkq.out ?_)
        (with_reducible refine (hun.out _).mono ?_)
        rintro e w3 ⟨rfl, hB3⟩
        have hrg3 := hrg2.out.of_blocks (hB3.block _ hrg2.out.is.lt) (hB3.block _ hrg2.out.lt)
        have hB03 := below_step hB2.out hB3
        replace hrg3 := hid hrg3
        replace hB03 := hid hB03
        clear hB3
        have hn2' := hnn.out (by rw [hcq.out]; first | rfl | simp [htq.out] | simp)
        replace hn2' := hid hn2'
        go_wp2
        go_roundw
        case rel => exact ⟨done ++ [y], L', left', hn2'.out, hrg3.out, hL2.out, hK2.out, hB03.out⟩
        case measure => rw [hrg3.out.left_eq, hmeas.out]; exact hllt.out
       | true =>
        cases sq with
        | false =>
         go_wp2_with (at_lookup; refine wp_look _ rfl _ _ 71 true rfl (.map (some wb)) (.string (mkS q)) _ rfl rfl hlkq.out ?_)
         (with_reducible refine (hun.out _).mono ?_)
         rintro e w3 ⟨rfl, hB3⟩
         have hrg3 := hrg2.out.of_blocks (hB3.block _ hrg2.out.is.lt) (hB3.block _ hrg2.out.lt)
         have hB03 := below_step hB2.out hB3
         replace hrg3 := hid hrg3
         replace hB03 := hid hB03
         clear hB3
         have hn2' := hnn.out (by rw [hcq.out]; first | rfl | simp [htq.out] | simp)
         replace hn2' := hid hn2'
         go_wp2
         go_roundw
         case rel => exact ⟨done ++ [y], L', left', hn2'.out, hrg3.out, hL2.out, hK2.out, hB03.out⟩
         case measure => rw [hrg3.out.left_eq, hmeas.out]; exact hllt.out
        | true =>
         by_cases htq : tq = 1
         ·have t2 : (tq != 1) = false := by simpa using htq
          replace htq := hid htq
          go_wp2_with (at_lookup; refine wp_look _ rfl _ _ 71 true rfl (.map (some wb)) (.string (mkS q)) _ rfl rfl hlkq.out ?_)
          (with_reducible refine (hun.out _).mono ?_)
          rintro e w3 ⟨rfl, hB3⟩
          have hrg3 := hrg2.out.of_blocks (hB3.block _ hrg2.out.is.lt) (hB3.block _ hrg2.out.lt)
          have hB03 := below_step hB2.out hB3
          replace hrg3 := hid hrg3
          replace hB03 := hid hB03
          clear hB3
          have hn2' := hnn.out (by rw [hcq.out]; first | rfl | simp [htq.out] | simp)
          replace hn2' := hid hn2'
          go_wp2
          go_roundw
          case rel => exact ⟨done ++ [y], L', left', hn2'.out, hrg3.out, hL2.out, hK2.out, hB03.out⟩
          case measure => rw [hrg3.out.left_eq, hmeas.out]; exact hllt.out
         ·have t2 : (tq != 1) = true := by simpa using htq
          have hz := hyes.out (by rw [hcq.out]; simp [hqp.out, htq])
          replace htq := hid htq
          replace hz := hid hz
          go_wp2_with (at_lookup; refine wp_look _ rfl _ _ 71 true rfl (.map (some wb)) (.string (mkS q)) _ rfl rfl hlkq.out ?_)
          (with_reducible refine (hun.out _).mono ?_)
          rintro e w3 ⟨rfl, hB3⟩
          have hrg3 := hrg2.out.of_blocks (hB3.block _ hrg2.out.is.lt) (hB3.block _ hrg2.out.lt)
          have hB03 := below_step hB2.out hB3
          replace hrg3 := hid hrg3
          replace hB03 := hid hB03
          clear hB3
          obtain ⟨qo, hqo, hqo2⟩ := hoth.out
          subst hqo
          have hlk9 := hlko.out _ hB03.out
          rcases hqo2 with ⟨rfl, hs⟩ | ⟨⟨ad, rfl⟩, hs⟩
          ·have hz2 := hz.out
           rw [hs] at hz2
           replace hz2 := hid hz2
           replace hs := hid hs
           go_wp2_with (at_lookup; refine wp_look _ rfl _ _ 69 false rfl (.map (some lb)) (.string (mkS p)) _ rfl rfl hlk9 ?_)
           go_ret2
           exact ⟨by rw [hz2.out]; rfl, hB03.out⟩
          ·have hz2 := hz.out
           rw [hs] at hz2
           replace hz2 := hid hz2
           replace hs := hid hs
           go_wp2_with (at_lookup; refine wp_look _ rfl _ _ 69 false rfl (.map (some lb)) (.string (mkS p)) _ rfl rfl hlk9 ?_)
           go_ret2
           exact ⟨by rw [hz2.out]; rfl, hB03.out⟩
   ·have hz : hk = (0, false) := by rw [hK.out]; simp [ht]
    have t1 : (t != 1) = true := by simpa using ht
    replace hz := hid hz
    replace ht := hid ht
    go_enter Tryz.func34, Tryz.ntmps34
    go_wp2_with (at_lookup; refine wp_look _ rfl _ _ 69 false rfl (.map (some rb)) (.string (mkS p)) _ rfl rfl (hlk2.out _ (Below.refl _ _)) ?_)
    (with_reducible refine (hd2.out _ (Below.refl _ _)).mono ?_)
    rintro e w0 ⟨rfl, rfl⟩
    go_upto_region 4 with fail
    refine wp_region_grow (by kernel_rfl) (by kernel_rfl) ?_
    repeat (any_goals (first
     | go_big_quiet_step ((go_at_call 36; first | with_reducible exact grow_of _ (hdx1.out _) | with_reducible exact grow_of _ (hdx2.out _)))
     | (refine BigFrame.wpQuiet_want rfl (fun K hK => ?_); refine quiet_lookup _ _ _ _ rfl _ _ _ rfl rfl (by rintro W ⟨x, rfl⟩; first | exact lk1.out x | exact lk2.out x | exact lkw.out x) ?_; refine hK _ ?_; clear hK K; simp only [Act.put, List.setIfInBounds_toArray, List.set_cons_zero, List.set_cons_succ])))
    refine wpQuiet_nil ?_
    rintro w1 ⟨⟨W1, hB1⟩, hW1⟩
    obtain rfl : w1 = W1 := hW1
    go_wp2
    go_ret2
    exact ⟨by rw [hz.out]; rfl, hB1⟩
 | false =>
  cases a with
  | false =>
   have hz : hk = (0, false) := by rw [hK.out]; simp
   replace hz := hid hz
   go_enter Tryz.func34, Tryz.ntmps34
   go_wp2_with (at_lookup; refine wp_look _ rfl _ _ 69 false rfl (.map (some rb)) (.string (mkS p)) _ rfl rfl (hlk2.out _ (Below.refl _ _)) ?_)
   (with_reducible refine (hd2.out _ (Below.refl _ _)).mono ?_)
   rintro e w0 ⟨rfl, rfl⟩
   go_upto_region 4 with fail
   refine wp_region_grow (by kernel_rfl) (by kernel_rfl) ?_
   repeat (any_goals (first
    | go_big_quiet_step ((go_at_call 36; first | with_reducible exact grow_of _ (hdx1.out _) | with_reducible exact grow_of _ (hdx2.out _)))
    | (refine BigFrame.wpQuiet_want rfl (fun K hK => ?_); refine quiet_lookup _ _ _ _ rfl _ _ _ rfl rfl (by rintro W ⟨x, rfl⟩; first | exact lk1.out x | exact lk2.out x | exact lkw.out x) ?_; refine hK _ ?_; clear hK K; simp only [Act.put, List.setIfInBounds_toArray, List.set_cons_zero, List.set_cons_succ])))
   refine wpQuiet_nil ?_
   rintro w1 ⟨⟨W1, hB1⟩, hW1⟩
   obtain rfl : w1 = W1 := hW1
   go_wp2
   go_ret2
   exact ⟨by rw [hz.out]; rfl, hB1⟩
  | true =>
   by_cases ht : t = 2
   ·subst ht
    have hoth : ∃ q, g2 = q ∧ ((q = none ∧ s2 = false) ∨ (∃ ad, q = some ad) ∧ s2 = true) := by
     refine ⟨_, rfl, ?_⟩
     cases hS : s2 with
     | false => exact Or.inl ⟨by simpa using hn2.out.2 hS, rfl⟩
     | true =>
      cases hG : g2 with
      | none => exact absurd (hn2.out.1 (by rw [hG])) (by rw [hS]; simp)
      | some ad => exact Or.inr ⟨⟨ad, rfl⟩, rfl⟩
    replace hoth := hid hoth
    have hoff : belowA l L p 2 = false → hk = (0, false) := fun h => by rw [hK.out]; simp [h]
    have hon : belowA l L p 2 = true → hk = (if s2 = true then 0 else 1, true) := fun h => by rw [hK.out]; simp [h]
    replace hoff := hid hoff
    replace hon := hid hon
    go_enter Tryz.func34, Tryz.ntmps34
    go_wp2_with (at_lookup; refine wp_look _ rfl _ _ 69 false rfl (.map (some rb)) (.string (mkS p)) _ rfl rfl (hlk2.out _ (Below.refl _ _)) ?_)
    (with_reducible refine (hd2.out _ (Below.refl _ _)).mono ?_)
    rintro e w0 ⟨rfl, rfl⟩
    go_upto_region 4 with fail
    refine wp_region_grow (by kernel_rfl) (by kernel_rfl) ?_
    repeat (any_goals (first
     | go_big_quiet_step ((go_at_call 36; first | with_reducible exact grow_of _ (hdx1.out _) | with_reducible exact grow_of _ (hdx2.out _)))
     | (refine BigFrame.wpQuiet_want rfl (fun K hK => ?_); refine quiet_lookup _ _ _ _ rfl _ _ _ rfl rfl (by rintro W ⟨x, rfl⟩; first | exact lk1.out x | exact lk2.out x | exact lkw.out x) ?_; refine hK _ ?_; clear hK K; simp only [Act.put, List.setIfInBounds_toArray, List.set_cons_zero, List.set_cons_succ])))
    refine wpQuiet_nil ?_
    rintro w1 ⟨⟨W1, hB1⟩, hW1⟩
    obtain rfl : w1 = W1 := hW1
    have hM1' := hM1.out.of_block (hB1.block _ hM1.out.lt)
    replace hM1' := hid hM1'
    replace hB1 := hid hB1
    go_wp2_with (at_range; refine wp_range _ rfl _ 69 rfl 9 74 under_states lb _ rfl hM1'.out ?_)
    intro w2 hrg2 hg2 hs2
    have hB2 : Below w.heap.size w w2 := hB1.out.grown hg2 hB1.out.size (fun j hj => by cases hj)
    have hrlt : w.heap.size ≤ w1.heap.size := hB1.out.size
    generalize w1.heap.size = r at *
    replace hrg2 := hid hrg2
    replace hB2 := hid hB2
    replace hrlt := hid hrlt
    clear hg2 hs2 hM1' hB1
    go_wp2_with fail
    try go_frame
    go_loopw [13, 14, 15] (fun q ww dd wr => ∃ (done leftK : List Ent) (left : List (Value × Value)), (∀ x ∈ done, condQ l p 2 x.path = false) ∧ Ranges wr lb r (stE A1 L) left ∧ left.Perm (stE A1 leftK) ∧ (L).Perm (done ++ leftK) ∧ Below w.heap.size w wr) (fun _ _ _ wr => wr.rangeLeft lb r)
    case atStart => exact ⟨[], L, _, by simp, hrg2.out, .refl _, .refl _, hB2.out⟩
    case round =>
     clear hrg2 hB2
     obtain ⟨done, leftK, left, hno, hrg, hLp2, hKp, hB⟩ := hrel
     replace hno := hid hno
     replace hLp2 := hid hLp2
     replace hKp := hid hKp
     replace hB := hid hB
     go_wp2_with (at_next; refine wp_next _ rfl _ rfl lb r _ _ rfl hrg ?_ ?_)
     ·intro hl0
      have hLK : leftK = [] := stE_nil (A := A1) (by have := hLp2.out; rwa [hl0] at this)
      have hLd : (L).Perm done := by
       have := hKp.out
       rwa [hLK, List.append_nil] at this
      have hz := hoff.out (by
       rw [hbL.out, List.any_eq_false]
       intro x hx
       rw [hno.out x (hLd.mem_iff.1 hx)]
       simp)
      replace hz := hid hz
      clear hrg hl0 hLK hLd
      go_wp2
      go_ret2
      exact ⟨by rw [hz.out]; rfl, hB.out⟩
     ·intro x v left' w2 hp2 hmem hrg2 hg2 hs2 hen
      obtain ⟨y, L', hL1, rfl, rfl, hL2⟩ := stE_pick hLp2.out hp2
      have hK2 : (L).Perm ((done ++ [y]) ++ L') := hKp.out.trans (by simpa using hL1.append_left done)
      have hyL : y ∈ L := hK2.mem_iff.2 (by simp)
      have hB2 : Below w.heap.size w w2 := hB.out.grown hg2 hB.out.size (fun b hb => by cases hb; exact hrlt.out)
      have hmeas : wr.rangeLeft lb r = left.length := hrg.left_eq
      have hllt : left'.length < left.length := by have := hp2.length_eq; simp at this; omega
      have hlkq := hlq.out y.path w2 hB2
      have hyp := hLp.out y hyL
      have hcq : condQ l p 2 y.path = (decide (y.path ≠ p) && under y.path p && (actAt l y.path).isSome && decide ((actAt l y.path).getD 0 ≠ 2)) := rfl
      have hyes : condQ l p 2 y.path = true → hk = (if s2 = true then 0 else 1, true) := fun h => hon.out (by
       rw [hbL.out, List.any_eq_true]
       exact ⟨y, hyL, h⟩)
      have hnn : condQ l p 2 y.path = false → ∀ x ∈ done ++ [y], condQ l p 2 x.path = false := fun h x hx => by
       rcases List.mem_append.1 hx with hx | hx
       ·exact hno.out x hx
       ·rw [List.mem_singleton.1 hx]
        exact h
      generalize condQ l p 2 y.path = cq at *
      generalize y.path = q at *
      generalize (actAt l q).getD 0 = tq at *
      generalize (actAt l q).isSome = sq at *
      generalize hu : under q p = u at *
      have hqs := mkS_size q
      have hun := fun W => under_calls (mkS q) (mkS p) W (by omega) (by omega)
      rw [bl_mkS, bl_mkS, hu] at hun
      have hlko := fun W hW => hlk2.out W hW
      unfold ptr at hen
      replace hK2 := hid hK2
      replace hL2 := hid hL2
      replace hmeas := hid hmeas
      replace hyL := hid hyL
      replace hB2 := hid hB2
      replace hllt := hid hllt
      replace hlkq := hid hlkq
      replace hcq := hid hcq
      replace hyes := hid hyes
      replace hnn := hid hnn
      replace hun := hid hun
      replace hlko := hid hlko
      replace hrg2 := hid hrg2
      clear hKp hLp2 hL1 hp2 hmem hrg hB hg2 hs2 hno hu
      by_cases hqp : q = p
      ·have t1 : ((mkS q).toList == (mkS p).toList) = true := strs_alike (by rw [hqp])
       replace hqp := hid hqp
       have hn2' := hnn.out (by rw [hcq.out]; first | rfl | simp [hqp.out] | simp [htq.out] | simp)
       replace hn2' := hid hn2'
       go_wp2_with (at_lookup; refine wp_look _ rfl _ _ 71 true rfl (.map (some wb)) (.string (mkS q)) _ rfl rfl hlkq.out ?_)
       go_roundw
       case rel => exact ⟨done ++ [y], L', left', hn2'.out, hrg2.out, hL2.out, hK2.out, hB2.out⟩
       case measure => rw [hrg2.out.left_eq, hmeas.out]; exact hllt.out
      ·have t1 : ((mkS q).toList == (mkS p).toList) = false := strs_diff (fun e => hqp (mkS_inj e))
       replace hqp := hid hqp
       cases u with
       | false =>
        go_wp2_with (at_lookup; refine wp_look _ rfl _ _ 71 true rfl (.map (some wb)) (.string (mkS q)) _ rfl rfl hlkq.out ?_)
        (with_reducible refine (hun.out _).mono ?_)
        rintro e w3 ⟨rfl, hB3⟩
        have hrg3 := hrg2.out.of_blocks (hB3.block _ hrg2.out.is.lt) (hB3.block _ hrg2.out.lt)
        have hB03 := below_step hB2.out hB3
        replace hrg3 := hid hrg3
        replace hB03 := hid hB03
        clear hB3
        have hn2' := hnn.out (by rw [hcq.out]; first | rfl | simp [htq.out] | simp)
        replace hn2' := hid hn2'
        go_wp2
        go_roundw
        case rel => exact ⟨done ++ [y], L', left', hn2'.out, hrg3.out, hL2.out, hK2.out, hB03.out⟩
        case measure => rw [hrg3.out.left_eq, hmeas.out]; exact hllt.out
       | true =>
        cases sq with
        | false =>
         go_wp2_with (at_lookup; refine wp_look _ rfl _ _ 71 true rfl (.map (some wb)) (.string (mkS q)) _ rfl rfl hlkq.out ?_)
         (with_reducible refine (hun.out _).mono ?_)
         rintro e w3 ⟨rfl, hB3⟩
         have hrg3 := hrg2.out.of_blocks (hB3.block _ hrg2.out.is.lt) (hB3.block _ hrg2.out.lt)
         have hB03 := below_step hB2.out hB3
         replace hrg3 := hid hrg3
         replace hB03 := hid hB03
         clear hB3
         have hn2' := hnn.out (by rw [hcq.out]; first | rfl | simp [htq.out] | simp)
         replace hn2' := hid hn2'
         go_wp2
         go_roundw
         case rel => exact ⟨done ++ [y], L', left', hn2'.out, hrg3.out, hL2.out, hK2.out, hB03.out⟩
         case measure => rw [hrg3.out.left_eq, hmeas.out]; exact hllt.out
        | true =>
         by_cases htq : tq = 2
         ·have t2 : (tq != 2) = false := by simpa using htq
          replace htq := hid htq
          go_wp2_with (at_lookup; refine wp_look _ rfl _ _ 71 true rfl (.map (some wb)) (.string (mkS q)) _ rfl rfl hlkq.out ?_)
          (with_reducible refine (hun.out _).mono ?_)
          rintro e w3 ⟨rfl, hB3⟩
          have hrg3 := hrg2.out.of_blocks (hB3.block _ hrg2.out.is.lt) (hB3.block _ hrg2.out.lt)
          have hB03 := below_step hB2.out hB3
          replace hrg3 := hid hrg3
          replace hB03 := hid hB03
          clear hB3
          have hn2' := hnn.out (by rw [hcq.out]; first | rfl | simp [htq.out] | simp)
          replace hn2' := hid hn2'
          go_wp2
          go_roundw
          case rel => exact ⟨done ++ [y], L', left', hn2'.out, hrg3.out, hL2.out, hK2.out, hB03.out⟩
          case measure => rw [hrg3.out.left_eq, hmeas.out]; exact hllt.out
         ·have t2 : (tq != 2) = true := by simpa using htq
          have hz := hyes.out (by rw [hcq.out]; simp [hqp.out, htq])
          replace htq := hid htq
          replace hz := hid hz
          go_wp2_with (at_lookup; refine wp_look _ rfl _ _ 71 true rfl (.map (some wb)) (.string (mkS q)) _ rfl rfl hlkq.out ?_)
          (with_reducible refine (hun.out _).mono ?_)
          rintro e w3 ⟨rfl, hB3⟩
          have hrg3 := hrg2.out.of_blocks (hB3.block _ hrg2.out.is.lt) (hB3.block _ hrg2.out.lt)
          have hB03 := below_step hB2.out hB3
          replace hrg3 := hid hrg3
          replace hB03 := hid hB03
          clear hB3
          obtain ⟨qo, hqo, hqo2⟩ := hoth.out
          subst hqo
          have hlk9 := hlko.out _ hB03.out
          rcases hqo2 with ⟨rfl, hs⟩ | ⟨⟨ad, rfl⟩, hs⟩
          ·have hz2 := hz.out
           rw [hs] at hz2
           replace hz2 := hid hz2
           replace hs := hid hs
           go_wp2_with (at_lookup; refine wp_look _ rfl _ _ 69 false rfl (.map (some rb)) (.string (mkS p)) _ rfl rfl hlk9 ?_)
           go_ret2
           exact ⟨by rw [hz2.out]; rfl, hB03.out⟩
          ·have hz2 := hz.out
           rw [hs] at hz2
           replace hz2 := hid hz2
           replace hs := hid hs
           go_wp2_with (at_lookup; refine wp_look _ rfl _ _ 69 false rfl (.map (some rb)) (.string (mkS p)) _ rfl rfl hlk9 ?_)
           go_ret2
           exact ⟨by rw [hz2.out]; rfl, hB03.out⟩
   ·have hz : hk = (0, false) := by rw [hK.out]; simp [ht]
    have t1 : (t != 2) = true := by simpa using ht
    replace hz := hid hz
    replace ht := hid ht
    go_enter Tryz.func34, Tryz.ntmps34
    go_wp2_with (at_lookup; refine wp_look _ rfl _ _ 69 false rfl (.map (some rb)) (.string (mkS p)) _ rfl rfl (hlk2.out _ (Below.refl _ _)) ?_)
    (with_reducible refine (hd2.out _ (Below.refl _ _)).mono ?_)
    rintro e w0 ⟨rfl, rfl⟩
    go_upto_region 4 with fail
    refine wp_region_grow (by kernel_rfl) (by kernel_rfl) ?_
    repeat (any_goals (first
     | go_big_quiet_step ((go_at_call 36; first | with_reducible exact grow_of _ (hdx1.out _) | with_reducible exact grow_of _ (hdx2.out _)))
     | (refine BigFrame.wpQuiet_want rfl (fun K hK => ?_); refine quiet_lookup _ _ _ _ rfl _ _ _ rfl rfl (by rintro W ⟨x, rfl⟩; first | exact lk1.out x | exact lk2.out x | exact lkw.out x) ?_; refine hK _ ?_; clear hK K; simp only [Act.put, List.setIfInBounds_toArray, List.set_cons_zero, List.set_cons_succ])))
    refine wpQuiet_nil ?_
    rintro w1 ⟨⟨W1, hB1⟩, hW1⟩
    obtain rfl : w1 = W1 := hW1
    go_wp2
    go_ret2
    exact ⟨by rw [hz.out]; rfl, hB1⟩
end Go.Proofs.YtcjlfkklpghjbaaGreat

namespace Go.Proofs.YtcjlfkklpghjbaaGreat
open Go.RowKit
theorem rise_drop {l : List Ent} (h : Rise l) {m : Nat} (hm : m < l.length) : ∀ y ∈ l.drop (m + 1), y.path ≠ l[m].path := by
 have h2 : Rise (l.drop m) := List.Pairwise.sublist (List.drop_sublist m l) h
 rw [List.drop_eq_getElem_cons hm] at h2
 intro y hy e
 exact lessP_ne ((List.pairwise_cons.1 h2).1 y hy) e.symm
set_option maxHeartbeats 4000000 in
set_option maxRecDepth 100000 in
theorem of_calls (v : Value) (l : List Ent) (w : World) (hv : Ents w v l) (hr : Rise l) (hl : l.length ≤ 1000000) :
  Calls Tryz.prog 30 #[v] w fun e w' => (∃ b, e = .returned (.map (some b)) ∧ w.heap.size ≤ b ∧ States w' b l) ∧ Below w.heap.size w w' := by
 obtain ⟨A, c, rfl, h2, h3⟩ := hv.shape
 unfold maxLen at h3
 have hmk := @run_makeMap Tryz.prog
 have hm0 : States (w.alloc (.map #[] 0)) w.heap.size (l.drop l.length) := by
  rw [List.drop_length]
  exact ⟨fun _ => 0, mapIs_made w, by simp⟩
 have hB0 : Below w.heap.size w (w.alloc (.map #[] 0)) := below_alloc (Below.refl _ _) _
 replace hv := hid hv
 replace hm0 := hid hm0
 replace hB0 := hid hB0
 go_enter Tryz.func30, Tryz.ntmps30
 go_wp2_with fail
 go_loopw [4] (fun i wr => ∃ (k : Nat) (j : Int), i = .int .i64 j ∧ j = (k : Int) - 1 ∧ k ≤ l.length ∧ States wr w.heap.size (l.drop k) ∧ Below w.heap.size w wr) (fun i _ => (intOf i + 1).toNat)
 case atStart => exact ⟨l.length, _, rfl, by first | rfl | (rw [IntWalk.i64_in _ (by omega)]), Nat.le_refl _, hm0.out, hB0.out⟩
 case round =>
  clear hm0 hB0 hmk
  obtain ⟨k, j, rfl, hj, hk, hS, hB⟩ := hrel
  by_cases h0 : k = 0
  ·have hjn : ¬ (0 ≤ j) := by omega
   subst h0
   rw [List.drop_zero] at hS
   replace hj := hid hj
   replace hS := hid hS
   replace hB := hid hB
   go_wp2
   go_ret
   exact ⟨⟨_, rfl, Nat.le_refl _, hS.out⟩, hB.out⟩
  ·obtain ⟨m, rfl⟩ : ∃ m, k = m + 1 := ⟨k - 1, by omega⟩
   obtain rfl : j = (m : Int) := by omega
   have hlt : m < l.length := by omega
   obtain ⟨g, o, rfl, c0, c1, c2, c3, c4, c5, c6, c7, c8, c9, c10⟩ := (hv.out.below hB).at hlt
   have hdr := List.drop_eq_getElem_cons hlt
   have hne := rise_drop hr hlt
   generalize l[m] = x at *
   obtain ⟨p, kd, sz, ⟨m1, m2, m3, m4, m5⟩, tg, sm, gr⟩ := x
   dsimp only at *
   have hki : (m : Int) < (l.length : Int) := by omega
   have hB2 := below_alloc hB (.cells #[.string (mkS p), .int .i64 kd, .int .i64 sz, .int .i64 m1, .int .i64 m2, .int .i64 m3, .int .i64 m4, .int .i64 m5, .string (mkS tg), .string (mkS sm), .int .i64 gr] 45)
   have hBr := below_alloc (Below.refl wr.heap.size wr) (.cells #[.string (mkS p), .int .i64 kd, .int .i64 sz, .int .i64 m1, .int .i64 m2, .int .i64 m3, .int .i64 m4, .int .i64 m5, .string (mkS tg), .string (mkS sm), .int .i64 gr] 45)
   have hblk := (MapKept.heap_alloc wr (.cells #[.string (mkS p), .int .i64 kd, .int .i64 sz, .int .i64 m1, .int .i64 m2, .int .i64 m3, .int .i64 m4, .int .i64 m5, .string (mkS tg), .string (mkS sm), .int .i64 gr] 45)).1
   obtain ⟨w5, hsto, hS5, hg5⟩ := st_store (x := ⟨p, kd, sz, ⟨m1, m2, m3, m4, m5⟩, tg, sm, gr⟩) (hS.below hBr) hblk hne
   have hB5 := hB2.grown hg5 hB2.size (fun j hj => by cases hj; exact Nat.le_refl _)
   rw [← hdr] at hS5
   unfold ptr at hsto
   dsimp only at hsto
   have d0 := cell_of (j := 0) hblk rfl
   replace hj := hid hj
   replace hB := hid hB
   replace hS := hid hS
   replace hdr := hid hdr
   replace hne := hid hne
   replace hB2 := hid hB2
   replace hBr := hid hBr
   replace hblk := hid hblk
   replace hsto := hid hsto
   replace hS5 := hid hS5
   replace hB5 := hid hB5
   clear hg5
   go_wp2_with (at_mapUpdate; refine wp_store _ rfl _ _ _ 69 rfl (.map (some w.heap.size)) (.string (mkS p)) (.pointer (some ⟨wr.heap.size, 0, none⟩)) rfl rfl rfl w5 hsto.out ?_)
   go_roundw
   case rel => exact ⟨m, _, rfl, by first | rfl | omega | (rw [IntWalk.i64_in _ (by omega)]), by omega, hS5.out, hB5.out⟩
   case measure => simp [intOf] <;> omega
end Go.Proofs.YtcjlfkklpghjbaaGreat

namespace Go.Proofs.YtcjlfkklpghjbaaGreat
open Go.RowKit
theorem cell_kept {W W' : World} {m : Nat} {lm : List (Value × Value)} {a : Addr} {v : Value} (hm : MapIs W m lm) (hg : W.grownBy W' (some m)) (h : W.cell? a = some v) : W'.cell? a = some v := by
 have hlt := ent_cell_lt h
 have hne : a.block ≠ m := fun e => by
  obtain ⟨es, clock, hb, _⟩ := hm
  simp [World.cell?, e, hb] at h
 rw [← h]
 simp only [World.cell?, hg.block a.block hlt (fun e => hne (by cases e; rfl))]
theorem Rd.kept {W W' : World} {m : Nat} {lm : List (Value × Value)} {v : Value} {l : List Bytes} (h : Rd W v l) (hm : MapIs W m lm) (hg : W.grownBy W' (some m)) : Rd W' v l := by
 obtain ⟨A, c, h1, h2, h3, hc⟩ := h
 refine ⟨A, c, h1, h2, h3, fun j u hj => ?_⟩
 obtain ⟨g, o, e, hcell⟩ := hc j u hj
 exact ⟨g, o, e, cell_kept hm hg hcell⟩
theorem States.kept {W W' : World} {m b : Nat} {lm : List (Value × Value)} {l : List Ent} (h : States W b l) (hm : MapIs W m lm) (hg : W.grownBy W' (some m)) (hb : b ≠ m) : States W' b l := by
 obtain ⟨A, h1, h2⟩ := h
 refine ⟨A, h1.kept hg (fun e => hb (by cases e; rfl)), fun x hx => ?_⟩
 refine (hg.block _ (Array.getElem?_eq_some_iff.1 (h2 x hx)).1 (fun e => ?_)).trans (h2 x hx)
 cases e
 obtain ⟨es, clock, hb', _⟩ := hm
 have := h2 x hx
 rw [hb'] at this
 cases this
theorem grown_low {w a b : World} {m : Option Nat} {row : Option Nat} (h : w.grownBy a m) (h2 : a.grownBy b row) (hr : ∀ j, row = some j → some j = m ∨ w.heap.size ≤ j) : w.grownBy b m :=
 ⟨h2.os.trans h.os, h2.tape.trans h.tape, h2.output.trans h.output, Nat.le_trans h.size h2.size, fun i hi hne => by
  refine (h2.block i (Nat.lt_of_lt_of_le hi h.size) (fun e => ?_)).trans (h.block i hi hne)
  rcases hr i e.symm with e2 | e2
  ·exact hne e2
  ·omega⟩
theorem below_of_grown {w a b : World} {m : Nat} (h : Below w.heap.size w a) (h2 : a.grownBy b (some m)) (hm : w.heap.size ≤ m) : Below w.heap.size w b := h.grown h2 h.size (fun j hj => by cases hj; exact hm)
/-- Two own rows of other elements lie apart. -/
theorem own_apart {W : World} {B B' : Nat} {t u : TypeId} {s s' n n' : Nat} {v v' : Value} {xs ys : List Value} (h : W.ownsRow B t s v n xs) (h' : W.ownsRow B' u s' v' n' ys) (hne : t ≠ u) : ∀ b, v.ownBlock = some b → some b ≠ v'.ownBlock := by
 intro b hb e
 obtain ⟨_, c1, h1⟩ := own_cells h hb
 obtain ⟨_, c2, h2⟩ := own_cells h' e.symm
 rw [h1] at h2
 simp only [Option.some.injEq, Obj.cells.injEq] at h2
 exact hne h2.2.1
theorem actsOf_nodup {W L R : List Ent} {po : Int} {u : List Bytes} (h : u.Nodup) : ((actsOf W L R po u).map (·.1)).Nodup := by
 unfold actsOf
 rw [List.map_map]
 have : (fun y : Bytes × Int => y.1) ∘ (fun p => (p, wishAt W L R po p)) = id := rfl
 rw [this, List.map_id]
 exact h.sublist List.filter_sublist
theorem heldL_fst (l : Acts44) (L R : List Ent) : (heldL l L R).map (·.1) = l.map (·.1) := by
 unfold heldL
 rw [List.map_map]
 rfl
theorem heldL_take (l : Acts44) (L R : List Ent) {k : Nat} (hk : k < l.length) : (heldL l L R).take (k + 1) = (heldL l L R).take k ++ [(l[k].1, heldA l L R l[k])] := by
 have hh : k < (heldL l L R).length := by rw [heldL, List.length_map]; exact hk
 rw [List.take_succ_eq_append_getElem hh]
 congr 1
 simp [heldL]
theorem fst_new {l : Acts44} (h : (l.map (·.1)).Nodup) {k : Nat} (hk : k < l.length) {r : Acts44} (hr : r.map (·.1) = l.map (·.1)) : ∀ y ∈ r.take k, y.1 ≠ l[k].1 := by
 intro y hy e
 obtain ⟨i, hi, rfl⟩ := List.mem_iff_getElem.1 hy
 rw [List.length_take] at hi
 have hil : i < r.length := by omega
 have h1 : (r.map (·.1))[i]'(by rw [List.length_map]; exact hil) = r[i].1 := by rw [List.getElem_map]
 rw [List.getElem_take] at e
 have hlr : r.length = l.length := by have := congrArg List.length hr; simpa using this
 have h2 : (l.map (·.1))[i]'(by rw [List.length_map]; omega) = (l.map (·.1))[k]'(by rw [List.length_map]; omega) := by
  have h4 : (l.map (·.1))[k]'(by rw [List.length_map]; omega) = l[k].1 := List.getElem_map ..
  rw [h4, ← e, ← h1]
  simp only [hr]
 have h3 := (List.getElem_inj h).1 h2
 omega
end Go.Proofs.YtcjlfkklpghjbaaGreat

namespace Go.Proofs.YtcjlfkklpghjbaaGreat
open Go.RowKit
def preOf (L R : List Ent) : Nat → List Bytes
  | 0 => []
  | 1 => entPaths L
  | _ => entPaths L ++ entPaths R
end Go.Proofs.YtcjlfkklpghjbaaGreat

namespace Go.Proofs.YtcjlfkklpghjbaaGreat
open Go.RowKit
/-- The row behind k rounds. -/
def heldTo (l : Acts44) (L R : List Ent) (k : Nat) : Acts44 := (heldL l L R).take k ++ l.drop k
end Go.Proofs.YtcjlfkklpghjbaaGreat

namespace Go.Proofs.YtcjlfkklpghjbaaGreat
open Go.RowKit
def row3 (W L R : List Ent) : Nat → List Ent
  | 0 => W
  | 1 => L
  | _ => R
theorem planE_fail {W L R : List Ent} {po : Int} {k : Nat} (hk : k < 3) (h : ∀ j, j < k → chk (row3 W L R j) = 0) (hn : chk (row3 W L R k) ≠ 0) : planE W L R po = ([], chk (row3 W L R k)) := by
 have hk3 : k = 0 ∨ k = 1 ∨ k = 2 := by omega
 unfold planE
 rcases hk3 with rfl | rfl | rfl
 ·replace hn : chk W ≠ 0 := hn
  rw [if_pos hn]; rfl
 ·replace hn : chk L ≠ 0 := hn
  rw [if_neg (by simpa [row3] using h 0 (by omega)), if_pos hn]; rfl
 ·replace hn : chk R ≠ 0 := hn
  rw [if_neg (by simpa [row3] using h 0 (by omega)), if_neg (by simpa [row3] using h 1 (by omega)), if_pos hn]; rfl
theorem planE_on {W L R : List Ent} {po : Int} (h : ∀ j, j < 3 → chk (row3 W L R j) = 0) : planE W L R po = if po < 0 ∨ 3 < po then ([], 2) else (planL W L R po, 0) := by
 unfold planE
 rw [if_neg (by simpa [row3] using h 0 (by omega)), if_neg (by simpa [row3] using h 1 (by omega)), if_neg (by simpa [row3] using h 2 (by omega))]
theorem chkFrom_ok : ∀ (r p : List Ent), ChkOk p → chkFrom p r = 0 → ChkOk (p ++ r)
 | [], p, h, _ => by rw [List.append_nil]; exact h
 | x :: r, p, h, h0 => by
  rw [chkFrom] at h0
  by_cases hs : stepE p x = 0
  ·rw [if_pos hs] at h0
   have := chkFrom_ok r (p ++ [x]) (h.snoc hs) h0
   rwa [List.append_assoc] at this
  ·rw [if_neg hs] at h0
   exact absurd h0 hs
theorem chk_ok {l : List Ent} (h : chk l = 0) : ChkOk l := chkFrom_ok l [] chkOk_nil h
theorem actsOf_len (W L R : List Ent) (po : Int) (u : List Bytes) : (actsOf W L R po u).length ≤ u.length := by
 unfold actsOf
 rw [List.length_map]
 exact List.length_filter_le _ _
/-- The row in the midst of one act's marking. -/
def stickTo (pl : Acts44) (k : Nat) (q : Bytes) (j : Nat) : Acts44 := pl.mapIdx fun m y => (y.1, if k < m ∧ m < j ∧ under y.1 q = true then 0 else y.2)
end Go.Proofs.YtcjlfkklpghjbaaGreat

namespace Go.Proofs.YtcjlfkklpghjbaaGreat
open Go.RowKit
theorem info_ract : (Tryz.prog.info? 56).map (fun i => (i.zero, i.size, i.bytes)) = some (some (.agg #[.string ⟨#[]⟩, .int .i64 0]), 2, 24) := by kernel_rfl
set_option maxHeartbeats 8000000 in
set_option maxRecDepth 100000 in
theorem plan_calls (vw vl vr : Value) (W L R : List Ent) (po : Int) (w : World) (hW : Ents w vw W) (hL : Ents w vl L) (hR : Ents w vr R) (sW : smallEs W = true) (sL : smallEs L = true) (sR : smallEs R = true) :
  Calls Tryz.prog 12 #[vw, vl, vr, .int .i64 po] w fun e w' => (∃ v', e = .returned (.tuple #[v', .int .i64 (planE W L R po).2]) ∧ w'.ownsRow w.heap.size 56 2 v' (planE W L R po).1.length (actRow (planE W L R po).1)) ∧ Below w.heap.size w w' := by
 obtain ⟨Z0, z0, rfl, _, hz0⟩ := hW.shape
 obtain ⟨Z1, z1, rfl, _, hz1⟩ := hL.shape
 obtain ⟨Z2, z2, rfl, _, hz2⟩ := hR.shape
 unfold maxLen at hz0 hz1 hz2
 have hW60 := (smallEs_at sW).1
 have hL60 := (smallEs_at sL).1
 have hR60 := (smallEs_at sR).1
 have hrows : ∀ k, k < 3 → ∃ (X : List Ent) (Zx : Option Addr) (zx : Nat), row3 W L R k = X ∧ (∀ wr : World, wr.heap[w.heap.size]? = some (.cells #[.slice Z0 W.length z0, .slice Z1 L.length z1, .slice Z2 R.length z2] 48 (0, 0)) → wr.cell? ⟨w.heap.size, k, none⟩ = some (.slice Zx X.length zx)) ∧ Ents w (.slice Zx X.length zx) X ∧ smallEs X = true := fun k hk => by
  have hk3 : k = 0 ∨ k = 1 ∨ k = 2 := by omega
  rcases hk3 with rfl | rfl | rfl
  ·exact ⟨W, Z0, z0, rfl, fun wr h => cell_of (j := 0) h rfl, hW, sW⟩
  ·exact ⟨L, Z1, z1, rfl, fun wr h => cell_of (j := 1) h rfl, hL, sL⟩
  ·exact ⟨R, Z2, z2, rfl, fun wr h => cell_of (j := 2) h rfl, hR, sR⟩
 have hfail := fun k (hk : k < 3) => @planE_fail W L R po k hk
 have hon := @planE_on W L R po
 have hB1 := below_alloc (Below.refl w.heap.size w) (.cells #[.slice Z0 W.length z0, .slice Z1 L.length z1, .slice Z2 R.length z2] 48)
 have hblk := heap_alloc_new w (.cells #[.slice Z0 W.length z0, .slice Z1 L.length z1, .slice Z2 R.length z2] 48)
 have hLp : ∀ x ∈ L, x.path.length ≤ 1000000 := fun x hx => by
  have := ((smallEs_at sL).2 x hx).1
  omega
 have hRp : ∀ x ∈ R, x.path.length ≤ 1000000 := fun x hx => by
  have := ((smallEs_at sR).2 x hx).1
  omega
 obtain ⟨u0, hu0⟩ : ∃ u0, upaths L R = u0 := ⟨_, rfl⟩
 have hu2 : u0.Pairwise (fun a b => lessP a b = true) ∧ ∀ x, x ∈ u0 ↔ x ∈ entPaths L ∨ x ∈ entPaths R := by rw [← hu0]; exact upaths_is L R
 have hup : u0.length ≤ 120 := by
  have h := List.Nodup.length_le_of_subset (rise_nodup hu2.1) (l₂ := entPaths L ++ entPaths R) (fun x hx => List.mem_append.2 ((hu2.2 x).1 hx))
  rw [List.length_append] at h
  unfold entPaths at h
  simp only [List.length_map] at h
  omega
 have hupl : ∀ x ∈ u0, x.length ≤ 1000000 := fun x hx => by
  rcases (hu2.2 x).1 hx with h | h
  ·obtain ⟨y, hy, rfl⟩ := List.mem_map.1 h
   exact hLp y hy
  ·obtain ⟨y, hy, rfl⟩ := List.mem_map.1 h
   exact hRp y hy
 replace hu0 := hid hu0
 replace hup := hid hup
 replace hu2 := hid hu2
 replace hupl := hid hupl
 replace hW := hid hW
 replace hL := hid hL
 replace hR := hid hR
 replace sW := hid sW
 replace sL := hid sL
 replace sR := hid sR
 replace hrows := hid hrows
 replace hfail := hid hfail
 replace hon := hid hon
 replace hB1 := hid hB1
 replace hblk := hid hblk
 replace hLp := hid hLp
 replace hRp := hid hRp
 have hmk := @run_makeMap Tryz.prog
 go_enter Tryz.func12, Tryz.ntmps12
 go_wp2_with fail
 go_loopw [37] (fun i wr => ∃ k : Nat, i = .int .i64 k ∧ k ≤ 3 ∧ (∀ j, j < k → chk (row3 W L R j) = 0) ∧ wr.heap[w.heap.size]? = some (.cells #[.slice Z0 W.length z0, .slice Z1 L.length z1, .slice Z2 R.length z2] 48 (0, 0)) ∧ Below w.heap.size w wr) (fun i _ => 3 - (intOf i).toNat)
 case atStart => exact ⟨0, rfl, Nat.zero_le _, fun j hj => absurd hj (Nat.not_lt_zero _), hblk.out, hB1.out⟩
 case round =>
  clear hB1 hblk
  obtain ⟨k, rfl, hk, hz, hbk, hB⟩ := hrel
  by_cases hlt : k < 3
  ·obtain ⟨X, Zx, zx, hX, hcell, hEX, sX⟩ := hrows.out k hlt
   have hfk := hfail.out k hlt hz
   have bx := hcell wr hbk
   have hck := fun V hV => fcheck_calls (.slice Zx X.length zx) X V hV sX
   have hz2 : chk X = 0 → ∀ j, j < k + 1 → chk (row3 W L R j) = 0 := fun e j hj => by
    rcases Nat.lt_succ_iff_lt_or_eq.1 hj with h | rfl
    ·exact hz j h
    ·rw [hX]; exact e
   rw [hX] at hfk
   have hki : (k : Int) < 3 := by omega
   generalize chk X = c at *
   have hlb := (Array.getElem?_eq_some_iff.1 hbk).1
   replace hX := hid hX
   replace hcell := hid hcell
   replace hEX := hid hEX
   replace sX := hid sX
   replace hfk := hid hfk
   replace hck := hid hck
   replace hz2 := hid hz2
   replace hz := hid hz
   replace hbk := hid hbk
   replace hB := hid hB
   go_wp2_with fail
   (with_reducible refine (hck.out _ (hEX.out.below hB.out)).mono ?_)
   rintro e w3 ⟨rfl, hB3⟩
   have hb3 := (hB3.block _ hlb).trans hbk.out
   have hB03 := below_step hB.out hB3
   clear hB3
   by_cases hc : c = 0
   ·have t0 : (c != 0) = false := by simpa using hc
    have hzz := hz2.out hc
    replace hzz := hid hzz
    replace hb3 := hid hb3
    replace hB03 := hid hB03
    replace hc := hid hc
    go_wp2
    go_roundw
    case rel => exact ⟨k + 1, by go_num, by omega, hzz.out, hb3.out, hB03.out⟩
    case measure => simp [intOf]; omega
   ·have t0 : (c != 0) = true := by simpa using hc
    have hpe := hfk.out hc
    replace hb3 := hid hb3
    replace hB03 := hid hB03
    replace hc := hid hc
    replace hpe := hid hpe
    go_wp2
    go_ret2
    refine ⟨⟨.slice none 0 0, by rw [hpe.out]; rfl, ?_⟩, hB03.out⟩
    rw [hpe.out]
    exact World.ownsRow_nil _ _ _ _
  ·obtain rfl : k = 3 := by omega
   have hpe := hon.out hz
   have rW : Rise W := (chk_ok (hz 0 (by omega))).rise
   have rL : Rise L := (chk_ok (hz 1 (by omega))).rise
   have rR : Rise R := (chk_ok (hz 2 (by omega))).rise
   by_cases hpo : po < 0 ∨ 3 < po
   ·rw [if_pos hpo] at hpe
    replace hpe := hid hpe
    replace hz := hid hz
    replace hbk := hid hbk
    replace hB := hid hB
    by_cases hp1 : po < 0
    ·go_wp2
     go_ret2
     refine ⟨⟨.slice none 0 0, by rw [hpe.out]; rfl, ?_⟩, hB.out⟩
     rw [hpe.out]
     exact World.ownsRow_nil _ _ _ _
    ·have hp2 : 3 < po := by omega
     go_wp2
     go_ret2
     refine ⟨⟨.slice none 0 0, by rw [hpe.out]; rfl, ?_⟩, hB.out⟩
     rw [hpe.out]
     exact World.ownsRow_nil _ _ _ _
   ·rw [if_neg hpo] at hpe
    have hp1 : ¬ po < 0 := by omega
    have hp2 : ¬ 3 < po := by omega
    have o0 := of_calls (.slice Z0 W.length z0) W wr (hW.out.below hB) rW (by omega)
    have o1 := fun V hV => of_calls (.slice Z1 L.length z1) L V hV rL (by omega)
    have o2 := fun V hV => of_calls (.slice Z2 R.length z2) R V hV rR (by omega)
    replace hpe := hid hpe
    replace hz := hid hz
    replace hbk := hid hbk
    replace hB := hid hB
    replace o0 := hid o0
    replace o1 := hid o1
    replace o2 := hid o2
    replace rW := hid rW
    replace rL := hid rL
    replace rR := hid rR
    go_wp2_with fail
    (with_reducible refine (o0.out).mono ?_)
    rintro e w1 ⟨⟨bw, rfl, hbw, hSw⟩, hB1⟩
    have hB01 := below_step hB.out hB1
    replace hbw := hid hbw
    replace hSw := hid hSw
    replace hB01 := hid hB01
    clear hB1 o0
    go_wp2_with fail
    (with_reducible refine (o1.out _ (hL.out.below hB01.out)).mono ?_)
    rintro e w2 ⟨⟨ba, rfl, hba, hSa⟩, hB2⟩
    have hB02 := below_step hB01.out hB2
    have hSw2 := hSw.out.below hB2
    replace hba := hid hba
    replace hSa := hid hSa
    replace hB02 := hid hB02
    replace hSw2 := hid hSw2
    clear hB2 o1 hSw
    go_wp2_with fail
    (with_reducible refine (o2.out _ (hR.out.below hB02.out)).mono ?_)
    rintro e w3 ⟨⟨bb, rfl, hbb, hSb⟩, hB3⟩
    have hB03 := below_step hB02.out hB3
    have hSw3 := hSw2.out.below hB3
    have hSa3 := hSa.out.below hB3
    have hl1 := hSw3.lt
    have hl2 := hSa3.lt
    have hl3 := hSb.lt
    clear hB3 o2 hSw2 hSa hB01 hB02 hbw hba hbb
    -- the two maps, the row of two
    have m1 := mapIs_made w3
    have hBa := below_alloc (Below.refl w3.heap.size w3) (.map #[] 0)
    have m2 := mapIs_made (w3.alloc (.map #[] 0))
    have hBb := below_alloc hBa (.map #[] 0)
    have m1' := m1.of_block ((below_alloc (Below.refl _ _) (.map #[] 0)).block _ m1.lt)
    have hs1 : (w3.alloc (.map #[] 0)).heap.size = w3.heap.size + 1 := by simp
    rw [hs1] at m2
    have hs2 : ((w3.alloc (.map #[] 0)).alloc (.map #[] 0)).heap.size = w3.heap.size + 1 + 1 := by simp
    have hg := heap_alloc_new ((w3.alloc (.map #[] 0)).alloc (.map #[] 0)) (.cells #[.map (some ba), .map (some bb)] 69)
    rw [hs2] at hg
    have hBc := below_alloc hBb (.cells #[.map (some ba), .map (some bb)] 69)
    have hso := rsorted_calls (w3.heap.size + 1 + 1) [ba, bb] [L, R] (((w3.alloc (.map #[] 0)).alloc (.map #[] 0)).alloc (.cells #[.map (some ba), .map (some bb)] 69)) rfl (by simp) (fun k B X hk hx => by
     match k, hk, hx with
     | 0, hk, hx =>
      simp only [List.getElem?_cons_zero, Option.some.injEq] at hk hx
      subst hk hx
      exact ⟨cell_of (j := 0) hg rfl, hSa3.below hBc⟩
     | 1, hk, hx =>
      simp only [List.getElem?_cons_succ, List.getElem?_cons_zero, Option.some.injEq] at hk hx
      subst hk hx
      exact ⟨cell_of (j := 1) hg rfl, hSb.below hBc⟩
     | k + 2, hk, hx => simp at hk) (by simp; omega) (fun y hy => by
     simp only [List.flatten_cons, List.flatten_nil, List.append_nil, List.mem_append] at hy
     rcases hy with hy | hy
     ·exact Nat.le_trans (hLp.out y hy) (by omega)
     ·exact Nat.le_trans (hRp.out y hy) (by omega))
    rw [show ([ba, bb] : List Nat).length = 2 from rfl] at hso
    have hm1c := m1'.of_block ((below_alloc (Below.refl _ _) (.cells #[.map (some ba), .map (some bb)] 69)).block _ m1'.lt)
    have hm2c := m2.of_block ((below_alloc (Below.refl _ _) (.cells #[.map (some ba), .map (some bb)] 69)).block _ m2.lt)
    have hlow := hB03.size
    replace m1 := hid m1
    replace m2 := hid m2
    replace hBa := hid hBa
    replace hBb := hid hBb
    replace m1' := hid m1'
    replace hs1 := hid hs1
    replace hs2 := hid hs2
    replace hg := hid hg
    replace hSw3 := hid hSw3
    replace hSa3 := hid hSa3
    replace hSb := hid hSb
    replace hl1 := hid hl1
    replace hl2 := hid hl2
    replace hl3 := hid hl3
    replace hB03 := hid hB03
    replace hBc := hid hBc
    replace hso := hid hso
    replace hm1c := hid hm1c
    replace hm2c := hid hm2c
    replace hlow := hid hlow
    go_wp2_with fail
    (with_reducible refine (hso.out).mono ?_)
    rintro e w4 ⟨⟨v4, o4, rfl, hMet, hS4⟩, hB4⟩
    have hso4 : sortP o4 = u0 := by
     rw [← hu0.out]
     refine sort_upaths hMet.nodup (fun x => ?_)
     rw [hMet.mem]
     simp [entPaths]
    rw [hso4] at hS4
    have hrd := hS4.rd
    have hB34 := hBc.out.trans (hB4.mono hBc.out.size)
    have hm1d := hm1c.out.of_block (hB4.block _ hm1c.out.lt)
    have hm2d := hm2c.out.of_block (hB4.block _ hm2c.out.lt)
    have hSw4 := hSw3.out.below hB34
    have hSa4 := hSa3.out.below hB34
    have hSb4 := hSb.out.below hB34
    have hB04 := below_step hB03.out hB34
    obtain ⟨A4, c4, rfl, hc41, hc42⟩ := hrd.shape
    unfold maxLen at hc42
    have hl1' := hl1.out
    have hl2' := hl2.out
    have hl3' := hl3.out
    have hm2lt := hm2d.lt
    clear hS4 hMet hB4 hso4 hBc hso hB34 hm1c hm2c m1 m2 hBa hBb m1' hs1 hs2 hg hSw3 hSa3 hSb hl1 hl2 hl3 hB03 hB
    generalize w3.heap.size = mb1 at *
    obtain ⟨mb2, hmb2⟩ : ∃ mb2, mb2 = mb1 + 1 := ⟨_, rfl⟩
    rw [← hmb2] at hm2d hm2lt
    try rw [← hmb2]
    have hn12 : mb2 ≠ mb1 := by omega
    have hSt : ∀ X, w4.grownBy X (some mb1) → States X bw W ∧ States X ba L ∧ States X bb R ∧ Rd X (.slice A4 u0.length c4) u0 ∧ MapIs X mb2 (intE []) := fun X hX => ⟨hSw4.kept hm1d hX (by omega), hSa4.kept hm1d hX (by omega), hSb4.kept hm1d hX (by omega), hrd.kept hm1d hX, hm2d.kept hX (fun e => hn12 (by cases e; rfl))⟩
    replace hSt := hid hSt
    replace hSw4 := hid hSw4
    replace hSa4 := hid hSa4
    replace hSb4 := hid hSb4
    replace hm1d := hid hm1d
    replace hm2d := hid hm2d
    replace hrd := hid hrd
    replace hB04 := hid hB04
    replace hl1' := hid hl1'
    replace hl2' := hid hl2'
    replace hl3' := hid hl3'
    replace hm2lt := hid hm2lt
    replace hmb2 := hid hmb2
    replace hn12 := hid hn12
    go_wp2_with fail
    go_loopw [18, 66] (fun d i wr => ∃ k : Nat, i = .int .i64 k ∧ k ≤ u0.length ∧ w4.grownBy wr (some mb1) ∧ MapIs wr mb1 (intE (actsOf W L R po (u0.take k))) ∧ Strs w4.heap.size wr d ((actsOf W L R po (u0.take k)).map (·.1))) (fun _ i _ => u0.length - (intOf i).toNat)
    case atStart => exact ⟨0, rfl, Nat.zero_le _, World.grownBy.refl _ _, hm1d.out, World.ownsRow_nil _ _ _ _⟩
    case round =>
     obtain ⟨k, rfl, hk', hG, hM, hS⟩ := hrel
     by_cases hlt' : k < u0.length
     ·obtain ⟨hSw5, hSa5, hSb5, hrd5, _⟩ := hSt.out wr hG
      obtain ⟨g, o, hgo, c1⟩ := hrd5.cell hlt'
      cases hgo
      have hsn := actsOf_snoc W L R po (u0.take k) u0[k]
      rw [← List.take_succ_eq_append_getElem hlt'] at hsn
      have hak : (actsOf W L R po (u0.take k)).length ≤ 120 := by
       have h1 := actsOf_len W L R po (u0.take k)
       rw [List.length_take] at h1
       have := hup.out
       omega
      have hnew : ∀ y ∈ actsOf W L R po (u0.take k), y.1 ≠ u0[k] := fun y hy e => by
       obtain ⟨z, hz, rfl⟩ := List.mem_map.1 hy
       have hz2 := (List.mem_filter.1 hz).1
       obtain ⟨i, hi, hie⟩ := List.mem_iff_getElem.1 hz2
       rw [List.length_take] at hi
       rw [List.getElem_take] at hie
       dsimp only at e
       rw [← hie] at e
       have := (List.getElem_inj (rise_nodup hu2.out.1)).1 e
       omega
      have hql : u0[k].length ≤ 1000000 := hupl.out _ (List.getElem_mem hlt')
      have hdf : differs L R u0[k] = !alikeE (entAt L u0[k]) (entAt R u0[k]) := rfl
      have hwq : wishAt W L R po u0[k] = wishE (entAt W u0[k]) (entAt L u0[k]) (entAt R u0[k]) po := rfl
      rw [hdf, hwq] at hsn
      clear hdf hwq
      generalize u0[k] = q at *
      obtain ⟨va, hva, lka⟩ := st_look hSa5 q
      obtain ⟨vb, hvb, lkb⟩ := st_look hSb5 q
      have k1 := ralike_calls va vb (entAt L q) (entAt R q) wr hva hvb
      replace lka := lka wr (Below.refl _ _)
      replace lkb := lkb wr (Below.refl _ _)
      have lkw := lka
      obtain ⟨ga, rfl⟩ := hva.shape
      obtain ⟨gb, rfl⟩ := hvb.shape
      generalize alikeE (entAt L q) (entAt R q) = al at *
      generalize hak2 : actsOf W L R po (u0.take k) = ak at *
      have hki : (k : Int) < (u0.length : Int) := by omega
      have hdl : (ak.map (·.1)).length = ak.length := List.length_map ..
      generalize hds : ak.map (·.1) = ds at *
      obtain ⟨oA, oc, ho, ho1, ho2⟩ := own_shape hS.own
      subst ho
      unfold maxLen at ho2
      replace hG := hid hG
      replace hM := hid hM
      replace hS := hid hS
      replace hSw5 := hid hSw5
      replace hSa5 := hid hSa5
      replace hSb5 := hid hSb5
      replace hrd5 := hid hrd5
      replace hsn := hid hsn
      replace hnew := hid hnew
      replace hva := hid hva
      replace hvb := hid hvb
      replace k1 := hid k1
      replace hak2 := hid hak2
      replace hak := hid hak
      replace hdl := hid hdl
      replace hds := hid hds
      replace hql := hid hql
      go_wp2_with (at_lookup; first | (refine wp_look _ rfl _ _ 69 false rfl (.map (some bw)) (.string (mkS q)) _ rfl rfl lkw ?_) | (refine wp_look _ rfl _ _ 69 false rfl (.map (some ba)) (.string (mkS q)) _ rfl rfl lka ?_) | (refine wp_look _ rfl _ _ 69 false rfl (.map (some bb)) (.string (mkS q)) _ rfl rfl lkb ?_))
      (with_reducible refine (k1.out).mono ?_)
      rintro e w5 ⟨rfl, hB5⟩
      have G5 := grown_low hG.out (grown_below hB5 none) (fun j e => by cases e)
      have M5 := hM.out.of_block (hB5.block _ hM.out.lt)
      have S5 : Strs w4.heap.size w5 (.slice oA ds.length oc) ds := own_below hS.out hB5
      have c2 := (hB5.cell (cell_lt c1)).trans c1
      replace G5 := hid G5
      replace M5 := hid M5
      replace S5 := hid S5
      clear hG hM hS hB5 hSw5 hSa5 hSb5 hrd5 lka lkb lkw c1
      cases al with
      | true =>
       have hs2 := hsn.out
       rw [Bool.not_true, if_neg (by simp), List.append_nil] at hs2
       replace hs2 := hid hs2
       go_wp2
       go_roundw
       case rel => exact ⟨k + 1, by go_num, by omega, G5.out, by rw [hs2.out]; exact M5.out, by rw [hs2.out, hds.out]; exact S5.out⟩
       case measure => simp [intOf]; omega
      | false =>
       have hs2 := hsn.out
       rw [Bool.not_false, if_pos rfl] at hs2
       replace hs2 := hid hs2
       go_wp2_with (at_builtin; refine wp_append1 w4.heap.size rfl (.tmp 78) (.tmp 80) 62 9 rfl Tryz.underlying62 (.string ⟨#[]⟩) 1 16 info_string rfl (by decide) (.slice oA ds.length oc) _ _ rfl [.string (mkS q)] rfl S5.out rfl ?_ ?_ ?_ G5.out.size ?_)
       ·simp [Value.oneCell']
       ·have := hak.out; have := hdl.out; simp only [maxLen]; omega
       ·have := hak.out; have := hdl.out; omega
       ·intro v1 w6 g1 hg6 hat
        have G6 := grown_low G5.out hg6 (fun j e => Or.inr (own_base S5.out j e))
        have M6 := M5.out.kept hg6 (fun e => own_ne_map S5.out M5.out _ e.symm rfl)
        have S6 : Strs w4.heap.size w6 v1 (ds ++ [q]) := Strs.snoc g1
        obtain ⟨hSw6, hSa6, hSb6, _, _⟩ := hSt.out w6 G6
        obtain ⟨xw, hxw, lkw⟩ := st_look hSw6 q
        obtain ⟨xa, hxa, lka⟩ := st_look hSa6 q
        obtain ⟨xb, hxb, lkb⟩ := st_look hSb6 q
        have k2 := rwish_calls xw xa xb (entAt W q) (entAt L q) (entAt R q) po w6 hxw hxa hxb
        replace lkw := lkw w6 (Below.refl _ _)
        replace lka := lka w6 (Below.refl _ _)
        replace lkb := lkb w6 (Below.refl _ _)
        obtain ⟨gw, rfl⟩ := hxw.shape
        obtain ⟨ga2, rfl⟩ := hxa.shape
        obtain ⟨gb2, rfl⟩ := hxb.shape
        generalize wishE (entAt W q) (entAt L q) (entAt R q) po = wq at *
        obtain ⟨oA, oc, ho, ho1, ho2⟩ := own_shape S6.own
        subst ho
        unfold maxLen at ho2
        have hdl2 : (ds ++ [q]).length = ds.length + 1 := by simp
        generalize hds2 : ds ++ [q] = ds2 at *
        replace G6 := hid G6
        replace M6 := hid M6
        replace S6 := hid S6
        replace hxw := hid hxw
        replace hxa := hid hxa
        replace hxb := hid hxb
        replace k2 := hid k2
        replace hdl2 := hid hdl2
        replace hds2 := hid hds2
        clear g1 hg6 hat G5 M5 S5 hSw6 hSa6 hSb6
        go_wp2_with (at_lookup; first | (refine wp_look _ rfl _ _ 69 false rfl (.map (some bw)) (.string (mkS q)) _ rfl rfl lkw ?_) | (refine wp_look _ rfl _ _ 69 false rfl (.map (some ba)) (.string (mkS q)) _ rfl rfl lka ?_) | (refine wp_look _ rfl _ _ 69 false rfl (.map (some bb)) (.string (mkS q)) _ rfl rfl lkb ?_))
        (with_reducible refine (k2.out).mono ?_)
        rintro e w7 ⟨rfl, hB7⟩
        have G7 := grown_low G6.out (grown_below hB7 none) (fun j e => by cases e)
        have M7 := M6.out.of_block (hB7.block _ M6.out.lt)
        have S7 : Strs w4.heap.size w7 (.slice oA ds2.length oc) ds2 := own_below S6.out hB7
        obtain ⟨w8, hst, M8, hg8⟩ := int_new M7 q wq hnew.out
        have G8 := grown_low G7 hg8 (fun j e => Or.inl e.symm)
        have S8 : Strs w4.heap.size w8 (.slice oA ds2.length oc) ds2 := own_kept S7 hg8 (own_ne_map S7 M7)
        replace G8 := hid G8
        replace M8 := hid M8
        replace S8 := hid S8
        replace hst := hid hst
        clear hB7 hg8 G7 M7 S7 G6 M6 S6 lkw lka lkb
        go_wp2_with (at_mapUpdate; refine wp_store _ rfl _ _ _ 71 rfl (.map (some mb1)) (.string (mkS q)) (.int .i64 wq) rfl rfl rfl w8 hst.out ?_)
        go_roundw
        case rel => exact ⟨k + 1, by go_num, by omega, G8.out, by rw [hs2.out]; exact M8.out, by rw [hs2.out, show List.map (·.1) (ak ++ [(q, wq)]) = ds2 by rw [List.map_append, hds.out]; exact hds2.out]; exact S8.out⟩
        case measure => simp [intOf]; omega
     ·obtain rfl : k = u0.length := by omega
      rw [List.take_length] at hM hS
      have hal := actsOf_len W L R po u0
      have hnd := actsOf_nodup (W := W) (L := L) (R := R) (po := po) (rise_nodup hu2.out.1)
      have hpe2 : planE W L R po = (markL L R (heldL (actsOf W L R po u0) L R), 0) := by rw [hpe.out, planL, hu0.out]
      have hap : ∀ y ∈ actsOf W L R po u0, y.1.length ≤ 1000000 := fun y hy => by
       obtain ⟨z, hz, rfl⟩ := List.mem_map.1 hy
       exact hupl.out z (List.mem_filter.1 hz).1
      generalize actsOf W L R po u0 = ak at *
      obtain ⟨hSw5, hSa5, hSb5, _, hm25⟩ := hSt.out wr hG
      have hrd5 := hS.rd
      have hdl : (ak.map (·.1)).length = ak.length := List.length_map ..
      have hdk : ∀ k (h : k < ak.length) (h2 : k < (ak.map (·.1)).length), (ak.map (·.1))[k] = ak[k].1 := fun k h h2 => List.getElem_map ..
      have hdsf : ∀ hl : Acts44, hl.map (·.1) = ak.map (·.1) → ∀ k (h : k < hl.length) (h2 : k < (ak.map (·.1)).length), (ak.map (·.1))[k] = hl[k].1 := fun hl e k h h2 => by
       have : (hl.map (·.1))[k]'(by rw [List.length_map]; exact h) = hl[k].1 := List.getElem_map ..
       rw [← this]
       simp only [e]
      have hhf := heldL_fst ak L R
      generalize hds : ak.map (·.1) = ds at *
      obtain ⟨oA, oc, ho, ho1, ho2⟩ := own_shape hS.own
      subst ho
      unfold maxLen at ho2
      have hB05 := hB04.out.trans ((show Below w4.heap.size w4 w4 from Below.refl _ _).mono (Nat.le_refl _) |>.mono hB04.out.size)
      have hBr : Below w.heap.size w wr := below_of_grown hB04.out hG hlow.out
      obtain ⟨wa, rfl⟩ : ∃ wa : World, wa = wr := ⟨_, rfl⟩
      have hSt2 : ∀ X, wa.grownBy X (some mb2) → States X bw W ∧ States X ba L ∧ States X bb R ∧ Rd X (.slice oA ds.length oc) ds ∧ MapIs X mb1 (intE ak) := fun X hX => ⟨hSw5.kept hm25 hX (by have := hmb2.out; have := hl1'.out; omega), hSa5.kept hm25 hX (by have := hmb2.out; have := hl2'.out; omega), hSb5.kept hm25 hX (by have := hmb2.out; have := hl3'.out; omega), hrd5.kept hm25 hX, hM.kept hX (fun e => hn12.out (by cases e; rfl))⟩
      have hm2lo : w.heap.size ≤ mb2 := by have := hmb2.out; have := hlow.out; omega
      clear hB05 hSw5 hSa5 hSb5 hrd5 hG hM hS hSt hSw4 hSa4 hSb4 hm1d hm2d hrd hB04
      replace hal := hid hal
      replace hnd := hid hnd
      replace hpe2 := hid hpe2
      replace hap := hid hap
      replace hm25 := hid hm25
      replace hdl := hid hdl
      replace hdk := hid hdk
      replace hdsf := hid hdsf
      replace hhf := hid hhf
      replace hds := hid hds
      replace hBr := hid hBr
      replace hSt2 := hid hSt2
      replace hm2lo := hid hm2lo
      go_wp2_with fail
      go_loopw [98] (fun i wr => ∃ k : Nat, i = .int .i64 k ∧ k ≤ ds.length ∧ wa.grownBy wr (some mb2) ∧ MapIs wr mb2 (intE ((heldL ak L R).take k))) (fun i _ => ds.length - (intOf i).toNat)
      case atStart => exact ⟨0, rfl, Nat.zero_le _, World.grownBy.refl _ _, hm25.out⟩
      case round =>
       clear hm25
       obtain ⟨k, rfl, hk', hG, hM⟩ := hrel
       by_cases hlt3 : k < ds.length
       ·have hka : k < ak.length := by rw [← hdl.out]; exact hlt3
        obtain ⟨_, _, _, hrd6, hm16⟩ := hSt2.out wr hG
        obtain ⟨g, o, hgo, c1⟩ := hrd6.cell hlt3
        cases hgo
        rw [hdk.out k hka hlt3] at c1
        have hnd' : (ak.map (·.1)).Nodup := by rw [hds.out]; exact hnd.out
        have hsn := heldL_take ak L R hka
        have hnew := fst_new hnd' hka (heldL_fst ak L R)
        have hat := actAt_of hnd' (List.getElem_mem hka)
        have hki' := heldK_is (L := L) (R := R) hnd' (List.getElem_mem hka)
        have hqp := hap.out _ (List.getElem_mem hka)
        generalize heldA ak L R ak[k] = hd at *
        generalize ak[k] = y at *
        obtain ⟨q, t⟩ := y
        dsimp only at *
        have lk := int_look hm16 q
        rw [hat] at lk
        obtain ⟨w5, hst, M5, hg5⟩ := int_new hM q t hnew
        have G5 := grown_low hG hg5 (fun j e => Or.inl e.symm)
        obtain ⟨_, hSa7, hSb7, _, hm17⟩ := hSt2.out w5 G5
        have hcl := rheld_calls q ba bb mb1 ak L R w5 hSa7 hSb7 hm17 hnd' hqp hLp.out hRp.out
        generalize heldK ak L R q = hk at *
        obtain ⟨kv, kb⟩ := hk
        dsimp only at *
        have hki : (k : Int) < (ds.length : Int) := by omega
        replace hG := hid hG
        replace hM := hid hM
        replace hrd6 := hid hrd6
        replace hm16 := hid hm16
        replace hnd' := hid hnd'
        replace hsn := hid hsn
        replace hnew := hid hnew
        replace hat := hid hat
        replace hki' := hid hki'
        replace hqp := hid hqp
        replace hst := hid hst
        replace M5 := hid M5
        replace G5 := hid G5
        replace hcl := hid hcl
        replace hka := hid hka
        clear hg5 hSa7 hSb7 hm17
        try simp only [Option.getD_some] at lk
        go_wp2_with (first | (at_lookup; refine wp_look _ rfl _ _ 71 false rfl (.map (some mb1)) (.string (mkS q)) _ rfl rfl lk ?_) | (at_mapUpdate; refine wp_store _ rfl _ _ _ 71 rfl (.map (some mb2)) (.string (mkS q)) (.int .i64 t) rfl rfl rfl w5 hst.out ?_))
        (with_reducible refine (hcl.out).mono ?_)
        rintro e w6 ⟨rfl, hB6⟩
        have G6 := grown_low G5.out (grown_below hB6 none) (fun j e => by cases e)
        have M6 := M5.out.of_block (hB6.block _ M5.out.lt)
        replace G6 := hid G6
        replace M6 := hid M6
        clear hB6 G5 M5 hG hM hrd6 hm16 lk c1
        cases kb with
        | false =>
         have hs2 := hsn.out
         rw [hki'.out, if_neg (by simp)] at hs2
         replace hs2 := hid hs2
         go_wp2
         go_roundw
         case rel => exact ⟨k + 1, by go_num, by omega, G6.out, by rw [hs2.out]; exact M6.out⟩
         case measure => simp [intOf]; omega
        | true =>
         have hs2 := hsn.out
         rw [hki'.out, if_pos rfl] at hs2
         obtain ⟨w7, hst7, M7, hg7⟩ := int_last M6.out kv
         have G7 := grown_low G6.out hg7 (fun j e => Or.inl e.symm)
         replace hs2 := hid hs2
         replace hst7 := hid hst7
         replace M7 := hid M7
         replace G7 := hid G7
         clear hg7 hst
         go_wp2_with (at_mapUpdate; refine wp_store _ rfl _ _ _ 71 rfl (.map (some mb2)) (.string (mkS q)) (.int .i64 kv) rfl rfl rfl w7 hst7.out ?_)
         go_roundw
         case rel => exact ⟨k + 1, by go_num, by omega, G7.out, by rw [hs2.out]; exact M7.out⟩
         case measure => simp [intOf]; omega
       ·obtain rfl : k = ds.length := by omega
        have hhl : (heldL ak L R).length = ak.length := by rw [heldL, List.length_map]
        rw [List.take_of_length_le (by rw [hhl, ← hdl.out]; exact Nat.le_refl _)] at hM
        obtain ⟨_, hSa6, hSb6, hrd6, _⟩ := hSt2.out wr hG
        have hnh : ((heldL ak L R).map (·.1)).Nodup := by rw [hhf.out]; exact hnd.out
        have hmd := hdsf.out _ hhf.out
        have hhp : ∀ y ∈ heldL ak L R, y.1.length ≤ 1000000 := fun y hy => by
         obtain ⟨z, hz, rfl⟩ := List.mem_map.1 hy
         exact hap.out z hz
        have hpe3 := hpe2.out
        have hBw : Below w.heap.size w wr := below_of_grown hBr.out hG hm2lo.out
        have hhd : (heldL ak L R).length = ds.length := by rw [hhl, ← hdl.out]
        generalize heldL ak L R = hl at *
        obtain ⟨wb, rfl⟩ : ∃ wb : World, wb = wr := ⟨_, rfl⟩
        have hSt3 : ∀ X, Below wb.heap.size wb X → States X ba L ∧ States X bb R ∧ Rd X (.slice oA ds.length oc) ds ∧ MapIs X mb2 (intE hl) := fun X hX => ⟨hSa6.below hX, hSb6.below hX, hrd6.below hX, hM.of_block (hX.block _ hM.lt)⟩
        have hn1 : wb.ownsRow wb.heap.size 56 2 (.slice none 0 0) 0 [] := World.ownsRow_nil _ _ _ _
        have hn2 : wb.ownsRow wb.heap.size 9 1 (.slice none 0 0) 0 [] := World.ownsRow_nil _ _ _ _
        replace hnh := hid hnh
        replace hmd := hid hmd
        replace hhp := hid hhp
        replace hpe3 := hid hpe3
        replace hBw := hid hBw
        replace hhd := hid hhd
        replace hSt3 := hid hSt3
        replace hn1 := hid hn1
        replace hn2 := hid hn2
        clear hSa6 hSb6 hrd6 hG hM hSt2 hBr hpe2 hhl
        go_wp2_with fail
        go_loopw [25, 26, 122] (fun out sk i wr => ∃ k : Nat, i = .int .i64 k ∧ k ≤ ds.length ∧ Below wb.heap.size wb wr ∧ wr.ownsRow wb.heap.size 56 2 out k (actRow (markTo L R hl k)) ∧ Strs wb.heap.size wr sk (stuckL L R (hl.take k))) (fun _ _ i _ => ds.length - (intOf i).toNat)
        case atStart => exact ⟨0, rfl, Nat.zero_le _, Below.refl _ _, hn1.out, hn2.out⟩
        case round =>
         clear hn1 hn2
         obtain ⟨k, rfl, hk', hB, hO, hS⟩ := hrel
         by_cases hlt4 : k < ds.length
         ·have hkh : k < hl.length := by rw [hhd.out]; exact hlt4
          obtain ⟨hSa7, hSb7, hrd7, hm7⟩ := hSt3.out wr hB
          obtain ⟨g, o, hgo, c1⟩ := hrd7.cell hlt4
          cases hgo
          rw [hmd.out k hkh hlt4] at c1
          have hmk' := markTo_step (L := L) (R := R) hkh
          have hsk' := stuckL_snoc L R (hl.take k) hl[k]
          rw [← List.take_succ_eq_append_getElem hkh] at hsk'
          have hat := actAt_of hnh.out (List.getElem_mem hkh)
          have hqp := hhp.out _ (List.getElem_mem hkh)
          have hsl : (stuckL L R (hl.take k)).length ≤ k := by
           unfold stuckL
           rw [List.length_map]
           refine Nat.le_trans (List.length_filter_le _ _) ?_
           rw [List.length_take]
           omega
          have hsp : ∀ x ∈ stuckL L R (hl.take k), x.length ≤ 1000000 := fun x hx => by
           obtain ⟨z, hz, rfl⟩ := List.mem_map.1 hx
           exact hhp.out z (List.mem_of_mem_take (List.mem_filter.1 hz).1)
          have hstk : sticks L R hl[k] = (decide (hl[k].2 = 0) && !(isDirE (entAt L hl[k].1) && isDirE (entAt R hl[k].1))) := rfl
          generalize sticks L R hl[k] = st at *
          generalize hl[k] = y at *
          obtain ⟨q, t⟩ := y
          dsimp only at *
          generalize hss : stuckL L R (hl.take k) = ss at *
          generalize hmr : markTo L R hl k = mr at *
          have lk := fun X hX => int_look (hSt3.out X hX).2.2.2 q
          rw [hat] at lk
          simp only [Option.getD_some] at lk
          have hqs := mkS_size q
          have lkr := lk wr hB
          have hrs := hS.rd
          obtain ⟨oA1, oc1, ho1, ho11, ho12⟩ := own_shape hO
          obtain ⟨oA2, oc2, ho2', ho21, ho22⟩ := own_shape hS.own
          subst ho1 ho2'
          unfold maxLen at ho12 ho22
          obtain ⟨wc, rfl⟩ : ∃ wc : World, wc = wr := ⟨_, rfl⟩
          have hki : (k : Int) < (ds.length : Int) := by omega
          have hkb : k ≤ 120 := by have := hal; have h1 := hup.out; have h2 := hdl.out; have h3 := hal.out; omega
          replace hB := hid hB
          replace hO := hid hO
          replace hS := hid hS
          replace hSa7 := hid hSa7
          replace hSb7 := hid hSb7
          replace hrd7 := hid hrd7
          replace hm7 := hid hm7
          replace hmk' := hid hmk'
          replace hsk' := hid hsk'
          replace hat := hid hat
          replace hqp := hid hqp
          replace hsl := hid hsl
          replace hsp := hid hsp
          replace hstk := hid hstk
          replace hss := hid hss
          replace hmr := hid hmr
          replace lk := hid lk
          replace hrs := hid hrs
          replace hkh := hid hkh
          go_wp2_with (at_lookup; refine wp_look _ rfl _ _ 71 false rfl (.map (some mb2)) (.string (mkS q)) _ rfl rfl lkr ?_)
          go_loopw [29, 131] (fun tv j wr => ∃ (m : Nat) (tv0 : Int), j = .int .i64 m ∧ m ≤ ss.length ∧ tv = .int .i64 tv0 ∧ tv0 = (if (ss.take m).any (fun x => under q x) = true then 0 else t) ∧ Below wc.heap.size wc wr) (fun _ j _ => ss.length - (intOf j).toNat)
          case atStart => exact ⟨0, t, rfl, Nat.zero_le _, rfl, by simp, Below.refl _ _⟩
          case round =>
           obtain ⟨m, tv0, rfl, hm, rfl, htv, hBi⟩ := hrel
           by_cases hlt5 : m < ss.length
           ·obtain ⟨g', o', hgo', d1⟩ := (hrs.out.below hBi).cell hlt5
            cases hgo'
            have htk : ss.take (m + 1) = ss.take m ++ [ss[m]] := List.take_succ_eq_append_getElem hlt5
            have hxp := hsp.out _ (List.getElem_mem hlt5)
            have han : (ss.take (m + 1)).any (fun x => under q x) = ((ss.take m).any (fun x => under q x) || under q ss[m]) := by rw [htk, List.any_append]; simp
            clear htk
            generalize ss[m] = x at *
            have hxs := mkS_size x
            have hun := fun W => under_calls (mkS q) (mkS x) W (by have := hqp.out; omega) (by omega)
            rw [bl_mkS, bl_mkS] at hun
            generalize under q x = u at *
            have hmi : (m : Int) < (ss.length : Int) := by omega
            replace hBi := hid hBi
            replace hxp := hid hxp
            replace hun := hid hun
            replace han := hid han
            replace htv := hid htv
            go_wp2_with fail
            (with_reducible refine (hun.out _).mono ?_)
            rintro e w5 ⟨rfl, hB5⟩
            have hBi5 := below_step hBi.out hB5
            replace hBi5 := hid hBi5
            clear hB5
            cases u with
            | true =>
             go_wp2
             go_roundw
             case rel => exact ⟨m + 1, 0, by go_num, by omega, rfl, by rw [han.out]; simp, hBi5.out⟩
             case measure => simp [intOf]; omega
            | false =>
             go_wp2
             go_roundw
             case rel => exact ⟨m + 1, tv0, by go_num, by omega, rfl, by rw [han.out, Bool.or_false]; exact htv.out, hBi5.out⟩
             case measure => simp [intOf]; omega
           ·obtain rfl : m = ss.length := by omega
            rw [List.take_length] at htv
            have hmk2 := hmk'.out
            rw [← htv] at hmk2
            have hB6 := below_step hB.out hBi
            obtain ⟨hSa8, hSb8, _, _⟩ := hSt3.out wr hB6
            obtain ⟨va, hva, lka⟩ := st_look hSa8 q
            obtain ⟨vb, hvb, lkb⟩ := st_look hSb8 q
            have k1 := rdir_calls va (entAt L q) wr hva
            have k2 := rdir_calls vb (entAt R q) wr hvb
            replace lka := lka wr (Below.refl _ _)
            replace lkb := lkb wr (Below.refl _ _)
            have lkn := lk.out wr hB6
            obtain ⟨ga, rfl⟩ := hva.shape
            obtain ⟨gb, rfl⟩ := hvb.shape
            have O6 := own_below hO.out hBi
            have S6 : Strs wb.heap.size wr (.slice oA2 ss.length oc2) ss := own_below hS.out hBi
            have hstk2 := hstk.out
            generalize isDirE (entAt L q) = a at *
            generalize isDirE (entAt R q) = b at *
            have hsl' := hsl.out
            replace htv := hid htv
            replace hmk2 := hid hmk2
            replace hB6 := hid hB6
            replace hSa8 := hid hSa8
            replace hSb8 := hid hSb8
            replace hva := hid hva
            replace hvb := hid hvb
            replace k1 := hid k1
            replace k2 := hid k2
            replace O6 := hid O6
            replace S6 := hid S6
            replace hstk2 := hid hstk2
            clear hB hO hS hSa7 hSb7 hrd7 hm7 hBi lkr c1 hstk hmk' hrs hsp
            by_cases ht : t = 0
            ·subst ht
             cases a with
             | false =>
              go_wp2_with (at_lookup; first | (refine wp_look _ rfl _ _ 71 false rfl (.map (some mb2)) (.string (mkS q)) _ rfl rfl lkn ?_) | (refine wp_look _ rfl _ _ 69 false rfl (.map (some ba)) (.string (mkS q)) _ rfl rfl lka ?_) | (refine wp_look _ rfl _ _ 69 false rfl (.map (some bb)) (.string (mkS q)) _ rfl rfl lkb ?_))
              (with_reducible refine (k1.out).mono ?_)
              rintro e w9 ⟨rfl, rfl⟩
              have hs2 := hsk'.out
              have hst0 : st = true := by rw [hstk2.out]; first | rfl | simp
              rw [hst0, if_pos rfl] at hs2
              replace hs2 := hid hs2
              replace hst0 := hid hst0
              go_wp2_with (at_builtin; refine wp_append1 wb.heap.size rfl (.tmp 156) (.tmp 158) 62 9 rfl Tryz.underlying62 (.string ⟨#[]⟩) 1 16 info_string rfl (by decide) (.slice oA2 ss.length oc2) _ _ rfl [.string (mkS q)] rfl S6.out rfl ?_ ?_ ?_ hB6.out.size ?_)
              ·simp [Value.oneCell']
              ·simp only [maxLen]; omega
              ·omega
              ·intro v2 wy g2 hg2 hat2
               have By := hB6.out.grown hg2 hB6.out.size (own_base S6.out)
               have SX : Strs wb.heap.size wy v2 (ss ++ [q]) := Strs.snoc g2
               have OX := own_kept O6.out hg2 (own_apart O6.out S6.out (by decide))
               obtain ⟨oA3, oc3, ho3', ho31, ho32⟩ := own_shape SX.own
               subst ho3'
               have hsn3 : (ss ++ [q]).length = ss.length + 1 := by simp
               rw [hsn3] at ho31
               unfold maxLen at ho32
               generalize ss ++ [q] = ss3 at *
               replace SX := hid SX
               replace OX := hid OX
               replace By := hid By
               replace hsn3 := hid hsn3
               clear g2 hg2 hat2 lka lkb lkn
               go_wp2_with (at_builtin; refine wp_append1 wb.heap.size rfl (.tmp 160) (.tmp 164) 34 56 rfl Tryz.underlying34 (.agg #[.string ⟨#[]⟩, .int .i64 0]) 2 24 info_ract rfl (by decide) (.slice oA1 k oc1) _ _ rfl [.string (mkS q), .int .i64 tv0] rfl OX.out rfl ?_ ?_ ?_ By.out.size ?_)
               ·simp [Value.oneCell']
               ·simp only [maxLen]; omega
               ·omega
               ·intro v1 wz g1 hg hat
                have Bz := By.out.grown hg By.out.size (own_base OX.out)
                have Oz : wz.ownsRow wb.heap.size 56 2 v1 (k + 1) (actRow (markTo L R hl (k + 1))) := by
                 rw [hmk2.out, actRow_append]
                 exact g1
                have Sz : Strs wb.heap.size wz (.slice oA3 ss3.length oc3) (stuckL L R (hl.take (k + 1))) := by
                 rw [hs2.out]
                 exact own_kept SX.out hg (own_apart SX.out OX.out (by decide))
                replace Bz := hid Bz
                replace Oz := hid Oz
                replace Sz := hid Sz
                clear g1 hg hat
                go_wp2
                go_roundw
                case rel => exact ⟨k + 1, by go_num, by omega, Bz.out, Oz.out, Sz.out⟩
                case measure => simp [intOf]; omega
             | true =>
              cases b with
              | false =>
               go_wp2_with (at_lookup; first | (refine wp_look _ rfl _ _ 71 false rfl (.map (some mb2)) (.string (mkS q)) _ rfl rfl lkn ?_) | (refine wp_look _ rfl _ _ 69 false rfl (.map (some ba)) (.string (mkS q)) _ rfl rfl lka ?_) | (refine wp_look _ rfl _ _ 69 false rfl (.map (some bb)) (.string (mkS q)) _ rfl rfl lkb ?_))
               (with_reducible refine (k1.out).mono ?_)
               rintro e w9 ⟨rfl, rfl⟩
               go_wp2_with (at_lookup; first | (refine wp_look _ rfl _ _ 71 false rfl (.map (some mb2)) (.string (mkS q)) _ rfl rfl lkn ?_) | (refine wp_look _ rfl _ _ 69 false rfl (.map (some ba)) (.string (mkS q)) _ rfl rfl lka ?_) | (refine wp_look _ rfl _ _ 69 false rfl (.map (some bb)) (.string (mkS q)) _ rfl rfl lkb ?_))
               (with_reducible refine (k2.out).mono ?_)
               rintro e w9 ⟨rfl, rfl⟩
               have hs2 := hsk'.out
               have hst0 : st = true := by rw [hstk2.out]; first | rfl | simp
               rw [hst0, if_pos rfl] at hs2
               replace hs2 := hid hs2
               replace hst0 := hid hst0
               go_wp2_with (at_builtin; refine wp_append1 wb.heap.size rfl (.tmp 156) (.tmp 158) 62 9 rfl Tryz.underlying62 (.string ⟨#[]⟩) 1 16 info_string rfl (by decide) (.slice oA2 ss.length oc2) _ _ rfl [.string (mkS q)] rfl S6.out rfl ?_ ?_ ?_ hB6.out.size ?_)
               ·simp [Value.oneCell']
               ·simp only [maxLen]; omega
               ·omega
               ·intro v2 wy g2 hg2 hat2
                have By := hB6.out.grown hg2 hB6.out.size (own_base S6.out)
                have SX : Strs wb.heap.size wy v2 (ss ++ [q]) := Strs.snoc g2
                have OX := own_kept O6.out hg2 (own_apart O6.out S6.out (by decide))
                obtain ⟨oA3, oc3, ho3', ho31, ho32⟩ := own_shape SX.own
                subst ho3'
                have hsn3 : (ss ++ [q]).length = ss.length + 1 := by simp
                rw [hsn3] at ho31
                unfold maxLen at ho32
                generalize ss ++ [q] = ss3 at *
                replace SX := hid SX
                replace OX := hid OX
                replace By := hid By
                replace hsn3 := hid hsn3
                clear g2 hg2 hat2 lka lkb lkn
                go_wp2_with (at_builtin; refine wp_append1 wb.heap.size rfl (.tmp 160) (.tmp 164) 34 56 rfl Tryz.underlying34 (.agg #[.string ⟨#[]⟩, .int .i64 0]) 2 24 info_ract rfl (by decide) (.slice oA1 k oc1) _ _ rfl [.string (mkS q), .int .i64 tv0] rfl OX.out rfl ?_ ?_ ?_ By.out.size ?_)
                ·simp [Value.oneCell']
                ·simp only [maxLen]; omega
                ·omega
                ·intro v1 wz g1 hg hat
                 have Bz := By.out.grown hg By.out.size (own_base OX.out)
                 have Oz : wz.ownsRow wb.heap.size 56 2 v1 (k + 1) (actRow (markTo L R hl (k + 1))) := by
                  rw [hmk2.out, actRow_append]
                  exact g1
                 have Sz : Strs wb.heap.size wz (.slice oA3 ss3.length oc3) (stuckL L R (hl.take (k + 1))) := by
                  rw [hs2.out]
                  exact own_kept SX.out hg (own_apart SX.out OX.out (by decide))
                 replace Bz := hid Bz
                 replace Oz := hid Oz
                 replace Sz := hid Sz
                 clear g1 hg hat
                 go_wp2
                 go_roundw
                 case rel => exact ⟨k + 1, by go_num, by omega, Bz.out, Oz.out, Sz.out⟩
                 case measure => simp [intOf]; omega
              | true =>
               have hs2 := hsk'.out
               have hst0 : st = false := by rw [hstk2.out]; first | rfl | simp [ht.out] | simp
               rw [hst0, if_neg (by simp), List.append_nil] at hs2
               have OX := O6
               have SX := S6
               replace hs2 := hid hs2
               replace hst0 := hid hst0
               go_wp2_with (at_lookup; first | (refine wp_look _ rfl _ _ 71 false rfl (.map (some mb2)) (.string (mkS q)) _ rfl rfl lkn ?_) | (refine wp_look _ rfl _ _ 69 false rfl (.map (some ba)) (.string (mkS q)) _ rfl rfl lka ?_) | (refine wp_look _ rfl _ _ 69 false rfl (.map (some bb)) (.string (mkS q)) _ rfl rfl lkb ?_))
               (with_reducible refine (k1.out).mono ?_)
               rintro e w9 ⟨rfl, rfl⟩
               go_wp2_with (at_lookup; first | (refine wp_look _ rfl _ _ 71 false rfl (.map (some mb2)) (.string (mkS q)) _ rfl rfl lkn ?_) | (refine wp_look _ rfl _ _ 69 false rfl (.map (some ba)) (.string (mkS q)) _ rfl rfl lka ?_) | (refine wp_look _ rfl _ _ 69 false rfl (.map (some bb)) (.string (mkS q)) _ rfl rfl lkb ?_))
               (with_reducible refine (k2.out).mono ?_)
               rintro e w9 ⟨rfl, rfl⟩
               go_wp2_with (at_builtin; refine wp_append1 wb.heap.size rfl (.tmp 160) (.tmp 164) 34 56 rfl Tryz.underlying34 (.agg #[.string ⟨#[]⟩, .int .i64 0]) 2 24 info_ract rfl (by decide) (.slice oA1 k oc1) _ _ rfl [.string (mkS q), .int .i64 tv0] rfl OX.out rfl ?_ ?_ ?_ hB6.out.size ?_)
               ·simp [Value.oneCell']
               ·simp only [maxLen]; omega
               ·omega
               ·intro v1 wz g1 hg hat
                have Bz := hB6.out.grown hg hB6.out.size (own_base OX.out)
                have Oz : wz.ownsRow wb.heap.size 56 2 v1 (k + 1) (actRow (markTo L R hl (k + 1))) := by
                 rw [hmk2.out, actRow_append]
                 exact g1
                have Sz : Strs wb.heap.size wz (.slice oA2 ss.length oc2) (stuckL L R (hl.take (k + 1))) := by
                 rw [hs2.out]
                 exact own_kept SX.out hg (own_apart SX.out OX.out (by decide))
                replace Bz := hid Bz
                replace Oz := hid Oz
                replace Sz := hid Sz
                clear g1 hg hat
                go_wp2
                go_roundw
                case rel => exact ⟨k + 1, by go_num, by omega, Bz.out, Oz.out, Sz.out⟩
                case measure => simp [intOf]; omega
            ·have t1 : (t == 0) = false := by simpa using ht
             replace ht := hid ht
             have hs2 := hsk'.out
             have hst0 : st = false := by rw [hstk2.out]; first | rfl | simp [ht.out] | simp
             rw [hst0, if_neg (by simp), List.append_nil] at hs2
             have OX := O6
             have SX := S6
             replace hs2 := hid hs2
             replace hst0 := hid hst0
             go_wp2_with (first | (at_lookup; first | (refine wp_look _ rfl _ _ 71 false rfl (.map (some mb2)) (.string (mkS q)) _ rfl rfl lkn ?_) | (refine wp_look _ rfl _ _ 69 false rfl (.map (some ba)) (.string (mkS q)) _ rfl rfl lka ?_) | (refine wp_look _ rfl _ _ 69 false rfl (.map (some bb)) (.string (mkS q)) _ rfl rfl lkb ?_)) | (at_builtin; refine wp_append1 wb.heap.size rfl (.tmp 160) (.tmp 164) 34 56 rfl Tryz.underlying34 (.agg #[.string ⟨#[]⟩, .int .i64 0]) 2 24 info_ract rfl (by decide) (.slice oA1 k oc1) _ _ rfl [.string (mkS q), .int .i64 tv0] rfl OX.out rfl ?_ ?_ ?_ hB6.out.size ?_))
             ·simp [Value.oneCell']
             ·simp only [maxLen]; omega
             ·omega
             ·intro v1 wz g1 hg hat
              have Bz := hB6.out.grown hg hB6.out.size (own_base OX.out)
              have Oz : wz.ownsRow wb.heap.size 56 2 v1 (k + 1) (actRow (markTo L R hl (k + 1))) := by
               rw [hmk2.out, actRow_append]
               exact g1
              have Sz : Strs wb.heap.size wz (.slice oA2 ss.length oc2) (stuckL L R (hl.take (k + 1))) := by
               rw [hs2.out]
               exact own_kept SX.out hg (own_apart SX.out OX.out (by decide))
              replace Bz := hid Bz
              replace Oz := hid Oz
              replace Sz := hid Sz
              clear g1 hg hat
              go_wp2
              go_roundw
              case rel => exact ⟨k + 1, by go_num, by omega, Bz.out, Oz.out, Sz.out⟩
              case measure => simp [intOf]; omega
         ·obtain rfl : k = ds.length := by omega
          have hfin : markTo L R hl ds.length = markL L R hl := by rw [← hhd.out]; rfl
          have hml : (markL L R hl).length = ds.length := by
           rw [← hfin]
           exact markTo_len _ (by rw [hhd.out]; exact Nat.le_refl _)
          rw [hfin] at hO
          obtain ⟨oA1, oc1, ho1', _, ho12⟩ := own_shape hO
          subst ho1'
          unfold maxLen at ho12
          replace hO := hid hO
          replace hB := hid hB
          replace hS := hid hS
          replace hfin := hid hfin
          replace hml := hid hml
          go_wp2
          go_ret2
          refine ⟨⟨.slice oA1 ds.length oc1, by rw [hpe3.out]; rfl, ?_⟩, below_step hBw.out hB.out⟩
          rw [hpe3.out]
          dsimp only
          rw [hml.out]
          exact own_low hO.out hBw.out.size
end Go.Proofs.YtcjlfkklpghjbaaGreat

namespace Go.Proofs.YtcjlfkklpghjbaaGreat
open Go.RowKit
set_option maxHeartbeats 4000000 in
set_option maxRecDepth 100000 in
theorem same44_calls (va vb : Value) (l r : Acts44) (w : World) (ha : RdA w va l) (hb : RdA w vb r) (hll : l.length ≤ 1000000) :
  Calls Tryz.prog 13 #[va, vb] w fun e w' => e = .returned (.bool (decide (l = r))) ∧ Below w.heap.size w w' := by
 obtain ⟨A, c, rfl, h2, h3⟩ := ha.shape
 obtain ⟨B, d, rfl, h4, h5⟩ := hb.shape
 unfold maxLen at h3 h5
 by_cases hlen : l.length = r.length
 ·rw [← hlen] at hb h4 ⊢
  have hno : ∀ k (hk : k < l.length), l[k] ≠ r[k]'(by omega) → decide (l = r) = false := fun k hk hne => by
   rw [decide_eq_false_iff_not]
   rintro rfl
   exact hne rfl
  have hrel0 : ∀ k (hk : k < l.length), ∃ g o, B = some ⟨g, o, none⟩ ∧ w.cell? ⟨g, o + k * 2, none⟩ = some (.string (mkS (r[k]'(by omega)).1)) ∧ w.cell? ⟨g, o + k * 2 + 1, none⟩ = some (.int .i64 (r[k]'(by omega)).2) := fun k hk => by
   rw [hlen] at hb
   exact hb.at (by omega)
  have hend : (∀ k (hk : k < l.length), l[k] = r[k]'(by omega)) → decide (l = r) = true := fun h => by
   rw [decide_eq_true_eq]
   exact List.ext_getElem hlen fun k h1 _ => h k h1
  replace ha := hid ha
  replace hb := hid hb
  replace hno := hid hno
  replace hrel0 := hid hrel0
  replace hend := hid hend
  go_enter Tryz.func13, Tryz.ntmps13
  go_wp2_with fail
  go_loopw [5] (fun i wr => ∃ k : Nat, i = .int .i64 k ∧ k ≤ l.length ∧ (∀ j (hj : j < k) (hj2 : j < l.length), l[j] = r[j]'(by omega)) ∧ Below w.heap.size w wr) (fun i _ => l.length - (intOf i).toNat)
  case atStart => exact ⟨0, rfl, Nat.zero_le _, fun j hj => absurd hj (Nat.not_lt_zero _), Below.refl _ _⟩
  case round =>
   obtain ⟨k, rfl, hk, hso, hB⟩ := hrel
   by_cases hlt : k < l.length
   ·obtain ⟨g, o, rfl, c1, c2⟩ := (ha.out.below hB).at hlt
    obtain ⟨g', o', rfl, d1, d2⟩ := hrel0.out k hlt
    have hn := hno.out k hlt
    have d1 := (hB.cell (cell_lt d1)).trans d1
    have d2 := (hB.cell (cell_lt d2)).trans d2
    have hs2 : l[k] = r[k]'(by omega) → ∀ j (hj : j < k + 1) (hj2 : j < l.length), l[j] = r[j]'(by omega) := fun e j hj hj2 => by
     rcases Nat.lt_succ_iff_lt_or_eq.1 hj with h | rfl
     ·exact hso j h hj2
     ·exact e
    generalize l[k] = x at *
    generalize r[k]'(by omega) = y at *
    obtain ⟨q, t⟩ := x
    obtain ⟨q', t'⟩ := y
    dsimp only at *
    have hki : (k : Int) < (l.length : Int) := by omega
    replace hn := hid hn
    replace hs2 := hid hs2
    replace hso := hid hso
    replace hB := hid hB
    by_cases hq : q = q'
    ·subst hq
     have t1 : ((mkS q).toList == (mkS q).toList) = true := by simp
     by_cases ht : t = t'
     ·subst ht
      have hs := hs2.out rfl
      replace hs := hid hs
      go_upto_region 6 with fail
      go_quiet (fail)
      go_wp2
      go_roundw
      case rel => exact ⟨k + 1, by go_num, by omega, hs.out, below_drewN hB.out _⟩
      case measure => simp [intOf]; omega
     ·have t2 : (t == t') = false := by simpa using ht
      have t3 : (t != t') = true := by simpa using ht
      have hn' := hn.out (by simpa using ht)
      replace hn' := hid hn'
      replace ht := hid ht
      go_upto_region 6 with fail
      go_quiet (fail)
      go_wp2
      go_ret
      exact ⟨ret_bool hn'.out.symm, below_drewN hB.out _⟩
    ·have t1 : ((mkS q).toList == (mkS q').toList) = false := strs_diff (fun e => hq (mkS_inj e))
     have hn' := hn.out (fun e => hq (Prod.mk.inj e).1)
     replace hn' := hid hn'
     replace hq := hid hq
     go_upto_region 6 with fail
     go_quiet (fail)
     go_wp2
     go_ret
     exact ⟨ret_bool hn'.out.symm, below_drewN hB.out _⟩
   ·obtain rfl : k = l.length := by omega
    have hy := hend.out fun j hj => hso j hj hj
    replace hy := hid hy
    replace hso := hid hso
    replace hB := hid hB
    go_wp2
    go_ret
    exact ⟨ret_bool hy.out.symm, hB.out⟩
 ·have hne : decide (l = r) = false := by
   rw [decide_eq_false_iff_not]
   rintro rfl
   exact hlen rfl
  have t0 : ((l.length : Int) == (r.length : Int)) = false := by rw [beq_eq_false_iff_ne]; omega
  have t1 : ((l.length : Int) != (r.length : Int)) = true := by rw [bne_iff_ne]; omega
  have t2 : ¬ (l.length : Int) = (r.length : Int) := by omega
  replace ha := hid ha
  replace hb := hid hb
  replace hne := hid hne
  go_enter Tryz.func13, Tryz.ntmps13
  go_wp2
  go_ret
  exact ⟨ret_bool hne.out.symm, Below.refl _ _⟩
end Go.Proofs.YtcjlfkklpghjbaaGreat

namespace Go.Proofs.YtcjlfkklpghjbaaGreat
open Go.RowKit
def dE : Ent := ⟨[100], 2, 0, ⟨0, 0, 0, 0, 0⟩, [], [], 0⟩
def nE : Ent := ⟨[100, 47, 110, 101, 119], 1, 0, ⟨0, 0, 0, 0, 0⟩, [], [], 0⟩
theorem upaths_by {L R : List Ent} {o : List Bytes} (h1 : o.Pairwise fun a b => lessP a b = true) (h2 : ∀ x, x ∈ o ↔ x ∈ entPaths L ∨ x ∈ entPaths R) : upaths L R = o := by
 rw [← sort_upaths (rise_nodup h1) h2]
 exact (sortP_eq (List.Perm.refl o) (rise_sorted h1)).symm
theorem aw44_1 : planE [dE] [] [dE, nE] 0 = ([([100], 2), ([100, 47, 110, 101, 119], 2)], 0) := by
 have hu : upaths [] [dE, nE] = [[100], [100, 47, 110, 101, 119]] := upaths_by (by decide +kernel) (fun x => by simp [entPaths, dE, nE])
 have hm : markL [] [dE, nE] (heldL (actsOf [dE] [] [dE, nE] 0 [[100], [100, 47, 110, 101, 119]]) [] [dE, nE]) = [([100], 2), ([100, 47, 110, 101, 119], 2)] := by decide +kernel
 unfold planE planL
 rw [hu, hm, if_neg (by decide +kernel), if_neg (by decide +kernel), if_neg (by decide +kernel), if_neg (by decide)]
theorem aw44_2 : planE [dE] [] [dE] 0 = ([([100], 1)], 0) := by
 have hu : upaths [] [dE] = [[100]] := upaths_by (by decide +kernel) (fun x => by simp [entPaths, dE])
 have hm : markL [] [dE] (heldL (actsOf [dE] [] [dE] 0 [[100]]) [] [dE]) = [([100], 1)] := by decide +kernel
 unfold planE planL
 rw [hu, hm, if_neg (by decide +kernel), if_neg (by decide +kernel), if_neg (by decide +kernel), if_neg (by decide)]
theorem ents_made {W : World} {g : Nat} {cs : Array Value} (l : List Ent) (h : W.heap[g]? = some (.cells cs 45 (0, 0))) (hc : cs = (l.flatMap entCells).toArray) (hm : l.length ≤ 1000) : Ents W (.slice (some ⟨g, 0, none⟩) l.length l.length) l := by
 refine ⟨_, _, rfl, Nat.le_refl _, by unfold maxLen; omega, fun k hk => ⟨g, 0, rfl, fun j hj => ?_⟩⟩
 subst hc
 have hcell : W.cell? ⟨g, 0 + k * 11 + j, none⟩ = (l.flatMap entCells)[0 + k * 11 + j]? := by
  simp [World.cell?, h]
 rw [hcell, Nat.zero_add]
 clear h hcell hm
 induction l generalizing k with
 | nil => cases hk
 | cons x l ih =>
  rw [List.flatMap_cons]
  have hx : (entCells x).length = 11 := rfl
  cases k with
  | zero =>
   rw [List.getElem?_append_left (by rw [hx]; omega)]
   simp
  | succ k =>
   rw [List.getElem?_append_right (by rw [hx]; omega), hx, show (k + 1) * 11 + j - 11 = k * 11 + j by omega]
   exact ih k (by simpa using hk)
theorem ents_none (W : World) : Ents W (.slice none 0 0) [] := ⟨none, 0, rfl, Nat.le_refl _, Nat.zero_le _, fun k hk => by cases hk⟩
theorem acts_made {W : World} {g : Nat} {t : TypeId} {cs : Array Value} (l : Acts44) (h : W.heap[g]? = some (.cells cs t (0, 0))) (hc : cs = (actRow l).toArray) (hm : l.length ≤ 1000) : RdA W (.slice (some ⟨g, 0, none⟩) l.length l.length) l := by
 refine ⟨_, _, rfl, Nat.le_refl _, by unfold maxLen; omega, fun k hk => ⟨g, 0, rfl, ?_⟩⟩
 subst hc
 obtain ⟨r1, r2⟩ := actRow_at l k _ (List.getElem?_eq_getElem hk)
 constructor
 ·rw [Nat.zero_add]
  exact cell_of h (by simpa using r1)
 ·rw [Nat.zero_add]
  exact cell_of h (by simpa using r2)
set_option maxHeartbeats 4000000 in
set_option maxRecDepth 100000 in
theorem awake44_calls (w : World) : Calls Tryz.prog 5 #[] w fun e w' => e = .returned (.bool true) ∧ Below w.heap.size w w' := by
 have s1 : (w.alloc (.cells #[.string ⟨#[100]⟩, .int .i64 2, .int .i64 0, .int .i64 0, .int .i64 0, .int .i64 0, .int .i64 0, .int .i64 0, .string ⟨#[]⟩, .string ⟨#[]⟩, .int .i64 0] 45)).heap.size = w.heap.size + 1 := by simp
 have s2 : ((w.alloc (.cells #[.string ⟨#[100]⟩, .int .i64 2, .int .i64 0, .int .i64 0, .int .i64 0, .int .i64 0, .int .i64 0, .int .i64 0, .string ⟨#[]⟩, .string ⟨#[]⟩, .int .i64 0] 45)).alloc (.cells #[.string ⟨#[100, 47, 110, 101, 119]⟩, .int .i64 1, .int .i64 0, .int .i64 0, .int .i64 0, .int .i64 0, .int .i64 0, .int .i64 0, .string ⟨#[]⟩, .string ⟨#[]⟩, .int .i64 0] 45)).heap.size = w.heap.size + 1 + 1 := by simp
 have s3 : (((w.alloc (.cells #[.string ⟨#[100]⟩, .int .i64 2, .int .i64 0, .int .i64 0, .int .i64 0, .int .i64 0, .int .i64 0, .int .i64 0, .string ⟨#[]⟩, .string ⟨#[]⟩, .int .i64 0] 45)).alloc (.cells #[.string ⟨#[100, 47, 110, 101, 119]⟩, .int .i64 1, .int .i64 0, .int .i64 0, .int .i64 0, .int .i64 0, .int .i64 0, .int .i64 0, .string ⟨#[]⟩, .string ⟨#[]⟩, .int .i64 0] 45)).alloc (.cells #[.string ⟨#[100]⟩, .int .i64 2, .int .i64 0, .int .i64 0, .int .i64 0, .int .i64 0, .int .i64 0, .int .i64 0, .string ⟨#[]⟩, .string ⟨#[]⟩, .int .i64 0] 45)).heap.size = w.heap.size + 1 + 1 + 1 := by simp
 have h1 := heap_alloc_new w (.cells #[.string ⟨#[100]⟩, .int .i64 2, .int .i64 0, .int .i64 0, .int .i64 0, .int .i64 0, .int .i64 0, .int .i64 0, .string ⟨#[]⟩, .string ⟨#[]⟩, .int .i64 0] 45)
 have h2 := heap_alloc_new (w.alloc (.cells #[.string ⟨#[100]⟩, .int .i64 2, .int .i64 0, .int .i64 0, .int .i64 0, .int .i64 0, .int .i64 0, .int .i64 0, .string ⟨#[]⟩, .string ⟨#[]⟩, .int .i64 0] 45)) (.cells #[.string ⟨#[100, 47, 110, 101, 119]⟩, .int .i64 1, .int .i64 0, .int .i64 0, .int .i64 0, .int .i64 0, .int .i64 0, .int .i64 0, .string ⟨#[]⟩, .string ⟨#[]⟩, .int .i64 0] 45)
 have h3 := heap_alloc_new ((w.alloc (.cells #[.string ⟨#[100]⟩, .int .i64 2, .int .i64 0, .int .i64 0, .int .i64 0, .int .i64 0, .int .i64 0, .int .i64 0, .string ⟨#[]⟩, .string ⟨#[]⟩, .int .i64 0] 45)).alloc (.cells #[.string ⟨#[100, 47, 110, 101, 119]⟩, .int .i64 1, .int .i64 0, .int .i64 0, .int .i64 0, .int .i64 0, .int .i64 0, .int .i64 0, .string ⟨#[]⟩, .string ⟨#[]⟩, .int .i64 0] 45)) (.cells #[.string ⟨#[100]⟩, .int .i64 2, .int .i64 0, .int .i64 0, .int .i64 0, .int .i64 0, .int .i64 0, .int .i64 0, .string ⟨#[]⟩, .string ⟨#[]⟩, .int .i64 0] 45)
 have h4 := heap_alloc_new (((w.alloc (.cells #[.string ⟨#[100]⟩, .int .i64 2, .int .i64 0, .int .i64 0, .int .i64 0, .int .i64 0, .int .i64 0, .int .i64 0, .string ⟨#[]⟩, .string ⟨#[]⟩, .int .i64 0] 45)).alloc (.cells #[.string ⟨#[100, 47, 110, 101, 119]⟩, .int .i64 1, .int .i64 0, .int .i64 0, .int .i64 0, .int .i64 0, .int .i64 0, .int .i64 0, .string ⟨#[]⟩, .string ⟨#[]⟩, .int .i64 0] 45)).alloc (.cells #[.string ⟨#[100]⟩, .int .i64 2, .int .i64 0, .int .i64 0, .int .i64 0, .int .i64 0, .int .i64 0, .int .i64 0, .string ⟨#[]⟩, .string ⟨#[]⟩, .int .i64 0] 45)) (.cells #[.string ⟨#[100]⟩, .int .i64 2, .int .i64 0, .int .i64 0, .int .i64 0, .int .i64 0, .int .i64 0, .int .i64 0, .string ⟨#[]⟩, .string ⟨#[]⟩, .int .i64 0, .string ⟨#[100, 47, 110, 101, 119]⟩, .int .i64 1, .int .i64 0, .int .i64 0, .int .i64 0, .int .i64 0, .int .i64 0, .int .i64 0, .string ⟨#[]⟩, .string ⟨#[]⟩, .int .i64 0] 45)
 rw [s1] at h2
 rw [s2] at h3
 rw [s3] at h4
 have hB2 := below_alloc (below_alloc (Below.refl w.heap.size w) (.cells #[.string ⟨#[100]⟩, .int .i64 2, .int .i64 0, .int .i64 0, .int .i64 0, .int .i64 0, .int .i64 0, .int .i64 0, .string ⟨#[]⟩, .string ⟨#[]⟩, .int .i64 0] 45)) (.cells #[.string ⟨#[100, 47, 110, 101, 119]⟩, .int .i64 1, .int .i64 0, .int .i64 0, .int .i64 0, .int .i64 0, .int .i64 0, .int .i64 0, .string ⟨#[]⟩, .string ⟨#[]⟩, .int .i64 0] 45)
 have ha3 := below_alloc (Below.refl _ ((w.alloc (.cells #[.string ⟨#[100]⟩, .int .i64 2, .int .i64 0, .int .i64 0, .int .i64 0, .int .i64 0, .int .i64 0, .int .i64 0, .string ⟨#[]⟩, .string ⟨#[]⟩, .int .i64 0] 45)).alloc (.cells #[.string ⟨#[100, 47, 110, 101, 119]⟩, .int .i64 1, .int .i64 0, .int .i64 0, .int .i64 0, .int .i64 0, .int .i64 0, .int .i64 0, .string ⟨#[]⟩, .string ⟨#[]⟩, .int .i64 0] 45))) (.cells #[.string ⟨#[100]⟩, .int .i64 2, .int .i64 0, .int .i64 0, .int .i64 0, .int .i64 0, .int .i64 0, .int .i64 0, .string ⟨#[]⟩, .string ⟨#[]⟩, .int .i64 0] 45)
 have ha4 := below_alloc (Below.refl _ (((w.alloc (.cells #[.string ⟨#[100]⟩, .int .i64 2, .int .i64 0, .int .i64 0, .int .i64 0, .int .i64 0, .int .i64 0, .int .i64 0, .string ⟨#[]⟩, .string ⟨#[]⟩, .int .i64 0] 45)).alloc (.cells #[.string ⟨#[100, 47, 110, 101, 119]⟩, .int .i64 1, .int .i64 0, .int .i64 0, .int .i64 0, .int .i64 0, .int .i64 0, .int .i64 0, .string ⟨#[]⟩, .string ⟨#[]⟩, .int .i64 0] 45)).alloc (.cells #[.string ⟨#[100]⟩, .int .i64 2, .int .i64 0, .int .i64 0, .int .i64 0, .int .i64 0, .int .i64 0, .int .i64 0, .string ⟨#[]⟩, .string ⟨#[]⟩, .int .i64 0] 45))) (.cells #[.string ⟨#[100]⟩, .int .i64 2, .int .i64 0, .int .i64 0, .int .i64 0, .int .i64 0, .int .i64 0, .int .i64 0, .string ⟨#[]⟩, .string ⟨#[]⟩, .int .i64 0, .string ⟨#[100, 47, 110, 101, 119]⟩, .int .i64 1, .int .i64 0, .int .i64 0, .int .i64 0, .int .i64 0, .int .i64 0, .int .i64 0, .string ⟨#[]⟩, .string ⟨#[]⟩, .int .i64 0] 45)
 have hB4 := below_step (below_step hB2 ha3) ha4
 have h3' := (ha4.block _ (Array.getElem?_eq_some_iff.1 h3).1).trans h3
 have h1' := ((ha4.block _ (by rw [s3]; omega)).trans (ha3.block _ (by rw [s2]; omega))).trans (((below_alloc (Below.refl _ (w.alloc (.cells #[.string ⟨#[100]⟩, .int .i64 2, .int .i64 0, .int .i64 0, .int .i64 0, .int .i64 0, .int .i64 0, .int .i64 0, .string ⟨#[]⟩, .string ⟨#[]⟩, .int .i64 0] 45))) (.cells #[.string ⟨#[100, 47, 110, 101, 119]⟩, .int .i64 1, .int .i64 0, .int .i64 0, .int .i64 0, .int .i64 0, .int .i64 0, .int .i64 0, .string ⟨#[]⟩, .string ⟨#[]⟩, .int .i64 0] 45)).block _ (by rw [s1]; omega)).trans h1)
 have p1 := plan_calls _ _ _ [dE] [] [dE, nE] 0 _ (ents_made [dE] h3' rfl (by simp)) (ents_none _) (ents_made [dE, nE] h4 rfl (by simp)) (by decide +kernel) (by decide +kernel) (by decide +kernel)
 rw [aw44_1, show ([dE] : List Ent).length = 1 from rfl, show ([dE, nE] : List Ent).length = 2 from rfl] at p1
 replace h1 := hid h1
 replace h2 := hid h2
 replace h3 := hid h3
 replace h4 := hid h4
 replace hB2 := hid hB2
 replace ha3 := hid ha3
 replace ha4 := hid ha4
 replace hB4 := hid hB4
 replace h3' := hid h3'
 replace h1' := hid h1'
 replace p1 := hid p1
 replace s1 := hid s1
 replace s2 := hid s2
 replace s3 := hid s3
 go_enter Tryz.func5, Tryz.ntmps5
 go_wp2_with fail
 (with_reducible refine (p1.out).mono ?_)
 rintro e w5 ⟨⟨v5, rfl, hO5⟩, hB5⟩
 have hB05 := below_step hB4.out hB5
 have h15 := (hB5.block _ (Array.getElem?_eq_some_iff.1 h1'.out).1).trans h1'.out
 clear h1 h2 h3 h4 hB2 ha3 ha4 hB4 h3' h1' p1 s1 s2 s3
 generalize (((w.alloc (.cells #[.string ⟨#[100]⟩, .int .i64 2, .int .i64 0, .int .i64 0, .int .i64 0, .int .i64 0, .int .i64 0, .int .i64 0, .string ⟨#[]⟩, .string ⟨#[]⟩, .int .i64 0] 45)).alloc (.cells #[.string ⟨#[100, 47, 110, 101, 119]⟩, .int .i64 1, .int .i64 0, .int .i64 0, .int .i64 0, .int .i64 0, .int .i64 0, .int .i64 0, .string ⟨#[]⟩, .string ⟨#[]⟩, .int .i64 0] 45)).alloc (.cells #[.string ⟨#[100]⟩, .int .i64 2, .int .i64 0, .int .i64 0, .int .i64 0, .int .i64 0, .int .i64 0, .int .i64 0, .string ⟨#[]⟩, .string ⟨#[]⟩, .int .i64 0] 45)).alloc (.cells #[.string ⟨#[100]⟩, .int .i64 2, .int .i64 0, .int .i64 0, .int .i64 0, .int .i64 0, .int .i64 0, .int .i64 0, .string ⟨#[]⟩, .string ⟨#[]⟩, .int .i64 0, .string ⟨#[100, 47, 110, 101, 119]⟩, .int .i64 1, .int .i64 0, .int .i64 0, .int .i64 0, .int .i64 0, .int .i64 0, .int .i64 0, .string ⟨#[]⟩, .string ⟨#[]⟩, .int .i64 0] 45) = W4 at *
 have hlow4 := hB5.size
 have hlt5 : w.heap.size < w5.heap.size := (Array.getElem?_eq_some_iff.1 h15).1
 have hR5 := rda_own hO5
 obtain ⟨A5, c5, rfl, hc51, hc52⟩ := hR5.shape
 unfold maxLen at hc52
 dsimp only [List.length_cons, List.length_nil] at hc51 hR5 hO5
 have c0 := cell_of (j := 0) h15 rfl
 have c1 := cell_of (j := 1) h15 rfl
 have c2 := cell_of (j := 2) h15 rfl
 have c3 := cell_of (j := 3) h15 rfl
 have c4 := cell_of (j := 4) h15 rfl
 have c5 := cell_of (j := 5) h15 rfl
 have c6 := cell_of (j := 6) h15 rfl
 have c7 := cell_of (j := 7) h15 rfl
 have c8 := cell_of (j := 8) h15 rfl
 have c9 := cell_of (j := 9) h15 rfl
 have c10 := cell_of (j := 10) h15 rfl
 have s1 : (w5.alloc (.cells #[.string ⟨#[100]⟩, .int .i64 2, .int .i64 0, .int .i64 0, .int .i64 0, .int .i64 0, .int .i64 0, .int .i64 0, .string ⟨#[]⟩, .string ⟨#[]⟩, .int .i64 0] 45)).heap.size = w5.heap.size + 1 := by simp
 have k1 := heap_alloc_new w5 (.cells #[.string ⟨#[100]⟩, .int .i64 2, .int .i64 0, .int .i64 0, .int .i64 0, .int .i64 0, .int .i64 0, .int .i64 0, .string ⟨#[]⟩, .string ⟨#[]⟩, .int .i64 0] 45)
 have k2 := heap_alloc_new (w5.alloc (.cells #[.string ⟨#[100]⟩, .int .i64 2, .int .i64 0, .int .i64 0, .int .i64 0, .int .i64 0, .int .i64 0, .int .i64 0, .string ⟨#[]⟩, .string ⟨#[]⟩, .int .i64 0] 45)) (.cells #[.string ⟨#[100]⟩, .int .i64 2, .int .i64 0, .int .i64 0, .int .i64 0, .int .i64 0, .int .i64 0, .int .i64 0, .string ⟨#[]⟩, .string ⟨#[]⟩, .int .i64 0] 45)
 rw [s1] at k2
 have ka1 := below_alloc (Below.refl _ w5) (.cells #[.string ⟨#[100]⟩, .int .i64 2, .int .i64 0, .int .i64 0, .int .i64 0, .int .i64 0, .int .i64 0, .int .i64 0, .string ⟨#[]⟩, .string ⟨#[]⟩, .int .i64 0] 45)
 have ka2 := below_alloc (Below.refl _ (w5.alloc (.cells #[.string ⟨#[100]⟩, .int .i64 2, .int .i64 0, .int .i64 0, .int .i64 0, .int .i64 0, .int .i64 0, .int .i64 0, .string ⟨#[]⟩, .string ⟨#[]⟩, .int .i64 0] 45))) (.cells #[.string ⟨#[100]⟩, .int .i64 2, .int .i64 0, .int .i64 0, .int .i64 0, .int .i64 0, .int .i64 0, .int .i64 0, .string ⟨#[]⟩, .string ⟨#[]⟩, .int .i64 0] 45)
 have k1' := (ka2.block _ (Array.getElem?_eq_some_iff.1 k1).1).trans k1
 have hB57 := below_step ka1 ka2
 have p2 := plan_calls _ _ _ [dE] [] [dE] 0 _ (ents_made [dE] k1' rfl (by simp)) (ents_none _) (ents_made [dE] k2 rfl (by simp)) (by decide +kernel) (by decide +kernel) (by decide +kernel)
 rw [aw44_2, show ([dE] : List Ent).length = 1 from rfl] at p2
 replace hO5 := hid hO5
 replace hB5 := hid hB5
 replace hB05 := hid hB05
 replace h15 := hid h15
 replace hR5 := hid hR5
 replace s1 := hid s1
 replace k1 := hid k1
 replace k2 := hid k2
 replace ka1 := hid ka1
 replace ka2 := hid ka2
 replace k1' := hid k1'
 replace hB57 := hid hB57
 replace p2 := hid p2
 replace hlow4 := hid hlow4
 go_wp2_with fail
 (with_reducible refine (p2.out).mono ?_)
 rintro e w8 ⟨⟨v8, rfl, hO8⟩, hB8⟩
 have hB58 := below_step hB57.out hB8
 have hB08 := below_step hB05.out hB58
 have hR58 := hR5.out.below hB58
 have hR8 := rda_own hO8
 obtain ⟨A8, d8, rfl, hd81, hd82⟩ := hR8.shape
 unfold maxLen at hd82
 dsimp only [List.length_cons, List.length_nil] at hd81 hR8
 clear hO8 hB8 hB58 p2 hB57 k1' ka2 ka1 k2 k1 s1 hO5 c0 c1 c2 c3 c4 c5 c6 c7 c8 c9 c10 h15 hB05 hB5
 generalize (w5.alloc (.cells #[.string ⟨#[100]⟩, .int .i64 2, .int .i64 0, .int .i64 0, .int .i64 0, .int .i64 0, .int .i64 0, .int .i64 0, .string ⟨#[]⟩, .string ⟨#[]⟩, .int .i64 0] 45)).alloc (.cells #[.string ⟨#[100]⟩, .int .i64 2, .int .i64 0, .int .i64 0, .int .i64 0, .int .i64 0, .int .i64 0, .int .i64 0, .string ⟨#[]⟩, .string ⟨#[]⟩, .int .i64 0] 45) = W7 at *
 have q1 := heap_alloc_new w8 (.cells #[.string ⟨#[100]⟩, .int .i64 2, .string ⟨#[100, 47, 110, 101, 119]⟩, .int .i64 2] 51)
 have hq1 := below_alloc (Below.refl _ w8) (.cells #[.string ⟨#[100]⟩, .int .i64 2, .string ⟨#[100, 47, 110, 101, 119]⟩, .int .i64 2] 51)
 have e1 := same44_calls _ _ [([100], 2), ([100, 47, 110, 101, 119], 2)] [([100], 2), ([100, 47, 110, 101, 119], 2)] _ (hR58.below hq1) (acts_made [([100], 2), ([100, 47, 110, 101, 119], 2)] q1 rfl (by simp)) (by simp)
 rw [decide_eq_true rfl, show ([([100], 2), ([100, 47, 110, 101, 119], 2)] : Acts44).length = 2 from rfl] at e1
 replace hB08 := hid hB08
 replace hR58 := hid hR58
 replace hR8 := hid hR8
 replace q1 := hid q1
 replace hq1 := hid hq1
 replace e1 := hid e1
 go_wp2_with fail
 (with_reducible refine (e1.out).mono ?_)
 rintro e w9 ⟨rfl, hB9⟩
 have hB89 := below_step hq1.out hB9
 have hB09 := below_step hB08.out hB89
 have hR9 := hR8.out.below hB89
 clear hB9 hB89 e1 hq1 q1
 have q2 := heap_alloc_new w9 (.cells #[.string ⟨#[100]⟩, .int .i64 1] 51)
 have hq2 := below_alloc (Below.refl _ w9) (.cells #[.string ⟨#[100]⟩, .int .i64 1] 51)
 have e2 := same44_calls _ _ [([100], 1)] [([100], 1)] _ (hR9.below hq2) (acts_made [([100], 1)] q2 rfl (by simp)) (by simp)
 rw [decide_eq_true rfl, show ([([100], 1)] : Acts44).length = 1 from rfl] at e2
 replace hB09 := hid hB09
 replace hR9 := hid hR9
 replace q2 := hid q2
 replace hq2 := hid hq2
 replace e2 := hid e2
 go_wp2_with fail
 (with_reducible refine (e2.out).mono ?_)
 rintro e w10 ⟨rfl, hB10⟩
 have hB := below_step (below_step hB09.out hq2.out) hB10
 replace hB := hid hB
 go_wp2
 go_ret
 exact ⟨rfl, hB.out⟩
end Go.Proofs.YtcjlfkklpghjbaaGreat

namespace Go.Proofs.YtcjlfkklpghjbaaGreat
/-! ### how long the files of a built tree are -/
structure DataLe (T : Fs) (n : Nat) : Prop where
  le : ∀ j, (T.nd j).data.length ≤ n
/-! ### the names of a file -/
section
variable {T : Fs}
/-- What the walk finds. -/
structure OneFile (T T2 : Fs) (f : Int) (p b : Bytes) (m : Mt) (n0 : Bytes) : Prop where
  set : f = 0 → (T2.stat p).1.mt = m
  data : ∃ c, (T2.read p).1 = c ++ b
  all : ∀ n ∈ T.nameList p, T2.read n = ((T2.read p).1, 0) ∧ T2.stat n = ((T2.stat p).1, 0)
  out : (T2.remove n0).2 = 0
  rest : ∀ n ∈ T.nameList p, n ≠ n0 → ((T2.remove n0).1.read n).1 = (T2.read p).1 ∧ (T2.remove n0).1.stat n = ({ (T2.stat p).1 with links := (T.nameList p).length - 1 }, 0)
  none : ((T2.remove n0).1.stat n0).2 = 10
  short : ∀ n ∈ T.nameList p, n.length ≤ 200
  few : T2.names = T.names
end
end Go.Proofs.YtcjlfkklpghjbaaGreat

namespace Go.Proofs.YtcjlfkklpghjbaaGreat
open Go.RowKit
theorem RdB.string {W : World} {v : Value} {l : Bytes} (h : RdB W v l) : (convert 39 9 v).run Tryz.prog W = .ok (.string (mkS l)) W := by
 obtain ⟨A, c, rfl, h2, h3, h4⟩ := h
 by_cases hl : l = []
 ·subst hl
  exact run_convert_bytes_zero W 39 5 Tryz.underlying39 Tryz.underlying5 A c 9 Tryz.underlying9
 ·have hp : 0 < l.length := List.length_pos_iff.2 hl
  obtain ⟨g, o, rfl, _⟩ := h4 0 hp
  rw [← strOfNums_bytes l]
  refine run_convert_bytes_arg W 39 5 Tryz.underlying39 Tryz.underlying5 g o l.length c (l.map fun b => (b.toNat : Int)) (by simp) (fun i hi => ?_) 9 Tryz.underlying9
  obtain ⟨g', o', e', hc⟩ := h4 i hi
  cases e'
  rw [hc]
  simp [hi]
end Go.Proofs.YtcjlfkklpghjbaaGreat

namespace Go.Proofs.YtcjlfkklpghjbaaGreat
open Go.RowKit
end Go.Proofs.YtcjlfkklpghjbaaGreat

namespace Go.Proofs.YtcjlfkklpghjbaaGreat
section
variable {T U : Fs}
/-- The same at one path. -/
def SameAt (T U : Fs) (s : Bytes) : Prop := ∃ i j, (split s, i) ∈ T.names ∧ (split s, j) ∈ U.names ∧ Lk T U i j ∧ T.nameList s = U.nameList s
end
end Go.Proofs.YtcjlfkklpghjbaaGreat

namespace Go.Proofs.YtcjlfkklpghjbaaGreat
open Go.RowKit
set_option maxHeartbeats 2000000 in
set_option maxRecDepth 100000 in
theorem thing0_calls (tb rb : Nat) (v : Value) (A M B : Nat → Nat) (T : Fs) (s : ByteArray) (w : World) (hU : Rep w tb A M T) (hR : RRep w rb v B T) (hs : s.size ≤ 16777216) (hf : T.names.length ≤ 1000000) :
  Calls Tryz.prog 28 #[ptr tb, ptr rb, .string s, .bool false] w fun e w' => e = .returned (.bool true) ∧ Below w.heap.size w w' := by
 have h1 := fun W hW => stat_calls tb A M T s W hW hs
 have h2 := fun W hW => rstat_calls rb v B T s W hW hs hf
 have h3 := fun W hW => read_calls tb A M T s W hW hs
 have h4 := fun W hW => rread_calls rb v B T s W hW hs
 have h5 := fun W hW => list_calls tb A M T s W hW hs hf
 have h6 := fun W hW => rlist_calls rb v B T s W hW hs hf
 have h7 := fun W hW => namesof_calls tb A M T s W hW hs hf
 have h8 := fun W hW => rnames_calls rb v B T s W hW hs hf
 generalize T.stat (bl s) = st at *
 obtain ⟨st, se⟩ := st
 obtain ⟨kd, ino, sz, ln, mt, tg⟩ := st
 obtain ⟨m1, m2, m3, m4, m5⟩ := mt
 unfold statV statCells ptr at *
 dsimp only at *
 replace h1 := hid h1
 replace h2 := hid h2
 replace h3 := hid h3
 replace h4 := hid h4
 replace h5 := hid h5
 replace h6 := hid h6
 replace h7 := hid h7
 replace h8 := hid h8
 go_enter Tryz.func28, Tryz.ntmps28
 go_wp2_with fail
 (with_reducible refine (h1.out _ hU).mono ?_)
 rintro e w1 ⟨rfl, hB1⟩
 have e1 := (MapKept.heap_alloc w1 (.cells #[.int .i64 kd, .int .i64 ino, .int .i64 sz, .int .i64 ln, .int .i64 m1, .int .i64 m2, .int .i64 m3, .int .i64 m4, .int .i64 m5, .string (mkS tg)] 84)).1
 have hB2 := below_step hB1 (below_alloc (Below.refl _ _) (.cells #[.int .i64 kd, .int .i64 ino, .int .i64 sz, .int .i64 ln, .int .i64 m1, .int .i64 m2, .int .i64 m3, .int .i64 m4, .int .i64 m5, .string (mkS tg)] 84))
 have hU2 := hU.below hB2
 have hR2 := hR.below hB2
 have hsz1 := hB1.size
 go_upto_region 2 with fail
 generalize w1.alloc (.cells #[.int .i64 kd, .int .i64 ino, .int .i64 sz, .int .i64 ln, .int .i64 m1, .int .i64 m2, .int .i64 m3, .int .i64 m4, .int .i64 m5, .string (mkS tg)] 84) = W1 at *
 generalize w1.heap.size = n1 at *
 replace e1 := hid e1
 replace hB2 := hid hB2
 replace hU2 := hid hU2
 replace hR2 := hid hR2
 replace hB1 := hid hB1
 go_wp2_with fail
 (with_reducible refine (h2.out _ hR2.out).mono ?_)
 rintro e w2 ⟨rfl, hB3⟩
 have e2 := (hB3.block n1 (Array.getElem?_eq_some_iff.1 e1.out).1).trans e1.out
 have e3 := (MapKept.heap_alloc w2 (.cells #[.int .i64 kd, .int .i64 ino, .int .i64 sz, .int .i64 ln, .int .i64 m1, .int .i64 m2, .int .i64 m3, .int .i64 m4, .int .i64 m5, .string (mkS tg)] 84)).1
 have hA2 := below_alloc (Below.refl w2.heap.size w2) (.cells #[.int .i64 kd, .int .i64 ino, .int .i64 sz, .int .i64 ln, .int .i64 m1, .int .i64 m2, .int .i64 m3, .int .i64 m4, .int .i64 m5, .string (mkS tg)] 84)
 have hlt2 := (Array.getElem?_eq_some_iff.1 e2).1
 have e4 := (hA2.block n1 hlt2).trans e2
 have hB4 := below_step (below_step hB2.out hB3) hA2
 have hU4 := hU.below hB4
 have hR4 := hR.below hB4
 clear e2 hB3 hU2 hR2 e1 hA2
 go_upto_region 4 with fail
 generalize w2.alloc (.cells #[.int .i64 kd, .int .i64 ino, .int .i64 sz, .int .i64 ln, .int .i64 m1, .int .i64 m2, .int .i64 m3, .int .i64 m4, .int .i64 m5, .string (mkS tg)] 84) = W2 at *
 generalize w2.heap.size = n2 at *
 have hne : n1 ≠ n2 := Nat.ne_of_lt hlt2
 have f4 : W2.frozen? ⟨n1, 1, none⟩ = false := by simp [World.frozen?, e4]
 have f3 : W2.frozen? ⟨n2, 1, none⟩ = false := by simp [World.frozen?, e3]
 have f3' : (W2.setCell ⟨n1, 1, none⟩ (.int .i64 0)).frozen? ⟨n2, 1, none⟩ = false := by
  simp [World.frozen?, (heap_set_other W2 (Ne.symm hne) 1 (.int .i64 0)).trans e3]
 have c4 := cell_of (j := 1) e4 rfl
 have c3' : (W2.setCell ⟨n1, 1, none⟩ (.int .i64 0)).cell? ⟨n2, 1, none⟩ = some (.int .i64 ino) := cell_of ((heap_set_other W2 (Ne.symm hne) 1 (.int .i64 0)).trans e3) rfl
 have u4 := (heap_set_other (W2.setCell ⟨n1, 1, none⟩ (.int .i64 0)) hne 1 (.int .i64 0)).trans (heap_set_same e4 1 (.int .i64 0))
 have u3 := heap_set_same ((heap_set_other W2 (Ne.symm hne) 1 (.int .i64 0)).trans e3) 1 (.int .i64 0)
 have hB5 := (hB4.setCell (p := ⟨n1, 1, none⟩) hsz1 (.int .i64 0)).setCell (p := ⟨n2, 1, none⟩) (Nat.le_trans hsz1 (Nat.le_of_lt hlt2)) (.int .i64 0)
 replace e3 := hid e3
 replace e4 := hid e4
 replace hB4 := hid hB4
 replace hU4 := hid hU4
 replace hR4 := hid hR4
 replace hB5 := hid hB5
 replace u4 := hid u4
 replace u3 := hid u3
 clear hlt2
 replace hne := hid hne
 go_upto_region 5 with fail
 generalize (W2.setCell ⟨n1, 1, none⟩ (.int .i64 0)).setCell ⟨n2, 1, none⟩ (.int .i64 0) = W3 at *
 clear e3 e4 hB4 hU4 hR4 f4 f3 f3' c4 c3' hne
 have e4 : W3.heap[n1]? = some (.cells #[.int .i64 kd, .int .i64 0, .int .i64 sz, .int .i64 ln, .int .i64 m1, .int .i64 m2, .int .i64 m3, .int .i64 m4, .int .i64 m5, .string (mkS tg)] 84 (0, 0)) := u4.out
 have e3 : W3.heap[n2]? = some (.cells #[.int .i64 kd, .int .i64 0, .int .i64 sz, .int .i64 ln, .int .i64 m1, .int .i64 m2, .int .i64 m3, .int .i64 m4, .int .i64 m5, .string (mkS tg)] 84 (0, 0)) := u3.out
 have hB4 := hB5.out
 have hU4 := hU.below hB4
 have hR4 := hR.below hB4
 clear u4 u3 hB5
 replace e3 := hid e3
 replace e4 := hid e4
 replace hB4 := hid hB4
 replace hU4 := hid hU4
 replace hR4 := hid hR4
 go_wp2_with fail
 (with_reducible refine (h3.out _ hU4.out).mono ?_)
 rintro e w3 ⟨⟨v3, rfl, b3⟩, hB5⟩
 obtain ⟨a3, c3, hv3, _, _⟩ := own_shape b3.own
 subst hv3
 have hB5' := below_step hB4.out hB5
 have hR5 := hR.below hB5'
 replace b3 := hid b3
 replace hB5' := hid hB5'
 replace hR5 := hid hR5
 replace hB5 := hid hB5
 go_wp2_with fail
 (with_reducible refine (h4.out _ hR5.out).mono ?_)
 rintro e w4 ⟨⟨v4, rfl, b4⟩, hB6⟩
 obtain ⟨a4, c4, hv4, _, _⟩ := own_shape b4.own
 subst hv4
 have hB6' := below_step hB5'.out hB6
 have hU6 := hU.below hB6'
 replace b4 := hid b4
 replace hB6' := hid hB6'
 replace hU6 := hid hU6
 replace hB6 := hid hB6
 go_wp2_with fail
 (with_reducible refine (h5.out _ hU6.out).mono ?_)
 rintro e w5 ⟨⟨v5, rfl, s5⟩, hB7⟩
 obtain ⟨a5, c5, hv5, _, _⟩ := own_shape s5.own
 subst hv5
 have hB7' := below_step hB6'.out hB7
 have hR7 := hR.below hB7'
 replace s5 := hid s5
 replace hB7' := hid hB7'
 replace hR7 := hid hR7
 replace hB7 := hid hB7
 go_wp2_with fail
 (with_reducible refine (h6.out _ hR7.out).mono ?_)
 rintro e w6 ⟨⟨v6, rfl, s6⟩, hB8⟩
 obtain ⟨a6, c6, hv6, _, _⟩ := own_shape s6.own
 subst hv6
 have hB8' := below_step hB7'.out hB8
 replace s6 := hid s6
 replace hB8' := hid hB8'
 replace hB8 := hid hB8
 have hB68 := below_step hB7.out hB8.out
 have hB58 := below_step hB6.out hB68
 have hB48 := below_step hB5.out hB58
 have cv1 := RdB.string ((Byts.rdb b3.out).below hB58)
 have cv2 := RdB.string ((Byts.rdb b4.out).below hB68)
 have e3' := (hB48.block n2 (Array.getElem?_eq_some_iff.1 e3.out).1).trans e3.out
 have e4' := (hB48.block n1 (Array.getElem?_eq_some_iff.1 e4.out).1).trans e4.out
 have hU8 := hU.below hB8'.out
 have hR8 := hR.below hB8'.out
 have k1 := rtexts_calls _ _ _ _ w6 ((Strs.rd s5.out).below hB8.out) (Strs.rd s6.out)
 rw [decide_eq_true rfl] at k1
 have p0 := cell_of (j := 0) e4' rfl
 have q0 := cell_of (j := 0) e3' rfl
 have p1 := cell_of (j := 1) e4' rfl
 have q1 := cell_of (j := 1) e3' rfl
 have p2 := cell_of (j := 2) e4' rfl
 have q2 := cell_of (j := 2) e3' rfl
 have p3 := cell_of (j := 3) e4' rfl
 have q3 := cell_of (j := 3) e3' rfl
 have p4 := cell_of (j := 4) e4' rfl
 have q4 := cell_of (j := 4) e3' rfl
 have p5 := cell_of (j := 5) e4' rfl
 have q5 := cell_of (j := 5) e3' rfl
 have p6 := cell_of (j := 6) e4' rfl
 have q6 := cell_of (j := 6) e3' rfl
 have p7 := cell_of (j := 7) e4' rfl
 have q7 := cell_of (j := 7) e3' rfl
 have p8 := cell_of (j := 8) e4' rfl
 have q8 := cell_of (j := 8) e3' rfl
 have p9 := cell_of (j := 9) e4' rfl
 have q9 := cell_of (j := 9) e3' rfl
 replace cv1 := cv1
 replace e3' := hid e3'
 replace e4' := hid e4'
 replace hU8 := hid hU8
 replace hR8 := hid hR8
 replace k1 := hid k1
 clear hB68 hB58 hB48
 go_wp2_with fail
 (with_reducible refine (k1.out).mono ?_)
 rintro e w7 ⟨rfl, hB9⟩
 have hU9 := hU8.out.below hB9
 have hB9' := below_step hB8'.out hB9
 replace hU9 := hid hU9
 replace hB9' := hid hB9'
 replace hB9 := hid hB9
 go_wp2_with fail
 (with_reducible refine (h7.out _ hU9.out).mono ?_)
 rintro e w8 ⟨⟨v8, rfl, s8⟩, hB10⟩
 obtain ⟨a8, c8, hv8, _, _⟩ := own_shape s8.own
 subst hv8
 have hB10' := below_step hB9'.out hB10
 have hR10 := hR.below hB10'
 replace s8 := hid s8
 replace hR10 := hid hR10
 replace hB10' := hid hB10'
 replace hB10 := hid hB10
 go_wp2_with fail
 (with_reducible refine (h8.out _ hR10.out).mono ?_)
 rintro e w9 ⟨⟨v9, rfl, s9⟩, hB11⟩
 obtain ⟨a9, c9, hv9, _, _⟩ := own_shape s9.own
 subst hv9
 have hB11' := below_step hB10'.out hB11
 have k2 := rtexts_calls _ _ _ _ w9 ((Strs.rd s8.out).below hB11) (Strs.rd s9)
 rw [decide_eq_true rfl] at k2
 replace s9 := hid s9
 replace hB11' := hid hB11'
 replace hB11 := hid hB11
 replace k2 := hid k2
 go_wp2_with fail
 (with_reducible refine (k2.out).mono ?_)
 rintro e w10 ⟨rfl, hB12⟩
 have hB12' := below_step hB11'.out hB12
 replace hB12' := hid hB12'
 replace hB12 := hid hB12
 go_wp2
 go_ret
 exact ⟨rfl, hB12'.out⟩
set_option maxHeartbeats 2000000 in
set_option maxRecDepth 100000 in
theorem lsame_calls (tb rb : Nat) (v : Value) (A M B : Nat → Nat) (T : Fs) (w : World) (hU : Rep w tb A M T) (hR : RRep w rb v B T) (hf : T.names.length ≤ 100000) :
  Calls Tryz.prog 11 #[ptr tb, ptr rb] w fun e w' => e = .returned (.bool true) ∧ Below w.heap.size w w' := by
 have hI := hU.inv
 have h1 := fun W hW => paths_calls tb A M T W hW (by omega)
 have h2 := fun W hW => rpaths_calls rb v B T W hW (by omega)
 have h3 := fun W hW => count_same tb A M T W hW (by omega)
 have h4 := fun W hW => rcounted_calls rb v B T W hW (by omega)
 have h5 := fun W (s : ByteArray) (hs : s.size ≤ 16777216) hU hR => thing0_calls tb rb v A M B T s W hU hR hs (by omega)
 have hp1 := fun W : World => run_eql_nil_ptr (P := Tryz.prog) W ⟨tb, 0, none⟩ Tryz.underlying28
 have hp2 := fun W : World => run_eql_nil_ptr (P := Tryz.prog) W ⟨rb, 0, none⟩ Tryz.underlying30
 have hPl : T.paths.length ≤ 1000000 := by rw [paths_len]; exact Nat.le_trans (below_few T []) (by omega)
 unfold ptr at *
 generalize (T.names.length : Int) - 1 = cn at *
 replace h1 := hid h1
 replace h2 := hid h2
 replace h3 := hid h3
 replace h4 := hid h4
 replace h5 := hid h5
 replace hU := hid hU
 replace hR := hid hR
 replace hI := hid hI
 go_enter Tryz.func11, Tryz.ntmps11
 go_wp2_with fail
 (with_reducible refine (h1.out _ hU.out).mono ?_)
 rintro e w1 ⟨⟨v1, rfl, s1⟩, hB1⟩
 obtain ⟨a1, c1, hv1, _, _⟩ := own_shape s1.own
 subst hv1
 replace s1 := hid s1
 replace hB1 := hid hB1
 go_wp2_with fail
 (with_reducible refine (h2.out _ (hR.out.below hB1.out)).mono ?_)
 rintro e w2 ⟨⟨v2, rfl, s2⟩, hB2⟩
 obtain ⟨a2, c2, hv2, _, _⟩ := own_shape s2.own
 subst hv2
 have k1 := rtexts_calls _ _ _ _ w2 ((Strs.rd s1.out).below hB2) (Strs.rd s2)
 rw [decide_eq_true rfl] at k1
 have hB02 := below_step hB1.out hB2
 replace s2 := hid s2
 replace hB02 := hid hB02
 replace k1 := hid k1
 clear hB2 hB1 s1
 go_wp2_with fail
 (with_reducible refine (k1.out).mono ?_)
 rintro e w3 ⟨rfl, hB3⟩
 have hB03 := below_step hB02.out hB3
 replace hB03 := hid hB03
 clear hB3 s2 k1 hB02
 go_wp2_with fail
 (with_reducible refine (h3.out _ (hU.out.below hB03.out)).mono ?_)
 rintro e w4 ⟨rfl, hB4⟩
 have hB04 := below_step hB03.out hB4
 replace hB04 := hid hB04
 clear hB4 hB03
 go_wp2_with fail
 (with_reducible refine (h4.out _ (hR.out.below hB04.out)).mono ?_)
 rintro e w5 ⟨rfl, rfl⟩
 go_wp2_with fail
 (with_reducible refine (h5.out _ ⟨#[]⟩ (by decide) (hU.out.below hB04.out) (hR.out.below hB04.out)).mono ?_)
 rintro e w5 ⟨rfl, hB5⟩
 have hB05 := below_step hB04.out hB5
 replace hB05 := hid hB05
 clear hB5 hB04
 go_wp2_with fail
 (with_reducible refine (h2.out _ (hR.out.below hB05.out)).mono ?_)
 rintro e w6 ⟨⟨v6, rfl, s6⟩, hB6⟩
 have hRd := Strs.rd s6
 obtain ⟨a6, c6, hv6, hl1, hl2⟩ := own_shape s6.own
 subst hv6
 unfold maxLen at hl2
 have hB06 := below_step hB05.out hB6
 have hpr : ∀ s ∈ T.paths, s.length ≤ 200 := fun s hs => right_len ((mem_paths hI.out).1 hs).1
 generalize T.paths = P at *
 replace hRd := hid hRd
 replace hB06 := hid hB06
 replace hpr := hid hpr
 clear hB6 hB05 s6
 go_wp2_with fail
 go_loopw [6] (fun i wr => ∃ k : Nat, i = .int .i64 k ∧ k ≤ P.length ∧ Below w6.heap.size w6 wr) (fun i _ => P.length - (intOf i).toNat)
 case atStart => exact ⟨0, rfl, Nat.zero_le _, Below.refl _ _⟩
 case round =>
  obtain ⟨k, rfl, hk, hB⟩ := hrel
  by_cases hlt : k < P.length
  ·obtain ⟨g, o, rfl, ck⟩ := ((hRd.out).below hB).cell hlt
   have hrl := hpr.out P[k] (List.getElem_mem hlt)
   generalize P[k] = s at *
   have hsz := mkS_size s
   have hB0r := below_step hB06.out hB
   have ht := h5.out wr (mkS s) (by omega) (hU.out.below hB0r) (hR.out.below hB0r)
   have hki : (k : Int) < (P.length : Int) := by omega
   replace hB := hid hB
   replace hB0r := hid hB0r
   replace ht := hid ht
   go_wp2_with fail
   (with_reducible refine (ht.out).mono ?_)
   rintro e w7 ⟨rfl, hB7⟩
   have hB67 := below_step hB.out hB7
   replace hB67 := hid hB67
   clear hB7
   go_wp2
   go_roundw
   case rel => exact ⟨k + 1, by go_num, by omega, hB67.out⟩
   case measure => simp [intOf]; omega
  ·obtain rfl : k = P.length := by omega
   have hB0r := below_step hB06.out hB
   replace hB := hid hB
   replace hB0r := hid hB0r
   go_wp2
   go_ret
   exact ⟨rfl, hB0r.out⟩
end Go.Proofs.YtcjlfkklpghjbaaGreat

namespace Go.Proofs.YtcjlfkklpghjbaaGreat
open Go.RowKit
set_option linter.unusedSimpArgs false
set_option linter.unusedVariables false
set_option maxHeartbeats 4000000 in
set_option maxRecDepth 100000 in
theorem oflaw_calls (v : Value) (l : Acts44) (w : World) (hv : RdA w v l) (hll : l.length ≤ 1000) :
  Calls Tryz.prog 9 #[v] w fun e w' => (∃ v', e = .returned v' ∧ w'.ownsRow w.heap.size 56 2 v' l.length (actRow l)) ∧ Below w.heap.size w w' := by
 obtain ⟨A, c, rfl, hc1, hc2⟩ := hv.shape
 unfold maxLen at hc2
 replace hv := hid hv
 go_enter Tryz.func9, Tryz.ntmps9
 go_wp2_with fail
 go_loopw [3, 4] (fun o i wr => ∃ k : Nat, i = .int .i64 k ∧ k ≤ l.length ∧ wr.ownsRow w.heap.size 56 2 o k (actRow (l.take k)) ∧ Below w.heap.size w wr) (fun _ i _ => l.length - (intOf i).toNat)
 case atStart => exact ⟨0, rfl, Nat.zero_le _, World.ownsRow_nil _ _ _ _, Below.refl _ _⟩
 case round =>
  obtain ⟨k, rfl, hk, hO, hBt⟩ := hrel
  by_cases hlt : k < l.length
  ·obtain ⟨g, o, rfl, c1, c2⟩ := (hv.out.below hBt).at hlt
   have hsn : l.take (k + 1) = l.take k ++ [l[k]] := List.take_succ_eq_append_getElem hlt
   generalize l[k] = y at *
   obtain ⟨q, t⟩ := y
   dsimp only at *
   obtain ⟨oA, oc, ho, ho1, ho2⟩ := own_shape hO
   subst ho
   unfold maxLen at ho2
   have hki : (k : Int) < (l.length : Int) := by omega
   replace hO := hid hO
   replace hBt := hid hBt
   replace hsn := hid hsn
   go_upto_region 5 with fail
   refine wp_region_held_tail (S := fun W => W.cell? ⟨g, o + k * 2, none⟩ = some (.string (mkS q)) ∧ W.cell? ⟨g, o + k * 2 + 1, none⟩ = some (.int .i64 t)) 13 (by kernel_rfl) (by kernel_rfl) ⟨c1, c2⟩ (fun hHeld => ?_)
   simp only [List.take_succ_cons, List.take_zero, List.drop_succ_cons, List.drop_zero]
   simp only [Array.replicate, List.replicate]
   refine wpAnyH_take (i := 0) (v := ?_) rfl (by kernel_rfl) (by kernel_rfl) (by kernel_rfl) (fun _ _ _ h => h) (Or.inl ⟨by rfl, ?_⟩) (by assumption) ?_
   rotate_left 1
   ·intro W hSw
    obtain ⟨hSw1, hSw2⟩ := hSw
    (try dsimp only at hSw1 hSw2)
    go_simp
    try with_reducible rfl
   simp only [Act.put, List.setIfInBounds_toArray, List.set_cons_zero, List.set_cons_succ]
   refine wpAnyH_take (i := 1) (v := ?_) rfl (by kernel_rfl) (by kernel_rfl) (by kernel_rfl) (fun _ _ _ h => h) (Or.inl ⟨by rfl, ?_⟩) (by assumption) ?_
   rotate_left 1
   ·intro W hSw
    obtain ⟨hSw1, hSw2⟩ := hSw
    (try dsimp only at hSw1 hSw2)
    go_simp
    try with_reducible rfl
   simp only [Act.put, List.setIfInBounds_toArray, List.set_cons_zero, List.set_cons_succ]
   refine wpAnyH_take (i := 2) (v := ?_) rfl (by kernel_rfl) (by kernel_rfl) (by kernel_rfl) (fun _ _ _ h => h) (Or.inl ⟨by rfl, ?_⟩) (by assumption) ?_
   rotate_left 1
   ·intro W hSw
    obtain ⟨hSw1, hSw2⟩ := hSw
    (try dsimp only at hSw1 hSw2)
    go_simp
    try with_reducible rfl
   simp only [Act.put, List.setIfInBounds_toArray, List.set_cons_zero, List.set_cons_succ]
   refine wpAnyH_take (i := 3) (v := ?_) rfl (by kernel_rfl) (by kernel_rfl) (by kernel_rfl) (fun _ _ _ h => h) (Or.inl ⟨by rfl, ?_⟩) (by assumption) ?_
   rotate_left 1
   ·intro W hSw
    obtain ⟨hSw1, hSw2⟩ := hSw
    (try dsimp only at hSw1 hSw2)
    go_simp
    try with_reducible rfl
   simp only [Act.put, List.setIfInBounds_toArray, List.set_cons_zero, List.set_cons_succ]
   refine wpAnyH_take (i := 4) (v := ?_) rfl (by kernel_rfl) (by kernel_rfl) (by kernel_rfl) (fun _ _ _ h => h) (Or.inl ⟨by rfl, ?_⟩) (by assumption) ?_
   rotate_left 1
   ·intro W hSw
    obtain ⟨hSw1, hSw2⟩ := hSw
    (try dsimp only at hSw1 hSw2)
    go_simp
    try with_reducible rfl
   simp only [Act.put, List.setIfInBounds_toArray, List.set_cons_zero, List.set_cons_succ]
   refine wpAnyH_take (i := 5) (v := ?_) rfl (by kernel_rfl) (by kernel_rfl) (by kernel_rfl) (fun _ _ _ h => h) (Or.inl ⟨by rfl, ?_⟩) (by assumption) ?_
   rotate_left 1
   ·intro W hSw
    obtain ⟨hSw1, hSw2⟩ := hSw
    (try dsimp only at hSw1 hSw2)
    go_simp
    try with_reducible rfl
   simp only [Act.put, List.setIfInBounds_toArray, List.set_cons_zero, List.set_cons_succ]
   refine wpAnyH_take (i := 6) (v := ?_) rfl (by kernel_rfl) (by kernel_rfl) (by kernel_rfl) (fun _ _ _ h => h) (Or.inl ⟨by rfl, ?_⟩) (by assumption) ?_
   rotate_left 1
   ·intro W hSw
    obtain ⟨hSw1, hSw2⟩ := hSw
    (try dsimp only at hSw1 hSw2)
    go_simp
    try with_reducible rfl
   simp only [Act.put, List.setIfInBounds_toArray, List.set_cons_zero, List.set_cons_succ]
   refine wpAnyH_take (i := 7) (v := ?_) rfl (by kernel_rfl) (by kernel_rfl) (by kernel_rfl) (fun _ _ _ h => h) (Or.inl ⟨by rfl, ?_⟩) (by assumption) ?_
   rotate_left 1
   ·intro W hSw
    obtain ⟨hSw1, hSw2⟩ := hSw
    (try dsimp only at hSw1 hSw2)
    go_simp
    try with_reducible rfl
   simp only [Act.put, List.setIfInBounds_toArray, List.set_cons_zero, List.set_cons_succ]
   refine wpAnyH_take (i := 8) (v := ?_) rfl (by kernel_rfl) (by kernel_rfl) (by kernel_rfl) (fun _ _ _ h => h) (Or.inl ⟨by rfl, ?_⟩) (by assumption) ?_
   rotate_left 1
   ·intro W hSw
    obtain ⟨hSw1, hSw2⟩ := hSw
    (try dsimp only at hSw1 hSw2)
    go_simp
    try with_reducible rfl
   simp only [Act.put, List.setIfInBounds_toArray, List.set_cons_zero, List.set_cons_succ]
   refine wpAnyH_take (i := 9) (v := ?_) rfl (by kernel_rfl) (by kernel_rfl) (by kernel_rfl) (fun _ _ _ h => h) (Or.inl ⟨by rfl, ?_⟩) (by assumption) ?_
   rotate_left 1
   ·intro W hSw
    obtain ⟨hSw1, hSw2⟩ := hSw
    (try dsimp only at hSw1 hSw2)
    go_simp
    try with_reducible rfl
   simp only [Act.put, List.setIfInBounds_toArray, List.set_cons_zero, List.set_cons_succ]
   refine wpAnyH_take (i := 10) (v := ?_) rfl (by kernel_rfl) (by kernel_rfl) (by kernel_rfl) (fun _ _ _ h => h) (Or.inl ⟨by rfl, ?_⟩) (by assumption) ?_
   rotate_left 1
   ·intro W hSw
    obtain ⟨hSw1, hSw2⟩ := hSw
    (try dsimp only at hSw1 hSw2)
    go_simp
    try with_reducible rfl
   simp only [Act.put, List.setIfInBounds_toArray, List.set_cons_zero, List.set_cons_succ]
   refine wpAnyH_take (i := 11) (v := ?_) rfl (by kernel_rfl) (by kernel_rfl) (by kernel_rfl) (fun _ _ _ h => h) (Or.inl ⟨by rfl, ?_⟩) (by assumption) ?_
   rotate_left 1
   ·intro W hSw
    obtain ⟨hSw1, hSw2⟩ := hSw
    (try dsimp only at hSw1 hSw2)
    go_simp
    try with_reducible rfl
   simp only [Act.put, List.setIfInBounds_toArray, List.set_cons_zero, List.set_cons_succ]
   have c3 := ((below_alloc (below_drewN (Below.refl _ wr) 1) (.cells #[.string (mkS q), .int .i64 t] 56)).cell (cell_lt c1)).trans c1
   have c4' := ((below_alloc (below_drewN (Below.refl _ wr) 1) (.cells #[.string (mkS q), .int .i64 t] 56)).cell (cell_lt c2)).trans c2
   refine wpAnyH_ready (rs := [12]) (by kernel_rfl) (by simp) ?_
   refine AllReadyH.cons rfl (fun K hK => ?_) AllReadyH.nil
   go_simp
   refine hK.out _ _ ⟨c3, c4'⟩ (fun hHeld => ?_)
   clear hK K
   simp only [Act.put, List.setIfInBounds_toArray, List.set_cons_zero, List.set_cons_succ]
   refine wpAnyH_done (by kernel_rfl) ?_ _
   have hOd := own_drewN hO.out 1
   have hBd := below_drewN hBt.out 1
   change wpList _ _ _ _ _ ((wr.drewN 1).alloc (.cells #[.string (mkS q), .int .i64 t] 56))
   replace hOd := hid hOd
   replace hBd := hid hBd
   go_wp2_with (at_builtin; refine wp_append1 w.heap.size rfl (.tmp 11) (.tmp 23) 34 56 rfl Tryz.underlying34 (.agg #[.string ⟨#[]⟩, .int .i64 0]) 2 24 info_ract rfl (by decide) (.slice oA k oc) _ _ rfl [.string (mkS q), .int .i64 t] rfl hOd.out rfl ?_ ?_ ?_ hBd.out.size ?_)
   ·simp [Value.oneCell']
   ·simp only [maxLen]; omega
   ·omega
   ·intro v1 wx h1 hg hat
    have hBx := hBd.out.grown hg hBd.out.size (own_base hOd.out)
    have hOx : wx.ownsRow w.heap.size 56 2 v1 (k + 1) (actRow (l.take (k + 1))) := by
     rw [hsn.out, actRow_append]
     exact h1
    replace hOx := hid hOx
    replace hBx := hid hBx
    clear h1 hg hat
    go_wp2
    go_roundw
    case rel => exact ⟨k + 1, by go_num, by omega, hOx.out, hBx.out⟩
    case measure => simp [intOf]; omega
  ·obtain rfl : k = l.length := by omega
   rw [List.take_length] at hO
   replace hO := hid hO
   replace hBt := hid hBt
   go_wp2
   go_ret
   exact ⟨⟨_, rfl, hO.out⟩, hBt.out⟩
theorem actsT_own {W : World} {B : Nat} {v : Value} {l : Acts44} (h : W.ownsRow B 56 2 v l.length (actRow l)) : ActsT W v l := by
 obtain ⟨A, c, h1, h2, h3⟩ := own_shape h
 refine ⟨A, c, h1, h2, h3, fun k hk => ?_⟩
 obtain ⟨g, c', e, _, _, _, hob, hc⟩ := own_at h (by omega)
 obtain ⟨_, cur, hcur⟩ := own_cells h hob
 rw [h1] at e
 simp only [Value.slice.injEq] at e
 obtain ⟨e1, _⟩ := e
 obtain ⟨r1, r2⟩ := actRow_at l k _ (List.getElem?_eq_getElem hk)
 exact ⟨g, 0, cur, e1, hcur, by rw [Nat.zero_add]; exact hc _ _ r1, by rw [Nat.zero_add]; exact hc _ _ r2⟩
/-! ### trees of both kinds beside one another -/
section
variable {w w' : World} {tb ub lb rb : Nat} {A M B N C D : Nat → Nat} {v u : Value} {S S' : Fs × Fs}
theorem RPair.beside (hR : RPair w lb rb v u C D S') (hP : Pair w tb ub A M B N S) (ht : Turn w w' (Own2 tb ub A M B N S)) : RPair w' lb rb v u C D S' := by
 have key : ∀ {cb : Nat} {x : Value} {E : Nat → Nat} {T : Fs}, RRep w cb x E T → RRep w' cb x E T := fun {cb x E T} h => by
  refine h.kept (fun b hb => ht.block b (h.lt hb) fun k => ?_) (fun i hi dv hd _ => hd.kept fun g ⟨cs, hg⟩ => ht.block g (Array.getElem?_eq_some_iff.1 hg).1 (hP.not_own hg (by decide) (by decide)))
  rcases hb with rfl | hv | ⟨i, hi, rfl⟩
  ·exact hP.not_own h.tree (by decide) (by decide) k
  ·obtain ⟨_, cur, hc⟩ := own_cells h.row hv
   exact hP.not_own hc (by decide) (by decide) k
  ·obtain ⟨dv, _, h2⟩ := h.node i hi
   exact hP.not_own h2 (by decide) (by decide) k
 exact ⟨key hR.l, key hR.r, hR.apart⟩
theorem Pair.beside (hP : Pair w tb ub A M B N S) (hR : RPair w lb rb v u C D S') (ht : Turn w w' (fun b => b = lb ∨ b = rb)) : Pair w' tb ub A M B N S := by
 have hno : ∀ b, Own2 tb ub A M B N S b → ¬ (b = lb ∨ b = rb) := fun b hb k => by
  rcases k with rfl | rfl
  ·exact hP.not_own hR.l.tree (by decide) (by decide) hb
  ·exact hP.not_own hR.r.tree (by decide) (by decide) hb
 have hby : ∀ g : Nat, (∃ cs, w.heap[g]? = some (Obj.cells cs 5 (0, 0))) → w'.heap[g]? = w.heap[g]? := fun g ⟨cs, hg⟩ => ht.block g (Array.getElem?_eq_some_iff.1 hg).1 (by
  rintro (rfl | rfl)
  ·rw [hR.l.tree] at hg
   simp at hg
  ·rw [hR.r.tree] at hg
   simp at hg)
 exact ⟨hP.l.kept (fun b hb => ht.block b (hP.l.lt hb) (hno b (Or.inl hb))) hby, hP.r.kept (fun b hb => ht.block b (hP.r.lt hb) (hno b (Or.inr hb))) hby, hP.apart⟩
end
/-! ### how much is added -/
theorem Small2.mono {n m : Nat} {S : Fs × Fs} (h : Small2 m S) (hn : n ≤ m) : Small2 n S := by
 unfold Small2 at *
 omega
theorem runF_small {f : Fs → Fs → Bytes → Fs × Int} (hf : ∀ G T p, Grow T (f G T p).1) : ∀ (l : Acts44) (S : Fs × Fs) (n : Nat), Small2 (l.length + n) S → Small2 n (runF f l S).1
 | [], S, n, h => by rw [List.length_nil, Nat.zero_add] at h; exact h
 | y :: l, S, n, h => by
  have h2 : Small2 (l.length + n + 1) S := h.mono (by simp only [List.length_cons]; omega)
  have h3 := Small2.half hf h2 y
  rw [runF]
  split
  ·exact h3.mono (by omega)
  ·exact runF_small hf l _ n h3
theorem doE_small {S : Fs × Fs} {l : Acts44} {n : Nat} (h : Small2 (2 * l.length + n) S) : Small2 n (doE S l).1 := by
 have h1 : Small2 (l.length + n) (runF outF l.reverse S).1 := runF_small grow_outF _ _ _ (h.mono (by rw [List.length_reverse]; omega))
 have hd : Small2 n (doF S l).1 := by
  unfold doF
  split
  ·exact h1.mono (by omega)
  ·exact runF_small grow_overF _ _ _ h1
 unfold doE
 split
 ·exact h.mono (by omega)
 ·split
  ·exact h.mono (by omega)
  ·exact hd
end Go.Proofs.YtcjlfkklpghjbaaGreat
