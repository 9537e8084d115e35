/-
  remoraref17: At, Look, There, File, Count.
  append of a slice of any length, none too, to a row of the call's own.
  A region that draws its order, and whose calls make memory alone: one walk in the order of the text.
  Small words more: quiet calls whose contract says 'w = w'', strings that are the same or not.
  The reference's Under and Less; path.Base.
  remoraref13: Base and Sort.
  remoraref13.Sort: the walk.
  The reference's answers in the plain law's own words.
  remoraref17: There, File, In, Names, Paths.
  remoraref17: Paths, Names, List.
  remoraref17: List, Read, Stat.
  recon.stat; remoraref44.there: what stands at a path.
  remoraref44.there: what stands at a path.
  One tree's calls one behind another; what a copy read holds.
  recon.out: an act's first half.
  remoraref16.Check; remoraref17: may, fresh.
  The reference's tree in memory behind each change.
  remoraref17: make, Mkdir, Symlink.
  remoraref17: Mkdir, Symlink.
  remoraref17: Set, Append.
-/
import Derived.Test.YtcjlfkklpghjbaaGreatB3
import Derived.Test.YtcjlfkklpghjbaaGreatB1
import Derived.Deep.Quiet
import Derived.BigQuiet
import Derived.Test.YtcjlfkklpghjbaaGreatB2
import Derived.Laws.ResultCell
set_option linter.unusedVariables false
set_option linter.unusedSimpArgs false
open Go.Lib (hid)

namespace Go.Proofs.YtcjlfkklpghjbaaGreat
open Go.RowKit
/-- The place of a name; below 0: there is none. -/
def atIdx (l : List (Pt × Nat)) (s : Bytes) : Int :=
  match l.findIdx? (fun x => decide (glue x.1 = s)) with
  | some k => k
  | none => -1
theorem atIdx_hit {l : List (Pt × Nat)} {s : Bytes} {k : Nat} (hk : k < l.length) (h : glue (l[k]).1 = s) (hn : ∀ j (hj : j < k), glue (l[j]'(by omega)).1 ≠ s) : atIdx l s = k := by
 have : l.findIdx? (fun x => decide (glue x.1 = s)) = some k := by
  rw [List.findIdx?_eq_some_iff_getElem]
  exact ⟨hk, by simpa using h, fun j hj => by simpa using hn j hj⟩
 unfold atIdx
 rw [this]
theorem atIdx_miss {l : List (Pt × Nat)} {s : Bytes} (hn : ∀ x ∈ l, glue x.1 ≠ s) : atIdx l s = -1 := by
 have : l.findIdx? (fun x => decide (glue x.1 = s)) = none := by
  rw [List.findIdx?_eq_none_iff]
  intro x hx
  simpa using hn x hx
 unfold atIdx
 rw [this]
theorem glue_is {p : Pt} (hp : Pth p) {s : Bytes} : glue p = s ↔ p = split s := by
 obtain ⟨h1, h2⟩ := hp.text
 constructor
 ·rintro rfl
  exact h2.symm
 ·rintro rfl
  exact glue_split s
/-- At a name, or none. -/
theorem atIdx_at {T : Fs} (hI : T.Inv) (s : Bytes) : (atIdx T.names s = -1 ∧ T.at (split s) = none) ∨ (∃ (k : Nat) (i : Nat), atIdx T.names s = k ∧ T.names[k]? = some (split s, i) ∧ T.at (split s) = some i) := by
 cases h : T.at (split s) with
 | none =>
  refine Or.inl ⟨atIdx_miss fun x hx e => ?_, rfl⟩
  obtain ⟨p, i⟩ := x
  have := (glue_is (hI.pth _ _ hx)).1 e
  subst this
  exact Fs.at_none.1 h i hx
 | some i =>
  obtain ⟨k, hk, he⟩ := List.mem_iff_getElem.1 (hI.at_some.1 h)
  refine Or.inr ⟨k, i, atIdx_hit hk (by rw [he]; exact glue_split s) fun j hj e => ?_, by rw [List.getElem?_eq_getElem hk, he], rfl⟩
  have h1 := (glue_is (hI.pth (T.names[j]'(by omega)).1 (T.names[j]'(by omega)).2 (List.getElem_mem _))).1 e
  have hnd := hI.nodup
  have h2 := List.pairwise_iff_getElem.1 hnd j k (by simp; omega) (by simpa using hk) hj
  simp only [List.getElem_map, he] at h2
  exact h2 h1
section
variable (rb : Nat) (v : Value) (A : Nat → Nat) (T : Fs)
set_option maxHeartbeats 2000000 in
set_option maxRecDepth 100000 in
theorem rat_calls (s : ByteArray) (w : World) (hR : RRep w rb v A T) :
  Calls Tryz.prog 98 #[ptr rb, .string s] w fun e w' => e = .returned (.int .i64 (atIdx T.names (bl s))) ∧ w = w' := by
 obtain ⟨g, c, rfl, hc1, hc2, hp, t0, hcs⟩ := hR.at_
 unfold maxLen at hc2
 have hhit := fun k hk h hn => @atIdx_hit T.names (bl s) k hk h hn
 have hmiss := @atIdx_miss T.names (bl s)
 unfold ptr at *
 replace hR := hid hR
 replace hcs := hid hcs
 replace hhit := hid hhit
 replace hmiss := hid hmiss
 go_enter Tryz.func98, Tryz.ntmps98
 go_wp2
 go_loop [5] (fun i => ∃ k : Nat, i = .int .i64 k ∧ k ≤ T.names.length ∧ Hid (∀ j (hj : j < k) (hl : j < T.names.length), glue (T.names[j]).1 ≠ bl s)) (fun i => T.names.length - (intOf i).toNat)
 case atStart => exact ⟨0, rfl, Nat.zero_le _, fun j hj => by omega⟩
 case round =>
  obtain ⟨k, rfl, hk, hn⟩ := hrel
  by_cases hlt : k < T.names.length
  ·obtain ⟨c0, _⟩ := hcs.out k _ (List.getElem?_eq_getElem hlt)
   by_cases he : glue (T.names[k]).1 = bl s
   ·have hv := hhit.out k hlt he (fun j hj => hn.out j hj (by omega))
    have hse : (mkS (glue (T.names[k]).1)).toList == s.toList := by rw [toList_bl, toList_bl, bl_mkS, he]; simp
    replace he := hid he
    replace hv := hid hv
    go_wp2
    go_ret
    exact ⟨ret_int hv.out.symm, rfl⟩
   ·have hse : ((mkS (glue (T.names[k]).1)).toList == s.toList) = false := by rw [toList_bl, toList_bl, bl_mkS]; simpa using he
    have hn' : Hid (∀ j (hj : j < k + 1) (hl : j < T.names.length), glue (T.names[j]).1 ≠ bl s) := fun j hj hl => by
     by_cases e : j = k
     ·subst e
      exact he
     ·exact hn.out j (by omega) hl
    replace he := hid he
    go_wp2
    go_round
    case rel => exact ⟨k + 1, by go_num, by omega, hn'⟩
    case measure => simp [intOf]; omega
  ·obtain rfl : k = T.names.length := by omega
   have hv := hmiss.out fun x hx => by
    obtain ⟨j, hj, rfl⟩ := List.mem_iff_getElem.1 hx
    exact hn.out j hj hj
   replace hv := hid hv
   go_wp2
   go_ret
   exact ⟨ret_int hv.out.symm, rfl⟩
set_option maxHeartbeats 2000000 in
set_option maxRecDepth 100000 in
theorem rlook_calls (s : ByteArray) (w : World) (hR : RRep w rb v A T) (hs : s.size ≤ 16777216) :
  Calls Tryz.prog 90 #[ptr rb, .string s] w fun e w' => e = .returned (.tuple #[optPtr A (T.look (bl s)).1, .int .i64 (T.look (bl s)).2.2]) ∧ Below w.heap.size w w' := by
 have hI := hR.inv
 have h1 := fun W => refright_calls s W hs
 have h2 := fun W => refparent_calls s W hs
 unfold Fs.look
 by_cases hr : right (bl s) = true
 ·rw [if_pos hr]
  rw [hr] at h1
  have hn := str_nil s
  by_cases h0 : bl s = []
  ·rw [if_pos h0]
   have hn2 : s.toList.isEmpty = true := by rw [hn]; simpa using h0
   replace hn := hid hn
   replace h0 := hid h0
   replace h1 := hid h1
   replace h2 := hid h2
   unfold ptr at *
   replace hr := hid hr
   go_enter Tryz.func90, Tryz.ntmps90
   go_wp2_with fail
   (with_reducible refine (h1.out _).mono ?_)
   rintro e w1 ⟨rfl, hB1⟩
   have hR1 := hR.below hB1
   obtain ⟨g, c, rfl, hc1, hc2, hp, t0, hcs⟩ := hR1.at_
   unfold maxLen at hc2
   obtain ⟨r, hr0⟩ := hI.top
   obtain ⟨_, c1⟩ := hcs 0 _ (by rw [hr0]; rfl)
   simp only [Nat.zero_mul, Nat.zero_add] at c1
   unfold ptr at c1
   replace hcs := hid hcs
   replace hR := hid hR
   replace hR1 := hid hR1
   replace hB1 := hid hB1
   replace hr0 := hid hr0
   replace hI := hid hI
   go_wp2
   go_ret2
   exact ⟨rfl, hB1.out⟩
  ·rw [if_neg h0]
   have hn2 : s.toList.isEmpty = false := by rw [hn]; simpa using h0
   have hsd := split_parent hr
   have hat1 := fun W hW => rat_calls rb v A T (mkS (parent (bl s))) W hW
   have hat2 := fun W hW => rat_calls rb v A T s W hW
   rw [bl_mkS] at hat1
   have ha1 := atIdx_at hI (parent (bl s))
   have ha2 := atIdx_at hI (bl s)
   rw [hsd] at ha1
   replace hn := hid hn
   replace h0 := hid h0
   replace h1 := hid h1
   replace h2 := hid h2
   replace hr := hid hr
   replace hsd := hid hsd
   replace hat2 := hid hat2
   unfold ptr at *
   rcases ha1 with ⟨e1, e2⟩ | ⟨k, d, e1, e2, e3⟩
   ·rw [e1] at hat1
    rw [e2]
    replace hat1 := hid hat1
    replace e1 := hid e1
    replace e2 := hid e2
    replace ha2 := hid ha2
    replace hI := hid hI
    go_enter Tryz.func90, Tryz.ntmps90
    go_wp2_with fail
    (with_reducible refine (h1.out _).mono ?_)
    rintro e w1 ⟨rfl, hB1⟩
    go_wp2_with fail
    (with_reducible refine (h2.out _).mono ?_)
    rintro e w2 ⟨rfl, hB2⟩
    have hB02 := below_step hB1 hB2
    have hat1' := hat1.out w2 (hR.below hB02)
    replace hB02 := hid hB02
    replace hat1' := hid hat1'
    replace hR := hid hR
    clear hB1 hB2
    go_wp2_with fail
    (with_reducible refine (hat1'.out).mono ?_)
    rintro e w3 ⟨rfl, rfl⟩
    go_wp2
    go_ret2
    exact ⟨rfl, hB02.out⟩
   ·rw [e1] at hat1
    rw [e3]
    dsimp only
    have hd : (split (bl s)).dropLast = (split (bl s)).dropLast := rfl
    have hmd := hI.at_some.1 e3
    have hkl : k < T.names.length := (List.getElem?_eq_some_iff.1 e2).1
    by_cases hk2 : (T.nd d).kind = 2
    ·rw [if_pos hk2]
     rcases ha2 with ⟨f1, f2⟩ | ⟨k2, i, f1, f2, f3⟩
     ·rw [f2]
      have hat2' := hat2.out
      rw [f1] at hat2'
      clear hat2
      replace hat1 := hid hat1
      replace e1 := hid e1
      replace e3 := hid e3
      replace hI := hid hI
      replace hat2' := hid hat2'
      replace f1 := hid f1
      replace f2 := hid f2
      go_enter Tryz.func90, Tryz.ntmps90
      go_wp2_with fail
      (with_reducible refine (h1.out _).mono ?_)
      rintro e w1 ⟨rfl, hB1⟩
      go_wp2_with fail
      (with_reducible refine (h2.out _).mono ?_)
      rintro e w2 ⟨rfl, hB2⟩
      have hB02 := below_step hB1 hB2
      have hR2 := hR.below hB02
      have hat1' := hat1.out w2 hR2
      obtain ⟨dv, _, n0, _⟩ := hR2.cells ⟨_, hmd⟩
      obtain ⟨g, c, rfl, hc1, hc2, hp, t0, hcs⟩ := hR2.at_
      unfold maxLen at hc2
      obtain ⟨_, c1⟩ := hcs _ _ e2
      rw [hk2] at n0
      unfold ptr at c1
      have hat2'' := hat2'.out w2 hR2
      replace hB02 := hid hB02
      replace hat1' := hid hat1'
      replace hR := hid hR
      replace hR2 := hid hR2
      replace hcs := hid hcs
      replace e2 := hid e2
      replace hk2 := hid hk2
      replace hat2'' := hid hat2''
      replace hmd := hid hmd
      clear hB1 hB2
      go_wp2_with fail
      (with_reducible refine (hat1'.out).mono ?_)
      rintro e w3 ⟨rfl, rfl⟩
      go_wp2_with fail
      (with_reducible refine (hat2''.out).mono ?_)
      rintro e w3 ⟨rfl, rfl⟩
      go_wp2
      go_ret2
      exact ⟨rfl, hB02.out⟩
     ·rw [f3]
      have hat2' := hat2.out
      rw [f1] at hat2'
      have hkl2 : k2 < T.names.length := (List.getElem?_eq_some_iff.1 f2).1
      clear hat2
      replace hat1 := hid hat1
      replace e1 := hid e1
      replace e3 := hid e3
      replace hI := hid hI
      replace hat2' := hid hat2'
      replace f1 := hid f1
      replace f3 := hid f3
      go_enter Tryz.func90, Tryz.ntmps90
      go_wp2_with fail
      (with_reducible refine (h1.out _).mono ?_)
      rintro e w1 ⟨rfl, hB1⟩
      go_wp2_with fail
      (with_reducible refine (h2.out _).mono ?_)
      rintro e w2 ⟨rfl, hB2⟩
      have hB02 := below_step hB1 hB2
      have hR2 := hR.below hB02
      have hat1' := hat1.out w2 hR2
      obtain ⟨dv, _, n0, _⟩ := hR2.cells ⟨_, hmd⟩
      obtain ⟨g, c, rfl, hc1, hc2, hp, t0, hcs⟩ := hR2.at_
      unfold maxLen at hc2
      obtain ⟨_, c1⟩ := hcs _ _ e2
      obtain ⟨_, c2⟩ := hcs _ _ f2
      rw [hk2] at n0
      unfold ptr at c1 c2
      have hat2'' := hat2'.out w2 hR2
      replace hB02 := hid hB02
      replace hat1' := hid hat1'
      replace hR := hid hR
      replace hR2 := hid hR2
      replace hcs := hid hcs
      replace e2 := hid e2
      replace hk2 := hid hk2
      replace hat2'' := hid hat2''
      replace f2 := hid f2
      replace hmd := hid hmd
      clear hB1 hB2
      go_wp2_with fail
      (with_reducible refine (hat1'.out).mono ?_)
      rintro e w3 ⟨rfl, rfl⟩
      go_wp2_with fail
      (with_reducible refine (hat2''.out).mono ?_)
      rintro e w3 ⟨rfl, rfl⟩
      go_wp2
      go_ret2
      exact ⟨rfl, hB02.out⟩
    ·rw [if_neg hk2]
     have hk3 : ((T.nd d).kind == 2) = false := by simpa using hk2
     have hk4 : ((T.nd d).kind != 2) = true := by simpa using hk2
     clear hat2
     replace hat1 := hid hat1
     replace e1 := hid e1
     replace e3 := hid e3
     replace hI := hid hI
     go_enter Tryz.func90, Tryz.ntmps90
     go_wp2_with fail
     (with_reducible refine (h1.out _).mono ?_)
     rintro e w1 ⟨rfl, hB1⟩
     go_wp2_with fail
     (with_reducible refine (h2.out _).mono ?_)
     rintro e w2 ⟨rfl, hB2⟩
     have hB02 := below_step hB1 hB2
     have hR2 := hR.below hB02
     have hat1' := hat1.out w2 hR2
     obtain ⟨dv, _, n0, _⟩ := hR2.cells ⟨_, hmd⟩
     obtain ⟨g, c, rfl, hc1, hc2, hp, t0, hcs⟩ := hR2.at_
     unfold maxLen at hc2
     obtain ⟨_, c1⟩ := hcs _ _ e2
     unfold ptr at c1
     replace hB02 := hid hB02
     replace hat1' := hid hat1'
     replace hR := hid hR
     replace hR2 := hid hR2
     replace hcs := hid hcs
     replace e2 := hid e2
     replace hk2 := hid hk2
     replace hmd := hid hmd
     clear hB1 hB2
     go_wp2_with fail
     (with_reducible refine (hat1'.out).mono ?_)
     rintro e w3 ⟨rfl, rfl⟩
     go_wp2
     go_ret2
     exact ⟨rfl, hB02.out⟩
 ·rw [if_neg hr]
  rw [show right (bl s) = false by simpa using hr] at h1
  unfold ptr at *
  replace h1 := hid h1
  replace h2 := hid h2
  replace hr := hid hr
  replace hR := hid hR
  replace hI := hid hI
  go_enter Tryz.func90, Tryz.ntmps90
  go_wp2_with fail
  (with_reducible refine (h1.out _).mono ?_)
  rintro e w1 ⟨rfl, hB1⟩
  replace hB1 := hid hB1
  go_wp2
  go_ret2
  exact ⟨rfl, hB1.out⟩
end
end Go.Proofs.YtcjlfkklpghjbaaGreat

namespace Go.Proofs.YtcjlfkklpghjbaaGreat
open Go.RowKit
theorem run_append_zero (w : World) (t e ty : TypeId) (i : TypeInfo) (ht : Tryz.prog.underlying t = some (.slice e)) (hi : Tryz.prog.info? e = some i) (A A' : Option Addr) (n c1 c : Nat) (hn : n ≤ c1) :
  (Builtin.append_ #[t, t] ty #[.slice A n c1, .slice A' 0 c]).run Tryz.prog w = .ok (.slice A n c1) w := by
 cases A <;> cases A' <;> simp [Builtin.append_, run_underlying ht, sizeOf, typeInfo, hi, Builtin.lenOf, Builtin.firstCells, storeCells, loadCells, loadCellsFrom, Result.andThen, hn]
theorem own_base {w : World} {base : Nat} {e : TypeId} {size n : Nat} {v : Value} {xs : List Value} (h : w.ownsRow base e size v n xs) : ∀ k, v.ownBlock = some k → base ≤ k := fun k hk => by
 obtain ⟨h1, ⟨rfl, h⟩ | ⟨g', cap, cur, rfl, hb, hh, r⟩⟩ := h
 ·cases hk
 ·cases hk
  exact hb
/-- What a slice is that is put behind a row: m elements, whose cells are news. -/
def Src (w : World) (sv : Value) (size m : Nat) (news : List Value) : Prop :=
  (m = 0 ∧ news = [] ∧ ∃ A c, sv = .slice A 0 c) ∨ ∃ ad c, sv = .slice (some ad) m c ∧ news.length = m * size ∧ ∀ j u, news[j]? = some u → w.cell? (ad.add j) = some u
theorem wp_append_any {ops : Array Oper} {rest : List Oper} {o : Oper} {a : Act} {Q : Exit → Act → World → Prop} {w : World} (base : Nat) (hgd : o.guard = none) (s x : Operand) (t e : TypeId)
  (ho : o.op = .call { callee := .builtin .append, args := #[s, x], argTypes := #[t, t] }) (ht : Tryz.prog.underlying t = some (.slice e)) (z : Value) (size bytes : Nat)
  (hinfo : (Tryz.prog.info? e).map (fun i => (i.zero, i.size, i.bytes)) = some (some z, size, bytes)) (hz : z.cells.size = size) (hsz : 0 < size) (v : Value) (n : Nat) (xs : List Value) (hs : a.eval s = v)
  (sv : Value) (m : Nat) (news : List Value) (hx : a.eval x = sv) (hsv : Src w sv size m news) (hown : w.ownsRow base e size v n xs) (h1 : ∀ u ∈ news, u.oneCell' = true) (h63 : n + m ≤ maxLen) (hb : (n + m) * bytes ≤ 140737488355328) (hbase : base ≤ w.heap.size)
  (h : ∀ v1 w1, w1.ownsRow base e size v1 (n + m) (xs ++ news) → w.grownBy w1 v.ownBlock → (v1.ownBlock = v.ownBlock ∨ v1.ownBlock = some w.heap.size) → wpList Tryz.prog ops Q rest (a.put o.dst v1) w1) :
  wpList Tryz.prog ops Q (o :: rest) a w := by
 obtain ⟨i0, hi, hzz⟩ := Option.map_eq_some_iff.1 hinfo
 simp only [Prod.mk.injEq] at hzz
 obtain ⟨hz0, hz1, hz2⟩ := hzz
 rcases hsv with ⟨rfl, rfl, A, c, rfl⟩ | ⟨ad, c, rfl, hl, hn⟩
 ·obtain ⟨A0, c0, rfl, hc0, _⟩ := own_shape hown
  refine wpList_plain hgd fun K hK => ?_
  have hr := run_append_zero w t e o.type i0 ht hi A0 A n c0 c hc0
  unfold Oper.wp execOp
  simp only [ho, resolve, invoke, builtin, Sem.run_bind, Sem.run_pure, Result.andThen_ok, List.map_toArray, List.map_cons, List.map_nil, hs, hx, hr]
  refine hK _ _ (h _ _ ?_ ⟨rfl, rfl, rfl, Nat.le_refl _, fun _ _ _ => rfl⟩ (Or.inl rfl))
  rw [List.append_nil]
  exact hown
 ·refine wpList_append_own_at w hgd s x t ho base e i0 z size bytes ht hi hz0 hz1 hz2 hz hsz v n xs hs hown ad m c news hx hl hn h1 h63 hb hbase ?_
  intro v1 w1 g1 g2 _ g3
  exact h v1 w1 g1 g2 g3
end Go.Proofs.YtcjlfkklpghjbaaGreat

namespace Go.Proofs.YtcjlfkklpghjbaaGreat
open Go.RowKit
/-- The worlds in which nothing of w's has turned. -/
def Gr (w : World) : Type := { W : World // Below w.heap.size w W }
instance (w : World) : Nonempty (Gr w) := ⟨⟨w, Below.refl _ _⟩⟩
theorem wp_region_grow {P : Program} {id : Nat} {Q : Exit → Act → World → Prop} {a : Act} {w : World} {l : List Oper} (hm : P.follows .mixedOrders = true) (hB : Region.lexB .any l.toArray = true)
  (h : wpQuiet P l.toArray (fun W => ∃ x : Gr w, W = x.1) (fun a' => ∀ W, (∃ x : Gr w, W = x.1) → Q .normal a' W) l a) : (Code.region id l.toArray true).wp P Q a w :=
 wp_region_quiet (C := fun W => ∃ x : Gr w, W = x.1) hm hB ⟨⟨w.drew, below_drewN (Below.refl _ _) 1⟩, rfl⟩ (by simpa using h)
/-- A callee's contract, met in such a world. -/
theorem grow_of {P : Program} {f : FuncId} {args : Array Value} {w : World} {v : Value} (x : Gr w) (h : Calls P f args x.1 fun e w' => e = .returned v ∧ Below x.1.heap.size x.1 w') :
  Calls P f args x.1 fun e w'' => e = .returned v ∧ ∃ y : Gr w, w'' = y.1 :=
 h.mono fun _ w' ⟨he, hb⟩ => ⟨he, ⟨w', x.2.trans (hb.mono x.2.size)⟩, rfl⟩
theorem Gr.cell {w : World} {a : Addr} {v : Value} (h : w.cell? a = some v) (x : Gr w) : x.1.cell? a = some v := by
 rw [← h]
 refine x.2.cell (p := a) ?_
 rcases Nat.lt_or_ge a.block w.heap.size with h1 | h1
 ·exact h1
 ·simp [World.cell?, Array.getElem?_eq_none h1] at h
end Go.Proofs.YtcjlfkklpghjbaaGreat

namespace Go.Proofs.YtcjlfkklpghjbaaGreat
open Go.RowKit
theorem strs_diff {a b : ByteArray} (h : a ≠ b) : (a.toList == b.toList) = false := by rw [str_eq]; simpa using h
theorem strs_alike {a b : ByteArray} (h : a = b) : (a.toList == b.toList) = true := by rw [str_eq]; simpa using h
end Go.Proofs.YtcjlfkklpghjbaaGreat

namespace Go.Proofs.YtcjlfkklpghjbaaGreat
open Go.RowKit Go.Lib
set_option linter.unusedVariables false
set_option linter.unusedSimpArgs false
set_option maxHeartbeats 1000000 in
set_option maxRecDepth 100000 in
theorem refunder_calls (p top : ByteArray) (w : World) (hp : p.size ≤ 16777216) (ht : top.size ≤ 16777216) :
  Calls Tryz.prog 96 #[.string p, .string top] w fun e w' => e = .returned (.bool (under (bl p) (bl top))) ∧ Below w.heap.size w w' := by
 have h1 := fun W => refsplit_calls p W hp
 have h2 := fun W => refsplit_calls top W ht
 have hu := under_take (bl p) (bl top)
 generalize under (bl p) (bl top) = r at *
 generalize split (bl p) = x at *
 generalize split (bl top) = y at *
 replace h1 := hid h1
 replace h2 := hid h2
 have hu1 : Hid (r = true → y.length ≤ x.length ∧ x.take y.length = y) := fun h => by rw [hu] at h; simpa using h
 have hu2 : Hid (y.length ≤ x.length → x.take y.length = y → r = true) := fun h h' => by rw [hu]; simp [h, h']
 clear hu
 go_enter Tryz.func96, Tryz.ntmps96
 go_wp2_with fail
 refine (h1.out _).mono ?_
 rintro e w1 ⟨⟨v1, rfl, hO1⟩, hB1⟩
 go_wp2_with fail
 refine (h2.out _).mono ?_
 rintro e w2 ⟨⟨v2, rfl, hO2⟩, hB2⟩
 have hR1 := hO1.rd.below hB2
 have hR2 := hO2.rd
 obtain ⟨A, c, rfl, hc1, hc2⟩ := hR1.shape
 obtain ⟨B, d, rfl, hd1, hd2⟩ := hR2.shape
 clear hO1 hO2 h1 h2
 have hbb := below_step hB1 hB2
 unfold maxLen at hc2 hd2
 clear hB1 hB2
 go_wp2
 go_loopw [7] (fun i W => ∃ k : Nat, i = .int .i64 k ∧ k ≤ y.length ∧ k ≤ x.length ∧ (∃ n, w2.drewN n = W) ∧ Hid (x.take k = y.take k)) (fun i _ => y.length - (intOf i).toNat)
 case atStart => exact ⟨0, rfl, Nat.zero_le _, Nat.zero_le _, ⟨0, rfl⟩, by simp [Hid]⟩
 case round =>
  obtain ⟨k, rfl, hk1, hk2, ⟨n, rfl⟩, he⟩ := hrel
  by_cases hy : k < y.length
  ·obtain ⟨g', o', rfl, hcy⟩ := hR2.cell hy
   by_cases hx : k < x.length
   ·obtain ⟨g, o, rfl, hcx⟩ := hR1.cell hx
    have hxl : decide ((x.length : Int) ≤ (k : Int)) = false := by simp; omega
    by_cases heq : x[k] = y[k]
    ·have hb : ((mkS x[k]).toList == (mkS y[k]).toList) = true := by rw [heq]; simp
     have he2 : Hid (x.take (k + 1) = y.take (k + 1)) := by
      unfold Hid
      rw [List.take_succ_eq_append_getElem hx, List.take_succ_eq_append_getElem hy, he.out, heq]
     clear he heq hR1 hR2
     go_wp2
     go_quiet (fail)
     go_wp2
     go_roundw
     case rel => exact ⟨k + 1, by go_num, by omega, by omega, ⟨_, rfl⟩, he2⟩
     case measure => simp [intOf]; omega
    ·have hb : ((mkS x[k]).toList == (mkS y[k]).toList) = false := by
      rw [str_eq, decide_eq_false_iff_not]; exact fun h => heq (mkS_inj h)
     have hf : Hid (r = false) := by
      unfold Hid
      cases hr : r with
      | false => rfl
      | true =>
       have hh := (hu1.out hr).2
       exfalso; apply heq
       have := congrArg (fun l => l[k]?) hh
       simp only [List.getElem?_take, if_pos hy, List.getElem?_eq_getElem hx, List.getElem?_eq_getElem hy] at this
       exact Option.some.inj this
     clear he heq hR1 hR2 hu1 hu2
     go_wp2
     go_quiet (fail)
     go_wp2
     go_ret
     exact ⟨by rw [hf.out]; rfl, below_step hbb (by repeat (first | exact Below.refl _ _ | apply below_drewN))⟩
   ·have hxl : decide ((x.length : Int) ≤ (k : Int)) = true := by simp; omega
    have hf : Hid (r = false) := by
     unfold Hid
     cases hr : r with
     | false => rfl
     | true => have hh := (hu1.out hr).1; omega
    have hxl' : (x.length : Int) ≤ (k : Int) := by omega
    have hxk : k = x.length := by omega
    clear he hR1 hR2 hu1 hu2 hx
    subst hxk
    go_wp2
    go_quiet (fail)
    go_wp2
    go_ret
    exact ⟨by rw [hf.out]; rfl, below_step hbb (by repeat (first | exact Below.refl _ _ | apply below_drewN))⟩
  ·obtain rfl : k = y.length := by omega
   have hf : Hid (r = true) := hu2.out hk2 (by rw [he.out, List.take_length])
   clear he hR1 hR2 hu1 hu2
   go_wp2
   go_ret
   exact ⟨by rw [hf.out]; rfl, below_step hbb (by repeat (first | exact Below.refl _ _ | apply below_drewN))⟩
set_option maxHeartbeats 1000000 in
set_option maxRecDepth 100000 in
theorem refless_calls (a b : ByteArray) (w : World) (hp : a.size ≤ 16777216) (ht : b.size ≤ 16777216) :
  Calls Tryz.prog 105 #[.string a, .string b] w fun e w' => e = .returned (.bool (lessP (bl a) (bl b))) ∧ Below w.heap.size w w' := by
 have h1 := fun W => refsplit_calls a W hp
 have h2 := fun W => refsplit_calls b W ht
 have hu : lessP (bl a) (bl b) = decide (cmpL (split (bl a)) (split (bl b)) < 0) := rfl
 generalize lessP (bl a) (bl b) = r at *
 generalize split (bl a) = x at *
 generalize split (bl b) = y at *
 replace h1 := hid h1
 replace h2 := hid h2
 replace hu := hid hu
 go_enter Tryz.func105, Tryz.ntmps105
 go_wp2_with fail
 refine (h1.out _).mono ?_
 rintro e w1 ⟨⟨v1, rfl, hO1⟩, hB1⟩
 go_wp2_with fail
 refine (h2.out _).mono ?_
 rintro e w2 ⟨⟨v2, rfl, hO2⟩, hB2⟩
 have hR1 := hO1.rd.below hB2
 have hR2 := hO2.rd
 obtain ⟨A, c, rfl, hc1, hc2⟩ := hR1.shape
 obtain ⟨B, d, rfl, hd1, hd2⟩ := hR2.shape
 clear hO1 hO2 h1 h2
 have hbb := below_step hB1 hB2
 unfold maxLen at hc2 hd2
 clear hB1 hB2
 go_wp2
 go_loopw [7] (fun i W => ∃ k : Nat, i = .int .i64 k ∧ k ≤ y.length ∧ k ≤ x.length ∧ (∃ n, w2.drewN n = W) ∧ Hid (cmpL x y = cmpL (x.drop k) (y.drop k))) (fun i _ => y.length - (intOf i).toNat)
 case atStart => exact ⟨0, rfl, Nat.zero_le _, Nat.zero_le _, ⟨0, rfl⟩, by simp [Hid]⟩
 case round =>
  obtain ⟨k, rfl, hk1, hk2, ⟨n, rfl⟩, he⟩ := hrel
  by_cases hx : k < x.length
  ·obtain ⟨g, o, rfl, hcx⟩ := hR1.cell hx
   by_cases hy : k < y.length
   ·obtain ⟨g', o', rfl, hcy⟩ := hR2.cell hy
    have he2 : Hid (cmpL x y = if cmpB x[k] y[k] ≠ 0 then cmpB x[k] y[k] else cmpL (x.drop (k + 1)) (y.drop (k + 1))) := by
     unfold Hid; rw [he.out, List.drop_eq_getElem_cons hx, List.drop_eq_getElem_cons hy, cmpL_cons]
    by_cases heq : x[k] = y[k]
    ·have hb : ((mkS x[k]).toList == (mkS y[k]).toList) = true := by rw [heq]; simp
     have he3 : Hid (cmpL x y = cmpL (x.drop (k + 1)) (y.drop (k + 1))) := by
      unfold Hid; rw [he2.out, heq, cmpB_self]; simp
     clear he heq hR1 hR2 he2
     go_wp2
     go_quiet (fail)
     go_wp2
     go_roundw
     case rel => exact ⟨k + 1, by go_num, by omega, by omega, ⟨_, rfl⟩, he3⟩
     case measure => simp [intOf]; omega
    ·have hb : ((mkS x[k]).toList == (mkS y[k]).toList) = false := by
      rw [str_eq, decide_eq_false_iff_not]; exact fun h => heq (mkS_inj h)
     have hf : Hid (r = Op.bytesLess (mkS x[k]).toList (mkS y[k]).toList) := by
      unfold Hid
      have hz : cmpB x[k] y[k] ≠ 0 := fun h => heq (cmpB_eq h)
      rw [hu.out, he2.out, if_pos hz, toList_bl, toList_bl, bl_mkS, bl_mkS, less_cmp]
     generalize hq : Op.bytesLess (mkS x[k]).toList (mkS y[k]).toList = q at *
     clear he heq hR1 hR2 he2 hu
     go_wp2
     go_quiet (fail)
     go_wp2
     go_quiet (fail)
     go_wp2
     go_ret
     exact ⟨by rw [hf.out]; rfl, below_step hbb (by repeat (first | exact Below.refl _ _ | apply below_drewN))⟩
   ·have hye : y.drop k = [] := List.drop_eq_nil_of_le (by omega)
    have hf : Hid (r = false) := by unfold Hid; rw [hu.out, he.out, hye, List.drop_eq_getElem_cons hx]; rfl
    have hlt : ¬ (x.length : Int) < (y.length : Int) := by omega
    clear he hR1 hR2 hu hye
    go_wp2
    go_ret
    exact ⟨by rw [hf.out]; rfl, below_step hbb (by repeat (first | exact Below.refl _ _ | apply below_drewN))⟩
  ·have hxe : x.drop k = [] := List.drop_eq_nil_of_le (by omega)
   by_cases hy : k < y.length
   ·have hf : Hid (r = true) := by unfold Hid; rw [hu.out, he.out, hxe, List.drop_eq_getElem_cons hy]; rfl
    have hlt : (x.length : Int) < (y.length : Int) := by omega
    clear he hR1 hR2 hu hxe
    go_wp2
    go_ret
    exact ⟨by rw [hf.out]; rfl, below_step hbb (by repeat (first | exact Below.refl _ _ | apply below_drewN))⟩
   ·have hye : y.drop k = [] := List.drop_eq_nil_of_le (by omega)
    have hf : Hid (r = false) := by unfold Hid; rw [hu.out, he.out, hxe, hye]; rfl
    have hlt : ¬ (x.length : Int) < (y.length : Int) := by omega
    clear he hR1 hR2 hu hxe hye
    go_wp2
    go_ret
    exact ⟨by rw [hf.out]; rfl, below_step hbb (by repeat (first | exact Below.refl _ _ | apply below_drewN))⟩
end Go.Proofs.YtcjlfkklpghjbaaGreat

namespace Go.Proofs.YtcjlfkklpghjbaaGreat
open Go.RowKit
set_option maxHeartbeats 1000000 in
set_option maxRecDepth 100000 in
theorem refbase_calls (s : ByteArray) (w : World) (hs : s.size ≤ 16777216) :
  Calls Tryz.prog 117 #[.string s] w fun e w' => e = .returned (.string (mkS (base (bl s)))) ∧ Below w.heap.size w w' := by
 have h0 := refsplit_calls s w hs
 have hb : base (bl s) = (split (bl s)).getLastD [] := rfl
 rw [hb]
 generalize split (bl s) = l at *
 replace h0 := hid h0
 clear hb
 go_enter Tryz.func117, Tryz.ntmps117
 go_wp2_with fail
 (with_reducible refine (h0.out).mono ?_)
 rintro e w1 ⟨⟨v, rfl, hS⟩, hB⟩
 obtain ⟨A, c, rfl, hc1, hc2⟩ := hS.rd.shape
 unfold maxLen at hc2
 by_cases hl : l = []
 ·subst hl
  replace hB := hid hB
  replace hS := hid hS
  go_wp2
  go_ret
  exact ⟨rfl, hB.out⟩
 ·have hp : 0 < l.length := List.length_pos_iff.2 hl
  obtain ⟨g, o, rfl, hcell⟩ := hS.rd.cell (j := l.length - 1) (by omega)
  have hz : ¬ l.length = 0 := by omega
  have hz2 : (l.length == 0) = false := by simpa using hz
  have hwr : IntKind.i64.wrap ((l.length : Int) - 1) = ((l.length - 1 : Nat) : Int) := by rw [IntWalk.i64_in _ (by omega)]; omega
  have hlast : l.getLastD [] = l[l.length - 1] := by
   rw [List.getLastD_eq_getLast?, List.getLast?_eq_getElem?, List.getElem?_eq_getElem (by omega)]
   rfl
  have hi : ((l.length : Int) - 1).toNat = l.length - 1 := by omega
  have hi0 : (0 : Int) ≤ (l.length : Int) - 1 := by omega
  replace hB := hid hB
  replace hS := hid hS
  replace hl := hid hl
  replace hz := hid hz
  replace hlast := hid hlast
  go_wp2
  go_ret
  exact ⟨by rw [hlast.out]; rfl, hB.out⟩
theorem add_at (g o j : Nat) : (⟨g, o, none⟩ : Addr).add j = ⟨g, o + j, none⟩ := by
 simp only [Addr.add]
 split
 ·rename_i h
  rw [h]
  rfl
 ·rfl
theorem Rd.src {W : World} {v : Value} {l : List Bytes} (h : Rd W v l) : Src W v 1 l.length (strs l) := by
 obtain ⟨A, c, rfl, h1, h2, hc⟩ := h
 by_cases hl : l = []
 ·subst hl
  exact Or.inl ⟨rfl, rfl, A, c, rfl⟩
 ·have hp : 0 < l.length := List.length_pos_iff.2 hl
  obtain ⟨g, o, rfl, _⟩ := hc 0 _ (List.getElem?_eq_getElem hp)
  refine Or.inr ⟨_, c, rfl, by simp [strs], fun j u hj => ?_⟩
  have hlt : j < l.length := by have := (List.getElem?_eq_some_iff.1 hj).1; simpa [strs] using this
  obtain ⟨g', o', e, hcell⟩ := hc j _ (List.getElem?_eq_getElem hlt)
  cases e
  have : u = .string (mkS l[j]) := by
   simp only [strs, List.getElem?_map, List.getElem?_eq_getElem hlt, Option.map_some, Option.some.injEq] at hj
   exact hj.symm
  rw [add_at, this]
  exact hcell
theorem Rd.drop {W : World} {A : Option Addr} {n c : Nat} {l : List Bytes} (h : Rd W (.slice A n c) l) (k : Nat) (hk : k ≤ l.length) : Rd W (.slice (if c = k then A else Option.map (fun x : Addr => x.add k) A) (n - k) (c - k)) (l.drop k) := by
 obtain ⟨A', c', e, h1, h2, hc⟩ := h
 simp only [Value.slice.injEq] at e
 obtain ⟨rfl, rfl, rfl⟩ := e
 refine ⟨_, c - k, by rw [List.length_drop], by rw [List.length_drop]; omega, by omega, fun j u hj => ?_⟩
 rw [List.getElem?_drop] at hj
 have hlt : k + j < l.length := (List.getElem?_eq_some_iff.1 hj).1
 obtain ⟨g, o, rfl, hcell⟩ := hc (k + j) u hj
 refine ⟨g, o + k, ?_, by rw [Nat.add_assoc]; exact hcell⟩
 rw [if_neg (by omega)]
 simp only [Option.map_some, Addr.add]
 split
 ·rename_i h0
  rw [h0]
  rfl
 ·rfl
/-- Two rising rows, and what of both has been taken. -/
structure Mrg (l out a b : List Bytes) : Prop where
  perm : (out ++ (a ++ b)).Perm l
  sa : Sorted (out ++ a)
  sb : Sorted (out ++ b)
theorem sorted_cons {a : Bytes} {l : List Bytes} : Sorted (a :: l) ↔ (∀ x ∈ l, cmpP a x ≤ 0) ∧ Sorted l := List.pairwise_cons
theorem sorted_append {l r : List Bytes} : Sorted (l ++ r) ↔ Sorted l ∧ Sorted r ∧ ∀ x ∈ l, ∀ y ∈ r, cmpP x y ≤ 0 := List.pairwise_append
theorem Mrg.right {l out a b : List Bytes} {x y : Bytes} (h : Mrg l out (x :: a) (y :: b)) (hlt : cmpP y x < 0) : Mrg l (out ++ [y]) (x :: a) b := by
 refine ⟨?_, ?_, ?_⟩
 ·refine List.Perm.trans ?_ h.perm
  rw [List.append_assoc]
  exact List.Perm.append_left out (List.perm_middle (l₁ := x :: a) (l₂ := b) (a := y)).symm
 ·obtain ⟨s1, s2, s3⟩ := sorted_append.1 h.sa
  obtain ⟨t1, t2, t3⟩ := sorted_append.1 h.sb
  rw [List.append_assoc]
  refine sorted_append.2 ⟨s1, ?_, fun u hu v hv => ?_⟩
  ·refine sorted_cons.2 ⟨fun u hu => ?_, s2⟩
   rcases List.mem_cons.1 hu with rfl | hu
   ·omega
   ·exact leP_trans (a := y) (b := x) (c := u) (Int.le_of_lt hlt) ((sorted_cons.1 s2).1 u hu)
  ·rcases List.mem_append.1 hv with hv | hv
   ·rw [List.mem_singleton.1 hv]
    exact t3 u hu y (List.mem_cons_self ..)
   ·exact s3 u hu v hv
 ·rw [List.append_assoc]
  exact h.sb
theorem Mrg.left {l out a b : List Bytes} {x y : Bytes} (h : Mrg l out (x :: a) (y :: b)) (hlt : ¬ cmpP y x < 0) : Mrg l (out ++ [x]) a (y :: b) := by
 refine ⟨?_, ?_, ?_⟩
 ·refine List.Perm.trans ?_ h.perm
  rw [List.append_assoc]
  exact List.Perm.refl _
 ·rw [List.append_assoc]
  exact h.sa
 ·obtain ⟨s1, s2, s3⟩ := sorted_append.1 h.sa
  obtain ⟨t1, t2, t3⟩ := sorted_append.1 h.sb
  have hxy : cmpP x y ≤ 0 := by have := cmpP_swap x y; omega
  rw [List.append_assoc]
  refine sorted_append.2 ⟨s1, ?_, fun u hu v hv => ?_⟩
  ·refine sorted_cons.2 ⟨fun u hu => ?_, t2⟩
   rcases List.mem_cons.1 hu with rfl | hu
   ·exact hxy
   ·exact leP_trans (a := x) (b := y) (c := u) hxy ((sorted_cons.1 t2).1 u hu)
  ·rcases List.mem_append.1 hv with hv | hv
   ·rw [List.mem_singleton.1 hv]
    exact s3 u hu x (List.mem_cons_self ..)
   ·exact t3 u hu v hv
theorem Mrg.fin {l out a b : List Bytes} (h : Mrg l out a b) (he : a = [] ∨ b = []) : out ++ a ++ b = sortP l := by
 refine sortP_eq (by rw [List.append_assoc]; exact h.perm) ?_
 rcases he with rfl | rfl
 ·rw [List.append_nil]
  exact h.sb
 ·rw [List.append_nil]
  exact h.sa
end Go.Proofs.YtcjlfkklpghjbaaGreat

namespace Go.Proofs.YtcjlfkklpghjbaaGreat
open Go.RowKit
theorem sortP_short {l : List Bytes} (h : l.length < 2) : sortP l = l := by
 refine (sortP_eq (List.Perm.refl l) ?_).symm
 match l, h with
 | [], _ => exact List.Pairwise.nil
 | [x], _ => exact List.pairwise_singleton _ _
 | _ :: _ :: _, h => simp at h; omega
theorem merge_start {l x y : List Bytes} (hp : (x ++ y).Perm l) (hx : Sorted x) (hy : Sorted y) : Mrg l [] x y := ⟨hp, hx, hy⟩
set_option maxHeartbeats 4000000 in
set_option maxRecDepth 100000 in
theorem refsort_short (v : Value) (l : List Bytes) (w : World) (hR : Rd w v l) (h2 : l.length < 2) :
  Calls Tryz.prog 61 #[v] w fun e w' => (∃ v', e = .returned v' ∧ Strs w.heap.size w' v' (sortP l)) ∧ Below w.heap.size w w' := by
 obtain ⟨A, c, rfl, hc1, hc2⟩ := hR.shape
 unfold maxLen at hc2
 have hsrc := hR.src
 have hso := sortP_short h2
 have hnil : w.ownsRow w.heap.size 9 1 (.slice none 0 0) 0 [] := ⟨rfl, Or.inl ⟨rfl, rfl⟩⟩
 replace hR := hid hR
 replace hsrc := hid hsrc
 replace hso := hid hso
 replace hnil := hid hnil
 go_enter Tryz.func61, Tryz.ntmps61
 go_wp2_with (at_builtin; refine wp_append_any w.heap.size rfl (.tmp 10) (.tmp 11) 62 9 rfl Tryz.underlying62 (.string ⟨#[]⟩) 1 16 info_string rfl (by decide) (.slice none 0 0) 0 [] rfl (.slice A l.length c) l.length (strs l) rfl hsrc.out hnil.out ?_ ?_ ?_ (Nat.le_refl _) ?_)
 ·simp [strs, Value.oneCell']
 ·simp [maxLen]; omega
 ·omega
 ·intro v1 w1 h1 hg _
  have hS1 : Strs w.heap.size w1 v1 l := by
   unfold Strs
   exact h1
  have hB1 : Below w.heap.size w w1 := ⟨hg.os, hg.tape, hg.output, hg.size, fun i hi => hg.block i hi (by simp [Value.ownBlock])⟩
  replace hS1 := hid hS1
  replace hB1 := hid hB1
  clear h1 hg
  go_wp2
  go_ret
  rw [hso.out]
  exact ⟨⟨_, rfl, hS1.out⟩, hB1.out⟩
def lenOf : Value → Nat
  | .slice _ n _ => n
  | _ => 0
theorem half_perm (l : List Bytes) (k : Nat) : (sortP (l.take k) ++ sortP (l.drop k)).Perm l := by
 have := (sortP_perm (l.take k)).append (sortP_perm (l.drop k))
 rwa [List.take_append_drop] at this
set_option maxHeartbeats 8000000 in
set_option maxRecDepth 100000 in
theorem refsort_calls : ∀ (n : Nat) (v : Value) (l : List Bytes) (w : World), l.length ≤ n → Rd w v l → l.length ≤ 1000000 → (∀ y ∈ l, y.length ≤ 16777216) →
  Calls Tryz.prog 61 #[v] w fun e w' => (∃ v', e = .returned v' ∧ Strs w.heap.size w' v' (sortP l)) ∧ Below w.heap.size w w' := by
 intro n
 induction n with
 | zero =>
  intro v l w hn hR hm hsz
  exact refsort_short v l w hR (by omega)
 | succ n ih =>
  intro v l w hn hR hm hsz
  by_cases h2 : l.length < 2
  ·exact refsort_short v l w hR h2
  obtain ⟨A, c, rfl, hc1, hc2⟩ := hR.shape
  unfold maxLen at hc2
  have hi1 : ∀ W, Below w.heap.size w W → _ := fun W hW => ih _ _ W (by simp; omega) ((hR.below hW).take (l.length / 2) (by omega)) (by simp; omega) (fun y hy => hsz y (List.mem_of_mem_take hy))
  have hdr := fun W (hW : Below w.heap.size w W) => (hR.below hW).drop (l.length / 2) (by omega)
  rw [if_neg (by omega)] at hdr
  have hi2 : ∀ W, Below w.heap.size w W → _ := fun W hW => ih _ _ W (by simp; omega) (hdr W hW) (by simp; omega) (fun y hy => hsz y (List.mem_of_mem_drop hy))
  have hl2 : decide (l.length < 2) = false := by simpa using h2
  have hqa : (l.length : Int).tdiv 2 = (l.length : Int) / 2 := by rw [Int.tdiv_eq_ediv_of_nonneg (by omega)]
  have hqb : IntKind.i64.wrap ((l.length : Int) / 2) = (l.length : Int) / 2 := IntWalk.i64_in _ (by omega)
  have hq3 : (0 : Int) ≤ (l.length : Int) / 2 := by omega
  have hq4 : (l.length : Int) / 2 ≤ (c : Int) := by omega
  have hq5 : (l.length : Int) / 2 ≤ (l.length : Int) := by omega
  have hq6 : ((l.length : Int) / 2).toNat = l.length / 2 := by omega
  have hq7 : l.length / 2 ≤ c := by omega
  have hq8 : l.length / 2 ≤ l.length := by omega
  have hlt : ¬ c = l.length / 2 := by omega
  replace hR := hid hR
  replace hi1 := hid hi1
  replace hi2 := hid hi2
  replace hsz := hid hsz
  replace ih := hid ih
  replace hdr := hid hdr
  go_enter Tryz.func61, Tryz.ntmps61
  go_upto_region 4 with fail
  go_region_held3 (fun W => Below w.heap.size w W) (first | exact below_drewN (Below.refl _ _) 1 | exact hBa.out | exact hBb.out)
   (first | (go_at_call 61; (with_reducible refine (hi1.out _ (by assumption)).mono ?_); rintro e w1 ⟨⟨va, rfl, hSa⟩, hBa⟩; replace hBa := below_step (by assumption) hBa; replace hBa := hid hBa; replace hSa := hid hSa) | (go_at_call 61; (with_reducible refine (hi2.out _ (by assumption)).mono ?_); rintro e w2 ⟨⟨vb, rfl, hSb⟩, hBb⟩; have hBab := hid hBb; replace hBb := below_step (by assumption) hBb; replace hBb := hid hBb; replace hSb := hid hSb))
  rename_i hHeld
  clear hHeld
  have hRa := hSa.out.rd.below hBab.out
  have hRb := hSb.out.rd
  have hM0 := merge_start (half_perm l (l.length / 2)) (sortP_sorted _) (sortP_sorted _)
  have hlen : (sortP (l.take (l.length / 2))).length ≤ 1000000 ∧ (sortP (l.drop (l.length / 2))).length ≤ 1000000 := by
   rw [(sortP_perm _).length_eq, (sortP_perm _).length_eq, List.length_take, List.length_drop]
   omega
  generalize sortP (l.take (l.length / 2)) = xa0 at *
  generalize sortP (l.drop (l.length / 2)) = xb0 at *
  have hnil : w2.ownsRow w2.heap.size 9 1 (.slice none 0 0) 0 [] := ⟨rfl, Or.inl ⟨rfl, rfl⟩⟩
  replace hRa := hid hRa
  replace hRb := hid hRb
  replace hM0 := hid hM0
  replace hlen := hid hlen
  replace hnil := hid hnil
  clear hSa hSb hBa hi1 hi2 hdr hq3 hq4 hq5 hq6 hq7 hq8 hqa hqb hlt hl2 ih hR hBab
  go_wp2_with fail
  go_loopw [4, 5, 6] (fun va vb vo wr => ∃ xa xb xo : List Bytes, Rd w2 va xa ∧ Rd w2 vb xb ∧ Strs w2.heap.size wr vo xo ∧ Mrg l xo xa xb ∧ Below w2.heap.size w2 wr ∧ Hid (xo.length + (xa.length + xb.length) = l.length)) (fun va vb _ _ => (lenOf va + lenOf vb))
  case atStart => exact ⟨_, _, [], hRa.out, hRb.out, hnil.out, hM0.out, Below.refl _ _, hid (by have := hM0.out.perm.length_eq; simpa using this)⟩
  case round =>
   clear hM0 hRa hRb hlen
   obtain ⟨xa, xb, xo, hRa, hRb, hSo, hM, hB, hL⟩ := hrel
   have hL2 := hL.out
   obtain ⟨aA, ac, rfl, ha1, ha2⟩ := hRa.shape
   obtain ⟨bA, bc, rfl, hb1, hb2⟩ := hRb.shape
   obtain ⟨oA, oc, rfl, ho1, ho2⟩ := hSo.rd.shape
   unfold maxLen at ha2 hb2 ho2
   by_cases hne : xa = [] ∨ xb = []
   ·have hfin := hM.fin hne
    have hsa := (hRa.below hB).src
    have hz : xa.length = 0 ∨ xb.length = 0 := hne.imp (fun h => by rw [h]; rfl) (fun h => by rw [h]; rfl)
    by_cases hxa : xa.length = 0
    ·have t1 : decide (0 < xa.length) = false := decide_eq_false (by omega)
     replace hxa := hid hxa
     have hown := hSo.own
     replace hRa := hid hRa
     replace hRb := hid hRb
     replace hSo := hid hSo
     replace hM := hid hM
     replace hB := hid hB
     replace hfin := hid hfin
     replace hsa := hid hsa
     replace hz := hid hz
     replace hne := hid hne
     replace hown := hid hown
     replace hL := hid hL
     go_wp2_with (at_builtin; refine wp_append_any w2.heap.size rfl (.tmp 56) (.tmp 57) 62 9 rfl Tryz.underlying62 (.string ⟨#[]⟩) 1 16 info_string rfl (by decide) (.slice oA xo.length oc) xo.length (strs xo) rfl (.slice aA xa.length ac) xa.length (strs xa) rfl hsa.out hown.out ?_ ?_ ?_ hB.out.size ?_)
     ·simp [strs, Value.oneCell']
     ·simp only [maxLen]; omega
     ·omega
     ·intro v1 w3 h1 hg hat
      have hS3 : Strs w2.heap.size w3 v1 (xo ++ xa) := by
       unfold Strs
       rw [List.length_append]
       simpa [strs] using h1
      have hB3 := hB.out.grown hg hB.out.size (own_base hown.out)
      have hsb := (hRb.out.below hB3).src
      have hl3 : (xo ++ xa).length + xb.length = l.length := by rw [List.length_append]; omega
      obtain ⟨A3, c3, rfl, hd1, hd2⟩ := own_shape hS3.own
      have hown3 := hS3.own
      replace hS3 := hid hS3
      replace hB3 := hid hB3
      replace hsb := hid hsb
      replace hown3 := hid hown3
      replace hl3 := hid hl3
      clear h1 hg hat hown hsa
      go_wp2_with (at_builtin; refine wp_append_any w2.heap.size rfl (.tmp 58) (.tmp 59) 62 9 rfl Tryz.underlying62 (.string ⟨#[]⟩) 1 16 info_string rfl (by decide) (.slice A3 (xo ++ xa).length c3) (xo ++ xa).length (strs (xo ++ xa)) rfl (.slice bA xb.length bc) xb.length (strs xb) rfl hsb.out hown3.out ?_ ?_ ?_ hB3.out.size ?_)
      ·simp [strs, Value.oneCell']
      ·rw [hl3.out]; simp only [maxLen]; omega
      ·rw [hl3.out]; omega
      ·intro v2 w4 h2' hg2 hat2
       have hS4 : Strs w2.heap.size w4 v2 (xo ++ xa ++ xb) := by
        unfold Strs
        simpa [strs, Nat.add_assoc] using h2'
       have hB4 := hB3.out.grown hg2 hB3.out.size (fun k hk => own_base hown3.out k (by rw [List.length_append]; exact hk))
       replace hS4 := hid hS4
       replace hB4 := hid hB4
       clear h2' hg2 hat2
       go_wp2
       go_ret
       rw [← hfin.out]
       exact ⟨⟨_, rfl, own_low hS4.out.own hBb.out.size⟩, below_step hBb.out hB4.out⟩
    ·have t1 : decide (0 < xa.length) = true := decide_eq_true (by omega)
     have t2 : decide (0 < xb.length) = false := decide_eq_false (by omega)
     have hown := hSo.own
     replace hRa := hid hRa
     replace hRb := hid hRb
     replace hSo := hid hSo
     replace hM := hid hM
     replace hB := hid hB
     replace hfin := hid hfin
     replace hsa := hid hsa
     replace hz := hid hz
     replace hne := hid hne
     replace hown := hid hown
     replace hL := hid hL
     go_wp2_with (at_builtin; refine wp_append_any w2.heap.size rfl (.tmp 56) (.tmp 57) 62 9 rfl Tryz.underlying62 (.string ⟨#[]⟩) 1 16 info_string rfl (by decide) (.slice oA xo.length oc) xo.length (strs xo) rfl (.slice aA xa.length ac) xa.length (strs xa) rfl hsa.out hown.out ?_ ?_ ?_ hB.out.size ?_)
     ·simp [strs, Value.oneCell']
     ·simp only [maxLen]; omega
     ·omega
     ·intro v1 w3 h1 hg hat
      have hS3 : Strs w2.heap.size w3 v1 (xo ++ xa) := by
       unfold Strs
       rw [List.length_append]
       simpa [strs] using h1
      have hB3 := hB.out.grown hg hB.out.size (own_base hown.out)
      have hsb := (hRb.out.below hB3).src
      have hl3 : (xo ++ xa).length + xb.length = l.length := by rw [List.length_append]; omega
      obtain ⟨A3, c3, rfl, hd1, hd2⟩ := own_shape hS3.own
      have hown3 := hS3.own
      replace hS3 := hid hS3
      replace hB3 := hid hB3
      replace hsb := hid hsb
      replace hown3 := hid hown3
      replace hl3 := hid hl3
      clear h1 hg hat hown hsa
      go_wp2_with (at_builtin; refine wp_append_any w2.heap.size rfl (.tmp 58) (.tmp 59) 62 9 rfl Tryz.underlying62 (.string ⟨#[]⟩) 1 16 info_string rfl (by decide) (.slice A3 (xo ++ xa).length c3) (xo ++ xa).length (strs (xo ++ xa)) rfl (.slice bA xb.length bc) xb.length (strs xb) rfl hsb.out hown3.out ?_ ?_ ?_ hB3.out.size ?_)
      ·simp [strs, Value.oneCell']
      ·rw [hl3.out]; simp only [maxLen]; omega
      ·rw [hl3.out]; omega
      ·intro v2 w4 h2' hg2 hat2
       have hS4 : Strs w2.heap.size w4 v2 (xo ++ xa ++ xb) := by
        unfold Strs
        simpa [strs, Nat.add_assoc] using h2'
       have hB4 := hB3.out.grown hg2 hB3.out.size (fun k hk => own_base hown3.out k (by rw [List.length_append]; exact hk))
       replace hS4 := hid hS4
       replace hB4 := hid hB4
       clear h2' hg2 hat2
       go_wp2
       go_ret
       rw [← hfin.out]
       exact ⟨⟨_, rfl, own_low hS4.out.own hBb.out.size⟩, below_step hBb.out hB4.out⟩
   ·obtain ⟨x, ya, rfl⟩ : ∃ x ya, xa = x :: ya := by
     cases xa with
     | nil => exact absurd (Or.inl rfl) hne
     | cons x ya => exact ⟨x, ya, rfl⟩
    obtain ⟨y, yb, rfl⟩ : ∃ y yb, xb = y :: yb := by
     cases xb with
     | nil => exact absurd (Or.inr rfl) hne
     | cons y yb => exact ⟨y, yb, rfl⟩
    have hpm := hM.perm
    have hmx : x ∈ l := hpm.mem_iff.1 (by simp)
    have hmy : y ∈ l := hpm.mem_iff.1 (by simp)
    have hzx := hsz x hmx
    have hzy := hsz y hmy
    have t1 : decide (0 < (x :: ya).length) = true := decide_eq_true (by simp)
    have t2 : decide (0 < (y :: yb).length) = true := decide_eq_true (by simp)
    obtain ⟨ga, oa, rfl, ca⟩ := (hRa.below hB).cell (j := 0) (by simp)
    obtain ⟨gb, ob, rfl, cb⟩ := (hRb.below hB).cell (j := 0) (by simp)
    simp only [Nat.add_zero, List.getElem_cons_zero] at ca cb
    have hless := fun W => refless_calls (mkS y) (mkS x) W (by rw [mkS_size]; omega) (by rw [mkS_size]; omega)
    rw [bl_mkS, bl_mkS] at hless
    have hright := fun h => hM.right h
    have hleft := fun h => hM.left h
    have hda := hRa.drop 1 (by simp)
    have hdb := hRb.drop 1 (by simp)
    simp only [List.drop_succ_cons, List.drop_zero] at hda hdb
    have hga := fun x : Gr wr => Gr.cell ca x
    have hgb := fun x : Gr wr => Gr.cell cb x
    have hown := hSo.own
    have hxl : ((xo ++ [y]).length + ((x :: ya).length + yb.length) = l.length) ∧ ((xo ++ [x]).length + (ya.length + (y :: yb).length) = l.length) := by
     simp at hL2 ⊢
     omega
    simp only [List.length_cons] at hL2 t1 t2 ha1 hb1 hda hdb ⊢
    replace hRa := hid hRa
    replace hRb := hid hRb
    replace hSo := hid hSo
    replace hM := hid hM
    replace hB := hid hB
    replace hL := hid hL
    replace hne := hid hne
    replace hpm := hid hpm
    replace hmx := hid hmx
    replace hmy := hid hmy
    replace hless := hid hless
    replace hright := hid hright
    replace hleft := hid hleft
    replace hda := hid hda
    replace hdb := hid hdb
    replace hown := hid hown
    replace hxl := hid hxl
    go_upto_region 7 with fail
    by_cases hlt : cmpP y x < 0
    ·have hlp : lessP y x = true := by unfold lessP; simpa using hlt
     replace hless := hless.out
     rw [hlp] at hless
     replace hless := hid hless
     replace hlt := hid hlt
     replace hlp := hid hlp
     refine wp_region_grow (by kernel_rfl) (by kernel_rfl) ?_
     repeat (any_goals (first | go_big_quiet_step ((go_at_call 105; exact grow_of _ (hless.out _))) | quiet_step ((go_at_call 105; exact grow_of _ (hless.out _)))))
     refine wpQuiet_nil ?_
     rintro w5 ⟨⟨_, hB5⟩, rfl⟩
     have hB25 := below_step hB.out hB5
     have hown5 := own_below hown.out hB5
     have ca5 := (hB5.cell (cell_lt ca)).trans ca
     have cb5 := (hB5.cell (cell_lt cb)).trans cb
     replace hB25 := hid hB25
     replace hown5 := hid hown5
     clear hga hgb ca cb
     have hr2 := hright.out hlt.out
     replace hr2 := hid hr2
     go_wp2_with (at_builtin; refine wp_append1 w2.heap.size rfl (.tmp 40) (.tmp 44) 62 9 rfl Tryz.underlying62 (.string ⟨#[]⟩) 1 16 info_string rfl (by decide) (.slice oA xo.length oc) _ _ rfl [.string (mkS y)] rfl hown5.out rfl ?_ ?_ ?_ hB25.out.size ?_)
     ·simp [Value.oneCell']
     ·simp only [maxLen]; omega
     ·omega
     ·intro v1 w6 h1 hg hat
      have hS6 : Strs w2.heap.size w6 v1 (xo ++ [y]) := Strs.snoc h1
      have hB6 := hB25.out.grown hg hB25.out.size (own_base hown5.out)
      obtain ⟨A6, c6, rfl, _, _⟩ := own_shape hS6.own
      have hd := hdb.out
      replace hS6 := hid hS6
      replace hB6 := hid hB6
      clear h1 hg hat
      by_cases hc1 : bc = 1
      ·rw [if_pos hc1] at hd
       have hif : (bc = 1) = True := eq_true hc1
       replace hd := hid hd
       replace hc1 := hid hc1
       go_wp2
       go_roundw
       case rel => exact ⟨_, _, _, hRa.out, hd.out, hS6.out, hr2.out, hB6.out, hid hxl.out.1⟩
       case measure => simp [lenOf]
      ·rw [if_neg hc1] at hd
       replace hd := hid hd
       go_wp2
       go_roundw
       case rel => exact ⟨_, _, _, hRa.out, hd.out, hS6.out, hr2.out, hB6.out, hid hxl.out.1⟩
       case measure => simp [lenOf]
    ·have hlp : lessP y x = false := by unfold lessP; simpa using hlt
     replace hless := hless.out
     rw [hlp] at hless
     replace hless := hid hless
     replace hlt := hid hlt
     replace hlp := hid hlp
     refine wp_region_grow (by kernel_rfl) (by kernel_rfl) ?_
     repeat (any_goals (first | go_big_quiet_step ((go_at_call 105; exact grow_of _ (hless.out _))) | quiet_step ((go_at_call 105; exact grow_of _ (hless.out _)))))
     refine wpQuiet_nil ?_
     rintro w5 ⟨⟨_, hB5⟩, rfl⟩
     have hB25 := below_step hB.out hB5
     have hown5 := own_below hown.out hB5
     have ca5 := (hB5.cell (cell_lt ca)).trans ca
     have cb5 := (hB5.cell (cell_lt cb)).trans cb
     replace hB25 := hid hB25
     replace hown5 := hid hown5
     clear hga hgb ca cb
     have hr2 := hleft.out hlt.out
     replace hr2 := hid hr2
     go_wp2_with (at_builtin; refine wp_append1 w2.heap.size rfl (.tmp 48) (.tmp 52) 62 9 rfl Tryz.underlying62 (.string ⟨#[]⟩) 1 16 info_string rfl (by decide) (.slice oA xo.length oc) _ _ rfl [.string (mkS x)] rfl hown5.out rfl ?_ ?_ ?_ hB25.out.size ?_)
     ·simp [Value.oneCell']
     ·simp only [maxLen]; omega
     ·omega
     ·intro v1 w6 h1 hg hat
      have hS6 : Strs w2.heap.size w6 v1 (xo ++ [x]) := Strs.snoc h1
      have hB6 := hB25.out.grown hg hB25.out.size (own_base hown5.out)
      obtain ⟨A6, c6, rfl, _, _⟩ := own_shape hS6.own
      have hd := hda.out
      replace hS6 := hid hS6
      replace hB6 := hid hB6
      clear h1 hg hat
      by_cases hc1 : ac = 1
      ·rw [if_pos hc1] at hd
       have hif : (ac = 1) = True := eq_true hc1
       replace hd := hid hd
       replace hc1 := hid hc1
       go_wp2
       go_roundw
       case rel => exact ⟨_, _, _, hd.out, hRb.out, hS6.out, hr2.out, hB6.out, hid hxl.out.2⟩
       case measure => simp [lenOf]
      ·rw [if_neg hc1] at hd
       replace hd := hid hd
       go_wp2
       go_roundw
       case rel => exact ⟨_, _, _, hd.out, hRb.out, hS6.out, hr2.out, hB6.out, hid hxl.out.2⟩
       case measure => simp [lenOf]
end Go.Proofs.YtcjlfkklpghjbaaGreat

namespace Go.Proofs.YtcjlfkklpghjbaaGreat
open Go.RowKit
theorem le_cmpB : ∀ {a b : Bytes}, a ≤ b → cmpB a b ≤ 0
 | [], [], _ => by simp [cmpB]
 | [], _ :: _, _ => by simp [cmpB]
 | _ :: _, [], h => by simp at h
 | a :: x, b :: y, h => by
  simp only [cmpB]
  rcases List.cons_le_cons_iff.1 h with h1 | ⟨rfl, h1⟩
  ·rw [if_pos h1]
   decide
  ·rw [if_neg (UInt8.lt_irrefl a), if_neg (UInt8.lt_irrefl a)]
   exact le_cmpB h1
theorem cmpP_part {a b : Bytes} (ha : a ≠ [] ∧ (47 : UInt8) ∉ a) (hb : b ≠ [] ∧ (47 : UInt8) ∉ b) (h : cmpB a b ≤ 0) : cmpP a b ≤ 0 := by
 unfold cmpP
 rw [split_ne ha.1, split_ne hb.1, splitL_one ha.2, splitL_one hb.2]
 rcases cmpB_range a b with e | e | e
 ·simp [cmpL, e]
 ·simp [cmpL, e]
 ·omega
theorem sortB_sortP {l : List Bytes} (h : ∀ x ∈ l, x ≠ [] ∧ (47 : UInt8) ∉ x) : sortB l = sortP l := by
 refine sortP_eq (sortB_perm l) ?_
 refine List.Pairwise.imp_of_mem ?_ (sortB_sorted l)
 intro a b ha hb hab
 exact cmpP_part (h a ((sortB_perm l).mem_iff.1 ha)) (h b ((sortB_perm l).mem_iff.1 hb)) (le_cmpB hab)
theorem right_len {s : Bytes} (h : right s = true) : s.length ≤ 200 := by
 simp only [right, Bool.and_eq_true, decide_eq_true_eq] at h
 exact h.2
/-- What In collects. -/
def inL (l : List (Pt × Nat)) (s : Bytes) : List Bytes := (l.filter fun x => decide (parent (glue x.1) = s)).map fun x => base (glue x.1)
section
variable {T : Fs}
theorem rest_path (hI : T.Inv) {r : List (Pt × Nat)} (hr : T.names = ([], 1) :: r) {x : Pt × Nat} (hx : x ∈ r) : Pth x.1 ∧ x.1 ≠ [] := by
 have hm : (x.1, x.2) ∈ T.names := by rw [hr]; exact List.mem_cons_of_mem _ hx
 refine ⟨hI.pth _ _ hm, fun e => ?_⟩
 have hnd := hI.nodup
 rw [hr, List.map_cons] at hnd
 exact (List.nodup_cons.1 hnd).1 (by rw [← e]; exact List.mem_map.2 ⟨x, hx, rfl⟩)
theorem in_kids (hI : T.Inv) {r : List (Pt × Nat)} (hr : T.names = ([], 1) :: r) (s : Bytes) : inL r s = (T.kids (split s)).map (·.1) := by
 have hk : T.kids (split s) = kidsL r (split s) := by
  unfold Fs.kids
  rw [hr]
  simp [kidsL, kidOf]
 rw [hk]
 have hp : ∀ x ∈ r, Pth x.1 ∧ x.1 ≠ [] := fun x hx => rest_path hI hr hx
 clear hk hr
 induction r with
 | nil => rfl
 | cons x r ih =>
  obtain ⟨h1, h2⟩ := hp x (List.mem_cons_self ..)
  have ih := ih fun y hy => hp y (List.mem_cons_of_mem _ hy)
  obtain ⟨g1, g2⟩ := h1.text
  have hpar : parent (glue x.1) = s ↔ x.1.dropLast = split s := by
   have e : split (parent (glue x.1)) = x.1.dropLast := by rw [split_parent g1, g2]
   constructor
   ·rintro rfl
    exact e.symm
   ·intro h
    rw [← e] at h
    exact split_inj h
  have hbase : base (glue x.1) = x.1.getLastD [] := by unfold base; rw [g2]
  unfold inL kidsL at ih ⊢
  by_cases hc : parent (glue x.1) = s
  ·rw [List.filter_cons_of_pos (by simpa using hc), List.map_cons, ih, hbase, List.filterMap_cons]
   have : kidOf (split s) x = some (x.1.getLastD [], x.2) := if_pos ⟨h2, hpar.1 hc⟩
   rw [this]
   rfl
  ·rw [List.filter_cons_of_neg (by simpa using hc), ih, List.filterMap_cons]
   have : kidOf (split s) x = none := if_neg fun h => hc (hpar.2 h.2)
   rw [this]
theorem kids_parts (hI : T.Inv) {p : Pt} {x : Bytes} (hx : x ∈ (T.kids p).map (·.1)) : x ≠ [] ∧ (47 : UInt8) ∉ x := by
 obtain ⟨⟨y, i⟩, hy, rfl⟩ := List.mem_map.1 hx
 have hm := mem_kidsL.1 hy
 obtain ⟨s, h1, h2⟩ := hI.pth _ _ hm
 have hy2 : y ∈ split s := by rw [h2]; simp
 exact ⟨partOk_ne (right_part h1 y hy2), split_parts s y hy2⟩
theorem in_sorted (hI : T.Inv) {r : List (Pt × Nat)} (hr : T.names = ([], 1) :: r) (s : Bytes) : sortP (inL r s) = sortB ((T.kids (split s)).map (·.1)) := by
 rw [in_kids hI hr s, sortB_sortP fun x hx => kids_parts hI hx]
theorem paths_rest (hI : T.Inv) {r : List (Pt × Nat)} (hr : T.names = ([], 1) :: r) : T.paths = sortP (r.map fun x => glue x.1) := by
 obtain ⟨r', h1, h2⟩ := below_top_map hI
 have : r' = r := by rw [hr] at h1; exact (List.cons.inj h1).2.symm
 unfold Fs.paths
 rw [h2, this]
/-- The names of one thing. -/
def nmL (l : List (Pt × Nat)) (i : Nat) : List Bytes := (l.filter fun x => decide (x.2 = i)).map fun x => glue x.1
theorem filter_one {l : List (Pt × Nat)} (hnd : (l.map (·.1)).Nodup) {p : Pt} {i : Nat} (hm : (p, i) ∈ l) (h1 : ∀ q, (q, i) ∈ l → q = p) : (l.filter fun x => decide (x.2 = i)) = [(p, i)] := by
 induction l with
 | nil => cases hm
 | cons x l ih =>
  obtain ⟨q, j⟩ := x
  rw [List.map_cons] at hnd
  obtain ⟨n1, n2⟩ := List.nodup_cons.1 hnd
  by_cases hj : j = i
  ·subst hj
   have hq := h1 q (List.mem_cons_self ..)
   subst hq
   rw [List.filter_cons_of_pos (by simp)]
   have : (l.filter fun x => decide (x.2 = j)) = [] := by
    rw [List.filter_eq_nil_iff]
    rintro ⟨q', j'⟩ hx hj'
    simp only [decide_eq_true_eq] at hj'
    subst hj'
    have := h1 q' (List.mem_cons_of_mem _ hx)
    subst this
    exact n1 (List.mem_map.2 ⟨_, hx, rfl⟩)
   rw [this]
  ·rw [List.filter_cons_of_neg (by simpa using hj)]
   rcases List.mem_cons.1 hm with h | h
   ·cases h
    exact absurd rfl hj
   ·exact ih n2 h fun q' hq' => h1 q' (List.mem_cons_of_mem _ hq')
theorem nmL_names (hI : T.Inv) {s : Bytes} {i : Nat} (hr : right s = true) (hs : s ≠ []) (hm : (split s, i) ∈ T.names) : sortP (nmL T.names i) = T.nameList s := by
 obtain ⟨h1, h2⟩ := there_name hI hr hm
 unfold Fs.nameList
 rw [if_neg (by simp [h2, hs]), h1]
 dsimp only
 by_cases hk : (T.nd i).kind = 1
 ·rw [if_pos hk]
  obtain ⟨r, hr1, hr2⟩ := below_top_map hI
  rw [hr2, hr1]
  unfold nmL
  have hi1 : i ≠ 1 := fun e => by
   subst e
   rw [hI.topKind] at hk
   cases hk
  rw [List.filter_cons_of_neg (by simpa using fun e => hi1 e.symm)]
 ·rw [if_neg hk]
  unfold nmL
  rw [filter_one hI.nodup hm (fun q hq => hI.single _ _ hm hk q hq)]
  rw [List.map_cons, List.map_nil, glue_split]
  exact sortP_short (by simp)
theorem links_one (hI : T.Inv) {p : Pt} {i : Nat} (hm : (p, i) ∈ T.names) (hk : (T.nd i).kind ≠ 1) : (T.nd i).links = 1 := by
 rw [hI.links _ _ hm]
 unfold namesOf
 rw [filter_one hI.nodup hm (fun q hq => hI.single _ _ hm hk q hq)]
 rfl
theorem links_names (hI : T.Inv) {s : Bytes} {i : Nat} (hr : right s = true) (hm : (split s, i) ∈ T.names) (hk : (T.nd i).kind = 1) : ((T.nameList s).length : Int) = (T.nd i).links := by
 have hs : s ≠ [] := fun e => by
  subst e
  have h1 := hI.at_some.2 hm
  rw [split_nil, hI.at_top] at h1
  cases h1
  rw [hI.topKind] at hk
  cases hk
 rw [← nmL_names hI hr hs hm, (sortP_perm _).length_eq, hI.links _ _ hm]
 unfold nmL namesOf
 rw [List.length_map]
theorem data_file (hI : T.Inv) {p : Pt} {i : Nat} (hm : (p, i) ∈ T.names) : T.size p i = if (T.nd i).kind = 2 then ((T.kids p).length : Int) else if (T.nd i).kind = 3 then ((T.nd i).target.length : Int) else ((T.nd i).data.length : Int) := by
 unfold Fs.size
 rcases hI.kinds _ _ hm with h | h | h <;> simp [h]
end
end Go.Proofs.YtcjlfkklpghjbaaGreat

namespace Go.Proofs.YtcjlfkklpghjbaaGreat
open Go.RowKit
section
variable (rb : Nat) (v : Value) (A : Nat → Nat) (T : Fs)
set_option maxHeartbeats 1000000 in
set_option maxRecDepth 100000 in
theorem rthere_calls (s : ByteArray) (w : World) (hR : RRep w rb v A T) (hs : s.size ≤ 16777216) :
  Calls Tryz.prog 93 #[ptr rb, .string s] w fun e w' => e = .returned (.tuple #[optPtr A (T.there (bl s)).1, .int .i64 (T.there (bl s)).2.2]) ∧ Below w.heap.size w w' := by
 have h1 := rlook_calls rb v A T s w hR hs
 unfold Fs.there
 generalize T.look (bl s) = lk at *
 obtain ⟨n, d, e⟩ := lk
 dsimp only at *
 unfold ptr at *
 by_cases he : e = 0
 ·subst he
  cases n with
  | none =>
   rw [optPtr_none] at h1
   rw [if_pos ⟨rfl, rfl⟩]
   replace h1 := hid h1
   replace hR := hid hR
   go_enter Tryz.func93, Tryz.ntmps93
   go_wp2_with fail
   (with_reducible refine (h1.out).mono ?_)
   rintro e w1 ⟨rfl, hB⟩
   replace hB := hid hB
   go_wp2
   go_ret2
   exact ⟨rfl, hB.out⟩
  | some i =>
   rw [optPtr_some] at h1
   rw [if_neg (by simp)]
   replace h1 := hid h1
   replace hR := hid hR
   go_enter Tryz.func93, Tryz.ntmps93
   go_wp2_with fail
   (with_reducible refine (h1.out).mono ?_)
   rintro e w1 ⟨rfl, hB⟩
   replace hB := hid hB
   go_wp2
   go_ret2
   exact ⟨rfl, hB.out⟩
 ·have he2 : (e == 0) = false := by simpa using he
  rw [if_neg (fun h => he h.1)]
  replace h1 := hid h1
  replace hR := hid hR
  replace he := hid he
  go_enter Tryz.func93, Tryz.ntmps93
  go_wp2_with fail
  (with_reducible refine (h1.out).mono ?_)
  rintro e w1 ⟨rfl, hB⟩
  replace hB := hid hB
  go_wp2
  go_ret2
  exact ⟨rfl, hB.out⟩
theorem base_le (s : Bytes) : (base s).length ≤ s.length := by
 rcases parent_at (mkS s) with ⟨_, _, h⟩ | ⟨i, _, _, _, h⟩
 ·rw [bl_mkS] at h
  rw [h]
  exact Nat.le_refl _
 ·rw [bl_mkS] at h
  rw [h]
  simp
/-- A file that is there. -/
def Fs.fileOk (T : Fs) (s : Bytes) : Option Nat := if (T.file s).2 = 0 then (T.file s).1 else none
theorem file_there {T : Fs} (hI : T.Inv) (s : Bytes) : ((T.there s).2.2 ≠ 0 ∧ T.file s = (none, (T.there s).2.2)) ∨ (∃ i, (T.there s).2.2 = 0 ∧ (T.there s).1 = some i ∧ (split s, i) ∈ T.names ∧ right s = true ∧ T.file s = (some i, notFile (T.nd i))) := by
 by_cases hz : (T.there s).2.2 = 0
 ·obtain ⟨hr, i, h1, h2⟩ := there_zero hI hz
  refine Or.inr ⟨i, hz, h1, h2, hr, ?_⟩
  unfold Fs.file
  rw [if_pos hz, h1]
 ·refine Or.inl ⟨hz, ?_⟩
  unfold Fs.file
  rw [if_neg hz]
set_option maxHeartbeats 1000000 in
set_option maxRecDepth 100000 in
theorem rfile_calls (s : ByteArray) (w : World) (hR : RRep w rb v A T) (hs : s.size ≤ 16777216) :
  Calls Tryz.prog 92 #[ptr rb, .string s] w fun e w' => e = .returned (.tuple #[optPtr A (T.fileOk (bl s)), .int .i64 (T.file (bl s)).2]) ∧ Below w.heap.size w w' := by
 have h1 := rthere_calls rb v A T s w hR hs
 unfold Fs.fileOk
 unfold ptr at *
 rcases file_there hR.inv (bl s) with ⟨hz, hf⟩ | ⟨i, hz, h2, hm, _, hf⟩
 ·rw [hf]
  dsimp only
  rw [if_neg hz]
  generalize (T.there (bl s)).2.2 = e at *
  generalize (T.there (bl s)).1 = n at *
  have he2 : (e == 0) = false := by simpa using hz
  have he3 : (e != 0) = true := by simpa using hz
  have hn : ∃ a, optPtr A n = .pointer a := by cases n <;> exact ⟨_, rfl⟩
  obtain ⟨a, hn⟩ := hn
  rw [hn] at h1
  replace h1 := hid h1
  replace hR := hid hR
  replace hz := hid hz
  replace hf := hid hf
  replace hn := hid hn
  go_enter Tryz.func92, Tryz.ntmps92
  go_wp2_with fail
  (with_reducible refine (h1.out).mono ?_)
  rintro e w1 ⟨rfl, hB⟩
  replace hB := hid hB
  go_wp2
  go_ret2
  exact ⟨rfl, hB.out⟩
 ·rw [hz, h2, optPtr_some] at h1
  rw [hf]
  dsimp only
  have hk := hR.inv.kinds _ _ hm
  replace hf := hid hf
  replace hz := hid hz
  replace h2 := hid h2
  rcases hk with hk | hk | hk
  ·have hnf : notFile (T.nd i) = 0 := by unfold notFile; rw [hk]; rfl
   rw [hnf]
   replace h1 := hid h1
   replace hnf := hid hnf
   go_enter Tryz.func92, Tryz.ntmps92
   go_wp2_with fail
   (with_reducible refine (h1.out).mono ?_)
   rintro e w1 ⟨rfl, hB⟩
   obtain ⟨dv, _, c0, _⟩ := (hR.below hB).cells ⟨_, hm⟩
   rw [hk] at c0
   replace hB := hid hB
   replace hk := hid hk
   replace hR := hid hR
   go_wp2
   go_ret2
   exact ⟨rfl, hB.out⟩
  ·have hnf : notFile (T.nd i) = 13 := by unfold notFile; rw [hk]; rfl
   rw [hnf]
   replace h1 := hid h1
   replace hnf := hid hnf
   go_enter Tryz.func92, Tryz.ntmps92
   go_wp2_with fail
   (with_reducible refine (h1.out).mono ?_)
   rintro e w1 ⟨rfl, hB⟩
   obtain ⟨dv, _, c0, _⟩ := (hR.below hB).cells ⟨_, hm⟩
   rw [hk] at c0
   replace hB := hid hB
   replace hk := hid hk
   replace hR := hid hR
   go_wp2
   go_ret2
   exact ⟨rfl, hB.out⟩
  ·have hnf : notFile (T.nd i) = 17 := by unfold notFile; rw [hk]; rfl
   rw [hnf]
   replace h1 := hid h1
   replace hnf := hid hnf
   go_enter Tryz.func92, Tryz.ntmps92
   go_wp2_with fail
   (with_reducible refine (h1.out).mono ?_)
   rintro e w1 ⟨rfl, hB⟩
   obtain ⟨dv, _, c0, _⟩ := (hR.below hB).cells ⟨_, hm⟩
   rw [hk] at c0
   replace hB := hid hB
   replace hk := hid hk
   replace hR := hid hR
   go_wp2
   go_ret2
   exact ⟨rfl, hB.out⟩
set_option maxHeartbeats 2000000 in
set_option maxRecDepth 100000 in
theorem rin_calls (s : ByteArray) (w : World) (hR : RRep w rb v A T) (hf : T.names.length ≤ 1000000) :
  Calls Tryz.prog 94 #[ptr rb, .string s] w fun e w' => (∃ v', e = .returned v' ∧ Strs w.heap.size w' v' (sortB ((T.kids (split (bl s))).map (·.1)))) ∧ Below w.heap.size w w' := by
 have hI := hR.inv
 obtain ⟨r, hr⟩ := hI.top
 have hin := in_sorted hI hr (bl s)
 have hrl : T.names.length = r.length + 1 := by rw [hr]; rfl
 have hrl2 : r.length ≤ 999999 := by omega
 have hrp : ∀ x ∈ r, Pth x.1 ∧ x.1 ≠ [] := fun x hx => rest_path hI hr hx
 obtain ⟨g, c, rfl, hc1, hc2, hp, t0, hcs⟩ := hR.at_
 unfold maxLen at hc2
 have hcs2 : ∀ k (hk : k < r.length), w.cell? ⟨g, (k + 1) * 2, none⟩ = some (.string (mkS (glue (r[k]).1))) := fun k hk => (hcs (k + 1) _ (by rw [hr, List.getElem?_cons_succ, List.getElem?_eq_getElem hk])).1
 rw [← hin]
 rw [hrl] at *
 have hnil : w.ownsRow w.heap.size 9 1 (.slice none 0 0) 0 [] := ⟨rfl, Or.inl ⟨rfl, rfl⟩⟩
 unfold ptr at *
 replace hR := hid hR
 replace hcs := hid hcs
 replace hcs2 := hid hcs2
 replace hr := hid hr
 replace hin := hid hin
 replace hI := hid hI
 replace hrp := hid hrp
 replace hnil := hid hnil
 clear hrl
 go_enter Tryz.func94, Tryz.ntmps94
 go_wp2
 go_loopw [5, 6] (fun o i wr => ∃ k : Nat, i = .int .i64 ((k : Int) + 1) ∧ k ≤ r.length ∧ Strs w.heap.size wr o (inL (r.take k) (bl s)) ∧ Below w.heap.size w wr) (fun _ i _ => (r.length + 1) - (intOf i).toNat)
 case atStart => exact ⟨0, rfl, Nat.zero_le _, hnil.out, Below.refl _ _⟩
 case round =>
  obtain ⟨k, rfl, hk, hS, hB⟩ := hrel
  have hil : (inL (r.take k) (bl s)).length ≤ 1000000 := by
   unfold inL
   rw [List.length_map]
   have h1 := List.length_filter_le (fun x : Pt × Nat => decide (parent (glue x.1) = bl s)) (r.take k)
   have h2 : (r.take k).length ≤ k := List.length_take_le _ _
   omega
  by_cases hlt : k < r.length
  ·have ck := (hB.cell (cell_lt (hcs2.out k hlt))).trans (hcs2.out k hlt)
   have t1 := (hB.cell (cell_lt t0)).trans t0
   obtain ⟨hpx, hpn⟩ := hrp.out r[k] (List.getElem_mem hlt)
   have hgl : (glue (r[k]).1).length ≤ 200 := right_len hpx.text.1
   have hsn : inL (r.take (k + 1)) (bl s) = inL (r.take k) (bl s) ++ if parent (glue (r[k]).1) = bl s then [base (glue (r[k]).1)] else [] := by
    rw [List.take_succ_eq_append_getElem hlt]
    unfold inL
    rw [List.filter_append, List.map_append]
    congr 1
    by_cases h : parent (glue (r[k]).1) = bl s <;> simp [h]
   generalize glue (r[k]).1 = x at *
   have hxz := mkS_size x
   have hpar := fun W => refparent_calls (mkS x) W (by omega)
   have hbas := fun W => refbase_calls (mkS x) W (by omega)
   rw [bl_mkS] at hpar hbas
   obtain ⟨oA, oc, ho, ho1, ho2⟩ := own_shape hS.own
   subst ho
   unfold maxLen at ho2
   have hi1 : (k : Int) + 1 < (r.length : Int) + 1 := by omega
   have hwr : IntKind.i64.wrap ((k : Int) + 1) = (k : Int) + 1 := IntWalk.i64_in _ (by omega)
   have hnt : ((k : Int) + 1).toNat = k + 1 := by omega
   by_cases hpe : parent x = bl s
   ·have t2 : ((mkS (parent x)).toList == s.toList) = true := by rw [toList_bl, toList_bl, bl_mkS, hpe]; simp
    rw [if_pos hpe] at hsn
    replace hS := hid hS
    replace hB := hid hB
    replace hsn := hid hsn
    replace hpe := hid hpe
    replace hpar := hid hpar
    replace hbas := hid hbas
    replace hpx := hid hpx
    go_wp2_with fail
    (with_reducible refine (hpar.out _).mono ?_)
    rintro e w1 ⟨rfl, hB1⟩
    have hB01 := below_step hB.out hB1
    have ck1 := (hB1.cell (cell_lt ck)).trans ck
    have t3 := (hB1.cell (cell_lt t1)).trans t1
    have hS1 := own_below hS.out hB1
    replace hB01 := hid hB01
    replace hS1 := hid hS1
    clear hB1 ck t1
    go_wp2_with fail
    (with_reducible refine (hbas.out _).mono ?_)
    rintro e w2 ⟨rfl, hB2⟩
    have hB02 := below_step hB01.out hB2
    have hS2 := own_below hS1.out hB2
    replace hB02 := hid hB02
    replace hS2 := hid hS2
    clear hB2 ck1 t3
    go_wp2_with (at_builtin; refine wp_append1 w.heap.size rfl (.tmp 27) (.tmp 37) 62 9 rfl Tryz.underlying62 (.string ⟨#[]⟩) 1 16 info_string rfl (by decide) (.slice oA (inL (r.take k) (bl s)).length oc) _ _ rfl [.string (mkS (base x))] rfl hS2.out rfl ?_ ?_ ?_ hB02.out.size ?_)
    ·simp [Value.oneCell']
    ·simp only [maxLen]; omega
    ·omega
    ·intro v1 w3 h1 hg hat
     have hS3 : Strs w.heap.size w3 v1 (inL (r.take k) (bl s) ++ [base x]) := Strs.snoc h1
     have hB3 := hB02.out.grown hg hB02.out.size (own_base hS2.out)
     replace hS3 := hid hS3
     replace hB3 := hid hB3
     clear h1 hg hat
     go_wp2
     go_roundw
     case rel => exact ⟨k + 1, by go_num, by omega, by rw [hsn.out]; exact hS3.out, hB3.out⟩
     case measure => simp [intOf]; omega
   ·have t2 : ((mkS (parent x)).toList == s.toList) = false := by rw [toList_bl, toList_bl, bl_mkS]; simpa using hpe
    rw [if_neg hpe, List.append_nil] at hsn
    replace hS := hid hS
    replace hB := hid hB
    replace hsn := hid hsn
    replace hpe := hid hpe
    replace hpar := hid hpar
    replace hbas := hid hbas
    replace hpx := hid hpx
    go_wp2_with fail
    (with_reducible refine (hpar.out _).mono ?_)
    rintro e w1 ⟨rfl, hB1⟩
    have hB01 := below_step hB.out hB1
    have hS1 := own_below hS.out hB1
    replace hB01 := hid hB01
    replace hS1 := hid hS1
    clear hB1 ck t1
    go_wp2
    go_roundw
    case rel => exact ⟨k + 1, by go_num, by omega, by rw [hsn.out]; exact hS1.out, hB01.out⟩
    case measure => simp [intOf]; omega
  ·obtain rfl : k = r.length := by omega
   rw [List.take_length] at hS hil
   have t1 := (hB.cell (cell_lt t0)).trans t0
   have hso := refsort_calls _ _ _ wr (Nat.le_refl _) hS.rd hil (fun y hy => by
    unfold inL at hy
    obtain ⟨x, hx, rfl⟩ := List.mem_map.1 hy
    have hx2 := (hrp.out x (List.mem_filter.1 hx).1).1
    have := right_len hx2.text.1
    have h3 : (base (glue x.1)).length ≤ (glue x.1).length := base_le _
    omega)
   obtain ⟨oA, oc, ho, ho1, ho2⟩ := own_shape hS.own
   subst ho
   unfold maxLen at ho2
   replace hS := hid hS
   replace hB := hid hB
   replace hso := hid hso
   go_wp2_with fail
   (with_reducible refine (hso.out).mono ?_)
   rintro e w1 ⟨⟨v2, rfl, hS2⟩, hB2⟩
   obtain ⟨oA2, oc2, ho2', _, _⟩ := own_shape hS2.own
   subst ho2'
   replace hS2 := hid hS2
   replace hB2 := hid hB2
   go_wp2
   go_ret
   exact ⟨⟨_, rfl, own_low hS2.out.own hB.out.size⟩, below_step hB.out hB2.out⟩
end
end Go.Proofs.YtcjlfkklpghjbaaGreat

namespace Go.Proofs.YtcjlfkklpghjbaaGreat
open Go.RowKit
/-- The texts of names. -/
def glL (l : List (Pt × Nat)) : List Bytes := l.map fun x => glue x.1
section
variable (rb : Nat) (v : Value) (A : Nat → Nat) (T : Fs)
set_option maxHeartbeats 2000000 in
set_option maxRecDepth 100000 in
theorem rpaths_calls (w : World) (hR : RRep w rb v A T) (hf : T.names.length ≤ 1000000) :
  Calls Tryz.prog 25 #[ptr rb] w fun e w' => (∃ v', e = .returned v' ∧ Strs w.heap.size w' v' T.paths) ∧ Below w.heap.size w w' := by
 have hI := hR.inv
 obtain ⟨r, hr⟩ := hI.top
 have hin := paths_rest hI hr
 have hrl : T.names.length = r.length + 1 := by rw [hr]; rfl
 have hrl2 : r.length ≤ 999999 := by omega
 have hrp : ∀ x ∈ r, Pth x.1 ∧ x.1 ≠ [] := fun x hx => rest_path hI hr hx
 obtain ⟨g, c, rfl, hc1, hc2, hp, t0, hcs⟩ := hR.at_
 unfold maxLen at hc2
 have hcs2 : ∀ k (hk : k < r.length), w.cell? ⟨g, (k + 1) * 2, none⟩ = some (.string (mkS (glue (r[k]).1))) := fun k hk => (hcs (k + 1) _ (by rw [hr, List.getElem?_cons_succ, List.getElem?_eq_getElem hk])).1
 rw [hin]
 change Calls Tryz.prog 25 #[ptr rb] w fun e w' => (∃ v', e = .returned v' ∧ Strs w.heap.size w' v' (sortP (glL r))) ∧ Below w.heap.size w w'
 rw [hrl] at *
 have hnil : w.ownsRow w.heap.size 9 1 (.slice none 0 0) 0 [] := ⟨rfl, Or.inl ⟨rfl, rfl⟩⟩
 unfold ptr at *
 replace hR := hid hR
 replace hcs := hid hcs
 replace hcs2 := hid hcs2
 replace hr := hid hr
 replace hin := hid hin
 replace hI := hid hI
 replace hrp := hid hrp
 replace hnil := hid hnil
 clear hrl
 go_enter Tryz.func25, Tryz.ntmps25
 go_wp2
 go_loopw [3, 4] (fun o i wr => ∃ k : Nat, i = .int .i64 ((k : Int) + 1) ∧ k ≤ r.length ∧ Strs w.heap.size wr o (glL (r.take k)) ∧ Below w.heap.size w wr) (fun _ i _ => (r.length + 1) - (intOf i).toNat)
 case atStart => exact ⟨0, rfl, Nat.zero_le _, hnil.out, Below.refl _ _⟩
 case round =>
  obtain ⟨k, rfl, hk, hS, hB⟩ := hrel
  have hil : (glL (r.take k)).length ≤ 1000000 := by
   unfold glL
   rw [List.length_map]
   have h2 : (r.take k).length ≤ k := List.length_take_le _ _
   omega
  by_cases hlt : k < r.length
  ·have ck := (hB.cell (cell_lt (hcs2.out k hlt))).trans (hcs2.out k hlt)
   have t1 := (hB.cell (cell_lt t0)).trans t0
   have hsn : glL (r.take (k + 1)) = glL (r.take k) ++ [glue (r[k]).1] := by
    rw [List.take_succ_eq_append_getElem hlt]
    unfold glL
    rw [List.map_append]
    rfl
   generalize glue (r[k]).1 = x at *
   obtain ⟨oA, oc, ho, ho1, ho2⟩ := own_shape hS.own
   subst ho
   unfold maxLen at ho2
   have hi1 : (k : Int) + 1 < (r.length : Int) + 1 := by omega
   have hwr : IntKind.i64.wrap ((k : Int) + 1) = (k : Int) + 1 := IntWalk.i64_in _ (by omega)
   have hnt : ((k : Int) + 1).toNat = k + 1 := by omega
   replace hS := hid hS
   replace hB := hid hB
   replace hsn := hid hsn
   go_wp2_with (at_builtin; refine wp_append1 w.heap.size rfl (.tmp 14) (.tmp 23) 62 9 rfl Tryz.underlying62 (.string ⟨#[]⟩) 1 16 info_string rfl (by decide) (.slice oA (glL (r.take k)).length oc) _ _ rfl [.string (mkS x)] rfl hS.out rfl ?_ ?_ ?_ hB.out.size ?_)
   ·simp [Value.oneCell']
   ·simp only [maxLen]; omega
   ·omega
   ·intro v1 w3 h1 hg hat
    have hS3 : Strs w.heap.size w3 v1 (glL (r.take k) ++ [x]) := Strs.snoc h1
    have hB3 := hB.out.grown hg hB.out.size (own_base hS.out)
    replace hS3 := hid hS3
    replace hB3 := hid hB3
    clear h1 hg hat
    go_wp2
    go_roundw
    case rel => exact ⟨k + 1, by go_num, by omega, by rw [hsn.out]; exact hS3.out, hB3.out⟩
    case measure => simp [intOf]; omega
  ·obtain rfl : k = r.length := by omega
   rw [List.take_length] at hS hil
   have t1 := (hB.cell (cell_lt t0)).trans t0
   have hso := refsort_calls _ _ _ wr (Nat.le_refl _) hS.rd hil (fun y hy => by
    unfold glL at hy
    obtain ⟨x, hx, rfl⟩ := List.mem_map.1 hy
    have := right_len (hrp.out x hx).1.text.1
    omega)
   obtain ⟨oA, oc, ho, ho1, ho2⟩ := own_shape hS.own
   subst ho
   unfold maxLen at ho2
   replace hS := hid hS
   replace hB := hid hB
   replace hso := hid hso
   go_wp2_with fail
   (with_reducible refine (hso.out).mono ?_)
   rintro e w1 ⟨⟨v2, rfl, hS2⟩, hB2⟩
   obtain ⟨oA2, oc2, ho2', _, _⟩ := own_shape hS2.own
   subst ho2'
   replace hS2 := hid hS2
   replace hB2 := hid hB2
   go_wp2
   go_ret
   exact ⟨⟨_, rfl, own_low hS2.out.own hB.out.size⟩, below_step hB.out hB2.out⟩
set_option maxHeartbeats 2000000 in
set_option maxRecDepth 100000 in
theorem rnames_calls (s : ByteArray) (w : World) (hR : RRep w rb v A T) (hs : s.size ≤ 16777216) (hf : T.names.length ≤ 1000000) :
  Calls Tryz.prog 69 #[ptr rb, .string s] w fun e w' => (∃ v', e = .returned v' ∧ Strs w.heap.size w' v' (T.nameList (bl s))) ∧ Below w.heap.size w w' := by
 have hI := hR.inv
 have h1 := rthere_calls rb v A T s w hR hs
 have hnil0 : ∀ (B : Nat) (W : World), Strs B W (.slice none 0 0) [] := fun B W => ⟨rfl, Or.inl ⟨rfl, rfl⟩⟩
 have hse := str_nil s
 rcases file_there hI (bl s) with ⟨hz, _⟩ | ⟨i, hz, h2, hm, hrs, _⟩
 ·have hnl : T.nameList (bl s) = [] := by unfold Fs.nameList; rw [if_pos (Or.inl hz)]
  rw [hnl]
  have he2 : ((T.there (bl s)).2.2 == 0) = false := by simpa using hz
  have he3 : ((T.there (bl s)).2.2 != 0) = true := by simpa using hz
  generalize (T.there (bl s)).2.2 = e at *
  generalize (T.there (bl s)).1 = n at *
  have hn : ∃ a, optPtr A n = .pointer a := by cases n <;> exact ⟨_, rfl⟩
  obtain ⟨a, hn⟩ := hn
  rw [hn] at h1
  unfold ptr at *
  replace h1 := hid h1
  replace hR := hid hR
  replace hz := hid hz
  replace hn := hid hn
  replace hnil0 := hid hnil0
  replace hse := hid hse
  replace hnl := hid hnl
  replace hI := hid hI
  go_enter Tryz.func69, Tryz.ntmps69
  go_wp2_with fail
  (with_reducible refine (h1.out).mono ?_)
  rintro e w1 ⟨rfl, hB⟩
  replace hB := hid hB
  go_wp2
  go_ret
  exact ⟨⟨_, rfl, hnil0.out _ _⟩, hB.out⟩
 ·rw [hz, h2, optPtr_some] at h1
  by_cases hs0 : bl s = []
  ·have hnl : T.nameList (bl s) = [] := by unfold Fs.nameList; rw [if_pos (Or.inr hs0)]
   rw [hnl]
   have he2 : s.toList.isEmpty = true := by rw [hse]; simpa using hs0
   unfold ptr at *
   replace h1 := hid h1
   replace hR := hid hR
   replace hz := hid hz
   replace hnil0 := hid hnil0
   replace hse := hid hse
   replace hnl := hid hnl
   replace hI := hid hI
   replace hs0 := hid hs0
   replace h2 := hid h2
   go_enter Tryz.func69, Tryz.ntmps69
   go_wp2_with fail
   (with_reducible refine (h1.out).mono ?_)
   rintro e w1 ⟨rfl, hB⟩
   replace hB := hid hB
   go_wp2
   go_ret
   exact ⟨⟨_, rfl, hnil0.out _ _⟩, hB.out⟩
  ·have he2 : s.toList.isEmpty = false := by rw [hse]; simpa using hs0
   have hin := nmL_names hI hrs hs0 hm
   have hpt := hI.pth
   have hlv : ∀ k (hk : k < T.names.length), T.Live (T.names[k]).2 := fun k hk => ⟨(T.names[k]).1, List.getElem_mem hk⟩
   rw [← hin]
   unfold ptr at *
   replace h1 := hid h1
   replace hz := hid hz
   replace hnil0 := hid hnil0
   replace hse := hid hse
   replace hI := hid hI
   replace hs0 := hid hs0
   replace h2 := hid h2
   replace hin := hid hin
   replace hpt := hid hpt
   replace hlv := hid hlv
   go_enter Tryz.func69, Tryz.ntmps69
   go_wp2_with fail
   (with_reducible refine (h1.out).mono ?_)
   rintro e w1 ⟨rfl, hB1⟩
   have hR1 := hR.below hB1
   obtain ⟨g, c, rfl, hc1, hc2, hp, t0, hcs⟩ := hR1.at_
   unfold maxLen at hc2
   obtain ⟨dv, _, _, n1, _⟩ := hR1.cells ⟨_, hm⟩
   unfold ptr at hcs
   replace hR := hid hR
   replace hR1 := hid hR1
   replace hB1 := hid hB1
   replace hcs := hid hcs
   go_wp2
   go_loopw [7, 8] (fun o i' wr => ∃ k : Nat, i' = .int .i64 k ∧ k ≤ T.names.length ∧ Strs w1.heap.size wr o (nmL (T.names.take k) i) ∧ Below w1.heap.size w1 wr) (fun _ i' _ => T.names.length - (intOf i').toNat)
   case atStart => exact ⟨0, rfl, Nat.zero_le _, hnil0.out _ _, Below.refl _ _⟩
   case round =>
    obtain ⟨k, rfl, hk, hS, hB⟩ := hrel
    have hil : (nmL (T.names.take k) i).length ≤ 1000000 := by
     unfold nmL
     rw [List.length_map]
     have h1 := List.length_filter_le (fun x : Pt × Nat => decide (x.2 = i)) (T.names.take k)
     have h2 : (T.names.take k).length ≤ k := List.length_take_le _ _
     omega
    have hBw := below_step hB1.out hB
    have t1 := (hB.cell (cell_lt t0)).trans t0
    have n2 := (hB.cell (cell_lt n1)).trans n1
    by_cases hlt : k < T.names.length
    ·obtain ⟨ca, cb⟩ := hcs.out k _ (List.getElem?_eq_getElem hlt)
     have ca1 := (hB.cell (cell_lt ca)).trans ca
     have cb1 := (hB.cell (cell_lt cb)).trans cb
     obtain ⟨dj, _, _, m1, _⟩ := (hR1.out.below hB).cells (hlv.out k hlt)
     have hsn : nmL (T.names.take (k + 1)) i = nmL (T.names.take k) i ++ if (T.names[k]).2 = i then [glue (T.names[k]).1] else [] := by
      rw [List.take_succ_eq_append_getElem hlt]
      unfold nmL
      rw [List.filter_append, List.map_append]
      congr 1
      by_cases h : (T.names[k]).2 = i <;> simp [h]
     generalize T.names[k] = y at *
     obtain ⟨q, j⟩ := y
     dsimp only at *
     generalize glue q = x at *
     obtain ⟨oA, oc, ho, ho1, ho2⟩ := own_shape hS.own
     subst ho
     unfold maxLen at ho2
     have hkn : (k : Int) < (T.names.length : Int) := by omega
     clear ca cb
     go_upto_region 8 with fail
     by_cases hji : j = i
     ·have t2 : (j == i) = true := by simpa using hji
      have t3 : ((j : Int) == (i : Int)) = true := by rw [hji]; simp
      rw [if_pos hji] at hsn
      replace hS := hid hS
      replace hB := hid hB
      replace hsn := hid hsn
      replace hji := hid hji
      replace hBw := hid hBw
      go_quiet (fail)
      go_wp2_with (at_builtin; refine wp_append1 w1.heap.size rfl (.tmp 46) (.tmp 55) 62 9 rfl Tryz.underlying62 (.string ⟨#[]⟩) 1 16 info_string rfl (by decide) (.slice oA (nmL (T.names.take k) i).length oc) _ _ rfl [.string (mkS x)] rfl hS.out rfl ?_ ?_ ?_ hB.out.size ?_)
      ·simp [Value.oneCell']
      ·simp only [maxLen]; omega
      ·omega
      ·intro v1 w3 h1 hg hat
       have hS3 : Strs w1.heap.size w3 v1 (nmL (T.names.take k) i ++ [x]) := Strs.snoc h1
       have hB3 := (below_drewN hB.out _).grown hg hB.out.size (own_base hS.out)
       replace hS3 := hid hS3
       replace hB3 := hid hB3
       clear h1 hg hat
       go_wp2
       go_roundw
       case rel => exact ⟨k + 1, by go_num, by omega, by rw [hsn.out]; exact hS3.out, hB3.out⟩
       case measure => simp [intOf]; omega
     ·have t2 : (j == i) = false := by simpa using hji
      have t3 : ((j : Int) == (i : Int)) = false := by simp only [beq_eq_false_iff_ne, ne_eq]; omega
      rw [if_neg hji, List.append_nil] at hsn
      replace hS := hid hS
      replace hB := hid hB
      replace hsn := hid hsn
      replace hji := hid hji
      replace hBw := hid hBw
      go_quiet (fail)
      go_wp2
      go_roundw
      case rel => exact ⟨k + 1, by go_num, by omega, by rw [hsn.out]; exact hS.out, below_drewN hB.out _⟩
      case measure => simp [intOf]; omega
    ·obtain rfl : k = T.names.length := by omega
     rw [List.take_length] at hS hil
     have hso := refsort_calls _ _ _ wr (Nat.le_refl _) hS.rd hil (fun y hy => by
      unfold nmL at hy
      obtain ⟨x, hx, rfl⟩ := List.mem_map.1 hy
      have := right_len (hpt.out x.1 x.2 (List.mem_filter.1 hx).1).text.1
      omega)
     obtain ⟨oA, oc, ho, ho1, ho2⟩ := own_shape hS.own
     subst ho
     unfold maxLen at ho2
     replace hBw := hid hBw
     replace hS := hid hS
     replace hB := hid hB
     replace hso := hid hso
     go_wp2_with fail
     (with_reducible refine (hso.out).mono ?_)
     rintro e w2 ⟨⟨v2, rfl, hS2⟩, hB2⟩
     obtain ⟨oA2, oc2, ho2', _, _⟩ := own_shape hS2.own
     subst ho2'
     replace hS2 := hid hS2
     replace hB2 := hid hB2
     go_wp2
     go_ret
     exact ⟨⟨_, rfl, own_low hS2.out.own hBw.out.size⟩, below_step hBw.out hB2.out⟩
end
end Go.Proofs.YtcjlfkklpghjbaaGreat

namespace Go.Proofs.YtcjlfkklpghjbaaGreat
open Go.RowKit
theorem RdB.src {W : World} {v : Value} {l : Bytes} (h : RdB W v l) : Src W v 1 l.length (byteCells l) := by
 obtain ⟨A, c, rfl, h1, h2, hc⟩ := h
 by_cases hl : l = []
 ·subst hl
  exact Or.inl ⟨rfl, rfl, A, c, rfl⟩
 ·have hp : 0 < l.length := List.length_pos_iff.2 hl
  obtain ⟨g, o, rfl, _⟩ := hc 0 hp
  refine Or.inr ⟨_, c, rfl, by simp [byteCells], fun j u hj => ?_⟩
  have hlt : j < l.length := by have := (List.getElem?_eq_some_iff.1 hj).1; simpa [byteCells] using this
  obtain ⟨g', o', e, hcell⟩ := hc j hlt
  cases e
  have : u = .int .u8 (l[j]).toNat := by
   simp only [byteCells, List.getElem?_map, List.getElem?_eq_getElem hlt, Option.map_some, Option.some.injEq] at hj
   exact hj.symm
  rw [add_at, this]
  exact hcell
section
variable (rb : Nat) (v : Value) (A : Nat → Nat) (T : Fs)
set_option maxHeartbeats 1000000 in
set_option maxRecDepth 100000 in
theorem rlist_calls (s : ByteArray) (w : World) (hR : RRep w rb v A T) (hs : s.size ≤ 16777216) (hf : T.names.length ≤ 1000000) :
  Calls Tryz.prog 67 #[ptr rb, .string s] w fun e w' => (∃ v', e = .returned (.tuple #[v', .int .i64 (T.list (bl s)).2]) ∧ Strs w.heap.size w' v' (T.list (bl s)).1) ∧ Below w.heap.size w w' := by
 have hI := hR.inv
 have h1 := rthere_calls rb v A T s w hR hs
 have h2 := fun W hW => rin_calls rb v A T s W hW hf
 have hnil0 : ∀ (B : Nat) (W : World), Strs B W (.slice none 0 0) [] := fun B W => ⟨rfl, Or.inl ⟨rfl, rfl⟩⟩
 unfold Fs.list
 rcases file_there hI (bl s) with ⟨hz, _⟩ | ⟨i, hz, h3, hm, hrs, _⟩
 ·rw [if_neg hz]
  dsimp only
  have he2 : ((T.there (bl s)).2.2 == 0) = false := by simpa using hz
  have he3 : ((T.there (bl s)).2.2 != 0) = true := by simpa using hz
  generalize (T.there (bl s)).2.2 = e at *
  generalize (T.there (bl s)).1 = n at *
  have hn : ∃ a, optPtr A n = .pointer a := by cases n <;> exact ⟨_, rfl⟩
  obtain ⟨a, hn⟩ := hn
  rw [hn] at h1
  unfold ptr at *
  replace h1 := hid h1
  replace h2 := hid h2
  replace hR := hid hR
  replace hz := hid hz
  replace hn := hid hn
  replace hnil0 := hid hnil0
  replace hI := hid hI
  go_enter Tryz.func67, Tryz.ntmps67
  go_wp2_with fail
  (with_reducible refine (h1.out).mono ?_)
  rintro e w1 ⟨rfl, hB⟩
  replace hB := hid hB
  go_wp2
  go_ret2
  exact ⟨⟨_, rfl, hnil0.out _ _⟩, hB.out⟩
 ·rw [hz, h3, optPtr_some] at h1
  rw [if_pos hz, h3]
  dsimp only
  by_cases hk : (T.nd i).kind = 2
  ·rw [if_pos hk]
   unfold ptr at *
   replace h1 := hid h1
   replace h2 := hid h2
   replace hz := hid hz
   replace hnil0 := hid hnil0
   replace hI := hid hI
   replace h3 := hid h3
   go_enter Tryz.func67, Tryz.ntmps67
   go_wp2_with fail
   (with_reducible refine (h1.out).mono ?_)
   rintro e w1 ⟨rfl, hB1⟩
   have hR1 := hR.below hB1
   obtain ⟨dv, _, n0, _⟩ := hR1.cells ⟨_, hm⟩
   rw [hk] at n0
   have h2' := h2.out w1 hR1
   replace hR := hid hR
   replace hR1 := hid hR1
   replace hB1 := hid hB1
   replace h2' := hid h2'
   replace hk := hid hk
   go_wp2_with fail
   (with_reducible refine (h2'.out).mono ?_)
   rintro e w2 ⟨⟨v2, rfl, hS⟩, hB2⟩
   obtain ⟨oA, oc, ho, _, _⟩ := own_shape hS.own
   subst ho
   replace hS := hid hS
   replace hB2 := hid hB2
   go_wp2
   go_ret2
   exact ⟨⟨_, rfl, own_low hS.out.own hB1.out.size⟩, below_step hB1.out hB2.out⟩
  ·rw [if_neg hk]
   have hk2 : ((T.nd i).kind == 2) = false := by simpa using hk
   have hk3 : ((T.nd i).kind != 2) = true := by simpa using hk
   unfold ptr at *
   replace h1 := hid h1
   replace h2 := hid h2
   replace hz := hid hz
   replace hnil0 := hid hnil0
   replace hI := hid hI
   replace h3 := hid h3
   replace hk := hid hk
   go_enter Tryz.func67, Tryz.ntmps67
   go_wp2_with fail
   (with_reducible refine (h1.out).mono ?_)
   rintro e w1 ⟨rfl, hB1⟩
   have hR1 := hR.below hB1
   obtain ⟨dv, _, n0, _⟩ := hR1.cells ⟨_, hm⟩
   replace hR := hid hR
   replace hR1 := hid hR1
   replace hB1 := hid hB1
   go_wp2
   go_ret2
   exact ⟨⟨_, rfl, hnil0.out _ _⟩, hB1.out⟩
set_option maxHeartbeats 1000000 in
set_option maxRecDepth 100000 in
theorem rread_calls (s : ByteArray) (w : World) (hR : RRep w rb v A T) (hs : s.size ≤ 16777216) :
  Calls Tryz.prog 57 #[ptr rb, .string s] w fun e w' => (∃ v', e = .returned (.tuple #[v', .int .i64 (T.read (bl s)).2]) ∧ Byts w.heap.size w' v' (T.read (bl s)).1) ∧ Below w.heap.size w w' := by
 have hI := hR.inv
 have h1 := rfile_calls rb v A T s w hR hs
 have hnil0 : ∀ (B : Nat) (W : World), Byts B W (.slice none 0 0) [] := fun B W => ⟨rfl, Or.inl ⟨rfl, rfl⟩⟩
 unfold Fs.read
 unfold Fs.fileOk at h1
 by_cases hz : (T.file (bl s)).2 = 0
 ·rw [if_pos hz] at h1 ⊢
  rw [hz] at h1
  rcases file_there hI (bl s) with ⟨hz1, hfe⟩ | ⟨i, hz1, h3, hm, hrs, hfe⟩
  ·rw [hfe] at hz
   exact absurd hz hz1
  ·rw [hfe] at h1 ⊢
   dsimp only at h1 ⊢
   rw [optPtr_some] at h1
   have hdl := hI.data _ _ hm
   unfold ptr at *
   replace h1 := hid h1
   replace hz := hid hz
   replace hnil0 := hid hnil0
   replace hI := hid hI
   replace h3 := hid h3
   replace hfe := hid hfe
   replace hz1 := hid hz1
   go_enter Tryz.func57, Tryz.ntmps57
   go_wp2_with fail
   (with_reducible refine (h1.out).mono ?_)
   rintro e w1 ⟨rfl, hB1⟩
   have hR1 := hR.below hB1
   have hB2 := below_alloc hB1 (.cells #[] 5)
   have hB12 := (Below.refl w1.heap.size w1).alloc (Nat.le_refl _) (.cells #[] 5)
   have hR2 := hR1.below hB12
   obtain ⟨dv, hd, _, _, n2, _⟩ := hR2.cells ⟨_, hm⟩
   have hown := own_made w1 w1.heap.size 5 1 0 [] (Nat.le_refl _) rfl (by simp [maxLen])
   obtain ⟨dA, dc, rfl, hd1, hd2⟩ := hd.shape
   have hsrc := hd.rdb.src
   generalize hD : (T.nd i).data = D at *
   replace hD := hid hD
   replace hR := hid hR
   replace hR1 := hid hR1
   replace hR2 := hid hR2
   replace hB1 := hid hB1
   replace hB2 := hid hB2
   replace hB12 := hid hB12
   replace hd := hid hd
   replace hown := hid hown
   replace hsrc := hid hsrc
   go_wp2_with (at_builtin; refine wp_append_any w1.heap.size rfl (.tmp 17) (.tmp 21) 39 5 rfl Tryz.underlying39 (.int .u8 0) 1 1 info_u8 rfl (by decide) (.slice (some ⟨w1.heap.size, 0, none⟩) 0 0) 0 [] rfl (.slice dA D.length dc) D.length (byteCells D) rfl hsrc.out hown.out ?_ ?_ ?_ (by simp) ?_)
   ·simp [byteCells, Value.oneCell']
   ·simp only [maxLen]; omega
   ·omega
   ·intro v1 w3 g1 hg hat
    have hS3 : Byts w1.heap.size w3 v1 D := by
     unfold Byts
     simpa using g1
    have hB3 : Below w1.heap.size w1 w3 := hB12.out.grown hg (by simp) (own_base hown.out)
    obtain ⟨oA, oc, ho, _, _⟩ := own_shape hS3.own
    subst ho
    replace hS3 := hid hS3
    replace hB3 := hid hB3
    clear g1 hg hat
    go_wp2
    go_ret2
    exact ⟨⟨.slice oA D.length oc, rfl, by rw [hD.out]; exact own_low hS3.out.own hB1.out.size⟩, below_step hB1.out hB3.out⟩
 ·rw [if_neg hz] at h1 ⊢
  dsimp only
  have he2 : ((T.file (bl s)).2 == 0) = false := by simpa using hz
  have he3 : ((T.file (bl s)).2 != 0) = true := by simpa using hz
  generalize (T.file (bl s)).2 = e at *
  rw [optPtr_none] at h1
  unfold ptr at *
  replace h1 := hid h1
  replace hR := hid hR
  replace hz := hid hz
  replace hnil0 := hid hnil0
  replace hI := hid hI
  go_enter Tryz.func57, Tryz.ntmps57
  go_wp2_with fail
  (with_reducible refine (h1.out).mono ?_)
  rintro e w1 ⟨rfl, hB⟩
  replace hB := hid hB
  go_wp2
  go_ret2
  exact ⟨⟨_, rfl, hnil0.out _ _⟩, hB.out⟩
set_option maxHeartbeats 4000000 in
set_option maxRecDepth 100000 in
theorem rstat_calls (s : ByteArray) (w : World) (hR : RRep w rb v A T) (hs : s.size ≤ 16777216) (hf : T.names.length ≤ 1000000) :
  Calls Tryz.prog 64 #[ptr rb, .string s] w fun e w' => e = .returned (.tuple #[statV (T.stat (bl s)).1, .int .i64 (T.stat (bl s)).2]) ∧ Below w.heap.size w w' := by
 have hI := hR.inv
 have hB0 : ∀ C, Below w.heap.size w (w.alloc (.cells C 84)) := fun C => (Below.refl _ _).alloc (Nat.le_refl _) _
 have hsz : ∀ o, (w.alloc o).heap.size = w.heap.size + 1 := fun o => by simp
 have h1 := fun W hW => rthere_calls rb v A T s W hW hs
 have h4 := fun W hW => rnames_calls rb v A T s W hW hs hf
 have h5 := fun W hW => rin_calls rb v A T s W hW hf
 unfold Fs.stat
 rcases file_there hI (bl s) with ⟨hz, _⟩ | ⟨i, hz, h3, hm, hrs, _⟩
 ·rw [if_neg hz]
  unfold statV statCells noSt noMt
  dsimp only
  have he2 : ((T.there (bl s)).2.2 == 0) = false := by simpa using hz
  have he3 : ((T.there (bl s)).2.2 != 0) = true := by simpa using hz
  generalize (T.there (bl s)).2.2 = e at *
  generalize (T.there (bl s)).1 = n at *
  have hn : ∃ a, optPtr A n = .pointer a := by cases n <;> exact ⟨_, rfl⟩
  obtain ⟨a, hn⟩ := hn
  simp only [hn] at h1
  unfold ptr at *
  replace h1 := hid h1
  replace h4 := hid h4
  replace h5 := hid h5
  replace hz := hid hz
  replace hn := hid hn
  replace hI := hid hI
  replace hsz := hid hsz
  go_enter Tryz.func64, Tryz.ntmps64
  go_wp2_with fail
  (with_reducible refine (h1.out _ (hR.below (hB0 _))).mono ?_)
  rintro e w1 ⟨rfl, hB1⟩
  have hblk := (hB1.block w.heap.size (by rw [hsz.out]; omega)).trans (MapKept.heap_alloc w _).1
  have hBf := below_step (hB0 _) hB1
  have hsz2 := hB1.size
  rw [hsz.out] at hsz2
  clear hB0 hB1
  have hfz : ∀ k, w1.frozen? ⟨w.heap.size, k, none⟩ = false := fun k => by simp [World.frozen?, hblk]
  have d0 := cell_of (j := 0) hblk rfl
  have d1 := cell_of (j := 1) hblk rfl
  have d2 := cell_of (j := 2) hblk rfl
  have d3 := cell_of (j := 3) hblk rfl
  have d4 := cell_of (j := 4) hblk rfl
  have d5 := cell_of (j := 5) hblk rfl
  have d6 := cell_of (j := 6) hblk rfl
  have d7 := cell_of (j := 7) hblk rfl
  have d8 := cell_of (j := 8) hblk rfl
  have d9 := cell_of (j := 9) hblk rfl
  replace hblk := hid hblk
  replace hR := hid hR
  go_wp2
  refine bodyPost_ret (v := .tuple #[.agg #[.int .i64 0, .int .i64 0, .int .i64 0, .int .i64 0, .int .i64 0, .int .i64 0, .int .i64 0, .int .i64 0, .int .i64 0, .string (mkS [])], .int .i64 e]) ?_ rfl ⟨rfl, ?_⟩
  ·rw [results_cell_tmp rfl]
   go_simp
   rfl
  ·iterate 10 refine below_set ?_
   exact hBf
 ·simp only [hz, h3, optPtr_some] at h1
  rw [if_pos hz, h3]
  unfold statV statCells Fs.tell
  dsimp only
  have hsize := data_file hI hm
  have hki := hI.kinds _ _ hm
  have hlk1 := fun h => links_one hI hm h
  have hlk2 := fun h => links_names hI hrs hm h
  have hdl := hI.data _ _ hm
  have htl := (hI.plain _ _ hm).2.2
  unfold ptr at *
  replace h1 := hid h1
  replace h4 := hid h4
  replace h5 := hid h5
  replace hz := hid hz
  replace hI := hid hI
  replace hsz := hid hsz
  replace hlk1 := hid hlk1
  replace hlk2 := hid hlk2
  replace h3 := hid h3
  replace hsize := hid hsize
  go_enter Tryz.func64, Tryz.ntmps64
  go_wp2_with fail
  (with_reducible refine (h1.out _ (hR.below (hB0 _))).mono ?_)
  rintro e w1 ⟨rfl, hB1⟩
  have hR1 := (hR.below (hB0 _)).below hB1
  have hblk := (hB1.block w.heap.size (by rw [hsz.out]; omega)).trans (MapKept.heap_alloc w _).1
  have hBf := below_step (hB0 _) hB1
  have hsz2 := hB1.size
  rw [hsz.out] at hsz2
  obtain ⟨dv, hd, n0, n1, n2, n3, n4, n5, n6, n7, n8⟩ := hR1.cells ⟨_, hm⟩
  obtain ⟨dA, dc, rfl, hd1, hd2⟩ := hd.shape
  unfold maxLen at hd2
  have hai : A i < w1.heap.size := cell_lt n0
  clear hB0 hB1
  replace hblk := hid hblk
  replace hBf := hid hBf
  replace hR1 := hid hR1
  replace hd := hid hd
  go_upto_region 4 with fail
  have hkeep : ∀ W, Below w1.heap.size w1 W → W.cell? ⟨A i, 0, none⟩ = some (.int .i64 (T.nd i).kind) ∧ W.cell? ⟨A i, 1, none⟩ = some (.int .i64 i) ∧ W.cell? ⟨A i, 2, none⟩ = some (.slice dA (T.nd i).data.length dc) ∧ W.cell? ⟨A i, 3, none⟩ = some (.string (mkS (T.nd i).target)) ∧ W.cell? ⟨A i, 4, none⟩ = some (.int .i64 (T.nd i).mt.mode) ∧ W.cell? ⟨A i, 5, none⟩ = some (.int .i64 (T.nd i).mt.sec) ∧ W.cell? ⟨A i, 6, none⟩ = some (.int .i64 (T.nd i).mt.nano) ∧ W.cell? ⟨A i, 7, none⟩ = some (.int .i64 (T.nd i).mt.uid) ∧ W.cell? ⟨A i, 8, none⟩ = some (.int .i64 (T.nd i).mt.gid) := fun W hW => by
   obtain ⟨_, _, g0, g1, g2, g3, g4, g5, g6, g7, g8⟩ := (hR1.out.below hW).cells ⟨_, hm⟩
   refine ⟨g0, g1, ?_, g3, g4, g5, g6, g7, g8⟩
   exact (hW.cell (cell_lt n2)).trans n2
  replace hkeep := hid hkeep
  go_region_held3 (fun W => W.cell? ⟨A i, 0, none⟩ = some (.int .i64 (T.nd i).kind) ∧ W.cell? ⟨A i, 1, none⟩ = some (.int .i64 i) ∧ W.cell? ⟨A i, 2, none⟩ = some (.slice dA (T.nd i).data.length dc) ∧ W.cell? ⟨A i, 3, none⟩ = some (.string (mkS (T.nd i).target)) ∧ W.cell? ⟨A i, 4, none⟩ = some (.int .i64 (T.nd i).mt.mode) ∧ W.cell? ⟨A i, 5, none⟩ = some (.int .i64 (T.nd i).mt.sec) ∧ W.cell? ⟨A i, 6, none⟩ = some (.int .i64 (T.nd i).mt.nano) ∧ W.cell? ⟨A i, 7, none⟩ = some (.int .i64 (T.nd i).mt.uid) ∧ W.cell? ⟨A i, 8, none⟩ = some (.int .i64 (T.nd i).mt.gid)) (first | exact hkeep.out _ (below_drewN (Below.refl _ _) 1) | exact hkeep.out _ (below_alloc (below_drewN (Below.refl _ _) 1) _)) (fail)
  rename_i hHeld
  clear hHeld hkeep n0 n1 n2 n3 n4 n5 n6 n7 n8
  have hB12 : Below w1.heap.size w1 (w1.alloc (.cells #[.int .i64 (T.nd i).kind, .int .i64 i, .int .i64 ((T.nd i).data.length : Int), .int .i64 1, .int .i64 (T.nd i).mt.mode, .int .i64 (T.nd i).mt.sec, .int .i64 (T.nd i).mt.nano, .int .i64 (T.nd i).mt.uid, .int .i64 (T.nd i).mt.gid, .string (mkS (T.nd i).target)] 84)).drew := below_drewN (below_alloc (Below.refl _ _) _) 1
  have hs2 : (w1.alloc (.cells #[.int .i64 (T.nd i).kind, .int .i64 i, .int .i64 ((T.nd i).data.length : Int), .int .i64 1, .int .i64 (T.nd i).mt.mode, .int .i64 (T.nd i).mt.sec, .int .i64 (T.nd i).mt.nano, .int .i64 (T.nd i).mt.uid, .int .i64 (T.nd i).mt.gid, .string (mkS (T.nd i).target)] 84)).drew.heap[w1.heap.size]? = some (.cells #[.int .i64 (T.nd i).kind, .int .i64 i, .int .i64 ((T.nd i).data.length : Int), .int .i64 1, .int .i64 (T.nd i).mt.mode, .int .i64 (T.nd i).mt.sec, .int .i64 (T.nd i).mt.nano, .int .i64 (T.nd i).mt.uid, .int .i64 (T.nd i).mt.gid, .string (mkS (T.nd i).target)] 84 (0, 0)) := (MapKept.heap_alloc w1 _).1
  have hR2 := hR1.out.below hB12
  have hblk2 := (hB12.block w.heap.size (by omega)).trans hblk.out
  have hBf2 := below_step hBf.out hB12
  have hne : A i ≠ w1.heap.size := by omega
  have hne2 : w.heap.size ≠ w1.heap.size := by omega
  obtain ⟨n1, hn1⟩ : ∃ x, x = w1.heap.size := ⟨_, rfl⟩
  generalize (w1.alloc (.cells #[.int .i64 (T.nd i).kind, .int .i64 i, .int .i64 ((T.nd i).data.length : Int), .int .i64 1, .int .i64 (T.nd i).mt.mode, .int .i64 (T.nd i).mt.sec, .int .i64 (T.nd i).mt.nano, .int .i64 (T.nd i).mt.uid, .int .i64 (T.nd i).mt.gid, .string (mkS (T.nd i).target)] 84)).drew = W2 at *
  rw [← hn1] at hs2 hne hne2
  rw [← hn1]
  have hlo : w.heap.size ≤ n1 := by omega
  replace hB12 := hid hB12
  replace hn1 := hid hn1
  replace hR1 := hid hR1
  replace hblk := hid hblk
  replace hBf := hid hBf
  clear hai hsz2
  rcases hki with hk | hk | hk
  ·have h4' := h4.out W2 hR2
   have hsz1 : T.size (split (bl s)) i = ((T.nd i).data.length : Int) := by rw [hsize.out, if_neg (by rw [hk]; decide), if_neg (by rw [hk]; decide)]
   have hlk := (hlk2.out hk).symm
   obtain ⟨_, _, c0, _⟩ := hR2.cells ⟨_, hm⟩
   rw [hk] at c0 hs2
   replace hR2 := hid hR2
   replace hs2 := hid hs2
   replace hblk2 := hid hblk2
   replace hBf2 := hid hBf2
   replace h4' := hid h4'
   replace hk := hid hk
   replace hsz1 := hid hsz1
   replace hlk := hid hlk
   go_wp2_with fail
   (with_reducible refine (h4'.out).mono ?_)
   rintro e w3 ⟨⟨nv, rfl, hS3⟩, hB3⟩
   obtain ⟨nA, nc, hnv, hnc1, hnc2⟩ := own_shape hS3.own
   subst hnv
   have hs3 := (hB3.block n1 (Array.getElem?_eq_some_iff.1 hs2.out).1).trans hs2.out
   have hblk3 := (hB3.block w.heap.size (Array.getElem?_eq_some_iff.1 hblk2.out).1).trans hblk2.out
   have hR3 := hR2.out.below hB3
   have hBf3 := below_step hBf2.out hB3
   have q3 := cell_of (j := 3) hs3 (v := .int .i64 1) rfl
   have hfq : w3.frozen? ⟨n1, 3, none⟩ = false := by simp [World.frozen?, hs3]
   replace hs3 := hid hs3
   replace hblk3 := hid hblk3
   replace hR3 := hid hR3
   replace hBf3 := hid hBf3
   clear h4' hB3 c0
   go_upto_region 7 with fail
   have hs4 : ((w3).setCell ⟨n1, 3, none⟩ (.int .i64 ((T.nameList (bl s)).length : Int))).heap[n1]? = some (.cells #[.int .i64 1, .int .i64 i, .int .i64 ((T.nd i).data.length : Int), .int .i64 ((T.nameList (bl s)).length : Int), .int .i64 (T.nd i).mt.mode, .int .i64 (T.nd i).mt.sec, .int .i64 (T.nd i).mt.nano, .int .i64 (T.nd i).mt.uid, .int .i64 (T.nd i).mt.gid, .string (mkS (T.nd i).target)] 84 (0, 0)) := heap_set_same hs3.out 3 _
   have hblk4 := (heap_set_other (w3) hne2 3 (.int .i64 ((T.nameList (bl s)).length : Int))).trans hblk3.out
   have hR4 := hR3.out.setCell hs3.out (by decide) (by decide) (by decide) (by decide) 3 (.int .i64 ((T.nameList (bl s)).length : Int))
   have hBf4 := hBf3.out.setCell (p := ⟨n1, 3, none⟩) hlo (.int .i64 ((T.nameList (bl s)).length : Int))
   generalize w3.setCell ⟨n1, 3, none⟩ (.int .i64 ((T.nameList (bl s)).length : Int)) = W4 at *
   obtain ⟨_, _, c0, _⟩ := hR4.cells ⟨_, hm⟩
   rw [hk.out] at c0
   have e0 := cell_of (j := 0) hblk4 rfl
   have e1 := cell_of (j := 1) hblk4 rfl
   have e2 := cell_of (j := 2) hblk4 rfl
   have e3 := cell_of (j := 3) hblk4 rfl
   have e4 := cell_of (j := 4) hblk4 rfl
   have e5 := cell_of (j := 5) hblk4 rfl
   have e6 := cell_of (j := 6) hblk4 rfl
   have e7 := cell_of (j := 7) hblk4 rfl
   have e8 := cell_of (j := 8) hblk4 rfl
   have e9 := cell_of (j := 9) hblk4 rfl
   have x0 := cell_of (j := 0) hs4 rfl
   have x1 := cell_of (j := 1) hs4 rfl
   have x2 := cell_of (j := 2) hs4 rfl
   have x3 := cell_of (j := 3) hs4 rfl
   have x4 := cell_of (j := 4) hs4 rfl
   have x5 := cell_of (j := 5) hs4 rfl
   have x6 := cell_of (j := 6) hs4 rfl
   have x7 := cell_of (j := 7) hs4 rfl
   have x8 := cell_of (j := 8) hs4 rfl
   have x9 := cell_of (j := 9) hs4 rfl
   have hfz : ∀ k, (W4).frozen? ⟨w.heap.size, k, none⟩ = false := fun k => by simp [World.frozen?, hblk4]
   clear hR4 q3 hfq
   replace hs4 := hid hs4
   replace hblk4 := hid hblk4
   replace hBf4 := hid hBf4
   go_wp2
   refine bodyPost_ret (v := .tuple #[.agg #[.int .i64 1, .int .i64 i, .int .i64 ((T.nd i).data.length : Int), .int .i64 ((T.nameList (bl s)).length : Int), .int .i64 (T.nd i).mt.mode, .int .i64 (T.nd i).mt.sec, .int .i64 (T.nd i).mt.nano, .int .i64 (T.nd i).mt.uid, .int .i64 (T.nd i).mt.gid, .string (mkS (T.nd i).target)], .int .i64 0]) ?_ rfl ⟨?_, ?_⟩
   ·rw [results_cell_tmp rfl]
    go_simp
   ·rw [hsz1.out, hlk.out, hk.out]
   ·iterate 10 refine below_set ?_
    exact hBf4.out
  ·have h5' := h5.out W2 hR2
   have hkl : (((sortB ((T.kids (split (bl s))).map (·.1))).length : Int)) = ((T.kids (split (bl s))).length : Int) := by rw [(sortB_perm _).length_eq, List.length_map]
   have hsz1 : T.size (split (bl s)) i = ((sortB ((T.kids (split (bl s))).map (·.1))).length : Int) := by rw [hsize.out, if_pos hk, hkl]
   have hlk := hlk1.out (by rw [hk]; decide)
   obtain ⟨_, _, c0, _⟩ := hR2.cells ⟨_, hm⟩
   rw [hk] at c0 hs2
   replace hR2 := hid hR2
   replace hs2 := hid hs2
   replace hblk2 := hid hblk2
   replace hBf2 := hid hBf2
   replace h5' := hid h5'
   replace hk := hid hk
   replace hsz1 := hid hsz1
   replace hlk := hid hlk
   replace hkl := hid hkl
   go_wp2_with fail
   (with_reducible refine (h5'.out).mono ?_)
   rintro e w3 ⟨⟨nv, rfl, hS3⟩, hB3⟩
   obtain ⟨nA, nc, hnv, hnc1, hnc2⟩ := own_shape hS3.own
   subst hnv
   have hs3 := (hB3.block n1 (Array.getElem?_eq_some_iff.1 hs2.out).1).trans hs2.out
   have hblk3 := (hB3.block w.heap.size (Array.getElem?_eq_some_iff.1 hblk2.out).1).trans hblk2.out
   have hR3 := hR2.out.below hB3
   have hBf3 := below_step hBf2.out hB3
   have q3 := cell_of (j := 2) hs3 (v := .int .i64 ((T.nd i).data.length : Int)) rfl
   have hfq : w3.frozen? ⟨n1, 2, none⟩ = false := by simp [World.frozen?, hs3]
   replace hs3 := hid hs3
   replace hblk3 := hid hblk3
   replace hR3 := hid hR3
   replace hBf3 := hid hBf3
   clear h5' hB3 c0
   go_upto_region 9 with fail
   have hs4 : ((w3).setCell ⟨n1, 2, none⟩ (.int .i64 ((sortB ((T.kids (split (bl s))).map (·.1))).length : Int))).heap[n1]? = some (.cells #[.int .i64 2, .int .i64 i, .int .i64 ((sortB ((T.kids (split (bl s))).map (·.1))).length : Int), .int .i64 1, .int .i64 (T.nd i).mt.mode, .int .i64 (T.nd i).mt.sec, .int .i64 (T.nd i).mt.nano, .int .i64 (T.nd i).mt.uid, .int .i64 (T.nd i).mt.gid, .string (mkS (T.nd i).target)] 84 (0, 0)) := heap_set_same hs3.out 2 _
   have hblk4 := (heap_set_other (w3) hne2 2 (.int .i64 ((sortB ((T.kids (split (bl s))).map (·.1))).length : Int))).trans hblk3.out
   have hR4 := hR3.out.setCell hs3.out (by decide) (by decide) (by decide) (by decide) 2 (.int .i64 ((sortB ((T.kids (split (bl s))).map (·.1))).length : Int))
   have hBf4 := hBf3.out.setCell (p := ⟨n1, 2, none⟩) hlo (.int .i64 ((sortB ((T.kids (split (bl s))).map (·.1))).length : Int))
   generalize w3.setCell ⟨n1, 2, none⟩ (.int .i64 ((sortB ((T.kids (split (bl s))).map (·.1))).length : Int)) = W4 at *
   obtain ⟨_, _, c0, _⟩ := hR4.cells ⟨_, hm⟩
   rw [hk.out] at c0
   have e0 := cell_of (j := 0) hblk4 rfl
   have e1 := cell_of (j := 1) hblk4 rfl
   have e2 := cell_of (j := 2) hblk4 rfl
   have e3 := cell_of (j := 3) hblk4 rfl
   have e4 := cell_of (j := 4) hblk4 rfl
   have e5 := cell_of (j := 5) hblk4 rfl
   have e6 := cell_of (j := 6) hblk4 rfl
   have e7 := cell_of (j := 7) hblk4 rfl
   have e8 := cell_of (j := 8) hblk4 rfl
   have e9 := cell_of (j := 9) hblk4 rfl
   have x0 := cell_of (j := 0) hs4 rfl
   have x1 := cell_of (j := 1) hs4 rfl
   have x2 := cell_of (j := 2) hs4 rfl
   have x3 := cell_of (j := 3) hs4 rfl
   have x4 := cell_of (j := 4) hs4 rfl
   have x5 := cell_of (j := 5) hs4 rfl
   have x6 := cell_of (j := 6) hs4 rfl
   have x7 := cell_of (j := 7) hs4 rfl
   have x8 := cell_of (j := 8) hs4 rfl
   have x9 := cell_of (j := 9) hs4 rfl
   have hfz : ∀ k, (W4).frozen? ⟨w.heap.size, k, none⟩ = false := fun k => by simp [World.frozen?, hblk4]
   clear hR4 q3 hfq
   replace hs4 := hid hs4
   replace hblk4 := hid hblk4
   replace hBf4 := hid hBf4
   go_wp2
   refine bodyPost_ret (v := .tuple #[.agg #[.int .i64 2, .int .i64 i, .int .i64 ((sortB ((T.kids (split (bl s))).map (·.1))).length : Int), .int .i64 1, .int .i64 (T.nd i).mt.mode, .int .i64 (T.nd i).mt.sec, .int .i64 (T.nd i).mt.nano, .int .i64 (T.nd i).mt.uid, .int .i64 (T.nd i).mt.gid, .string (mkS (T.nd i).target)], .int .i64 0]) ?_ rfl ⟨?_, ?_⟩
   ·rw [results_cell_tmp rfl]
    go_simp
   ·rw [hsz1.out, hlk.out, hk.out]
   ·iterate 10 refine below_set ?_
    exact hBf4.out
  ·have hsz1 : T.size (split (bl s)) i = ((T.nd i).target.length : Int) := by rw [hsize.out, if_neg (by rw [hk]; decide), if_pos hk]
   have hlk := hlk1.out (by rw [hk]; decide)
   obtain ⟨_, _, c0, _, _, c3, _⟩ := hR2.cells ⟨_, hm⟩
   rw [hk] at c0 hs2
   have q3 := cell_of (j := 2) hs2 (v := .int .i64 ((T.nd i).data.length : Int)) rfl
   have hfq : W2.frozen? ⟨n1, 2, none⟩ = false := by simp [World.frozen?, hs2]
   have hts := mkS_size (T.nd i).target
   replace hR2 := hid hR2
   replace hs2 := hid hs2
   replace hblk2 := hid hblk2
   replace hBf2 := hid hBf2
   replace hk := hid hk
   replace hsz1 := hid hsz1
   replace hlk := hid hlk
   go_upto_region 11 with fail
   have hs4 : ((W2).setCell ⟨n1, 2, none⟩ (.int .i64 ((T.nd i).target.length : Int))).heap[n1]? = some (.cells #[.int .i64 3, .int .i64 i, .int .i64 ((T.nd i).target.length : Int), .int .i64 1, .int .i64 (T.nd i).mt.mode, .int .i64 (T.nd i).mt.sec, .int .i64 (T.nd i).mt.nano, .int .i64 (T.nd i).mt.uid, .int .i64 (T.nd i).mt.gid, .string (mkS (T.nd i).target)] 84 (0, 0)) := heap_set_same hs2.out 2 _
   have hblk4 := (heap_set_other (W2) hne2 2 (.int .i64 ((T.nd i).target.length : Int))).trans hblk2.out
   have hR4 := hR2.out.setCell hs2.out (by decide) (by decide) (by decide) (by decide) 2 (.int .i64 ((T.nd i).target.length : Int))
   have hBf4 := hBf2.out.setCell (p := ⟨n1, 2, none⟩) hlo (.int .i64 ((T.nd i).target.length : Int))
   generalize W2.setCell ⟨n1, 2, none⟩ (.int .i64 ((T.nd i).target.length : Int)) = W4 at *
   have e0 := cell_of (j := 0) hblk4 rfl
   have e1 := cell_of (j := 1) hblk4 rfl
   have e2 := cell_of (j := 2) hblk4 rfl
   have e3 := cell_of (j := 3) hblk4 rfl
   have e4 := cell_of (j := 4) hblk4 rfl
   have e5 := cell_of (j := 5) hblk4 rfl
   have e6 := cell_of (j := 6) hblk4 rfl
   have e7 := cell_of (j := 7) hblk4 rfl
   have e8 := cell_of (j := 8) hblk4 rfl
   have e9 := cell_of (j := 9) hblk4 rfl
   have x0 := cell_of (j := 0) hs4 rfl
   have x1 := cell_of (j := 1) hs4 rfl
   have x2 := cell_of (j := 2) hs4 rfl
   have x3 := cell_of (j := 3) hs4 rfl
   have x4 := cell_of (j := 4) hs4 rfl
   have x5 := cell_of (j := 5) hs4 rfl
   have x6 := cell_of (j := 6) hs4 rfl
   have x7 := cell_of (j := 7) hs4 rfl
   have x8 := cell_of (j := 8) hs4 rfl
   have x9 := cell_of (j := 9) hs4 rfl
   have hfz : ∀ k, (W4).frozen? ⟨w.heap.size, k, none⟩ = false := fun k => by simp [World.frozen?, hblk4]
   clear hR4 q3 hfq c0 c3
   replace hs4 := hid hs4
   replace hblk4 := hid hblk4
   replace hBf4 := hid hBf4
   go_wp2
   refine bodyPost_ret (v := .tuple #[.agg #[.int .i64 3, .int .i64 i, .int .i64 ((T.nd i).target.length : Int), .int .i64 1, .int .i64 (T.nd i).mt.mode, .int .i64 (T.nd i).mt.sec, .int .i64 (T.nd i).mt.nano, .int .i64 (T.nd i).mt.uid, .int .i64 (T.nd i).mt.gid, .string (mkS (T.nd i).target)], .int .i64 0]) ?_ rfl ⟨?_, ?_⟩
   ·rw [results_cell_tmp rfl]
    go_simp
   ·rw [hsz1.out, hlk.out, hk.out]
   ·iterate 10 refine below_set ?_
    exact hBf4.out
end
end Go.Proofs.YtcjlfkklpghjbaaGreat

namespace Go.Proofs.YtcjlfkklpghjbaaGreat
open Go.RowKit
theorem results_cell_tmp2 {fn : Func} {p u x : Tmp} {ty : TypeId} (h : fn.results = #[.cell p ty, .tmp u, .tmp x]) (tmps : Array Value) (P : Program) (w : World) :
  (results fn tmps).run P w = ((asAddr (tmps.getD p undef)).run P w).andThen fun a w₁ => ((loadVar ty a).run P w₁).andThen fun v w₂ => .ok (.tuple #[v, tmps.getD u undef, tmps.getD x undef]) w₂ := by
 simp only [results, h]
 simp [Sem.run_bind, Result.andThen]
theorem below_set4 {b : Nat} {a w : World} {k : Nat} {u : Value} (h : Below b a w) : Below b a (w.setCell ⟨b, k, none⟩ u) := h.setCell (Nat.le_refl b) u
def stand (s : St) (e : Int) : Value := .tuple #[statV s, .bool (decide (e = 0)), .int .i64 (if e = 10 ∨ e = 12 then 0 else e)]
theorem standing_v (T : Fs) (p : Bytes) : stand (T.stat p).1 (T.stat p).2 = .tuple #[statV (T.standing p).1, .bool (T.standing p).2.1, .int .i64 (T.standing p).2.2] := by
 unfold stand Fs.standing
 by_cases h : (T.stat p).2 = 10 ∨ (T.stat p).2 = 12
 ·rw [if_pos h, if_pos h]
  have : decide ((T.stat p).2 = 0) = false := by simp; omega
  rw [this]
 ·rw [if_neg h, if_neg h]
set_option maxHeartbeats 4000000 in
set_option maxRecDepth 100000 in
theorem restat_of (tb : Nat) (p : Bytes) (s : St) (e : Int) (w : World) (hst : ∀ W, Below w.heap.size w W → Calls Tryz.prog 63 #[ptr tb, .string (mkS p)] W fun r w' => r = .returned (.tuple #[statV s, .int .i64 e]) ∧ Below W.heap.size W w') :
  Calls Tryz.prog 99 #[ptr tb, .string (mkS p)] w fun r w' => r = .returned (stand s e) ∧ Below w.heap.size w w' := by
 by_cases h10 : e = 10
 ·subst h10
  have hB0 := below_alloc (Below.refl w.heap.size w) (.cells #[.int .i64 0, .int .i64 0, .int .i64 0, .int .i64 0, .int .i64 0, .int .i64 0, .int .i64 0, .int .i64 0, .int .i64 0, .string ⟨#[]⟩] 84)
  have hb0 := heap_alloc_new w (.cells #[.int .i64 0, .int .i64 0, .int .i64 0, .int .i64 0, .int .i64 0, .int .i64 0, .int .i64 0, .int .i64 0, .int .i64 0, .string ⟨#[]⟩] 84)
  have h1 := hst _ hB0
  try unfold stand
  obtain ⟨k, i, z, l, ⟨m1, m2, m3, m4, m5⟩, t⟩ := s
  unfold statV statCells at *
  dsimp only at *
  unfold ptr at *
  replace hB0 := hid hB0
  replace hb0 := hid hb0
  replace h1 := hid h1
  clear hst
  go_enter Tryz.func99, Tryz.ntmps99
  go_wp2_with fail
  (with_reducible refine (h1.out).mono ?_)
  rintro e w1 ⟨rfl, hB1⟩
  have hb1 := (hB1.block _ (Array.getElem?_eq_some_iff.1 hb0.out).1).trans hb0.out
  have hlt := (Array.getElem?_eq_some_iff.1 hb1).1
  have hB01 := hB0.out.trans (hB1.mono hB0.out.size)
  have hB2 := below_alloc hB01 (.cells #[.int .i64 k, .int .i64 i, .int .i64 z, .int .i64 l, .int .i64 m1, .int .i64 m2, .int .i64 m3, .int .i64 m4, .int .i64 m5, .string (mkS t)] 84)
  have hB12 := below_alloc (Below.refl _ w1) (.cells #[.int .i64 k, .int .i64 i, .int .i64 z, .int .i64 l, .int .i64 m1, .int .i64 m2, .int .i64 m3, .int .i64 m4, .int .i64 m5, .string (mkS t)] 84)
  have hb2 := (hB12.block _ hlt).trans hb1
  have hb3 := heap_alloc_new w1 (.cells #[.int .i64 k, .int .i64 i, .int .i64 z, .int .i64 l, .int .i64 m1, .int .i64 m2, .int .i64 m3, .int .i64 m4, .int .i64 m5, .string (mkS t)] 84)
  clear hB1 hB0 hb0 h1 hb1 hB01 hB12
  have d0 := cell_of (j := 0) hb2 rfl
  have d1 := cell_of (j := 1) hb2 rfl
  have d2 := cell_of (j := 2) hb2 rfl
  have d3 := cell_of (j := 3) hb2 rfl
  have d4 := cell_of (j := 4) hb2 rfl
  have d5 := cell_of (j := 5) hb2 rfl
  have d6 := cell_of (j := 6) hb2 rfl
  have d7 := cell_of (j := 7) hb2 rfl
  have d8 := cell_of (j := 8) hb2 rfl
  have d9 := cell_of (j := 9) hb2 rfl
  have x0 := cell_of (j := 0) hb3 rfl
  have x1 := cell_of (j := 1) hb3 rfl
  have x2 := cell_of (j := 2) hb3 rfl
  have x3 := cell_of (j := 3) hb3 rfl
  have x4 := cell_of (j := 4) hb3 rfl
  have x5 := cell_of (j := 5) hb3 rfl
  have x6 := cell_of (j := 6) hb3 rfl
  have x7 := cell_of (j := 7) hb3 rfl
  have x8 := cell_of (j := 8) hb3 rfl
  have x9 := cell_of (j := 9) hb3 rfl
  have hfz : ∀ j : Nat, (w1.alloc (.cells #[.int .i64 k, .int .i64 i, .int .i64 z, .int .i64 l, .int .i64 m1, .int .i64 m2, .int .i64 m3, .int .i64 m4, .int .i64 m5, .string (mkS t)] 84)).frozen? ⟨w.heap.size, j, none⟩ = false := fun j => by simp [World.frozen?, hb2]
  have hne : w1.heap.size ≠ w.heap.size := by omega
  replace hB2 := hid hB2
  replace hb2 := hid hb2
  replace hb3 := hid hb3
  go_upto_region 2 with fail
  generalize (w1.alloc (.cells #[.int .i64 k, .int .i64 i, .int .i64 z, .int .i64 l, .int .i64 m1, .int .i64 m2, .int .i64 m3, .int .i64 m4, .int .i64 m5, .string (mkS t)] 84)) = W at *
  generalize w1.heap.size = n1 at *
  have hne2 : w.heap.size ≠ n1 := fun e => hne e.symm
  go_wp2
  refine bodyPost_ret (v := .tuple #[(.agg #[.int .i64 k, .int .i64 i, .int .i64 z, .int .i64 l, .int .i64 m1, .int .i64 m2, .int .i64 m3, .int .i64 m4, .int .i64 m5, .string (mkS t)]), .bool false, .int .i64 0]) ?_ rfl ⟨rfl, ?_⟩
  ·rw [results_cell_tmp2 rfl]
   go_simp
  ·iterate 10 refine below_set4 ?_
   exact hB2.out
 ·by_cases h12 : e = 12
  ·subst h12
   have hB0 := below_alloc (Below.refl w.heap.size w) (.cells #[.int .i64 0, .int .i64 0, .int .i64 0, .int .i64 0, .int .i64 0, .int .i64 0, .int .i64 0, .int .i64 0, .int .i64 0, .string ⟨#[]⟩] 84)
   have hb0 := heap_alloc_new w (.cells #[.int .i64 0, .int .i64 0, .int .i64 0, .int .i64 0, .int .i64 0, .int .i64 0, .int .i64 0, .int .i64 0, .int .i64 0, .string ⟨#[]⟩] 84)
   have h1 := hst _ hB0
   try unfold stand
   obtain ⟨k, i, z, l, ⟨m1, m2, m3, m4, m5⟩, t⟩ := s
   unfold statV statCells at *
   dsimp only at *
   unfold ptr at *
   replace hB0 := hid hB0
   replace hb0 := hid hb0
   replace h1 := hid h1
   clear hst
   go_enter Tryz.func99, Tryz.ntmps99
   go_wp2_with fail
   (with_reducible refine (h1.out).mono ?_)
   rintro e w1 ⟨rfl, hB1⟩
   have hb1 := (hB1.block _ (Array.getElem?_eq_some_iff.1 hb0.out).1).trans hb0.out
   have hlt := (Array.getElem?_eq_some_iff.1 hb1).1
   have hB01 := hB0.out.trans (hB1.mono hB0.out.size)
   have hB2 := below_alloc hB01 (.cells #[.int .i64 k, .int .i64 i, .int .i64 z, .int .i64 l, .int .i64 m1, .int .i64 m2, .int .i64 m3, .int .i64 m4, .int .i64 m5, .string (mkS t)] 84)
   have hB12 := below_alloc (Below.refl _ w1) (.cells #[.int .i64 k, .int .i64 i, .int .i64 z, .int .i64 l, .int .i64 m1, .int .i64 m2, .int .i64 m3, .int .i64 m4, .int .i64 m5, .string (mkS t)] 84)
   have hb2 := (hB12.block _ hlt).trans hb1
   have hb3 := heap_alloc_new w1 (.cells #[.int .i64 k, .int .i64 i, .int .i64 z, .int .i64 l, .int .i64 m1, .int .i64 m2, .int .i64 m3, .int .i64 m4, .int .i64 m5, .string (mkS t)] 84)
   clear hB1 hB0 hb0 h1 hb1 hB01 hB12
   have d0 := cell_of (j := 0) hb2 rfl
   have d1 := cell_of (j := 1) hb2 rfl
   have d2 := cell_of (j := 2) hb2 rfl
   have d3 := cell_of (j := 3) hb2 rfl
   have d4 := cell_of (j := 4) hb2 rfl
   have d5 := cell_of (j := 5) hb2 rfl
   have d6 := cell_of (j := 6) hb2 rfl
   have d7 := cell_of (j := 7) hb2 rfl
   have d8 := cell_of (j := 8) hb2 rfl
   have d9 := cell_of (j := 9) hb2 rfl
   have x0 := cell_of (j := 0) hb3 rfl
   have x1 := cell_of (j := 1) hb3 rfl
   have x2 := cell_of (j := 2) hb3 rfl
   have x3 := cell_of (j := 3) hb3 rfl
   have x4 := cell_of (j := 4) hb3 rfl
   have x5 := cell_of (j := 5) hb3 rfl
   have x6 := cell_of (j := 6) hb3 rfl
   have x7 := cell_of (j := 7) hb3 rfl
   have x8 := cell_of (j := 8) hb3 rfl
   have x9 := cell_of (j := 9) hb3 rfl
   have hfz : ∀ j : Nat, (w1.alloc (.cells #[.int .i64 k, .int .i64 i, .int .i64 z, .int .i64 l, .int .i64 m1, .int .i64 m2, .int .i64 m3, .int .i64 m4, .int .i64 m5, .string (mkS t)] 84)).frozen? ⟨w.heap.size, j, none⟩ = false := fun j => by simp [World.frozen?, hb2]
   have hne : w1.heap.size ≠ w.heap.size := by omega
   replace hB2 := hid hB2
   replace hb2 := hid hb2
   replace hb3 := hid hb3
   go_upto_region 2 with fail
   generalize (w1.alloc (.cells #[.int .i64 k, .int .i64 i, .int .i64 z, .int .i64 l, .int .i64 m1, .int .i64 m2, .int .i64 m3, .int .i64 m4, .int .i64 m5, .string (mkS t)] 84)) = W at *
   generalize w1.heap.size = n1 at *
   have hne2 : w.heap.size ≠ n1 := fun e => hne e.symm
   go_wp2
   refine bodyPost_ret (v := .tuple #[(.agg #[.int .i64 k, .int .i64 i, .int .i64 z, .int .i64 l, .int .i64 m1, .int .i64 m2, .int .i64 m3, .int .i64 m4, .int .i64 m5, .string (mkS t)]), .bool false, .int .i64 0]) ?_ rfl ⟨rfl, ?_⟩
   ·rw [results_cell_tmp2 rfl]
    go_simp
   ·iterate 10 refine below_set4 ?_
    exact hB2.out
  ·have t1 : (e == 10) = false := by simpa using h10
   have t2 : (e == 12) = false := by simpa using h12
   have t3 : (if e = 10 ∨ e = 12 then (0 : Int) else e) = e := if_neg (by omega)
   have t4 : (e == 0) = decide (e = 0) := by rw [Bool.eq_iff_iff]; simp
   generalize hq : decide (e = 0) = q at *
   have t5 : stand s e = .tuple #[statV s, .bool q, .int .i64 e] := by unfold stand; rw [hq, t3]
   rw [t5]
   clear t5
   replace h10 := hid h10
   replace h12 := hid h12
   replace t3 := hid t3
   replace hq := hid hq
   have hB0 := below_alloc (Below.refl w.heap.size w) (.cells #[.int .i64 0, .int .i64 0, .int .i64 0, .int .i64 0, .int .i64 0, .int .i64 0, .int .i64 0, .int .i64 0, .int .i64 0, .string ⟨#[]⟩] 84)
   have hb0 := heap_alloc_new w (.cells #[.int .i64 0, .int .i64 0, .int .i64 0, .int .i64 0, .int .i64 0, .int .i64 0, .int .i64 0, .int .i64 0, .int .i64 0, .string ⟨#[]⟩] 84)
   have h1 := hst _ hB0
   try unfold stand
   obtain ⟨k, i, z, l, ⟨m1, m2, m3, m4, m5⟩, t⟩ := s
   unfold statV statCells at *
   dsimp only at *
   unfold ptr at *
   replace hB0 := hid hB0
   replace hb0 := hid hb0
   replace h1 := hid h1
   clear hst
   go_enter Tryz.func99, Tryz.ntmps99
   go_wp2_with fail
   (with_reducible refine (h1.out).mono ?_)
   rintro e w1 ⟨rfl, hB1⟩
   have hb1 := (hB1.block _ (Array.getElem?_eq_some_iff.1 hb0.out).1).trans hb0.out
   have hlt := (Array.getElem?_eq_some_iff.1 hb1).1
   have hB01 := hB0.out.trans (hB1.mono hB0.out.size)
   have hB2 := below_alloc hB01 (.cells #[.int .i64 k, .int .i64 i, .int .i64 z, .int .i64 l, .int .i64 m1, .int .i64 m2, .int .i64 m3, .int .i64 m4, .int .i64 m5, .string (mkS t)] 84)
   have hB12 := below_alloc (Below.refl _ w1) (.cells #[.int .i64 k, .int .i64 i, .int .i64 z, .int .i64 l, .int .i64 m1, .int .i64 m2, .int .i64 m3, .int .i64 m4, .int .i64 m5, .string (mkS t)] 84)
   have hb2 := (hB12.block _ hlt).trans hb1
   have hb3 := heap_alloc_new w1 (.cells #[.int .i64 k, .int .i64 i, .int .i64 z, .int .i64 l, .int .i64 m1, .int .i64 m2, .int .i64 m3, .int .i64 m4, .int .i64 m5, .string (mkS t)] 84)
   clear hB1 hB0 hb0 h1 hb1 hB01 hB12
   have d0 := cell_of (j := 0) hb2 rfl
   have d1 := cell_of (j := 1) hb2 rfl
   have d2 := cell_of (j := 2) hb2 rfl
   have d3 := cell_of (j := 3) hb2 rfl
   have d4 := cell_of (j := 4) hb2 rfl
   have d5 := cell_of (j := 5) hb2 rfl
   have d6 := cell_of (j := 6) hb2 rfl
   have d7 := cell_of (j := 7) hb2 rfl
   have d8 := cell_of (j := 8) hb2 rfl
   have d9 := cell_of (j := 9) hb2 rfl
   have x0 := cell_of (j := 0) hb3 rfl
   have x1 := cell_of (j := 1) hb3 rfl
   have x2 := cell_of (j := 2) hb3 rfl
   have x3 := cell_of (j := 3) hb3 rfl
   have x4 := cell_of (j := 4) hb3 rfl
   have x5 := cell_of (j := 5) hb3 rfl
   have x6 := cell_of (j := 6) hb3 rfl
   have x7 := cell_of (j := 7) hb3 rfl
   have x8 := cell_of (j := 8) hb3 rfl
   have x9 := cell_of (j := 9) hb3 rfl
   have hfz : ∀ j : Nat, (w1.alloc (.cells #[.int .i64 k, .int .i64 i, .int .i64 z, .int .i64 l, .int .i64 m1, .int .i64 m2, .int .i64 m3, .int .i64 m4, .int .i64 m5, .string (mkS t)] 84)).frozen? ⟨w.heap.size, j, none⟩ = false := fun j => by simp [World.frozen?, hb2]
   have hne : w1.heap.size ≠ w.heap.size := by omega
   replace hB2 := hid hB2
   replace hb2 := hid hb2
   replace hb3 := hid hb3
   go_upto_region 2 with fail
   generalize (w1.alloc (.cells #[.int .i64 k, .int .i64 i, .int .i64 z, .int .i64 l, .int .i64 m1, .int .i64 m2, .int .i64 m3, .int .i64 m4, .int .i64 m5, .string (mkS t)] 84)) = W at *
   generalize w1.heap.size = n1 at *
   have hne2 : w.heap.size ≠ n1 := fun e => hne e.symm
   go_wp2
   refine bodyPost_ret (v := .tuple #[(.agg #[.int .i64 k, .int .i64 i, .int .i64 z, .int .i64 l, .int .i64 m1, .int .i64 m2, .int .i64 m3, .int .i64 m4, .int .i64 m5, .string (mkS t)]), .bool q, .int .i64 e]) ?_ rfl ⟨?_, ?_⟩
   ·rw [results_cell_tmp2 rfl]
    go_simp
   ·rfl
   ·iterate 10 refine below_set4 ?_
    exact hB2.out
theorem restat_calls (tb : Nat) (A M : Nat → Nat) (T : Fs) (p : Bytes) (w : World) (hR : Rep w tb A M T) (hp : p.length ≤ 16777216) :
  Calls Tryz.prog 99 #[ptr tb, .string (mkS p)] w fun r w' => r = .returned (.tuple #[statV (T.standing p).1, .bool (T.standing p).2.1, .int .i64 (T.standing p).2.2]) ∧ Below w.heap.size w w' := by
 have h := restat_of tb p (T.stat p).1 (T.stat p).2 w (fun W hW => by
  have := stat_calls tb A M T (mkS p) W (hR.below hW) (by rw [mkS_size]; omega)
  rwa [bl_mkS] at this)
 rwa [standing_v] at h
end Go.Proofs.YtcjlfkklpghjbaaGreat

namespace Go.Proofs.YtcjlfkklpghjbaaGreat
open Go.RowKit
set_option linter.unusedSimpArgs false
set_option linter.unusedVariables false
theorem stand_no {e : Int} (h : e = 10 ∨ e = 12) : stand noSt e = .tuple #[(.agg #[.int .i64 0, .int .i64 0, .int .i64 0, .int .i64 0, .int .i64 0, .int .i64 0, .int .i64 0, .int .i64 0, .int .i64 0, .string ⟨#[]⟩]), .bool false, .int .i64 0] := by
 unfold stand
 rw [if_pos h]
 have : decide (e = 0) = false := by simp; omega
 rw [this]
 rfl
set_option maxHeartbeats 4000000 in
set_option maxRecDepth 100000 in
theorem rethere_of (tb : Nat) (p : Bytes) (s : St) (e : Int) (w : World) (hz : e ≠ 0 → s = noSt) (hst : ∀ W, Below w.heap.size w W → Calls Tryz.prog 64 #[ptr tb, .string (mkS p)] W fun r w' => r = .returned (.tuple #[statV s, .int .i64 e]) ∧ Below W.heap.size W w') :
  Calls Tryz.prog 56 #[ptr tb, .string (mkS p)] w fun r w' => r = .returned (stand s e) ∧ Below w.heap.size w w' := by
 by_cases h10 : e = 10
 ·have hs : stand s e = .tuple #[(.agg #[.int .i64 0, .int .i64 0, .int .i64 0, .int .i64 0, .int .i64 0, .int .i64 0, .int .i64 0, .int .i64 0, .int .i64 0, .string ⟨#[]⟩]), .bool false, .int .i64 0] := by rw [hz (by omega)]; exact stand_no (Or.inl h10)
  rw [hs]
  clear hs hz
  subst h10
  have hB0 := below_alloc (Below.refl w.heap.size w) (.cells #[.int .i64 0, .int .i64 0, .int .i64 0, .int .i64 0, .int .i64 0, .int .i64 0, .int .i64 0, .int .i64 0, .int .i64 0, .string ⟨#[]⟩] 84)
  have hb0 := heap_alloc_new w (.cells #[.int .i64 0, .int .i64 0, .int .i64 0, .int .i64 0, .int .i64 0, .int .i64 0, .int .i64 0, .int .i64 0, .int .i64 0, .string ⟨#[]⟩] 84)
  have h1 := hst _ hB0
  try unfold stand
  obtain ⟨k, i, z, l, ⟨m1, m2, m3, m4, m5⟩, t⟩ := s
  unfold statV statCells at *
  dsimp only at *
  unfold ptr at *
  replace hB0 := hid hB0
  replace hb0 := hid hb0
  replace h1 := hid h1
  clear hst
  go_enter Tryz.func56, Tryz.ntmps56
  go_wp2_with fail
  (with_reducible refine (h1.out).mono ?_)
  rintro e w1 ⟨rfl, hB1⟩
  have hb1 := (hB1.block _ (Array.getElem?_eq_some_iff.1 hb0.out).1).trans hb0.out
  have hlt := (Array.getElem?_eq_some_iff.1 hb1).1
  have hB01 := hB0.out.trans (hB1.mono hB0.out.size)
  have hB2 := below_alloc hB01 (.cells #[.int .i64 k, .int .i64 i, .int .i64 z, .int .i64 l, .int .i64 m1, .int .i64 m2, .int .i64 m3, .int .i64 m4, .int .i64 m5, .string (mkS t)] 84)
  have hB12 := below_alloc (Below.refl _ w1) (.cells #[.int .i64 k, .int .i64 i, .int .i64 z, .int .i64 l, .int .i64 m1, .int .i64 m2, .int .i64 m3, .int .i64 m4, .int .i64 m5, .string (mkS t)] 84)
  have hb2 := (hB12.block _ hlt).trans hb1
  have hb3 := heap_alloc_new w1 (.cells #[.int .i64 k, .int .i64 i, .int .i64 z, .int .i64 l, .int .i64 m1, .int .i64 m2, .int .i64 m3, .int .i64 m4, .int .i64 m5, .string (mkS t)] 84)
  clear hB1 hB0 hb0 h1 hb1 hB01 hB12
  have d0 := cell_of (j := 0) hb2 rfl
  have d1 := cell_of (j := 1) hb2 rfl
  have d2 := cell_of (j := 2) hb2 rfl
  have d3 := cell_of (j := 3) hb2 rfl
  have d4 := cell_of (j := 4) hb2 rfl
  have d5 := cell_of (j := 5) hb2 rfl
  have d6 := cell_of (j := 6) hb2 rfl
  have d7 := cell_of (j := 7) hb2 rfl
  have d8 := cell_of (j := 8) hb2 rfl
  have d9 := cell_of (j := 9) hb2 rfl
  have x0 := cell_of (j := 0) hb3 rfl
  have x1 := cell_of (j := 1) hb3 rfl
  have x2 := cell_of (j := 2) hb3 rfl
  have x3 := cell_of (j := 3) hb3 rfl
  have x4 := cell_of (j := 4) hb3 rfl
  have x5 := cell_of (j := 5) hb3 rfl
  have x6 := cell_of (j := 6) hb3 rfl
  have x7 := cell_of (j := 7) hb3 rfl
  have x8 := cell_of (j := 8) hb3 rfl
  have x9 := cell_of (j := 9) hb3 rfl
  have hfz : ∀ j : Nat, (w1.alloc (.cells #[.int .i64 k, .int .i64 i, .int .i64 z, .int .i64 l, .int .i64 m1, .int .i64 m2, .int .i64 m3, .int .i64 m4, .int .i64 m5, .string (mkS t)] 84)).frozen? ⟨w.heap.size, j, none⟩ = false := fun j => by simp [World.frozen?, hb2]
  have hne : w1.heap.size ≠ w.heap.size := by omega
  replace hB2 := hid hB2
  replace hb2 := hid hb2
  replace hb3 := hid hb3
  go_upto_region 2 with fail
  generalize (w1.alloc (.cells #[.int .i64 k, .int .i64 i, .int .i64 z, .int .i64 l, .int .i64 m1, .int .i64 m2, .int .i64 m3, .int .i64 m4, .int .i64 m5, .string (mkS t)] 84)) = W at *
  generalize w1.heap.size = n1 at *
  have hne2 : w.heap.size ≠ n1 := fun e => hne e.symm
  go_wp2
  refine bodyPost_ret (v := .tuple #[(.agg #[.int .i64 0, .int .i64 0, .int .i64 0, .int .i64 0, .int .i64 0, .int .i64 0, .int .i64 0, .int .i64 0, .int .i64 0, .string ⟨#[]⟩]), .bool false, .int .i64 0]) ?_ rfl ⟨rfl, ?_⟩
  ·rw [results_cell_tmp2 rfl]
   go_simp
  ·iterate 10 refine below_set4 ?_
   exact hB2.out
 ·by_cases h12 : e = 12
  ·have hs : stand s e = .tuple #[(.agg #[.int .i64 0, .int .i64 0, .int .i64 0, .int .i64 0, .int .i64 0, .int .i64 0, .int .i64 0, .int .i64 0, .int .i64 0, .string ⟨#[]⟩]), .bool false, .int .i64 0] := by rw [hz (by omega)]; exact stand_no (Or.inr h12)
   rw [hs]
   clear hs hz
   subst h12
   have hB0 := below_alloc (Below.refl w.heap.size w) (.cells #[.int .i64 0, .int .i64 0, .int .i64 0, .int .i64 0, .int .i64 0, .int .i64 0, .int .i64 0, .int .i64 0, .int .i64 0, .string ⟨#[]⟩] 84)
   have hb0 := heap_alloc_new w (.cells #[.int .i64 0, .int .i64 0, .int .i64 0, .int .i64 0, .int .i64 0, .int .i64 0, .int .i64 0, .int .i64 0, .int .i64 0, .string ⟨#[]⟩] 84)
   have h1 := hst _ hB0
   try unfold stand
   obtain ⟨k, i, z, l, ⟨m1, m2, m3, m4, m5⟩, t⟩ := s
   unfold statV statCells at *
   dsimp only at *
   unfold ptr at *
   replace hB0 := hid hB0
   replace hb0 := hid hb0
   replace h1 := hid h1
   clear hst
   go_enter Tryz.func56, Tryz.ntmps56
   go_wp2_with fail
   (with_reducible refine (h1.out).mono ?_)
   rintro e w1 ⟨rfl, hB1⟩
   have hb1 := (hB1.block _ (Array.getElem?_eq_some_iff.1 hb0.out).1).trans hb0.out
   have hlt := (Array.getElem?_eq_some_iff.1 hb1).1
   have hB01 := hB0.out.trans (hB1.mono hB0.out.size)
   have hB2 := below_alloc hB01 (.cells #[.int .i64 k, .int .i64 i, .int .i64 z, .int .i64 l, .int .i64 m1, .int .i64 m2, .int .i64 m3, .int .i64 m4, .int .i64 m5, .string (mkS t)] 84)
   have hB12 := below_alloc (Below.refl _ w1) (.cells #[.int .i64 k, .int .i64 i, .int .i64 z, .int .i64 l, .int .i64 m1, .int .i64 m2, .int .i64 m3, .int .i64 m4, .int .i64 m5, .string (mkS t)] 84)
   have hb2 := (hB12.block _ hlt).trans hb1
   have hb3 := heap_alloc_new w1 (.cells #[.int .i64 k, .int .i64 i, .int .i64 z, .int .i64 l, .int .i64 m1, .int .i64 m2, .int .i64 m3, .int .i64 m4, .int .i64 m5, .string (mkS t)] 84)
   clear hB1 hB0 hb0 h1 hb1 hB01 hB12
   have d0 := cell_of (j := 0) hb2 rfl
   have d1 := cell_of (j := 1) hb2 rfl
   have d2 := cell_of (j := 2) hb2 rfl
   have d3 := cell_of (j := 3) hb2 rfl
   have d4 := cell_of (j := 4) hb2 rfl
   have d5 := cell_of (j := 5) hb2 rfl
   have d6 := cell_of (j := 6) hb2 rfl
   have d7 := cell_of (j := 7) hb2 rfl
   have d8 := cell_of (j := 8) hb2 rfl
   have d9 := cell_of (j := 9) hb2 rfl
   have x0 := cell_of (j := 0) hb3 rfl
   have x1 := cell_of (j := 1) hb3 rfl
   have x2 := cell_of (j := 2) hb3 rfl
   have x3 := cell_of (j := 3) hb3 rfl
   have x4 := cell_of (j := 4) hb3 rfl
   have x5 := cell_of (j := 5) hb3 rfl
   have x6 := cell_of (j := 6) hb3 rfl
   have x7 := cell_of (j := 7) hb3 rfl
   have x8 := cell_of (j := 8) hb3 rfl
   have x9 := cell_of (j := 9) hb3 rfl
   have hfz : ∀ j : Nat, (w1.alloc (.cells #[.int .i64 k, .int .i64 i, .int .i64 z, .int .i64 l, .int .i64 m1, .int .i64 m2, .int .i64 m3, .int .i64 m4, .int .i64 m5, .string (mkS t)] 84)).frozen? ⟨w.heap.size, j, none⟩ = false := fun j => by simp [World.frozen?, hb2]
   have hne : w1.heap.size ≠ w.heap.size := by omega
   replace hB2 := hid hB2
   replace hb2 := hid hb2
   replace hb3 := hid hb3
   go_upto_region 2 with fail
   generalize (w1.alloc (.cells #[.int .i64 k, .int .i64 i, .int .i64 z, .int .i64 l, .int .i64 m1, .int .i64 m2, .int .i64 m3, .int .i64 m4, .int .i64 m5, .string (mkS t)] 84)) = W at *
   generalize w1.heap.size = n1 at *
   have hne2 : w.heap.size ≠ n1 := fun e => hne e.symm
   go_wp2
   refine bodyPost_ret (v := .tuple #[(.agg #[.int .i64 0, .int .i64 0, .int .i64 0, .int .i64 0, .int .i64 0, .int .i64 0, .int .i64 0, .int .i64 0, .int .i64 0, .string ⟨#[]⟩]), .bool false, .int .i64 0]) ?_ rfl ⟨rfl, ?_⟩
   ·rw [results_cell_tmp2 rfl]
    go_simp
   ·iterate 10 refine below_set4 ?_
    exact hB2.out
  ·have t1 : (e == 10) = false := by simpa using h10
   have t2 : (e == 12) = false := by simpa using h12
   have t3 : (if e = 10 ∨ e = 12 then (0 : Int) else e) = e := if_neg (by omega)
   have t4 : (e == 0) = decide (e = 0) := by rw [Bool.eq_iff_iff]; simp
   generalize hq : decide (e = 0) = q at *
   have t5 : stand s e = .tuple #[statV s, .bool q, .int .i64 e] := by unfold stand; rw [hq, t3]
   rw [t5]
   clear t5 hz
   replace h10 := hid h10
   replace h12 := hid h12
   replace t3 := hid t3
   replace hq := hid hq
   have hB0 := below_alloc (Below.refl w.heap.size w) (.cells #[.int .i64 0, .int .i64 0, .int .i64 0, .int .i64 0, .int .i64 0, .int .i64 0, .int .i64 0, .int .i64 0, .int .i64 0, .string ⟨#[]⟩] 84)
   have hb0 := heap_alloc_new w (.cells #[.int .i64 0, .int .i64 0, .int .i64 0, .int .i64 0, .int .i64 0, .int .i64 0, .int .i64 0, .int .i64 0, .int .i64 0, .string ⟨#[]⟩] 84)
   have h1 := hst _ hB0
   try unfold stand
   obtain ⟨k, i, z, l, ⟨m1, m2, m3, m4, m5⟩, t⟩ := s
   unfold statV statCells at *
   dsimp only at *
   unfold ptr at *
   replace hB0 := hid hB0
   replace hb0 := hid hb0
   replace h1 := hid h1
   clear hst
   go_enter Tryz.func56, Tryz.ntmps56
   go_wp2_with fail
   (with_reducible refine (h1.out).mono ?_)
   rintro e w1 ⟨rfl, hB1⟩
   have hb1 := (hB1.block _ (Array.getElem?_eq_some_iff.1 hb0.out).1).trans hb0.out
   have hlt := (Array.getElem?_eq_some_iff.1 hb1).1
   have hB01 := hB0.out.trans (hB1.mono hB0.out.size)
   have hB2 := below_alloc hB01 (.cells #[.int .i64 k, .int .i64 i, .int .i64 z, .int .i64 l, .int .i64 m1, .int .i64 m2, .int .i64 m3, .int .i64 m4, .int .i64 m5, .string (mkS t)] 84)
   have hB12 := below_alloc (Below.refl _ w1) (.cells #[.int .i64 k, .int .i64 i, .int .i64 z, .int .i64 l, .int .i64 m1, .int .i64 m2, .int .i64 m3, .int .i64 m4, .int .i64 m5, .string (mkS t)] 84)
   have hb2 := (hB12.block _ hlt).trans hb1
   have hb3 := heap_alloc_new w1 (.cells #[.int .i64 k, .int .i64 i, .int .i64 z, .int .i64 l, .int .i64 m1, .int .i64 m2, .int .i64 m3, .int .i64 m4, .int .i64 m5, .string (mkS t)] 84)
   clear hB1 hB0 hb0 h1 hb1 hB01 hB12
   have d0 := cell_of (j := 0) hb2 rfl
   have d1 := cell_of (j := 1) hb2 rfl
   have d2 := cell_of (j := 2) hb2 rfl
   have d3 := cell_of (j := 3) hb2 rfl
   have d4 := cell_of (j := 4) hb2 rfl
   have d5 := cell_of (j := 5) hb2 rfl
   have d6 := cell_of (j := 6) hb2 rfl
   have d7 := cell_of (j := 7) hb2 rfl
   have d8 := cell_of (j := 8) hb2 rfl
   have d9 := cell_of (j := 9) hb2 rfl
   have x0 := cell_of (j := 0) hb3 rfl
   have x1 := cell_of (j := 1) hb3 rfl
   have x2 := cell_of (j := 2) hb3 rfl
   have x3 := cell_of (j := 3) hb3 rfl
   have x4 := cell_of (j := 4) hb3 rfl
   have x5 := cell_of (j := 5) hb3 rfl
   have x6 := cell_of (j := 6) hb3 rfl
   have x7 := cell_of (j := 7) hb3 rfl
   have x8 := cell_of (j := 8) hb3 rfl
   have x9 := cell_of (j := 9) hb3 rfl
   have hfz : ∀ j : Nat, (w1.alloc (.cells #[.int .i64 k, .int .i64 i, .int .i64 z, .int .i64 l, .int .i64 m1, .int .i64 m2, .int .i64 m3, .int .i64 m4, .int .i64 m5, .string (mkS t)] 84)).frozen? ⟨w.heap.size, j, none⟩ = false := fun j => by simp [World.frozen?, hb2]
   have hne : w1.heap.size ≠ w.heap.size := by omega
   replace hB2 := hid hB2
   replace hb2 := hid hb2
   replace hb3 := hid hb3
   go_upto_region 2 with fail
   generalize (w1.alloc (.cells #[.int .i64 k, .int .i64 i, .int .i64 z, .int .i64 l, .int .i64 m1, .int .i64 m2, .int .i64 m3, .int .i64 m4, .int .i64 m5, .string (mkS t)] 84)) = W at *
   generalize w1.heap.size = n1 at *
   have hne2 : w.heap.size ≠ n1 := fun e => hne e.symm
   go_wp2
   refine bodyPost_ret (v := .tuple #[(.agg #[.int .i64 k, .int .i64 i, .int .i64 z, .int .i64 l, .int .i64 m1, .int .i64 m2, .int .i64 m3, .int .i64 m4, .int .i64 m5, .string (mkS t)]), .bool q, .int .i64 e]) ?_ rfl ⟨?_, ?_⟩
   ·rw [results_cell_tmp2 rfl]
    go_simp
   ·rfl
   ·iterate 10 refine below_set4 ?_
    exact hB2.out
theorem rethere_calls (rb : Nat) (v : Value) (A : Nat → Nat) (T : Fs) (p : Bytes) (w : World) (hR : RRep w rb v A T) (hp : p.length ≤ 16777216) (hf : T.names.length ≤ 1000000) :
  Calls Tryz.prog 56 #[ptr rb, .string (mkS p)] w fun r w' => r = .returned (.tuple #[statV (T.standing p).1, .bool (T.standing p).2.1, .int .i64 (T.standing p).2.2]) ∧ Below w.heap.size w w' := by
 have h := rethere_of rb p (T.stat p).1 (T.stat p).2 w stat_err (fun W hW => by
  have := rstat_calls rb v A T (mkS p) W (hR.below hW) (by rw [mkS_size]; omega) hf
  rwa [bl_mkS] at this)
 rwa [standing_v] at h
end Go.Proofs.YtcjlfkklpghjbaaGreat

namespace Go.Proofs.YtcjlfkklpghjbaaGreat
open Go.RowKit
theorem read_len {T : Fs} (h : T.Inv) (s : Bytes) : (T.read s).1.length ≤ 65536 := by
 unfold Fs.read
 split
 ·split
  ·rename_i i hi
   unfold Fs.file at hi
   by_cases h0 : (T.there s).2.2 = 0
   ·rw [if_pos h0] at hi
    obtain ⟨_, j, hj, hm, _⟩ := h.there_ok h0
    rw [hj] at hi
    simp only [Option.some.injEq] at hi
    subst hi
    exact h.data _ _ hm
   ·rw [if_neg h0] at hi
    cases hi
  ·simp
 ·simp
end Go.Proofs.YtcjlfkklpghjbaaGreat

namespace Go.Proofs.YtcjlfkklpghjbaaGreat
open Go.RowKit
set_option maxHeartbeats 4000000 in
set_option maxRecDepth 100000 in
theorem reout_calls (gb tb : Nat) (A M B N : Nat → Nat) (G T : Fs) (p : Bytes) (w : World) (hG : Rep w gb A M G) (hT : Rep w tb B N T) (hp : p.length ≤ 16777216) (hf : T.names.length ≤ 1000000) :
  Calls Tryz.prog 53 #[ptr gb, ptr tb, .string (mkS p)] w fun e w' => e = .returned (.int .i64 (outF G T p).2) ∧ Stp w w' tb B N T (outF G T p).1 := by
 have h1 := restat_calls tb B N T p w hT hp
 have h2 := fun W hW => restat_calls gb A M G p W hW hp
 have h3 := fun W hW => remove_calls tb B N T (mkS p) W hW (by rw [mkS_size]; omega) hf
 simp only [bl_mkS] at h3
 unfold outF
 generalize T.remove p = r at *
 generalize T.standing p = x at *
 generalize G.standing p = y at *
 obtain ⟨⟨k1, i1, z1, l1, ⟨a1, a2, a3, a4, a5⟩, t1⟩, u1, e1⟩ := x
 obtain ⟨⟨k2, i2, z2, l2, ⟨b1, b2, b3, b4, b5⟩, t2⟩, u2, e2⟩ := y
 unfold statV statCells at *
 dsimp only at *
 unfold ptr at *
 replace h1 := hid h1
 replace h2 := hid h2
 replace h3 := hid h3
 replace hG := hid hG
 replace hT := hid hT
 by_cases he1 : e1 = 0
 ·subst he1
  cases u1 with
  | false =>
   rw [if_pos (by simp)]
   go_enter Tryz.func53, Tryz.ntmps53
   go_wp2_with fail
   (with_reducible refine (h1.out).mono ?_)
   rintro e w1 ⟨rfl, hB1⟩
   have hb1 := heap_alloc_new w1 (.cells #[.int .i64 k1, .int .i64 i1, .int .i64 z1, .int .i64 l1, .int .i64 a1, .int .i64 a2, .int .i64 a3, .int .i64 a4, .int .i64 a5, .string (mkS t1)] 84)
   have hB2 := below_alloc hB1 (.cells #[.int .i64 k1, .int .i64 i1, .int .i64 z1, .int .i64 l1, .int .i64 a1, .int .i64 a2, .int .i64 a3, .int .i64 a4, .int .i64 a5, .string (mkS t1)] 84)
   replace hb1 := hid hb1
   replace hB2 := hid hB2
   clear hB1
   go_upto_region 2 with fail
   generalize (w1.alloc (.cells #[.int .i64 k1, .int .i64 i1, .int .i64 z1, .int .i64 l1, .int .i64 a1, .int .i64 a2, .int .i64 a3, .int .i64 a4, .int .i64 a5, .string (mkS t1)] 84)) = w2 at *
   generalize w1.heap.size = n1 at *
   go_wp2
   go_ret
   exact ⟨rfl, Stp.same hT.out hB2.out⟩
  | true =>
   rw [if_neg (by simp)]
   by_cases he2 : e2 = 0
   ·subst he2
    cases u2 with
    | false =>
     rw [if_neg (by simp)]
     go_enter Tryz.func53, Tryz.ntmps53
     go_wp2_with fail
     (with_reducible refine (h1.out).mono ?_)
     rintro e w1 ⟨rfl, hB1⟩
     have hb1 := heap_alloc_new w1 (.cells #[.int .i64 k1, .int .i64 i1, .int .i64 z1, .int .i64 l1, .int .i64 a1, .int .i64 a2, .int .i64 a3, .int .i64 a4, .int .i64 a5, .string (mkS t1)] 84)
     have hB2 := below_alloc hB1 (.cells #[.int .i64 k1, .int .i64 i1, .int .i64 z1, .int .i64 l1, .int .i64 a1, .int .i64 a2, .int .i64 a3, .int .i64 a4, .int .i64 a5, .string (mkS t1)] 84)
     replace hb1 := hid hb1
     replace hB2 := hid hB2
     clear hB1
     go_upto_region 2 with fail
     generalize (w1.alloc (.cells #[.int .i64 k1, .int .i64 i1, .int .i64 z1, .int .i64 l1, .int .i64 a1, .int .i64 a2, .int .i64 a3, .int .i64 a4, .int .i64 a5, .string (mkS t1)] 84)) = w2 at *
     generalize w1.heap.size = n1 at *
     go_wp2_with fail
     (with_reducible refine (h2.out _ (hG.out.below hB2.out)).mono ?_)
     rintro e w3 ⟨rfl, hB3⟩
     have hb1' := (hB3.block _ (Array.getElem?_eq_some_iff.1 hb1.out).1).trans hb1.out
     have hA := below_alloc (Below.refl _ w3) (.cells #[.int .i64 k2, .int .i64 i2, .int .i64 z2, .int .i64 l2, .int .i64 b1, .int .i64 b2, .int .i64 b3, .int .i64 b4, .int .i64 b5, .string (mkS t2)] 84)
     have hb1'' := (hA.block _ (Array.getElem?_eq_some_iff.1 hb1').1).trans hb1'
     have hb2 := heap_alloc_new w3 (.cells #[.int .i64 k2, .int .i64 i2, .int .i64 z2, .int .i64 l2, .int .i64 b1, .int .i64 b2, .int .i64 b3, .int .i64 b4, .int .i64 b5, .string (mkS t2)] 84)
     have hB4 := below_alloc (below_step hB2.out hB3) (.cells #[.int .i64 k2, .int .i64 i2, .int .i64 z2, .int .i64 l2, .int .i64 b1, .int .i64 b2, .int .i64 b3, .int .i64 b4, .int .i64 b5, .string (mkS t2)] 84)
     have x0 := cell_of (j := 0) hb1'' rfl
     have y0 := cell_of (j := 0) hb2 rfl
     replace hb1'' := hid hb1''
     replace hb2 := hid hb2
     replace hB4 := hid hB4
     clear hB3 hb1' hA hb1 hB2
     go_upto_region 5 with fail
     generalize (w3.alloc (.cells #[.int .i64 k2, .int .i64 i2, .int .i64 z2, .int .i64 l2, .int .i64 b1, .int .i64 b2, .int .i64 b3, .int .i64 b4, .int .i64 b5, .string (mkS t2)] 84)) = w4 at *
     generalize w3.heap.size = n3 at *
     go_wp2_with fail
     (with_reducible refine (h3.out _ (hT.out.below hB4.out)).mono ?_)
     rintro e w5 ⟨rfl, hS5⟩
     have hS := Stp.after hB4.out hS5
     replace hS := hid hS
     go_wp2
     go_ret
     exact ⟨rfl, hS.out⟩
    | true =>
     by_cases hk : k1 = k2
     ·have t0 : (k1 == k2) = true := by simpa using hk
      rw [if_pos (Or.inr ⟨rfl, hk⟩)]
      replace hk := hid hk
      go_enter Tryz.func53, Tryz.ntmps53
      go_wp2_with fail
      (with_reducible refine (h1.out).mono ?_)
      rintro e w1 ⟨rfl, hB1⟩
      have hb1 := heap_alloc_new w1 (.cells #[.int .i64 k1, .int .i64 i1, .int .i64 z1, .int .i64 l1, .int .i64 a1, .int .i64 a2, .int .i64 a3, .int .i64 a4, .int .i64 a5, .string (mkS t1)] 84)
      have hB2 := below_alloc hB1 (.cells #[.int .i64 k1, .int .i64 i1, .int .i64 z1, .int .i64 l1, .int .i64 a1, .int .i64 a2, .int .i64 a3, .int .i64 a4, .int .i64 a5, .string (mkS t1)] 84)
      replace hb1 := hid hb1
      replace hB2 := hid hB2
      clear hB1
      go_upto_region 2 with fail
      generalize (w1.alloc (.cells #[.int .i64 k1, .int .i64 i1, .int .i64 z1, .int .i64 l1, .int .i64 a1, .int .i64 a2, .int .i64 a3, .int .i64 a4, .int .i64 a5, .string (mkS t1)] 84)) = w2 at *
      generalize w1.heap.size = n1 at *
      go_wp2_with fail
      (with_reducible refine (h2.out _ (hG.out.below hB2.out)).mono ?_)
      rintro e w3 ⟨rfl, hB3⟩
      have hb1' := (hB3.block _ (Array.getElem?_eq_some_iff.1 hb1.out).1).trans hb1.out
      have hA := below_alloc (Below.refl _ w3) (.cells #[.int .i64 k2, .int .i64 i2, .int .i64 z2, .int .i64 l2, .int .i64 b1, .int .i64 b2, .int .i64 b3, .int .i64 b4, .int .i64 b5, .string (mkS t2)] 84)
      have hb1'' := (hA.block _ (Array.getElem?_eq_some_iff.1 hb1').1).trans hb1'
      have hb2 := heap_alloc_new w3 (.cells #[.int .i64 k2, .int .i64 i2, .int .i64 z2, .int .i64 l2, .int .i64 b1, .int .i64 b2, .int .i64 b3, .int .i64 b4, .int .i64 b5, .string (mkS t2)] 84)
      have hB4 := below_alloc (below_step hB2.out hB3) (.cells #[.int .i64 k2, .int .i64 i2, .int .i64 z2, .int .i64 l2, .int .i64 b1, .int .i64 b2, .int .i64 b3, .int .i64 b4, .int .i64 b5, .string (mkS t2)] 84)
      have x0 := cell_of (j := 0) hb1'' rfl
      have y0 := cell_of (j := 0) hb2 rfl
      replace hb1'' := hid hb1''
      replace hb2 := hid hb2
      replace hB4 := hid hB4
      clear hB3 hb1' hA hb1 hB2
      go_upto_region 5 with fail
      generalize (w3.alloc (.cells #[.int .i64 k2, .int .i64 i2, .int .i64 z2, .int .i64 l2, .int .i64 b1, .int .i64 b2, .int .i64 b3, .int .i64 b4, .int .i64 b5, .string (mkS t2)] 84)) = w4 at *
      generalize w3.heap.size = n3 at *
      go_wp2
      go_ret
      exact ⟨rfl, Stp.same hT.out hB4.out⟩
     ·have t0 : (k1 == k2) = false := by simpa using hk
      rw [if_neg (by simpa using hk)]
      replace hk := hid hk
      go_enter Tryz.func53, Tryz.ntmps53
      go_wp2_with fail
      (with_reducible refine (h1.out).mono ?_)
      rintro e w1 ⟨rfl, hB1⟩
      have hb1 := heap_alloc_new w1 (.cells #[.int .i64 k1, .int .i64 i1, .int .i64 z1, .int .i64 l1, .int .i64 a1, .int .i64 a2, .int .i64 a3, .int .i64 a4, .int .i64 a5, .string (mkS t1)] 84)
      have hB2 := below_alloc hB1 (.cells #[.int .i64 k1, .int .i64 i1, .int .i64 z1, .int .i64 l1, .int .i64 a1, .int .i64 a2, .int .i64 a3, .int .i64 a4, .int .i64 a5, .string (mkS t1)] 84)
      replace hb1 := hid hb1
      replace hB2 := hid hB2
      clear hB1
      go_upto_region 2 with fail
      generalize (w1.alloc (.cells #[.int .i64 k1, .int .i64 i1, .int .i64 z1, .int .i64 l1, .int .i64 a1, .int .i64 a2, .int .i64 a3, .int .i64 a4, .int .i64 a5, .string (mkS t1)] 84)) = w2 at *
      generalize w1.heap.size = n1 at *
      go_wp2_with fail
      (with_reducible refine (h2.out _ (hG.out.below hB2.out)).mono ?_)
      rintro e w3 ⟨rfl, hB3⟩
      have hb1' := (hB3.block _ (Array.getElem?_eq_some_iff.1 hb1.out).1).trans hb1.out
      have hA := below_alloc (Below.refl _ w3) (.cells #[.int .i64 k2, .int .i64 i2, .int .i64 z2, .int .i64 l2, .int .i64 b1, .int .i64 b2, .int .i64 b3, .int .i64 b4, .int .i64 b5, .string (mkS t2)] 84)
      have hb1'' := (hA.block _ (Array.getElem?_eq_some_iff.1 hb1').1).trans hb1'
      have hb2 := heap_alloc_new w3 (.cells #[.int .i64 k2, .int .i64 i2, .int .i64 z2, .int .i64 l2, .int .i64 b1, .int .i64 b2, .int .i64 b3, .int .i64 b4, .int .i64 b5, .string (mkS t2)] 84)
      have hB4 := below_alloc (below_step hB2.out hB3) (.cells #[.int .i64 k2, .int .i64 i2, .int .i64 z2, .int .i64 l2, .int .i64 b1, .int .i64 b2, .int .i64 b3, .int .i64 b4, .int .i64 b5, .string (mkS t2)] 84)
      have x0 := cell_of (j := 0) hb1'' rfl
      have y0 := cell_of (j := 0) hb2 rfl
      replace hb1'' := hid hb1''
      replace hb2 := hid hb2
      replace hB4 := hid hB4
      clear hB3 hb1' hA hb1 hB2
      go_upto_region 5 with fail
      generalize (w3.alloc (.cells #[.int .i64 k2, .int .i64 i2, .int .i64 z2, .int .i64 l2, .int .i64 b1, .int .i64 b2, .int .i64 b3, .int .i64 b4, .int .i64 b5, .string (mkS t2)] 84)) = w4 at *
      generalize w3.heap.size = n3 at *
      go_wp2_with fail
      (with_reducible refine (h3.out _ (hT.out.below hB4.out)).mono ?_)
      rintro e w5 ⟨rfl, hS5⟩
      have hS := Stp.after hB4.out hS5
      replace hS := hid hS
      go_wp2
      go_ret
      exact ⟨rfl, hS.out⟩
   ·have t0 : (e2 != 0) = true := by simpa using he2
    rw [if_pos (Or.inl he2)]
    replace he2 := hid he2
    go_enter Tryz.func53, Tryz.ntmps53
    go_wp2_with fail
    (with_reducible refine (h1.out).mono ?_)
    rintro e w1 ⟨rfl, hB1⟩
    have hb1 := heap_alloc_new w1 (.cells #[.int .i64 k1, .int .i64 i1, .int .i64 z1, .int .i64 l1, .int .i64 a1, .int .i64 a2, .int .i64 a3, .int .i64 a4, .int .i64 a5, .string (mkS t1)] 84)
    have hB2 := below_alloc hB1 (.cells #[.int .i64 k1, .int .i64 i1, .int .i64 z1, .int .i64 l1, .int .i64 a1, .int .i64 a2, .int .i64 a3, .int .i64 a4, .int .i64 a5, .string (mkS t1)] 84)
    replace hb1 := hid hb1
    replace hB2 := hid hB2
    clear hB1
    go_upto_region 2 with fail
    generalize (w1.alloc (.cells #[.int .i64 k1, .int .i64 i1, .int .i64 z1, .int .i64 l1, .int .i64 a1, .int .i64 a2, .int .i64 a3, .int .i64 a4, .int .i64 a5, .string (mkS t1)] 84)) = w2 at *
    generalize w1.heap.size = n1 at *
    go_wp2_with fail
    (with_reducible refine (h2.out _ (hG.out.below hB2.out)).mono ?_)
    rintro e w3 ⟨rfl, hB3⟩
    have hb1' := (hB3.block _ (Array.getElem?_eq_some_iff.1 hb1.out).1).trans hb1.out
    have hA := below_alloc (Below.refl _ w3) (.cells #[.int .i64 k2, .int .i64 i2, .int .i64 z2, .int .i64 l2, .int .i64 b1, .int .i64 b2, .int .i64 b3, .int .i64 b4, .int .i64 b5, .string (mkS t2)] 84)
    have hb1'' := (hA.block _ (Array.getElem?_eq_some_iff.1 hb1').1).trans hb1'
    have hb2 := heap_alloc_new w3 (.cells #[.int .i64 k2, .int .i64 i2, .int .i64 z2, .int .i64 l2, .int .i64 b1, .int .i64 b2, .int .i64 b3, .int .i64 b4, .int .i64 b5, .string (mkS t2)] 84)
    have hB4 := below_alloc (below_step hB2.out hB3) (.cells #[.int .i64 k2, .int .i64 i2, .int .i64 z2, .int .i64 l2, .int .i64 b1, .int .i64 b2, .int .i64 b3, .int .i64 b4, .int .i64 b5, .string (mkS t2)] 84)
    have x0 := cell_of (j := 0) hb1'' rfl
    have y0 := cell_of (j := 0) hb2 rfl
    replace hb1'' := hid hb1''
    replace hb2 := hid hb2
    replace hB4 := hid hB4
    clear hB3 hb1' hA hb1 hB2
    go_upto_region 5 with fail
    generalize (w3.alloc (.cells #[.int .i64 k2, .int .i64 i2, .int .i64 z2, .int .i64 l2, .int .i64 b1, .int .i64 b2, .int .i64 b3, .int .i64 b4, .int .i64 b5, .string (mkS t2)] 84)) = w4 at *
    generalize w3.heap.size = n3 at *
    go_wp2
    go_ret
    exact ⟨rfl, Stp.same hT.out hB4.out⟩
 ·have t0 : (e1 != 0) = true := by simpa using he1
  rw [if_pos (Or.inl he1)]
  replace he1 := hid he1
  go_enter Tryz.func53, Tryz.ntmps53
  go_wp2_with fail
  (with_reducible refine (h1.out).mono ?_)
  rintro e w1 ⟨rfl, hB1⟩
  have hb1 := heap_alloc_new w1 (.cells #[.int .i64 k1, .int .i64 i1, .int .i64 z1, .int .i64 l1, .int .i64 a1, .int .i64 a2, .int .i64 a3, .int .i64 a4, .int .i64 a5, .string (mkS t1)] 84)
  have hB2 := below_alloc hB1 (.cells #[.int .i64 k1, .int .i64 i1, .int .i64 z1, .int .i64 l1, .int .i64 a1, .int .i64 a2, .int .i64 a3, .int .i64 a4, .int .i64 a5, .string (mkS t1)] 84)
  replace hb1 := hid hb1
  replace hB2 := hid hB2
  clear hB1
  go_upto_region 2 with fail
  generalize (w1.alloc (.cells #[.int .i64 k1, .int .i64 i1, .int .i64 z1, .int .i64 l1, .int .i64 a1, .int .i64 a2, .int .i64 a3, .int .i64 a4, .int .i64 a5, .string (mkS t1)] 84)) = w2 at *
  generalize w1.heap.size = n1 at *
  go_wp2
  go_ret
  exact ⟨rfl, Stp.same hT.out hB2.out⟩
end Go.Proofs.YtcjlfkklpghjbaaGreat

namespace Go.Proofs.YtcjlfkklpghjbaaGreat
open Go.RowKit
set_option maxRecDepth 100000 in
theorem rin16_calls (n lo hi : Int) (w : World) : Calls Tryz.prog 124 #[.int .i64 n, .int .i64 lo, .int .i64 hi] w fun e w' => e = .returned (.bool (within n lo hi)) ∧ w = w' := by
 unfold within
 by_cases h1 : lo ≤ n
 ·go_enter Tryz.func124, Tryz.ntmps124
  go_wp2
  go_ret
  exact ⟨ret_bool (by simp [h1]), rfl⟩
 ·have h2 : decide (lo ≤ n) = false := by simpa using h1
  replace h1 := hid h1
  go_enter Tryz.func124, Tryz.ntmps124
  go_wp2
  go_ret
  exact ⟨ret_bool (by first | rfl | (rw [h2]; rfl)), rfl⟩
set_option maxHeartbeats 2000000 in
set_option maxRecDepth 100000 in
theorem rcheck_calls (m : Mt) (w : World) :
  Calls Tryz.prog 113 #[mtV m] w fun e w' => e = .returned (.int .i64 (if metaOk m then 0 else 2)) ∧ Below w.heap.size w w' := by
 obtain ⟨a1, a2, a3, a4, a5⟩ := m
 unfold mtV mtCells metaOk
 dsimp only
 have k1 := fun W => rin16_calls a1 0 4095 W
 have k2 := fun W => rin16_calls a2 (-1099511627776) 1099511627776 W
 have k3 := fun W => rin16_calls a3 0 999999999 W
 have k4 := fun W => rin16_calls a4 0 2147483647 W
 have k5 := fun W => rin16_calls a5 0 2147483647 W
 generalize within a1 0 4095 = b1 at *
 generalize within a2 (-1099511627776) 1099511627776 = b2 at *
 generalize within a3 0 999999999 = b3 at *
 generalize within a4 0 2147483647 = b4 at *
 generalize within a5 0 2147483647 = b5 at *
 have hB := (Below.refl w.heap.size w).alloc (Nat.le_refl _) (.cells #[.int .i64 a1, .int .i64 a2, .int .i64 a3, .int .i64 a4, .int .i64 a5] 41)
 have hblk := (MapKept.heap_alloc w (.cells #[.int .i64 a1, .int .i64 a2, .int .i64 a3, .int .i64 a4, .int .i64 a5] 41)).1
 have c0 := cell_of (j := 0) hblk (v := .int .i64 a1) rfl
 have c1 := cell_of (j := 1) hblk (v := .int .i64 a2) rfl
 have c2 := cell_of (j := 2) hblk (v := .int .i64 a3) rfl
 have c3 := cell_of (j := 3) hblk (v := .int .i64 a4) rfl
 have c4 := cell_of (j := 4) hblk (v := .int .i64 a5) rfl
 cases b1 with
 | false =>
  replace k1 := hid k1
  replace k2 := hid k2
  replace k3 := hid k3
  replace k4 := hid k4
  replace k5 := hid k5
  replace hB := hid hB
  replace hblk := hid hblk
  go_enter Tryz.func113, Tryz.ntmps113
  go_wp2_with fail
  (with_reducible refine (k1.out _).mono ?_)
  rintro e w1 ⟨rfl, rfl⟩
  go_wp2_with fail
  go_ret
  exact ⟨rfl, hB.out⟩
 | true =>
  cases b2 with
  | false =>
   replace k1 := hid k1
   replace k2 := hid k2
   replace k3 := hid k3
   replace k4 := hid k4
   replace k5 := hid k5
   replace hB := hid hB
   replace hblk := hid hblk
   go_enter Tryz.func113, Tryz.ntmps113
   go_wp2_with fail
   (with_reducible refine (k1.out _).mono ?_)
   rintro e w1 ⟨rfl, rfl⟩
   go_wp2_with fail
   (with_reducible refine (k2.out _).mono ?_)
   rintro e w1 ⟨rfl, rfl⟩
   go_wp2_with fail
   go_ret
   exact ⟨rfl, hB.out⟩
  | true =>
   cases b3 with
   | false =>
    replace k1 := hid k1
    replace k2 := hid k2
    replace k3 := hid k3
    replace k4 := hid k4
    replace k5 := hid k5
    replace hB := hid hB
    replace hblk := hid hblk
    go_enter Tryz.func113, Tryz.ntmps113
    go_wp2_with fail
    (with_reducible refine (k1.out _).mono ?_)
    rintro e w1 ⟨rfl, rfl⟩
    go_wp2_with fail
    (with_reducible refine (k2.out _).mono ?_)
    rintro e w1 ⟨rfl, rfl⟩
    go_wp2_with fail
    (with_reducible refine (k3.out _).mono ?_)
    rintro e w1 ⟨rfl, rfl⟩
    go_wp2_with fail
    go_ret
    exact ⟨rfl, hB.out⟩
   | true =>
    cases b4 with
    | false =>
     replace k1 := hid k1
     replace k2 := hid k2
     replace k3 := hid k3
     replace k4 := hid k4
     replace k5 := hid k5
     replace hB := hid hB
     replace hblk := hid hblk
     go_enter Tryz.func113, Tryz.ntmps113
     go_wp2_with fail
     (with_reducible refine (k1.out _).mono ?_)
     rintro e w1 ⟨rfl, rfl⟩
     go_wp2_with fail
     (with_reducible refine (k2.out _).mono ?_)
     rintro e w1 ⟨rfl, rfl⟩
     go_wp2_with fail
     (with_reducible refine (k3.out _).mono ?_)
     rintro e w1 ⟨rfl, rfl⟩
     go_wp2_with fail
     (with_reducible refine (k4.out _).mono ?_)
     rintro e w1 ⟨rfl, rfl⟩
     go_wp2_with fail
     go_ret
     exact ⟨rfl, hB.out⟩
    | true =>
     cases b5 with
     | false =>
      replace k1 := hid k1
      replace k2 := hid k2
      replace k3 := hid k3
      replace k4 := hid k4
      replace k5 := hid k5
      replace hB := hid hB
      replace hblk := hid hblk
      go_enter Tryz.func113, Tryz.ntmps113
      go_wp2_with fail
      (with_reducible refine (k1.out _).mono ?_)
      rintro e w1 ⟨rfl, rfl⟩
      go_wp2_with fail
      (with_reducible refine (k2.out _).mono ?_)
      rintro e w1 ⟨rfl, rfl⟩
      go_wp2_with fail
      (with_reducible refine (k3.out _).mono ?_)
      rintro e w1 ⟨rfl, rfl⟩
      go_wp2_with fail
      (with_reducible refine (k4.out _).mono ?_)
      rintro e w1 ⟨rfl, rfl⟩
      go_wp2_with fail
      (with_reducible refine (k5.out _).mono ?_)
      rintro e w1 ⟨rfl, rfl⟩
      go_wp2_with fail
      go_ret
      exact ⟨rfl, hB.out⟩
     | true =>
      replace k1 := hid k1
      replace k2 := hid k2
      replace k3 := hid k3
      replace k4 := hid k4
      replace k5 := hid k5
      replace hB := hid hB
      replace hblk := hid hblk
      go_enter Tryz.func113, Tryz.ntmps113
      go_wp2_with fail
      (with_reducible refine (k1.out _).mono ?_)
      rintro e w1 ⟨rfl, rfl⟩
      go_wp2_with fail
      (with_reducible refine (k2.out _).mono ?_)
      rintro e w1 ⟨rfl, rfl⟩
      go_wp2_with fail
      (with_reducible refine (k3.out _).mono ?_)
      rintro e w1 ⟨rfl, rfl⟩
      go_wp2_with fail
      (with_reducible refine (k4.out _).mono ?_)
      rintro e w1 ⟨rfl, rfl⟩
      go_wp2_with fail
      (with_reducible refine (k5.out _).mono ?_)
      rintro e w1 ⟨rfl, rfl⟩
      go_wp2_with fail
      go_ret
      exact ⟨rfl, hB.out⟩
set_option maxHeartbeats 1000000 in
set_option maxRecDepth 100000 in
theorem rmay_calls (s : ByteArray) (m : Mt) (w : World) (hs : s.size ≤ 16777216) :
  Calls Tryz.prog 87 #[.string s, mtV m] w fun e w' => e = .returned (.int .i64 (mayE (bl s) m)) ∧ Below w.heap.size w w' := by
 have h1 := fun W => refright_calls s W hs
 have h2 := fun W => rcheck_calls m W
 obtain ⟨a1, a2, a3, a4, a5⟩ := m
 unfold mayE
 generalize metaOk ⟨a1, a2, a3, a4, a5⟩ = ok at *
 unfold mtV mtCells at *
 dsimp only at *
 have hB := (Below.refl w.heap.size w).alloc (Nat.le_refl _) (.cells #[.int .i64 a1, .int .i64 a2, .int .i64 a3, .int .i64 a4, .int .i64 a5] 41)
 have hblk := (MapKept.heap_alloc w (.cells #[.int .i64 a1, .int .i64 a2, .int .i64 a3, .int .i64 a4, .int .i64 a5] 41)).1
 replace h2 := hid h2
 replace hB := hid hB
 cases hr : right (bl s) with
 | false =>
  rw [hr] at h1
  replace h1 := hid h1
  replace hr := hid hr
  go_enter Tryz.func87, Tryz.ntmps87
  go_wp2_with fail
  (with_reducible refine (h1.out _).mono ?_)
  rintro e w1 ⟨rfl, hB1⟩
  replace hB1 := hid hB1
  go_wp2
  go_ret
  exact ⟨rfl, below_step hB.out hB1.out⟩
 | true =>
  rw [hr] at h1
  replace h1 := hid h1
  replace hr := hid hr
  go_enter Tryz.func87, Tryz.ntmps87
  go_wp2_with fail
  (with_reducible refine (h1.out _).mono ?_)
  rintro e w1 ⟨rfl, hB1⟩
  have hblk1 := (hB1.block _ (Array.getElem?_eq_some_iff.1 hblk).1).trans hblk
  have c0 := cell_of (j := 0) hblk1 (v := .int .i64 a1) rfl
  have c1 := cell_of (j := 1) hblk1 (v := .int .i64 a2) rfl
  have c2 := cell_of (j := 2) hblk1 (v := .int .i64 a3) rfl
  have c3 := cell_of (j := 3) hblk1 (v := .int .i64 a4) rfl
  have c4 := cell_of (j := 4) hblk1 (v := .int .i64 a5) rfl
  have hB01 := below_step hB.out hB1
  replace hB01 := hid hB01
  replace hblk := hid hblk
  replace hblk1 := hid hblk1
  clear hB1
  go_wp2_with fail
  (with_reducible refine (h2.out _).mono ?_)
  rintro e w2 ⟨rfl, hB2⟩
  have hB02 := below_step hB01.out hB2
  replace hB02 := hid hB02
  clear hB2
  cases ok with
  | false =>
   go_wp2
   go_ret
   exact ⟨rfl, hB02.out⟩
  | true =>
   go_wp2
   go_ret
   exact ⟨rfl, hB02.out⟩
section
variable (rb : Nat) (v : Value) (A : Nat → Nat) (T : Fs)
set_option maxHeartbeats 1000000 in
set_option maxRecDepth 100000 in
theorem rfresh_calls (s : ByteArray) (w : World) (hR : RRep w rb v A T) (hs : s.size ≤ 16777216) :
  Calls Tryz.prog 88 #[ptr rb, .string s] w fun e w' => e = .returned (.int .i64 (T.fresh (bl s)).2) ∧ Below w.heap.size w w' := by
 have h1 := rlook_calls rb v A T s w hR hs
 unfold Fs.fresh
 generalize T.look (bl s) = lk at *
 obtain ⟨n, d, e⟩ := lk
 dsimp only at *
 unfold ptr at *
 by_cases he : e = 0
 ·subst he
  cases n with
  | none =>
   rw [optPtr_none] at h1
   rw [if_neg (by simp)]
   replace h1 := hid h1
   replace hR := hid hR
   go_enter Tryz.func88, Tryz.ntmps88
   go_wp2_with fail
   (with_reducible refine (h1.out).mono ?_)
   rintro e w1 ⟨rfl, hB⟩
   replace hB := hid hB
   go_wp2
   go_ret
   exact ⟨rfl, hB.out⟩
  | some i =>
   rw [optPtr_some] at h1
   rw [if_pos ⟨rfl, by simp⟩]
   replace h1 := hid h1
   replace hR := hid hR
   go_enter Tryz.func88, Tryz.ntmps88
   go_wp2_with fail
   (with_reducible refine (h1.out).mono ?_)
   rintro e w1 ⟨rfl, hB⟩
   replace hB := hid hB
   go_wp2
   go_ret
   exact ⟨rfl, hB.out⟩
 ·have he2 : (e == 0) = false := by simpa using he
  rw [if_neg (fun h => he h.1)]
  replace h1 := hid h1
  replace hR := hid hR
  replace he := hid he
  go_enter Tryz.func88, Tryz.ntmps88
  go_wp2_with fail
  (with_reducible refine (h1.out).mono ?_)
  rintro e w1 ⟨rfl, hB⟩
  replace hB := hid hB
  go_wp2
  go_ret
  exact ⟨rfl, hB.out⟩
end
end Go.Proofs.YtcjlfkklpghjbaaGreat

namespace Go.Proofs.YtcjlfkklpghjbaaGreat
open Go.RowKit
section
variable {w w' : World} {rb : Nat} {v v1 : Value} {A : Nat → Nat} {T T' : Fs}
theorem RRep.node_type (h : RRep w rb v A T) {i : Nat} (hi : T.Live i) : ∃ cs, w.heap[A i]? = some (.cells cs 96 (0, 0)) := by
 obtain ⟨dv, _, h2⟩ := h.node i hi
 exact ⟨_, h2⟩
theorem RRep.row_type (h : RRep w rb v A T) {g : Nat} (hg : v.ownBlock = some g) : ∃ cs, w.heap[g]? = some (.cells cs 98 (0, 0)) := (own_cells h.row hg).2
theorem types_apart {x y : Nat} {cs ds : Array Value} {t u : TypeId} {f f' : Nat × Nat} (hx : w.heap[x]? = some (.cells cs t f)) (hy : w.heap[y]? = some (.cells ds u f')) (h : t ≠ u) : x ≠ y := by
 rintro rfl
 rw [hx] at hy
 cases hy
 exact h rfl
theorem RRep.node_tree (h : RRep w rb v A T) {i : Nat} (hi : T.Live i) : A i ≠ rb := by
 obtain ⟨_, h2⟩ := h.node_type hi
 exact types_apart h2 h.tree (by decide)
theorem RRep.node_row (h : RRep w rb v A T) {i : Nat} (hi : T.Live i) : v.ownBlock ≠ some (A i) := fun e => by
 obtain ⟨_, h2⟩ := h.node_type hi
 obtain ⟨_, h3⟩ := h.row_type e
 exact types_apart h2 h3 (by decide) rfl
theorem RRep.tree_row (h : RRep w rb v A T) : v.ownBlock ≠ some rb := fun e => by
 obtain ⟨_, h3⟩ := h.row_type e
 exact types_apart h.tree h3 (by decide) rfl
/-- Another row of names. -/
theorem rrep_row (hR : RRep w rb v A T) (hI' : T'.Inv) (hlive : ∀ i, T'.Live i → T.Live i) (hnd : ∀ i, T'.Live i → rnode (T'.nd i) i = rnode (T.nd i) i ∧ (T'.nd i).data = (T.nd i).data) (hnext : T'.next = T.next)
  (ht : Turn w w' (fun b => b = rb ∨ v.ownBlock = some b)) (htree : w'.heap[rb]? = some (.cells #[v1, .int .i64 T.next] 60 (0, 0))) (hrow : w'.ownsRow 0 98 2 v1 T'.names.length (rrow A T'.names)) : RRep w' rb v1 A T' := by
 refine ⟨hI', by rw [hnext]; exact htree, hrow, fun i hi => ?_, fun i j hi hj e => hR.injA i j (hlive i hi) (hlive j hj) e⟩
 have hl := hlive i hi
 obtain ⟨dv, h1, h2⟩ := hR.node i hl
 obtain ⟨e1, e2⟩ := hnd i hi
 refine ⟨dv, ?_, ?_⟩
 ·rw [e2]
  refine h1.kept fun g ⟨cs, hg⟩ => ht.block g (Array.getElem?_eq_some_iff.1 hg).1 ?_
  rintro (rfl | hv)
  ·exact types_apart hg hR.tree (by decide) rfl
  ·obtain ⟨_, h3⟩ := hR.row_type hv
   exact types_apart hg h3 (by decide) rfl
 ·rw [e1]
  refine (ht.block (A i) (Array.getElem?_eq_some_iff.1 h2).1 ?_).trans h2
  rintro (e | hv)
  ·exact hR.node_tree hl e
  ·exact hR.node_row hl hv
theorem row_turn (ht : Turn w w' (fun b => b = rb ∨ v.ownBlock = some b)) : Turn w w' (ROwn rb v A T) := ht.mono fun b _ h => h.imp id Or.inl
theorem row_own (hlive : ∀ i, T'.Live i → T.Live i) (hat : v1.ownBlock = v.ownBlock ∨ ∃ b, v1.ownBlock = some b ∧ w.heap.size ≤ b) {b : Nat} (hb : ROwn rb v1 A T' b) : ROwn rb v A T b ∨ w.heap.size ≤ b := by
 rcases hb with rfl | hv | ⟨i, hi, rfl⟩
 ·exact Or.inl (Or.inl rfl)
 ·rcases hat with e | ⟨b', e, hle⟩
  ·exact Or.inl (Or.inr (Or.inl (e ▸ hv)))
  ·rw [e] at hv
   cases hv
   exact Or.inr hle
 ·exact Or.inl (Or.inr (Or.inr ⟨i, hlive i hi, rfl⟩))
theorem rrep_row_stp (hR : RRep w rb v A T) (hI' : T'.Inv) (hlive : ∀ i, T'.Live i → T.Live i) (hnd : ∀ i, T'.Live i → rnode (T'.nd i) i = rnode (T.nd i) i ∧ (T'.nd i).data = (T.nd i).data) (hnext : T'.next = T.next)
  (ht : Turn w w' (fun b => b = rb ∨ v.ownBlock = some b)) (htree : w'.heap[rb]? = some (.cells #[v1, .int .i64 T.next] 60 (0, 0))) (hrow : w'.ownsRow 0 98 2 v1 T'.names.length (rrow A T'.names))
  (hat : v1.ownBlock = v.ownBlock ∨ ∃ b, v1.ownBlock = some b ∧ w.heap.size ≤ b) : RStp w w' rb v A T T' :=
 ⟨v1, A, rrep_row hR hI' hlive hnd hnext ht htree hrow, row_turn ht, fun _ hb => row_own hlive hat hb⟩
/-- A thing's record. -/
theorem rrep_set {p : Pt} {i : Nat} {n : Nd} {dv : Value} (hR : RRep w rb v A T) (hi : (p, i) ∈ T.names) (hN : NdOk n) (hk : n.kind = (T.nd i).kind) (hl : n.links = (T.nd i).links) (ht : Turn w w' (fun b => b = A i))
  (hnode : w'.heap[A i]? = some (.cells (rnode n i dv) 96 (0, 0))) (hdv : Dat w' dv n.data) : RStp w w' rb v A T (T.set i n) := by
 have hli : T.Live i := ⟨p, hi⟩
 have hbytes : ∀ g : Nat, (∃ cs, w.heap[g]? = some (Obj.cells cs 5 (0, 0))) → w'.heap[g]? = w.heap[g]? := fun g ⟨cs, hg⟩ => ht.block g (Array.getElem?_eq_some_iff.1 hg).1 fun e => by
  obtain ⟨_, h3⟩ := hR.node_type hli
  exact types_apart hg h3 (by decide) e
 refine ⟨v, A, ⟨set_inv hR.inv hN hk hl, ?_, own_blocks hR.row fun g hg => ?_, fun j hj => ?_, hR.injA⟩, ht.mono fun b _ h => Or.inr (Or.inr ⟨i, hli, h⟩), fun b hb => Or.inl hb⟩
 ·exact (ht.block rb (Array.getElem?_eq_some_iff.1 hR.tree).1 fun e => hR.node_tree hli e.symm).trans hR.tree
 ·obtain ⟨_, h3⟩ := hR.row_type hg
  exact ht.block g (Array.getElem?_eq_some_iff.1 h3).1 fun e => hR.node_row hli (e ▸ hg)
 ·by_cases hji : j = i
  ·subst hji
   refine ⟨dv, ?_, ?_⟩
   ·simpa [Fs.set] using hdv
   ·simpa [Fs.set] using hnode
  ·have hlj : T.Live j := hj
   obtain ⟨du, g1, g2⟩ := hR.node j hlj
   have e : (T.set i n).nd j = T.nd j := by simp [Fs.set, hji]
   rw [e]
   exact ⟨du, g1.kept hbytes, (ht.block (A j) (Array.getElem?_eq_some_iff.1 g2).1 fun e => hji (hR.injA j i hlj hli e)).trans g2⟩
/-- A thing more. -/
theorem rrep_add {p : Pt} {d nb : Nat} {n : Nd} {dv : Value} {ncs : Array Value} (hR : RRep w rb v A T) (hp : p ≠ []) (hP : Pth p) (hd : (p.dropLast, d) ∈ T.names) (hk : (T.nd d).kind = 2) (hn : T.at p = none) (h1 : n.links = 1) (hN : NdOk n)
  (hnb : ¬ ROwn rb v A T nb) (hnt : w.heap[nb]? = some (.cells ncs 96 (0, 0))) (ht : Turn w w' (fun b => b = rb ∨ v.ownBlock = some b ∨ b = nb))
  (htree : w'.heap[rb]? = some (.cells #[v1, .int .i64 (T.next + 1 : Nat)] 60 (0, 0))) (hrow : w'.ownsRow 0 98 2 v1 (T.names.length + 1) (rrow A T.names ++ [.string (mkS (glue p)), ptr nb]))
  (hnode : w'.heap[nb]? = some (.cells (rnode n T.next dv) 96 (0, 0))) (hdv : Dat w' dv n.data) : RRep w' rb v1 (upd A T.next nb) (T.add p n) := by
 have hI := hR.inv
 have hfresh : ∀ {q : Pt} {i : Nat}, (q, i) ∈ T.names → i ≠ T.next := fun hm e => by
  subst e
  exact hI.next_fresh _ hm
 have hlive : ∀ j, (T.add p n).Live j → j = T.next ∨ (T.Live j ∧ j ≠ T.next) := fun j ⟨q, hq⟩ => by
  simp only [Fs.add, List.mem_append, List.mem_singleton, Prod.mk.injEq] at hq
  rcases hq with hq | ⟨_, rfl⟩
  ·exact Or.inr ⟨⟨q, hq⟩, hfresh hq⟩
  ·exact Or.inl rfl
 refine ⟨add_inv hI hp hP hd hk hn h1 hN, htree, ?_, fun j hj => ?_, fun i j hi hj e => ?_⟩
 ·have e1 : rrow (upd A T.next nb) (T.add p n).names = rrow A T.names ++ [.string (mkS (glue p)), ptr nb] := by
   simp only [Fs.add, rrow_append]
   rw [rrow_congr (A := A) fun x hx => upd_other _ _ _ (hfresh (q := x.1) hx)]
   simp [rrow, upd_same]
  have e2 : (T.add p n).names.length = T.names.length + 1 := by simp [Fs.add]
  rw [e1, e2]
  exact hrow
 ·rcases hlive j hj with rfl | ⟨hlj, hne⟩
  ·refine ⟨dv, ?_, ?_⟩
   ·simpa [Fs.add] using hdv
   ·rw [upd_same]
    simpa [Fs.add] using hnode
  ·obtain ⟨du, g1, g2⟩ := hR.node j hlj
   have e : (T.add p n).nd j = T.nd j := by simp [Fs.add, hne]
   rw [e, upd_other _ _ _ hne]
   refine ⟨du, g1.kept fun g ⟨cs, hg⟩ => ht.block g (Array.getElem?_eq_some_iff.1 hg).1 ?_, (ht.block (A j) (Array.getElem?_eq_some_iff.1 g2).1 ?_).trans g2⟩
   ·rintro (rfl | hv | rfl)
    ·exact types_apart hg hR.tree (by decide) rfl
    ·obtain ⟨_, h3⟩ := hR.row_type hv
     exact types_apart hg h3 (by decide) rfl
    ·exact types_apart hg hnt (by decide) rfl
   ·rintro (e | hv | e)
    ·exact hR.node_tree hlj e
    ·exact hR.node_row hlj hv
    ·exact hnb (Or.inr (Or.inr ⟨j, hlj, e.symm⟩))
 ·rcases hlive i hi with rfl | ⟨hli, hni⟩ <;> rcases hlive j hj with rfl | ⟨hlj, hnj⟩
  ·rfl
  ·rw [upd_same, upd_other _ _ _ hnj] at e
   exact absurd (Or.inr (Or.inr ⟨j, hlj, e⟩)) hnb
  ·rw [upd_same, upd_other _ _ _ hni] at e
   exact absurd (Or.inr (Or.inr ⟨i, hli, e.symm⟩)) hnb
  ·rw [upd_other _ _ _ hni, upd_other _ _ _ hnj] at e
   exact hR.injA i j hli hlj e
theorem radd_own {p : Pt} {nb : Nat} {n : Nd} (hat : v1.ownBlock = v.ownBlock ∨ ∃ b, v1.ownBlock = some b ∧ w.heap.size ≤ b) {b : Nat} (hb : ROwn rb v1 (upd A T.next nb) (T.add p n) b) : ROwn rb v A T b ∨ w.heap.size ≤ b ∨ b = nb := by
 rcases hb with rfl | hv | ⟨i, ⟨q, hq⟩, rfl⟩
 ·exact Or.inl (Or.inl rfl)
 ·rcases hat with e | ⟨b', e, hle⟩
  ·exact Or.inl (Or.inr (Or.inl (e ▸ hv)))
  ·rw [e] at hv
   cases hv
   exact Or.inr (Or.inl hle)
 ·simp only [Fs.add, List.mem_append, List.mem_singleton, Prod.mk.injEq] at hq
  by_cases hi : i = T.next
  ·subst hi
   exact Or.inr (Or.inr (upd_same _ _ _))
  ·rw [upd_other _ _ _ hi]
   rcases hq with hq | ⟨_, e⟩
   ·exact Or.inl (Or.inr (Or.inr ⟨i, ⟨q, hq⟩, rfl⟩))
   ·exact absurd e hi
end
end Go.Proofs.YtcjlfkklpghjbaaGreat

namespace Go.Proofs.YtcjlfkklpghjbaaGreat
open Go.RowKit
theorem info_name : (Tryz.prog.info? 98).map (fun i => (i.zero, i.size, i.bytes)) = some (some (.agg #[.string ⟨#[]⟩, .pointer none]), 2, 24) := by kernel_rfl
/-- What a thing more leaves. -/
def RMade (w w' : World) (rb : Nat) (v : Value) (A : Nat → Nat) (T : Fs) (p : Pt) (n : Nd) (nb : Nat) : Prop :=
  ∃ v1, RRep w' rb v1 (upd A T.next nb) (T.add p n) ∧ Turn w w' (fun b => b = rb ∨ v.ownBlock = some b ∨ b = nb) ∧ (v1.ownBlock = v.ownBlock ∨ ∃ b, v1.ownBlock = some b ∧ w.heap.size ≤ b)
/-- .. of a block of the call's own. -/
theorem RMade.stp {w w1 w' : World} {rb nb : Nat} {v : Value} {A : Nat → Nat} {T : Fs} {p : Pt} {n : Nd} (hB : Below w.heap.size w w1) (hnb : w.heap.size ≤ nb) (h : RMade w1 w' rb v A T p n nb) : RStp w w' rb v A T (T.add p n) := by
 obtain ⟨v1, h1, h2, h3⟩ := h
 refine ⟨v1, _, h1, (Turn.of_below hB _).trans (h2.mono fun b _ hb => ?_), fun b hb => ?_⟩
 ·rcases hb with h | h | h
  ·exact Or.inl (Or.inl h)
  ·exact Or.inl (Or.inr (Or.inl h))
  ·exact Or.inr (h ▸ hnb)
 ·rcases radd_own (w := w1) h3 hb with h | h | h
  ·exact Or.inl h
  ·exact Or.inr (Nat.le_trans hB.size h)
  ·exact Or.inr (h ▸ hnb)
section
variable (rb : Nat) (v : Value) (A : Nat → Nat) (T : Fs)
set_option maxHeartbeats 2000000 in
set_option maxRecDepth 100000 in
theorem rmake_calls (s : ByteArray) (d nb : Nat) (n : Nd) (dv : Value) (w : World) (hR : RRep w rb v A T) (hr : right (bl s) = true) (hne : bl s ≠ []) (hn : T.at (split (bl s)) = none) (hd : ((split (bl s)).dropLast, d) ∈ T.names) (hk : (T.nd d).kind = 2)
  (hl1 : n.links = 1) (hN : NdOk n) (hnb : ¬ ROwn rb v A T nb) (hnode : w.heap[nb]? = some (.cells (rnode n 0 dv) 96 (0, 0))) (hdv : Dat w dv n.data) (hnx : T.next < 4611686018427387904) (hf : T.names.length ≤ 1000000) :
  Calls Tryz.prog 89 #[ptr rb, .string s, ptr nb] w fun e w' => e = .returned (.tuple #[]) ∧ RMade w w' rb v A T (split (bl s)) n nb := by
 have hfin := fun v1 w' => @rrep_add w w' rb v v1 A T (split (bl s)) d nb n dv _ hR (split_ne_nil hne) ⟨_, hr, rfl⟩ hd hk hn hl1 hN hnb hnode
 rw [show rrow A T.names ++ [.string (mkS (glue (split (bl s)))), ptr nb] = rrow A T.names ++ [.string s, ptr nb] by rw [glue_split, mkS_bl]] at hfin
 have hrn : rb ≠ nb := fun e => hnb (Or.inl e.symm)
 have hvn : v.ownBlock ≠ some nb := fun e => hnb (Or.inr (Or.inl e))
 have hvr := hR.tree_row
 have hrow := hR.row
 have htree := hR.tree
 obtain ⟨g, c, hv, hc1, hc2, hp, _, _⟩ := hR.at_
 subst hv
 unfold maxLen at hc2
 have e1 : w.cell? ⟨rb, 1, none⟩ = some (.int .i64 T.next) := cell_of htree rfl
 have e2 : w.cell? ⟨nb, 1, none⟩ = some (.int .i64 0) := cell_of hnode rfl
 have f2 : w.frozen? ⟨nb, 1, none⟩ = false := by simp [World.frozen?, hnode]
 have hwr : IntKind.i64.wrap ((T.next : Int) + 1) = (T.next : Int) + 1 := IntWalk.i64_in _ (by omega)
 unfold ptr at *
 replace hfin := hid hfin
 replace hR := hid hR
 replace hrow := hid hrow
 replace htree := hid htree
 replace hnode := hid hnode
 replace hdv := hid hdv
 replace hN := hid hN
 replace hr := hid hr
 replace hne := hid hne
 replace hn := hid hn
 replace hd := hid hd
 replace hk := hid hk
 replace hl1 := hid hl1
 replace hnb := hid hnb
 go_enter Tryz.func89, Tryz.ntmps89
 go_upto_region 1 with fail
 have n1 : (w.setCell ⟨nb, 1, none⟩ (.int .i64 T.next)).heap[nb]? = some (.cells (rnode n T.next dv) 96 (0, 0)) := heap_set_same hnode.out 1 _
 have o1 : ∀ b, b ≠ nb → (w.setCell ⟨nb, 1, none⟩ (.int .i64 T.next)).heap[b]? = w.heap[b]? := fun b hb => heap_set_other w hb 1 _
 have z1 : (w.setCell ⟨nb, 1, none⟩ (.int .i64 T.next)).heap.size = w.heap.size := heap_set_size _ _ _
 have s1 : (w.setCell ⟨nb, 1, none⟩ (.int .i64 T.next)).os = w.os ∧ (w.setCell ⟨nb, 1, none⟩ (.int .i64 T.next)).tape = w.tape ∧ (w.setCell ⟨nb, 1, none⟩ (.int .i64 T.next)).output = w.output := ⟨rfl, rfl, rfl⟩
 generalize w.setCell ⟨nb, 1, none⟩ (.int .i64 T.next) = w1 at *
 have t1 := (o1 rb hrn).trans htree.out
 have e3 : w1.cell? ⟨rb, 1, none⟩ = some (.int .i64 T.next) := cell_of t1 rfl
 have f3 : w1.frozen? ⟨rb, 1, none⟩ = false := by simp [World.frozen?, t1]
 replace n1 := hid n1
 replace o1 := hid o1
 replace z1 := hid z1
 replace s1 := hid s1
 replace t1 := hid t1
 clear e1 e2 f2
 go_upto_region 2 with fail
 have t2 : (w1.setCell ⟨rb, 1, none⟩ (.int .i64 ((T.next : Int) + 1))).heap[rb]? = some (.cells #[.slice (some ⟨g, 0, none⟩) T.names.length c, .int .i64 ((T.next : Int) + 1)] 60 (0, 0)) := heap_set_same t1.out 1 _
 have o2 : ∀ b, b ≠ rb → (w1.setCell ⟨rb, 1, none⟩ (.int .i64 ((T.next : Int) + 1))).heap[b]? = w1.heap[b]? := fun b hb => heap_set_other w1 hb 1 _
 have z2 : (w1.setCell ⟨rb, 1, none⟩ (.int .i64 ((T.next : Int) + 1))).heap.size = w1.heap.size := heap_set_size _ _ _
 have s2 : (w1.setCell ⟨rb, 1, none⟩ (.int .i64 ((T.next : Int) + 1))).os = w1.os ∧ (w1.setCell ⟨rb, 1, none⟩ (.int .i64 ((T.next : Int) + 1))).tape = w1.tape ∧ (w1.setCell ⟨rb, 1, none⟩ (.int .i64 ((T.next : Int) + 1))).output = w1.output := ⟨rfl, rfl, rfl⟩
 generalize w1.setCell ⟨rb, 1, none⟩ (.int .i64 ((T.next : Int) + 1)) = w2 at *
 have n2 := (o2 nb (Ne.symm hrn)).trans n1.out
 have hrow2 : w2.ownsRow 0 98 2 (.slice (some ⟨g, 0, none⟩) T.names.length c) T.names.length (rrow A T.names) := own_blocks hrow.out fun b hb => (o2 b (fun e => hvr (e ▸ hb))).trans (o1.out b (fun e => hvn (e ▸ hb)))
 have e4 : w2.cell? ⟨rb, 0, none⟩ = some (.slice (some ⟨g, 0, none⟩) T.names.length c) := cell_of t2 rfl
 replace n2 := hid n2
 replace t2 := hid t2
 replace o2 := hid o2
 replace z2 := hid z2
 replace s2 := hid s2
 replace hrow2 := hid hrow2
 clear e3 f3 hwr
 go_wp2_with (at_builtin; refine wp_append1 0 rfl (.tmp 24) (.tmp 28) 58 98 rfl Tryz.underlying58 (.agg #[.string ⟨#[]⟩, .pointer none]) 2 24 info_name rfl (by decide) (.slice (some ⟨g, 0, none⟩) T.names.length c) _ _ rfl [.string s, .pointer (some ⟨nb, 0, none⟩)] rfl hrow2.out rfl ?_ ?_ ?_ (Nat.zero_le _) ?_)
 ·simp [Value.oneCell']
 ·simp only [maxLen]; omega
 ·omega
 ·intro v1 w3 h1 hg hat
  obtain ⟨vA, vc, hv1, _, _⟩ := own_shape h1
  subst hv1
  have t3 := (hg.block rb (Array.getElem?_eq_some_iff.1 t2.out).1 (fun e => hvr e.symm)).trans t2.out
  have n3 := (hg.block nb (Array.getElem?_eq_some_iff.1 n2.out).1 (fun e => hvn e.symm)).trans n2.out
  have f5 : w3.frozen? ⟨rb, 0, none⟩ = false := by simp [World.frozen?, t3]
  have e5 : w3.cell? ⟨rb, 0, none⟩ = some (.slice (some ⟨g, 0, none⟩) T.names.length c) := cell_of t3 rfl
  have hv1r : (Value.slice vA (T.names.length + 1) vc).ownBlock ≠ some rb := fun e => by
   obtain ⟨_, cur, hc⟩ := own_cells h1 e
   exact types_apart t3 hc (by decide) rfl
  have hv1n : (Value.slice vA (T.names.length + 1) vc).ownBlock ≠ some nb := fun e => by
   obtain ⟨_, cur, hc⟩ := own_cells h1 e
   exact types_apart n3 hc (by decide) rfl
  have hend : RMade w (w3.setCell ⟨rb, 0, none⟩ (.slice vA (T.names.length + 1) vc)) rb (.slice (some ⟨g, 0, none⟩) T.names.length c) A T (split (bl s)) n nb := by
   have ht : Turn w (w3.setCell ⟨rb, 0, none⟩ (.slice vA (T.names.length + 1) vc)) (fun b => b = rb ∨ (Value.slice (some ⟨g, 0, none⟩) T.names.length c).ownBlock = some b ∨ b = nb) := by
    refine ⟨?_, ?_, ?_, ?_, fun b hb hno => ?_⟩
    ·exact hg.os.trans (s2.out.1.trans s1.out.1)
    ·exact hg.tape.trans (s2.out.2.1.trans s1.out.2.1)
    ·exact hg.output.trans (s2.out.2.2.trans s1.out.2.2)
    ·rw [heap_set_size]
     have := hg.size
     rw [z2.out, z1.out] at this
     exact this
    ·have hb1 : b ≠ rb := fun e => hno (Or.inl e)
     have hb2 : b ≠ nb := fun e => hno (Or.inr (Or.inr e))
     refine (heap_set_other w3 hb1 0 _).trans ((hg.block b (by rw [z2.out, z1.out]; exact hb) (fun e => hno (Or.inr (Or.inl e.symm)))).trans ((o2.out b hb1).trans (o1.out b hb2)))
   refine ⟨.slice vA (T.names.length + 1) vc, hfin.out _ _ ht ?_ ?_ ?_ ?_, ht, ?_⟩
   ·have := heap_set_same t3 0 (.slice vA (T.names.length + 1) vc)
    simpa using this
   ·exact own_blocks h1 fun b hb => heap_set_other w3 (fun e : b = rb => hv1r (by rw [← e]; exact hb)) 0 _
   ·exact (heap_set_other w3 (Ne.symm hrn) 0 _).trans n3
   ·refine hdv.out.kept fun b ⟨cs, hb⟩ => ?_
    have hlt := (Array.getElem?_eq_some_iff.1 hb).1
    refine ht.block b hlt ?_
    rintro (rfl | e | rfl)
    ·exact types_apart hb htree.out (by decide) rfl
    ·obtain ⟨_, h3⟩ := hR.out.row_type e
     exact types_apart hb h3 (by decide) rfl
    ·exact types_apart hb hnode.out (by decide) rfl
   ·rcases hat with e | ⟨b, e, hle⟩
    ·exact Or.inl e
    ·exact Or.inr ⟨b, e, by rw [z2.out, z1.out] at hle; exact hle⟩
  replace t3 := hid t3
  replace n3 := hid n3
  replace hend := hid hend
  clear h1 hg hat hv1r hv1n
  go_wp2
  go_end0
  exact ⟨rfl, hend.out⟩
end
end Go.Proofs.YtcjlfkklpghjbaaGreat

namespace Go.Proofs.YtcjlfkklpghjbaaGreat
open Go.RowKit
section
variable (rb : Nat) (v : Value) (A : Nat → Nat) (T : Fs)
set_option maxHeartbeats 2000000 in
set_option maxRecDepth 100000 in
theorem rmkdir_calls (s : ByteArray) (m : Mt) (w : World) (hR : RRep w rb v A T) (hs : s.size ≤ 16777216) (hnx : T.next < 4611686018427387904) (hf : T.names.length ≤ 1000000) :
  Calls Tryz.prog 45 #[ptr rb, .string s, mtV m] w fun e w' => e = .returned (.int .i64 (T.mkdir (bl s) m).2) ∧ RStp w w' rb v A T (T.mkdir (bl s) m).1 := by
 have h1 := fun W => rmay_calls s m W hs
 have h2 := fun W hW => rfresh_calls rb v A T s W hW hs
 have hfo := hR.inv.fresh_ok (s := bl s)
 unfold Fs.mkdir
 generalize mayE (bl s) m = me at *
 obtain ⟨a1, a2, a3, a4, a5⟩ := m
 unfold mtV mtCells ptr at *
 dsimp only at *
 have hB0 : Below w.heap.size w (w.alloc (.cells #[.int .i64 a1, .int .i64 a2, .int .i64 a3, .int .i64 a4, .int .i64 a5] 41)) := (Below.refl _ _).alloc (Nat.le_refl _) _
 have hblk := (MapKept.heap_alloc w (.cells #[.int .i64 a1, .int .i64 a2, .int .i64 a3, .int .i64 a4, .int .i64 a5] 41)).1
 have hlt0 : w.heap.size < (w.alloc (.cells #[.int .i64 a1, .int .i64 a2, .int .i64 a3, .int .i64 a4, .int .i64 a5] 41)).heap.size := by simp
 replace h1 := hid h1
 replace h2 := hid h2
 replace hblk := hid hblk
 replace hB0 := hid hB0
 replace hR := hid hR
 replace hlt0 := hid hlt0
 by_cases he : me = 0
 ·subst he
  rw [if_neg (by simp)]
  by_cases hf2 : (T.fresh (bl s)).2 = 0
  ·rw [if_neg (by simp [hf2])]
   obtain ⟨k1, k2, k3, d, k4, k5, k6⟩ := hfo hf2
   replace h2 := h2.out
   rw [hf2] at h2
   dsimp only
   replace h2 := hid h2
   replace k1 := hid k1
   replace k2 := hid k2
   replace k3 := hid k3
   replace k4 := hid k4
   replace k5 := hid k5
   replace k6 := hid k6
   replace hf2 := hid hf2
   clear hfo
   go_enter Tryz.func45, Tryz.ntmps45
   go_wp2_with fail
   (with_reducible refine (h1.out _).mono ?_)
   rintro e w1 ⟨rfl, hB1⟩
   have hB01 := below_step hB0.out hB1
   have h2' := h2.out w1 (hR.out.below hB01)
   replace hB01 := hid hB01
   replace h2' := hid h2'
   go_wp2_with fail
   (with_reducible refine (h2'.out).mono ?_)
   rintro e w2 ⟨rfl, hB2⟩
   have hB02 := below_step hB01.out hB2
   have hR2 := hR.out.below hB02
   have hblk2 := (hB2.block _ (Nat.lt_of_lt_of_le hlt0.out hB1.size)).trans ((hB1.block _ hlt0.out).trans hblk.out)
   have hB03 := below_alloc hB02 (.cells #[.int .i64 2, .int .i64 0, .slice none 0 0, .string ⟨#[]⟩, .int .i64 a1, .int .i64 a2, .int .i64 a3, .int .i64 a4, .int .i64 a5] 96)
   have hB23 := (Below.refl w2.heap.size w2).alloc (Nat.le_refl _) (.cells #[.int .i64 2, .int .i64 0, .slice none 0 0, .string ⟨#[]⟩, .int .i64 a1, .int .i64 a2, .int .i64 a3, .int .i64 a4, .int .i64 a5] 96)
   have hnb : ¬ ROwn rb v A T w2.heap.size := fun h => Nat.lt_irrefl _ (hR2.lt h)
   have hmk := rmake_calls rb v A T s d w2.heap.size ⟨2, 1, ⟨a1, a2, a3, a4, a5⟩, [], []⟩ (.slice none 0 0) _ (hR2.below hB23) k1.out k2.out k3.out k5.out k6.out rfl ⟨Or.inr (Or.inl rfl), by simp, by simp⟩ hnb (MapKept.heap_alloc w2 _).1 (dat_nil _) hnx hf
   unfold ptr at hmk
   have hbs := hB02.size
   have d0 := cell_of (j := 0) hblk2 (v := .int .i64 a1) rfl
   have d1 := cell_of (j := 1) hblk2 (v := .int .i64 a2) rfl
   have d2 := cell_of (j := 2) hblk2 (v := .int .i64 a3) rfl
   have d3 := cell_of (j := 3) hblk2 (v := .int .i64 a4) rfl
   have d4 := cell_of (j := 4) hblk2 (v := .int .i64 a5) rfl
   replace hB02 := hid hB02
   replace hR2 := hid hR2
   replace hblk2 := hid hblk2
   replace hB03 := hid hB03
   replace hB23 := hid hB23
   replace hnb := hid hnb
   replace hmk := hid hmk
   replace hbs := hid hbs
   clear hB1 hB2 h2'
   go_wp2_with fail
   (with_reducible refine (hmk.out).mono ?_)
   rintro e w3 ⟨rfl, hmd⟩
   have hst := RMade.stp hB03.out hbs.out hmd
   replace hst := hid hst
   clear hmd hmk
   go_wp2
   go_ret
   exact ⟨rfl, hst.out⟩
  ·rw [if_pos (by simpa using hf2)]
   dsimp only
   generalize (T.fresh (bl s)).2 = fe at *
   have hfe : (fe == 0) = false := by simpa using hf2
   replace hf2 := hid hf2
   clear hfo
   go_enter Tryz.func45, Tryz.ntmps45
   go_wp2_with fail
   (with_reducible refine (h1.out _).mono ?_)
   rintro e w1 ⟨rfl, hB1⟩
   have hB01 := below_step hB0.out hB1
   have h2' := h2.out w1 (hR.out.below hB01)
   replace hB01 := hid hB01
   replace h2' := hid h2'
   go_wp2_with fail
   (with_reducible refine (h2'.out).mono ?_)
   rintro e w2 ⟨rfl, hB2⟩
   have hst := RStp.same hR.out (below_step hB01.out hB2)
   replace hst := hid hst
   clear hB1 hB2 h2'
   go_wp2
   go_ret
   exact ⟨rfl, hst.out⟩
 ·rw [if_pos he]
  dsimp only
  have hme : (me == 0) = false := by simpa using he
  replace he := hid he
  clear hfo
  go_enter Tryz.func45, Tryz.ntmps45
  go_wp2_with fail
  (with_reducible refine (h1.out _).mono ?_)
  rintro e w1 ⟨rfl, hB1⟩
  have hst := RStp.same hR.out (below_step hB0.out hB1)
  replace hst := hid hst
  clear hB1
  go_wp2
  go_ret
  exact ⟨rfl, hst.out⟩
set_option maxHeartbeats 2000000 in
set_option maxRecDepth 100000 in
theorem rsymlink_calls (s tg : ByteArray) (m : Mt) (w : World) (hR : RRep w rb v A T) (hs : s.size ≤ 16777216) (hnx : T.next < 4611686018427387904) (hf : T.names.length ≤ 1000000) :
  Calls Tryz.prog 47 #[ptr rb, .string s, .string tg, mtV m] w fun e w' => e = .returned (.int .i64 (T.symlink (bl s) (bl tg) m).2) ∧ RStp w w' rb v A T (T.symlink (bl s) (bl tg) m).1 := by
 have h1 := fun W => rmay_calls s m W hs
 have h2 := fun W hW => rfresh_calls rb v A T s W hW hs
 have hfo := hR.inv.fresh_ok (s := bl s)
 have htn := str_nil tg
 have htl := bl_length tg
 unfold Fs.symlink
 generalize mayE (bl s) m = me at *
 obtain ⟨a1, a2, a3, a4, a5⟩ := m
 unfold mtV mtCells ptr at *
 dsimp only at *
 have hB0 : Below w.heap.size w (w.alloc (.cells #[.int .i64 a1, .int .i64 a2, .int .i64 a3, .int .i64 a4, .int .i64 a5] 41)) := (Below.refl _ _).alloc (Nat.le_refl _) _
 have hblk := (MapKept.heap_alloc w (.cells #[.int .i64 a1, .int .i64 a2, .int .i64 a3, .int .i64 a4, .int .i64 a5] 41)).1
 have hlt0 : w.heap.size < (w.alloc (.cells #[.int .i64 a1, .int .i64 a2, .int .i64 a3, .int .i64 a4, .int .i64 a5] 41)).heap.size := by simp
 replace h1 := hid h1
 replace h2 := hid h2
 replace hblk := hid hblk
 replace hB0 := hid hB0
 replace hR := hid hR
 replace hlt0 := hid hlt0
 by_cases he : me = 0
 ·subst he
  rw [if_neg (by simp)]
  by_cases ht0 : bl tg = []
  ·rw [if_pos ht0]
   dsimp only
   have ht1 : tg.toList.isEmpty = true := by rw [htn]; simpa using ht0
   replace ht0 := hid ht0
   replace htn := hid htn
   replace htl := hid htl
   clear hfo
   go_enter Tryz.func47, Tryz.ntmps47
   go_wp2_with fail
   (with_reducible refine (h1.out _).mono ?_)
   rintro e w1 ⟨rfl, hB1⟩
   have hst := RStp.same hR.out (below_step hB0.out hB1)
   replace hst := hid hst
   clear hB1
   go_wp2
   go_ret
   exact ⟨rfl, hst.out⟩
  ·rw [if_neg ht0]
   have ht1 : tg.toList.isEmpty = false := by rw [htn]; simpa using ht0
   by_cases ht2 : 200 < (bl tg).length
   ·rw [if_pos ht2]
    dsimp only
    rw [htl] at ht2
    replace ht0 := hid ht0
    replace htn := hid htn
    replace htl := hid htl
    clear hfo
    go_enter Tryz.func47, Tryz.ntmps47
    go_wp2_with fail
    (with_reducible refine (h1.out _).mono ?_)
    rintro e w1 ⟨rfl, hB1⟩
    have hst := RStp.same hR.out (below_step hB0.out hB1)
    replace hst := hid hst
    clear hB1
    go_wp2
    go_ret
    exact ⟨rfl, hst.out⟩
   ·rw [if_neg ht2]
    rw [htl] at ht2
    have ht3 : decide (200 < (tg.size : Int)) = false := by simp; omega
    by_cases hf2 : (T.fresh (bl s)).2 = 0
    ·rw [if_neg (by simp [hf2])]
     obtain ⟨k1, k2, k3, d, k4, k5, k6⟩ := hfo hf2
     replace h2 := h2.out
     rw [hf2] at h2
     dsimp only
     replace h2 := hid h2
     replace k1 := hid k1
     replace k2 := hid k2
     replace k3 := hid k3
     replace k4 := hid k4
     replace k5 := hid k5
     replace k6 := hid k6
     replace hf2 := hid hf2
     replace ht0 := hid ht0
     replace htn := hid htn
     replace ht2 := hid ht2
     clear hfo
     go_enter Tryz.func47, Tryz.ntmps47
     go_wp2_with fail
     (with_reducible refine (h1.out _).mono ?_)
     rintro e w1 ⟨rfl, hB1⟩
     have hB01 := below_step hB0.out hB1
     have h2' := h2.out w1 (hR.out.below hB01)
     replace hB01 := hid hB01
     replace h2' := hid h2'
     go_wp2_with fail
     (with_reducible refine (h2'.out).mono ?_)
     rintro e w2 ⟨rfl, hB2⟩
     have hB02 := below_step hB01.out hB2
     have hR2 := hR.out.below hB02
     have hblk2 := (hB2.block _ (Nat.lt_of_lt_of_le hlt0.out hB1.size)).trans ((hB1.block _ hlt0.out).trans hblk.out)
     have hB03 := below_alloc hB02 (.cells #[.int .i64 3, .int .i64 0, .slice none 0 0, .string tg, .int .i64 a1, .int .i64 a2, .int .i64 a3, .int .i64 a4, .int .i64 a5] 96)
     have hB23 := (Below.refl w2.heap.size w2).alloc (Nat.le_refl _) (.cells #[.int .i64 3, .int .i64 0, .slice none 0 0, .string tg, .int .i64 a1, .int .i64 a2, .int .i64 a3, .int .i64 a4, .int .i64 a5] 96)
     have hnb : ¬ ROwn rb v A T w2.heap.size := fun h => Nat.lt_irrefl _ (hR2.lt h)
     have hnode : (w2.alloc (.cells #[.int .i64 3, .int .i64 0, .slice none 0 0, .string tg, .int .i64 a1, .int .i64 a2, .int .i64 a3, .int .i64 a4, .int .i64 a5] 96)).heap[w2.heap.size]? = some (.cells (rnode ⟨3, 1, ⟨a1, a2, a3, a4, a5⟩, bl tg, []⟩ 0 (.slice none 0 0)) 96 (0, 0)) := by
      unfold rnode
      dsimp only
      rw [mkS_bl]
      exact (MapKept.heap_alloc w2 _).1
     have hmk := rmake_calls rb v A T s d w2.heap.size ⟨3, 1, ⟨a1, a2, a3, a4, a5⟩, bl tg, []⟩ (.slice none 0 0) _ (hR2.below hB23) k1.out k2.out k3.out k5.out k6.out rfl ⟨Or.inr (Or.inr rfl), by simp, ⟨fun _ => rfl, fun h => absurd rfl h, by dsimp only; rw [htl]; have := ht2.out; omega⟩⟩ hnb hnode (dat_nil _) hnx hf
     unfold ptr at hmk
     have hbs := hB02.size
     have d0 := cell_of (j := 0) hblk2 (v := .int .i64 a1) rfl
     have d1 := cell_of (j := 1) hblk2 (v := .int .i64 a2) rfl
     have d2 := cell_of (j := 2) hblk2 (v := .int .i64 a3) rfl
     have d3 := cell_of (j := 3) hblk2 (v := .int .i64 a4) rfl
     have d4 := cell_of (j := 4) hblk2 (v := .int .i64 a5) rfl
     replace hB02 := hid hB02
     replace hR2 := hid hR2
     replace hblk2 := hid hblk2
     replace hB03 := hid hB03
     replace hB23 := hid hB23
     replace hnb := hid hnb
     replace hmk := hid hmk
     replace hbs := hid hbs
     replace htl := hid htl
     replace hnode := hid hnode
     clear hB1 hB2 h2'
     go_wp2_with fail
     (with_reducible refine (hmk.out).mono ?_)
     rintro e w3 ⟨rfl, hmd⟩
     have hst := RMade.stp hB03.out hbs.out hmd
     replace hst := hid hst
     clear hmd hmk
     go_wp2
     go_ret
     exact ⟨rfl, hst.out⟩
    ·rw [if_pos (by simpa using hf2)]
     dsimp only
     generalize (T.fresh (bl s)).2 = fe at *
     have hfe : (fe == 0) = false := by simpa using hf2
     replace hf2 := hid hf2
     replace ht0 := hid ht0
     replace htn := hid htn
     replace ht2 := hid ht2
     replace htl := hid htl
     clear hfo
     go_enter Tryz.func47, Tryz.ntmps47
     go_wp2_with fail
     (with_reducible refine (h1.out _).mono ?_)
     rintro e w1 ⟨rfl, hB1⟩
     have hB01 := below_step hB0.out hB1
     have h2' := h2.out w1 (hR.out.below hB01)
     replace hB01 := hid hB01
     replace h2' := hid h2'
     go_wp2_with fail
     (with_reducible refine (h2'.out).mono ?_)
     rintro e w2 ⟨rfl, hB2⟩
     have hst := RStp.same hR.out (below_step hB01.out hB2)
     replace hst := hid hst
     clear hB1 hB2 h2'
     go_wp2
     go_ret
     exact ⟨rfl, hst.out⟩
 ·rw [if_pos he]
  dsimp only
  have hme : (me == 0) = false := by simpa using he
  replace he := hid he
  replace htn := hid htn
  replace htl := hid htl
  clear hfo
  go_enter Tryz.func47, Tryz.ntmps47
  go_wp2_with fail
  (with_reducible refine (h1.out _).mono ?_)
  rintro e w1 ⟨rfl, hB1⟩
  have hst := RStp.same hR.out (below_step hB0.out hB1)
  replace hst := hid hst
  clear hB1
  go_wp2
  go_ret
  exact ⟨rfl, hst.out⟩
end
end Go.Proofs.YtcjlfkklpghjbaaGreat

namespace Go.Proofs.YtcjlfkklpghjbaaGreat
open Go.RowKit
theorem Turn.set {a b : World} {S : Nat → Prop} {x : Nat} (h : Turn a b S) (hx : S x) (k : Nat) (u : Value) : Turn a (b.setCell ⟨x, k, none⟩ u) S :=
 ⟨h.os, h.tape, h.output, by rw [heap_set_size]; exact h.size, fun i hi hn => (heap_set_other b (fun e : i = x => hn (by rw [e]; exact hx)) k u).trans (h.block i hi hn)⟩
section
variable {W : World} {rb : Nat} {v : Value} {A : Nat → Nat} {T : Fs}
theorem rmt_stp {p : Pt} {i : Nat} (hR : RRep W rb v A T) (hi : (p, i) ∈ T.names) (a1 a2 a3 a4 a5 : Int) :
  RStp W (((((W.setCell ⟨A i, 4, none⟩ (.int .i64 a1)).setCell ⟨A i, 5, none⟩ (.int .i64 a2)).setCell ⟨A i, 6, none⟩ (.int .i64 a3)).setCell ⟨A i, 7, none⟩ (.int .i64 a4)).setCell ⟨A i, 8, none⟩ (.int .i64 a5)) rb v A T (T.set i { T.nd i with mt := ⟨a1, a2, a3, a4, a5⟩ }) := by
 obtain ⟨dv, hd, hn⟩ := hR.node i ⟨p, hi⟩
 have ht : Turn W (((((W.setCell ⟨A i, 4, none⟩ (.int .i64 a1)).setCell ⟨A i, 5, none⟩ (.int .i64 a2)).setCell ⟨A i, 6, none⟩ (.int .i64 a3)).setCell ⟨A i, 7, none⟩ (.int .i64 a4)).setCell ⟨A i, 8, none⟩ (.int .i64 a5)) (fun b => b = A i) :=
  (((((Turn.refl W (fun b => b = A i)).set rfl _ _).set rfl _ _).set rfl _ _).set rfl _ _).set rfl _ _
 have hN := hR.inv.ok hi
 refine rrep_set hR hi ⟨hN.kind, hN.data, hN.plain⟩ rfl rfl ht (dv := dv) ?_ ?_
 ·exact heap_set_same (heap_set_same (heap_set_same (heap_set_same (heap_set_same hn 4 _) 5 _) 6 _) 7 _) 8 _
 ·exact hd.kept fun g ⟨cs, hg⟩ => ht.block g (Array.getElem?_eq_some_iff.1 hg).1 fun e => types_apart hg hn (by decide) e
theorem rdata_stp {p : Pt} {i : Nat} {u : Value} {l : Bytes} (hR : RRep W rb v A T) (hi : (p, i) ∈ T.names) (hk : (T.nd i).kind = 1) (hl : l.length ≤ 65536) (hu : Dat W u l) :
  RStp W (W.setCell ⟨A i, 2, none⟩ u) rb v A T (T.set i { T.nd i with data := l }) := by
 obtain ⟨dv, hd, hn⟩ := hR.node i ⟨p, hi⟩
 have ht : Turn W (W.setCell ⟨A i, 2, none⟩ u) (fun b => b = A i) := (Turn.refl W (fun b => b = A i)).set rfl _ _
 have hN := hR.inv.ok hi
 refine rrep_set hR hi ⟨hN.kind, hl, ⟨fun h => absurd hk h, hN.plain.2.1, hN.plain.2.2⟩⟩ rfl rfl ht (dv := u) ?_ ?_
 ·exact heap_set_same hn 2 _
 ·exact hu.kept fun g ⟨cs, hg⟩ => ht.block g (Array.getElem?_eq_some_iff.1 hg).1 fun e => types_apart hg hn (by decide) e
theorem rall_stp {p : Pt} {i : Nat} {u : Value} {l : Bytes} (hR : RRep W rb v A T) (hi : (p, i) ∈ T.names) (hk : (T.nd i).kind = 1) (hl : l.length ≤ 65536) (hu : Dat W u l) (a1 a2 a3 a4 a5 : Int) :
  RStp W ((((((W.setCell ⟨A i, 2, none⟩ u).setCell ⟨A i, 4, none⟩ (.int .i64 a1)).setCell ⟨A i, 5, none⟩ (.int .i64 a2)).setCell ⟨A i, 6, none⟩ (.int .i64 a3)).setCell ⟨A i, 7, none⟩ (.int .i64 a4)).setCell ⟨A i, 8, none⟩ (.int .i64 a5)) rb v A T (T.set i { T.nd i with mt := ⟨a1, a2, a3, a4, a5⟩, data := l }) := by
 obtain ⟨dv, hd, hn⟩ := hR.node i ⟨p, hi⟩
 have ht : Turn W ((((((W.setCell ⟨A i, 2, none⟩ u).setCell ⟨A i, 4, none⟩ (.int .i64 a1)).setCell ⟨A i, 5, none⟩ (.int .i64 a2)).setCell ⟨A i, 6, none⟩ (.int .i64 a3)).setCell ⟨A i, 7, none⟩ (.int .i64 a4)).setCell ⟨A i, 8, none⟩ (.int .i64 a5)) (fun b => b = A i) :=
  ((((((Turn.refl W (fun b => b = A i)).set rfl _ _).set rfl _ _).set rfl _ _).set rfl _ _).set rfl _ _).set rfl _ _
 have hN := hR.inv.ok hi
 refine rrep_set hR hi ⟨hN.kind, hl, ⟨fun h => absurd hk h, hN.plain.2.1, hN.plain.2.2⟩⟩ rfl rfl ht (dv := u) ?_ ?_
 ·exact heap_set_same (heap_set_same (heap_set_same (heap_set_same (heap_set_same (heap_set_same hn 2 _) 4 _) 5 _) 6 _) 7 _) 8 _
 ·exact hu.kept fun g ⟨cs, hg⟩ => ht.block g (Array.getElem?_eq_some_iff.1 hg).1 fun e => types_apart hg hn (by decide) e
end
section
variable (rb : Nat) (v : Value) (A : Nat → Nat) (T : Fs)
set_option maxHeartbeats 2000000 in
set_option maxRecDepth 100000 in
theorem rset_calls (s : ByteArray) (m : Mt) (w : World) (hR : RRep w rb v A T) (hs : s.size ≤ 16777216) :
  Calls Tryz.prog 51 #[ptr rb, .string s, mtV m] w fun e w' => e = .returned (.int .i64 (T.setM (bl s) m).2) ∧ RStp w w' rb v A T (T.setM (bl s) m).1 := by
 have h1 := fun W => rmay_calls s m W hs
 have h2 := fun W hW => rthere_calls rb v A T s W hW hs
 have hft := file_there hR.inv (bl s)
 unfold Fs.setM
 generalize mayE (bl s) m = me at *
 obtain ⟨a1, a2, a3, a4, a5⟩ := m
 unfold mtV mtCells ptr at *
 dsimp only at *
 have hB0 : Below w.heap.size w (w.alloc (.cells #[.int .i64 a1, .int .i64 a2, .int .i64 a3, .int .i64 a4, .int .i64 a5] 41)) := (Below.refl _ _).alloc (Nat.le_refl _) _
 have hblk := (MapKept.heap_alloc w (.cells #[.int .i64 a1, .int .i64 a2, .int .i64 a3, .int .i64 a4, .int .i64 a5] 41)).1
 have hlt0 : w.heap.size < (w.alloc (.cells #[.int .i64 a1, .int .i64 a2, .int .i64 a3, .int .i64 a4, .int .i64 a5] 41)).heap.size := by simp
 replace h1 := hid h1
 replace hblk := hid hblk
 replace hB0 := hid hB0
 replace hR := hid hR
 replace hlt0 := hid hlt0
 by_cases he : me = 0
 ·subst he
  rw [if_neg (by simp)]
  rcases hft with ⟨hz, _⟩ | ⟨i, hz, h3, hm, hrs, _⟩
  ·rw [if_pos (by simpa using hz)]
   dsimp only
   generalize (T.there (bl s)).2.2 = fe at *
   generalize (T.there (bl s)).1 = n at *
   have hn : ∃ a, optPtr A n = .pointer a := by cases n <;> exact ⟨_, rfl⟩
   obtain ⟨a, hn⟩ := hn
   simp only [hn] at h2
   have hfe : (fe == 0) = false := by simpa using hz
   replace hz := hid hz
   replace hn := hid hn
   replace h2 := hid h2
   go_enter Tryz.func51, Tryz.ntmps51
   go_wp2_with fail
   (with_reducible refine (h1.out _).mono ?_)
   rintro e w1 ⟨rfl, hB1⟩
   have hB01 := below_step hB0.out hB1
   have h2' := h2.out w1 (hR.out.below hB01)
   replace hB01 := hid hB01
   replace h2' := hid h2'
   go_wp2_with fail
   (with_reducible refine (h2'.out).mono ?_)
   rintro e w2 ⟨rfl, hB2⟩
   have hst := RStp.same hR.out (below_step hB01.out hB2)
   replace hst := hid hst
   clear hB1 hB2 h2'
   go_wp2
   go_ret
   exact ⟨rfl, hst.out⟩
  ·rw [if_neg (by simpa using hz), h3]
   dsimp only
   simp only [hz, h3, optPtr_some] at h2
   replace h2 := hid h2
   replace h3 := hid h3
   replace hz := hid hz
   go_enter Tryz.func51, Tryz.ntmps51
   go_wp2_with fail
   (with_reducible refine (h1.out _).mono ?_)
   rintro e w1 ⟨rfl, hB1⟩
   have hB01 := below_step hB0.out hB1
   have h2' := h2.out w1 (hR.out.below hB01)
   replace hB01 := hid hB01
   replace h2' := hid h2'
   go_wp2_with fail
   (with_reducible refine (h2'.out).mono ?_)
   rintro e w2 ⟨rfl, hB2⟩
   have hB02 := below_step hB01.out hB2
   have hR2 := hR.out.below hB02
   have hblk2 := (hB2.block _ (Nat.lt_of_lt_of_le hlt0.out hB1.size)).trans ((hB1.block _ hlt0.out).trans hblk.out)
   have d0 := cell_of (j := 0) hblk2 (v := .int .i64 a1) rfl
   have d1 := cell_of (j := 1) hblk2 (v := .int .i64 a2) rfl
   have d2 := cell_of (j := 2) hblk2 (v := .int .i64 a3) rfl
   have d3 := cell_of (j := 3) hblk2 (v := .int .i64 a4) rfl
   have d4 := cell_of (j := 4) hblk2 (v := .int .i64 a5) rfl
   obtain ⟨dv, _, hnode⟩ := hR2.node i ⟨_, hm⟩
   have f1 : ∀ k, w2.frozen? ⟨A i, k, none⟩ = false := fun k => by simp [World.frozen?, hnode]
   have c4 : w2.cell? ⟨A i, 4, none⟩ = some (.int .i64 (T.nd i).mt.mode) := cell_of hnode rfl
   have c5 : w2.cell? ⟨A i, 5, none⟩ = some (.int .i64 (T.nd i).mt.sec) := cell_of hnode rfl
   have c6 : w2.cell? ⟨A i, 6, none⟩ = some (.int .i64 (T.nd i).mt.nano) := cell_of hnode rfl
   have c7 : w2.cell? ⟨A i, 7, none⟩ = some (.int .i64 (T.nd i).mt.uid) := cell_of hnode rfl
   have c8 : w2.cell? ⟨A i, 8, none⟩ = some (.int .i64 (T.nd i).mt.gid) := cell_of hnode rfl
   have hst := (rmt_stp hR2 hm a1 a2 a3 a4 a5).after hB02
   replace hst := hid hst
   replace hB02 := hid hB02
   replace hR2 := hid hR2
   replace hblk2 := hid hblk2
   replace hnode := hid hnode
   clear hB1 hB2 h2'
   go_wp2
   go_ret
   exact ⟨rfl, hst.out⟩
 ·rw [if_pos he]
  dsimp only
  have hme : (me == 0) = false := by simpa using he
  have hme2 : (me != 0) = true := by simpa using he
  replace he := hid he
  replace h2 := hid h2
  go_enter Tryz.func51, Tryz.ntmps51
  go_wp2_with fail
  (with_reducible refine (h1.out _).mono ?_)
  rintro e w1 ⟨rfl, hB1⟩
  have hst := RStp.same hR.out (below_step hB0.out hB1)
  replace hst := hid hst
  clear hB1
  go_wp2
  go_ret
  exact ⟨rfl, hst.out⟩
set_option maxHeartbeats 2000000 in
set_option maxRecDepth 100000 in
theorem rappend_calls (s : ByteArray) (u : Value) (b : Bytes) (w : World) (hR : RRep w rb v A T) (hs : s.size ≤ 16777216) (hv : RdB w u b) (hbl : b.length ≤ 1000000) :
  Calls Tryz.prog 52 #[ptr rb, .string s, u] w fun e w' => e = .returned (.int .i64 (T.append (bl s) b).2) ∧ RStp w w' rb v A T (T.append (bl s) b).1 := by
 have h1 := rfile_calls rb v A T s w hR hs
 have hft := file_there hR.inv (bl s)
 obtain ⟨uA, uc, hu, hu1, hu2⟩ : ∃ A c, u = .slice A b.length c ∧ b.length ≤ c ∧ c ≤ maxLen := by
  obtain ⟨A', c, h1, h2, h3, _⟩ := hv
  exact ⟨A', c, h1, h2, h3⟩
 subst hu
 unfold maxLen at hu2
 unfold Fs.append
 unfold Fs.fileOk at h1
 by_cases hz : (T.file (bl s)).2 = 0
 ·rw [if_pos hz] at h1
  rw [if_neg (by simpa using hz)]
  rcases hft with ⟨hz1, hfe⟩ | ⟨i, hz1, h3, hm, hrs, hfe⟩
  ·rw [hfe] at hz
   exact absurd hz hz1
  ·rw [hz] at h1
   rw [hfe] at h1 hz ⊢
   dsimp only at h1 hz ⊢
   rw [optPtr_some] at h1
   have hdl := hR.inv.data _ _ hm
   have hk : (T.nd i).kind = 1 := by
    unfold notFile at hz
    rcases hR.inv.kinds _ _ hm with h | h | h
    ·exact h
    ·rw [if_pos h] at hz; cases hz
    ·rw [if_neg (by rw [h]; decide), if_pos h] at hz; cases hz
   unfold ptr at *
   by_cases hbig : 65536 < (T.nd i).data.length + b.length
   ·rw [if_pos hbig]
    replace h1 := hid h1
    replace hz := hid hz
    replace h3 := hid h3
    replace hfe := hid hfe
    replace hz1 := hid hz1
    replace hk := hid hk
    go_enter Tryz.func52, Tryz.ntmps52
    go_wp2_with fail
    (with_reducible refine (h1.out).mono ?_)
    rintro e w1 ⟨rfl, hB1⟩
    have hst := RStp.same hR hB1
    obtain ⟨dv, hd, _, _, n2, _⟩ := (hR.below hB1).cells ⟨_, hm⟩
    obtain ⟨dA, dc, rfl, hd1, hd2⟩ := hd.shape
    unfold maxLen at hd2
    have hbig2 : (65536 : Int) < ((T.nd i).data.length : Int) + (b.length : Int) := by omega
    replace hst := hid hst
    replace hd := hid hd
    replace hB1 := hid hB1
    replace hR := hid hR
    replace hv := hid hv
    go_wp2
    go_ret
    exact ⟨rfl, hst.out⟩
   ·rw [if_neg hbig]
    dsimp only
    have hbig2 : ¬ (65536 : Int) < ((T.nd i).data.length : Int) + (b.length : Int) := by omega
    replace h1 := hid h1
    replace hz := hid hz
    replace h3 := hid h3
    replace hfe := hid hfe
    replace hz1 := hid hz1
    go_enter Tryz.func52, Tryz.ntmps52
    go_wp2_with fail
    (with_reducible refine (h1.out).mono ?_)
    rintro e w1 ⟨rfl, hB1⟩
    have hR1 := hR.below hB1
    have hB12 := (Below.refl w1.heap.size w1).alloc (Nat.le_refl _) (.cells #[] 5)
    have hR2 := hR1.below hB12
    obtain ⟨dv, hd0, _, _, n2', _⟩ := hR1.cells ⟨_, hm⟩
    have n2 := (hB12.cell (cell_lt n2')).trans n2'
    have hd : Dat (w1.alloc (.cells #[] 5)) dv (T.nd i).data := hd0.kept fun g ⟨_, hg⟩ => hB12.block g (Array.getElem?_eq_some_iff.1 hg).1
    have hown := own_made w1 w1.heap.size 5 1 0 [] (Nat.le_refl _) rfl (by simp [maxLen])
    obtain ⟨dA, dc, rfl, hd1, hd2⟩ := hd.shape
    unfold maxLen at hd2
    have hsrc := hd.rdb.src
    replace hR := hid hR
    replace hR1 := hid hR1
    replace hR2 := hid hR2
    replace hB1 := hid hB1
    replace hB12 := hid hB12
    replace hd := hid hd
    replace hd0 := hid hd0
    replace hown := hid hown
    replace hsrc := hid hsrc
    replace hv := hid hv
    replace hk := hid hk
    go_wp2_with (at_builtin; refine wp_append_any w1.heap.size rfl (.tmp 28) (.tmp 32) 39 5 rfl Tryz.underlying39 (.int .u8 0) 1 1 info_u8 rfl (by decide) (.slice (some ⟨w1.heap.size, 0, none⟩) 0 0) 0 [] rfl (.slice dA (T.nd i).data.length dc) (T.nd i).data.length (byteCells (T.nd i).data) rfl hsrc.out hown.out ?_ ?_ ?_ (by simp) ?_)
    ·simp [byteCells, Value.oneCell']
    ·simp only [maxLen]; omega
    ·omega
    ·intro v1 w3 g1 hg hat
     have hS3 : Byts w1.heap.size w3 v1 (T.nd i).data := by
      unfold Byts
      simpa using g1
     have hB3 : Below w1.heap.size w1 w3 := hB12.out.grown hg (by simp) (own_base hown.out)
     obtain ⟨oA, oc, ho, ho1, ho2⟩ := own_shape hS3.own
     subst ho
     unfold maxLen at ho2
     have hsrc3 := ((hv.out.below hB1.out).below hB3).src
     have hown3 := hS3.own
     replace hS3 := hid hS3
     replace hB3 := hid hB3
     replace hsrc3 := hid hsrc3
     replace hown3 := hid hown3
     clear g1 hg hat
     go_wp2_with (at_builtin; refine wp_append_any w1.heap.size rfl (.tmp 33) (.tmp 34) 39 5 rfl Tryz.underlying39 (.int .u8 0) 1 1 info_u8 rfl (by decide) (.slice oA (T.nd i).data.length oc) (T.nd i).data.length (byteCells (T.nd i).data) rfl (.slice uA b.length uc) b.length (byteCells b) rfl hsrc3.out hown3.out ?_ ?_ ?_ hB3.out.size ?_)
     ·simp [byteCells, Value.oneCell']
     ·simp only [maxLen]; omega
     ·omega
     ·intro v2 w4 g2 hg2 hat2
      have hS4 : Byts w1.heap.size w4 v2 ((T.nd i).data ++ b) := by
       unfold Byts
       rw [byteCells_append, List.length_append]
       exact g2
      have hB4 : Below w1.heap.size w1 w4 := hB3.out.grown hg2 hB3.out.size (own_base hown3.out)
      have hR4 := hR1.out.below hB4
      have hst := (rdata_stp hR4 hm hk.out (by rw [List.length_append]; omega) hS4.dat).after (below_step hB1.out hB4)
      obtain ⟨dv4, _, hnode4⟩ := hR4.node i ⟨_, hm⟩
      have c2 : w4.cell? ⟨A i, 2, none⟩ = some dv4 := cell_of hnode4 rfl
      have f2 : w4.frozen? ⟨A i, 2, none⟩ = false := by simp [World.frozen?, hnode4]
      obtain ⟨qA, qc, hq, hq1, hq2⟩ := own_shape hS4.own
      subst hq
      simp only [List.length_append] at hst
      replace hst := hid hst
      replace hS4 := hid hS4
      replace hB4 := hid hB4
      replace hR4 := hid hR4
      replace hnode4 := hid hnode4
      clear g2 hg2 hat2
      go_wp2
      go_ret
      exact ⟨rfl, by have := hst.out; simpa only [List.length_append] using this⟩
 ·rw [if_neg hz] at h1
  rw [if_pos (by simpa using hz)]
  dsimp only
  have he2 : ((T.file (bl s)).2 == 0) = false := by simpa using hz
  have he3 : ((T.file (bl s)).2 != 0) = true := by simpa using hz
  generalize (T.file (bl s)).2 = e at *
  rw [optPtr_none] at h1
  unfold ptr at *
  replace h1 := hid h1
  replace hz := hid hz
  go_enter Tryz.func52, Tryz.ntmps52
  go_wp2_with fail
  (with_reducible refine (h1.out).mono ?_)
  rintro e w1 ⟨rfl, hB⟩
  have hst := RStp.same hR hB
  replace hst := hid hst
  replace hB := hid hB
  replace hR := hid hR
  replace hv := hid hv
  go_wp2
  go_ret
  exact ⟨rfl, hst.out⟩
end
end Go.Proofs.YtcjlfkklpghjbaaGreat
