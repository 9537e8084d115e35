/-
  Small words for the walks of this seat: blocks that are known whole, worlds that only grew.
  Paths as lists of bytes: their parts, their order; plain laws.
  A tree of files, directories and links as a list of names: the plain law's own words, with no program in sight.
  Maps whose entries are a list, up to its order: what the operations do with them, whatever the keys and the elements.
  The parts of a path: the walks of path.Split and of the reference's Split.
  The reference's Split.
  What is a part, what is a path: the walks of path.Right and of the reference's, and of what they call.
  What is a path: the walks of path.Right and of the reference's Right.
  The last place of a byte in a text: strings.LastIndexByte.
  The parent of a path: path.Parent, and the reference's Parent with what it calls.
  The reference's Parent, and glue.
  The program's tree in memory: which blocks hold the tree of the plain law, and what leaves them as they are.
  Maps whose keys are pointers to blocks of cells.
  What is told of a path: the plain law's Stat, Read and List.
  What the tree's calls do to the plain law's tree: a new thing, another record of a thing, another name, a name that goes.
  A name that goes; what stands in a directory behind each change.
  A name that becomes another one, with all that is below it.
  What stands in each directory behind a move.
  tree.at: what stands at a path.
  The last part of a path: path.Base.
  tree.look, there, fresh, file: a path is looked up.
  tree.there, fresh, file, tell, may, meta.Check: the small steps of the tree's calls.
  meta.Check, tree.may and tree.tell.
  tree.tell, Stat and Read: what is told of a thing.
  tree.Stat and Read.
  tree.Read.
  The order of paths, and what lies under what: cmp.Compare, slices.Compare, slices.Equal, path.Under, the closure of path.Sort; the reference's Under and Less.
  The parts of the stable sort that move elements: slices.swapRangeCmpFunc, slices.rotateCmpFunc, over a row of strings that is known whole.
  The insertion sort of paths: slices.insertionSortCmpFunc with path.Sort's comparison.
-/
import Derived.Test.YtcjlfkklpghjbaaGreatProg
import Derived.Below
import Derived.Deep.Draws
import Derived.OwnWalk
import Derived.Laws.MakeOwn
import Derived.Laws.OwnMore
import Derived.Deep.OwnRows
import Derived.Tactics
import Derived.Laws.Slices
import Derived.WalkKit
import Derived.KernelRfl
import Derived.RowKit3
import Derived.Deep.LoopGhost
import Derived.Deep.QuietTactic
import Derived.BigQuiet
import Derived.WideLaws
import Derived.Deep.DeepCutAuto
import Derived.Deep.RegionHeld3
import Derived.Laws.Rows
import Derived.Laws.IdiomCopy
import Derived.Laws.BitsLemmas
import Derived.RegionTactic
import Derived.BigRegion
import Derived.Outline
import Derived.Maps.AppendAt
import Derived.Deep.AppendLies
import Derived.Lib.Hide
import Derived.Lib.SliceRun
import Derived.WalkSpells
import Derived.WalkLawsBesides
import Derived.Maps.Ext
import Derived.Maps.RangeWalk
import Derived.Maps.OwnSet
import Derived.Lib.OthersKept
import Derived.Laws.RangeAny
import Derived.Lib.Bytealg
import Derived.Lib.AppendStr
import Derived.Laws.BytesArg
import Derived.LaidEqlPtr
import Derived.Maps.OwnOps
import Derived.Test.YtcjlfkklpghjbaaGreatShelf
import Derived.StillTailTactics
import Derived.RegionCalls
import Derived.IntWalk
set_option linter.unusedVariables false
set_option linter.unusedSimpArgs false
open Go.Lib (hid)

namespace Go.Proofs.YtcjlfkklpghjbaaGreat
open Go.RowKit
theorem below_drewN {B : Nat} {w W : World} (h : Below B w W) (n : Nat) : Below B w (W.drewN n) := ⟨h.os, h.tape, h.output, h.size, h.block⟩
theorem below_step {w W w2 : World} (h : Below w.heap.size w W) (k : Below W.heap.size W w2) : Below w.heap.size w w2 := h.trans (k.mono h.size)
theorem below_alloc {w W : World} (h : Below w.heap.size w W) (o : Obj) : Below w.heap.size w (W.alloc o) := h.alloc h.size o
/-- Min and max of ints, as one value. -/
def mn (a b : Int) : Int := if b < a then b else a
def mx (a b : Int) : Int := if a < b then b else a
theorem run_max2 (k k' : IntKind) (x y : Int) : Builtin.max2 (.int k x) (.int k' y) = pure (.int k (mx x y)) := by simp only [Builtin.max2, mx, gt_iff_lt]
theorem run_min2 (k k' : IntKind) (x y : Int) : Builtin.min2 (.int k x) (.int k' y) = pure (.int k (mn x y)) := by simp only [Builtin.min2, mn]
theorem run_max_two (ats : Array TypeId) (ty : TypeId) (a b : Value) : Builtin.max_ ats ty #[a, b] = (Builtin.max2 a b >>= fun s => pure s) := by simp only [Builtin.max_, List.foldlM_cons, List.foldlM_nil]
theorem run_min_two (ats : Array TypeId) (ty : TypeId) (a b : Value) : Builtin.min_ ats ty #[a, b] = (Builtin.min2 a b >>= fun s => pure s) := by simp only [Builtin.min_, List.foldlM_cons, List.foldlM_nil]
theorem run_min_three (ats : Array TypeId) (ty : TypeId) (a b c : Value) : Builtin.min_ ats ty #[a, b, c] = (Builtin.min2 a b >>= fun s => Builtin.min2 s c >>= fun s => pure s) := by simp only [Builtin.min_, List.foldlM_cons, List.foldlM_nil]
attribute [go_sem] run_max2 run_min2 run_max_two run_min_two run_min_three
theorem ret_str {a b : ByteArray} (h : a = b) : Ending.returned (.string a) = .returned (.string b) := by rw [h]
/-- What is owned: its block lies from 'base' on, and inside the heap. -/
theorem own_rel {w : World} {base : Nat} {e : TypeId} {size n : Nat} {v : Value} {xs : List Value} (h : w.ownsRow base e size v n xs) : v.ownBlock = none ∨ ∃ b, v.ownBlock = some b ∧ base ≤ b ∧ b < w.heap.size := by
 cases hk : v.ownBlock with
 | none => exact .inl rfl
 | some b => exact .inr ⟨b, rfl, h.lt b hk⟩
theorem own_shape {w : World} {base : Nat} {e : TypeId} {size n : Nat} {v : Value} {xs : List Value} (h : w.ownsRow base e size v n xs) : ∃ A c, v = .slice A n c ∧ n ≤ c ∧ c ≤ maxLen := by
 rcases h.2 with ⟨rfl, rfl⟩ | ⟨g, cap, cur, rfl, _, _, h3, h4, _⟩
 ·exact ⟨none, 0, rfl, Nat.le_refl _, by simp [maxLen]⟩
 ·exact ⟨_, cap, rfl, h3, h4⟩
theorem own_at {w : World} {base : Nat} {e : TypeId} {size n : Nat} {v : Value} {xs : List Value} (h : w.ownsRow base e size v n xs) (hn : 0 < n) : ∃ g c, v = .slice (some ⟨g, 0, none⟩) n c ∧ base ≤ g ∧ n ≤ c ∧ c ≤ maxLen ∧ v.ownBlock = some g ∧
  ∀ j u, xs[j]? = some u → w.cell? ⟨g, j, none⟩ = some u := by
 rcases h.2 with ⟨_, h0⟩ | ⟨g, cap, cur, rfl, hb, hh, h3, h4, h5, h6⟩
 ·omega
 ·refine ⟨g, cap, rfl, hb, h3, h4, rfl, fun j u hj => ?_⟩
  rw [cell_of_row w g j cur e (0, 0) hh]
  rw [← h6] at hj
  have hlt : j < (cur.toList.take (n * size)).length := (List.getElem?_eq_some_iff.1 hj).1
  rw [List.getElem?_take] at hj
  split at hj
  ·simpa using hj
  ·cases hj
theorem own_kept {w w1 : World} {base : Nat} {e : TypeId} {size n : Nat} {v : Value} {xs : List Value} (h : w.ownsRow base e size v n xs) {row : Option Nat} (hg : w.grownBy w1 row) (hne : ∀ b, v.ownBlock = some b → some b ≠ row) : w1.ownsRow base e size v n xs :=
 h.kept hg (by cases hk : v.ownBlock with
  | none => exact .inl rfl
  | some b => exact .inr (hne b hk))
theorem grown_below {w w1 : World} (h : Below w.heap.size w w1) (row : Option Nat) : w.grownBy w1 row := ⟨h.os, h.tape, h.output, h.size, fun i hi _ => h.block i hi⟩
theorem own_below {w w1 : World} {base : Nat} {e : TypeId} {size n : Nat} {v : Value} {xs : List Value} (h : w.ownsRow base e size v n xs) (hb : Below w.heap.size w w1) : w1.ownsRow base e size v n xs :=
 own_kept h (grown_below hb none) (fun _ _ => by simp)
theorem own_drewN {w : World} {base : Nat} {e : TypeId} {size n : Nat} {v : Value} {xs : List Value} (h : w.ownsRow base e size v n xs) (k : Nat) : (w.drewN k).ownsRow base e size v n xs := h
/-- 'append(v, x)' of one element behind its literal: v is the call's own. -/
theorem wp_append1 {P : Program} {ops : Array Oper} {rest : List Oper} {o : Oper} {a : Act} {Q : Exit → Act → World → Prop} {W : World} (base : Nat) (hgd : o.guard = none) (s x : Operand) (t e : TypeId)
  (ho : o.op = .call { callee := .builtin .append, args := #[s, x], argTypes := #[t, t] }) (ht : P.underlying t = some (.slice e)) (z : Value) (size bytes : Nat)
  (hinfo : (P.info? e).map (fun i => (i.zero, i.size, i.bytes)) = some (some z, size, bytes)) (hz : z.cells.size = size) (hsz : 0 < size) (v : Value) (n : Nat) (xs : List Value) (hs : a.eval s = v)
  (cs : List Value) (hx : a.eval x = .slice (some ⟨W.heap.size, 0, none⟩) 1 1) (hown : W.ownsRow base e size v n xs) (hcl : cs.length = size) (h1 : ∀ u ∈ cs, u.oneCell' = true) (h63 : n + 1 ≤ maxLen) (hb : (n + 1) * bytes ≤ 140737488355328) (hbase : base ≤ W.heap.size)
  (h : ∀ v1 w1, w1.ownsRow base e size v1 (n + 1) (xs ++ cs) → W.grownBy w1 v.ownBlock → (v1.ownBlock = v.ownBlock ∨ ∃ b, v1.ownBlock = some b ∧ W.heap.size ≤ b) → wpList P ops Q rest (a.put o.dst v1) w1) :
  wpList P ops Q (o :: rest) a (W.alloc (.cells cs.toArray e)) := by
 obtain ⟨i0, hi, hzz⟩ := Option.map_eq_some_iff.1 hinfo
 simp only [Prod.mk.injEq] at hzz
 obtain ⟨hz0, hz1, hz2⟩ := hzz
 refine wpList_append_own_at (W.alloc (.cells cs.toArray e)) hgd s x t ho base e i0 z size bytes ht hi hz0 hz1 hz2 hz hsz v n xs hs (hown.alloc _) ⟨W.heap.size, 0, none⟩ 1 1 cs hx (by omega) (World.news_of_block (cs := cs.toArray) (t := e) (fr := (0, 0)) (heap_alloc_new W _)) h1 h63 hb (by simp; omega) ?_
 intro v1 w1 hown1 hg _ hat
 refine h v1 w1 hown1 (World.grownBy.trans (World.grownBy_alloc W _ _) hg) ?_
 rcases hat with hat | hat
 ·exact .inl hat
 ·exact .inr ⟨_, hat, by simp⟩
/-- A literal '[]T{..}' just made. -/
theorem own_made (W : World) (base : Nat) (e : TypeId) (size n : Nat) (cs : List Value) (hb : base ≤ W.heap.size) (hl : cs.length = n * size) (hm : n ≤ maxLen) : (W.alloc (.cells cs.toArray e)).ownsRow base e size (.slice (some ⟨W.heap.size, 0, none⟩) n n) n cs :=
 ⟨hl, .inr ⟨W.heap.size, n, cs.toArray, rfl, hb, heap_alloc_new W _, Nat.le_refl _, hm, by simpa using hl, by rw [← hl]; simp⟩⟩
theorem str_eq (a b : ByteArray) : (a.toList == b.toList) = decide (a = b) := by
 rw [Bool.eq_iff_iff]
 simp only [beq_iff_eq, decide_eq_true_eq, ByteArray.toList_eq]
 constructor
 ·intro h
  cases a; cases b
  congr
  exact Array.toList_inj.1 h
 ·intro h; rw [h]
theorem str_empty (a : ByteArray) : a.toList.isEmpty = decide (a.size = 0) := by
 rw [ByteArray.toList_eq, Bool.eq_iff_iff]
 simp only [List.isEmpty_iff, decide_eq_true_eq]
 constructor
 ·intro h
  have : a.data.toList.length = 0 := by rw [h]; rfl
  rw [Array.length_toList] at this; exact this
 ·intro h
  apply List.eq_nil_of_length_eq_zero
  rw [Array.length_toList]; exact h
theorem ret_int {k : IntKind} {a b : Int} (h : a = b) : Ending.returned (.int k a) = .returned (.int k b) := by rw [h]
end Go.Proofs.YtcjlfkklpghjbaaGreat

namespace Go.Proofs.YtcjlfkklpghjbaaGreat
abbrev Bytes := List UInt8
def mkS (l : Bytes) : ByteArray := ⟨l.toArray⟩
def bl (s : ByteArray) : Bytes := s.data.toList
theorem bl_mkS (l : Bytes) : bl (mkS l) = l := by simp [bl, mkS]
theorem mkS_bl (s : ByteArray) : mkS (bl s) = s := by cases s; simp [bl, mkS]
theorem bl_length (s : ByteArray) : (bl s).length = s.size := by rw [bl, Array.length_toList]; rfl
theorem mkS_size (l : Bytes) : (mkS l).size = l.length := by rw [← bl_length, bl_mkS]
theorem bl_inj {s t : ByteArray} (h : bl s = bl t) : s = t := by rw [← mkS_bl s, ← mkS_bl t, h]
theorem mkS_inj {a b : Bytes} (h : mkS a = mkS b) : a = b := by rw [← bl_mkS a, ← bl_mkS b, h]
theorem bl_append (a b : ByteArray) : bl (a ++ b) = bl a ++ bl b := by simp [bl]
theorem mkS_append (a b : Bytes) : mkS a ++ mkS b = mkS (a ++ b) := bl_inj (by rw [bl_append, bl_mkS, bl_mkS, bl_mkS])
theorem toList_bl (s : ByteArray) : s.toList = bl s := ByteArray.toList_eq s
theorem bl_extract (s : ByteArray) (i j : Nat) : bl (s.extract i j) = ((bl s).take j).drop i := by
 simp [bl, List.extract_eq_take_drop, List.drop_take]
theorem extract_mkS (s : ByteArray) (i j : Nat) : s.extract i j = mkS (((bl s).take j).drop i) := by
 rw [← bl_extract, mkS_bl]
def bt (s : ByteArray) (i : Nat) : Int := if h : i < s.size then ((s[i]'h).toNat : Int) else 0
theorem bt_at (s : ByteArray) (i : Nat) (h : i < s.size) : ((s[i]'h).toNat : Int) = bt s i := by simp [bt, h]
/-- The parts of a text that is not empty. -/
def splitL : Bytes → List Bytes
  | [] => [[]]
  | c :: r => if c = 47 then [] :: splitL r else
    match splitL r with
    | [] => [[c]]
    | p :: ps => (c :: p) :: ps
def split (s : Bytes) : List Bytes := if s = [] then [] else splitL s
/-- Parts, with '/' between. -/
def glue : List Bytes → Bytes
  | [] => []
  | [p] => p
  | p :: q :: ps => p ++ 47 :: glue (q :: ps)
theorem splitL_ne (s : Bytes) : splitL s ≠ [] := by
 cases s with
 | nil => simp [splitL]
 | cons c r =>
  simp only [splitL]
  split
  ·simp
  ·split <;> simp
theorem glue_cons (p : Bytes) {l : List Bytes} (h : l ≠ []) : glue (p :: l) = p ++ 47 :: glue l := by
 cases l with
 | nil => exact absurd rfl h
 | cons q ps => rfl
theorem glue_splitL (s : Bytes) : glue (splitL s) = s := by
 induction s with
 | nil => rfl
 | cons c r ih =>
  simp only [splitL]
  split
  ·rename_i h
   subst h
   rw [glue_cons _ (splitL_ne r), ih]; rfl
  ·split
   ·rename_i h; exact absurd h (splitL_ne r)
   ·rename_i p ps h
    rw [h] at ih
    cases ps with
    | nil => simp only [glue] at ih ⊢; rw [ih]
    | cons q qs =>
     rw [glue_cons _ (by simp)] at ih ⊢
     rw [List.cons_append, ih]
theorem glue_split (s : Bytes) : glue (split s) = s := by
 unfold split
 split
 ·rename_i h; rw [h]; rfl
 ·exact glue_splitL s
theorem split_inj {a b : Bytes} (h : split a = split b) : a = b := by rw [← glue_split a, ← glue_split b, h]
theorem split_nil : split [] = [] := rfl
theorem split_ne {s : Bytes} (h : s ≠ []) : split s = splitL s := if_neg h
theorem split_eq_nil {s : Bytes} (h : split s = []) : s = [] := by
 rw [← glue_split s, h]; rfl
/-- No part holds a '/'. -/
theorem splitL_parts (s : Bytes) : ∀ p ∈ splitL s, (47 : UInt8) ∉ p := by
 induction s with
 | nil => simp [splitL]
 | cons c r ih =>
  simp only [splitL]
  split
  ·intro p hp
   rcases List.mem_cons.1 hp with h | h
   ·subst h; simp
   ·exact ih p h
  ·rename_i hc
   split
   ·rename_i h; exact absurd h (splitL_ne r)
   ·rename_i q ps h
    rw [h] at ih
    intro p hp
    rcases List.mem_cons.1 hp with h' | h'
    ·subst h'
     intro hm
     rcases List.mem_cons.1 hm with h'' | h''
     ·exact hc h''.symm
     ·exact ih q (by simp) h''
    ·exact ih p (by simp [h'])
theorem split_parts (s : Bytes) : ∀ p ∈ split s, (47 : UInt8) ∉ p := by
 unfold split
 split
 ·simp
 ·exact splitL_parts s
theorem splitL_one {p : Bytes} (h : (47 : UInt8) ∉ p) : splitL p = [p] := by
 induction p with
 | nil => rfl
 | cons c r ih =>
  have h1 : c ≠ 47 := fun e => h (by simp [e])
  have h2 : (47 : UInt8) ∉ r := fun e => h (by simp [e])
  simp only [splitL]
  rw [if_neg h1, ih h2]
theorem splitL_append (p r : Bytes) (h : (47 : UInt8) ∉ p) : splitL (p ++ 47 :: r) = p :: splitL r := by
 induction p with
 | nil => simp [splitL]
 | cons c q ih =>
  have h1 : c ≠ 47 := fun e => h (by simp [e])
  have h2 : (47 : UInt8) ∉ q := fun e => h (by simp [e])
  simp only [List.cons_append, splitL]
  rw [if_neg h1, ih h2]
theorem splitL_glue {l : List Bytes} (hl : l ≠ []) (h : ∀ p ∈ l, (47 : UInt8) ∉ p) : splitL (glue l) = l := by
 induction l with
 | nil => exact absurd rfl hl
 | cons p ps ih =>
  cases ps with
  | nil => simp only [glue]; exact splitL_one (h p (by simp))
  | cons q qs =>
   rw [glue_cons _ (by simp), splitL_append _ _ (h p (by simp)), ih (by simp) (fun x hx => h x (by simp [hx]))]
/-- A round of the walk over a text: the parts that are done, and the piece that is not. -/
theorem splitL_snoc (s : Bytes) (c : UInt8) : splitL (s ++ [c]) = if c = 47 then splitL s ++ [[]] else (splitL s).dropLast ++ [((splitL s).getLast (splitL_ne s)) ++ [c]] := by
 induction s with
 | nil =>
  simp only [List.nil_append, splitL]
  split <;> simp
 | cons d r ih =>
  simp only [List.cons_append]
  by_cases hd : d = 47
  ·subst hd
   simp only [splitL, if_true]
   rw [ih]
   split
   ·rfl
   ·rw [List.dropLast_cons_of_ne_nil (splitL_ne r), List.getLast_cons (splitL_ne r)]; rfl
  ·have hr : ∃ p ps, splitL r = p :: ps := by
    cases h : splitL r with
    | nil => exact absurd h (splitL_ne r)
    | cons p ps => exact ⟨p, ps, rfl⟩
   obtain ⟨p, ps, hp⟩ := hr
   have e1 : splitL (d :: r) = (d :: p) :: ps := by simp only [splitL]; rw [if_neg hd, hp]
   have e2 : splitL (d :: (r ++ [c])) = match splitL (r ++ [c]) with | [] => [[d]] | q :: qs => (d :: q) :: qs := by simp only [splitL]; rw [if_neg hd]
   rw [e2, ih]
   simp only [e1, hp]
   by_cases hc : c = 47
   ·simp [hc]
   ·simp only [if_neg hc]
    cases ps with
    | nil => simp
    | cons q qs => simp
/-- The order of texts, byte by byte. -/
def cmpB : Bytes → Bytes → Int
  | [], [] => 0
  | [], _ :: _ => -1
  | _ :: _, [] => 1
  | a :: x, b :: y => if a < b then -1 else if b < a then 1 else cmpB x y
theorem less_cmp : ∀ x y : Bytes, Op.bytesLess x y = decide (cmpB x y < 0)
 | [], [] => rfl
 | [], _ :: _ => by simp [Op.bytesLess, cmpB]
 | _ :: _, [] => by simp [Op.bytesLess, cmpB]
 | a :: x, b :: y => by
  simp only [Op.bytesLess, cmpB]
  by_cases h1 : a < b
  ·simp [h1]
  ·by_cases h2 : b < a
   ·have h3 : a ≠ b := fun e => by subst e; exact h1 h2
    simp [h1, h2, h3]
   ·have h3 : a = b := UInt8.le_antisymm (UInt8.not_lt.1 h2) (UInt8.not_lt.1 h1)
    subst h3
    simp [less_cmp x y]
theorem cmpB_self : ∀ x : Bytes, cmpB x x = 0
 | [] => rfl
 | a :: x => by simp only [cmpB]; rw [if_neg (UInt8.lt_irrefl a), if_neg (UInt8.lt_irrefl a)]; exact cmpB_self x
theorem cmpB_eq : ∀ {x y : Bytes}, cmpB x y = 0 → x = y
 | [], [], _ => rfl
 | [], _ :: _, h => by simp [cmpB] at h
 | _ :: _, [], h => by simp [cmpB] at h
 | a :: x, b :: y, h => by
  simp only [cmpB] at h
  by_cases h1 : a < b
  ·rw [if_pos h1] at h; simp at h
  ·rw [if_neg h1] at h
   by_cases h2 : b < a
   ·rw [if_pos h2] at h; simp at h
   ·rw [if_neg h2] at h
    rw [UInt8.le_antisymm (UInt8.not_lt.1 h2) (UInt8.not_lt.1 h1), cmpB_eq h]
theorem cmpB_swap : ∀ x y : Bytes, cmpB y x = - cmpB x y
 | [], [] => rfl
 | [], _ :: _ => rfl
 | _ :: _, [] => rfl
 | a :: x, b :: y => by
  simp only [cmpB]
  by_cases h1 : a < b
  ·have h2 : ¬ b < a := fun h => UInt8.lt_irrefl _ (UInt8.lt_trans h1 h)
   simp [h1, h2]
  ·by_cases h2 : b < a
   ·simp [h1, h2]
   ·rw [if_neg h1, if_neg h2, if_neg h2, if_neg h1, cmpB_swap x y]
theorem cmpB_range : ∀ x y : Bytes, cmpB x y = -1 ∨ cmpB x y = 0 ∨ cmpB x y = 1
 | [], [] => by simp [cmpB]
 | [], _ :: _ => by simp [cmpB]
 | _ :: _, [] => by simp [cmpB]
 | a :: x, b :: y => by
  simp only [cmpB]
  split
  ·simp
  ·split
   ·simp
   ·exact cmpB_range x y
theorem cmpB_trans : ∀ {x y z : Bytes}, cmpB x y < 0 → cmpB y z < 0 → cmpB x z < 0
 | [], [], _, h, _ => by simp [cmpB] at h
 | [], _ :: _, [], _, k => by simp [cmpB] at k
 | [], _ :: _, _ :: _, _, _ => by simp [cmpB]
 | _ :: _, [], _, h, _ => by simp [cmpB] at h
 | _ :: _, _ :: _, [], _, k => by simp [cmpB] at k
 | a :: x, b :: y, c :: z, h, k => by
  simp only [cmpB] at h k ⊢
  by_cases h1 : a < b
  ·by_cases k1 : b < c
   ·rw [if_pos (UInt8.lt_trans h1 k1)]; omega
   ·rw [if_neg k1] at k
    by_cases k2 : c < b
    ·rw [if_pos k2] at k; omega
    ·have e : b = c := UInt8.le_antisymm (UInt8.not_lt.1 k2) (UInt8.not_lt.1 k1)
     subst e; rw [if_pos h1]; omega
  ·rw [if_neg h1] at h
   by_cases h2 : b < a
   ·rw [if_pos h2] at h; omega
   ·rw [if_neg h2] at h
    have e : a = b := UInt8.le_antisymm (UInt8.not_lt.1 h2) (UInt8.not_lt.1 h1)
    subst e
    by_cases k1 : a < c
    ·rw [if_pos k1]; omega
    ·rw [if_neg k1] at k ⊢
     by_cases k2 : c < a
     ·rw [if_pos k2] at k; omega
     ·rw [if_neg k2] at k ⊢
      exact cmpB_trans h k
/-- The order of paths: part by part. -/
def cmpL : List Bytes → List Bytes → Int
  | [], [] => 0
  | [], _ :: _ => -1
  | _ :: _, [] => 1
  | a :: x, b :: y => if cmpB a b ≠ 0 then cmpB a b else cmpL x y
theorem cmpL_swap : ∀ x y : List Bytes, cmpL y x = - cmpL x y
 | [], [] => rfl
 | [], _ :: _ => rfl
 | _ :: _, [] => rfl
 | a :: x, b :: y => by
  simp only [cmpL]
  rw [cmpB_swap a b]
  by_cases h : cmpB a b = 0
  ·rw [if_neg (by omega), if_neg (by omega), cmpL_swap x y]
  ·rw [if_pos (by omega), if_pos h]
theorem cmpL_self : ∀ x : List Bytes, cmpL x x = 0
 | [] => rfl
 | a :: x => by simp only [cmpL]; rw [cmpB_self, if_neg (by simp)]; exact cmpL_self x
theorem cmpL_eq : ∀ {x y : List Bytes}, cmpL x y = 0 → x = y
 | [], [], _ => rfl
 | [], _ :: _, h => by simp [cmpL] at h
 | _ :: _, [], h => by simp [cmpL] at h
 | a :: x, b :: y, h => by
  simp only [cmpL] at h
  by_cases k : cmpB a b = 0
  ·rw [if_neg (by omega)] at h
   rw [cmpB_eq k, cmpL_eq h]
  ·rw [if_pos k] at h; exact absurd h k
theorem cmpL_trans : ∀ {x y z : List Bytes}, cmpL x y < 0 → cmpL y z < 0 → cmpL x z < 0
 | [], [], _, h, _ => by simp [cmpL] at h
 | [], _ :: _, [], _, k => by simp [cmpL] at k
 | [], _ :: _, _ :: _, _, _ => by simp [cmpL]
 | _ :: _, [], _, h, _ => by simp [cmpL] at h
 | _ :: _, _ :: _, [], _, k => by simp [cmpL] at k
 | a :: x, b :: y, c :: z, h, k => by
  simp only [cmpL] at h k ⊢
  by_cases h1 : cmpB a b = 0
  ·rw [if_neg (by omega)] at h
   have e := cmpB_eq h1
   subst e
   by_cases k1 : cmpB a c = 0
   ·rw [if_neg (by omega)] at k ⊢
    exact cmpL_trans h k
   ·rw [if_pos k1] at k ⊢; exact k
  ·rw [if_pos h1] at h
   by_cases k1 : cmpB b c = 0
   ·have e := cmpB_eq k1
    subst e
    rw [if_pos h1]; exact h
   ·rw [if_pos k1] at k
    have := cmpB_trans h k
    rw [if_pos (by omega)]; exact this
def cmpP (a b : Bytes) : Int := cmpL (split a) (split b)
def lessP (a b : Bytes) : Bool := decide (cmpP a b < 0)
theorem cmpP_eq {a b : Bytes} (h : cmpP a b = 0) : a = b := split_inj (cmpL_eq h)
theorem cmpP_self (a : Bytes) : cmpP a a = 0 := cmpL_self _
theorem cmpP_swap (a b : Bytes) : cmpP b a = - cmpP a b := cmpL_swap _ _
theorem cmpP_trans {a b c : Bytes} (h : cmpP a b < 0) (k : cmpP b c < 0) : cmpP a c < 0 := cmpL_trans h k
/-- What is a part, and what is a path. -/
def partOk (p : Bytes) : Bool := p ≠ [] && decide (p.length ≤ 48) && p ≠ [46] && p ≠ [46, 46] && !p.contains 0
def right (s : Bytes) : Bool := (split s).all partOk && decide ((split s).length ≤ 12) && decide (s.length ≤ 200)
def parent (s : Bytes) : Bytes := glue (split s).dropLast
def base (s : Bytes) : Bytes := (split s).getLastD []
def under (p top : Bytes) : Bool := (split top).isPrefixOf (split p)
end Go.Proofs.YtcjlfkklpghjbaaGreat

namespace Go.Proofs.YtcjlfkklpghjbaaGreat
/-- A path: its parts. -/
abbrev Pt := List Bytes
structure Mt where
  mode : Int
  sec : Int
  nano : Int
  uid : Int
  gid : Int
deriving DecidableEq
structure Nd where
  kind : Int
  links : Int
  mt : Mt
  target : Bytes
  data : Bytes
structure Fs where
  names : List (Pt × Nat)
  nd : Nat → Nd
  next : Nat
/-- What stands at a path. -/
def look1 (l : List (Pt × Nat)) (p : Pt) : Option Nat := (l.find? (fun x => x.1 = p)).map (·.2)
def Fs.at (T : Fs) (p : Pt) : Option Nat := look1 T.names p
/-- What stands right in the directory of a path: its last part, and its number. -/
def kidOf (p : Pt) (x : Pt × Nat) : Option (Bytes × Nat) := if x.1 ≠ [] ∧ x.1.dropLast = p then some (x.1.getLastD [], x.2) else none
def kidsL (l : List (Pt × Nat)) (p : Pt) : List (Bytes × Nat) := l.filterMap (kidOf p)
def Fs.kids (T : Fs) (p : Pt) : List (Bytes × Nat) := kidsL T.names p
/-- How many names a thing has. -/
def namesOf (l : List (Pt × Nat)) (i : Nat) : Nat := (l.filter (fun x => x.2 = i)).length
def Pth (p : Pt) : Prop := ∃ s, right s = true ∧ split s = p
structure Fs.Inv (T : Fs) : Prop where
  top : ∃ r, T.names = ([], 1) :: r
  nodup : (T.names.map (·.1)).Nodup
  topKind : (T.nd 1).kind = 2
  up : ∀ p i, (p, i) ∈ T.names → p ≠ [] → ∃ j, (p.dropLast, j) ∈ T.names ∧ (T.nd j).kind = 2
  pth : ∀ p i, (p, i) ∈ T.names → Pth p
  kinds : ∀ p i, (p, i) ∈ T.names → (T.nd i).kind = 1 ∨ (T.nd i).kind = 2 ∨ (T.nd i).kind = 3
  lt : ∀ p i, (p, i) ∈ T.names → 1 ≤ i ∧ i < T.next
  links : ∀ p i, (p, i) ∈ T.names → (T.nd i).links = namesOf T.names i
  single : ∀ p i, (p, i) ∈ T.names → (T.nd i).kind ≠ 1 → ∀ q, (q, i) ∈ T.names → q = p
  data : ∀ p i, (p, i) ∈ T.names → (T.nd i).data.length ≤ 65536
  plain : ∀ p i, (p, i) ∈ T.names → ((T.nd i).kind ≠ 1 → (T.nd i).data = []) ∧ ((T.nd i).kind ≠ 3 → (T.nd i).target = []) ∧ (T.nd i).target.length ≤ 200
def Fs.Live (T : Fs) (i : Nat) : Prop := ∃ p, (p, i) ∈ T.names
theorem look1_some : ∀ {l : List (Pt × Nat)}, (l.map (·.1)).Nodup → ∀ {p : Pt} {i : Nat}, look1 l p = some i ↔ (p, i) ∈ l
 | [], _, p, i => by simp [look1]
 | (q, j) :: l, h, p, i => by
  obtain ⟨h1, h2⟩ := List.nodup_cons.1 h
  by_cases hq : q = p
  ·subst hq
   simp only [look1, List.find?_cons, decide_true, Option.map_some, Option.some.injEq, List.mem_cons, Prod.mk.injEq, true_and]
   constructor
   ·intro e; exact Or.inl e.symm
   ·rintro (e | e)
    ·exact e.symm
    ·exact absurd (List.mem_map.2 ⟨_, e, rfl⟩) h1
  ·have ih := look1_some h2 (p := p) (i := i)
   simp only [look1, List.find?_cons, hq, decide_false, List.mem_cons, Prod.mk.injEq] at ih ⊢
   rw [ih]
   constructor
   ·exact Or.inr
   ·rintro (⟨e, _⟩ | e)
    ·exact absurd e.symm hq
    ·exact e
theorem look1_none {l : List (Pt × Nat)} {p : Pt} : look1 l p = none ↔ ∀ i, (p, i) ∉ l := by
 simp only [look1, Option.map_eq_none_iff, List.find?_eq_none, decide_eq_true_eq]
 constructor
 ·intro h i hi; exact h _ hi rfl
 ·rintro h ⟨q, j⟩ hx rfl; exact h j hx
theorem Fs.Inv.at_some {T : Fs} (h : T.Inv) {p : Pt} {i : Nat} : T.at p = some i ↔ (p, i) ∈ T.names := look1_some h.nodup
theorem Fs.at_none {T : Fs} {p : Pt} : T.at p = none ↔ ∀ i, (p, i) ∉ T.names := look1_none
theorem Fs.Inv.one {T : Fs} (h : T.Inv) : ([], 1) ∈ T.names := by obtain ⟨r, e⟩ := h.top; rw [e]; exact List.mem_cons_self ..
theorem Fs.Inv.at_top {T : Fs} (h : T.Inv) : T.at [] = some 1 := h.at_some.2 h.one
theorem snoc_of {q p : Pt} (h2 : q ≠ []) (h3 : q.dropLast = p) : q = p ++ [q.getLastD []] := by
 subst h3
 conv => lhs; rw [← List.dropLast_concat_getLast h2]
 rw [List.getLastD_eq_getLast?, List.getLast?_eq_some_getLast h2]
 rfl
theorem snoc_rec {α : Type} {C : List α → Prop} (h0 : C []) (h1 : ∀ l x, C l → C (l ++ [x])) : ∀ l, C l := by
 intro l
 rw [← List.reverse_reverse l]
 induction l.reverse with
 | nil => exact h0
 | cons a r ih => rw [List.reverse_cons]; exact h1 _ _ ih
theorem mem_kidsL {l : List (Pt × Nat)} {p : Pt} {x : Bytes} {i : Nat} : (x, i) ∈ kidsL l p ↔ (p ++ [x], i) ∈ l := by
 simp only [kidsL, List.mem_filterMap, kidOf]
 constructor
 ·rintro ⟨⟨q, j⟩, hm, h⟩
  split at h
  ·rename_i hc
   simp only [Option.some.injEq, Prod.mk.injEq] at h
   obtain ⟨h1, rfl⟩ := h
   obtain ⟨h2, h3⟩ := hc
   have : q = p ++ [x] := by rw [← h1]; exact snoc_of h2 h3
   rw [← this]
   exact hm
  ·cases h
 ·intro hm
  exact ⟨_, hm, by simp⟩
theorem Fs.Inv.kids_at {T : Fs} (h : T.Inv) {p : Pt} {x : Bytes} {i : Nat} : (x, i) ∈ T.kids p ↔ T.at (p ++ [x]) = some i := by
 rw [h.at_some]
 exact mem_kidsL
theorem kidsL_nodup {l : List (Pt × Nat)} (h : (l.map (·.1)).Nodup) (p : Pt) : ((kidsL l p).map (·.1)).Nodup := by
 induction l with
 | nil => simp [kidsL]
 | cons a l ih =>
  obtain ⟨q, j⟩ := a
  obtain ⟨h1, h2⟩ := List.nodup_cons.1 h
  have ih := ih h2
  simp only [kidsL, List.filterMap_cons] at ih ⊢
  unfold kidOf
  by_cases hc : q ≠ [] ∧ q.dropLast = p
  ·simp only [hc, and_self, ne_eq, not_false_eq_true, if_true, List.map_cons]
   refine List.nodup_cons.2 ⟨fun hm => h1 ?_, ih⟩
   obtain ⟨⟨y, k⟩, hy, hyx⟩ := List.mem_map.1 hm
   have := mem_kidsL.1 (show (y, k) ∈ kidsL l p from hy)
   simp only at hyx
   have hq : q = p ++ [y] := by rw [hyx]; exact snoc_of hc.1 hc.2
   rw [hq]
   exact List.mem_map.2 ⟨_, this, rfl⟩
  ·have : kidOf p (q, j) = none := by unfold kidOf; rw [if_neg hc]
   simp only [kidOf] at this
   rw [if_neg hc]
   exact ih
/-- What stands nowhere has nothing below it; and what is no directory neither. -/
theorem Fs.Inv.at_below {T : Fs} (h : T.Inv) : ∀ (r : Pt) {p : Pt}, r ≠ [] → (∀ i, T.at p = some i → (T.nd i).kind ≠ 2) → T.at (p ++ r) = none := by
 intro r
 refine snoc_rec (C := fun r => ∀ {p : Pt}, r ≠ [] → (∀ i, T.at p = some i → (T.nd i).kind ≠ 2) → T.at (p ++ r) = none) ?_ ?_ r
 ·intro p hr; exact absurd rfl hr
 ·intro r x ih p _ hp
  cases hc : T.at (p ++ (r ++ [x])) with
  | none => rfl
  | some i =>
   have hm := h.at_some.1 hc
   obtain ⟨j, hj, hk⟩ := h.up _ _ hm (by simp)
   rw [← List.append_assoc, List.dropLast_concat] at hj
   by_cases hr : r = []
   ·subst hr
    rw [List.append_nil] at hj
    exact absurd hk (hp j (h.at_some.2 hj))
   ·have := ih hr hp
    rw [h.at_some.2 hj] at this
    cases this
theorem right_part {s : Bytes} (h : right s = true) : ∀ x ∈ split s, partOk x = true := by
 simp only [right, Bool.and_eq_true, List.all_eq_true] at h
 exact h.1.1
theorem partOk_ne {x : Bytes} (h : partOk x = true) : x ≠ [] := by
 simp only [partOk, Bool.and_eq_true, decide_eq_true_eq] at h
 exact h.1.1.1.1
/-- A path's parts, glued, fall into the same parts. -/
theorem split_glue {l : List Bytes} (h1 : ∀ x ∈ l, (47 : UInt8) ∉ x) (h2 : ∀ x ∈ l, x ≠ []) : split (glue l) = l := by
 cases l with
 | nil => rfl
 | cons a r =>
  have hne : glue (a :: r) ≠ [] := by
   intro e
   have := splitL_glue (l := a :: r) (by simp) h1
   rw [e] at this
   simp only [splitL, List.cons.injEq] at this
   exact h2 a (List.mem_cons_self ..) this.1.symm
  rw [split_ne hne]
  exact splitL_glue (by simp) h1
theorem split_parent {s : Bytes} (h : right s = true) : split (parent s) = (split s).dropLast :=
 split_glue (fun x hx => split_parts s x (List.dropLast_subset _ hx)) (fun x hx => partOk_ne (right_part h x (List.dropLast_subset _ hx)))
theorem split_base {s : Bytes} (h : s ≠ []) : (split s).dropLast ++ [base s] = split s := by
 have hne : split s ≠ [] := fun e => h (split_eq_nil e)
 exact (snoc_of hne rfl).symm
/-- A path is looked up: what stands there, its directory, and why not. -/
def Fs.look (T : Fs) (s : Bytes) : Option Nat × Option Nat × Int :=
  if right s = true then
    if s = [] then (some 1, none, 0)
    else match T.at (split s).dropLast with
      | none => (none, none, 10)
      | some d => if (T.nd d).kind = 2 then (T.at (split s), some d, 0) else (none, none, 12)
  else (none, none, 9)
/-- .. and something has to stand there. -/
def Fs.there (T : Fs) (s : Bytes) : Option Nat × Option Nat × Int :=
  ((T.look s).1, (T.look s).2.1, if (T.look s).2.2 = 0 ∧ (T.look s).1 = none then 10 else (T.look s).2.2)
/-- .. and nothing may. -/
def Fs.fresh (T : Fs) (s : Bytes) : Option Nat × Int :=
  ((T.look s).2.1, if (T.look s).2.2 = 0 ∧ (T.look s).1 ≠ none then 11 else (T.look s).2.2)
/-- What a thing that should be a file is not. -/
def notFile (n : Nd) : Int := if n.kind = 2 then 13 else if n.kind = 3 then 17 else 0
def within (n lo hi : Int) : Bool := decide (lo ≤ n) && decide (n ≤ hi)
def metaOk (m : Mt) : Bool := within m.mode 0 4095 && within m.sec (-1099511627776) 1099511627776 && within m.nano 0 999999999 && within m.uid 0 2147483647 && within m.gid 0 2147483647
end Go.Proofs.YtcjlfkklpghjbaaGreat

namespace Go.Proofs.YtcjlfkklpghjbaaGreat
open Go.MapKept Go.ChangeMaps
/-- The entries as pairs. -/
def kv (e : MapEntry) : Value × Value := (e.key, e.val)
/-- Block b is a map whose entries are those of l, in some order. -/
def MapIs (w : World) (b : Nat) (l : List (Value × Value)) : Prop :=
  ∃ es clock, w.heap[b]? = some (.map es clock) ∧ Stamped es clock ∧ l.Perm (es.toList.map kv)
/-- x can be looked for among the keys ks. -/
structure Keyable (P : Program) (k : TypeId) (w : World) (x : Value) (ks : List Value) : Prop where
  check : ∀ em, (Instr.checkKey em 10000 k x).run P w = .ok () w
  stays : (Instr.keyThatStays x x).run P w = .ok x w
  find : ∀ es : List MapEntry, (∀ e ∈ es, e.key ∈ ks) →
    ((Instr.findKey k x es).run P w = .ok none w ∧ ∀ e ∈ es, e.key ≠ x) ∨ ∃ j e, (Instr.findKey k x es).run P w = .ok (some (j, e.val)) w ∧ es[j]? = some e ∧ e.key = x
theorem keyable_string {P : Program} {k : TypeId} (hk : P.underlying k = some .string) (w : World) (s : ByteArray) {ks : List Value} (h : ∀ v ∈ ks, ∃ t, v = .string t) : Keyable P k w (.string s) ks := by
 refine ⟨fun em => run_checkKey hk (by trivial) em 9999, run_keyThatStays (d := .string) (by trivial), fun es hes => ?_⟩
 rcases findNow_spec (d := .string) (k := .string s) (by trivial) es 0 (fun x hx => by obtain ⟨t, ht⟩ := h _ (hes x hx); rw [ht]; trivial) with ⟨h1, h2⟩ | ⟨j, e0, h1, h2, h3⟩
 ·exact Or.inl ⟨run_findKey hk h1, h2⟩
 ·exact Or.inr ⟨j, e0, by simpa using run_findKey hk h1, h2, h3⟩
section
variable {P : Program} {k e t : TypeId} {w : World} {b : Nat} {l : List (Value × Value)}
theorem MapIs.perm (h : MapIs w b l) {l' : List (Value × Value)} (hp : l'.Perm l) : MapIs w b l' := by
 obtain ⟨es, clock, hb, hs, hl⟩ := h
 exact ⟨es, clock, hb, hs, hp.trans hl⟩
theorem MapIs.lt (h : MapIs w b l) : b < w.heap.size := by
 obtain ⟨es, clock, hb, _⟩ := h
 exact (Array.getElem?_eq_some_iff.1 hb).1
theorem MapIs.nodup (h : MapIs w b l) : (l.map (·.1)).Nodup := by
 obtain ⟨es, clock, hb, hs, hl⟩ := h
 have h3 : (es.toList.map (·.key)).Nodup := hs.2.2
 have : ((es.toList.map kv).map (·.1)).Nodup := by simpa [List.map_map, kv, Function.comp_def] using h3
 exact ((hl.map (·.1)).nodup_iff).2 this
theorem MapIs.kept {w' : World} {row : Option Nat} (h : MapIs w b l) (hg : w.grownBy w' row) (hne : some b ≠ row) : MapIs w' b l := by
 have hlt := h.lt
 obtain ⟨es, clock, hb, hs, hl⟩ := h
 exact ⟨es, clock, (hg.block b hlt hne).trans hb, hs, hl⟩
theorem MapIs.of_block {w' : World} (h : MapIs w b l) (hb' : w'.heap[b]? = w.heap[b]?) : MapIs w' b l := by
 obtain ⟨es, clock, hb, hs, hl⟩ := h
 exact ⟨es, clock, hb'.trans hb, hs, hl⟩
theorem mapIs_made (w : World) : MapIs (w.alloc (.map #[] 0)) w.heap.size [] :=
 ⟨#[], 0, (MapKept.heap_alloc w _).1, stamped_empty 0, by simp⟩
theorem mem_of_key {es : Array MapEntry} {clock : Nat} (hs : Stamped es clock) {x v : Value} {j : Nat} {e0 : MapEntry} (hm : (x, v) ∈ es.toList.map kv) (h2 : es.toList[j]? = some e0) (h3 : e0.key = x) : e0.val = v := by
 obtain ⟨y, hy, hyx⟩ := List.mem_map.1 hm
 simp only [kv, Prod.mk.injEq] at hyx
 have hp := ((stamped_iff es clock).1 hs).2.2
 have e1 : y = e0 := entry_eq_of_key hp hy (List.mem_of_getElem? h2) (hyx.1.trans h3.symm)
 rw [← e1]
 exact hyx.2
/-- A look-up that finds. -/
theorem MapIs.look_hit (h : MapIs w b l) (ht : P.underlying t = some (.map k e)) {x v : Value} (hk : Keyable P k w x (l.map (·.1))) (hm : (x, v) ∈ l) (c : Bool) :
  (Instr.lookup t (.map (some b)) x c).run P w = .ok (if c then .tuple #[v, .bool true] else v) w := by
 obtain ⟨es, clock, hb, hs, hl⟩ := h
 have hm' := hl.mem_iff.1 hm
 rcases hk.find es.toList (fun y hy => (hl.map (·.1)).mem_iff.2 (by simpa [kv] using ⟨y, by simpa using hy, rfl⟩)) with ⟨h1, h2⟩ | ⟨j, e0, h1, h2, h3⟩
 ·obtain ⟨y, hy, hyx⟩ := List.mem_map.1 hm'
  simp only [kv, Prod.mk.injEq] at hyx
  exact absurd hyx.1 (h2 y hy)
 ·have := mem_of_key hs hm' h2 h3
  simp [Instr.lookup, run_underlying ht, MapKept.run_getObj_map hb, hk.check, h1, Result.andThen, this]
/-- A look-up that does not find. -/
theorem MapIs.look_miss (h : MapIs w b l) (ht : P.underlying t = some (.map k e)) {x z : Value} (hk : Keyable P k w x (l.map (·.1))) (hm : ∀ p ∈ l, p.1 ≠ x) (hz : (zeroValue e).run P w = .ok z w) (c : Bool) :
  (Instr.lookup t (.map (some b)) x c).run P w = .ok (if c then .tuple #[z, .bool false] else z) w := by
 obtain ⟨es, clock, hb, hs, hl⟩ := h
 rcases hk.find es.toList (fun y hy => (hl.map (·.1)).mem_iff.2 (by simpa [kv] using ⟨y, by simpa using hy, rfl⟩)) with ⟨h1, h2⟩ | ⟨j, e0, h1, h2, h3⟩
 ·simp [Instr.lookup, run_underlying ht, MapKept.run_getObj_map hb, hk.check, h1, Result.andThen, hz]
 ·exact absurd h3 (hm (kv e0) (hl.mem_iff.2 (List.mem_map.2 ⟨e0, List.mem_of_getElem? h2, rfl⟩)))
/-- How many entries. -/
theorem MapIs.len (h : MapIs w b l) (ht : P.underlying t = some (.map k e)) (ty : TypeId) : (Builtin.len_ #[t] ty #[.map (some b)]).run P w = .ok (.int .i64 l.length) w := by
 obtain ⟨es, clock, hb, hs, hl⟩ := h
 have e1 : l.length = es.size := by rw [hl.length_eq]; simp
 rw [e1]
 simp [Builtin.len_, run_underlying ht, MapKept.run_getObj_map hb, goInt, Result.andThen]
/-- A store at a new key. -/
theorem MapIs.store_new (h : MapIs w b l) (ht : P.underlying t = some (.map k e)) {x v : Value} (hk : Keyable P k w x (l.map (·.1))) (hm : ∀ p ∈ l, p.1 ≠ x) :
  ∃ w', (Instr.mapUpdate t (.map (some b)) x v).run P w = .ok () w' ∧ MapIs w' b ((x, v) :: l) ∧ w.mapTurned w' b := by
 obtain ⟨es, clock, hb, hs, hl⟩ := h
 rcases hk.find es.toList (fun y hy => (hl.map (·.1)).mem_iff.2 (by simpa [kv] using ⟨y, by simpa using hy, rfl⟩)) with ⟨h1, h2⟩ | ⟨j, e0, h1, h2, h3⟩
 ·refine ⟨setBlock w b (.map (es.push ⟨x, v, clock⟩) (clock + 1)), ?_, ⟨_, _, heap_setBlock_same hb _, stamped_push hs h2, ?_⟩, ⟨_, _, _, _, hb, rfl⟩⟩
  ·simp [Instr.mapUpdate, run_underlying ht, MapKept.run_getObj_map hb, hk.check, h1, MapKept.run_setObj_map _ hb, Result.andThen, setBlock]
  ·simp only [Array.toList_push, List.map_append, List.map_singleton]
   exact (hl.cons (x, v)).trans (List.perm_append_singleton (x, v) _).symm
 ·exact absurd h3 (hm (kv e0) (hl.mem_iff.2 (List.mem_map.2 ⟨e0, List.mem_of_getElem? h2, rfl⟩)))
theorem perm_set {α : Type} (z a : α) : ∀ (l : List α) (j : Nat), l[j]? = some a → ∃ r, l.Perm (a :: r) ∧ (l.set j z).Perm (z :: r)
 | y :: l, 0, h => by
  simp only [List.getElem?_cons_zero, Option.some.injEq] at h
  subst h
  exact ⟨l, .refl _, .refl _⟩
 | y :: l, j + 1, h => by
  simp only [List.getElem?_cons_succ] at h
  obtain ⟨r, h1, h2⟩ := perm_set z a l j h
  exact ⟨y :: r, (h1.cons y).trans (List.Perm.swap _ _ _), by simpa using (h2.cons y).trans (List.Perm.swap _ _ _)⟩
theorem perm_erase {α : Type} (a : α) : ∀ (l : List α) (j : Nat), l[j]? = some a → l.Perm (a :: l.eraseIdx j)
 | y :: l, 0, h => by
  simp only [List.getElem?_cons_zero, Option.some.injEq] at h
  subst h
  exact .refl _
 | y :: l, j + 1, h => by
  simp only [List.getElem?_cons_succ] at h
  simpa using ((perm_erase a l j h).cons y).trans (List.Perm.swap _ _ _)
/-- A store at a key that is there. -/
theorem MapIs.store_old (h : MapIs w b l) (ht : P.underlying t = some (.map k e)) {x v v0 : Value} {r : List (Value × Value)} (hk : Keyable P k w x (l.map (·.1))) (hm : l.Perm ((x, v0) :: r)) :
  ∃ w', (Instr.mapUpdate t (.map (some b)) x v).run P w = .ok () w' ∧ MapIs w' b ((x, v) :: r) ∧ w.mapTurned w' b := by
 have hnd := h.nodup
 obtain ⟨es, clock, hb, hs, hl⟩ := h
 have hm' := hl.mem_iff.1 (hm.mem_iff.2 (List.mem_cons_self ..))
 rcases hk.find es.toList (fun y hy => (hl.map (·.1)).mem_iff.2 (by simpa [kv] using ⟨y, by simpa using hy, rfl⟩)) with ⟨h1, h2⟩ | ⟨j, e0, h1, h2, h3⟩
 ·obtain ⟨y, hy, hyx⟩ := List.mem_map.1 hm'
  simp only [kv, Prod.mk.injEq] at hyx
  exact absurd hyx.1 (h2 y hy)
 ·have hv := mem_of_key hs hm' h2 h3
  have hj : es[j]? = some e0 := by simpa using h2
  have hkeyf : ∀ e', es[j]? = some e' → ({ e' with key := x, val := v } : MapEntry).key = e'.key := fun e' he' => by rw [hj] at he'; cases he'; exact h3.symm
  have hlist : (es.modify j (fun e' => { e' with key := x, val := v })).toList = es.toList.set j { e0 with key := x, val := v } := by rw [Array.toList_modify, modify_eq_set _ _ _ _ h2]
  refine ⟨setBlock w b (.map (es.modify j (fun e' => { e' with key := x, val := v })) clock), ?_, ⟨_, _, heap_setBlock_same hb _, stamped_modify hs _ _ (fun _ _ => rfl) (fun e' _ he' => hkeyf e' he'), ?_⟩, ⟨_, _, _, _, hb, rfl⟩⟩
  ·simp [Instr.mapUpdate, run_underlying ht, MapKept.run_getObj_map hb, hk.check, h1, hj, h3, hk.stays, MapKept.run_setObj_map _ hb, Result.andThen, setBlock]
  ·rw [hlist, List.map_set]
   have hj2 : (es.toList.map kv)[j]? = some (x, v0) := by
    rw [List.getElem?_map, h2]
    simp [kv, h3, hv]
   obtain ⟨r', p1, p2⟩ := perm_set (x, v) (x, v0) _ _ hj2
   have : r.Perm r' := (List.perm_cons (x, v0)).1 (hm.symm.trans (hl.trans p1))
   exact (this.cons (x, v)).trans p2.symm
/-- A key that is there goes. -/
theorem MapIs.drop_hit (h : MapIs w b l) (ht : P.underlying t = some (.map k e)) {x v0 : Value} {r : List (Value × Value)} (hk : Keyable P k w x (l.map (·.1))) (hm : l.Perm ((x, v0) :: r)) (ty : TypeId) :
  ∃ w', (Builtin.delete_ #[t, k] ty #[.map (some b), x]).run P w = .ok (.tuple #[]) w' ∧ MapIs w' b r ∧ w.mapTurned w' b := by
 obtain ⟨es, clock, hb, hs, hl⟩ := h
 have hm' := hl.mem_iff.1 (hm.mem_iff.2 (List.mem_cons_self ..))
 rcases hk.find es.toList (fun y hy => (hl.map (·.1)).mem_iff.2 (by simpa [kv] using ⟨y, by simpa using hy, rfl⟩)) with ⟨h1, h2⟩ | ⟨j, e0, h1, h2, h3⟩
 ·obtain ⟨y, hy, hyx⟩ := List.mem_map.1 hm'
  simp only [kv, Prod.mk.injEq] at hyx
  exact absurd hyx.1 (h2 y hy)
 ·have hv := mem_of_key hs hm' h2 h3
  have hjl : j < es.toList.length := (List.getElem?_eq_some_iff.1 h2).1
  have hjs : j < es.size := by simpa using hjl
  have hsub : (es.eraseIdxIfInBounds j).toList = es.toList.eraseIdx j := by
   unfold Array.eraseIdxIfInBounds
   rw [dif_pos hjs]
   simp
  refine ⟨setBlock w b (.map (es.eraseIdxIfInBounds j) clock), ?_, ⟨_, _, heap_setBlock_same hb _, stamped_erase hs j, ?_⟩, ⟨_, _, _, _, hb, rfl⟩⟩
  ·simp [Builtin.delete_, run_underlying ht, MapKept.run_getObj_map hb, hk.check, h1, MapKept.run_setObj_map _ hb, Result.andThen, setBlock]
  ·rw [hsub, map_eraseIdx]
   have hj2 : (es.toList.map kv)[j]? = some (x, v0) := by
    rw [List.getElem?_map, h2]
    simp [kv, h3, hv]
   exact (List.perm_cons (x, v0)).1 (hm.symm.trans (hl.trans (perm_erase _ _ _ hj2)))
/-- A range over the map of block b, by the iterator of block r: left is still to come. -/
def Ranges (w : World) (b r : Nat) (l left : List (Value × Value)) : Prop :=
  ∃ es clock since seen c0, w.heap[b]? = some (.map es clock) ∧ Stamped es clock ∧ l.Perm (es.toList.map kv) ∧ w.heap[r]? = some (.mapIter (some b) since seen c0) ∧
    (∀ x ∈ es.toList, x.born < since) ∧ left.Perm ((leftOf es seen).toList.map kv) ∧ since ≤ c0 ∧ since ≤ clock
variable {r : Nat} {left : List (Value × Value)}
theorem Ranges.is (h : Ranges w b r l left) : MapIs w b l := by
 obtain ⟨es, clock, since, seen, c0, hb, hs, hl, _⟩ := h
 exact ⟨es, clock, hb, hs, hl⟩
theorem Ranges.ne (h : Ranges w b r l left) : r ≠ b := by
 obtain ⟨es, clock, since, seen, c0, hb, hs, hl, hr, _⟩ := h
 intro e
 rw [e, hb] at hr
 cases hr
theorem Ranges.lt (h : Ranges w b r l left) : r < w.heap.size := by
 obtain ⟨es, clock, since, seen, c0, hb, hs, hl, hr, _⟩ := h
 exact (Array.getElem?_eq_some_iff.1 hr).1
theorem Ranges.of_blocks {w' : World} (h : Ranges w b r l left) (hb' : w'.heap[b]? = w.heap[b]?) (hr' : w'.heap[r]? = w.heap[r]?) : Ranges w' b r l left := by
 obtain ⟨es, clock, since, seen, c0, hb, hs, hl, hr, rest⟩ := h
 exact ⟨es, clock, since, seen, c0, hb'.trans hb, hs, hl, hr'.trans hr, rest⟩
theorem Ranges.kept {w' : World} {row : Option Nat} (h : Ranges w b r l left) (hg : w.grownBy w' row) (hb' : some b ≠ row) (hr' : some r ≠ row) : Ranges w' b r l left :=
 h.of_blocks (hg.block b h.is.lt hb') (hg.block r h.lt hr')
theorem Ranges.left_eq (h : Ranges w b r l left) : w.rangeLeft b r = left.length := by
 obtain ⟨es, clock, since, seen, c0, hb, hs, hl, hr, hold, hleft, _⟩ := h
 rw [hleft.length_eq]
 simp [World.rangeLeft, hb, hr]
/-- 'range m'. -/
theorem MapIs.range (h : MapIs w b l) (ht : P.underlying t = some (.map k e)) :
  ∃ w', (Instr.range t (.map (some b))).run P w = .ok (.pointer (some ⟨w.heap.size, 0, none⟩)) w' ∧ Ranges w' b w.heap.size l l ∧ w.grownBy w' none ∧ w'.heap.size = w.heap.size + 1 := by
 have hlt := h.lt
 obtain ⟨es, clock, hb, hs, hl⟩ := h
 refine ⟨_, run_range_map w t k e b es clock ht hb, ⟨es, clock, clock, #[], clock, ((MapKept.heap_alloc w _).2 b hlt).trans hb, hs, hl, (MapKept.heap_alloc w _).1, hs.1, ?_, Nat.le_refl _, Nat.le_refl _⟩, World.grownBy_alloc w _ none, by simp⟩
 have e1 : List.filter (fun _ : MapEntry => true) es.toList = es.toList := List.filter_eq_self.2 (by simp)
 simpa [leftOf, e1] using hl
theorem perm_struck (p : MapEntry → Bool) (e : MapEntry) : ∀ L : List MapEntry, (L.map (·.born)).Nodup → e ∈ L → p e = true → (L.filter p).Perm (e :: L.filter (fun x => p x && !(x.born == e.born)))
 | y :: L, hn, he, hp => by
  obtain ⟨h1, h2⟩ := List.nodup_cons.1 hn
  rcases List.mem_cons.1 he with rfl | h
  ·have hf : L.filter (fun x => p x && !(x.born == e.born)) = L.filter p := List.filter_congr fun x hx => by
    have : (x.born == e.born) = false := by
     cases hc : x.born == e.born with
     | false => rfl
     | true => exact absurd (List.mem_map.2 ⟨x, hx, beq_iff_eq.1 hc⟩) h1
    rw [this]
    simp
   simp [hp, hf]
  ·have hy : (y.born == e.born) = false := by
    cases hc : y.born == e.born with
    | false => rfl
    | true => exact absurd (List.mem_map.2 ⟨e, h, (beq_iff_eq.1 hc).symm⟩) h1
   have ih := perm_struck p e L h2 h hp
   by_cases hpy : p y = true
   ·simp only [List.filter_cons, hpy, hy, Bool.not_false, Bool.and_true, if_true]
    exact (ih.cons y).trans (List.Perm.swap _ _ _)
   ·simpa [List.filter_cons, hpy] using ih
/-- The step. -/
theorem Ranges.next (h : Ranges w b r l left) (ty : TypeId) :
  (left = [] ∧ (Instr.next (.pointer (some ⟨r, 0, none⟩)) false ty).run P w = .ok (.tuple #[.bool false]) w) ∨
  ∃ x v left' w', left.Perm ((x, v) :: left') ∧ (x, v) ∈ l ∧ (Instr.next (.pointer (some ⟨r, 0, none⟩)) false ty).run P w = .ok (.tuple #[.bool true, x, v]) w' ∧
   Ranges w' b r l left' ∧ w.grownBy w' (some r) ∧ w'.heap.size = w.heap.size ∧ (Instr.entry (.pointer (some ⟨r, 0, none⟩))).run P w' = .ok (.tuple #[x, v]) w' := by
 have hne := h.ne
 obtain ⟨es, clock, since, seen, c0, hb, hs, hl, hr, hold, hleft, hsc, hsk⟩ := h
 rcases run_next_at (P := P) w ty r b since c0 seen es clock hr hb hold hsc with ⟨h0, hrun⟩ | ⟨e, he, w1, hal, hrun⟩
 ·refine Or.inl ⟨?_, hrun⟩
  have : left.length = 0 := by rw [hleft.length_eq]; simpa using h0
  exact List.length_eq_zero_iff.1 this
 ·obtain ⟨hem, hes⟩ := mem_left he
  have hr1 : w1.heap[r]? = some (.mapIter (some b) since seen c0) := by rcases hal with rfl | rfl <;> exact hr
  have hb1 : w1.heap[b]? = some (.map es clock) := by rcases hal with rfl | rfl <;> exact hb
  have hset := heap_set (o' := .mapIter (some b) since (seen.push e.born) clock) hr1
  have hb' : (setBlock w1 r (.mapIter (some b) since (seen.push e.born) clock)).heap[b]? = some (.map es clock) := (hset.2 b (fun e1 => hne e1.symm)).trans hb1
  have hnd := ((stamped_iff es clock).1 hs).2.1
  have hperm : ((leftOf es seen).toList.map kv).Perm (kv e :: ((leftOf es (seen.push e.born)).toList.map kv)) := by
   have e1 : ∀ s : Array Nat, (leftOf es s).toList = es.toList.filter (fun x => !s.contains x.born) := fun s => by
    unfold leftOf
    rw [Array.toList_filter]
   rw [e1, e1]
   show List.Perm _ (List.map kv (e :: _))
   refine List.Perm.map _ ?_
   have := perm_struck (fun x : MapEntry => !seen.contains x.born) e es.toList hnd hem (by rw [hes]; rfl)
   refine this.trans (List.Perm.of_eq (congrArg _ (List.filter_congr fun x _ => ?_)))
   rw [contains_push]
   cases seen.contains x.born <;> cases (x.born == e.born) <;> rfl
  refine Or.inr ⟨e.key, e.val, _, _, hleft.trans hperm, hl.mem_iff.2 (List.mem_map.2 ⟨e, hem, rfl⟩), hrun,
   ⟨es, clock, since, seen.push e.born, clock, hb', hs, hl, hset.1, hold, .refl _, hsk, hsk⟩, ?_, ?_,
   run_entry_at _ r b since seen es clock e hset.1 hb' hem hnd⟩
  ·rcases hal with rfl | rfl <;> exact ⟨rfl, rfl, rfl, by simp [setBlock], fun i _ hi => hset.2 i (fun e1 => hi (by rw [e1]))⟩
  ·rcases hal with rfl | rfl <;> simp [setBlock]
end
section
variable {P : Program} (w : World) {ops : Array Oper} {rest : List Oper} {o : Oper} {a : Act} {Q : Exit → Act → World → Prop}
/-- A look-up at the operation. -/
theorem wp_look (hg : o.guard = none) (m x : Operand) (t : TypeId) (c : Bool) (hop : o.op = Op.lookup t m x c) (mv : Value) (key r : Value) (hm : a.eval m = mv) (hx : a.eval x = key)
  (hrun : (Instr.lookup t mv key c).run P w = .ok r w) (hK : wpList P ops Q rest (a.put o.dst r) w) : wpList P ops Q (o :: rest) a w := by
 refine wpList_plain hg fun K' hK' => ?_
 unfold Oper.wp
 simp [execOp, hop, hm, hx, hrun, Result.andThen]
 exact hK' _ _ hK
/-- A store at the operation. -/
theorem wp_store (hg : o.guard = none) (m x v : Operand) (t : TypeId) (hop : o.op = Op.mapUpdate t m x v) (mv : Value) (key val : Value) (hm : a.eval m = mv) (hx : a.eval x = key) (hv : a.eval v = val) (w' : World)
  (hrun : (Instr.mapUpdate t mv key val).run P w = .ok () w') (hK : wpList P ops Q rest (a.put o.dst undef) w') : wpList P ops Q (o :: rest) a w := by
 refine wpList_plain hg fun K' hK' => ?_
 unfold Oper.wp
 simp [execOp, hop, hm, hx, hv, hrun, Result.andThen]
 exact hK' _ _ hK
/-- 'delete' at the operation. -/
theorem wp_drop (hg : o.guard = none) (m x : Operand) (t k : TypeId) (hop : o.op = Op.call { callee := Callee.builtin Builtin.delete, args := #[m, x], argTypes := #[t, k] }) (mv : Value) (key : Value) (hm : a.eval m = mv) (hx : a.eval x = key) (w' : World)
  (hrun : (Builtin.delete_ #[t, k] o.type #[mv, key]).run P w = .ok (.tuple #[]) w') (hK : wpList P ops Q rest (a.put o.dst (.tuple #[])) w') : wpList P ops Q (o :: rest) a w := by
 refine wpList_plain hg fun K' hK' => ?_
 unfold Oper.wp
 simp [execOp, hop, resolve, invoke, builtin, hm, hx, hrun, Result.andThen]
 exact hK' _ _ hK
/-- 'range m' at the operation. -/
theorem wp_range (hg : o.guard = none) (m : Operand) (t : TypeId) (hop : o.op = Op.range t m) (k e : TypeId) (ht : P.underlying t = some (.map k e)) (b : Nat) (l : List (Value × Value)) (hm : a.eval m = .map (some b)) (h : MapIs w b l)
  (hK : ∀ w', Ranges w' b w.heap.size l l → w.grownBy w' none → w'.heap.size = w.heap.size + 1 → wpList P ops Q rest (a.put o.dst (.pointer (some ⟨w.heap.size, 0, none⟩))) w') :
  wpList P ops Q (o :: rest) a w := by
 refine wpList_plain hg fun K' hK' => ?_
 obtain ⟨w', hrun, r1, r2, r3⟩ := h.range ht
 unfold Oper.wp
 simp [execOp, hop, hm, hrun, Result.andThen]
 exact hK' _ _ (hK w' r1 r2 r3)
/-- The step at the operation. -/
theorem wp_next (hg : o.guard = none) (it : Operand) (hop : o.op = Op.next it false) (b r : Nat) (l left : List (Value × Value)) (hit : a.eval it = .pointer (some ⟨r, 0, none⟩)) (h : Ranges w b r l left)
  (hDone : left = [] → wpList P ops Q rest (a.put o.dst (.tuple #[.bool false])) w)
  (hMore : ∀ x v left' w', left.Perm ((x, v) :: left') → (x, v) ∈ l → Ranges w' b r l left' → w.grownBy w' (some r) → w'.heap.size = w.heap.size → (Instr.entry (.pointer (some ⟨r, 0, none⟩))).run P w' = .ok (.tuple #[x, v]) w' →
   wpList P ops Q rest (a.put o.dst (.tuple #[.bool true, x, v])) w') :
  wpList P ops Q (o :: rest) a w := by
 refine wpList_plain hg fun K' hK' => ?_
 unfold Oper.wp
 rcases h.next (P := P) o.type with ⟨h0, hrun⟩ | ⟨x, v, left', w', hp, hm, hrun, hrg, hgr, hsz, hen⟩
 ·simp [execOp, hop, hit, hrun, Result.andThen]
  exact hK' _ _ (hDone h0)
 ·simp [execOp, hop, hit, hrun, Result.andThen]
  exact hK' _ _ (hMore x v left' w' hp hm hrg hgr hsz hen)
end
end Go.Proofs.YtcjlfkklpghjbaaGreat

namespace Go.Proofs.YtcjlfkklpghjbaaGreat
open Go.RowKit Go.Lib
set_option linter.unusedVariables false
set_option linter.unusedSimpArgs false
/-- A row of the call's own that holds strings. -/
def strs (l : List Bytes) : List Value := l.map fun p => .string (mkS p)
def Strs (B : Nat) (W : World) (v : Value) (l : List Bytes) : Prop := W.ownsRow B 9 1 v l.length (strs l)
theorem Strs.own {B : Nat} {W : World} {v : Value} {l : List Bytes} (h : Strs B W v l) : W.ownsRow B 9 1 v l.length (strs l) := h
theorem Strs.snoc {B : Nat} {W : World} {v : Value} {l : List Bytes} {p : Bytes} (h : W.ownsRow B 9 1 v (l.length + 1) (strs l ++ [.string (mkS p)])) : Strs B W v (l ++ [p]) := by
 unfold Strs; simpa [strs] using h
theorem info_string : (Tryz.prog.info? 9).map (fun i => (i.zero, i.size, i.bytes)) = some (some (.string ⟨#[]⟩), 1, 16) := by kernel_rfl
theorem own_low {w : World} {b base : Nat} {e : TypeId} {size n : Nat} {v : Value} {xs : List Value} (h : w.ownsRow b e size v n xs) (hle : base ≤ b) : w.ownsRow base e size v n xs := by
 refine ⟨h.1, ?_⟩
 rcases h.2 with h2 | ⟨g, cap, cur, hv, hg, r⟩
 ·exact .inl h2
 ·exact .inr ⟨g, cap, cur, hv, Nat.le_trans hle hg, r⟩
theorem get_bang (s : ByteArray) (i : Nat) (h : i < s.size) : s.get! i = (bl s)[i]'(by rw [bl_length]; exact h) := by
 show s.get! i = _
 show s.data[i]! = s.data.toList[i]'_
 rw [getElem!_pos s.data i h]
 rfl
/-- What a step of the range over a string says of the byte '/'. -/
theorem decode_slash (s : ByteArray) (pos : Nat) (h : pos < s.size) :
  ((((Utf8.decode s pos).1 : Int) == 47) = true ∧ (Utf8.decode s pos).2 = 1 ∧ (bl s)[pos]? = some 47) ∨
  ((((Utf8.decode s pos).1 : Int) == 47) = false ∧ 1 ≤ (Utf8.decode s pos).2 ∧ pos + (Utf8.decode s pos).2 ≤ s.size ∧ ∀ k, k < (Utf8.decode s pos).2 → (bl s)[pos + k]? ≠ some 47) := by
 have hlen := bl_length s
 have hb : ∀ k, pos + k < s.size → (bl s)[pos + k]? = some (s.get! (pos + k)) := fun k hk => by
  rw [get_bang s _ hk]; exact List.getElem?_eq_getElem _
 have hne : ∀ k, pos + k < s.size → (s.get! (pos + k)).toNat ≠ 47 → (bl s)[pos + k]? ≠ some 47 := fun k hk hx he => by
  rw [hb k hk] at he
  injection he with he
  rw [he] at hx; exact hx rfl
 by_cases ha : (s[pos]'h).toNat < 128
 ·rw [decode_ascii s pos h ha]
  have e0 : (bl s)[pos]? = some (s[pos]'h) := by
   rw [List.getElem?_eq_getElem (by rw [hlen]; exact h)]; rfl
  by_cases h47 : (s[pos]'h).toNat = 47
  ·left
   refine ⟨by simp [h47], rfl, ?_⟩
   rw [e0]; congr 1; exact UInt8.toNat_inj.1 h47
  ·right
   refine ⟨?_, Nat.le_refl _, h, ?_⟩
   ·rw [beq_eq_false_iff_ne]; simp; omega
   ·intro k hk
    obtain rfl : k = 0 := by simp at hk; omega
    rw [Nat.add_zero, e0]
    intro he; injection he with he; rw [he] at h47; exact h47 rfl
 ·right
  have h2 := decode_high s pos h (by omega)
  refine ⟨by rw [beq_eq_false_iff_ne]; omega, h2.2, ?_⟩
  have hn0 : ¬ (s.get! (pos + 0)).toNat < 128 := by
   rw [Nat.add_zero, get_bang s pos h]; exact ha
  have f0 : (bl s)[pos + 0]? ≠ some 47 := hne 0 (by simpa using h) (by omega)
  simp only [Utf8.decode]
  rw [if_neg hn0]
  have one : pos + 1 ≤ s.size ∧ ∀ k, k < 1 → (bl s)[pos + k]? ≠ some 47 := ⟨h, fun k hk => by obtain rfl : k = 0 := (by omega); exact f0⟩
  have cont : ∀ k, (decide (pos + k < s.size) && (s.get! (pos + k)).toNat / 64 == 2) = true → pos + k < s.size ∧ (bl s)[pos + k]? ≠ some 47 := fun k hk => by
   simp only [Bool.and_eq_true, decide_eq_true_eq, beq_iff_eq] at hk
   exact ⟨hk.1, hne k hk.1 (by omega)⟩
  split
  ·rename_i hc
   simp only [Bool.and_eq_true] at hc
   have c1 := cont 1 (by simpa using hc.2)
   split
   ·refine ⟨by simp; omega, fun k hk => ?_⟩
    have : k = 0 ∨ k = 1 := by simp at hk; omega
    rcases this with rfl | rfl
    ·exact f0
    ·exact c1.2
   ·exact one
  ·split
   ·rename_i hc
    simp only [Bool.and_eq_true] at hc
    have c1 := cont 1 (by simpa using hc.1.2)
    have c2 := cont 2 (by simpa using hc.2)
    split
    ·refine ⟨by simp; omega, fun k hk => ?_⟩
     have : k = 0 ∨ k = 1 ∨ k = 2 := by simp at hk; omega
     rcases this with rfl | rfl | rfl
     ·exact f0
     ·exact c1.2
     ·exact c2.2
    ·exact one
   ·split
    ·rename_i hc
     simp only [Bool.and_eq_true] at hc
     have c1 := cont 1 (by simpa using hc.1.1.2)
     have c2 := cont 2 (by simpa using hc.1.2)
     have c3 := cont 3 (by simpa using hc.2)
     split
     ·refine ⟨by simp; omega, fun k hk => ?_⟩
      have : k = 0 ∨ k = 1 ∨ k = 2 ∨ k = 3 := by simp at hk; omega
      rcases this with rfl | rfl | rfl | rfl
      ·exact f0
      ·exact c1.2
      ·exact c2.2
      ·exact c3.2
     ·exact one
    ·exact one
/-- How far the parts are known: 'done' the parts behind us, from 'fr' on the piece that is open. -/
def Cut (s : Bytes) (pos fr : Nat) (done : List Bytes) : Prop := fr ≤ pos ∧ pos ≤ s.length ∧ splitL (s.take pos) = done ++ [(s.take pos).drop fr]
theorem Cut.start (s : Bytes) : Cut s 0 0 [] := ⟨Nat.le_refl _, Nat.zero_le _, by simp [splitL]⟩
theorem Cut.slash {s : Bytes} {pos fr : Nat} {done : List Bytes} (h : Cut s pos fr done) (hc : s[pos]? = some 47) : Cut s (pos + 1) (pos + 1) (done ++ [(s.take pos).drop fr]) := by
 obtain ⟨h1, h2, h3⟩ := h
 have hlt : pos < s.length := (List.getElem?_eq_some_iff.1 hc).1
 have he : s[pos] = 47 := (List.getElem?_eq_some_iff.1 hc).2
 refine ⟨Nat.le_refl _, hlt, ?_⟩
 rw [List.take_succ_eq_append_getElem hlt, he, splitL_snoc, if_pos rfl, h3]
 congr 2
 rw [List.drop_eq_nil_of_le]
 simp; omega
theorem Cut.other {s : Bytes} {pos fr : Nat} {done : List Bytes} (h : Cut s pos fr done) (hlt : pos < s.length) (hc : s[pos]? ≠ some 47) : Cut s (pos + 1) fr done := by
 obtain ⟨h1, h2, h3⟩ := h
 have he : s[pos] ≠ 47 := fun e => hc (by rw [List.getElem?_eq_getElem hlt, e])
 refine ⟨by omega, hlt, ?_⟩
 rw [List.take_succ_eq_append_getElem hlt, splitL_snoc, if_neg he]
 simp only [h3]
 rw [List.dropLast_concat, List.getLast_concat, List.drop_append_of_le_length (by simp; omega)]
theorem Cut.others {s : Bytes} {pos fr : Nat} {done : List Bytes} (h : Cut s pos fr done) : ∀ n, pos + n ≤ s.length → (∀ k, k < n → s[pos + k]? ≠ some 47) → Cut s (pos + n) fr done
 | 0, _, _ => h
 | n + 1, hl, hk => (Cut.others h n (by omega) (fun k hk' => hk k (by omega))).other (by omega) (hk n (by omega))
theorem Cut.finish {s : Bytes} {fr : Nat} {done : List Bytes} (h : Cut s s.length fr done) : splitL s = done ++ [s.drop fr] := by
 have := h.2.2
 rwa [List.take_length] at this
theorem slice_of (s : ByteArray) (fr pos : Nat) : s.extract fr pos = mkS (((bl s).take pos).drop fr) := extract_mkS s fr pos
set_option maxHeartbeats 2000000 in
set_option maxRecDepth 100000 in
theorem split_calls (s : ByteArray) (w : World) (hs : s.size ≤ 16777216) :
  Calls Tryz.prog 74 #[.string s] w fun e w' => (∃ v, e = .returned v ∧ Strs w.heap.size w' v (split (bl s))) ∧ Below w.heap.size w w' := by
 by_cases hz : s.size = 0
 ·have he : s.toList.isEmpty = true := by rw [str_empty]; simp [hz]
  have hsp : split (bl s) = [] := by
   have : bl s = [] := List.eq_nil_of_length_eq_zero (by rw [bl_length, hz])
   rw [this]; rfl
  rw [hsp]
  clear hsp hz
  go_enter Tryz.func74, Tryz.ntmps74
  go_wp2
  go_ret
  exact ⟨⟨_, rfl, World.ownsRow_nil _ _ _ _⟩, Below.refl _ _⟩
 ·have he : s.toList.isEmpty = false := by rw [str_empty]; simp [hz]
  have hne : bl s ≠ [] := fun h => hz (by rw [← bl_length, h]; rfl)
  have hsp : Hid (split (bl s) = splitL (bl s)) := split_ne hne
  have hl := bl_length s
  clear hz hne
  have hit : (w.iter s 0).heap[w.heap.size]? = some (.stringIter s 0) := World.iter_heap ..
  have hb0 : Below w.heap.size w (w.iter s 0) := (Below.refl _ _).alloc (Nat.le_refl _) _
  have hsz0 : (w.iter s 0).heap.size = w.heap.size + 1 := by simp [World.iter]
  go_enter Tryz.func74, Tryz.ntmps74
  go_wp2
  go_loopw [3, 4] (fun out fr W => ∃ (pos f : Nat) (done : List Bytes), fr = .int .i64 f ∧ Cut (bl s) pos f done ∧ done.length ≤ pos ∧ Strs (w.heap.size + 1) W out done ∧ W.heap[w.heap.size]? = some (.stringIter s pos) ∧ w.heap.size + 1 ≤ W.heap.size ∧ Below w.heap.size w W) (fun _ _ W => s.size - W.iterPos w.heap.size)
  case atStart => exact ⟨0, 0, [], rfl, Cut.start _, Nat.le_refl _, World.ownsRow_nil _ _ _ _, hit, by omega, hb0⟩
  case round =>
   clear hit hb0 hsz0
   obtain ⟨pos, f, done, rfl, hcut, hdl, hO, hit, hsz, hW⟩ := hrel
   have hf := hcut.1
   have hps := hcut.2.1
   have hip : wr.iterPos w.heap.size = pos := by simp [World.iterPos, hit]
   by_cases hp : pos < s.size
   ·have hd := decode_slash s pos hp
    have hnx := fun ty => run_next_any_at (P := Tryz.prog) wr w.heap.size s pos ty hit hp
    have hit2 := fun q => iterAt_heap wr w.heap.size s pos q hit
    have hO2 : ∀ q, Strs (w.heap.size + 1) (wr.iterAt w.heap.size s q) u3 done := fun q => own_kept hO.own (row := some w.heap.size) ⟨rfl, rfl, rfl, by simp [iterAt_size], fun k _ hk => iterAt_other wr w.heap.size k s q (fun e => hk (by rw [e]))⟩ (fun b hb => by
     rcases own_rel hO.own with h | ⟨x, h, h', _⟩
     ·rw [h] at hb; cases hb
     ·rw [h] at hb; cases hb; simp; omega)
    have hW2 := fun q => below_iterAt hW (k := w.heap.size) (Nat.le_refl _) s q
    have hsz2 : ∀ q, (wr.iterAt w.heap.size s q).heap.size = wr.heap.size := fun q => iterAt_size ..
    have hd2 := hd
    generalize (Utf8.decode s pos).2 = wd at *
    generalize ((Utf8.decode s pos).1 : Int) = ch at *
    replace hsz2 := hid hsz2
    replace hd2 := hid hd2
    replace hit2 := hid hit2
    replace hip := hid hip
    clear hit hO hW
    rcases hd with ⟨h47, _⟩ | ⟨h47, _⟩
    ·obtain ⟨rfl, hc47⟩ : wd = 1 ∧ (bl s)[pos]? = some 47 := by
      rcases hd2.out with h | h
      ·exact h.2
      ·rw [h.1] at h47; cases h47
     clear hd2
     replace hc47 := hid hc47
     go_wp2_with (at_builtin; refine wp_append1 (w.heap.size + 1) rfl (.tmp 17) (.tmp 22) 62 9 rfl Tryz.underlying62 (.string ⟨#[]⟩) 1 16 info_string rfl (by decide) u3 _ _ rfl [.string (s.extract f pos)] rfl (hO2 _).own rfl ?_ ?_ ?_ ?_ ?_)
     ·simp [Value.oneCell']
     ·simp [maxLen]; omega
     ·omega
     ·rw [hsz2.out]; exact hsz
     ·intro v1 w1 ho1 hg1 hat
      have hO : Strs (w.heap.size + 1) w1 v1 (done ++ [((bl s).take pos).drop f]) := Strs.snoc (by rw [← slice_of]; exact ho1)
      have hrow : ∀ b, u3.ownBlock = some b → w.heap.size + 1 ≤ b := fun b hb => by
       rcases own_rel (hO2 0).own with h | ⟨x, h, h', _⟩
       ·rw [h] at hb; cases hb
       ·rw [h] at hb; cases hb; exact h'
      have hB : Below w.heap.size w w1 := (hW2 _).grown hg1 (by rw [hsz2.out]; omega) (fun b hb => by have := hrow b hb; omega)
      have hit3 : w1.heap[w.heap.size]? = some (.stringIter s (pos + 1)) := by
       rw [hg1.block _ (by rw [hsz2.out]; omega) (fun e => by have := hrow _ e.symm; omega)]
       exact hit2.out _
      have hsz3 := hg1.size
      rw [hsz2.out] at hsz3
      have hC := hcut.slash hc47.out
      clear ho1 hg1 hat hrow hO2 hW2 hsz2 hnx hcut
      replace hit3 := hid hit3
      go_wp2
      go_roundw
      case measure => rw [hip.out]; simp [World.iterPos, hit3.out]; omega
      case rel => exact ⟨pos + 1, pos + 1, _, by go_num, hC, by simp; omega, hO, hit3.out, by omega, hB⟩
    ·obtain ⟨hw1, hw2, hw3⟩ : 1 ≤ wd ∧ pos + wd ≤ s.size ∧ ∀ k, k < wd → (bl s)[pos + k]? ≠ some 47 := by
      rcases hd2.out with h | h
      ·rw [h.1] at h47; cases h47
      ·exact h.2
     have hC := hcut.others wd (by omega) hw3
     clear hd2 hw3
     go_wp2
     go_roundw
     case measure => rw [hip.out]; simp [World.iterPos, hit2.out]; omega
     case rel => exact ⟨pos + wd, f, done, rfl, hC, by omega, hO2 _, hit2.out _, by rw [hsz2.out]; exact hsz, hW2 _⟩
   ·have hnx := fun ty => run_next_end_at (P := Tryz.prog) wr w.heap.size s pos ty hit hp
    have hpe : pos = s.size := by omega
    have hO2 := hO
    replace hO2 := hid hO2
    replace hpe := hid hpe
    replace hip := hid hip
    replace hit := hid hit
    clear hO
    go_wp2_with (at_builtin; refine wp_append1 (w.heap.size + 1) rfl (.tmp 26) (.tmp 30) 62 9 rfl Tryz.underlying62 (.string ⟨#[]⟩) 1 16 info_string rfl (by decide) u3 _ _ rfl [.string (s.extract f s.size)] rfl hO2.out.own rfl ?_ ?_ ?_ ?_ ?_)
    ·simp [Value.oneCell']
    ·simp [maxLen]; omega
    ·omega
    ·exact hsz
    ·intro v1 w1 ho1 hg1 hat
     have hrow : ∀ b, u3.ownBlock = some b → w.heap.size + 1 ≤ b := fun b hb => by
      rcases own_rel hO2.out.own with h | ⟨x, h, h', _⟩
      ·rw [h] at hb; cases hb
      ·rw [h] at hb; cases hb; exact h'
     have hB : Below w.heap.size w w1 := hW.grown hg1 (by omega) (fun b hb => by have := hrow b hb; omega)
     have hO : Strs w.heap.size w1 v1 (split (bl s)) := by
      have hc2 := hcut
      rw [hpe.out, ← hl] at hc2
      rw [hsp.out, hc2.finish]
      refine own_low (Strs.own (Strs.snoc ?_)) (Nat.le_succ _)
      rw [show (bl s).drop f = ((bl s).take s.size).drop f by rw [← hl, List.take_length], ← slice_of]
      exact ho1
     clear ho1 hg1 hat hrow
     go_wp2
     go_ret
     exact ⟨⟨_, rfl, hO⟩, hB⟩
end Go.Proofs.YtcjlfkklpghjbaaGreat

namespace Go.Proofs.YtcjlfkklpghjbaaGreat
open Go.RowKit Go.Lib
set_option linter.unusedVariables false
set_option linter.unusedSimpArgs false
theorem bl_get (s : ByteArray) (i : Nat) (h : i < s.size) : (bl s)[i]? = some s[i] := by
 rw [List.getElem?_eq_getElem (by rw [bl_length]; exact h)]; rfl
theorem byte_is (s : ByteArray) (i : Nat) (c : UInt8) (h : i < s.size) : (((s[i].toNat : Int) == (c.toNat : Int)) = true ∧ (bl s)[i]? = some c) ∨ (((s[i].toNat : Int) == (c.toNat : Int)) = false ∧ (bl s)[i]? ≠ some c) := by
 rw [bl_get s i h]
 by_cases e : s[i] = c
 ·left; rw [e]; simp
 ·right
  refine ⟨?_, by simpa using e⟩
  rw [beq_eq_false_iff_ne]
  intro h2
  exact e (UInt8.toNat_inj.1 (by omega))
set_option maxHeartbeats 2000000 in
set_option maxRecDepth 100000 in
theorem refsplit_calls (s : ByteArray) (w : World) (hs : s.size ≤ 16777216) :
  Calls Tryz.prog 115 #[.string s] w fun e w' => (∃ v, e = .returned v ∧ Strs w.heap.size w' v (split (bl s))) ∧ Below w.heap.size w w' := by
 by_cases hz : s.size = 0
 ·have he : s.toList.isEmpty = true := by rw [str_empty]; simp [hz]
  have hsp : split (bl s) = [] := by
   have : bl s = [] := List.eq_nil_of_length_eq_zero (by rw [bl_length, hz])
   rw [this]; rfl
  rw [hsp]
  clear hsp hz
  go_enter Tryz.func115, Tryz.ntmps115
  go_wp2
  go_ret
  exact ⟨⟨_, rfl, World.ownsRow_nil _ _ _ _⟩, Below.refl _ _⟩
 ·have he : s.toList.isEmpty = false := by rw [str_empty]; simp [hz]
  have hne : bl s ≠ [] := fun h => hz (by rw [← bl_length, h]; rfl)
  have hsp : Hid (split (bl s) = splitL (bl s)) := split_ne hne
  have hl := bl_length s
  clear hz hne
  go_enter Tryz.func115, Tryz.ntmps115
  go_wp2
  go_loopw [3, 4, 5] (fun out fr ii W => ∃ (pos f : Nat) (done : List Bytes), ii = .int .i64 pos ∧ fr = .int .i64 f ∧ done.length ≤ pos ∧ pos ≤ s.size + 1 ∧ f ≤ pos ∧ ((pos ≤ s.size ∧ Cut (bl s) pos f done) ∨ (pos = s.size + 1 ∧ done = splitL (bl s))) ∧ Strs w.heap.size W out done ∧ Below w.heap.size w W) (fun _ _ ii _ => s.size + 1 - (intOf ii).toNat)
  case atStart => exact ⟨0, 0, [], rfl, rfl, Nat.le_refl _, by omega, by omega, .inl ⟨by omega, Cut.start _⟩, World.ownsRow_nil _ _ _ _, Below.refl _ _⟩
  case round =>
   obtain ⟨pos, f, done, rfl, rfl, hdl, hpb, hfp, hcase, hO, hW⟩ := hrel
   have hsz := hW.size
   have hrow : ∀ b, u3.ownBlock = some b → w.heap.size ≤ b := fun b hb => by
    rcases own_rel hO.own with h | ⟨x, h, h', _⟩
    ·rw [h] at hb; cases hb
    ·rw [h] at hb; cases hb; exact h'
   by_cases hp : pos < s.size
   ·have hcut : Cut (bl s) pos f done := by
     rcases hcase with h | h
     ·exact h.2
     ·omega
    clear hcase
    have heq : ((pos : Int) == (s.size : Int)) = false := by rw [beq_eq_false_iff_ne]; omega
    have hle : (pos : Int) ≤ (s.size : Int) := by omega
    have hd := byte_is s pos 47 hp
    replace hO := hid hO
    rcases hd with ⟨h47, hc47⟩ | ⟨h47, hc47⟩
    ·replace hc47 := hid hc47
     have h47' : ((s[pos].toNat : Int) == 47) = true := h47
     clear h47
     go_wp2_with (at_builtin; refine wp_append1 w.heap.size rfl (.tmp 24) (.tmp 29) 62 9 rfl Tryz.underlying62 (.string ⟨#[]⟩) 1 16 info_string rfl (by decide) u3 _ _ rfl [.string (s.extract f pos)] rfl hO.out.own rfl ?_ ?_ ?_ ?_ ?_)
     ·simp [Value.oneCell']
     ·simp [maxLen]; omega
     ·omega
     ·exact hsz
     ·intro v1 w1 ho1 hg1 hat
      have hO2 : Strs w.heap.size w1 v1 (done ++ [((bl s).take pos).drop f]) := Strs.snoc (by rw [← slice_of]; exact ho1)
      have hB : Below w.heap.size w w1 := hW.grown hg1 hsz hrow
      have hC := hcut.slash hc47.out
      clear ho1 hg1 hat hrow hcut
      go_wp2
      go_roundw
      case measure => simp [intOf]; omega
      case rel => exact ⟨pos + 1, pos + 1, _, by go_num, by go_num, by simp; omega, by omega, by omega, .inl ⟨by omega, hC⟩, hO2, hB⟩
    ·have h47' : ((s[pos].toNat : Int) == 47) = false := h47
     have hC := hcut.other (by omega) hc47
     clear h47 hc47 hrow hcut
     go_wp2
     go_roundw
     case measure => simp [intOf]; omega
     case rel => exact ⟨pos + 1, f, done, by go_num, rfl, by omega, by omega, by omega, .inl ⟨by omega, hC⟩, hO.out, hW⟩
   ·by_cases hq : pos = s.size
    ·have hcut : Cut (bl s) pos f done := by
      rcases hcase with h | h
      ·exact h.2
      ·omega
     clear hcase hp
     subst hq
     replace hO := hid hO
     go_wp2_with (at_builtin; refine wp_append1 w.heap.size rfl (.tmp 24) (.tmp 29) 62 9 rfl Tryz.underlying62 (.string ⟨#[]⟩) 1 16 info_string rfl (by decide) u3 _ _ rfl [.string (s.extract f s.size)] rfl hO.out.own rfl ?_ ?_ ?_ ?_ ?_)
     ·simp [Value.oneCell']
     ·simp [maxLen]; omega
     ·omega
     ·exact hsz
     ·intro v1 w1 ho1 hg1 hat
      have hO2 : Strs w.heap.size w1 v1 (splitL (bl s)) := by
       have hc2 := hcut
       rw [← hl] at hc2
       rw [hc2.finish]
       refine Strs.snoc ?_
       rw [show (bl s).drop f = ((bl s).take s.size).drop f by rw [← hl, List.take_length], ← slice_of]
       exact ho1
      have hB : Below w.heap.size w w1 := hW.grown hg1 hsz hrow
      have hlen : (splitL (bl s)).length ≤ s.size + 1 := by
       have hc2 := hcut
       rw [← hl] at hc2
       rw [hc2.finish]; simp; omega
      clear ho1 hg1 hat hrow hcut
      go_wp2
      go_roundw
      case measure => simp [intOf]
      case rel => exact ⟨s.size + 1, s.size + 1, _, by go_num, by go_num, hlen, by omega, by omega, .inr ⟨rfl, rfl⟩, hO2, hB⟩
    ·have hfin : done = splitL (bl s) := by
      rcases hcase with h | h
      ·omega
      ·exact h.2
     subst hfin
     have hle : ¬ ((pos : Int) ≤ (s.size : Int)) := by omega
     clear hcase hq hp hrow hpb
     go_wp2
     go_ret
     exact ⟨⟨_, rfl, by rw [hsp.out]; exact hO⟩, hW⟩
end Go.Proofs.YtcjlfkklpghjbaaGreat

namespace Go.Proofs.YtcjlfkklpghjbaaGreat
open Go.RowKit Go.Lib
set_option linter.unusedVariables false
set_option linter.unusedSimpArgs false
theorem indexByte_neg : ∀ (l : Bytes) (c : UInt8), decide (Lib.indexByte l c < 0) = !l.contains c
 | [], c => rfl
 | b :: l, c => by
  have ih := indexByte_neg l c
  have hge : -1 ≤ Lib.indexByte l c := by
   clear ih
   induction l with
   | nil => simp [Lib.indexByte]
   | cons d l ih => simp only [Lib.indexByte]; split; omega; split <;> omega
  simp only [Lib.indexByte, List.contains_cons]
  by_cases h : b = c
  ·subst h; simp
  ·have h1 : (b == c) = false := by simpa using h
   have h2 : (c == b) = false := by simpa using fun e => h e.symm
   simp only [h1, h2, Bool.false_or, ← ih, Bool.false_eq_true, if_false]
   by_cases hm : Lib.indexByte l c = -1
   ·simp [hm]
   ·have : (Lib.indexByte l c == -1) = false := by simpa using hm
    simp only [this, Bool.false_eq_true, if_false]
    rw [decide_eq_decide]
    omega
set_option maxHeartbeats 1000000 in
set_option maxRecDepth 100000 in
theorem liteindex_calls (s : ByteArray) (c : Int) (w : World) :
  Calls Tryz.prog 130 #[.string s, .int .u8 c] w fun e w' => e = .returned (.int .i64 (Lib.indexByte (bl s) c.toNat.toUInt8)) ∧ w = w' := by
 go_enter Tryz.func130, Tryz.ntmps130
 go_wp2
 rw [run_callFunc_extern Tryz.func134 (by kernel_rfl) (by kernel_rfl) (by kernel_rfl) (e := Extern.BytealgIndexByte.indexByte) (by kernel_rfl), Lib.run_indexByteString]
 simp only [Result.andThen]
 rw [Oper.upon_value]
 go_wp2
 go_ret
 exact ⟨rfl, rfl⟩
theorem indexbyte_calls (s : ByteArray) (c : Int) (w : World) :
  Calls Tryz.prog 123 #[.string s, .int .u8 c] w fun e w' => e = .returned (.int .i64 (Lib.indexByte (bl s) c.toNat.toUInt8)) ∧ w = w' := by
 go_enter Tryz.func123, Tryz.ntmps123
 go_wp2_with fail
 refine (liteindex_calls _ _ _).mono ?_
 rintro e w1 ⟨rfl, rfl⟩
 go_wp2
 go_ret
 exact ⟨rfl, rfl⟩
theorem beq_str (s : ByteArray) (l : Bytes) : (s.toList == l) = decide (bl s = l) := by
 rw [toList_bl, Bool.eq_iff_iff]; simp
theorem partOk_def (s : ByteArray) : partOk (bl s) = (!s.toList.isEmpty && decide ((s.size : Int) ≤ 48) && !(s.toList == [46]) && !(s.toList == [46, 46]) && decide (Lib.indexByte (bl s) 0 < 0)) := by
 rw [indexByte_neg, beq_str, beq_str, str_empty]
 unfold partOk
 have h1 : (decide (bl s ≠ [])) = !decide (s.size = 0) := by
  rw [← bl_length]
  cases bl s <;> simp
 have h2 : decide ((bl s).length ≤ 48) = decide ((s.size : Int) ≤ 48) := by
  rw [bl_length]; simp only [decide_eq_decide]; omega
 rw [h1, h2]
 simp
set_option maxHeartbeats 1000000 in
set_option maxRecDepth 100000 in
theorem part_calls (s : ByteArray) (w : World) :
  Calls Tryz.prog 111 #[.string s] w fun e w' => e = .returned (.bool (partOk (bl s))) ∧ w = w' := by
 have hd := partOk_def s
 have hi := fun W => indexbyte_calls s 0 W
 have e0 : ((0 : Int).toNat.toUInt8) = 0 := rfl
 rw [e0] at hi
 clear e0
 generalize Lib.indexByte (bl s) 0 = n at *
 generalize partOk (bl s) = r at *
 replace hd := hid hd
 replace hi := hid hi
 cases b1 : s.toList.isEmpty with
 | true =>
  have hr : Hid (r = false) := by rw [hd.out, b1]; exact hid rfl
  clear hd hi
  go_enter Tryz.func111, Tryz.ntmps111
  go_wp2
  go_ret
  exact ⟨by rw [hr.out]; rfl, rfl⟩
 | false =>
 by_cases b2 : (s.size : Int) ≤ 48
 ·cases b3 : (s.toList == [46]) with
  | true =>
   have hr : Hid (r = false) := by rw [hd.out, b1, b3]; simp [Hid]
   clear hd hi
   go_enter Tryz.func111, Tryz.ntmps111
   go_wp2
   go_ret
   exact ⟨by rw [hr.out]; rfl, rfl⟩
  | false =>
  cases b4 : (s.toList == [46, 46]) with
  | true =>
   have hr : Hid (r = false) := by rw [hd.out, b1, b3, b4]; simp [Hid]
   clear hd hi
   go_enter Tryz.func111, Tryz.ntmps111
   go_wp2
   go_ret
   exact ⟨by rw [hr.out]; rfl, rfl⟩
  | false =>
   have hr : Hid (r = decide (n < 0)) := by rw [hd.out, b1, b3, b4]; simp [Hid, b2]
   clear hd
   go_enter Tryz.func111, Tryz.ntmps111
   go_wp2_with fail
   refine (hi.out _).mono ?_
   rintro e w1 ⟨rfl, rfl⟩
   go_wp2
   go_ret
   exact ⟨by rw [hr.out]; rfl, rfl⟩
 ·have hr : Hid (r = false) := by rw [hd.out, b1]; simp [Hid, b2]
  clear hd hi
  go_enter Tryz.func111, Tryz.ntmps111
  go_wp2
  go_ret
  exact ⟨by rw [hr.out]; rfl, rfl⟩
end Go.Proofs.YtcjlfkklpghjbaaGreat

namespace Go.Proofs.YtcjlfkklpghjbaaGreat
open Go.RowKit Go.Lib
set_option linter.unusedVariables false
set_option linter.unusedSimpArgs false
/-- A slice that reads as a list of strings. -/
def Rd (W : World) (v : Value) (l : List Bytes) : Prop :=
  ∃ A c, v = .slice A l.length c ∧ l.length ≤ c ∧ c ≤ maxLen ∧ ∀ j u, l[j]? = some u → ∃ g o, A = some ⟨g, o, none⟩ ∧ W.cell? ⟨g, o + j, none⟩ = some (.string (mkS u))
theorem Strs.rd {B : Nat} {W : World} {v : Value} {l : List Bytes} (h : Strs B W v l) : Rd W v l := by
 obtain ⟨A, c, rfl, h1, h2⟩ := own_shape h.own
 refine ⟨A, c, rfl, h1, h2, fun j u hj => ?_⟩
 have hlt : j < l.length := (List.getElem?_eq_some_iff.1 hj).1
 obtain ⟨g, c', e, _, _, _, _, hc⟩ := own_at h.own (by omega)
 simp only [Value.slice.injEq] at e
 refine ⟨g, 0, e.1, ?_⟩
 rw [Nat.zero_add]
 exact hc j _ (by simp [strs, hj])
theorem Rd.shape {W : World} {v : Value} {l : List Bytes} (h : Rd W v l) : ∃ A c, v = .slice A l.length c ∧ l.length ≤ c ∧ c ≤ maxLen := by
 obtain ⟨A, c, h1, h2, h3, _⟩ := h; exact ⟨A, c, h1, h2, h3⟩
theorem Rd.cell {W : World} {A : Option Addr} {n c : Nat} {l : List Bytes} (h : Rd W (.slice A n c) l) {j : Nat} (hj : j < l.length) : ∃ g o, A = some ⟨g, o, none⟩ ∧ W.cell? ⟨g, o + j, none⟩ = some (.string (mkS (l[j]))) := by
 obtain ⟨A', c', e, _, _, hc⟩ := h
 simp only [Value.slice.injEq] at e
 obtain ⟨g, o, h1, h2⟩ := hc j _ (List.getElem?_eq_getElem hj)
 exact ⟨g, o, e.1.trans h1, h2⟩
theorem Rd.below {W W' : World} {v : Value} {l : List Bytes} (h : Rd W v l) (hb : Below W.heap.size W W') : Rd W' v l := by
 obtain ⟨A, c, h1, h2, h3, hc⟩ := h
 refine ⟨A, c, h1, h2, h3, fun j u hj => ?_⟩
 obtain ⟨g, o, e, hcell⟩ := hc j u hj
 exact ⟨g, o, e, (hb.cell (World.block_lt_of_cell? W _ hcell)).trans hcell⟩
theorem part_mk (p : Bytes) (w : World) : Calls Tryz.prog 111 #[.string (mkS p)] w fun e w' => e = .returned (.bool (partOk p)) ∧ w = w' := by
 have h := part_calls (mkS p) w
 rwa [bl_mkS] at h
theorem split_len (s : Bytes) : (split s).length ≤ s.length + 1 := by
 unfold split
 split
 ·simp
 ·induction s with
  | nil => simp [splitL]
  | cons c r ih =>
   simp only [splitL]
   split
   ·by_cases hr : r = []
    ·subst hr; simp [splitL]
    ·have := ih hr; simp; omega
   ·by_cases hr : r = []
    ·subst hr; simp [splitL]
    ·have := ih hr
     split
     ·simp
     ·rename_i h; rw [h] at this; simpa using Nat.le_succ_of_le this
set_option maxHeartbeats 2000000 in
set_option maxRecDepth 100000 in
theorem right_calls (s : ByteArray) (w : World) (hs : s.size ≤ 16777216) :
  Calls Tryz.prog 82 #[.string s] w fun e w' => e = .returned (.bool (right (bl s))) ∧ Below w.heap.size w w' := by
 have h0 := fun W => split_calls s W hs
 have hr : right (bl s) = ((split (bl s)).all partOk && decide (((split (bl s)).length : Int) ≤ 12) && decide ((s.size : Int) ≤ 200)) := by
  unfold right
  rw [bl_length]
  congr 1
  ·congr 1; rw [decide_eq_decide]; omega
  ·rw [decide_eq_decide]; omega
 have hln := split_len (bl s)
 rw [bl_length] at hln
 generalize split (bl s) = l at *
 generalize right (bl s) = r at *
 replace hr := hid hr
 replace h0 := hid h0
 go_enter Tryz.func82, Tryz.ntmps82
 go_wp2_with fail
 refine (h0.out _).mono ?_
 rintro e w1 ⟨⟨v, rfl, hO⟩, hB⟩
 have hR := hO.rd
 obtain ⟨A, c, rfl, hc1, hc2⟩ := hR.shape
 clear hO h0
 unfold maxLen at hc2
 go_wp2
 go_loop [10] (fun i => ∃ k : Nat, i = .int .i64 k ∧ k ≤ l.length ∧ Hid ((l.take k).all partOk = true)) (fun i => l.length - (intOf i).toNat)
 case atStart => exact ⟨0, rfl, Nat.zero_le _, by simp [Hid]⟩
 case round =>
  obtain ⟨k, rfl, hk, hall⟩ := hrel
  by_cases hlt : k < l.length
  ·obtain ⟨g, o, rfl, hcell⟩ := hR.cell hlt
   have hp := fun W => part_mk l[k] W
   have hstep : Hid ((l.take (k + 1)).all partOk = partOk l[k]) := by
    unfold Hid
    rw [List.take_succ_eq_append_getElem hlt, List.all_append, hall.out]; simp
   have hfal : Hid (partOk l[k] = false → r = false) := fun h => by
    rw [hr.out]
    have : l.all partOk = false := by
     rw [List.all_eq_false]
     exact ⟨l[k], List.getElem_mem hlt, by simp [h]⟩
    rw [this]; rfl
   replace hp := hid hp
   clear hR hall
   cases hpk : partOk l[k] with
   | true =>
    rw [hpk] at hp hstep
    clear hfal
    go_wp2_with fail
    refine (hp.out _).mono ?_
    rintro e w2 ⟨rfl, rfl⟩
    go_wp2
    go_round
    case rel => exact ⟨k + 1, by go_num, by omega, hstep⟩
    case measure => simp [intOf]; omega
   | false =>
    rw [hpk] at hp
    have hf := hfal.out hpk
    replace hf := hid hf
    clear hfal hstep hpk
    go_wp2_with fail
    refine (hp.out _).mono ?_
    rintro e w2 ⟨rfl, rfl⟩
    go_wp2
    go_ret
    exact ⟨by rw [hf.out]; rfl, hB⟩
  ·obtain rfl : k = l.length := by omega
   have hrr : Hid (r = (decide ((l.length : Int) ≤ 12) && decide ((s.size : Int) ≤ 200))) := by
    have := hall.out
    rw [List.take_length] at this
    unfold Hid
    rw [hr.out, this, Bool.true_and]
   clear hall hR hlt hk hr
   by_cases h12 : (l.length : Int) ≤ 12
   ·by_cases h200 : (s.size : Int) ≤ 200
    ·go_wp2
     go_ret
     exact ⟨by rw [hrr.out]; simp [h12, h200], hB⟩
    ·go_wp2
     go_ret
     exact ⟨by rw [hrr.out]; simp [h12, h200], hB⟩
   ·go_wp2
    go_ret
    exact ⟨by rw [hrr.out]; simp [show ¬ ((l.length : Int) ≤ 12) by omega], hB⟩
end Go.Proofs.YtcjlfkklpghjbaaGreat

namespace Go.Proofs.YtcjlfkklpghjbaaGreat
open Go.RowKit
set_option linter.unusedVariables false
set_option linter.unusedSimpArgs false
/-- The last place of a byte among the first n; -1: none. -/
def lastAt (s : ByteArray) (c : Int) : Nat → Int
  | 0 => -1
  | n + 1 => if bt s n = c then (n : Int) else lastAt s c n
set_option maxHeartbeats 1000000 in
set_option maxRecDepth 100000 in
theorem lastbyte_calls (s : ByteArray) (c : Int) (w : World) (hs : s.size ≤ maxLen) :
  Calls Tryz.prog 122 #[.string s, .int .u8 c] w fun e w' => e = .returned (.int .i64 (lastAt s c s.size)) ∧ w = w' := by
 unfold maxLen at hs
 go_enter Tryz.func122, Tryz.ntmps122
 go_wp2
 go_loop [5] (fun i => ∃ k : Nat, k ≤ s.size ∧ i = .int .i64 ((k : Int) - 1) ∧ Hid (lastAt s c s.size = lastAt s c k)) (fun i => (intOf i + 1).toNat)
 case atStart => exact ⟨s.size, Nat.le_refl _, rfl, rfl⟩
 case round =>
  obtain ⟨k, hk, rfl, hl⟩ := hrel
  by_cases hz : k = 0
  ·subst hz
   have h1 : ¬ (0 ≤ ((0 : Nat) : Int) - 1) := by omega
   go_wp2
   go_ret
   exact ⟨ret_int (by rw [hl.out]; rfl), rfl⟩
  ·obtain ⟨j, rfl⟩ : ∃ j, k = j + 1 := ⟨k - 1, by omega⟩
   have e : ((j + 1 : Nat) : Int) - 1 = (j : Int) := by omega
   rw [e]
   clear e
   have hb := bt_at s j (by omega)
   have hj : j < s.size := by omega
   have hl2 : Hid (lastAt s c s.size = if bt s j = c then (j : Int) else lastAt s c j) := hl
   clear hl hz
   by_cases hc : bt s j = c
   ·have hc1 : (bt s j == c) = true := by simpa using hc
    have hl3 : Hid (lastAt s c s.size = (j : Int)) := by rw [hl2.out, if_pos hc]; exact hid rfl
    clear hl2 hc
    go_wp2
    go_ret
    exact ⟨ret_int hl3.out.symm, rfl⟩
   ·have hc1 : (bt s j == c) = false := by simpa using hc
    have hl3 : Hid (lastAt s c s.size = lastAt s c j) := by rw [hl2.out, if_neg hc]; exact hid rfl
    clear hl2 hc
    go_wp2
    go_round
    case rel => exact ⟨j, by omega, rfl, hl3⟩
    case measure => simp [intOf]
theorem last_calls (s : ByteArray) (c : Int) (w : World) (hs : s.size ≤ maxLen) :
  Calls Tryz.prog 109 #[.string s, .int .u8 c] w fun e w' => e = .returned (.int .i64 (lastAt s c s.size)) ∧ w = w' := by
 go_enter Tryz.func109, Tryz.ntmps109
 go_wp2_with fail
 refine (lastbyte_calls s c _ hs).mono ?_
 rintro e w1 ⟨rfl, rfl⟩
 go_wp2
 go_ret
 exact ⟨rfl, rfl⟩
end Go.Proofs.YtcjlfkklpghjbaaGreat

namespace Go.Proofs.YtcjlfkklpghjbaaGreat
open Go.RowKit Go.Lib
set_option linter.unusedVariables false
set_option linter.unusedSimpArgs false
/-! Plain laws -/
theorem splitL_last (a b : Bytes) (hb : (47 : UInt8) ∉ b) : splitL (a ++ 47 :: b) = splitL a ++ [b] := by
 induction a with
 | nil => simp [splitL, splitL_one hb]
 | cons c r ih =>
  simp only [List.cons_append, splitL]
  rw [ih]
  by_cases hc : c = 47
  ·simp [hc]
  ·rw [if_neg hc, if_neg hc]
   cases h : splitL r with
   | nil => exact absurd h (splitL_ne r)
   | cons p ps => simp
theorem parent_slash (a b : Bytes) (hb : (47 : UInt8) ∉ b) : parent (a ++ 47 :: b) = a := by
 unfold parent
 rw [split_ne (by simp), splitL_last a b hb, List.dropLast_concat, glue_splitL]
theorem parent_none {a : Bytes} (ha : (47 : UInt8) ∉ a) : parent a = [] := by
 unfold parent split
 split
 ·rfl
 ·rw [splitL_one ha]; rfl
theorem base_slash (a b : Bytes) (hb : (47 : UInt8) ∉ b) : base (a ++ 47 :: b) = b := by
 unfold base
 rw [split_ne (by simp), splitL_last a b hb]
 simp
theorem base_none {a : Bytes} (ha : (47 : UInt8) ∉ a) : base a = a := by
 unfold base split
 split
 ·rename_i h; rw [h]; rfl
 ·rw [splitL_one ha]; rfl
theorem bt_is (s : ByteArray) (i : Nat) (h : i < s.size) (c : UInt8) : bt s i = (c.toNat : Int) ↔ (bl s)[i]? = some c := by
 have e : (bl s)[i]? = some (s[i]'h) := by
  rw [List.getElem?_eq_getElem (by rw [bl_length]; exact h)]; rfl
 rw [e, ← bt_at s i h]
 constructor
 ·intro h2; congr 1; exact UInt8.toNat_inj.1 (by omega)
 ·intro h2; injection h2 with h2; rw [h2]
/-- What the last place of '/' says. -/
theorem last_spec (s : ByteArray) : ∀ n, n ≤ s.size → (lastAt s 47 n = -1 ∧ (47 : UInt8) ∉ (bl s).take n) ∨ (∃ i : Nat, lastAt s 47 n = i ∧ i < n ∧ (bl s)[i]? = some 47 ∧ (47 : UInt8) ∉ ((bl s).take n).drop (i + 1))
 | 0, _ => .inl ⟨rfl, by simp⟩
 | n + 1, h => by
  have hl := bl_length s
  have ht : (bl s).take (n + 1) = (bl s).take n ++ [(bl s)[n]'(by rw [hl]; omega)] := List.take_succ_eq_append_getElem (by rw [hl]; omega)
  simp only [lastAt]
  by_cases hc : bt s n = 47
  ·right
   refine ⟨n, by rw [if_pos hc], by omega, (bt_is s n h 47).1 hc, ?_⟩
   rw [List.drop_eq_nil_of_le (by simp; omega)]; simp
  ·rw [if_neg hc]
   have hx : (bl s)[n]'(by rw [hl]; omega) ≠ 47 := fun e => hc ((bt_is s n h 47).2 (by rw [List.getElem?_eq_getElem (by rw [hl]; omega), e]))
   rcases last_spec s n (by omega) with ⟨h1, h2⟩ | ⟨i, h1, h2, h3, h4⟩
   ·left
    refine ⟨h1, ?_⟩
    rw [ht]
    simp only [List.mem_append, List.mem_singleton]
    rintro (h | h)
    ·exact h2 h
    ·exact hx h.symm
   ·right
    refine ⟨i, h1, by omega, h3, ?_⟩
    rw [ht, List.drop_append_of_le_length (by simp; omega)]
    simp only [List.mem_append, List.mem_singleton]
    rintro (h | h)
    ·exact h4 h
    ·exact hx h.symm
theorem parent_at (s : ByteArray) : (lastAt s 47 s.size = -1 ∧ parent (bl s) = [] ∧ base (bl s) = bl s) ∨ (∃ i : Nat, lastAt s 47 s.size = i ∧ i < s.size ∧ parent (bl s) = (bl s).take i ∧ base (bl s) = (bl s).drop (i + 1)) := by
 have hl := bl_length s
 rcases last_spec s s.size (Nat.le_refl _) with ⟨h1, h2⟩ | ⟨i, h1, h2, h3, h4⟩
 ·rw [← hl, List.take_length] at h2
  exact .inl ⟨h1, parent_none h2, base_none h2⟩
 ·rw [← hl, List.take_length] at h4
  have e : bl s = (bl s).take i ++ 47 :: (bl s).drop (i + 1) := by
   have hlt : i < (bl s).length := by rw [hl]; exact h2
   have e47 : (bl s)[i] = 47 := (List.getElem?_eq_some_iff.1 h3).2
   rw [← e47, ← List.drop_eq_getElem_cons hlt, List.take_append_drop]
  refine .inr ⟨i, h1, h2, ?_, ?_⟩
  ·have := parent_slash ((bl s).take i) ((bl s).drop (i + 1)) h4
   rwa [← e] at this
  ·have := base_slash ((bl s).take i) ((bl s).drop (i + 1)) h4
   rwa [← e] at this
set_option maxHeartbeats 1000000 in
set_option maxRecDepth 100000 in
theorem parent_calls (s : ByteArray) (w : World) (hs : s.size ≤ maxLen) :
  Calls Tryz.prog 72 #[.string s] w fun e w' => e = .returned (.string (mkS (parent (bl s)))) ∧ w = w' := by
 have hl := fun W => last_calls s 47 W hs
 have hsz := hs
 unfold maxLen at hsz
 rcases parent_at s with ⟨h1, h2, _⟩ | ⟨i, h1, hi, h2, _⟩
 ·rw [h1] at hl
  rw [h2]
  have e0 : s.extract 0 0 = mkS [] := by rw [extract_mkS]; rfl
  replace hl := hid hl
  replace e0 := hid e0
  clear h1 h2
  have em : mx (-1) 0 = 0 := rfl
  go_enter Tryz.func72, Tryz.ntmps72
  go_wp2_with fail
  refine (hl.out _).mono ?_
  rintro e w1 ⟨rfl, rfl⟩
  go_wp2
  go_ret
  exact ⟨ret_str rfl, rfl⟩
 ·rw [h1] at hl
  rw [h2]
  have e0 : s.extract 0 i = mkS ((bl s).take i) := by rw [extract_mkS]; rfl
  replace hl := hid hl
  replace e0 := hid e0
  clear h1 h2
  have em : mx (i : Int) 0 = i := by unfold mx; split <;> omega
  go_enter Tryz.func72, Tryz.ntmps72
  go_wp2_with fail
  refine (hl.out _).mono ?_
  rintro e w1 ⟨rfl, rfl⟩
  go_wp2
  go_ret
  exact ⟨ret_str e0.out, rfl⟩
end Go.Proofs.YtcjlfkklpghjbaaGreat

namespace Go.Proofs.YtcjlfkklpghjbaaGreat
open Go.RowKit Go.Lib
set_option linter.unusedVariables false
set_option linter.unusedSimpArgs false
/-- A row of the call's own that holds bytes. -/
def byteCells (l : Bytes) : List Value := l.map fun b => .int .u8 b.toNat
def Byts (B : Nat) (W : World) (v : Value) (l : Bytes) : Prop := W.ownsRow B 5 1 v l.length (byteCells l)
theorem Byts.own {B : Nat} {W : World} {v : Value} {l : Bytes} (h : Byts B W v l) : W.ownsRow B 5 1 v l.length (byteCells l) := h
theorem strCells_mk (l : Bytes) : strCells (mkS l) = byteCells l := by simp [strCells, byteCells, mkS]
theorem byteCells_append (a b : Bytes) : byteCells (a ++ b) = byteCells a ++ byteCells b := by simp [byteCells]
theorem strOfNums_bytes (l : Bytes) : strOfNums (l.map fun b => (b.toNat : Int)) = mkS l := by
 unfold strOfNums mkS
 congr 2
 rw [List.map_map]
 conv => rhs; rw [← List.map_id l]
 congr 1
 funext b
 simp
theorem Byts.string {B : Nat} {W : World} {v : Value} {l : Bytes} (h : Byts B W v l) : (convert 39 9 v).run Tryz.prog W = .ok (.string (mkS l)) W := by
 by_cases hl : l = []
 ·subst hl
  rcases h.2 with ⟨rfl, _⟩ | ⟨g, cap, cur, rfl, _⟩
  ·exact run_convert_bytes_nil W 39 5 Tryz.underlying39 Tryz.underlying5 0 0 9 Tryz.underlying9
  ·exact run_convert_bytes_arg W 39 5 Tryz.underlying39 Tryz.underlying5 g 0 0 cap [] rfl (fun i hi => by omega) 9 Tryz.underlying9
 ·have hp : 0 < l.length := List.length_pos_iff.2 hl
  obtain ⟨g, c, rfl, _, _, _, _, hc⟩ := own_at h.own hp
  rw [← strOfNums_bytes l]
  refine run_convert_bytes_arg W 39 5 Tryz.underlying39 Tryz.underlying5 g 0 l.length c (l.map fun b => (b.toNat : Int)) (by simp) (fun i hi => ?_) 9 Tryz.underlying9
  rw [Nat.zero_add]
  refine hc i _ ?_
  simp [byteCells, hi]
theorem info_u8 : (Tryz.prog.info? 5).map (fun i => (i.zero, i.size, i.bytes)) = some (some (.int .u8 0), 1, 1) := by kernel_rfl
/-- 'append(b, s...)' of a string: b is the call's own. -/
theorem wp_append_str {ops : Array Oper} {rest : List Oper} {o : Oper} {a : Act} {Q : Exit → Act → World → Prop} {W : World} (base : Nat) (hgd : o.guard = none) (s x : Operand)
  (ho : o.op = .call { callee := .builtin .append, args := #[s, x], argTypes := #[39, 9] }) (v : Value) (l : Bytes) (hs : a.eval s = v) (p : Bytes) (hx : a.eval x = .string (mkS p)) (hown : Byts base W v l)
  (hb : l.length + p.length ≤ 140737488355328) (hbase : base ≤ W.heap.size)
  (h : ∀ v1 w1, Byts base w1 v1 (l ++ p) → W.grownBy w1 v.ownBlock → wpList Tryz.prog ops Q rest (a.put o.dst v1) w1) : wpList Tryz.prog ops Q (o :: rest) a W := by
 obtain ⟨i0, hi, hzz⟩ := Option.map_eq_some_iff.1 info_u8
 simp only [Prod.mk.injEq] at hzz
 obtain ⟨hz0, hz1, hz2⟩ := hzz
 refine wpList_append_own_string W hgd s x 39 9 ho base 5 i0 Tryz.underlying39 Tryz.underlying9 hi hz0 hz1 hz2 v l.length (byteCells l) hs hown.own (mkS p) hx ?_ ?_ hbase ?_
 ·rw [mkS_size]; simp [maxLen]; omega
 ·rw [mkS_size]; exact hb
 ·intro v1 w1 h1 hg _
  refine h v1 w1 ?_ hg
  unfold Byts
  rw [byteCells_append, List.length_append, ← strCells_mk p]
  rwa [mkS_size] at h1
theorem glue_snoc (l : List Bytes) (p : Bytes) : glue (l ++ [p]) = if l = [] then p else glue l ++ 47 :: p := by
 induction l with
 | nil => rfl
 | cons q qs ih =>
  rw [if_neg (by simp)]
  cases qs with
  | nil => simp [glue]
  | cons r rs =>
   rw [List.cons_append, glue_cons q (l := r :: rs ++ [p]) (by simp), ih, if_neg (by simp), glue_cons q (l := r :: rs) (by simp)]
   simp
theorem glue_take_le (l : List Bytes) (k : Nat) : (glue (l.take k)).length ≤ (glue l).length := by
 induction l generalizing k with
 | nil => simp [glue]
 | cons p ps ih =>
  cases k with
  | zero => simp [glue]
  | succ k =>
   cases ps with
   | nil => simp [glue]
   | cons q qs =>
    have := ih k
    rw [List.take_succ_cons, glue_cons p (l := q :: qs) (by simp)]
    by_cases hk : (q :: qs).take k = []
    ·rw [hk]; simp [glue]
    ·rw [glue_cons p hk]; simp; omega
set_option maxHeartbeats 2000000 in
set_option maxRecDepth 100000 in
theorem glue_calls (v : Value) (l : List Bytes) (w : World) (hR : Rd w v l) (hs : (glue l).length ≤ 16777216) :
  Calls Tryz.prog 125 #[v] w fun e w' => e = .returned (.string (mkS (glue l))) ∧ Below w.heap.size w w' := by
 obtain ⟨A, c, rfl, hc1, hc2⟩ := hR.shape
 unfold maxLen at hc2
 go_enter Tryz.func125, Tryz.ntmps125
 go_wp2
 go_loopw [3, 4] (fun b i W => ∃ k : Nat, i = .int .i64 k ∧ k ≤ l.length ∧ Byts w.heap.size W b (glue (l.take k)) ∧ Below w.heap.size w W) (fun _ i _ => l.length - (intOf i).toNat)
 case atStart => exact ⟨0, rfl, Nat.zero_le _, World.ownsRow_nil _ _ _ _, Below.refl _ _⟩
 case round =>
  obtain ⟨k, rfl, hk, hO, hW⟩ := hrel
  have hsz := hW.size
  have hrow : ∀ b, u3.ownBlock = some b → w.heap.size ≤ b := fun b hb => by
   rcases own_rel hO.own with h | ⟨x, h, h', _⟩
   ·rw [h] at hb; cases hb
   ·rw [h] at hb; cases hb; exact h'
  by_cases hlt : k < l.length
  ·have hgl := glue_take_le l (k + 1)
   have hsn := glue_snoc (l.take k) l[k]
   rw [← List.take_succ_eq_append_getElem hlt] at hsn
   have hcell : ∃ g o, A = some ⟨g, o, none⟩ ∧ ∀ W', Below w.heap.size w W' → W'.cell? ⟨g, o + k, none⟩ = some (.string (mkS l[k])) := by
    obtain ⟨g, o, h1, h2⟩ := hR.cell hlt
    exact ⟨g, o, h1, fun W' hb => (hb.cell (World.block_lt_of_cell? w _ h2)).trans h2⟩
   obtain ⟨g, o, rfl, hcell⟩ := hcell
   replace hO := hid hO
   replace hgl := hid hgl
   clear hR
   by_cases hz : k = 0
   ·subst hz
    have hsn2 : Hid (glue (l.take (0 + 1)) = glue (l.take 0) ++ l[0]) := by
     unfold Hid; rw [hsn, List.take_zero]; simp [glue]
    have hc0 := hcell wr hW
    rw [Nat.add_zero] at hc0
    replace hcell := hid hcell
    clear hsn
    go_wp2_with (at_builtin; refine wp_append_str w.heap.size rfl (.tmp 16) (.tmp 20) rfl u3 _ rfl l[0] rfl hO.out ?_ hsz ?_)
    ·have := hgl.out
     rw [hsn2.out, List.length_append] at this; omega
    ·intro v1 w1 ho1 hg1
     have hO2 : Byts w.heap.size w1 v1 (glue (l.take (0 + 1))) := by rw [hsn2.out]; exact ho1
     have hB : Below w.heap.size w w1 := hW.grown hg1 hsz hrow
     clear ho1 hg1 hc0
     go_wp2
     go_roundw
     case measure => simp [intOf]; omega
     case rel => exact ⟨0 + 1, rfl, by omega, hO2, hB⟩
   ·have hne : l.take k ≠ [] := by
     intro h
     have := congrArg List.length h
     rw [List.length_take, List.length_nil] at this; omega
    have hsn2 : Hid (glue (l.take (k + 1)) = (glue (l.take k) ++ [47]) ++ l[k]) := by
     unfold Hid; rw [hsn, if_neg hne]; simp
    have hlen2 : Hid ((glue (l.take (k + 1))).length = (glue (l.take k)).length + 1 + l[k].length) := by
     unfold Hid; rw [hsn2.out]; simp; omega
    have hk0 : 0 < k := by omega
    replace hcell := hid hcell
    clear hsn hne hz
    go_wp2_with (at_builtin; refine wp_append1 w.heap.size rfl (.tmp 13) (.tmp 14) 39 5 rfl Tryz.underlying39 (.int .u8 0) 1 1 info_u8 rfl (by decide) u3 _ _ rfl [.int .u8 47] rfl hO.out.own rfl ?_ ?_ ?_ hsz ?_)
    ·simp [Value.oneCell']
    ·have := hgl.out
     have := hlen2.out
     simp only [maxLen]; omega
    ·have := hgl.out
     have := hlen2.out
     omega
    ·intro v1 w1 ho1 hg1 hat
     have hO2 : Byts w.heap.size w1 v1 (glue (l.take k) ++ [47]) := by
      unfold Byts; rw [byteCells_append, List.length_append]; exact ho1
     have hB : Below w.heap.size w w1 := hW.grown hg1 hsz hrow
     have hsz1 := hB.size
     have hc1 := hcell.out w1 hB
     have hrow1 : ∀ b, v1.ownBlock = some b → w.heap.size ≤ b := fun b hb => by
      rcases own_rel hO2.own with h | ⟨x, h, h', _⟩
      ·rw [h] at hb; cases hb
      ·rw [h] at hb; cases hb; exact h'
     replace hO2 := hid hO2
     clear ho1 hg1 hat hrow hO
     go_wp2_with (at_builtin; refine wp_append_str w.heap.size rfl (.tmp 16) (.tmp 20) rfl v1 _ rfl l[k] rfl hO2.out ?_ hsz1 ?_)
     ·have := hgl.out
      have := hlen2.out
      simp only [List.length_append, List.length_singleton]; omega
     ·intro v2 w2 ho2 hg2
      have hO3 : Byts w.heap.size w2 v2 (glue (l.take (k + 1))) := by rw [hsn2.out]; simpa using ho2
      have hB2 : Below w.heap.size w w2 := hB.grown hg2 hsz1 hrow1
      clear ho2 hg2 hc1
      go_wp2
      go_roundw
      case measure => simp [intOf]; omega
      case rel => exact ⟨k + 1, by go_num, by omega, hO3, hB2⟩
  ·obtain rfl : k = l.length := by omega
   rw [List.take_length] at hO
   have hcv := hO.string
   clear hrow hR
   go_wp2
   go_ret
   exact ⟨rfl, hW⟩
theorem Rd.take {W : World} {A : Option Addr} {n c : Nat} {l : List Bytes} (h : Rd W (.slice A n c) l) (m : Nat) (hm : m ≤ l.length) : Rd W (.slice A m c) (l.take m) := by
 obtain ⟨A', c', e, h1, h2, hc⟩ := h
 simp only [Value.slice.injEq] at e
 obtain ⟨rfl, rfl, rfl⟩ := e
 refine ⟨A, c, ?_, by simp; omega, h2, fun j u hj => ?_⟩
 ·rw [List.length_take, Nat.min_eq_left hm]
 ·rw [List.getElem?_take] at hj
  split at hj
  ·exact hc j u hj
  ·cases hj
theorem parent_le (s : Bytes) : (glue (split s).dropLast).length ≤ s.length := by
 have h := glue_take_le (split s) ((split s).length - 1)
 rw [glue_split, ← List.dropLast_eq_take] at h
 exact h
set_option maxHeartbeats 2000000 in
set_option maxRecDepth 100000 in
theorem refparent_calls (s : ByteArray) (w : World) (hs : s.size ≤ 16777216) :
  Calls Tryz.prog 114 #[.string s] w fun e w' => e = .returned (.string (mkS (parent (bl s)))) ∧ Below w.heap.size w w' := by
 have h0 := fun W => refsplit_calls s W hs
 have hp : parent (bl s) = glue (split (bl s)).dropLast := rfl
 have hle := parent_le (bl s)
 rw [bl_length] at hle
 generalize parent (bl s) = r at *
 generalize split (bl s) = l at *
 replace h0 := hid h0
 replace hp := hid hp
 go_enter Tryz.func114, Tryz.ntmps114
 go_wp2_with fail
 refine (h0.out _).mono ?_
 rintro e w1 ⟨⟨v, rfl, hO⟩, hB⟩
 have hR := hO.rd
 obtain ⟨A, c, rfl, hc1, hc2⟩ := hR.shape
 clear hO h0
 by_cases h2 : l.length < 2
 ·have he : Hid (r = []) := by
   unfold Hid; rw [hp.out]
   match l, h2 with
   | [], _ => rfl
   | [x], _ => rfl
  have h2' : (l.length : Int) < 2 := by omega
  clear hR hp h2
  go_wp2
  go_ret
  exact ⟨by rw [he.out]; rfl, hB⟩
 ·have h2' : ¬ (l.length : Int) < 2 := by omega
  have hR2 : Rd w1 (.slice A (l.length - 1) c) l.dropLast := by
   rw [List.dropLast_eq_take]; exact hR.take _ (by omega)
  have hg := fun W (hb : Below w1.heap.size w1 W) => glue_calls (.slice A (l.length - 1) c) l.dropLast W (hR2.below hb) (by omega)
  obtain ⟨m, hm⟩ : ∃ m, l.length - 1 = m := ⟨_, rfl⟩
  have hm1 : l.length = m + 1 := by omega
  rw [hm] at hg
  rw [← hp.out] at hg
  have hm0 : ¬ ((m : Int) + 1 < 2) := by omega
  rw [hm1] at hc1 ⊢
  replace hg := hid hg
  clear hR hR2 hp h2 hm hm1 h2' hle
  unfold maxLen at hc2
  go_wp2_with fail
  refine (hg.out _ (Below.refl _ _)).mono ?_
  rintro e w2 ⟨rfl, hb2⟩
  go_wp2
  go_ret
  exact ⟨rfl, below_step hB hb2⟩
end Go.Proofs.YtcjlfkklpghjbaaGreat

namespace Go.Proofs.YtcjlfkklpghjbaaGreat
open Go.RowKit
def ptr (b : Nat) : Value := .pointer (some ⟨b, 0, none⟩)
/-- A pointer to what stands there, or nil. -/
def optPtr (A : Nat → Nat) : Option Nat → Value
  | some i => ptr (A i)
  | none => .pointer none
theorem optPtr_some (A : Nat → Nat) (i : Nat) : optPtr A (some i) = .pointer (some ⟨A i, 0, none⟩) := rfl
theorem optPtr_none (A : Nat → Nat) : optPtr A none = .pointer none := rfl
def kidsV (n : Nd) (m : Nat) : Value := if n.kind = 2 then .map (some m) else .map none
def mtCells (m : Mt) : List Value := [.int .i64 m.mode, .int .i64 m.sec, .int .i64 m.nano, .int .i64 m.uid, .int .i64 m.gid]
def nodeCells (n : Nd) (i : Nat) (dv kv : Value) : Array Value :=
  #[.int .i64 n.kind, .int .i64 i, .int .i64 0, .int .i64 n.links, .int .i64 n.mt.mode, .int .i64 n.mt.sec, .int .i64 n.mt.nano, .int .i64 n.mt.uid, .int .i64 n.mt.gid, .string (mkS n.target), dv, kv]
/-- The bytes of a file: in a block of bytes, at its beginning. -/
def Dat (w : World) (v : Value) (l : Bytes) : Prop :=
  (v = .slice none 0 0 ∧ l = []) ∨ ∃ g c cur, v = .slice (some ⟨g, 0, none⟩) l.length c ∧ w.heap[g]? = some (Obj.cells cur 5 (0, 0)) ∧ l.length ≤ c ∧ c ≤ maxLen ∧ c ≤ cur.size ∧ cur.toList.take l.length = byteCells l
theorem dat_nil (w : World) : Dat w (.slice none 0 0) [] := Or.inl ⟨rfl, rfl⟩
theorem Dat.kept {w w' : World} {dv : Value} {l : Bytes} (h : Dat w dv l) (hk : ∀ g : Nat, (∃ cs, w.heap[g]? = some (Obj.cells cs 5 (0, 0))) → w'.heap[g]? = w.heap[g]?) : Dat w' dv l := by
 rcases h with h | ⟨g, c, cur, h1, h2, h3, h4, h5, h6⟩
 ·exact Or.inl h
 ·exact Or.inr ⟨g, c, cur, h1, (hk g ⟨cur, h2⟩).trans h2, h3, h4, h5, h6⟩
theorem Dat.shape {w : World} {v : Value} {l : Bytes} (h : Dat w v l) : ∃ A c, v = .slice A l.length c ∧ l.length ≤ c ∧ c ≤ maxLen := by
 rcases h with ⟨rfl, rfl⟩ | ⟨g, c, cur, h1, h2, h3, h4, _⟩
 ·exact ⟨none, 0, rfl, Nat.le_refl _, Nat.zero_le _⟩
 ·exact ⟨_, c, h1, h3, h4⟩
theorem Byts.dat {B : Nat} {w : World} {v : Value} {l : Bytes} (h : Byts B w v l) : Dat w v l := by
 obtain ⟨h1, ⟨rfl, h2⟩ | ⟨g, cap, cur, e1, h2, h3, h4, h5, h6, h7⟩⟩ := h
 ·exact Or.inl ⟨rfl, List.eq_nil_of_length_eq_zero h2⟩
 ·exact Or.inr ⟨g, cap, cur, e1, h3, h4, h5, by omega, by rw [← h7, Nat.mul_one]⟩
def entries (A : Nat → Nat) (l : List (Bytes × Nat)) : List (Value × Value) := l.map fun x => (.string (mkS x.1), ptr (A x.2))
/-- Block tb of w is the tree T; its thing i lies in block A i, its directory i's names in block M i. -/
structure Rep (w : World) (tb : Nat) (A M : Nat → Nat) (T : Fs) : Prop where
  inv : T.Inv
  tree : w.heap[tb]? = some (.cells #[ptr (A 1), .int .i64 T.next] 82 (0, 0))
  node : ∀ i, T.Live i → ∃ dv, Dat w dv (T.nd i).data ∧ w.heap[A i]? = some (.cells (nodeCells (T.nd i) i dv (kidsV (T.nd i) (M i))) 87 (0, 0))
  kids : ∀ p i, (p, i) ∈ T.names → (T.nd i).kind = 2 → MapIs w (M i) (entries A (T.kids p))
  injA : ∀ i j, T.Live i → T.Live j → A i = A j → i = j
  injM : ∀ i j, T.Live i → T.Live j → (T.nd i).kind = 2 → (T.nd j).kind = 2 → M i = M j → i = j
/-- The blocks that a tree's calls may write. -/
def Own (tb : Nat) (A M : Nat → Nat) (T : Fs) (b : Nat) : Prop := b = tb ∨ (∃ i, T.Live i ∧ b = A i) ∨ ∃ i, T.Live i ∧ (T.nd i).kind = 2 ∧ b = M i
/-- The blocks of S alone may have turned, and new ones may have come. -/
structure Turn (w w' : World) (S : Nat → Prop) : Prop where
  os : w'.os = w.os
  tape : w'.tape = w.tape
  output : w'.output = w.output
  size : w.heap.size ≤ w'.heap.size
  block : ∀ i, i < w.heap.size → ¬ S i → w'.heap[i]? = w.heap[i]?
theorem Turn.refl (w : World) (S : Nat → Prop) : Turn w w S := ⟨rfl, rfl, rfl, Nat.le_refl _, fun _ _ _ => rfl⟩
theorem Turn.drewN {w w' : World} {S : Nat → Prop} (h : Turn w w' S) (n : Nat) : Turn w (w'.drewN n) S := ⟨h.os, h.tape, h.output, h.size, h.block⟩
theorem Turn.trans {a b c : World} {S : Nat → Prop} (h : Turn a b S) (k : Turn b c (fun i => S i ∨ a.heap.size ≤ i)) : Turn a c S :=
 ⟨k.os.trans h.os, k.tape.trans h.tape, k.output.trans h.output, Nat.le_trans h.size k.size, fun i hi hs =>
  (k.block i (Nat.lt_of_lt_of_le hi h.size) (by rintro (h1 | h1); exact hs h1; omega)).trans (h.block i hi hs)⟩
theorem Turn.mono {a b : World} {S S' : Nat → Prop} (h : Turn a b S) (hs : ∀ i, i < a.heap.size → S i → S' i) : Turn a b S' :=
 ⟨h.os, h.tape, h.output, h.size, fun i hi hn => h.block i hi (fun h1 => hn (hs i hi h1))⟩
theorem Turn.of_below {a b : World} (h : Below a.heap.size a b) (S : Nat → Prop) : Turn a b S := ⟨h.os, h.tape, h.output, h.size, fun i hi _ => h.block i hi⟩
theorem Turn.of_grown {a b : World} {row : Option Nat} (h : a.grownBy b row) {S : Nat → Prop} (hs : ∀ j, row = some j → S j) : Turn a b S :=
 ⟨h.os, h.tape, h.output, h.size, fun i hi hn => h.block i hi (fun e => hn (hs i e.symm))⟩
/-- A tree stays where no block of its own, and no block of bytes, has turned. -/
theorem Rep.kept {w w' : World} {tb : Nat} {A M : Nat → Nat} {T : Fs} (h : Rep w tb A M T) (hk : ∀ b, Own tb A M T b → w'.heap[b]? = w.heap[b]?)
  (hb : ∀ g : Nat, (∃ cs, w.heap[g]? = some (Obj.cells cs 5 (0, 0))) → w'.heap[g]? = w.heap[g]?) : Rep w' tb A M T := by
 refine ⟨h.inv, (hk tb (Or.inl rfl)).trans h.tree, fun i hi => ?_, fun p i hm h2 => ?_, h.injA, h.injM⟩
 ·obtain ⟨dv, h1, h2⟩ := h.node i hi
  exact ⟨dv, h1.kept hb, (hk _ (Or.inr (Or.inl ⟨i, hi, rfl⟩))).trans h2⟩
 ·exact (h.kids p i hm h2).of_block (hk _ (Or.inr (Or.inr ⟨i, ⟨p, hm⟩, h2, rfl⟩)))
theorem Rep.lt {w : World} {tb : Nat} {A M : Nat → Nat} {T : Fs} (h : Rep w tb A M T) {b : Nat} (hb : Own tb A M T b) : b < w.heap.size := by
 rcases hb with rfl | ⟨i, hi, rfl⟩ | ⟨i, ⟨p, hi⟩, h2, rfl⟩
 ·exact (Array.getElem?_eq_some_iff.1 h.tree).1
 ·obtain ⟨dv, _, h2⟩ := h.node i hi
  exact (Array.getElem?_eq_some_iff.1 h2).1
 ·exact (h.kids p i hi h2).lt
theorem Rep.below {w w' : World} {tb : Nat} {A M : Nat → Nat} {T : Fs} (h : Rep w tb A M T) (hb : Below w.heap.size w w') : Rep w' tb A M T :=
 h.kept (fun b ho => hb.block b (h.lt ho)) (fun g ⟨cs, hc⟩ => hb.block g (Array.getElem?_eq_some_iff.1 hc).1)
theorem Rep.drewN {w : World} {tb : Nat} {A M : Nat → Nat} {T : Fs} (h : Rep w tb A M T) (n : Nat) : Rep (w.drewN n) tb A M T :=
 ⟨h.inv, h.tree, h.node, h.kids, h.injA, h.injM⟩
end Go.Proofs.YtcjlfkklpghjbaaGreat

namespace Go.Proofs.YtcjlfkklpghjbaaGreat
open Go.MapKept
/-- A pointer to the head of a block of cells. -/
def PtrAt (w : World) (v : Value) : Prop := ∃ b cs t, v = .pointer (some ⟨b, 0, none⟩) ∧ w.heap[b]? = some (.cells cs t (0, 0))
section
variable {P : Program} {k te : TypeId} {j : TypeInfo} {w : World}
theorem run_equal_ptr (hp : P.underlying k = some (.pointer te)) (hte : P.info? te = some j) (hsz : j.size ≠ 0) {x y : Value} (hx : PtrAt w x) (hy : PtrAt w y) : ∃ r : Bool, (Op.equal k x y).run P w = .ok r w ∧ (r = true ↔ x = y) := by
 obtain ⟨a, ca, ta, rfl, ha⟩ := hx
 obtain ⟨b, cb, tb, rfl, hb⟩ := hy
 by_cases h : a = b
 ·subst h
  have h : ∀ d : Nat, (Op.equalIn (d + 1) k (.pointer (some ⟨a, 0, none⟩)) (.pointer (some ⟨a, 0, none⟩))).run P w = .ok true w := fun d => by
   simp [Op.equalIn, run_underlying hp, sizeOf, typeInfo, hte, run_sameAddr_same]
  exact ⟨true, by simp [Op.equal, Op.maxDepth, h 9999], by simp⟩
 ·have hne : (⟨a, 0, none⟩ : Addr) ≠ ⟨b, 0, none⟩ := fun e => h (congrArg Addr.block e)
  have h2 : ∀ d : Nat, (Op.equalIn (d + 1) k (.pointer (some ⟨a, 0, none⟩)) (.pointer (some ⟨b, 0, none⟩))).run P w = .ok false w := fun d => by
   simp [Op.equalIn, run_underlying hp, sizeOf, typeInfo, hte, hsz, run_sameAddr_other w hne ha hb]
  exact ⟨false, by simp [Op.equal, Op.maxDepth, h2 9999], ⟨fun e => (by cases e), fun e => absurd (by cases e; rfl) h⟩⟩
theorem find_asking (hp : P.underlying k = some (.pointer te)) (hte : P.info? te = some j) (hsz : j.size ≠ 0) {x : Value} (hx : PtrAt w x) : ∀ (es : List MapEntry) (i : Nat), (∀ e ∈ es, PtrAt w e.key) →
  ((Instr.findAsking k x es i).run P w = .ok none w ∧ ∀ e ∈ es, e.key ≠ x) ∨ ∃ n e, (Instr.findAsking k x es i).run P w = .ok (some (i + n, e.val)) w ∧ es[n]? = some e ∧ e.key = x
 | [], i, _ => Or.inl ⟨by simp [Instr.findAsking], by simp⟩
 | e :: es, i, h => by
  obtain ⟨r, he, hr⟩ := run_equal_ptr hp hte hsz hx (h e (List.mem_cons_self ..))
  by_cases hk : x = e.key
  ·have hr2 := hr.2 hk
   subst hr2
   refine Or.inr ⟨0, e, ?_, rfl, hk.symm⟩
   simp [Instr.findAsking, he, Result.andThen]
  ·have hk2 : r = false := by
    cases r with
    | false => rfl
    | true => exact absurd (hr.1 rfl) hk
   subst hk2
   rcases find_asking hp hte hsz hx es (i + 1) (fun y hy => h y (List.mem_cons_of_mem _ hy)) with ⟨h1, h2⟩ | ⟨n, e', h1, h2, h3⟩
   ·refine Or.inl ⟨?_, ?_⟩
    ·simp [Instr.findAsking, he, h1, Result.andThen]
    ·intro y hy
     rcases List.mem_cons.1 hy with rfl | hy
     ·exact fun e => hk e.symm
     ·exact h2 y hy
   ·refine Or.inr ⟨n + 1, e', ?_, by simpa using h2, h3⟩
    have : i + (n + 1) = i + 1 + n := by omega
    rw [this]
    simp [Instr.findAsking, he, h1, Result.andThen]
theorem keyable_ptr (hp : P.underlying k = some (.pointer te)) (hte : P.info? te = some j) (hsz : j.size ≠ 0) {x : Value} (hx : PtrAt w x) {ks : List Value} (h : ∀ v ∈ ks, PtrAt w v) : Keyable P k w x ks := by
 refine ⟨fun em => ?_, ?_, fun es hes => ?_⟩
 ·obtain ⟨a, ca, ta, rfl, ha⟩ := hx
  unfold Instr.checkKey
  simp [run_underlying hp, Result.andThen]
 ·obtain ⟨a, ca, ta, rfl, ha⟩ := hx
  simp [Instr.keyThatStays, Instr.sameBits]
 ·cases es with
  | nil => exact Or.inl ⟨by simp [Instr.findKey, run_underlying hp, Result.andThen, Instr.findNow], by simp⟩
  | cons e es =>
   have hnow : Instr.findNow (.pointer te) x (e :: es) 0 = none := by simp [Instr.findNow, Instr.sameNow]
   have := find_asking hp hte hsz hx (e :: es) 0 (fun y hy => h _ (hes y hy))
   simpa [Instr.findKey, run_underlying hp, Result.andThen, hnow] using this
end
end Go.Proofs.YtcjlfkklpghjbaaGreat

namespace Go.Proofs.YtcjlfkklpghjbaaGreat
theorem Fs.Inv.look_ok {T : Fs} (h : T.Inv) {s : Bytes} (h0 : (T.look s).2.2 = 0) : right s = true ∧ (T.look s).1 = T.at (split s) ∧
  (s = [] ∧ (T.look s).1 = some 1 ∧ (T.look s).2.1 = none ∨ s ≠ [] ∧ ∃ d, (T.look s).2.1 = some d ∧ ((split s).dropLast, d) ∈ T.names ∧ (T.nd d).kind = 2) := by
 unfold Fs.look at *
 by_cases hr : right s = true
 ·rw [if_pos hr] at *
  by_cases hs : s = []
  ·subst hs
   rw [if_pos rfl] at *
   exact ⟨rfl, h.at_top.symm, Or.inl ⟨rfl, rfl, rfl⟩⟩
  ·rw [if_neg hs] at *
   cases hc : T.at (split s).dropLast with
   | none => rw [hc] at h0; cases h0
   | some d =>
    rw [hc] at h0
    dsimp only at *
    by_cases hk : (T.nd d).kind = 2
    ·rw [if_pos hk]
     exact ⟨hr, rfl, Or.inr ⟨hs, d, rfl, h.at_some.1 hc, hk⟩⟩
    ·rw [if_neg hk] at h0
     cases h0
 ·rw [if_neg hr] at h0
  cases h0
theorem Fs.Inv.there_ok {T : Fs} (h : T.Inv) {s : Bytes} (h0 : (T.there s).2.2 = 0) : right s = true ∧ ∃ i, (T.there s).1 = some i ∧ (split s, i) ∈ T.names ∧
  (s = [] ∧ i = 1 ∧ (T.there s).2.1 = none ∨ s ≠ [] ∧ ∃ d, (T.there s).2.1 = some d ∧ ((split s).dropLast, d) ∈ T.names ∧ (T.nd d).kind = 2) := by
 unfold Fs.there at *
 dsimp only at *
 by_cases hc : (T.look s).2.2 = 0 ∧ (T.look s).1 = none
 ·rw [if_pos hc] at h0
  cases h0
 ·rw [if_neg hc] at h0
  obtain ⟨h1, h2, h3⟩ := h.look_ok h0
  cases hn : (T.look s).1 with
  | none => exact absurd ⟨h0, hn⟩ hc
  | some i =>
   refine ⟨h1, i, rfl, h.at_some.1 (by rw [← h2, hn]), ?_⟩
   rcases h3 with ⟨e1, e2, e3⟩ | ⟨e1, d, e2, e3⟩
   ·rw [hn] at e2
    cases e2
    exact Or.inl ⟨e1, rfl, e3⟩
   ·exact Or.inr ⟨e1, d, e2, e3⟩
/-- What a thing tells as its Size. -/
def Fs.size (T : Fs) (p : Pt) (i : Nat) : Int :=
  if (T.nd i).kind = 1 then (T.nd i).data.length else if (T.nd i).kind = 2 then (T.kids p).length else (T.nd i).target.length
/-- A thing as it is told. -/
structure St where
  kind : Int
  ino : Int
  size : Int
  links : Int
  mt : Mt
  target : Bytes
deriving DecidableEq
def noMt : Mt := ⟨0, 0, 0, 0, 0⟩
def noSt : St := ⟨0, 0, 0, 0, noMt, []⟩
def Fs.tell (T : Fs) (p : Pt) (i : Nat) : St := ⟨(T.nd i).kind, i, T.size p i, (T.nd i).links, (T.nd i).mt, (T.nd i).target⟩
def Fs.stat (T : Fs) (s : Bytes) : St × Int :=
  if (T.there s).2.2 = 0 then match (T.there s).1 with
    | some i => (T.tell (split s) i, 0)
    | none => (noSt, 0)
  else (noSt, (T.there s).2.2)
/-- A path, at which a file has to stand. -/
def Fs.file (T : Fs) (s : Bytes) : Option Nat × Int :=
  if (T.there s).2.2 = 0 then match (T.there s).1 with
    | some i => (some i, notFile (T.nd i))
    | none => (none, 0)
  else (none, (T.there s).2.2)
def Fs.read (T : Fs) (s : Bytes) : Bytes × Int :=
  if (T.file s).2 = 0 then match (T.file s).1 with
    | some i => ((T.nd i).data, 0)
    | none => ([], 0)
  else ([], (T.file s).2)
def sortB (l : List Bytes) : List Bytes := l.mergeSort fun a b => decide (a ≤ b)
def Fs.list (T : Fs) (s : Bytes) : List Bytes × Int :=
  if (T.there s).2.2 = 0 then match (T.there s).1 with
    | some i => if (T.nd i).kind = 2 then (sortB ((T.kids (split s)).map (·.1)), 0) else ([], 12)
    | none => ([], 0)
  else ([], (T.there s).2.2)
end Go.Proofs.YtcjlfkklpghjbaaGreat

namespace Go.Proofs.YtcjlfkklpghjbaaGreat
/-- A new thing. -/
def Fs.add (T : Fs) (p : Pt) (n : Nd) : Fs := ⟨T.names ++ [(p, T.next)], fun i => if i = T.next then n else T.nd i, T.next + 1⟩
/-- A thing's record. -/
def Fs.set (T : Fs) (i : Nat) (n : Nd) : Fs := ⟨T.names, fun j => if j = i then n else T.nd j, T.next⟩
/-- Another name of a thing. -/
def Fs.name (T : Fs) (p : Pt) (i : Nat) : Fs := ⟨T.names ++ [(p, i)], fun j => if j = i then { T.nd i with links := (T.nd i).links + 1 } else T.nd j, T.next⟩
/-- A name goes. -/
def Fs.gone (T : Fs) (p : Pt) (i : Nat) : Fs := ⟨T.names.filter (fun x => x.1 ≠ p), fun j => if j = i then { T.nd i with links := (T.nd i).links - 1 } else T.nd j, T.next⟩
theorem namesOf_append (l r : List (Pt × Nat)) (i : Nat) : namesOf (l ++ r) i = namesOf l i + namesOf r i := by simp [namesOf]
theorem namesOf_one (p : Pt) (j i : Nat) : namesOf [(p, j)] i = if j = i then 1 else 0 := by
 unfold namesOf
 by_cases h : j = i <;> simp [h]
theorem namesOf_zero {l : List (Pt × Nat)} {i : Nat} (h : ∀ p, (p, i) ∉ l) : namesOf l i = 0 := by
 unfold namesOf
 rw [List.length_eq_zero_iff, List.filter_eq_nil_iff]
 rintro ⟨q, j⟩ hx
 simp only [decide_eq_true_eq]
 rintro rfl
 exact h q hx
theorem Fs.Inv.next_fresh {T : Fs} (h : T.Inv) (p : Pt) : (p, T.next) ∉ T.names := fun hm => by have := h.lt _ _ hm; omega
theorem Fs.Inv.two {T : Fs} (h : T.Inv) : 2 ≤ T.next := by have := h.lt _ _ h.one; omega
/-- What may be a thing's record. -/
structure NdOk (n : Nd) : Prop where
  kind : n.kind = 1 ∨ n.kind = 2 ∨ n.kind = 3
  data : n.data.length ≤ 65536
  plain : (n.kind ≠ 1 → n.data = []) ∧ (n.kind ≠ 3 → n.target = []) ∧ n.target.length ≤ 200
theorem Fs.Inv.ok {T : Fs} (h : T.Inv) {p : Pt} {i : Nat} (hm : (p, i) ∈ T.names) : NdOk (T.nd i) := ⟨h.kinds p i hm, h.data p i hm, h.plain p i hm⟩
theorem nodup_snoc {l : List (Pt × Nat)} (h : (l.map (·.1)).Nodup) {p : Pt} {i : Nat} (hn : look1 l p = none) : ((l ++ [(p, i)]).map (·.1)).Nodup := by
 rw [List.map_append, List.map_singleton]
 refine List.nodup_append.2 ⟨h, by simp, ?_⟩
 intro a ha b hb
 simp only [List.mem_singleton] at hb
 subst hb
 rintro rfl
 obtain ⟨⟨q, j⟩, hx, hq⟩ := List.mem_map.1 ha
 simp only at hq
 subst hq
 exact look1_none.1 hn j hx
theorem add_inv {T : Fs} (h : T.Inv) {p : Pt} {d : Nat} {n : Nd} (hp : p ≠ []) (hP : Pth p) (hd : (p.dropLast, d) ∈ T.names) (hk : (T.nd d).kind = 2) (hn : T.at p = none) (h1 : n.links = 1) (hN : NdOk n) : (T.add p n).Inv := by
 have hfr := h.next_fresh
 have h2 := h.two
 have hmem : ∀ q i, (q, i) ∈ (T.add p n).names ↔ (q, i) ∈ T.names ∨ (q = p ∧ i = T.next) := fun q i => by simp [Fs.add]
 have hold : ∀ q i, (q, i) ∈ T.names → (T.add p n).nd i = T.nd i := fun q i hm => by
  unfold Fs.add
  dsimp only
  rw [if_neg (fun e : i = T.next => hfr q (e ▸ hm))]
 have hnew : (T.add p n).nd T.next = n := by simp [Fs.add]
 refine ⟨?_, nodup_snoc h.nodup hn, ?_, ?_, ?_, ?_, ?_, ?_, ?_, ?_, ?_⟩
 ·obtain ⟨r, e⟩ := h.top
  exact ⟨r ++ [(p, T.next)], by simp [Fs.add, e]⟩
 ·rw [hold _ _ h.one]; exact h.topKind
 ·intro q i hm hq
  rcases (hmem q i).1 hm with hm | ⟨rfl, rfl⟩
  ·obtain ⟨j, hj, hjk⟩ := h.up q i hm hq
   exact ⟨j, (hmem _ _).2 (Or.inl hj), by rw [hold _ _ hj]; exact hjk⟩
  ·exact ⟨d, (hmem _ _).2 (Or.inl hd), by rw [hold _ _ hd]; exact hk⟩
 ·intro q i hm
  rcases (hmem q i).1 hm with hm | ⟨rfl, rfl⟩
  ·exact h.pth q i hm
  ·exact hP
 ·intro q i hm
  rcases (hmem q i).1 hm with hm | ⟨rfl, rfl⟩
  ·rw [hold _ _ hm]; exact h.kinds q i hm
  ·rw [hnew]; exact hN.kind
 ·intro q i hm
  show 1 ≤ i ∧ i < T.next + 1
  rcases (hmem q i).1 hm with hm | ⟨rfl, rfl⟩
  ·have := h.lt q i hm; omega
  ·omega
 ·intro q i hm
  have e : namesOf (T.add p n).names i = namesOf T.names i + if T.next = i then 1 else 0 := by
   show namesOf (T.names ++ [(p, T.next)]) i = _
   rw [namesOf_append, namesOf_one]
  rw [e]
  rcases (hmem q i).1 hm with hm | ⟨rfl, rfl⟩
  ·rw [hold _ _ hm, h.links q i hm, if_neg (fun e : T.next = i => hfr q (e ▸ hm))]
   rfl
  ·rw [hnew, h1, namesOf_zero hfr, if_pos rfl]
   rfl
 ·intro q i hm hk1 r hr
  rcases (hmem q i).1 hm with hm1 | ⟨rfl, rfl⟩
  ·rw [hold _ _ hm1] at hk1
   rcases (hmem r i).1 hr with hr | ⟨rfl, rfl⟩
   ·exact h.single q i hm1 hk1 r hr
   ·exact absurd hm1 (hfr q)
  ·rcases (hmem r _).1 hr with hr | ⟨rfl, _⟩
   ·exact absurd hr (hfr r)
   ·rfl
 ·intro q i hm
  rcases (hmem q i).1 hm with hm | ⟨rfl, rfl⟩
  ·rw [hold _ _ hm]; exact h.data q i hm
  ·rw [hnew]; exact hN.data
 ·intro q i hm
  rcases (hmem q i).1 hm with hm | ⟨rfl, rfl⟩
  ·rw [hold _ _ hm]; exact h.plain q i hm
  ·rw [hnew]; exact hN.plain
theorem set_inv {T : Fs} (h : T.Inv) {i : Nat} {n : Nd} (hN : NdOk n) (hk : n.kind = (T.nd i).kind) (hl : n.links = (T.nd i).links) : (T.set i n).Inv := by
 have hkk : ∀ j, ((T.set i n).nd j).kind = (T.nd j).kind := fun j => by
  by_cases e : j = i
  ·subst e; simp [Fs.set, hk]
  ·simp [Fs.set, e]
 have hll : ∀ j, ((T.set i n).nd j).links = (T.nd j).links := fun j => by
  by_cases e : j = i
  ·subst e; simp [Fs.set, hl]
  ·simp [Fs.set, e]
 refine ⟨h.top, h.nodup, ?_, ?_, h.pth, ?_, h.lt, ?_, ?_, ?_, ?_⟩
 ·rw [hkk]; exact h.topKind
 ·intro p j hm hp
  obtain ⟨d, h1, h2⟩ := h.up p j hm hp
  exact ⟨d, h1, by rw [hkk]; exact h2⟩
 ·intro p j hm; rw [hkk]; exact h.kinds p j hm
 ·intro p j hm; rw [hll]; exact h.links p j hm
 ·intro p j hm; rw [hkk]; exact h.single p j hm
 ·intro p j hm
  by_cases e : j = i
  ·subst e; simpa [Fs.set] using hN.data
  ·simpa [Fs.set, e] using h.data p j hm
 ·intro p j hm
  by_cases e : j = i
  ·subst e; simpa [Fs.set] using hN.plain
  ·simpa [Fs.set, e] using h.plain p j hm
theorem name_inv {T : Fs} (h : T.Inv) {p q : Pt} {d i : Nat} (hp : p ≠ []) (hP : Pth p) (hd : (p.dropLast, d) ∈ T.names) (hk : (T.nd d).kind = 2) (hn : T.at p = none) (hi : (q, i) ∈ T.names) (hf : (T.nd i).kind = 1) : (T.name p i).Inv := by
 have hmem : ∀ r j, (r, j) ∈ (T.name p i).names ↔ (r, j) ∈ T.names ∨ (r = p ∧ j = i) := fun r j => by simp [Fs.name]
 have hkk : ∀ j, ((T.name p i).nd j).kind = (T.nd j).kind := fun j => by
  by_cases e : j = i
  ·subst e; simp [Fs.name]
  ·simp [Fs.name, e]
 have hdd : ∀ j, ((T.name p i).nd j).data = (T.nd j).data := fun j => by
  by_cases e : j = i
  ·subst e; simp [Fs.name]
  ·simp [Fs.name, e]
 have htt : ∀ j, ((T.name p i).nd j).target = (T.nd j).target := fun j => by
  by_cases e : j = i
  ·subst e; simp [Fs.name]
  ·simp [Fs.name, e]
 have hlive : ∀ r j, (r, j) ∈ (T.name p i).names → ∃ s, (s, j) ∈ T.names := fun r j hm => by
  rcases (hmem r j).1 hm with hm | ⟨_, rfl⟩
  ·exact ⟨r, hm⟩
  ·exact ⟨q, hi⟩
 refine ⟨?_, nodup_snoc h.nodup hn, ?_, ?_, ?_, ?_, ?_, ?_, ?_, ?_, ?_⟩
 ·obtain ⟨r, e⟩ := h.top
  exact ⟨r ++ [(p, i)], by simp [Fs.name, e]⟩
 ·rw [hkk]; exact h.topKind
 ·intro r j hm hr
  rcases (hmem r j).1 hm with hm | ⟨rfl, rfl⟩
  ·obtain ⟨k, h1, h2⟩ := h.up r j hm hr
   exact ⟨k, (hmem _ _).2 (Or.inl h1), by rw [hkk]; exact h2⟩
  ·exact ⟨d, (hmem _ _).2 (Or.inl hd), by rw [hkk]; exact hk⟩
 ·intro r j hm
  rcases (hmem r j).1 hm with hm | ⟨rfl, rfl⟩
  ·exact h.pth r j hm
  ·exact hP
 ·intro r j hm
  obtain ⟨s, hs⟩ := hlive r j hm
  rw [hkk]; exact h.kinds s j hs
 ·intro r j hm
  obtain ⟨s, hs⟩ := hlive r j hm
  exact h.lt s j hs
 ·intro r j hm
  obtain ⟨s, hs⟩ := hlive r j hm
  have e : namesOf (T.name p i).names j = namesOf T.names j + if i = j then 1 else 0 := by
   show namesOf (T.names ++ [(p, i)]) j = _
   rw [namesOf_append, namesOf_one]
  rw [e]
  by_cases ej : j = i
  ·subst ej
   simp [Fs.name, h.links s j hs]
  ·rw [if_neg (fun e => ej e.symm)]
   simp [Fs.name, ej, h.links s j hs]
 ·intro r j hm hk1 s hs
  rw [hkk] at hk1
  rcases (hmem r j).1 hm with hm | ⟨rfl, rfl⟩
  ·rcases (hmem s j).1 hs with hs | ⟨rfl, rfl⟩
   ·exact h.single r j hm hk1 s hs
   ·exact absurd hf hk1
  ·exact absurd hf hk1
 ·intro r j hm
  obtain ⟨s, hs⟩ := hlive r j hm
  rw [hdd]; exact h.data s j hs
 ·intro r j hm
  obtain ⟨s, hs⟩ := hlive r j hm
  rw [hkk, hdd, htt]; exact h.plain s j hs
end Go.Proofs.YtcjlfkklpghjbaaGreat

namespace Go.Proofs.YtcjlfkklpghjbaaGreat
theorem split_at {l : List (Pt × Nat)} (h : (l.map (·.1)).Nodup) {p : Pt} {i : Nat} (hm : (p, i) ∈ l) :
  ∃ s t, l = s ++ (p, i) :: t ∧ l.filter (fun x => x.1 ≠ p) = s ++ t := by
 obtain ⟨s, t, rfl⟩ := List.append_of_mem hm
 refine ⟨s, t, rfl, ?_⟩
 rw [List.map_append, List.map_cons] at h
 have h1 := List.nodup_append.1 h
 obtain ⟨_, h2, h3⟩ := h1
 have h4 := (List.nodup_cons.1 h2).1
 rw [List.filter_append, List.filter_cons]
 simp only [ne_eq, not_true_eq_false, decide_false, Bool.false_eq_true, if_false]
 rw [List.filter_eq_self.2, List.filter_eq_self.2]
 ·intro x hx
  simp only [decide_eq_true_eq]
  rintro rfl
  exact h4 (List.mem_map.2 ⟨x, hx, rfl⟩)
 ·intro x hx
  simp only [decide_eq_true_eq]
  rintro rfl
  exact h3 _ (List.mem_map.2 ⟨x, hx, rfl⟩) _ (List.mem_cons_self ..) rfl
theorem namesOf_gone {l : List (Pt × Nat)} (h : (l.map (·.1)).Nodup) {p : Pt} {i : Nat} (hm : (p, i) ∈ l) (j : Nat) :
  namesOf l j = namesOf (l.filter (fun x => x.1 ≠ p)) j + if i = j then 1 else 0 := by
 obtain ⟨s, t, e1, e2⟩ := split_at h hm
 rw [e2, e1, namesOf_append, namesOf_append]
 have : namesOf ((p, i) :: t) j = (if i = j then 1 else 0) + namesOf t j := by
  rw [← namesOf_one p i j, ← namesOf_append]
  rfl
 rw [this]
 omega
theorem mem_gone {T : Fs} {p : Pt} {i : Nat} (q : Pt) (j : Nat) : (q, j) ∈ (T.gone p i).names ↔ (q, j) ∈ T.names ∧ q ≠ p := by simp [Fs.gone]
theorem gone_inv {T : Fs} (h : T.Inv) {p : Pt} {i : Nat} (hm : (p, i) ∈ T.names) (hp : p ≠ []) (hk : T.kids p = []) : (T.gone p i).Inv := by
 have hkk : ∀ j, ((T.gone p i).nd j).kind = (T.nd j).kind := fun j => by
  by_cases e : j = i
  ·subst e; simp [Fs.gone]
  ·simp [Fs.gone, e]
 have hdd : ∀ j, ((T.gone p i).nd j).data = (T.nd j).data := fun j => by
  by_cases e : j = i
  ·subst e; simp [Fs.gone]
  ·simp [Fs.gone, e]
 have htt : ∀ j, ((T.gone p i).nd j).target = (T.nd j).target := fun j => by
  by_cases e : j = i
  ·subst e; simp [Fs.gone]
  ·simp [Fs.gone, e]
 refine ⟨?_, ?_, ?_, ?_, ?_, ?_, ?_, ?_, ?_, ?_, ?_⟩
 ·obtain ⟨r, e⟩ := h.top
  exact ⟨r.filter (fun x => x.1 ≠ p), by simp [Fs.gone, e, Ne.symm hp]⟩
 ·exact (List.filter_sublist.map _).nodup h.nodup
 ·rw [hkk]; exact h.topKind
 ·intro q j hq hne
  obtain ⟨hq1, hq2⟩ := (mem_gone q j).1 hq
  obtain ⟨d, h1, h2⟩ := h.up q j hq1 hne
  refine ⟨d, (mem_gone _ _).2 ⟨h1, fun e => ?_⟩, by rw [hkk]; exact h2⟩
  have : (q.getLastD [], j) ∈ T.kids p := mem_kidsL.2 (by rw [← snoc_of hne e]; exact hq1)
  rw [hk] at this
  cases this
 ·intro q j hq; exact h.pth q j ((mem_gone q j).1 hq).1
 ·intro q j hq; rw [hkk]; exact h.kinds q j ((mem_gone q j).1 hq).1
 ·intro q j hq; exact h.lt q j ((mem_gone q j).1 hq).1
 ·intro q j hq
  have h1 := h.links q j ((mem_gone q j).1 hq).1
  have h2 := namesOf_gone h.nodup hm j
  show ((T.gone p i).nd j).links = namesOf (T.names.filter (fun x => x.1 ≠ p)) j
  by_cases e : j = i
  ·subst e
   rw [if_pos rfl] at h2
   have : ((T.gone p j).nd j).links = (T.nd j).links - 1 := by simp [Fs.gone]
   rw [this, h1, h2]
   omega
  ·rw [if_neg (fun e2 => e e2.symm)] at h2
   have : ((T.gone p i).nd j).links = (T.nd j).links := by simp [Fs.gone, e]
   rw [this, h1, h2]
   rfl
 ·intro q j hq hk1 r hr
  rw [hkk] at hk1
  exact h.single q j ((mem_gone q j).1 hq).1 hk1 r ((mem_gone r j).1 hr).1
 ·intro q j hq; rw [hdd]; exact h.data q j ((mem_gone q j).1 hq).1
 ·intro q j hq; rw [hkk, hdd, htt]; exact h.plain q j ((mem_gone q j).1 hq).1
/-! ### what stands in a directory -/
theorem kidsL_append (l r : List (Pt × Nat)) (q : Pt) : kidsL (l ++ r) q = kidsL l q ++ kidsL r q := by simp [kidsL]
theorem kidsL_same (p : Pt) (i : Nat) (hp : p ≠ []) : kidsL [(p, i)] p.dropLast = [(p.getLastD [], i)] := by simp [kidsL, kidOf, hp]
theorem kidsL_other (p : Pt) (i : Nat) {q : Pt} (h : p.dropLast ≠ q) : kidsL [(p, i)] q = [] := by simp [kidsL, kidOf, h]
theorem kidsL_gone {l : List (Pt × Nat)} (h : (l.map (·.1)).Nodup) {p : Pt} {i : Nat} (hm : (p, i) ∈ l) (hp : p ≠ []) :
  (kidsL l p.dropLast).Perm ((p.getLastD [], i) :: kidsL (l.filter (fun x => x.1 ≠ p)) p.dropLast) := by
 obtain ⟨s, t, e1, e2⟩ := split_at h hm
 rw [e2, e1, kidsL_append, kidsL_append]
 have : kidsL ((p, i) :: t) p.dropLast = (p.getLastD [], i) :: kidsL t p.dropLast := by
  have := kidsL_append [(p, i)] t p.dropLast
  rw [kidsL_same p i hp] at this
  simpa using this
 rw [this]
 exact List.perm_middle
theorem kidsL_gone_other {l : List (Pt × Nat)} (h : (l.map (·.1)).Nodup) {p : Pt} {i : Nat} (hm : (p, i) ∈ l) {q : Pt} (hq : p.dropLast ≠ q) : kidsL (l.filter (fun x => x.1 ≠ p)) q = kidsL l q := by
 obtain ⟨s, t, e1, e2⟩ := split_at h hm
 rw [e2, e1, kidsL_append, kidsL_append]
 have : kidsL ((p, i) :: t) q = kidsL t q := by
  have := kidsL_append [(p, i)] t q
  rw [kidsL_other p i hq] at this
  simpa using this
 rw [this]
end Go.Proofs.YtcjlfkklpghjbaaGreat

namespace Go.Proofs.YtcjlfkklpghjbaaGreat
/-- Where a path goes when old becomes p. -/
def moveP (old p q : Pt) : Pt := if old.isPrefixOf q then p ++ q.drop old.length else q
def Fs.move (T : Fs) (old p : Pt) : Fs := ⟨T.names.map (fun x => (moveP old p x.1, x.2)), T.nd, T.next⟩
theorem moveP_under (old p t : Pt) : moveP old p (old ++ t) = p ++ t := by
 have : old.isPrefixOf (old ++ t) = true := List.isPrefixOf_iff_prefix.2 (List.prefix_append _ _)
 simp [moveP, this]
theorem moveP_other {old p q : Pt} (h : ¬ old <+: q) : moveP old p q = q := if_neg (fun e => h (List.isPrefixOf_iff_prefix.1 e))
theorem moveP_cases (old p q : Pt) : (∃ t, q = old ++ t ∧ moveP old p q = p ++ t) ∨ (¬ old <+: q ∧ moveP old p q = q) := by
 by_cases h : old <+: q
 ·obtain ⟨t, rfl⟩ := h
  exact Or.inl ⟨t, rfl, moveP_under old p t⟩
 ·exact Or.inr ⟨h, moveP_other h⟩
/-- What stands above a name is a name. -/
theorem Fs.Inv.above {T : Fs} (h : T.Inv) {r t : Pt} {i : Nat} (hm : (r ++ t, i) ∈ T.names) : ∃ j, (r, j) ∈ T.names := by
 cases hc : T.at r with
 | some j => exact ⟨j, h.at_some.1 hc⟩
 | none =>
  by_cases ht : t = []
  ·subst ht
   rw [List.append_nil] at hm
   exact ⟨i, hm⟩
  ·have := h.at_below t ht (fun j hj => by rw [hc] at hj; cases hj)
   rw [h.at_some.2 hm] at this
   cases this
structure Moves (T : Fs) (old p : Pt) (i d : Nat) : Prop where
  hold : (old, i) ∈ T.names
  one : old ≠ []
  two : p ≠ []
  free : T.at p = none
  dir : (p.dropLast, d) ∈ T.names
  kind : (T.nd d).kind = 2
  apart : ¬ old <+: p
  pth : ∀ t j, (old ++ t, j) ∈ T.names → Pth (p ++ t)
theorem Moves.none {T : Fs} {old p : Pt} {i d : Nat} (hI : T.Inv) (h : Moves T old p i d) {t : Pt} {j : Nat} : (p ++ t, j) ∉ T.names := fun hm => by
 obtain ⟨k, hk⟩ := hI.above hm
 exact Fs.at_none.1 h.free k hk
theorem dropLast_append {p t : Pt} (ht : t ≠ []) : (p ++ t).dropLast = p ++ t.dropLast := List.dropLast_append_of_ne_nil ht
theorem moveP_inj {T : Fs} {old p : Pt} {i d : Nat} (hI : T.Inv) (h : Moves T old p i d) {q r : Pt} {j k : Nat} (hq : (q, j) ∈ T.names) (hr : (r, k) ∈ T.names) (e : moveP old p q = moveP old p r) : q = r := by
 rcases moveP_cases old p q with ⟨t, rfl, e1⟩ | ⟨h1, e1⟩ <;> rcases moveP_cases old p r with ⟨u, rfl, e2⟩ | ⟨h2, e2⟩ <;> rw [e1, e2] at e
 ·rw [List.append_cancel_left e]
 ·subst e; exact absurd hr (h.none hI)
 ·subst e; exact absurd hq (h.none hI)
 ·exact e
theorem mem_move {T : Fs} {old p : Pt} (q : Pt) (j : Nat) : (q, j) ∈ (T.move old p).names ↔ ∃ r, (r, j) ∈ T.names ∧ moveP old p r = q := by
 simp only [Fs.move, List.mem_map, Prod.mk.injEq, Prod.exists]
 constructor
 ·rintro ⟨a, b, h1, h2, rfl⟩; exact ⟨a, h1, h2⟩
 ·rintro ⟨r, h1, h2⟩; exact ⟨r, j, h1, h2, rfl⟩
theorem namesOf_move (T : Fs) (old p : Pt) (j : Nat) : namesOf (T.move old p).names j = namesOf T.names j := by
 unfold namesOf Fs.move
 rw [List.filter_map, List.length_map]
 rfl
theorem move_inv {T : Fs} (hI : T.Inv) {old p : Pt} {i d : Nat} (h : Moves T old p i d) : (T.move old p).Inv := by
 refine ⟨?_, ?_, hI.topKind, ?_, ?_, ?_, ?_, ?_, ?_, ?_, ?_⟩
 ·obtain ⟨r, e⟩ := hI.top
  refine ⟨r.map (fun x => (moveP old p x.1, x.2)), ?_⟩
  have : moveP old p [] = [] := moveP_other (fun hp => h.one (List.prefix_nil.1 hp))
  simp [Fs.move, e, this]
 ·unfold Fs.move
  dsimp only
  rw [List.map_map]
  have hnd := hI.nodup
  rw [List.Nodup, List.pairwise_map] at hnd ⊢
  have hmm : ∀ x ∈ T.names, (x.1, x.2) ∈ T.names := fun x hx => hx
  refine List.Pairwise.imp_of_mem ?_ hnd
  intro a b ha hb hne e
  exact hne (moveP_inj hI h (hmm a ha) (hmm b hb) e)
 ·intro q j hm hq
  obtain ⟨r, hr, e⟩ := (mem_move q j).1 hm
  rcases moveP_cases old p r with ⟨t, rfl, e1⟩ | ⟨h1, e1⟩
  ·rw [e1] at e
   subst e
   by_cases ht : t = []
   ·subst ht
    rw [List.append_nil]
    refine ⟨d, (mem_move _ _).2 ⟨_, h.dir, moveP_other (fun hp => h.apart ?_)⟩, h.kind⟩
    exact hp.trans (List.dropLast_prefix p)
   ·obtain ⟨k, hk, hk2⟩ := hI.up _ _ hr (by simp [ht])
    rw [dropLast_append ht] at hk ⊢
    exact ⟨k, (mem_move _ _).2 ⟨_, hk, moveP_under old p _⟩, hk2⟩
  ·rw [e1] at e
   subst e
   obtain ⟨k, hk, hk2⟩ := hI.up _ _ hr hq
   exact ⟨k, (mem_move _ _).2 ⟨_, hk, moveP_other (fun hp => h1 (hp.trans (List.dropLast_prefix _)))⟩, hk2⟩
 ·intro q j hm
  obtain ⟨r, hr, e⟩ := (mem_move q j).1 hm
  rcases moveP_cases old p r with ⟨t, rfl, e1⟩ | ⟨h1, e1⟩
  ·rw [e1] at e; subst e; exact h.pth t j hr
  ·rw [e1] at e; subst e; exact hI.pth _ _ hr
 ·intro q j hm
  obtain ⟨r, hr, _⟩ := (mem_move q j).1 hm
  exact hI.kinds r j hr
 ·intro q j hm
  obtain ⟨r, hr, _⟩ := (mem_move q j).1 hm
  exact hI.lt r j hr
 ·intro q j hm
  obtain ⟨r, hr, _⟩ := (mem_move q j).1 hm
  rw [namesOf_move]
  exact hI.links r j hr
 ·intro q j hm hk r hr
  obtain ⟨q', hq', rfl⟩ := (mem_move q j).1 hm
  obtain ⟨r', hr', rfl⟩ := (mem_move r j).1 hr
  rw [hI.single q' j hq' hk r' hr']
 ·intro q j hm
  obtain ⟨r, hr, _⟩ := (mem_move q j).1 hm
  exact hI.data r j hr
 ·intro q j hm
  obtain ⟨r, hr, _⟩ := (mem_move q j).1 hm
  exact hI.plain r j hr
end Go.Proofs.YtcjlfkklpghjbaaGreat

namespace Go.Proofs.YtcjlfkklpghjbaaGreat
theorem fm_congr {α β : Type} {f g : α → Option β} : ∀ {l : List α}, (∀ x ∈ l, f x = g x) → l.filterMap f = l.filterMap g
 | [], _ => rfl
 | a :: l, h => by
  rw [List.filterMap_cons, List.filterMap_cons, h a (List.mem_cons_self ..), fm_congr fun x hx => h x (List.mem_cons_of_mem _ hx)]
theorem kidOf_none {r : Pt} {x : Pt × Nat} (h : x.1.dropLast ≠ r) : kidOf r x = none := if_neg (fun e => h e.2)
/-- The directories that moved have what they had. -/
theorem kids_move_under {T : Fs} (hI : T.Inv) {old p : Pt} {i d : Nat} (h : Moves T old p i d) (rest : Pt) : (T.move old p).kids (p ++ rest) = T.kids (old ++ rest) := by
 unfold Fs.kids kidsL Fs.move
 dsimp only
 rw [List.filterMap_map]
 have hmm : ∀ x ∈ T.names, kidOf (p ++ rest) (moveP old p x.1, x.2) = kidOf (old ++ rest) x := by
  rintro ⟨q, j⟩ hx
  rcases moveP_cases old p q with ⟨u, rfl, e1⟩ | ⟨h1, e1⟩
  ·dsimp only
   rw [e1]
   by_cases hu : u = []
   ·subst hu
    rw [List.append_nil, List.append_nil]
    rw [kidOf_none, kidOf_none]
    ·intro e
     have := congrArg List.length e
     have h2 : old.length ≠ 0 := fun e => h.one (List.eq_nil_of_length_eq_zero e)
     simp at this
     omega
    ·intro e
     have := congrArg List.length e
     have h2 : p.length ≠ 0 := fun e => h.two (List.eq_nil_of_length_eq_zero e)
     simp at this
     omega
   ·unfold kidOf
    dsimp only
    rw [dropLast_append hu, dropLast_append hu]
    have e3 : (p ++ u).getLastD [] = u.getLastD [] := by simp [List.getLastD_eq_getLast?, List.getLast?_append, List.getLast?_eq_some_getLast hu]
    have e4 : (old ++ u).getLastD [] = u.getLastD [] := by simp [List.getLastD_eq_getLast?, List.getLast?_append, List.getLast?_eq_some_getLast hu]
    rw [e3, e4]
    simp [hu]
  ·dsimp only
   rw [e1]
   rw [kidOf_none, kidOf_none]
   ·intro e
    refine h1 (List.IsPrefix.trans ?_ (List.dropLast_prefix q))
    rw [show q.dropLast = _ from e]
    exact List.prefix_append _ _
   ·intro e
    have hq : q ≠ [] := by
     rintro rfl
     have := congrArg List.length e
     have h2 : p.length ≠ 0 := fun e => h.two (List.eq_nil_of_length_eq_zero e)
     simp at this
     omega
    have : q = (p ++ rest) ++ [q.getLastD []] := snoc_of hq e
    rw [this, List.append_assoc] at hx
    exact h.none hI hx
 exact fm_congr fun x hx => hmm x hx
/-- A directory that stayed has lost and gained the one name. -/
theorem kids_move_stay {T : Fs} (hI : T.Inv) {old p : Pt} {i d : Nat} (h : Moves T old p i d) {r : Pt} {k : Nat} (hr : (r, k) ∈ T.names) (hn : ¬ old <+: r) :
  ∃ K0, (T.kids r).Perm ((if old.dropLast = r then [(old.getLastD [], i)] else []) ++ K0) ∧ ((T.move old p).kids r).Perm ((if p.dropLast = r then [(p.getLastD [], i)] else []) ++ K0) := by
 obtain ⟨s, t, hst, _⟩ := split_at hI.nodup h.hold
 have hnd := hI.nodup
 have hsame : ∀ x, x ∈ s ∨ x ∈ t → kidOf r (moveP old p x.1, x.2) = kidOf r x := by
  rintro ⟨q, j⟩ hx
  have hx' : (q, j) ∈ T.names := by rw [hst]; rcases hx with hx | hx <;> simp [hx]
  have hqo : q ≠ old := by
   rintro rfl
   have h1 := hI.at_some.2 h.hold
   rw [hI.at_some.2 hx'] at h1
   obtain rfl := Option.some.inj h1
   clear h1
   rw [hst, List.map_append, List.map_cons] at hnd
   have h1 := List.nodup_append.1 hnd
   rcases hx with hx | hx
   ·exact h1.2.2 _ (List.mem_map.2 ⟨_, hx, rfl⟩) _ (List.mem_cons_self ..) rfl
   ·exact (List.nodup_cons.1 h1.2.1).1 (List.mem_map.2 ⟨_, hx, rfl⟩)
  rcases moveP_cases old p q with ⟨u, rfl, e1⟩ | ⟨h1, e1⟩
  ·have hu : u ≠ [] := fun e => hqo (by rw [e, List.append_nil])
   dsimp only
   rw [e1, kidOf_none, kidOf_none]
   ·dsimp only
    rw [dropLast_append hu]
    rintro rfl
    exact hn (List.prefix_append _ _)
   ·dsimp only
    rw [dropLast_append hu]
    rintro rfl
    exact h.none hI hr
  ·dsimp only
   rw [e1]
 have one : ∀ (q : Pt), q ≠ [] → kidsL [(q, i)] r = if q.dropLast = r then [(q.getLastD [], i)] else [] := by
  intro q hq
  by_cases e : q.dropLast = r
  ·subst e
   rw [kidsL_same q i hq, if_pos rfl]
  ·rw [kidsL_other q i e, if_neg e]
 have hmp : moveP old p old = p := by have := moveP_under old p []; simpa using this
 refine ⟨kidsL s r ++ kidsL t r, ?_, ?_⟩
 ·show (kidsL T.names r).Perm _
  have : kidsL T.names r = kidsL s r ++ (kidsL [(old, i)] r ++ kidsL t r) := by
   rw [hst, kidsL_append, ← kidsL_append [(old, i)] t]
   rfl
  rw [this, one old h.one, ← List.append_assoc, ← List.append_assoc]
  exact List.Perm.append_right _ List.perm_append_comm
 ·show (kidsL (T.names.map fun x => (moveP old p x.1, x.2)) r).Perm _
  have hs : kidsL (s.map fun x => (moveP old p x.1, x.2)) r = kidsL s r := by
   unfold kidsL
   rw [List.filterMap_map]
   exact fm_congr fun x hx => hsame x (Or.inl hx)
  have ht : kidsL (t.map fun x => (moveP old p x.1, x.2)) r = kidsL t r := by
   unfold kidsL
   rw [List.filterMap_map]
   exact fm_congr fun x hx => hsame x (Or.inr hx)
  have : kidsL (T.names.map fun x => (moveP old p x.1, x.2)) r = kidsL s r ++ (kidsL [(p, i)] r ++ kidsL t r) := by
   rw [hst, List.map_append, List.map_cons, kidsL_append, hs]
   dsimp only
   rw [hmp]
   have e : (p, i) :: List.map (fun x => (moveP old p x.1, x.2)) t = [(p, i)] ++ List.map (fun x => (moveP old p x.1, x.2)) t := rfl
   rw [e, kidsL_append, ht]
  rw [this, one p h.two, ← List.append_assoc, ← List.append_assoc]
  exact List.Perm.append_right _ List.perm_append_comm
end Go.Proofs.YtcjlfkklpghjbaaGreat

namespace Go.Proofs.YtcjlfkklpghjbaaGreat
open Go.RowKit
theorem under_kids : Tryz.prog.underlying 85 = some (.map 9 80) := Tryz.underlying85
theorem zero_node (w : World) : (zeroValue 80).run Tryz.prog w = .ok (.pointer none) w := by kernel_rfl
theorem map_nil (w : World) (m : Option Nat) : (binOp .eql 85 (.map m) (.map none)).run Tryz.prog w = .ok (.bool m.isNone) w := run_eql_map_nil w _ _ _ m under_kids
theorem map_not_nil (w : World) (m : Option Nat) : (binOp .neq 85 (.map m) (.map none)).run Tryz.prog w = .ok (.bool (!m.isNone)) w := run_neq_map_nil w _ _ _ m under_kids
theorem entries_keys (A : Nat → Nat) (l : List (Bytes × Nat)) : ∀ v ∈ (entries A l).map (·.1), ∃ t, v = .string t := by
 intro v hv
 simp only [entries, List.map_map, List.mem_map, Function.comp_apply] at hv
 obtain ⟨x, _, rfl⟩ := hv
 exact ⟨_, rfl⟩
/-- A look-up among the names of a directory. -/
theorem Rep.look {w : World} {tb : Nat} {A M : Nat → Nat} {T : Fs} (h : Rep w tb A M T) {p : Pt} {i : Nat} (hp : (p, i) ∈ T.names) (h2 : (T.nd i).kind = 2) (x : Bytes) :
  (Instr.lookup 85 (.map (some (M i))) (.string (mkS x)) false).run Tryz.prog w = .ok (optPtr A (T.at (p ++ [x]))) w := by
 have hm := h.kids p i hp h2
 have hk := keyable_string Tryz.underlying9 w (mkS x) (entries_keys A (T.kids p))
 cases hc : T.at (p ++ [x]) with
 | some j =>
  have : ((.string (mkS x), ptr (A j)) : Value × Value) ∈ entries A (T.kids p) := List.mem_map.2 ⟨(x, j), h.inv.kids_at.2 hc, rfl⟩
  exact hm.look_hit under_kids hk this false
 | none =>
  refine hm.look_miss under_kids hk ?_ (zero_node w) false
  intro q hq e
  obtain ⟨⟨y, j⟩, hy, rfl⟩ := List.mem_map.1 hq
  simp only [Value.string.injEq] at e
  rw [mkS_inj e] at hy
  rw [h.inv.kids_at.1 hy] at hc
  cases hc
theorem cell_of {w : World} {b : Nat} {cs : Array Value} {t : TypeId} {f : Nat × Nat} (h : w.heap[b]? = some (.cells cs t f)) {j : Nat} {v : Value} (hj : cs[j]? = some v) : w.cell? ⟨b, j, none⟩ = some v := by
 simp [World.cell?, h, hj]
set_option maxHeartbeats 1000000 in
set_option maxRecDepth 100000 in
theorem at_calls (tb : Nat) (A M : Nat → Nat) (T : Fs) (s : ByteArray) (w : World) (hR : Rep w tb A M T) (hs : s.size ≤ 16777216) :
  Calls Tryz.prog 110 #[ptr tb, .string s] w fun e w' => e = .returned (optPtr A (T.at (split (bl s)))) ∧ Below w.heap.size w w' := by
 have h1 := fun W => split_calls s W hs
 generalize split (bl s) = l at *
 replace h1 := hid h1
 have c0 : w.cell? ⟨tb, 0, none⟩ = some (ptr (A 1)) := cell_of hR.tree rfl
 have hR0 := hR
 replace hR := hid hR
 clear hR0
 unfold ptr at c0 ⊢
 go_enter Tryz.func110, Tryz.ntmps110
 go_wp2_with fail
 refine (h1.out _).mono ?_
 rintro e w1 ⟨⟨v1, rfl, hO1⟩, hB1⟩
 have hRd := hO1.rd
 obtain ⟨g, c, rfl, hle, hmax⟩ := hRd.shape
 unfold maxLen at hmax
 go_wp2
 have hRw := (hR.out).below hB1
 clear hR c0 h1 hO1
 have hI := hRw.inv
 have hmn := fun W m => map_nil W m
 go_loop [5, 7, 15] (fun n x i => ∃ k : Nat, i = .int .i64 k ∧ k ≤ l.length ∧ n = optPtr A (T.at (l.take k))) (fun n x i => l.length - (intOf i).toNat)
 case atStart => exact ⟨0, rfl, Nat.zero_le _, by rw [List.take_zero, hI.at_top]; rfl⟩
 case round =>
  obtain ⟨k, rfl, hk, rfl⟩ := hrel
  by_cases hlt : k < l.length
  ·obtain ⟨g, o, rfl, hcx⟩ := hRd.cell hlt
   have htk : l.take (k + 1) = l.take k ++ [l[k]] := by rw [List.take_add_one, List.getElem?_eq_getElem hlt]; rfl
   have hdk : l = l.take k ++ l.drop k := (List.take_append_drop k l).symm
   have hne : l.drop k ≠ [] := by intro e; have := congrArg List.length e; simp at this; omega
   cases hc : T.at (l.take k) with
   | none =>
    have hend : T.at l = none := by
     rw [hdk]
     exact hI.at_below _ hne (fun i hi => by rw [hc] at hi; cases hi)
    rw [optPtr_none]
    replace hend := hid hend
    replace hRw := hid hRw
    replace hI := hid hI
    clear hdk hne hc htk
    go_wp2
    go_ret
    exact ⟨by rw [hend.out]; rfl, hB1⟩
   | some i =>
    have hm := hI.at_some.1 hc
    obtain ⟨dv, _, hnode⟩ := hRw.node i ⟨_, hm⟩
    have c11 : w1.cell? ⟨A i, 11, none⟩ = some (kidsV (T.nd i) (M i)) := cell_of hnode rfl
    rw [optPtr_some]
    by_cases h2 : (T.nd i).kind = 2
    ·have hlk := hRw.look hm h2 l[k]
     rw [← htk] at hlk
     rw [kidsV, if_pos h2] at c11
     generalize hq : optPtr A (T.at (l.take (k + 1))) = q at hlk
     replace hq := hid hq
     clear hdk hne hc hm hnode htk h2
     replace hRw := hid hRw
     replace hI := hid hI
     go_wp2
     go_round
     case rel => exact ⟨k + 1, by go_num, by omega, hq.out.symm⟩
     case measure => simp [intOf]; omega
    ·have hend : T.at l = none := by
      rw [hdk]
      exact hI.at_below _ hne (fun j hj => by rw [hc] at hj; cases hj; exact h2)
     rw [kidsV, if_neg h2] at c11
     replace hend := hid hend
     replace hRw := hid hRw
     replace hI := hid hI
     clear hdk hne hc hm hnode htk h2
     go_wp2
     go_ret
     exact ⟨by rw [hend.out]; rfl, hB1⟩
  ·obtain rfl : k = l.length := by omega
   rw [List.take_length]
   have hlt2 : ¬ (l.length : Int) < l.length := by omega
   go_wp2
   go_ret
   exact ⟨rfl, hB1⟩
end Go.Proofs.YtcjlfkklpghjbaaGreat

namespace Go.Proofs.YtcjlfkklpghjbaaGreat
open Go.RowKit Go.Lib
set_option linter.unusedVariables false
set_option linter.unusedSimpArgs false
set_option maxHeartbeats 1000000 in
set_option maxRecDepth 100000 in
theorem base_calls (s : ByteArray) (w : World) (hs : s.size ≤ maxLen) :
  Calls Tryz.prog 84 #[.string s] w fun e w' => e = .returned (.string (mkS (base (bl s)))) ∧ w = w' := by
 have hl := fun W => last_calls s 47 W hs
 have hsz := hs
 unfold maxLen at hsz
 have hbl := bl_length s
 rcases parent_at s with ⟨h1, _, h2⟩ | ⟨i, h1, hi, _, h2⟩
 ·rw [h1] at hl
  rw [h2, mkS_bl]
  replace hl := hid hl
  clear h1 h2
  go_enter Tryz.func84, Tryz.ntmps84
  go_wp2_with fail
  refine (hl.out _).mono ?_
  rintro e w1 ⟨rfl, rfl⟩
  go_wp2
  go_ret
  exact ⟨ret_str (by simp), rfl⟩
 ·rw [h1] at hl
  rw [h2]
  have e0 : s.extract (i + 1) s.size = mkS ((bl s).drop (i + 1)) := by rw [extract_mkS, ← hbl, List.take_length]
  replace hl := hid hl
  replace e0 := hid e0
  clear h1 h2
  go_enter Tryz.func84, Tryz.ntmps84
  go_wp2_with fail
  refine (hl.out _).mono ?_
  rintro e w1 ⟨rfl, rfl⟩
  go_wp2
  go_ret
  exact ⟨ret_str e0.out, rfl⟩
end Go.Proofs.YtcjlfkklpghjbaaGreat

namespace Go.Proofs.YtcjlfkklpghjbaaGreat
open Go.RowKit
theorem str_nil (s : ByteArray) : s.toList.isEmpty = decide (bl s = []) := by
 rw [str_empty]
 congr 1
 rw [← bl_length]
 exact propext List.length_eq_zero_iff
set_option maxHeartbeats 1000000 in
set_option maxRecDepth 100000 in
theorem look_calls (tb : Nat) (A M : Nat → Nat) (T : Fs) (s : ByteArray) (w : World) (hR : Rep w tb A M T) (hs : s.size ≤ 16777216) :
  Calls Tryz.prog 79 #[ptr tb, .string s] w fun e w' => e = .returned (.tuple #[optPtr A (T.look (bl s)).1, optPtr A (T.look (bl s)).2.1, .int .i64 (T.look (bl s)).2.2]) ∧ Below w.heap.size w w' := by
 have hs2 : s.size ≤ maxLen := by unfold maxLen; omega
 have h1 := fun W => right_calls s W hs
 have h2 := fun W => parent_calls s W hs2
 have h3 := fun W => base_calls s W hs2
 have hn := str_nil s
 unfold ptr
 have hLk : T.look (bl s) = ((if right (bl s) = true then
  if bl s = [] then (some 1, none, 0)
  else match T.at (split (bl s)).dropLast with
   | none => (none, none, 10)
   | some d => if (T.nd d).kind = 2 then (T.at (split (bl s)), some d, 0) else (none, none, 12)
  else (none, none, 9)) : Option Nat × Option Nat × Int) := rfl
 generalize T.look (bl s) = res at *
 replace h1 := hid h1
 replace h2 := hid h2
 replace h3 := hid h3
 by_cases hr : right (bl s) = true
 ·rw [hr] at h1
  rw [if_pos hr] at hLk
  by_cases hnil : bl s = []
  ·rw [if_pos hnil] at hLk
   subst hLk
   have hn2 : s.toList.isEmpty = true := by rw [hn, hnil]; rfl
   clear hn hr hnil
   replace hR := hid hR
   go_enter Tryz.func79, Tryz.ntmps79
   go_wp2_with fail
   refine (h1.out _).mono ?_
   rintro e w1 ⟨rfl, hB1⟩
   have c0 : w1.cell? ⟨tb, 0, none⟩ = some (.pointer (some ⟨A 1, 0, none⟩)) := cell_of (hR.out.below hB1).tree rfl
   go_wp2
   go_ret3
   exact ⟨rfl, hB1⟩
  ·rw [if_neg hnil] at hLk
   have hn2 : s.toList.isEmpty = false := by rw [hn]; simpa using hnil
   have hsp := split_parent hr
   have hsb := split_base hnil
   have hps : (mkS (parent (bl s))).size ≤ 16777216 := by
    rw [mkS_size]
    have := parent_le (bl s)
    rw [bl_length] at this
    unfold parent
    omega
   have h4 := fun W hW => at_calls tb A M T (mkS (parent (bl s))) W hW hps
   rw [bl_mkS, hsp] at h4
   unfold ptr at h4
   replace h4 := hid h4
   clear hn hr hnil hps
   replace hR := hid hR
   replace hLk := hid hLk
   replace hsp := hid hsp
   replace hsb := hid hsb
   go_enter Tryz.func79, Tryz.ntmps79
   go_wp2_with fail
   refine (h1.out _).mono ?_
   rintro e w1 ⟨rfl, hB1⟩
   go_wp2_with fail
   refine (h2.out _).mono ?_
   rintro e w1' ⟨rfl, rfl⟩
   go_wp2_with fail
   refine (h4.out w1 (hR.out.below hB1)).mono ?_
   rintro e w2 ⟨rfl, hB2⟩
   have hB := below_step hB1 hB2
   have hR2 := hR.out.below hB
   cases hc : T.at (split (bl s)).dropLast with
   | none =>
    have hL := hLk.out
    rw [hc] at hL
    subst hL
    rw [optPtr_none]
    clear hLk
    replace hR2 := hid hR2
    go_wp2
    go_ret3
    exact ⟨rfl, hB⟩
   | some d =>
    have hL := hLk.out
    rw [hc] at hL
    simp only at hL
    have hm := hR2.inv.at_some.1 hc
    obtain ⟨dv, _, hnode⟩ := hR2.node d ⟨_, hm⟩
    have c0 : w2.cell? ⟨A d, 0, none⟩ = some (.int .i64 (T.nd d).kind) := cell_of hnode rfl
    have c11 : w2.cell? ⟨A d, 11, none⟩ = some (kidsV (T.nd d) (M d)) := cell_of hnode rfl
    rw [optPtr_some]
    clear hLk
    by_cases hk : (T.nd d).kind = 2
    ·rw [if_pos hk] at hL
     subst hL
     have hlk := fun n => (hR2.drewN n).look hm hk (base (bl s))
     rw [hsb.out] at hlk
     rw [kidsV, if_pos hk] at c11
     rw [hk] at c0
     generalize hq : T.at (split (bl s)) = q at hlk
     replace hq := hid hq
     clear hm hnode hc hk
     replace hR2 := hid hR2
     go_wp2_with fail
     go_quiet (first | (go_at_call 84; refine Calls.quiet_of_same (((h3.out _)).mono fun e w' hh => ⟨hh.1, hh.2.symm⟩)))
     go_wp2
     go_ret3
     exact ⟨by rw [hq.out]; rfl, below_drewN hB _⟩
    ·rw [if_neg hk] at hL
     subst hL
     have hk2 : ((T.nd d).kind == 2) = false := by simpa using hk
     clear hm hnode hc
     replace hR2 := hid hR2
     go_wp2
     go_ret3
     exact ⟨rfl, hB⟩
 ·have hr2 : right (bl s) = false := by simpa using hr
  rw [hr2] at h1
  rw [if_neg hr] at hLk
  subst hLk
  clear hn hr hr2
  replace hR := hid hR
  go_enter Tryz.func79, Tryz.ntmps79
  go_wp2_with fail
  refine (h1.out _).mono ?_
  rintro e w1 ⟨rfl, hB1⟩
  go_wp2
  go_ret3
  exact ⟨rfl, hB1⟩
end Go.Proofs.YtcjlfkklpghjbaaGreat

namespace Go.Proofs.YtcjlfkklpghjbaaGreat
open Go.RowKit
set_option maxHeartbeats 1000000 in
set_option maxRecDepth 100000 in
theorem there_calls (tb : Nat) (A M : Nat → Nat) (T : Fs) (s : ByteArray) (w : World) (hR : Rep w tb A M T) (hs : s.size ≤ 16777216) :
  Calls Tryz.prog 83 #[ptr tb, .string s] w fun e w' => e = .returned (.tuple #[optPtr A (T.there (bl s)).1, optPtr A (T.there (bl s)).2.1, .int .i64 (T.there (bl s)).2.2]) ∧ Below w.heap.size w w' := by
 have h1 := look_calls tb A M T s w hR hs
 unfold Fs.there
 generalize T.look (bl s) = r at *
 obtain ⟨n, d, e⟩ := r
 dsimp only at *
 unfold ptr at *
 replace h1 := hid h1
 clear hR
 cases n with
 | none =>
  by_cases he : e = 0
  ·subst he
   go_enter Tryz.func83, Tryz.ntmps83
   go_wp2_with fail
   refine h1.out.mono ?_
   rintro e w1 ⟨rfl, hB1⟩
   rw [optPtr_none]
   go_wp2
   go_ret3
   exact ⟨rfl, hB1⟩
  ·have he2 : (e == 0) = false := by simpa using he
   have he3 : (if e = 0 ∧ (none : Option Nat) = none then (10 : Int) else e) = e := if_neg (fun h => he h.1)
   rw [he3]
   clear he3
   go_enter Tryz.func83, Tryz.ntmps83
   go_wp2_with fail
   refine h1.out.mono ?_
   rintro e w1 ⟨rfl, hB1⟩
   rw [optPtr_none]
   go_wp2
   go_ret3
   exact ⟨rfl, hB1⟩
 | some n =>
  have he3 : (if e = 0 ∧ some n = none then (10 : Int) else e) = e := if_neg (fun h => by cases h.2)
  rw [he3]
  clear he3
  by_cases he : e = 0
  ·subst he
   go_enter Tryz.func83, Tryz.ntmps83
   go_wp2_with fail
   refine h1.out.mono ?_
   rintro e w1 ⟨rfl, hB1⟩
   rw [optPtr_some]
   go_wp2
   go_ret3
   exact ⟨rfl, hB1⟩
  ·have he2 : (e == 0) = false := by simpa using he
   go_enter Tryz.func83, Tryz.ntmps83
   go_wp2_with fail
   refine h1.out.mono ?_
   rintro e w1 ⟨rfl, hB1⟩
   rw [optPtr_some]
   go_wp2
   go_ret3
   exact ⟨rfl, hB1⟩
set_option maxHeartbeats 1000000 in
set_option maxRecDepth 100000 in
theorem fresh_calls (tb : Nat) (A M : Nat → Nat) (T : Fs) (s : ByteArray) (w : World) (hR : Rep w tb A M T) (hs : s.size ≤ 16777216) :
  Calls Tryz.prog 77 #[ptr tb, .string s] w fun e w' => e = .returned (.tuple #[optPtr A (T.fresh (bl s)).1, .int .i64 (T.fresh (bl s)).2]) ∧ Below w.heap.size w w' := by
 have h1 := look_calls tb A M T s w hR hs
 unfold Fs.fresh
 generalize T.look (bl s) = r at *
 obtain ⟨n, d, e⟩ := r
 dsimp only at *
 unfold ptr at *
 replace h1 := hid h1
 clear hR
 cases n with
 | some n =>
  by_cases he : e = 0
  ·subst he
   have he3 : (if (0 : Int) = 0 ∧ some n ≠ none then (11 : Int) else 0) = 11 := if_pos ⟨rfl, by simp⟩
   rw [he3]
   clear he3
   go_enter Tryz.func77, Tryz.ntmps77
   go_wp2_with fail
   refine h1.out.mono ?_
   rintro e w1 ⟨rfl, hB1⟩
   rw [optPtr_some]
   go_wp2
   go_ret2
   exact ⟨rfl, hB1⟩
  ·have he2 : (e == 0) = false := by simpa using he
   have he3 : (if e = 0 ∧ some n ≠ none then (11 : Int) else e) = e := if_neg (fun h => he h.1)
   rw [he3]
   clear he3
   go_enter Tryz.func77, Tryz.ntmps77
   go_wp2_with fail
   refine h1.out.mono ?_
   rintro e w1 ⟨rfl, hB1⟩
   rw [optPtr_some]
   go_wp2
   go_ret2
   exact ⟨rfl, hB1⟩
 | none =>
  have he3 : (if e = 0 ∧ (none : Option Nat) ≠ none then (11 : Int) else e) = e := if_neg (fun h => h.2 rfl)
  rw [he3]
  clear he3
  by_cases he : e = 0
  ·subst he
   go_enter Tryz.func77, Tryz.ntmps77
   go_wp2_with fail
   refine h1.out.mono ?_
   rintro e w1 ⟨rfl, hB1⟩
   rw [optPtr_none]
   go_wp2
   go_ret2
   exact ⟨rfl, hB1⟩
  ·have he2 : (e == 0) = false := by simpa using he
   go_enter Tryz.func77, Tryz.ntmps77
   go_wp2_with fail
   refine h1.out.mono ?_
   rintro e w1 ⟨rfl, hB1⟩
   rw [optPtr_none]
   go_wp2
   go_ret2
   exact ⟨rfl, hB1⟩
set_option maxRecDepth 100000 in
theorem file_calls (tb : Nat) (A M : Nat → Nat) (T : Fs) (i : Nat) (w : World) (hR : Rep w tb A M T) (hi : T.Live i) :
  Calls Tryz.prog 80 #[ptr (A i)] w fun e w' => e = .returned (.int .i64 (notFile (T.nd i))) ∧ w = w' := by
 obtain ⟨dv, _, hnode⟩ := hR.node i hi
 have c0 : w.cell? ⟨A i, 0, none⟩ = some (.int .i64 (T.nd i).kind) := cell_of hnode rfl
 unfold notFile ptr
 clear hR hnode
 by_cases h2 : (T.nd i).kind = 2
 ·rw [h2] at c0 ⊢
  clear h2
  go_enter Tryz.func80, Tryz.ntmps80
  go_wp2
  go_ret
  exact ⟨rfl, rfl⟩
 ·have h22 : ((T.nd i).kind == 2) = false := by simpa using h2
  rw [if_neg h2]
  by_cases h3 : (T.nd i).kind = 3
  ·rw [h3] at c0 ⊢
   clear h2 h3 h22
   go_enter Tryz.func80, Tryz.ntmps80
   go_wp2
   go_ret
   exact ⟨rfl, rfl⟩
  ·have h33 : ((T.nd i).kind == 3) = false := by simpa using h3
   rw [if_neg h3]
   generalize (T.nd i).kind = k at *
   go_enter Tryz.func80, Tryz.ntmps80
   go_wp2
   go_ret
   exact ⟨rfl, rfl⟩
def statCells (s : St) : List Value :=
  [.int .i64 s.kind, .int .i64 s.ino, .int .i64 s.size, .int .i64 s.links, .int .i64 s.mt.mode, .int .i64 s.mt.sec, .int .i64 s.mt.nano, .int .i64 s.mt.uid, .int .i64 s.mt.gid, .string (mkS s.target)]
def statV (s : St) : Value := .agg (statCells s).toArray
end Go.Proofs.YtcjlfkklpghjbaaGreat

namespace Go.Proofs.YtcjlfkklpghjbaaGreat
open Go.RowKit
def mtV (m : Mt) : Value := .agg (mtCells m).toArray
set_option maxHeartbeats 1000000 in
set_option maxRecDepth 100000 in
theorem check_calls (m : Mt) (w : World) :
  Calls Tryz.prog 108 #[mtV m] w fun e w' => e = .returned (.int .i64 (if metaOk m then 0 else 2)) ∧ Below w.heap.size w w' := by
 obtain ⟨a1, a2, a3, a4, a5⟩ := m
 generalize hr : (if metaOk ⟨a1, a2, a3, a4, a5⟩ then (0 : Int) else 2) = r
 replace hr := hid hr
 unfold mtV mtCells
 dsimp only
 have hB : Below w.heap.size w (w.alloc (.cells #[.int .i64 a1, .int .i64 a2, .int .i64 a3, .int .i64 a4, .int .i64 a5] 41)) := (Below.refl _ _).alloc (Nat.le_refl _) _
 replace hB := hid hB
 go_enter Tryz.func108, Tryz.ntmps108
 go_wp2
 all_goals
  go_ret
  refine ⟨ret_int ?_, hB.out⟩
  have := hr.out
  simp only [metaOk, within, Bool.and_eq_true, decide_eq_true_eq] at this
  split at this <;> omega
set_option maxHeartbeats 1000000 in
set_option maxRecDepth 100000 in
theorem may_calls (tb : Nat) (s : ByteArray) (m : Mt) (w : World) (hs : s.size ≤ 16777216) :
  Calls Tryz.prog 76 #[ptr tb, .string s, mtV m] w fun e w' => e = .returned (.int .i64 (if right (bl s) then if metaOk m then 0 else 2 else 9)) ∧ Below w.heap.size w w' := by
 have h1 := fun W => right_calls s W hs
 have h2 := fun W => check_calls m W
 generalize right (bl s) = r at *
 generalize metaOk m = k at *
 unfold ptr
 obtain ⟨a1, a2, a3, a4, a5⟩ := m
 unfold mtV mtCells at *
 dsimp only at *
 have hB : Below w.heap.size w (w.alloc (.cells #[.int .i64 a1, .int .i64 a2, .int .i64 a3, .int .i64 a4, .int .i64 a5] 41)) := (Below.refl _ _).alloc (Nat.le_refl _) _
 have hblk : (w.alloc (.cells #[.int .i64 a1, .int .i64 a2, .int .i64 a3, .int .i64 a4, .int .i64 a5] 41)).heap[w.heap.size]? = some (.cells #[.int .i64 a1, .int .i64 a2, .int .i64 a3, .int .i64 a4, .int .i64 a5] 41) := (MapKept.heap_alloc w _).1
 replace h1 := hid h1
 replace h2 := hid h2
 replace hblk := hid hblk
 replace hB := hid hB
 go_enter Tryz.func76, Tryz.ntmps76
 go_wp2_with fail
 refine (h1.out _).mono ?_
 rintro e w1 ⟨rfl, hB1⟩
 cases r with
 | false =>
  go_wp2
  go_ret
  exact ⟨rfl, below_step hB.out hB1⟩
 | true =>
  have hblk1 : w1.heap[w.heap.size]? = some (.cells #[.int .i64 a1, .int .i64 a2, .int .i64 a3, .int .i64 a4, .int .i64 a5] 41) := (hB1.block _ (Array.getElem?_eq_some_iff.1 hblk.out).1).trans hblk.out
  have d0 := cell_of (j := 0) hblk1 rfl
  have d1 := cell_of (j := 1) hblk1 rfl
  have d2 := cell_of (j := 2) hblk1 rfl
  have d3 := cell_of (j := 3) hblk1 rfl
  have d4 := cell_of (j := 4) hblk1 rfl
  clear hblk1
  go_wp2_with fail
  refine (h2.out _).mono ?_
  rintro e w2 ⟨rfl, hB2⟩
  cases k with
  | false =>
   go_wp2
   go_ret
   exact ⟨rfl, below_step (below_step hB.out hB1) hB2⟩
  | true =>
   go_wp2
   go_ret
   exact ⟨rfl, below_step (below_step hB.out hB1) hB2⟩
end Go.Proofs.YtcjlfkklpghjbaaGreat

namespace Go.Proofs.YtcjlfkklpghjbaaGreat
open Go.RowKit
theorem Rep.cells {w : World} {tb : Nat} {A M : Nat → Nat} {T : Fs} (h : Rep w tb A M T) {i : Nat} (hi : T.Live i) :
  ∃ dv, Dat w dv (T.nd i).data ∧ w.cell? ⟨A i, 0, none⟩ = some (.int .i64 (T.nd i).kind) ∧ w.cell? ⟨A i, 1, none⟩ = some (.int .i64 i) ∧ w.cell? ⟨A i, 2, none⟩ = some (.int .i64 0) ∧ w.cell? ⟨A i, 3, none⟩ = some (.int .i64 (T.nd i).links) ∧
   w.cell? ⟨A i, 4, none⟩ = some (.int .i64 (T.nd i).mt.mode) ∧ w.cell? ⟨A i, 5, none⟩ = some (.int .i64 (T.nd i).mt.sec) ∧ w.cell? ⟨A i, 6, none⟩ = some (.int .i64 (T.nd i).mt.nano) ∧ w.cell? ⟨A i, 7, none⟩ = some (.int .i64 (T.nd i).mt.uid) ∧ w.cell? ⟨A i, 8, none⟩ = some (.int .i64 (T.nd i).mt.gid) ∧
   w.cell? ⟨A i, 9, none⟩ = some (.string (mkS (T.nd i).target)) ∧ w.cell? ⟨A i, 10, none⟩ = some dv ∧ w.cell? ⟨A i, 11, none⟩ = some (kidsV (T.nd i) (M i)) := by
 obtain ⟨dv, h1, h2⟩ := h.node i hi
 exact ⟨dv, h1, cell_of h2 rfl, cell_of h2 rfl, cell_of h2 rfl, cell_of h2 rfl, cell_of h2 rfl, cell_of h2 rfl, cell_of h2 rfl, cell_of h2 rfl, cell_of h2 rfl, cell_of h2 rfl, cell_of h2 rfl, cell_of h2 rfl⟩
set_option maxHeartbeats 2000000 in
set_option maxRecDepth 100000 in
theorem tell_calls (tb : Nat) (A M : Nat → Nat) (T : Fs) (p : Pt) (i : Nat) (w : World) (hR : Rep w tb A M T) (hp : (p, i) ∈ T.names) :
  Calls Tryz.prog 106 #[ptr (A i)] w fun e w' => e = .returned (statV (T.tell p i)) ∧ Below w.heap.size w w' := by
 obtain ⟨dv, hD, c0, c1, c2, c3, c4, c5, c6, c7, c8, c9, c10, c11⟩ := hR.cells ⟨p, hp⟩
 have hki := hR.inv.kinds p i hp
 have hkm := hR.kids p i hp
 obtain ⟨dA, dc, rfl, hd1, hd2⟩ := hD.shape
 unfold maxLen at hd2
 unfold ptr statV statCells Fs.tell
 dsimp only
 have hts := mkS_size (T.nd i).target
 have hlt : A i < w.heap.size := hR.lt (Or.inr (Or.inl ⟨i, ⟨p, hp⟩, rfl⟩))
 have hlt2 : A i < w.heap.size + 1 := by omega
 have hne1 : A i ≠ w.heap.size := by omega
 have hne2 : A i ≠ w.heap.size + 1 := by omega
 have hne3 : w.heap.size + 1 ≠ A i := by omega
 replace hR := hid hR
 replace hD := hid hD
 have hB : ∀ o o', Below w.heap.size w ((w.alloc o).alloc o') := fun o o' => ((Below.refl _ _).alloc (Nat.le_refl _) _).alloc (by simp) _
 have hblk : ∀ C o' t, ((w.alloc (.cells C t)).alloc o').heap[w.heap.size]? = some (.cells C t) := fun C o' t => by
  rw [(MapKept.heap_alloc _ _).2 _ (by simp)]
  exact (MapKept.heap_alloc w _).1
 replace hblk := hid hblk
 replace hB := hid hB
 unfold Fs.size
 rcases hki with hk | hk | hk
 ·rw [hk] at c0 ⊢
  rw [if_pos rfl]
  clear hkm hk hts
  generalize (T.nd i).data.length = n at *
  generalize (T.nd i).target = tg at *
  generalize (T.nd i).mt = m at *
  obtain ⟨m1, m2, m3, m4, m5⟩ := m
  generalize (T.nd i).links = lk at *
  dsimp only at *
  go_enter Tryz.func106, Tryz.ntmps106
  go_wp2
  refine bodyPost_ret (results_cell_row rfl _ _ w.heap.size _ _ _ _ rfl (hblk.out _ _ _) Tryz.underlying84 rfl (by kernel_rfl)) rfl ?_
  exact ⟨rfl, hB.out _ _⟩
 ·have hkm2 := hkm hk
  have hln : ∀ o o' ty, (Builtin.len_ #[85] ty #[.map (some (M i))]).run Tryz.prog ((w.alloc o).alloc o') = .ok (.int .i64 (T.kids p).length) ((w.alloc o).alloc o') := fun o o' ty => by
   have h3 : MapIs ((w.alloc o).alloc o') (M i) (entries A (T.kids p)) := (hkm2.kept (World.grownBy_alloc w o none) (by simp)).kept (World.grownBy_alloc _ o' none) (by simp)
   have h4 := h3.len under_kids ty
   rw [h4]
   simp [entries]
  rw [kidsV, if_pos hk] at c11
  rw [hk] at c0 ⊢
  rw [if_neg (by decide), if_pos rfl]
  clear hkm hkm2 hk hts
  generalize (T.nd i).data.length = n at *
  generalize (T.nd i).target = tg at *
  generalize (T.kids p).length = kn at *
  generalize (T.nd i).mt = m at *
  obtain ⟨m1, m2, m3, m4, m5⟩ := m
  generalize (T.nd i).links = lk at *
  dsimp only at *
  go_enter Tryz.func106, Tryz.ntmps106
  go_wp2
  refine bodyPost_ret (results_cell_row rfl _ _ w.heap.size _ _ _ _ rfl (hblk.out _ _ _) Tryz.underlying84 rfl (by kernel_rfl)) rfl ?_
  exact ⟨rfl, hB.out _ _⟩
 ·rw [hk] at c0 ⊢
  rw [if_neg (by decide), if_neg (by decide)]
  clear hkm hk
  generalize (T.nd i).target = tg at *
  generalize (T.nd i).mt = m at *
  obtain ⟨m1, m2, m3, m4, m5⟩ := m
  generalize (T.nd i).links = lk at *
  dsimp only at *
  go_enter Tryz.func106, Tryz.ntmps106
  go_wp2
  refine bodyPost_ret (results_cell_row rfl _ _ w.heap.size _ _ _ _ rfl (hblk.out _ _ _) Tryz.underlying84 rfl (by kernel_rfl)) rfl ?_
  exact ⟨rfl, hB.out _ _⟩
end Go.Proofs.YtcjlfkklpghjbaaGreat

namespace Go.Proofs.YtcjlfkklpghjbaaGreat
open Go.RowKit
theorem byteCells_ints (l : Bytes) : byteCells l = (l.map fun b => (b.toNat : Int)).map (Value.int .u8) := by simp [byteCells]
/-- v reads as the bytes l. -/
def RdB (W : World) (v : Value) (l : Bytes) : Prop :=
  ∃ A c, v = .slice A l.length c ∧ l.length ≤ c ∧ c ≤ maxLen ∧ ∀ j (h : j < l.length), ∃ g o, A = some ⟨g, o, none⟩ ∧ W.cell? ⟨g, o + j, none⟩ = some (.int .u8 (l[j]).toNat)
theorem Byts.rdb {B : Nat} {W : World} {v : Value} {l : Bytes} (h : Byts B W v l) : RdB W v l := by
 rcases h.own with ⟨h1, ⟨rfl, h2⟩ | ⟨g, cap, cur, rfl, h2, h3, h4, h5, h6, h7⟩⟩
 ·exact ⟨none, 0, by rw [h2], by omega, by unfold maxLen; omega, fun j hj => by omega⟩
 ·refine ⟨_, cap, rfl, h4, h5, fun j hj => ⟨g, 0, rfl, ?_⟩⟩
  rw [Nat.zero_add]
  refine cell_of h3 ?_
  have hget : cur[j]? = (byteCells l)[j]? := by rw [← h7, List.getElem?_take_of_lt (by omega), Array.getElem?_toList]
  rw [hget]
  simp [byteCells, hj]
theorem Dat.rdb {W : World} {v : Value} {l : Bytes} (h : Dat W v l) : RdB W v l := by
 rcases h with ⟨rfl, rfl⟩ | ⟨g, c, cur, rfl, h2, h3, h4, h5, h6⟩
 ·exact ⟨none, 0, rfl, Nat.le_refl _, Nat.zero_le _, fun j hj => by simp at hj⟩
 ·refine ⟨_, c, rfl, h3, h4, fun j hj => ⟨g, 0, rfl, ?_⟩⟩
  rw [Nat.zero_add]
  refine cell_of h2 ?_
  have hget : cur[j]? = (byteCells l)[j]? := by rw [← h6, List.getElem?_take_of_lt (by omega), Array.getElem?_toList]
  rw [hget]
  simp [byteCells, hj]
theorem RdB.below {W W' : World} {v : Value} {l : Bytes} (h : RdB W v l) (hb : Below W.heap.size W W') : RdB W' v l := by
 obtain ⟨A, c, h1, h2, h3, h4⟩ := h
 refine ⟨A, c, h1, h2, h3, fun j hj => ?_⟩
 obtain ⟨g, o, e, hc⟩ := h4 j hj
 refine ⟨g, o, e, ?_⟩
 have hlt : g < W.heap.size := by
  rcases Nat.lt_or_ge g W.heap.size with h | h
  ·exact h
  ·simp [World.cell?, Array.getElem?_eq_none h] at hc
 simpa [World.cell?, hb.block g hlt] using hc
theorem bclone_rd (v : Value) (l : Bytes) (w : World) (hv : RdB w v l) (hl : l.length ≤ 140737488355328) :
  Calls Tryz.prog 81 #[v] w fun e w' => (∃ v', e = .returned v' ∧ Byts w.heap.size w' v' l) ∧ Below w.heap.size w w' := by
 obtain ⟨A, c, rfl, h2, h3, h4⟩ := hv
 cases A with
 | none =>
  have hnil : l = [] := by
   cases l with
   | nil => rfl
   | cons x xs => obtain ⟨g, o, h, _⟩ := h4 0 (by simp); cases h
  refine (sh_bytes_Clone_nil l.length c w).mono ?_
  rintro e w' ⟨rfl, rfl⟩
  subst hnil
  exact ⟨⟨_, rfl, World.ownsRow_nil _ _ _ _⟩, Below.refl _ _⟩
 | some a =>
  have hc : ∀ i, i < l.length → w.cell? (a.add i) = some (.int .u8 ((l.map fun b => (b.toNat : Int)).getD i 0)) := by
   intro i hi
   obtain ⟨g, o, e, hcc⟩ := h4 i hi
   cases e
   have e1 : (⟨g, o, none⟩ : Addr).add i = ⟨g, o + i, none⟩ := by
    unfold Addr.add
    split
    ·rename_i h0; rw [h0]; simp
    ·simp
   rw [e1, hcc]
   simp [hi]
  refine (sh_bytes_Clone_at a l.length c (l.map fun b => (b.toNat : Int)) w (by simp) hl hc).mono ?_
  rintro e w' ⟨v', rfl, hO, _, hB⟩
  rw [← byteCells_ints] at hO
  exact ⟨⟨v', rfl, hO⟩, hB⟩
theorem below_set {b : Nat} {a w : World} {k : Nat} {u : Value} (h : Below b a w) : Below b a (w.setCell ⟨b, k, none⟩ u) := h.setCell (Nat.le_refl b) u
theorem Byts.low {B C : Nat} {w : World} {v : Value} {l : Bytes} (h : Byts B w v l) (hle : C ≤ B) : Byts C w v l := own_low h hle
set_option maxHeartbeats 1000000 in
set_option maxRecDepth 100000 in
theorem stat_calls (tb : Nat) (A M : Nat → Nat) (T : Fs) (s : ByteArray) (w : World) (hR : Rep w tb A M T) (hs : s.size ≤ 16777216) :
  Calls Tryz.prog 63 #[ptr tb, .string s] w fun e w' => e = .returned (.tuple #[statV (T.stat (bl s)).1, .int .i64 (T.stat (bl s)).2]) ∧ Below w.heap.size w w' := by
 have h1 := fun W hW => there_calls tb A M T s W hW hs
 have hok := hR.inv.there_ok (s := bl s)
 unfold Fs.stat
 generalize hth : T.there (bl s) = r at *
 obtain ⟨n, d, e⟩ := r
 dsimp only at *
 have hB0 : ∀ o, Below w.heap.size w (w.alloc o) := fun o => (Below.refl _ _).alloc (Nat.le_refl _) _
 unfold ptr at h1 ⊢
 replace h1 := hid h1
 replace hR := hid hR
 replace hth := hid hth
 have hsz : ∀ o, (w.alloc o).heap.size = w.heap.size + 1 := by simp
 replace hsz := hid hsz
 by_cases he : e = 0
 ·subst he
  obtain ⟨_, i, rfl, hm, _⟩ := hok rfl
  clear hok
  rw [if_pos rfl]
  dsimp only
  have h2 := fun W hW => tell_calls tb A M T (split (bl s)) i W hW hm
  generalize T.tell (split (bl s)) i = st at *
  unfold ptr at h2
  replace h2 := hid h2
  obtain ⟨k1, k2, k3, k4, ⟨k5, k6, k7, k8, k9⟩, k10⟩ := st
  unfold statV statCells at *
  dsimp only at *
  go_enter Tryz.func63, Tryz.ntmps63
  go_wp2_with fail
  refine (h1.out _ (hR.out.below (hB0 _))).mono ?_
  rintro e w1 ⟨rfl, hB1⟩
  rw [optPtr_some]
  go_wp2_with fail
  refine (h2.out w1 ((hR.out.below (hB0 _)).below hB1)).mono ?_
  rintro e w2 ⟨rfl, hB2⟩
  have hB12 := below_step hB1 hB2
  have hblk := (hB12.block w.heap.size (by rw [hsz.out]; omega)).trans (MapKept.heap_alloc w _).1
  have hBf := below_step (hB0 _) hB12
  have hsz2 := hB12.size
  rw [hsz.out] at hsz2
  clear hB0 hB1 hB12
  generalize hw2 : w2 = w3 at *
  clear hw2
  have hf : ∀ k, w3.frozen? ⟨w.heap.size, k, none⟩ = false := fun k => by simp [World.frozen?, hblk]
  have d0 := cell_of (j := 0) hblk rfl
  have d1 := cell_of (j := 1) hblk rfl
  have d2 := cell_of (j := 2) hblk rfl
  have d3 := cell_of (j := 3) hblk rfl
  have d4 := cell_of (j := 4) hblk rfl
  have d5 := cell_of (j := 5) hblk rfl
  have d6 := cell_of (j := 6) hblk rfl
  have d7 := cell_of (j := 7) hblk rfl
  have d8 := cell_of (j := 8) hblk rfl
  have d9 := cell_of (j := 9) hblk rfl
  replace hblk := hid hblk
  go_wp2
  refine bodyPost_ret (v := .tuple #[.agg #[.int .i64 k1, .int .i64 k2, .int .i64 k3, .int .i64 k4, .int .i64 k5, .int .i64 k6, .int .i64 k7, .int .i64 k8, .int .i64 k9, .string (mkS k10)], .int .i64 0]) ?_ rfl ⟨rfl, ?_⟩
  ·rw [results_cell_tmp rfl]
   go_simp
  ·iterate 10 refine below_set ?_
   exact hBf
 ·have he2 : (e != 0) = true := by simpa using he
  rw [if_neg he]
  clear hok he
  unfold statV statCells noSt noMt
  dsimp only
  go_enter Tryz.func63, Tryz.ntmps63
  go_wp2_with fail
  refine (h1.out _ (hR.out.below (hB0 _))).mono ?_
  rintro e w1 ⟨rfl, hB1⟩
  have hblk := (hB1.block w.heap.size (by rw [hsz.out]; omega)).trans (MapKept.heap_alloc w _).1
  have hBf := below_step (hB0 _) hB1
  have hsz2 := hB1.size
  rw [hsz.out] at hsz2
  clear hB0 hB1
  have hf : ∀ k, w1.frozen? ⟨w.heap.size, k, none⟩ = false := fun k => by simp [World.frozen?, hblk]
  have d0 := cell_of (j := 0) hblk rfl
  have d1 := cell_of (j := 1) hblk rfl
  have d2 := cell_of (j := 2) hblk rfl
  have d3 := cell_of (j := 3) hblk rfl
  have d4 := cell_of (j := 4) hblk rfl
  have d5 := cell_of (j := 5) hblk rfl
  have d6 := cell_of (j := 6) hblk rfl
  have d7 := cell_of (j := 7) hblk rfl
  have d8 := cell_of (j := 8) hblk rfl
  have d9 := cell_of (j := 9) hblk rfl
  replace hblk := hid hblk
  go_wp2
  refine bodyPost_ret (v := .tuple #[.agg #[.int .i64 0, .int .i64 0, .int .i64 0, .int .i64 0, .int .i64 0, .int .i64 0, .int .i64 0, .int .i64 0, .int .i64 0, .string (mkS [])], .int .i64 e]) ?_ rfl ⟨rfl, ?_⟩
  ·rw [results_cell_tmp rfl]
   go_simp
   rfl
  ·iterate 10 refine below_set ?_
   exact hBf
end Go.Proofs.YtcjlfkklpghjbaaGreat

namespace Go.Proofs.YtcjlfkklpghjbaaGreat
open Go.RowKit
theorem rep_data {w : World} {tb : Nat} {A M : Nat → Nat} {T : Fs} (h : Rep w tb A M T) {i : Nat} (hi : T.Live i) :
  ∃ dv, Dat w dv (T.nd i).data ∧ w.cell? ⟨A i, 10, none⟩ = some dv ∧ (T.nd i).data.length ≤ 65536 := by
 obtain ⟨p, hp⟩ := hi
 obtain ⟨dv, h1, h2⟩ := h.node i ⟨p, hp⟩
 exact ⟨dv, h1, cell_of h2 rfl, h.inv.data p i hp⟩
set_option maxHeartbeats 1000000 in
set_option maxRecDepth 100000 in
theorem read_calls (tb : Nat) (A M : Nat → Nat) (T : Fs) (s : ByteArray) (w : World) (hR : Rep w tb A M T) (hs : s.size ≤ 16777216) :
  Calls Tryz.prog 65 #[ptr tb, .string s] w fun e w' => (∃ v, e = .returned (.tuple #[v, .int .i64 (T.read (bl s)).2]) ∧ Byts w.heap.size w' v (T.read (bl s)).1) ∧ Below w.heap.size w w' := by
 have h1 := fun W hW => there_calls tb A M T s W hW hs
 have hok := hR.inv.there_ok (s := bl s)
 unfold Fs.read Fs.file
 generalize hth : T.there (bl s) = r at *
 obtain ⟨n, d, e⟩ := r
 dsimp only at *
 unfold ptr at h1 ⊢
 replace h1 := hid h1
 replace hR := hid hR
 replace hth := hid hth
 by_cases he : e = 0
 ·subst he
  obtain ⟨_, i, rfl, hm, _⟩ := hok rfl
  clear hok
  rw [if_pos rfl]
  dsimp only
  have hl : T.Live i := ⟨_, hm⟩
  have h2 := fun W hW => file_calls tb A M T i W hW hl
  unfold ptr at h2
  by_cases hz : notFile (T.nd i) = 0
  ·rw [hz] at h2
   rw [if_pos hz]
   dsimp only
   clear hz
   replace h2 := hid h2
   go_enter Tryz.func65, Tryz.ntmps65
   go_wp2_with fail
   refine (h1.out _ hR.out).mono ?_
   rintro e w1 ⟨rfl, hB1⟩
   rw [optPtr_some]
   have hR1 := hR.out.below hB1
   go_wp2_with fail
   refine (h2.out _ hR1).mono ?_
   rintro e w2 ⟨rfl, rfl⟩
   obtain ⟨dv, hD, c10, hdl⟩ := rep_data hR1 hl
   have h3 := bclone_rd dv (T.nd i).data w1 hD.rdb (by omega)
   replace h3 := hid h3
   replace hR1 := hid hR1
   replace hD := hid hD
   replace hdl := hid hdl
   go_wp2_with fail
   refine h3.out.mono ?_
   rintro e w2 ⟨⟨v, rfl, hO⟩, hB2⟩
   go_wp2
   go_ret2
   exact ⟨⟨v, rfl, hO.low hB1.size⟩, below_step hB1 hB2⟩
  ·rw [if_neg hz]
   generalize notFile (T.nd i) = nf at *
   have hz2 : (nf != 0) = true := by simpa using hz
   clear hz
   replace h2 := hid h2
   go_enter Tryz.func65, Tryz.ntmps65
   go_wp2_with fail
   refine (h1.out _ hR.out).mono ?_
   rintro e w1 ⟨rfl, hB1⟩
   rw [optPtr_some]
   have hR1 := hR.out.below hB1
   go_wp2_with fail
   refine (h2.out _ hR1).mono ?_
   rintro e w2 ⟨rfl, rfl⟩
   replace hR1 := hid hR1
   go_wp2
   go_ret2
   exact ⟨⟨_, rfl, World.ownsRow_nil _ _ _ _⟩, hB1⟩
 ·have he2 : (e == 0) = false := by simpa using he
  have he3 : (e != 0) = true := by simpa using he
  simp only [he, if_false]
  clear hok he
  go_enter Tryz.func65, Tryz.ntmps65
  go_wp2_with fail
  refine (h1.out _ hR.out).mono ?_
  rintro e w1 ⟨rfl, hB1⟩
  go_wp2
  go_ret2
  exact ⟨⟨_, rfl, World.ownsRow_nil _ _ _ _⟩, hB1⟩
end Go.Proofs.YtcjlfkklpghjbaaGreat

namespace Go.Proofs.YtcjlfkklpghjbaaGreat
open Go.RowKit Go.Lib
set_option linter.unusedVariables false
set_option linter.unusedSimpArgs false
/-- The three outcomes of a comparison, in the walk's words. -/
theorem cmp_cases (a b : ByteArray) :
  (cmpB (bl a) (bl b) = -1 ∧ Op.bytesLess a.toList b.toList = true) ∨
  (cmpB (bl a) (bl b) = 0 ∧ Op.bytesLess a.toList b.toList = false ∧ (a.toList == b.toList) = true) ∨
  (cmpB (bl a) (bl b) = 1 ∧ Op.bytesLess a.toList b.toList = false ∧ (a.toList == b.toList) = false) := by
 rw [toList_bl, toList_bl, less_cmp]
 rcases cmpB_range (bl a) (bl b) with h | h | h
 ·exact .inl ⟨h, by simp [h]⟩
 ·exact .inr (.inl ⟨h, by simp [h], by rw [cmpB_eq h]; simp⟩)
 ·refine .inr (.inr ⟨h, by simp [h], ?_⟩)
  rw [beq_eq_false_iff_ne]
  intro e
  rw [e, cmpB_self] at h; simp at h
set_option maxHeartbeats 1000000 in
set_option maxRecDepth 100000 in
theorem compare_calls (a b : ByteArray) (w : World) :
  Calls Tryz.prog 120 #[.string a, .string b] w fun e w' => e = .returned (.int .i64 (cmpB (bl a) (bl b))) ∧ w = w' := by
 have h1 : (a.toList == a.toList) = true := by simp
 have h2 : (b.toList == b.toList) = true := by simp
 rcases cmp_cases a b with ⟨h, h3⟩ | ⟨h, h3, h4⟩ | ⟨h, h3, h4⟩
 all_goals
  rw [h]
  clear h
  go_enter Tryz.func120, Tryz.ntmps120
  go_wp2
  go_ret
  exact ⟨rfl, rfl⟩
theorem compare_mk (a b : Bytes) (w : World) :
  Calls Tryz.prog 120 #[.string (mkS a), .string (mkS b)] w fun e w' => e = .returned (.int .i64 (cmpB a b)) ∧ w = w' := by
 have h := compare_calls (mkS a) (mkS b) w
 rwa [bl_mkS, bl_mkS] at h
theorem cmpL_cons (a b : Bytes) (x y : List Bytes) : cmpL (a :: x) (b :: y) = if cmpB a b ≠ 0 then cmpB a b else cmpL x y := rfl
set_option maxHeartbeats 1000000 in
set_option maxRecDepth 100000 in
theorem slcompare_calls (v1 v2 : Value) (x y : List Bytes) (w : World) (h1 : Rd w v1 x) (h2 : Rd w v2 y) :
  Calls Tryz.prog 104 #[v1, v2] w fun e w' => e = .returned (.int .i64 (cmpL x y)) ∧ w = w' := by
 obtain ⟨A, c, rfl, _, _⟩ := h1.shape
 obtain ⟨B, d, rfl, _, _⟩ := h2.shape
 rename_i a1 a2 a3 a4
 unfold maxLen at a2 a4
 go_enter Tryz.func104, Tryz.ntmps104
 go_wp2
 go_loop [11] (fun i => ∃ k : Nat, i = .int .i64 k ∧ k ≤ x.length ∧ k ≤ y.length ∧ Hid (cmpL x y = cmpL (x.drop k) (y.drop k))) (fun i => x.length - (intOf i).toNat)
 case atStart => exact ⟨0, rfl, Nat.zero_le _, Nat.zero_le _, by simp [Hid]⟩
 case round =>
  obtain ⟨k, rfl, hk1, hk2, he⟩ := hrel
  by_cases hx : k < x.length
  ·obtain ⟨g, o, rfl, hcx⟩ := h1.cell hx
   by_cases hy : k < y.length
   ·obtain ⟨g', o', rfl, hcy⟩ := h2.cell hy
    have hc := fun W => compare_mk x[k] y[k] W
    have he2 : Hid (cmpL x y = if cmpB x[k] y[k] ≠ 0 then cmpB x[k] y[k] else cmpL (x.drop (k + 1)) (y.drop (k + 1))) := by
     unfold Hid; rw [he.out, List.drop_eq_getElem_cons hx, List.drop_eq_getElem_cons hy, cmpL_cons]
    replace hc := hid hc
    clear he h1 h2
    by_cases hz : cmpB x[k] y[k] = 0
    ·have he3 : Hid (cmpL x y = cmpL (x.drop (k + 1)) (y.drop (k + 1))) := by unfold Hid; rw [he2.out, if_neg (by omega)]
     rw [hz] at hc
     clear he2 hz
     go_wp2_with fail
     refine (hc.out _).mono ?_
     rintro e w2 ⟨rfl, rfl⟩
     go_wp2
     go_round
     case rel => exact ⟨k + 1, by go_num, by omega, by omega, he3⟩
     case measure => simp [intOf]; omega
    ·have he3 : Hid (cmpL x y = cmpB x[k] y[k]) := by unfold Hid; rw [he2.out, if_pos hz]
     have hz1 : (cmpB x[k] y[k] == 0) = false := by simpa using hz
     have hz2 : (cmpB x[k] y[k] != 0) = true := by simpa using hz
     clear he2 hz
     go_wp2_with fail
     refine (hc.out _).mono ?_
     rintro e w2 ⟨rfl, rfl⟩
     go_wp2
     go_ret
     exact ⟨ret_int he3.out.symm, rfl⟩
   ·have hye : y.drop k = [] := List.drop_eq_nil_of_le (by omega)
    have he2 : Hid (cmpL x y = 1) := by unfold Hid; rw [he.out, hye, List.drop_eq_getElem_cons hx]; rfl
    clear he h1 h2 hye
    go_wp2
    go_ret
    exact ⟨ret_int he2.out.symm, rfl⟩
  ·have hxe : x.drop k = [] := List.drop_eq_nil_of_le (by omega)
   by_cases hy : k < y.length
   ·have he2 : Hid (cmpL x y = -1) := by unfold Hid; rw [he.out, hxe, List.drop_eq_getElem_cons hy]; rfl
    clear he h1 h2 hxe
    have hlt : (x.length : Int) < (y.length : Int) := by omega
    go_wp2
    go_ret
    exact ⟨ret_int he2.out.symm, rfl⟩
   ·have hye : y.drop k = [] := List.drop_eq_nil_of_le (by omega)
    have he2 : Hid (cmpL x y = 0) := by unfold Hid; rw [he.out, hxe, hye]; rfl
    have hlt : ¬ (x.length : Int) < (y.length : Int) := by omega
    clear he h1 h2 hxe hye
    go_wp2
    go_ret
    exact ⟨ret_int he2.out.symm, rfl⟩
set_option maxHeartbeats 1000000 in
set_option maxRecDepth 100000 in
theorem slequal_calls (v1 v2 : Value) (x y : List Bytes) (w : World) (h1 : Rd w v1 x) (h2 : Rd w v2 y) :
  Calls Tryz.prog 75 #[v1, v2] w fun e w' => e = .returned (.bool (decide (x = y))) ∧ ∃ n, w.drewN n = w' := by
 obtain ⟨A, c, rfl, _, _⟩ := h1.shape
 obtain ⟨B, d, rfl, _, _⟩ := h2.shape
 rename_i a1 a2 a3 a4
 unfold maxLen at a2 a4
 by_cases hl : x.length = y.length
 ·have hl1 : ((x.length : Int) == (y.length : Int)) = true := by rw [beq_iff_eq]; omega
  have hl2 : ((x.length : Int) != (y.length : Int)) = false := by rw [bne_eq_false_iff_eq]; omega
  have hle : y.length ≤ x.length := by omega
  have hle' : x.length ≤ y.length := by omega
  have hext : Hid ((∀ k, k < x.length → x[k]? = y[k]?) → x = y) := fun h => List.ext_getElem? fun k => by
   by_cases hk : k < x.length
   ·exact h k hk
   ·rw [List.getElem?_eq_none (by omega), List.getElem?_eq_none (by omega)]
  clear hl
  go_enter Tryz.func75, Tryz.ntmps75
  go_wp2
  go_loopw [13] (fun i W => ∃ (k n : Nat), i = .int .i64 k ∧ k ≤ x.length ∧ (∃ n, w.drewN n = W) ∧ Hid (∀ j, j < k → x[j]? = y[j]?)) (fun i _ => x.length - (intOf i).toNat)
  case atStart => exact ⟨0, 0, rfl, Nat.zero_le _, ⟨0, rfl⟩, fun j h => by omega⟩
  case round =>
   obtain ⟨k, _, rfl, hk, ⟨n, rfl⟩, he⟩ := hrel
   by_cases hx : k < x.length
   ·have hy : k < y.length := by omega
    obtain ⟨g, o, rfl, hcx⟩ := h1.cell hx
    obtain ⟨g', o', rfl, hcy⟩ := h2.cell hy
    by_cases heq : x[k] = y[k]
    ·have hb : ((mkS x[k]).toList == (mkS y[k]).toList) = true := by rw [heq]; simp
     have he2 : Hid (∀ j, j < k + 1 → x[j]? = y[j]?) := fun j hj => by
      by_cases hjk : j = k
      ·subst hjk; rw [List.getElem?_eq_getElem hx, List.getElem?_eq_getElem (by omega), heq]
      ·exact he.out j (by omega)
     clear he heq h1 h2
     go_wp2
     go_quiet (fail)
     go_wp2
     go_roundw
     case rel => exact ⟨k + 1, 0, by go_num, by omega, ⟨_, rfl⟩, he2⟩
     case measure => simp [intOf]; omega
    ·have hb : ((mkS x[k]).toList == (mkS y[k]).toList) = false := by
      rw [str_eq, decide_eq_false_iff_not]; exact fun h => heq (mkS_inj h)
     have hne : Hid (x ≠ y) := fun h => heq (by simp [h])
     clear he heq h1 h2
     go_wp2
     go_quiet (fail)
     go_wp2
     go_ret
     exact ⟨by rw [decide_eq_false hne.out]; rfl, by first | exact ⟨_, rfl⟩ | exact ⟨_, (World.drewN_drewN _ _ _).symm⟩⟩
   ·obtain rfl : k = x.length := by omega
    have he2 : Hid (x = y) := hext.out he.out
    clear he hext h1 h2
    go_wp2
    go_ret
    exact ⟨by rw [decide_eq_true he2.out]; rfl, _, rfl⟩
 ·have hl1 : ((x.length : Int) == (y.length : Int)) = false := by rw [beq_eq_false_iff_ne]; omega
  have hl2 : ((x.length : Int) != (y.length : Int)) = true := by rw [bne_iff_ne]; omega
  have hne : Hid (x ≠ y) := fun h => hl (by rw [h])
  clear hl
  go_enter Tryz.func75, Tryz.ntmps75
  go_wp2
  go_ret
  exact ⟨by rw [decide_eq_false hne.out]; rfl, 0, rfl⟩
theorem below_of_drewN {w w' : World} (h : ∃ n, w.drewN n = w') : Below w.heap.size w w' := by
 obtain ⟨n, rfl⟩ := h; exact below_drewN (Below.refl _ _) n
theorem under_take (p top : Bytes) : under p top = (decide ((split top).length ≤ (split p).length) && decide ((split p).take (split top).length = split top)) := by
 unfold under
 rw [Bool.eq_iff_iff]
 simp only [List.isPrefixOf_iff_prefix, Bool.and_eq_true, decide_eq_true_eq]
 constructor
 ·intro h
  exact ⟨h.length_le, (List.prefix_iff_eq_take.1 h).symm⟩
 ·intro h
  exact List.prefix_iff_eq_take.2 h.2.symm
set_option maxHeartbeats 1000000 in
set_option maxRecDepth 100000 in
theorem under_calls (p top : ByteArray) (w : World) (hp : p.size ≤ 16777216) (ht : top.size ≤ 16777216) :
  Calls Tryz.prog 35 #[.string p, .string top] w fun e w' => e = .returned (.bool (under (bl p) (bl top))) ∧ Below w.heap.size w w' := by
 have h1 := fun W => split_calls p W hp
 have h2 := fun W => split_calls top W ht
 have hu := under_take (bl p) (bl top)
 generalize under (bl p) (bl top) = r at *
 generalize split (bl p) = x at *
 generalize split (bl top) = y at *
 replace h1 := hid h1
 replace h2 := hid h2
 replace hu := hid hu
 go_enter Tryz.func35, Tryz.ntmps35
 go_wp2_with fail
 refine (h1.out _).mono ?_
 rintro e w1 ⟨⟨v1, rfl, hO1⟩, hB1⟩
 go_wp2_with fail
 refine (h2.out _).mono ?_
 rintro e w2 ⟨⟨v2, rfl, hO2⟩, hB2⟩
 have hR1 := hO1.rd.below hB2
 have hR2 := hO2.rd
 obtain ⟨A, c, rfl, hc1, hc2⟩ := hR1.shape
 obtain ⟨B, d, rfl, hd1, hd2⟩ := hR2.shape
 clear hO1 hO2 h1 h2
 have hbb := below_step hB1 hB2
 by_cases hl : y.length ≤ x.length
 ·have heq := slequal_calls (.slice A y.length c) (.slice B y.length d) (x.take y.length) y w2 (hR1.take _ hl) hR2
  have hu2 : Hid (r = decide (x.take y.length = y)) := by unfold Hid; rw [hu.out]; simp [hl]
  generalize decide (x.take y.length = y) = q at *
  replace heq := hid heq
  have hl' : (y.length : Int) ≤ (x.length : Int) := by omega
  have hlc : y.length ≤ c := by omega
  unfold maxLen at hc2 hd2
  clear hR1 hR2 hu
  go_wp2_with fail
  refine heq.out.mono ?_
  rintro e w3 ⟨rfl, hw3⟩
  have hb3 := below_of_drewN hw3
  clear hw3
  go_wp2
  go_ret
  exact ⟨by rw [hu2.out]; rfl, below_step hbb hb3⟩
 ·have hu2 : Hid (r = false) := by unfold Hid; rw [hu.out]; simp [hl]
  have hl' : ¬ (y.length : Int) ≤ (x.length : Int) := by omega
  clear hR1 hR2 hu
  go_wp2
  go_ret
  exact ⟨by rw [hu2.out]; rfl, hbb⟩
set_option maxHeartbeats 1000000 in
set_option maxRecDepth 100000 in
theorem sortcmp_calls (a b : ByteArray) (w : World) (ha : a.size ≤ 16777216) (hb : b.size ≤ 16777216) :
  Calls Tryz.prog 103 #[.string a, .string b] w fun e w' => e = .returned (.int .i64 (cmpP (bl a) (bl b))) ∧ Below w.heap.size w w' := by
 have h1 := fun W => split_calls a W ha
 have h2 := fun W => split_calls b W hb
 have hu : cmpP (bl a) (bl b) = cmpL (split (bl a)) (split (bl b)) := rfl
 generalize cmpP (bl a) (bl b) = r at *
 generalize split (bl a) = x at *
 generalize split (bl b) = y at *
 replace h1 := hid h1
 replace h2 := hid h2
 replace hu := hid hu
 go_enter Tryz.func103, Tryz.ntmps103
 go_wp2_with fail
 refine (h1.out _).mono ?_
 rintro e w1 ⟨⟨v1, rfl, hO1⟩, hB1⟩
 go_wp2_with fail
 refine (h2.out _).mono ?_
 rintro e w2 ⟨⟨v2, rfl, hO2⟩, hB2⟩
 have hc := slcompare_calls v1 v2 x y w2 (hO1.rd.below hB2) hO2.rd
 rw [← hu.out] at hc
 replace hc := hid hc
 clear hO1 hO2 h1 h2 hu
 go_wp2_with fail
 refine hc.out.mono ?_
 rintro e w3 ⟨rfl, rfl⟩
 go_wp2
 go_ret
 exact ⟨rfl, below_step hB1 hB2⟩
end Go.Proofs.YtcjlfkklpghjbaaGreat

namespace Go.Proofs.YtcjlfkklpghjbaaGreat
open Go.RowKit Go.Lib
set_option linter.unusedVariables false
set_option linter.unusedSimpArgs false
/-- Block g is a row of strings with a tail; since w no other old block has turned. -/
structure Row (w W : World) (g : Nat) (l : List Bytes) (pad : List Value) : Prop where
  lt : g < w.heap.size
  h : W.heap[g]? = some (.cells (strs l ++ pad).toArray 9 (0, 0))
  kept : w.grownBy W (some g)
theorem Row.drewN {w W : World} {g : Nat} {l : List Bytes} {pad : List Value} (h : Row w W g l pad) (n : Nat) : Row w (W.drewN n) g l pad := ⟨h.lt, h.h, ⟨h.kept.os, h.kept.tape, h.kept.output, h.kept.size, h.kept.block⟩⟩
theorem Row.cell {w W : World} {g : Nat} {l : List Bytes} {pad : List Value} (h : Row w W g l pad) {i : Nat} {x : Bytes} (hi : l[i]? = some x) : W.cell? ⟨g, i, none⟩ = some (.string (mkS x)) := by
 rw [cell_of_row W g i _ _ _ h.h]
 have hlt : i < l.length := (List.getElem?_eq_some_iff.1 hi).1
 simp only [List.getElem?_toArray]
 rw [List.getElem?_append_left (by simp [strs]; exact hlt)]
 simp [strs, hi]
theorem Row.free {w W : World} {g : Nat} {l : List Bytes} {pad : List Value} (h : Row w W g l pad) (i : Nat) : W.frozen? ⟨g, i, none⟩ = false := by simp [World.frozen?, h.h]
theorem blk_set {w : World} {g : Nat} {t : TypeId} {cs : Array Value} (h : w.heap[g]? = some (.cells cs t (0, 0))) (i : Nat) (u : Value) : (w.setCell ⟨g, i, none⟩ u).heap[g]? = some (.cells (cs.setIfInBounds i u) t (0, 0)) := by
 have hlt : g < w.heap.size := (Array.getElem?_eq_some_iff.1 h).1
 have h' : w.heap[g] = .cells cs t (0, 0) := (Array.getElem?_eq_some_iff.1 h).2
 show (w.heap.modify g _)[g]? = _
 rw [Array.getElem?_eq_getElem (by simpa using hlt), Array.getElem_modify_self, h']
 rfl
theorem Row.set {w W : World} {g : Nat} {l : List Bytes} {pad : List Value} (h : Row w W g l pad) (i : Nat) (hi : i < l.length) (x : Bytes) : Row w (W.setCell ⟨g, i, none⟩ (.string (mkS x))) g (l.set i x) pad := by
 refine ⟨h.lt, ?_, ⟨h.kept.os, h.kept.tape, h.kept.output, by simpa [World.setCell] using h.kept.size, fun k hk hne => ?_⟩⟩
 ·rw [blk_set h.h]
  congr 2
  rw [List.setIfInBounds_toArray]
  congr 1
  rw [List.set_append_left _ _ (by simp [strs]; exact hi)]
  simp [strs, List.map_set]
 ·rw [Below.heap_setCell _ _ _ _ (fun e => hne (by rw [e]))]; exact h.kept.block k hk hne
theorem Row.start {w : World} {g : Nat} {l : List Bytes} {pad : List Value} (h : w.heap[g]? = some (.cells (strs l ++ pad).toArray 9 (0, 0))) : Row w w g l pad :=
 ⟨(Array.getElem?_eq_some_iff.1 h).1, h, ⟨rfl, rfl, rfl, Nat.le_refl _, fun _ _ _ => rfl⟩⟩
theorem Row.below {w W W' : World} {g : Nat} {l : List Bytes} {pad : List Value} (h : Row w W g l pad) (hb : Below W.heap.size W W') : Row w W' g l pad :=
 ⟨h.lt, by rw [hb.block g (Nat.lt_of_lt_of_le h.lt h.kept.size)]; exact h.h, ⟨hb.os.trans h.kept.os, hb.tape.trans h.kept.tape, hb.output.trans h.kept.output, Nat.le_trans h.kept.size hb.size,
  fun i hi hne => (hb.block i (Nat.lt_of_lt_of_le hi h.kept.size)).trans (h.kept.block i hi hne)⟩⟩
/-- Two ranges of n elements change places. -/
def Swapped (l l' : List Bytes) (a b n : Nat) : Prop := l'.length = l.length ∧ ∀ k, l'[k]? = if a ≤ k ∧ k < a + n then l[k - a + b]? else if b ≤ k ∧ k < b + n then l[k - b + a]? else l[k]?
theorem Swapped.zero (l : List Bytes) (a b : Nat) : Swapped l l a b 0 := ⟨rfl, fun k => by rw [if_neg (by omega), if_neg (by omega)]⟩
theorem Swapped.step {l l' : List Bytes} {a b n : Nat} (h : Swapped l l' a b n) (hab : a + n < b) (hb : b + n < l.length) {x y : Bytes} (hx : l[a + n]? = some x) (hy : l[b + n]? = some y) : Swapped l ((l'.set (a + n) y).set (b + n) x) a b (n + 1) := by
 refine ⟨by simpa using h.1, fun k => ?_⟩
 have hl := h.1
 rw [List.getElem?_set, List.getElem?_set]
 by_cases h1 : b + n = k
 ·subst h1
  rw [if_pos rfl, if_pos (by simp; omega), if_neg (by omega), if_pos (by omega), show b + n - b + a = a + n by omega, hx]
 ·rw [if_neg h1]
  by_cases h2 : a + n = k
  ·subst h2
   rw [if_pos rfl, if_pos (by omega), if_pos (by omega), show a + n - a + b = b + n by omega, hy]
  ·rw [if_neg h2, h.2 k]
   by_cases h3 : a ≤ k ∧ k < a + n
   ·rw [if_pos h3, if_pos (by omega)]
   ·rw [if_neg h3]
    by_cases h4 : b ≤ k ∧ k < b + n
    ·rw [if_pos h4, if_neg (by omega), if_pos (by omega)]
    ·rw [if_neg h4, if_neg (by omega), if_neg (by omega)]
theorem Swapped.at {l l' : List Bytes} {a b n : Nat} (h : Swapped l l' a b n) (hab : a + n < b) (hb : b + n < l.length) : (∃ x, l[a + n]? = some x ∧ l'[a + n]? = some x) ∧ ∃ y, l[b + n]? = some y ∧ l'[b + n]? = some y := by
 have e1 : l'[a + n]? = l[a + n]? := by rw [h.2, if_neg (by omega), if_neg (by omega)]
 have e2 : l'[b + n]? = l[b + n]? := by rw [h.2, if_neg (by omega), if_neg (by omega)]
 exact ⟨⟨l[a + n], List.getElem?_eq_getElem (by omega), by rw [e1]; exact List.getElem?_eq_getElem (by omega)⟩, ⟨l[b + n], List.getElem?_eq_getElem hb, by rw [e2]; exact List.getElem?_eq_getElem hb⟩⟩
set_option maxHeartbeats 2000000 in
set_option maxRecDepth 100000 in
theorem swaprange_calls (g c : Nat) (l : List Bytes) (pad : List Value) (a b n : Nat) (f : Value) (w W : World) (hR : Row w W g l pad) (hc : l.length ≤ c) (hm : l.length ≤ 4611686018427387904) (hab : a + n ≤ b) (hbl : b + n ≤ l.length) :
  Calls Tryz.prog 146 #[.slice (some ⟨g, 0, none⟩) l.length c, .int .i64 a, .int .i64 b, .int .i64 n, f] W fun e w' => e = .returned (.tuple #[]) ∧ ∃ l', Swapped l l' a b n ∧ Row w w' g l' pad := by
 go_enter Tryz.func146, Tryz.ntmps146
 go_wp2
 go_loopw [10] (fun i W' => ∃ (k : Nat) (l' : List Bytes), i = .int .i64 k ∧ k ≤ n ∧ Swapped l l' a b k ∧ Row w W' g l' pad) (fun i _ => n - (intOf i).toNat)
 case atStart => exact ⟨0, l, rfl, Nat.zero_le _, Swapped.zero _ _ _, hR⟩
 case round =>
  clear hR
  obtain ⟨k, l', rfl, hk, hS, hR⟩ := hrel
  by_cases hlt : k < n
  ·obtain ⟨⟨x, hx, hx'⟩, ⟨y, hy, hy'⟩⟩ := hS.at (by omega) (by omega)
   have hlen := hS.1
   have c1 := hR.cell hx'
   have c2 := hR.cell hy'
   have f1 := hR.free (a + k)
   have f2 := hR.free (b + k)
   have hR2 := (hR.set (a + k) (by omega) y).set (b + k) (by simp; omega) x
   have hS2 := hS.step (by omega) (by omega) hx hy
   clear hx hy hx' hy' hR hS hlen
   go_wp2
   go_region
   all_goals go_wp2
   all_goals go_roundw
   case measure => simp [intOf]; omega
   case rel => exact ⟨k + 1, _, by go_num, by omega, hS2, hR2.drewN 1⟩
  ·obtain rfl : k = n := by omega
   clear hlt hk
   go_wp2
   go_end0
   exact ⟨rfl, l', hS, hR⟩
/-! Segments -/
theorem get_right (p x : List Bytes) (k : Nat) (h : p.length ≤ k) : (p ++ x)[k]? = x[k - p.length]? := List.getElem?_append_right h
theorem swapped_seg {l' : List Bytes} {p X q Y s : List Bytes} (hXY : X.length = Y.length) (h : Swapped (p ++ X ++ q ++ Y ++ s) l' p.length (p ++ X ++ q).length X.length) : l' = p ++ Y ++ q ++ X ++ s := by
 apply List.ext_getElem?
 intro k
 rw [h.2 k]
 simp only [List.length_append]
 by_cases h1 : p.length ≤ k ∧ k < p.length + X.length
 ·rw [if_pos h1]
  have e1 : (p ++ X ++ q ++ Y ++ s)[k - p.length + (p.length + X.length + q.length)]? = Y[k - p.length]? := by
   simp only [List.append_assoc]
   rw [List.getElem?_append_right (by omega), List.getElem?_append_right (by omega), List.getElem?_append_right (by omega), List.getElem?_append_left (by omega)]
   congr 1; omega
  have e2 : (p ++ Y ++ q ++ X ++ s)[k]? = Y[k - p.length]? := by
   simp only [List.append_assoc]
   rw [List.getElem?_append_right (by omega), List.getElem?_append_left (by omega)]
  rw [e1, e2]
 ·rw [if_neg h1]
  by_cases h2 : p.length + X.length + q.length ≤ k ∧ k < p.length + X.length + q.length + X.length
  ·rw [if_pos h2]
   have e1 : (p ++ X ++ q ++ Y ++ s)[k - (p.length + X.length + q.length) + p.length]? = X[k - (p.length + X.length + q.length)]? := by
    simp only [List.append_assoc]
    rw [List.getElem?_append_right (by omega), List.getElem?_append_left (by omega)]
    congr 1; omega
   have e2 : (p ++ Y ++ q ++ X ++ s)[k]? = X[k - (p.length + X.length + q.length)]? := by
    simp only [List.append_assoc]
    rw [List.getElem?_append_right (by omega), List.getElem?_append_right (by omega), List.getElem?_append_right (by omega), List.getElem?_append_left (by omega)]
    congr 1; omega
   rw [e1, e2]
  ·rw [if_neg h2]
   simp only [List.append_assoc]
   by_cases h3 : k < p.length
   ·rw [List.getElem?_append_left h3, List.getElem?_append_left h3]
   ·rw [get_right p _ _ (by omega), get_right p _ _ (by omega), get_right X _ _ (by omega), get_right Y _ _ (by omega), hXY]
    by_cases h4 : k - p.length - Y.length < q.length
    ·rw [List.getElem?_append_left h4, List.getElem?_append_left h4]
    ·rw [get_right q _ _ (by omega), get_right q _ _ (by omega), get_right Y _ _ (by omega), get_right X _ _ (by omega), hXY]
theorem swapseg_calls (g c : Nat) (p X q Y s : List Bytes) (pad : List Value) (a b n : Nat) (f : Value) (w W : World) (hR : Row w W g (p ++ X ++ q ++ Y ++ s) pad) (hc : (p ++ X ++ q ++ Y ++ s).length ≤ c) (hm : (p ++ X ++ q ++ Y ++ s).length ≤ 4611686018427387904)
  (ha : a = p.length) (hb : b = (p ++ X ++ q).length) (hn : n = X.length) (hY : Y.length = X.length) (m : Nat) (hlen : m = (p ++ X ++ q ++ Y ++ s).length) :
  Calls Tryz.prog 146 #[.slice (some ⟨g, 0, none⟩) m c, .int .i64 a, .int .i64 b, .int .i64 n, f] W fun e w' => e = .returned (.tuple #[]) ∧ Row w w' g (p ++ Y ++ q ++ X ++ s) pad := by
 subst ha hb hn hlen
 refine (swaprange_calls g c _ pad _ _ _ f w W hR hc hm (by simp) (by simp; omega)).mono ?_
 rintro e w' ⟨rfl, l', hS, hR'⟩
 rw [swapped_seg hY.symm hS] at hR'
 exact ⟨rfl, hR'⟩
theorem take_drop_len {α : Type} (X : List α) (j : Nat) (h : j ≤ X.length) : ∃ A B, X = A ++ B ∧ A.length = j ∧ B.length = X.length - j := ⟨X.take j, X.drop j, (List.take_append_drop j X).symm, by simp; omega, by simp⟩
set_option maxHeartbeats 4000000 in
set_option maxRecDepth 100000 in
theorem rotate_calls (g c : Nat) (p X Y s : List Bytes) (pad : List Value) (a m b N : Nat) (f : Value) (w W : World) (hR : Row w W g (p ++ X ++ Y ++ s) pad) (hc : N ≤ c) (hm : N ≤ 4611686018427387904) (hN : N = (p ++ X ++ Y ++ s).length)
  (ha : a = p.length) (hmm : m = p.length + X.length) (hb : b = p.length + X.length + Y.length) (hX : 0 < X.length) (hY : 0 < Y.length) :
  Calls Tryz.prog 133 #[.slice (some ⟨g, 0, none⟩) N c, .int .i64 a, .int .i64 m, .int .i64 b, f] W fun e w' => e = .returned (.tuple #[]) ∧ Row w w' g (p ++ Y ++ X ++ s) pad := by
 have e1 : (m : Int) - (a : Int) = (X.length : Int) := by omega
 have e2 : (b : Int) - (m : Int) = (Y.length : Int) := by omega
 have hml : m ≤ N := by subst hN hmm; simp
 have hbl : b ≤ N := by subst hN hb; simp; omega
 have hal : a ≤ m := by omega
 have hmb : m ≤ b := by omega
 replace e1 := hid e1
 replace e2 := hid e2
 replace ha := hid ha
 replace hmm := hid hmm
 replace hb := hid hb
 replace hN := hid hN
 go_enter Tryz.func133, Tryz.ntmps133
 go_wp2
 go_loopw [10, 11] (fun i j W' => ∃ A X' Y' B : List Bytes, i = .int .i64 X'.length ∧ j = .int .i64 Y'.length ∧ 0 < X'.length ∧ 0 < Y'.length ∧ Hid (m = p.length + A.length + X'.length ∧ A ++ Y' ++ X' ++ B = Y ++ X ∧ A.length + X'.length + Y'.length + B.length = X.length + Y.length) ∧ Row w W' g (p ++ A ++ X' ++ Y' ++ B ++ s) pad) (fun i j _ => (intOf i).toNat + (intOf j).toNat)
 case atStart => exact ⟨[], X, Y, [], by rw [e1.out], by rw [e2.out], hX, hY, ⟨by rw [hmm.out]; simp, by simp, by simp⟩, by simpa using hR⟩
 case round =>
  clear hR
  obtain ⟨A, X', Y', B, rfl, rfl, hx, hy, hinv, hR⟩ := hrel
  obtain ⟨i1, i2, i3⟩ := hinv.out
  have hNN : N = (p ++ A ++ X' ++ Y' ++ B ++ s).length := by rw [hN.out]; simp; omega
  have hYl : m + Y'.length ≤ N := by rw [hNN, i1]; simp; omega
  have hmN : m ≤ N := by omega
  obtain ⟨st, hst⟩ : ∃ st, st = p.length + A.length := ⟨_, rfl⟩
  have es : (m : Int) - (X'.length : Int) = (st : Int) := by omega
  clear hinv
  replace i1 := hid i1
  replace i2 := hid i2
  replace i3 := hid i3
  replace hNN := hid hNN
  replace hst := hid hst
  by_cases heq : X'.length = Y'.length
  ·have hcall := swapseg_calls g c (p ++ A) X' [] Y' (B ++ s) pad st m X'.length f w wr (by simpa using hR) (by have := hNN.out; simp at this ⊢; omega) (by have := hNN.out; simp at this ⊢; omega) (by simp [hst.out]) (by simp [i1.out]; omega) rfl heq.symm N (by rw [hNN.out]; simp)
   replace hcall := hid hcall
   rw [← heq]
   have hfin : Hid (p ++ A ++ Y' ++ [] ++ X' ++ (B ++ s) = p ++ Y ++ X ++ s) := by
    unfold Hid
    have := i2.out
    rw [show p ++ A ++ Y' ++ [] ++ X' ++ (B ++ s) = p ++ (A ++ Y' ++ X' ++ B) ++ s by simp, this]; simp
   clear hR heq
   go_wp2_with fail
   refine hcall.out.mono ?_
   rintro e w2 ⟨rfl, hR2⟩
   rw [hfin.out] at hR2
   go_wp2
   go_end0
   exact ⟨rfl, hR2⟩
  ·have hne : ((X'.length : Int) == (Y'.length : Int)) = false := by rw [beq_eq_false_iff_ne]; omega
   have hne2 : ((X'.length : Int) != (Y'.length : Int)) = true := by rw [bne_iff_ne]; omega
   by_cases hgt : Y'.length < X'.length
   ·obtain ⟨X1, X2, hX12, hx1, hx2⟩ := take_drop_len X' Y'.length (by omega)
    have hcall := swapseg_calls g c (p ++ A) X1 X2 Y' (B ++ s) pad st m Y'.length f w wr (by rw [hX12] at hR; simpa using hR) (by have := hNN.out; rw [hX12] at this; simp at this ⊢; omega) (by have := hNN.out; rw [hX12] at this; simp at this ⊢; omega) (by simp [hst.out]) (by rw [i1.out, hX12]; simp; omega) hx1.symm hx1.symm N (by rw [hNN.out, hX12]; simp)
    have ei : (X'.length : Int) - (Y'.length : Int) = (X2.length : Int) := by omega
    have hi : Hid (m = p.length + (A ++ Y').length + X2.length ∧ (A ++ Y') ++ X1 ++ X2 ++ B = Y ++ X ∧ (A ++ Y').length + X2.length + X1.length + B.length = X.length + Y.length) := by
     have h1 := i1.out
     have h3 := i3.out
     have h2 := i2.out
     rw [hX12] at h2
     exact ⟨by simp; omega, by rw [← h2]; simp, by simp; omega⟩
    have hy1 : X1.length = Y'.length := hx1
    have hx20 : 0 < X2.length := by omega
    replace hcall := hid hcall
    replace hX12 := hid hX12
    replace hx1 := hid hx1
    replace hx2 := hid hx2
    replace hy1 := hid hy1
    clear hR heq
    go_wp2_with fail
    refine hcall.out.mono ?_
    rintro e w2 ⟨rfl, hR2⟩
    go_wp2
    go_roundw
    case measure => simp [intOf]; omega
    case rel => exact ⟨A ++ Y', X2, X1, B, rfl, by rw [hy1.out], hx20, by rw [hy1.out]; exact hy, hi, by simpa using hR2⟩
   ·obtain ⟨Y1, Y2, hY12, hy1, hy2⟩ := take_drop_len Y' (Y'.length - X'.length) (by omega)
    have hy2' : Y2.length = X'.length := by omega
    obtain ⟨sb, hsb⟩ : ∃ sb, sb = m + Y'.length - X'.length := ⟨_, rfl⟩
    have esb : (m : Int) + (Y'.length : Int) - (X'.length : Int) = (sb : Int) := by omega
    have hcall := swapseg_calls g c (p ++ A) X' Y1 Y2 (B ++ s) pad st sb X'.length f w wr (by rw [hY12] at hR; simpa using hR) (by have := hNN.out; rw [hY12] at this; simp at this ⊢; omega) (by have := hNN.out; rw [hY12] at this; simp at this ⊢; omega) (by simp [hst.out]) (by have := i1.out; simp; omega) rfl hy2' N (by rw [hNN.out, hY12]; simp)
    have ei : (Y'.length : Int) - (X'.length : Int) = (Y1.length : Int) := by omega
    have hi : Hid (m = p.length + A.length + Y2.length ∧ A ++ Y1 ++ Y2 ++ (X' ++ B) = Y ++ X ∧ A.length + Y2.length + Y1.length + (X' ++ B).length = X.length + Y.length) := by
     have h1 := i1.out
     have h3 := i3.out
     have h2 := i2.out
     rw [hY12] at h2
     exact ⟨by omega, by rw [← h2]; simp, by simp; omega⟩
    have hy10 : 0 < Y1.length := by omega
    have hy20 : 0 < Y2.length := by omega
    have hsl : sb + X'.length ≤ N := by omega
    replace hcall := hid hcall
    replace hY12 := hid hY12
    replace hy1 := hid hy1
    replace hy2 := hid hy2
    replace hy2' := hid hy2'
    replace hsb := hid hsb
    have hgt2 : ¬ ((Y'.length : Int) < (X'.length : Int)) := by omega
    clear hR heq
    go_wp2_with fail
    refine hcall.out.mono ?_
    rintro e w2 ⟨rfl, hR2⟩
    go_wp2
    go_roundw
    case measure => simp [intOf]; omega
    case rel => exact ⟨A, Y2, Y1, X' ++ B, by rw [hy2'.out], rfl, hy20, hy10, hi, by simpa using hR2⟩
end Go.Proofs.YtcjlfkklpghjbaaGreat

namespace Go.Proofs.YtcjlfkklpghjbaaGreat
open Go.RowKit Go.Lib
set_option linter.unusedVariables false
set_option linter.unusedSimpArgs false
def leP (a b : Bytes) : Prop := cmpP a b ≤ 0
theorem leP_trans {a b c : Bytes} (h : leP a b) (k : leP b c) : leP a c := by
 unfold leP at *
 rcases Int.lt_or_eq_of_le h with h1 | h1
 ·rcases Int.lt_or_eq_of_le k with k1 | k1
  ·exact Int.le_of_lt (cmpP_trans h1 k1)
  ·rw [cmpP_eq k1] at h; exact h
 ·rw [cmpP_eq h1]; exact k
theorem leP_of_not {a b : Bytes} (h : ¬ cmpP a b < 0) : leP b a := by
 unfold leP; rw [cmpP_swap a b]; omega
theorem leP_of_lt {a b : Bytes} (h : cmpP a b < 0) : leP a b := Int.le_of_lt h
abbrev Sorted (l : List Bytes) : Prop := l.Pairwise leP
def cmpV : Value := .func (.func 103) #[] #[]
theorem cmp_mk (a b : Bytes) (w : World) (ha : a.length ≤ 16777216) (hb : b.length ≤ 16777216) :
  Calls Tryz.prog 103 #[.string (mkS a), .string (mkS b)] w fun e w' => e = .returned (.int .i64 (cmpP a b)) ∧ Below w.heap.size w w' := by
 have h := sortcmp_calls (mkS a) (mkS b) w (by rw [mkS_size]; exact ha) (by rw [mkS_size]; exact hb)
 rwa [bl_mkS, bl_mkS] at h
theorem insort_step (U V : List Bytes) (u x : Bytes) (hs : Sorted (U ++ [u] ++ V)) (hux : ¬ cmpP x u < 0) (hV : ∀ v ∈ V, cmpP x v < 0) : Sorted (U ++ [u] ++ x :: V) := by
 have h1 := leP_of_not hux
 unfold Sorted at hs ⊢
 rw [List.pairwise_append] at hs ⊢
 obtain ⟨a1, a2, a3⟩ := hs
 refine ⟨a1, List.Pairwise.cons (fun v hv => leP_of_lt (hV v hv)) a2, fun y hy z hz => ?_⟩
 rcases List.mem_cons.1 hz with h | h
 ·subst h
  rw [List.pairwise_append] at a1
  rcases List.mem_append.1 hy with h2 | h2
  ·exact leP_trans (a1.2.2 y h2 u (by simp)) h1
  ·simp at h2; subst h2; exact h1
 ·exact a3 y hy z h
set_option maxHeartbeats 4000000 in
set_option maxRecDepth 100000 in
theorem insort_calls (g c : Nat) (p M s : List Bytes) (pad : List Value) (a b N : Nat) (w W : World) (hR : Row w W g (p ++ M ++ s) pad) (hc : N ≤ c) (hm : N ≤ 4611686018427387904) (hN : N = (p ++ M ++ s).length)
  (ha : a = p.length) (hb : b = p.length + M.length) (hsz : ∀ x ∈ M, x.length ≤ 16777216) :
  Calls Tryz.prog 127 #[.slice (some ⟨g, 0, none⟩) N c, .int .i64 a, .int .i64 b, .func (.func 103) #[] #[]] W fun e w' => e = .returned (.tuple #[]) ∧ ∃ M' : List Bytes, (M'.Perm M ∧ Sorted M') ∧ Row w w' g (p ++ M' ++ s) pad := by
 have hbN : b ≤ N := by subst hb hN; simp
 have hab : a ≤ b := by omega
 by_cases hM : M = []
 ·subst hM
  have hba : b = a := by simp at hb; omega
  subst hba
  clear hb
  go_enter Tryz.func127, Tryz.ntmps127
  go_wp2
  refine wp_loop_rounds 1 ?_
  rw [rounds_succ]
  go_wp2
  go_end0
  exact ⟨rfl, [], ⟨List.Perm.refl _, List.Pairwise.nil⟩, hR⟩
 ·obtain ⟨x0, M0, rfl⟩ : ∃ x0 M0, M = x0 :: M0 := by cases M with | nil => exact absurd rfl hM | cons x xs => exact ⟨x, xs, rfl⟩
  replace hb := hid hb
  replace ha := hid ha
  replace hN := hid hN
  clear hM
  go_enter Tryz.func127, Tryz.ntmps127
  go_wp2
  go_loopw [8] (fun i W' => ∃ (k : Nat) (D R : List Bytes), i = .int .i64 k ∧ k ≤ b + 1 ∧ Hid (k = p.length + D.length) ∧ 0 < D.length ∧ Hid ((D ++ R).Perm (x0 :: M0)) ∧ Hid (Sorted D) ∧ Row w W' g (p ++ (D ++ R) ++ s) pad) (fun i _ => b + 1 - (intOf i).toNat)
  case atStart => exact ⟨a + 1, [x0], M0, by go_num, by omega, by unfold Hid; rw [ha.out]; rfl, by simp, List.Perm.refl _, by simp [Hid, Sorted], hR⟩
  case round =>
   clear hR
   obtain ⟨k, D, R, rfl, hkb, hk, hD, hperm, hsort, hR⟩ := hrel
   have hlen : Hid (D.length + R.length = M0.length + 1) := by
    have := hperm.out.length_eq
    simpa [Hid] using this
   by_cases hlt : k < b
   ·obtain ⟨x, R', rfl⟩ : ∃ x R', R = x :: R' := by
     cases R with
     | nil => have h1 := hlen.out; have h2 := hk.out; have h3 := hb.out; simp at h1 h3; omega
     | cons x xs => exact ⟨x, xs, rfl⟩
    go_wp2
    go_loopw [9] (fun j W' => ∃ (q : Nat) (U V : List Bytes), j = .int .i64 q ∧ Hid (q = p.length + U.length) ∧ a ≤ q ∧ q < b ∧ Hid (U ++ V = D) ∧ Hid (∀ v ∈ V, cmpP x v < 0) ∧ Row w W' g (p ++ (U ++ x :: V ++ R') ++ s) pad) (fun j _ => (intOf j).toNat)
    case atStart => exact ⟨k, D, [], rfl, hk, by have := hk.out; have := ha.out; omega, hlt, by simp [Hid], by simp [Hid], by simpa using hR⟩
    case round =>
     clear hR
     obtain ⟨q, U, V, rfl, hq, haq, hqb, hUV, hV, hR⟩ := hrel
     by_cases hgt : a < q
     ·obtain ⟨U', u, rfl⟩ : ∃ U' u, U = U' ++ [u] := by
       have h1 := hq.out
       have h2 := ha.out
       have : U ≠ [] := fun h => by rw [h] at h1; simp at h1; omega
       exact ⟨U.dropLast, U.getLast this, (List.dropLast_concat_getLast this).symm⟩
      obtain ⟨q', hq'⟩ : ∃ q', q = q' + 1 := ⟨q - 1, by omega⟩
      have hq2 : q' = p.length + U'.length := by have := hq.out; simp at this; omega
      have hi1 : (p ++ (U' ++ [u] ++ x :: V ++ R') ++ s)[q]? = some x := by
       rw [hq', hq2]
       simp only [List.append_assoc]
       rw [get_right p _ _ (by omega), get_right U' _ _ (by omega), show p.length + U'.length + 1 - p.length - U'.length = 1 by omega]
       rfl
      have hi2 : (p ++ (U' ++ [u] ++ x :: V ++ R') ++ s)[q']? = some u := by
       rw [hq2]
       simp only [List.append_assoc]
       rw [get_right p _ _ (by omega), get_right U' _ _ (by omega), show p.length + U'.length - p.length - U'.length = 0 by omega]
       rfl
      have hc1 := hR.cell hi1
      have hc2 := hR.cell hi2
      have hxs : x.length ≤ 16777216 := hsz x (hperm.out.mem_iff.1 (by simp))
      have hus : u.length ≤ 16777216 := hsz u (hperm.out.mem_iff.1 (by rw [← hUV.out]; simp))
      have hcmp := fun W' => cmp_mk x u W' hxs hus
      have hqN : (q : Int) < (N : Int) := by omega
      have hqN' : (q' : Int) < (N : Int) := by omega
      have hw1 : IntKind.i64.wrap ((q : Int) - 1) = (q' : Int) := by rw [IntWalk.i64_in _ (by omega)]; omega
      have hgt' : (a : Int) < (q : Int) := by omega
      clear hi1 hi2 hsz
      replace hq' := hid hq'
      replace hq2 := hid hq2
      replace hcmp := hid hcmp
      go_wp2_with fail
      go_still_tail 14, (by kernel_rfl)
      change wpList _ _ _ _ _ wr.drew
      have hR1 := hR.drewN 1
      change Row w wr.drew g _ pad at hR1
      generalize wr.drew = w2 at *
      go_wp2_with fail
      refine (hcmp.out _).mono ?_
      rintro e w3 ⟨rfl, hB3⟩
      have hR3 := hR1.below hB3
      clear hcmp hc1 hc2 hR hR1
      have hsortin := insort_step U' V u x
      replace hsortin := hid hsortin
      go_wp2_with fail
      ·have hcx : cmpP x u < 0 := by assumption
       have hc1 := hR3.cell (i := q) (x := x) (by
        rw [hq'.out, hq2.out]
        simp only [List.append_assoc]
        rw [get_right p _ _ (by omega), get_right U' _ _ (by omega), show p.length + U'.length + 1 - p.length - U'.length = 1 by omega]
        rfl)
       have hc2 := hR3.cell (i := q') (x := u) (by
        rw [hq2.out]
        simp only [List.append_assoc]
        rw [get_right p _ _ (by omega), get_right U' _ _ (by omega), show p.length + U'.length - p.length - U'.length = 0 by omega]
        rfl)
       have hf1 := hR3.free q
       have hf2 := hR3.free q'
       have hc3 := (hR3.set q (by have := hN.out; have := hq'.out; have := hq2.out; simp at *; omega) u).cell (i := q') (x := u) (by
        rw [List.getElem?_set_ne (by have := hq'.out; omega), hq2.out]
        simp only [List.append_assoc]
        rw [get_right p _ _ (by omega), get_right U' _ _ (by omega), show p.length + U'.length - p.length - U'.length = 0 by omega]
        rfl)
       have hR4 := (hR3.set q (by have := hN.out; have := hq'.out; have := hq2.out; simp at *; omega) u).set q' (by have := hq'.out; have := hq2.out; simp; omega) x
       have hset : Hid (((p ++ (U' ++ [u] ++ x :: V ++ R') ++ s).set q u).set q' x = p ++ (U' ++ x :: (u :: V) ++ R') ++ s) := by
        unfold Hid
        rw [hq'.out, hq2.out]
        simp only [List.append_assoc]
        rw [List.set_append_right _ _ (by omega), List.set_append_right _ _ (by omega), List.set_append_right _ _ (by omega), List.set_append_right _ _ (by omega)]
        rw [show p.length + U'.length + 1 - p.length - U'.length = 1 by omega, show p.length + U'.length - p.length - U'.length = 0 by omega]
        simp
       rw [hset.out] at hR4
       have hV2 : Hid (∀ v ∈ u :: V, cmpP x v < 0) := by
        intro v hv
        rcases List.mem_cons.1 hv with h | h
        ·rw [h]; exact hcx
        ·exact hV.out v h
       have hUV2 : Hid (U' ++ (u :: V) = D) := by rw [← hUV.out]; simp [Hid]
       clear hsortin hV hUV hR3 hset hcx
       go_region
       all_goals go_wp2
       all_goals go_roundw
       case measure => have := hq'.out; simp [intOf]; omega
       case rel => exact ⟨q', U', u :: V, rfl, hq2, by have := hq'.out; omega, by have := hq'.out; omega, hUV2, hV2, hR4.drewN 1⟩
      ·have hcx : 0 ≤ cmpP x u := by assumption
       have hs2 : Hid (Sorted (U' ++ [u] ++ x :: V)) := by
        refine hsortin.out ?_ (by omega) hV.out
        rw [hUV.out]; exact hsort.out
       have hp2 : Hid ((U' ++ [u] ++ x :: V ++ R').Perm (x0 :: M0)) := by
        refine List.Perm.trans ?_ hperm.out
        rw [← hUV.out]
        simp only [List.append_assoc, List.cons_append, List.nil_append]
        exact List.Perm.append_left _ (List.Perm.cons _ (List.perm_middle.symm))
       refine ⟨⟨k + 1, U' ++ [u] ++ x :: V, R', by go_num, by omega, ?_, by simp; omega, hp2, hs2, by simpa using hR3⟩, by simp [intOf]; omega⟩
       have h1 := hk.out
       have h2 := congrArg List.length hUV.out
       simp [Hid] at *; omega
     ·have hqa : q = a := by omega
      have hU : U = [] := by
       have h1 := hq.out
       have h2 := ha.out
       exact List.eq_nil_of_length_eq_zero (by omega)
      subst hU
      have hdec : decide ((a : Int) < (q : Int)) = false := by simp; omega
      have hs2 : Hid (Sorted (x :: V)) := by
       refine List.Pairwise.cons (fun v hv => leP_of_lt (hV.out v hv)) ?_
       have := hsort.out
       rw [← hUV.out] at this; simpa using this
      have hp2 : Hid ((x :: V ++ R').Perm (x0 :: M0)) := by
       refine List.Perm.trans ?_ hperm.out
       rw [← hUV.out]
       simp only [List.nil_append, List.cons_append]
       exact List.perm_middle.symm
      have hk2 : Hid (k + 1 = p.length + (x :: V).length) := by
       have h1 := hk.out
       have h2 := congrArg List.length hUV.out
       simp [Hid] at *; omega
      subst hqa
      clear hV hUV hgt
      go_wp2_with fail
      go_quiet (fail)
      go_wp2
      refine ⟨⟨k + 1, x :: V, R', by go_num, by omega, hk2, by simp, hp2, hs2, by simpa using hR.drewN _⟩, by simp [intOf]; omega⟩
   ·have hRn : R = [] := by
     have h1 := hlen.out
     have h2 := hk.out
     have h3 := hb.out
     apply List.eq_nil_of_length_eq_zero
     simp at h3; omega
    subst hRn
    have hp2 := hperm.out
    rw [List.append_nil] at hp2 hR
    have hs2 := hsort.out
    clear hsort hperm hlen
    replace hp2 := hid hp2
    replace hs2 := hid hs2
    go_wp2
    go_end0
    exact ⟨rfl, D, ⟨hp2.out, hs2.out⟩, hR⟩
end Go.Proofs.YtcjlfkklpghjbaaGreat
