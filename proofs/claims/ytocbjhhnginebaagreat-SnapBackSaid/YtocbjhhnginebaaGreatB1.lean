/-
  Small words for the walks of this seat: blocks that are known whole, worlds that only grew.
  Paths as lists of bytes: their parts, their order; plain laws.
  The last place of a byte in a text: strings.LastIndexByte.
  The parts of a path: the walks of path.Split and of the reference's Split.
  The reference's Split.
  What is a part, what is a path: the walks of path.Right and of the reference's, and of what they call.
  What is a path: the walks of path.Right and of the reference's Right.
  The parent of a path: path.Parent, and the reference's Parent with what it calls.
  The reference's Parent, and glue.
  The order of paths, and what lies under what: cmp.Compare, slices.Compare, slices.Equal, path.Under, the closure of path.Sort; the reference's Under and Less.
  The last part of a path: path.Base.
  The parts of the stable sort that move elements: slices.swapRangeCmpFunc, slices.rotateCmpFunc, over a row of strings that is known whole.
  The insertion sort of paths: slices.insertionSortCmpFunc with path.Sort's comparison.
  slices.symMergeCmpFunc where the first half has one element.
  slices.symMergeCmpFunc where the second half has one element.
  slices.symMergeCmpFunc: two halves in order become one, by halving.
  slices.stableCmpFunc: blocks of 20 in order, merged two by two; then path.Sort.
  path.Sort: the paths in order, in a row of its own.
-/
import Derived.Test.YtocbjhhnginebaaGreatProg
import Derived.Below
import Derived.Deep.Draws
import Derived.OwnWalk
import Derived.Laws.MakeOwn
import Derived.Laws.OwnMore
import Derived.Deep.OwnRows
import Derived.Tactics
import Derived.Laws.Slices
import Derived.WalkKit
import Derived.KernelRfl
import Derived.RowKit3
import Derived.Deep.LoopGhost
import Derived.Deep.QuietTactic
import Derived.BigQuiet
import Derived.WideLaws
import Derived.Deep.DeepCutAuto
import Derived.Deep.RegionHeld3
import Derived.Laws.Rows
import Derived.Laws.IdiomCopy
import Derived.Laws.BitsLemmas
import Derived.RegionTactic
import Derived.BigRegion
import Derived.Outline
import Derived.Maps.AppendAt
import Derived.Deep.AppendLies
import Derived.Lib.Hide
import Derived.Lib.SliceRun
import Derived.WalkSpells
import Derived.WalkLawsBesides
import Derived.Lib.OthersKept
import Derived.Laws.RangeAny
import Derived.Lib.Bytealg
import Derived.Lib.AppendStr
import Derived.Laws.BytesArg
import Derived.StillTailTactics
import Derived.RegionCalls
import Derived.IntWalk
set_option linter.unusedVariables false
set_option linter.unusedSimpArgs false

namespace Go.Proofs.YtocbjhhnginebaaGreat
open Go.RowKit

theorem below_drewN {B : Nat} {w W : World} (h : Below B w W) (n : Nat) : Below B w (W.drewN n) := ⟨h.os, h.tape, h.output, h.size, h.block⟩
theorem below_step {w W w2 : World} (h : Below w.heap.size w W) (k : Below W.heap.size W w2) : Below w.heap.size w w2 := h.trans (k.mono h.size)
theorem below_alloc {w W : World} (h : Below w.heap.size w W) (o : Obj) : Below w.heap.size w (W.alloc o) := h.alloc h.size o

/-- Min and max of ints, as one value. -/
def mn (a b : Int) : Int := if b < a then b else a
def mx (a b : Int) : Int := if a < b then b else a

theorem run_max2 (k k' : IntKind) (x y : Int) : Builtin.max2 (.int k x) (.int k' y) = pure (.int k (mx x y)) := by simp only [Builtin.max2, mx, gt_iff_lt]
theorem run_min2 (k k' : IntKind) (x y : Int) : Builtin.min2 (.int k x) (.int k' y) = pure (.int k (mn x y)) := by simp only [Builtin.min2, mn]
theorem run_max_two (ats : Array TypeId) (ty : TypeId) (a b : Value) : Builtin.max_ ats ty #[a, b] = (Builtin.max2 a b >>= fun s => pure s) := by simp only [Builtin.max_, List.foldlM_cons, List.foldlM_nil]
theorem run_min_two (ats : Array TypeId) (ty : TypeId) (a b : Value) : Builtin.min_ ats ty #[a, b] = (Builtin.min2 a b >>= fun s => pure s) := by simp only [Builtin.min_, List.foldlM_cons, List.foldlM_nil]
theorem run_min_three (ats : Array TypeId) (ty : TypeId) (a b c : Value) : Builtin.min_ ats ty #[a, b, c] = (Builtin.min2 a b >>= fun s => Builtin.min2 s c >>= fun s => pure s) := by simp only [Builtin.min_, List.foldlM_cons, List.foldlM_nil]
attribute [go_sem] run_max2 run_min2 run_max_two run_min_two run_min_three
theorem extract_whole (s : ByteArray) : s.extract 0 s.size = s := by simp
theorem mn_le {a b : Int} (h : a ≤ b) : mn a b = a := if_neg (by omega)
theorem mn_gt {a b : Int} (h : b < a) : mn a b = b := if_pos h
theorem ret_str {a b : ByteArray} (h : a = b) : Ending.returned (.string a) = .returned (.string b) := by rw [h]

/-- What is owned: its block lies from 'base' on, and inside the heap. -/
theorem own_rel {w : World} {base : Nat} {e : TypeId} {size n : Nat} {v : Value} {xs : List Value} (h : w.ownsRow base e size v n xs) : v.ownBlock = none ∨ ∃ b, v.ownBlock = some b ∧ base ≤ b ∧ b < w.heap.size := by
  cases hk : v.ownBlock with
  | none => exact .inl rfl
  | some b => exact .inr ⟨b, rfl, h.lt b hk⟩
theorem own_shape {w : World} {base : Nat} {e : TypeId} {size n : Nat} {v : Value} {xs : List Value} (h : w.ownsRow base e size v n xs) : ∃ A c, v = .slice A n c ∧ n ≤ c ∧ c ≤ maxLen := by
  rcases h.2 with ⟨rfl, rfl⟩ | ⟨g, cap, cur, rfl, _, _, h3, h4, _⟩
  · exact ⟨none, 0, rfl, Nat.le_refl _, by simp [maxLen]⟩
  · exact ⟨_, cap, rfl, h3, h4⟩
theorem own_at {w : World} {base : Nat} {e : TypeId} {size n : Nat} {v : Value} {xs : List Value} (h : w.ownsRow base e size v n xs) (hn : 0 < n) : ∃ g c, v = .slice (some ⟨g, 0, none⟩) n c ∧ base ≤ g ∧ n ≤ c ∧ c ≤ maxLen ∧ v.ownBlock = some g ∧
    ∀ j u, xs[j]? = some u → w.cell? ⟨g, j, none⟩ = some u := by
  rcases h.2 with ⟨_, h0⟩ | ⟨g, cap, cur, rfl, hb, hh, h3, h4, h5, h6⟩
  · omega
  · refine ⟨g, cap, rfl, hb, h3, h4, rfl, fun j u hj => ?_⟩
    rw [cell_of_row w g j cur e (0, 0) hh]
    rw [← h6] at hj
    have hlt : j < (cur.toList.take (n * size)).length := (List.getElem?_eq_some_iff.1 hj).1
    rw [List.getElem?_take] at hj
    split at hj
    · simpa using hj
    · cases hj
theorem own_kept {w w1 : World} {base : Nat} {e : TypeId} {size n : Nat} {v : Value} {xs : List Value} (h : w.ownsRow base e size v n xs) {row : Option Nat} (hg : w.grownBy w1 row) (hne : ∀ b, v.ownBlock = some b → some b ≠ row) : w1.ownsRow base e size v n xs :=
  h.kept hg (by cases hk : v.ownBlock with
    | none => exact .inl rfl
    | some b => exact .inr (hne b hk))
theorem grown_below {w w1 : World} (h : Below w.heap.size w w1) (row : Option Nat) : w.grownBy w1 row := ⟨h.os, h.tape, h.output, h.size, fun i hi _ => h.block i hi⟩
theorem own_below {w w1 : World} {base : Nat} {e : TypeId} {size n : Nat} {v : Value} {xs : List Value} (h : w.ownsRow base e size v n xs) (hb : Below w.heap.size w w1) : w1.ownsRow base e size v n xs :=
  own_kept h (grown_below hb none) (fun _ _ => by simp)
theorem own_drewN {w : World} {base : Nat} {e : TypeId} {size n : Nat} {v : Value} {xs : List Value} (h : w.ownsRow base e size v n xs) (k : Nat) : (w.drewN k).ownsRow base e size v n xs := h
theorem grown_drewN {w w1 : World} {row : Option Nat} {n : Nat} (h : (w.drewN n).grownBy w1 row) : w.grownBy w1 row := ⟨h.os, h.tape, h.output, h.size, h.block⟩
/-- 'append(v, x)' of one element behind its literal: v is the call's own. -/
theorem wp_append1 {P : Program} {ops : Array Oper} {rest : List Oper} {o : Oper} {a : Act} {Q : Exit → Act → World → Prop} {W : World} (base : Nat) (hgd : o.guard = none) (s x : Operand) (t e : TypeId)
    (ho : o.op = .call { callee := .builtin .append, args := #[s, x], argTypes := #[t, t] }) (ht : P.underlying t = some (.slice e)) (z : Value) (size bytes : Nat)
    (hinfo : (P.info? e).map (fun i => (i.zero, i.size, i.bytes)) = some (some z, size, bytes)) (hz : z.cells.size = size) (hsz : 0 < size) (v : Value) (n : Nat) (xs : List Value) (hs : a.eval s = v)
    (cs : List Value) (hx : a.eval x = .slice (some ⟨W.heap.size, 0, none⟩) 1 1) (hown : W.ownsRow base e size v n xs) (hcl : cs.length = size) (h1 : ∀ u ∈ cs, u.oneCell' = true) (h63 : n + 1 ≤ maxLen) (hb : (n + 1) * bytes ≤ 140737488355328) (hbase : base ≤ W.heap.size)
    (h : ∀ v1 w1, w1.ownsRow base e size v1 (n + 1) (xs ++ cs) → W.grownBy w1 v.ownBlock → (v1.ownBlock = v.ownBlock ∨ ∃ b, v1.ownBlock = some b ∧ W.heap.size ≤ b) → wpList P ops Q rest (a.put o.dst v1) w1) :
    wpList P ops Q (o :: rest) a (W.alloc (.cells cs.toArray e)) := by
  obtain ⟨i0, hi, hzz⟩ := Option.map_eq_some_iff.1 hinfo
  simp only [Prod.mk.injEq] at hzz
  obtain ⟨hz0, hz1, hz2⟩ := hzz
  refine wpList_append_own_at (W.alloc (.cells cs.toArray e)) hgd s x t ho base e i0 z size bytes ht hi hz0 hz1 hz2 hz hsz v n xs hs (hown.alloc _) ⟨W.heap.size, 0, none⟩ 1 1 cs hx (by omega) (World.news_of_block (cs := cs.toArray) (t := e) (fr := (0, 0)) (heap_alloc_new W _)) h1 h63 hb (by simp; omega) ?_
  intro v1 w1 hown1 hg _ hat
  refine h v1 w1 hown1 (World.grownBy.trans (World.grownBy_alloc W _ _) hg) ?_
  rcases hat with hat | hat
  · exact .inl hat
  · exact .inr ⟨_, hat, by simp⟩
/-- A literal '[]T{..}' just made. -/
theorem own_made (W : World) (base : Nat) (e : TypeId) (size n : Nat) (cs : List Value) (hb : base ≤ W.heap.size) (hl : cs.length = n * size) (hm : n ≤ maxLen) : (W.alloc (.cells cs.toArray e)).ownsRow base e size (.slice (some ⟨W.heap.size, 0, none⟩) n n) n cs :=
  ⟨hl, .inr ⟨W.heap.size, n, cs.toArray, rfl, hb, heap_alloc_new W _, Nat.le_refl _, hm, by simpa using hl, by rw [← hl]; simp⟩⟩

theorem str_eq (a b : ByteArray) : (a.toList == b.toList) = decide (a = b) := by
  rw [Bool.eq_iff_iff]
  simp only [beq_iff_eq, decide_eq_true_eq, ByteArray.toList_eq]
  constructor
  · intro h
    cases a; cases b
    congr
    exact Array.toList_inj.1 h
  · intro h; rw [h]
theorem str_empty (a : ByteArray) : a.toList.isEmpty = decide (a.size = 0) := by
  rw [ByteArray.toList_eq, Bool.eq_iff_iff]
  simp only [List.isEmpty_iff, decide_eq_true_eq]
  constructor
  · intro h
    have : a.data.toList.length = 0 := by rw [h]; rfl
    rw [Array.length_toList] at this; exact this
  · intro h
    apply List.eq_nil_of_length_eq_zero
    rw [Array.length_toList]; exact h

theorem ret_int {k : IntKind} {a b : Int} (h : a = b) : Ending.returned (.int k a) = .returned (.int k b) := by rw [h]

end Go.Proofs.YtocbjhhnginebaaGreat

namespace Go.Proofs.YtocbjhhnginebaaGreat

abbrev Bytes := List UInt8
def mkS (l : Bytes) : ByteArray := ⟨l.toArray⟩
def bl (s : ByteArray) : Bytes := s.data.toList
theorem bl_mkS (l : Bytes) : bl (mkS l) = l := by simp [bl, mkS]
theorem mkS_bl (s : ByteArray) : mkS (bl s) = s := by cases s; simp [bl, mkS]
theorem bl_length (s : ByteArray) : (bl s).length = s.size := by rw [bl, Array.length_toList]; rfl
theorem mkS_size (l : Bytes) : (mkS l).size = l.length := by rw [← bl_length, bl_mkS]
theorem bl_inj {s t : ByteArray} (h : bl s = bl t) : s = t := by rw [← mkS_bl s, ← mkS_bl t, h]
theorem mkS_inj {a b : Bytes} (h : mkS a = mkS b) : a = b := by rw [← bl_mkS a, ← bl_mkS b, h]
theorem bl_append (a b : ByteArray) : bl (a ++ b) = bl a ++ bl b := by simp [bl]
theorem mkS_append (a b : Bytes) : mkS a ++ mkS b = mkS (a ++ b) := bl_inj (by rw [bl_append, bl_mkS, bl_mkS, bl_mkS])
theorem toList_bl (s : ByteArray) : s.toList = bl s := ByteArray.toList_eq s
theorem bl_extract (s : ByteArray) (i j : Nat) : bl (s.extract i j) = ((bl s).take j).drop i := by
  simp [bl, List.extract_eq_take_drop, List.drop_take]
theorem extract_mkS (s : ByteArray) (i j : Nat) : s.extract i j = mkS (((bl s).take j).drop i) := by
  rw [← bl_extract, mkS_bl]

def bt (s : ByteArray) (i : Nat) : Int := if h : i < s.size then ((s[i]'h).toNat : Int) else 0
theorem bt_at (s : ByteArray) (i : Nat) (h : i < s.size) : ((s[i]'h).toNat : Int) = bt s i := by simp [bt, h]

/-- The parts of a text that is not empty. -/
def splitL : Bytes → List Bytes
  | [] => [[]]
  | c :: r => if c = 47 then [] :: splitL r else
    match splitL r with
    | [] => [[c]]
    | p :: ps => (c :: p) :: ps
def split (s : Bytes) : List Bytes := if s = [] then [] else splitL s
/-- Parts, with '/' between. -/
def glue : List Bytes → Bytes
  | [] => []
  | [p] => p
  | p :: q :: ps => p ++ 47 :: glue (q :: ps)
theorem splitL_ne (s : Bytes) : splitL s ≠ [] := by
  cases s with
  | nil => simp [splitL]
  | cons c r =>
    simp only [splitL]
    split
    · simp
    · split <;> simp
theorem glue_cons (p : Bytes) {l : List Bytes} (h : l ≠ []) : glue (p :: l) = p ++ 47 :: glue l := by
  cases l with
  | nil => exact absurd rfl h
  | cons q ps => rfl
theorem glue_splitL (s : Bytes) : glue (splitL s) = s := by
  induction s with
  | nil => rfl
  | cons c r ih =>
    simp only [splitL]
    split
    · rename_i h
      subst h
      rw [glue_cons _ (splitL_ne r), ih]; rfl
    · split
      · rename_i h; exact absurd h (splitL_ne r)
      · rename_i p ps h
        rw [h] at ih
        cases ps with
        | nil => simp only [glue] at ih ⊢; rw [ih]
        | cons q qs =>
          rw [glue_cons _ (by simp)] at ih ⊢
          rw [List.cons_append, ih]
theorem glue_split (s : Bytes) : glue (split s) = s := by
  unfold split
  split
  · rename_i h; rw [h]; rfl
  · exact glue_splitL s
theorem split_inj {a b : Bytes} (h : split a = split b) : a = b := by rw [← glue_split a, ← glue_split b, h]
theorem split_nil : split [] = [] := rfl
theorem split_ne {s : Bytes} (h : s ≠ []) : split s = splitL s := if_neg h
theorem split_eq_nil {s : Bytes} (h : split s = []) : s = [] := by
  rw [← glue_split s, h]; rfl
/-- No part holds a '/'. -/
theorem splitL_parts (s : Bytes) : ∀ p ∈ splitL s, (47 : UInt8) ∉ p := by
  induction s with
  | nil => simp [splitL]
  | cons c r ih =>
    simp only [splitL]
    split
    · intro p hp
      rcases List.mem_cons.1 hp with h | h
      · subst h; simp
      · exact ih p h
    · rename_i hc
      split
      · rename_i h; exact absurd h (splitL_ne r)
      · rename_i q ps h
        rw [h] at ih
        intro p hp
        rcases List.mem_cons.1 hp with h' | h'
        · subst h'
          intro hm
          rcases List.mem_cons.1 hm with h'' | h''
          · exact hc h''.symm
          · exact ih q (by simp) h''
        · exact ih p (by simp [h'])
theorem split_parts (s : Bytes) : ∀ p ∈ split s, (47 : UInt8) ∉ p := by
  unfold split
  split
  · simp
  · exact splitL_parts s
theorem splitL_one {p : Bytes} (h : (47 : UInt8) ∉ p) : splitL p = [p] := by
  induction p with
  | nil => rfl
  | cons c r ih =>
    have h1 : c ≠ 47 := fun e => h (by simp [e])
    have h2 : (47 : UInt8) ∉ r := fun e => h (by simp [e])
    simp only [splitL]
    rw [if_neg h1, ih h2]
theorem splitL_append (p r : Bytes) (h : (47 : UInt8) ∉ p) : splitL (p ++ 47 :: r) = p :: splitL r := by
  induction p with
  | nil => simp [splitL]
  | cons c q ih =>
    have h1 : c ≠ 47 := fun e => h (by simp [e])
    have h2 : (47 : UInt8) ∉ q := fun e => h (by simp [e])
    simp only [List.cons_append, splitL]
    rw [if_neg h1, ih h2]
theorem splitL_glue {l : List Bytes} (hl : l ≠ []) (h : ∀ p ∈ l, (47 : UInt8) ∉ p) : splitL (glue l) = l := by
  induction l with
  | nil => exact absurd rfl hl
  | cons p ps ih =>
    cases ps with
    | nil => simp only [glue]; exact splitL_one (h p (by simp))
    | cons q qs =>
      rw [glue_cons _ (by simp), splitL_append _ _ (h p (by simp)), ih (by simp) (fun x hx => h x (by simp [hx]))]

/-- A round of the walk over a text: the parts that are done, and the piece that is not. -/
theorem splitL_snoc (s : Bytes) (c : UInt8) : splitL (s ++ [c]) = if c = 47 then splitL s ++ [[]] else (splitL s).dropLast ++ [((splitL s).getLast (splitL_ne s)) ++ [c]] := by
  induction s with
  | nil =>
    simp only [List.nil_append, splitL]
    split <;> simp
  | cons d r ih =>
    simp only [List.cons_append]
    by_cases hd : d = 47
    · subst hd
      simp only [splitL, if_true]
      rw [ih]
      split
      · rfl
      · rw [List.dropLast_cons_of_ne_nil (splitL_ne r), List.getLast_cons (splitL_ne r)]; rfl
    · have hr : ∃ p ps, splitL r = p :: ps := by
        cases h : splitL r with
        | nil => exact absurd h (splitL_ne r)
        | cons p ps => exact ⟨p, ps, rfl⟩
      obtain ⟨p, ps, hp⟩ := hr
      have e1 : splitL (d :: r) = (d :: p) :: ps := by simp only [splitL]; rw [if_neg hd, hp]
      have e2 : splitL (d :: (r ++ [c])) = match splitL (r ++ [c]) with | [] => [[d]] | q :: qs => (d :: q) :: qs := by simp only [splitL]; rw [if_neg hd]
      rw [e2, ih]
      simp only [e1, hp]
      by_cases hc : c = 47
      · simp [hc]
      · simp only [if_neg hc]
        cases ps with
        | nil => simp
        | cons q qs => simp

/-- The order of texts, byte by byte. -/
def cmpB : Bytes → Bytes → Int
  | [], [] => 0
  | [], _ :: _ => -1
  | _ :: _, [] => 1
  | a :: x, b :: y => if a < b then -1 else if b < a then 1 else cmpB x y
theorem less_cmp : ∀ x y : Bytes, Op.bytesLess x y = decide (cmpB x y < 0)
  | [], [] => rfl
  | [], _ :: _ => by simp [Op.bytesLess, cmpB]
  | _ :: _, [] => by simp [Op.bytesLess, cmpB]
  | a :: x, b :: y => by
    simp only [Op.bytesLess, cmpB]
    by_cases h1 : a < b
    · simp [h1]
    · by_cases h2 : b < a
      · have h3 : a ≠ b := fun e => by subst e; exact h1 h2
        simp [h1, h2, h3]
      · have h3 : a = b := UInt8.le_antisymm (UInt8.not_lt.1 h2) (UInt8.not_lt.1 h1)
        subst h3
        simp [less_cmp x y]
theorem cmpB_self : ∀ x : Bytes, cmpB x x = 0
  | [] => rfl
  | a :: x => by simp only [cmpB]; rw [if_neg (UInt8.lt_irrefl a), if_neg (UInt8.lt_irrefl a)]; exact cmpB_self x
theorem cmpB_eq : ∀ {x y : Bytes}, cmpB x y = 0 → x = y
  | [], [], _ => rfl
  | [], _ :: _, h => by simp [cmpB] at h
  | _ :: _, [], h => by simp [cmpB] at h
  | a :: x, b :: y, h => by
    simp only [cmpB] at h
    by_cases h1 : a < b
    · rw [if_pos h1] at h; simp at h
    · rw [if_neg h1] at h
      by_cases h2 : b < a
      · rw [if_pos h2] at h; simp at h
      · rw [if_neg h2] at h
        rw [UInt8.le_antisymm (UInt8.not_lt.1 h2) (UInt8.not_lt.1 h1), cmpB_eq h]
theorem cmpB_swap : ∀ x y : Bytes, cmpB y x = - cmpB x y
  | [], [] => rfl
  | [], _ :: _ => rfl
  | _ :: _, [] => rfl
  | a :: x, b :: y => by
    simp only [cmpB]
    by_cases h1 : a < b
    · have h2 : ¬ b < a := fun h => UInt8.lt_irrefl _ (UInt8.lt_trans h1 h)
      simp [h1, h2]
    · by_cases h2 : b < a
      · simp [h1, h2]
      · rw [if_neg h1, if_neg h2, if_neg h2, if_neg h1, cmpB_swap x y]
theorem cmpB_range : ∀ x y : Bytes, cmpB x y = -1 ∨ cmpB x y = 0 ∨ cmpB x y = 1
  | [], [] => by simp [cmpB]
  | [], _ :: _ => by simp [cmpB]
  | _ :: _, [] => by simp [cmpB]
  | a :: x, b :: y => by
    simp only [cmpB]
    split
    · simp
    · split
      · simp
      · exact cmpB_range x y
theorem cmpB_trans : ∀ {x y z : Bytes}, cmpB x y < 0 → cmpB y z < 0 → cmpB x z < 0
  | [], [], _, h, _ => by simp [cmpB] at h
  | [], _ :: _, [], _, k => by simp [cmpB] at k
  | [], _ :: _, _ :: _, _, _ => by simp [cmpB]
  | _ :: _, [], _, h, _ => by simp [cmpB] at h
  | _ :: _, _ :: _, [], _, k => by simp [cmpB] at k
  | a :: x, b :: y, c :: z, h, k => by
    simp only [cmpB] at h k ⊢
    by_cases h1 : a < b
    · by_cases k1 : b < c
      · rw [if_pos (UInt8.lt_trans h1 k1)]; omega
      · rw [if_neg k1] at k
        by_cases k2 : c < b
        · rw [if_pos k2] at k; omega
        · have e : b = c := UInt8.le_antisymm (UInt8.not_lt.1 k2) (UInt8.not_lt.1 k1)
          subst e; rw [if_pos h1]; omega
    · rw [if_neg h1] at h
      by_cases h2 : b < a
      · rw [if_pos h2] at h; omega
      · rw [if_neg h2] at h
        have e : a = b := UInt8.le_antisymm (UInt8.not_lt.1 h2) (UInt8.not_lt.1 h1)
        subst e
        by_cases k1 : a < c
        · rw [if_pos k1]; omega
        · rw [if_neg k1] at k ⊢
          by_cases k2 : c < a
          · rw [if_pos k2] at k; omega
          · rw [if_neg k2] at k ⊢
            exact cmpB_trans h k

/-- The order of paths: part by part. -/
def cmpL : List Bytes → List Bytes → Int
  | [], [] => 0
  | [], _ :: _ => -1
  | _ :: _, [] => 1
  | a :: x, b :: y => if cmpB a b ≠ 0 then cmpB a b else cmpL x y
theorem cmpL_range : ∀ x y : List Bytes, cmpL x y = -1 ∨ cmpL x y = 0 ∨ cmpL x y = 1
  | [], [] => by simp [cmpL]
  | [], _ :: _ => by simp [cmpL]
  | _ :: _, [] => by simp [cmpL]
  | a :: x, b :: y => by
    simp only [cmpL]
    split
    · exact cmpB_range a b
    · exact cmpL_range x y
theorem cmpL_swap : ∀ x y : List Bytes, cmpL y x = - cmpL x y
  | [], [] => rfl
  | [], _ :: _ => rfl
  | _ :: _, [] => rfl
  | a :: x, b :: y => by
    simp only [cmpL]
    rw [cmpB_swap a b]
    by_cases h : cmpB a b = 0
    · rw [if_neg (by omega), if_neg (by omega), cmpL_swap x y]
    · rw [if_pos (by omega), if_pos h]
theorem cmpL_self : ∀ x : List Bytes, cmpL x x = 0
  | [] => rfl
  | a :: x => by simp only [cmpL]; rw [cmpB_self, if_neg (by simp)]; exact cmpL_self x
theorem cmpL_eq : ∀ {x y : List Bytes}, cmpL x y = 0 → x = y
  | [], [], _ => rfl
  | [], _ :: _, h => by simp [cmpL] at h
  | _ :: _, [], h => by simp [cmpL] at h
  | a :: x, b :: y, h => by
    simp only [cmpL] at h
    by_cases k : cmpB a b = 0
    · rw [if_neg (by omega)] at h
      rw [cmpB_eq k, cmpL_eq h]
    · rw [if_pos k] at h; exact absurd h k
theorem cmpL_trans : ∀ {x y z : List Bytes}, cmpL x y < 0 → cmpL y z < 0 → cmpL x z < 0
  | [], [], _, h, _ => by simp [cmpL] at h
  | [], _ :: _, [], _, k => by simp [cmpL] at k
  | [], _ :: _, _ :: _, _, _ => by simp [cmpL]
  | _ :: _, [], _, h, _ => by simp [cmpL] at h
  | _ :: _, _ :: _, [], _, k => by simp [cmpL] at k
  | a :: x, b :: y, c :: z, h, k => by
    simp only [cmpL] at h k ⊢
    by_cases h1 : cmpB a b = 0
    · rw [if_neg (by omega)] at h
      have e := cmpB_eq h1
      subst e
      by_cases k1 : cmpB a c = 0
      · rw [if_neg (by omega)] at k ⊢
        exact cmpL_trans h k
      · rw [if_pos k1] at k ⊢; exact k
    · rw [if_pos h1] at h
      by_cases k1 : cmpB b c = 0
      · have e := cmpB_eq k1
        subst e
        rw [if_pos h1]; exact h
      · rw [if_pos k1] at k
        have := cmpB_trans h k
        rw [if_pos (by omega)]; exact this
def cmpP (a b : Bytes) : Int := cmpL (split a) (split b)
def lessP (a b : Bytes) : Bool := decide (cmpP a b < 0)
theorem cmpP_eq {a b : Bytes} (h : cmpP a b = 0) : a = b := split_inj (cmpL_eq h)
theorem cmpP_self (a : Bytes) : cmpP a a = 0 := cmpL_self _
theorem cmpP_swap (a b : Bytes) : cmpP b a = - cmpP a b := cmpL_swap _ _
theorem cmpP_trans {a b c : Bytes} (h : cmpP a b < 0) (k : cmpP b c < 0) : cmpP a c < 0 := cmpL_trans h k

/-- What is a part, and what is a path. -/
def partOk (p : Bytes) : Bool := p ≠ [] && decide (p.length ≤ 48) && p ≠ [46] && p ≠ [46, 46] && !p.contains 0
def right (s : Bytes) : Bool := (split s).all partOk && decide ((split s).length ≤ 12) && decide (s.length ≤ 200)
def parent (s : Bytes) : Bytes := glue (split s).dropLast
def base (s : Bytes) : Bytes := (split s).getLastD []
def under (p top : Bytes) : Bool := (split top).isPrefixOf (split p)
end Go.Proofs.YtocbjhhnginebaaGreat

namespace Go.Proofs.YtocbjhhnginebaaGreat
open Go.RowKit
set_option linter.unusedVariables false
set_option linter.unusedSimpArgs false

/-- The last place of a byte among the first n; -1: none. -/
def lastAt (s : ByteArray) (c : Int) : Nat → Int
  | 0 => -1
  | n + 1 => if bt s n = c then (n : Int) else lastAt s c n
theorem lastAt_bd (s : ByteArray) (c : Int) : ∀ n, -1 ≤ lastAt s c n ∧ lastAt s c n < n
  | 0 => by simp [lastAt]
  | n + 1 => by
    have := lastAt_bd s c n
    simp only [lastAt]
    split <;> omega

set_option maxHeartbeats 1000000 in
set_option maxRecDepth 100000 in
theorem lastbyte_calls (s : ByteArray) (c : Int) (w : World) (hs : s.size ≤ maxLen) :
    Calls Tryz.prog 158 #[.string s, .int .u8 c] w fun e w' => e = .returned (.int .i64 (lastAt s c s.size)) ∧ w = w' := by
  unfold maxLen at hs
  go_enter Tryz.func158, Tryz.ntmps158
  go_wp2
  go_loop [5] (fun i => ∃ k : Nat, k ≤ s.size ∧ i = .int .i64 ((k : Int) - 1) ∧ Hid (lastAt s c s.size = lastAt s c k)) (fun i => (intOf i + 1).toNat)
  case atStart => exact ⟨s.size, Nat.le_refl _, rfl, rfl⟩
  case round =>
    obtain ⟨k, hk, rfl, hl⟩ := hrel
    by_cases hz : k = 0
    · subst hz
      have h1 : ¬ (0 ≤ ((0 : Nat) : Int) - 1) := by omega
      go_wp2
      go_ret
      exact ⟨ret_int (by rw [hl.out]; rfl), rfl⟩
    · obtain ⟨j, rfl⟩ : ∃ j, k = j + 1 := ⟨k - 1, by omega⟩
      have e : ((j + 1 : Nat) : Int) - 1 = (j : Int) := by omega
      rw [e]
      clear e
      have hb := bt_at s j (by omega)
      have hj : j < s.size := by omega
      have hl2 : Hid (lastAt s c s.size = if bt s j = c then (j : Int) else lastAt s c j) := hl
      clear hl hz
      by_cases hc : bt s j = c
      · have hc1 : (bt s j == c) = true := by simpa using hc
        have hl3 : Hid (lastAt s c s.size = (j : Int)) := by rw [hl2.out, if_pos hc]; exact Lib.hid rfl
        clear hl2 hc
        go_wp2
        go_ret
        exact ⟨ret_int hl3.out.symm, rfl⟩
      · have hc1 : (bt s j == c) = false := by simpa using hc
        have hl3 : Hid (lastAt s c s.size = lastAt s c j) := by rw [hl2.out, if_neg hc]; exact Lib.hid rfl
        clear hl2 hc
        go_wp2
        go_round
        case rel => exact ⟨j, by omega, rfl, hl3⟩
        case measure => simp [intOf]
theorem last_calls (s : ByteArray) (c : Int) (w : World) (hs : s.size ≤ maxLen) :
    Calls Tryz.prog 147 #[.string s, .int .u8 c] w fun e w' => e = .returned (.int .i64 (lastAt s c s.size)) ∧ w = w' := by
  go_enter Tryz.func147, Tryz.ntmps147
  go_wp2_with fail
  refine (lastbyte_calls s c _ hs).mono ?_
  rintro e w1 ⟨rfl, rfl⟩
  go_wp2
  go_ret
  exact ⟨rfl, rfl⟩


end Go.Proofs.YtocbjhhnginebaaGreat

namespace Go.Proofs.YtocbjhhnginebaaGreat
open Go.RowKit Go.Lib
set_option linter.unusedVariables false
set_option linter.unusedSimpArgs false

/-- A row of the call's own that holds strings. -/
def strs (l : List Bytes) : List Value := l.map fun p => .string (mkS p)
def Strs (B : Nat) (W : World) (v : Value) (l : List Bytes) : Prop := W.ownsRow B 9 1 v l.length (strs l)
theorem Strs.own {B : Nat} {W : World} {v : Value} {l : List Bytes} (h : Strs B W v l) : W.ownsRow B 9 1 v l.length (strs l) := h
theorem Strs.snoc {B : Nat} {W : World} {v : Value} {l : List Bytes} {p : Bytes} (h : W.ownsRow B 9 1 v (l.length + 1) (strs l ++ [.string (mkS p)])) : Strs B W v (l ++ [p]) := by
  unfold Strs; simpa [strs] using h
theorem info_string : (Tryz.prog.info? 9).map (fun i => (i.zero, i.size, i.bytes)) = some (some (.string ⟨#[]⟩), 1, 16) := by kernel_rfl
theorem own_low {w : World} {b base : Nat} {e : TypeId} {size n : Nat} {v : Value} {xs : List Value} (h : w.ownsRow b e size v n xs) (hle : base ≤ b) : w.ownsRow base e size v n xs := by
  refine ⟨h.1, ?_⟩
  rcases h.2 with h2 | ⟨g, cap, cur, hv, hg, r⟩
  · exact .inl h2
  · exact .inr ⟨g, cap, cur, hv, Nat.le_trans hle hg, r⟩

theorem get_bang (s : ByteArray) (i : Nat) (h : i < s.size) : s.get! i = (bl s)[i]'(by rw [bl_length]; exact h) := by
  show s.get! i = _
  show s.data[i]! = s.data.toList[i]'_
  rw [getElem!_pos s.data i h]
  rfl

/-- What a step of the range over a string says of the byte '/'. -/
theorem decode_slash (s : ByteArray) (pos : Nat) (h : pos < s.size) :
    ((((Utf8.decode s pos).1 : Int) == 47) = true ∧ (Utf8.decode s pos).2 = 1 ∧ (bl s)[pos]? = some 47) ∨
    ((((Utf8.decode s pos).1 : Int) == 47) = false ∧ 1 ≤ (Utf8.decode s pos).2 ∧ pos + (Utf8.decode s pos).2 ≤ s.size ∧ ∀ k, k < (Utf8.decode s pos).2 → (bl s)[pos + k]? ≠ some 47) := by
  have hlen := bl_length s
  have hb : ∀ k, pos + k < s.size → (bl s)[pos + k]? = some (s.get! (pos + k)) := fun k hk => by
    rw [get_bang s _ hk]; exact List.getElem?_eq_getElem _
  have hne : ∀ k, pos + k < s.size → (s.get! (pos + k)).toNat ≠ 47 → (bl s)[pos + k]? ≠ some 47 := fun k hk hx he => by
    rw [hb k hk] at he
    injection he with he
    rw [he] at hx; exact hx rfl
  by_cases ha : (s[pos]'h).toNat < 128
  · rw [decode_ascii s pos h ha]
    have e0 : (bl s)[pos]? = some (s[pos]'h) := by
      rw [List.getElem?_eq_getElem (by rw [hlen]; exact h)]; rfl
    by_cases h47 : (s[pos]'h).toNat = 47
    · left
      refine ⟨by simp [h47], rfl, ?_⟩
      rw [e0]; congr 1; exact UInt8.toNat_inj.1 h47
    · right
      refine ⟨?_, Nat.le_refl _, h, ?_⟩
      · rw [beq_eq_false_iff_ne]; simp; omega
      · intro k hk
        obtain rfl : k = 0 := by simp at hk; omega
        rw [Nat.add_zero, e0]
        intro he; injection he with he; rw [he] at h47; exact h47 rfl
  · right
    have h2 := decode_high s pos h (by omega)
    refine ⟨by rw [beq_eq_false_iff_ne]; omega, h2.2, ?_⟩
    have hn0 : ¬ (s.get! (pos + 0)).toNat < 128 := by
      rw [Nat.add_zero, get_bang s pos h]; exact ha
    have f0 : (bl s)[pos + 0]? ≠ some 47 := hne 0 (by simpa using h) (by omega)
    simp only [Utf8.decode]
    rw [if_neg hn0]
    have one : pos + 1 ≤ s.size ∧ ∀ k, k < 1 → (bl s)[pos + k]? ≠ some 47 := ⟨h, fun k hk => by obtain rfl : k = 0 := (by omega); exact f0⟩
    have cont : ∀ k, (decide (pos + k < s.size) && (s.get! (pos + k)).toNat / 64 == 2) = true → pos + k < s.size ∧ (bl s)[pos + k]? ≠ some 47 := fun k hk => by
      simp only [Bool.and_eq_true, decide_eq_true_eq, beq_iff_eq] at hk
      exact ⟨hk.1, hne k hk.1 (by omega)⟩
    split
    · rename_i hc
      simp only [Bool.and_eq_true] at hc
      have c1 := cont 1 (by simpa using hc.2)
      split
      · refine ⟨by simp; omega, fun k hk => ?_⟩
        have : k = 0 ∨ k = 1 := by simp at hk; omega
        rcases this with rfl | rfl
        · exact f0
        · exact c1.2
      · exact one
    · split
      · rename_i hc
        simp only [Bool.and_eq_true] at hc
        have c1 := cont 1 (by simpa using hc.1.2)
        have c2 := cont 2 (by simpa using hc.2)
        split
        · refine ⟨by simp; omega, fun k hk => ?_⟩
          have : k = 0 ∨ k = 1 ∨ k = 2 := by simp at hk; omega
          rcases this with rfl | rfl | rfl
          · exact f0
          · exact c1.2
          · exact c2.2
        · exact one
      · split
        · rename_i hc
          simp only [Bool.and_eq_true] at hc
          have c1 := cont 1 (by simpa using hc.1.1.2)
          have c2 := cont 2 (by simpa using hc.1.2)
          have c3 := cont 3 (by simpa using hc.2)
          split
          · refine ⟨by simp; omega, fun k hk => ?_⟩
            have : k = 0 ∨ k = 1 ∨ k = 2 ∨ k = 3 := by simp at hk; omega
            rcases this with rfl | rfl | rfl | rfl
            · exact f0
            · exact c1.2
            · exact c2.2
            · exact c3.2
          · exact one
        · exact one

/-- How far the parts are known: 'done' the parts behind us, from 'fr' on the piece that is open. -/
def Cut (s : Bytes) (pos fr : Nat) (done : List Bytes) : Prop := fr ≤ pos ∧ pos ≤ s.length ∧ splitL (s.take pos) = done ++ [(s.take pos).drop fr]
theorem Cut.start (s : Bytes) : Cut s 0 0 [] := ⟨Nat.le_refl _, Nat.zero_le _, by simp [splitL]⟩
theorem Cut.slash {s : Bytes} {pos fr : Nat} {done : List Bytes} (h : Cut s pos fr done) (hc : s[pos]? = some 47) : Cut s (pos + 1) (pos + 1) (done ++ [(s.take pos).drop fr]) := by
  obtain ⟨h1, h2, h3⟩ := h
  have hlt : pos < s.length := (List.getElem?_eq_some_iff.1 hc).1
  have he : s[pos] = 47 := (List.getElem?_eq_some_iff.1 hc).2
  refine ⟨Nat.le_refl _, hlt, ?_⟩
  rw [List.take_succ_eq_append_getElem hlt, he, splitL_snoc, if_pos rfl, h3]
  congr 2
  rw [List.drop_eq_nil_of_le]
  simp; omega
theorem Cut.other {s : Bytes} {pos fr : Nat} {done : List Bytes} (h : Cut s pos fr done) (hlt : pos < s.length) (hc : s[pos]? ≠ some 47) : Cut s (pos + 1) fr done := by
  obtain ⟨h1, h2, h3⟩ := h
  have he : s[pos] ≠ 47 := fun e => hc (by rw [List.getElem?_eq_getElem hlt, e])
  refine ⟨by omega, hlt, ?_⟩
  rw [List.take_succ_eq_append_getElem hlt, splitL_snoc, if_neg he]
  simp only [h3]
  rw [List.dropLast_concat, List.getLast_concat, List.drop_append_of_le_length (by simp; omega)]
theorem Cut.others {s : Bytes} {pos fr : Nat} {done : List Bytes} (h : Cut s pos fr done) : ∀ n, pos + n ≤ s.length → (∀ k, k < n → s[pos + k]? ≠ some 47) → Cut s (pos + n) fr done
  | 0, _, _ => h
  | n + 1, hl, hk => (Cut.others h n (by omega) (fun k hk' => hk k (by omega))).other (by omega) (hk n (by omega))
theorem Cut.finish {s : Bytes} {fr : Nat} {done : List Bytes} (h : Cut s s.length fr done) : splitL s = done ++ [s.drop fr] := by
  have := h.2.2
  rwa [List.take_length] at this

theorem slice_of (s : ByteArray) (fr pos : Nat) : s.extract fr pos = mkS (((bl s).take pos).drop fr) := extract_mkS s fr pos

set_option maxHeartbeats 2000000 in
set_option maxRecDepth 100000 in
theorem split_calls (s : ByteArray) (w : World) (hs : s.size ≤ 16777216) :
    Calls Tryz.prog 51 #[.string s] w fun e w' => (∃ v, e = .returned v ∧ Strs w.heap.size w' v (split (bl s))) ∧ Below w.heap.size w w' := by
  by_cases hz : s.size = 0
  · have he : s.toList.isEmpty = true := by rw [str_empty]; simp [hz]
    have hsp : split (bl s) = [] := by
      have : bl s = [] := List.eq_nil_of_length_eq_zero (by rw [bl_length, hz])
      rw [this]; rfl
    rw [hsp]
    clear hsp hz
    go_enter Tryz.func51, Tryz.ntmps51
    go_wp2
    go_ret
    exact ⟨⟨_, rfl, World.ownsRow_nil _ _ _ _⟩, Below.refl _ _⟩
  · have he : s.toList.isEmpty = false := by rw [str_empty]; simp [hz]
    have hne : bl s ≠ [] := fun h => hz (by rw [← bl_length, h]; rfl)
    have hsp : Hid (split (bl s) = splitL (bl s)) := split_ne hne
    have hl := bl_length s
    clear hz hne
    have hit : (w.iter s 0).heap[w.heap.size]? = some (.stringIter s 0) := World.iter_heap ..
    have hb0 : Below w.heap.size w (w.iter s 0) := (Below.refl _ _).alloc (Nat.le_refl _) _
    have hsz0 : (w.iter s 0).heap.size = w.heap.size + 1 := by simp [World.iter]
    go_enter Tryz.func51, Tryz.ntmps51
    go_wp2
    go_loopw [3, 4] (fun out fr W => ∃ (pos f : Nat) (done : List Bytes), fr = .int .i64 f ∧ Cut (bl s) pos f done ∧ done.length ≤ pos ∧ Strs (w.heap.size + 1) W out done ∧ W.heap[w.heap.size]? = some (.stringIter s pos) ∧ w.heap.size + 1 ≤ W.heap.size ∧ Below w.heap.size w W) (fun _ _ W => s.size - W.iterPos w.heap.size)
    case atStart => exact ⟨0, 0, [], rfl, Cut.start _, Nat.le_refl _, World.ownsRow_nil _ _ _ _, hit, by omega, hb0⟩
    case round =>
      clear hit hb0 hsz0
      obtain ⟨pos, f, done, rfl, hcut, hdl, hO, hit, hsz, hW⟩ := hrel
      have hf := hcut.1
      have hps := hcut.2.1
      have hip : wr.iterPos w.heap.size = pos := by simp [World.iterPos, hit]
      by_cases hp : pos < s.size
      · have hd := decode_slash s pos hp
        have hnx := fun ty => run_next_any_at (P := Tryz.prog) wr w.heap.size s pos ty hit hp
        have hit2 := fun q => iterAt_heap wr w.heap.size s pos q hit
        have hO2 : ∀ q, Strs (w.heap.size + 1) (wr.iterAt w.heap.size s q) u3 done := fun q => own_kept hO.own (row := some w.heap.size) ⟨rfl, rfl, rfl, by simp [iterAt_size], fun k _ hk => iterAt_other wr w.heap.size k s q (fun e => hk (by rw [e]))⟩ (fun b hb => by
          rcases own_rel hO.own with h | ⟨x, h, h', _⟩
          · rw [h] at hb; cases hb
          · rw [h] at hb; cases hb; simp; omega)
        have hW2 := fun q => below_iterAt hW (k := w.heap.size) (Nat.le_refl _) s q
        have hsz2 : ∀ q, (wr.iterAt w.heap.size s q).heap.size = wr.heap.size := fun q => iterAt_size ..
        have hd2 := hd
        generalize (Utf8.decode s pos).2 = wd at *
        generalize ((Utf8.decode s pos).1 : Int) = ch at *
        replace hsz2 := Lib.hid hsz2
        replace hd2 := Lib.hid hd2
        replace hit2 := Lib.hid hit2
        replace hip := Lib.hid hip
        clear hit hO hW
        rcases hd with ⟨h47, _⟩ | ⟨h47, _⟩
        · obtain ⟨rfl, hc47⟩ : wd = 1 ∧ (bl s)[pos]? = some 47 := by
            rcases hd2.out with h | h
            · exact h.2
            · rw [h.1] at h47; cases h47
          clear hd2
          replace hc47 := Lib.hid hc47
          go_wp2_with (at_builtin; refine wp_append1 (w.heap.size + 1) rfl (.tmp 17) (.tmp 22) 36 9 rfl Tryz.underlying36 (.string ⟨#[]⟩) 1 16 info_string rfl (by decide) u3 _ _ rfl [.string (s.extract f pos)] rfl (hO2 _).own rfl ?_ ?_ ?_ ?_ ?_)
          · simp [Value.oneCell']
          · simp [maxLen]; omega
          · omega
          · rw [hsz2.out]; exact hsz
          · intro v1 w1 ho1 hg1 hat
            have hO : Strs (w.heap.size + 1) w1 v1 (done ++ [((bl s).take pos).drop f]) := Strs.snoc (by rw [← slice_of]; exact ho1)
            have hrow : ∀ b, u3.ownBlock = some b → w.heap.size + 1 ≤ b := fun b hb => by
              rcases own_rel (hO2 0).own with h | ⟨x, h, h', _⟩
              · rw [h] at hb; cases hb
              · rw [h] at hb; cases hb; exact h'
            have hB : Below w.heap.size w w1 := (hW2 _).grown hg1 (by rw [hsz2.out]; omega) (fun b hb => by have := hrow b hb; omega)
            have hit3 : w1.heap[w.heap.size]? = some (.stringIter s (pos + 1)) := by
              rw [hg1.block _ (by rw [hsz2.out]; omega) (fun e => by have := hrow _ e.symm; omega)]
              exact hit2.out _
            have hsz3 := hg1.size
            rw [hsz2.out] at hsz3
            have hC := hcut.slash hc47.out
            clear ho1 hg1 hat hrow hO2 hW2 hsz2 hnx hcut
            replace hit3 := Lib.hid hit3
            go_wp2
            go_roundw
            case measure => rw [hip.out]; simp [World.iterPos, hit3.out]; omega
            case rel => exact ⟨pos + 1, pos + 1, _, by go_num, hC, by simp; omega, hO, hit3.out, by omega, hB⟩
        · obtain ⟨hw1, hw2, hw3⟩ : 1 ≤ wd ∧ pos + wd ≤ s.size ∧ ∀ k, k < wd → (bl s)[pos + k]? ≠ some 47 := by
            rcases hd2.out with h | h
            · rw [h.1] at h47; cases h47
            · exact h.2
          have hC := hcut.others wd (by omega) hw3
          clear hd2 hw3
          go_wp2
          go_roundw
          case measure => rw [hip.out]; simp [World.iterPos, hit2.out]; omega
          case rel => exact ⟨pos + wd, f, done, rfl, hC, by omega, hO2 _, hit2.out _, by rw [hsz2.out]; exact hsz, hW2 _⟩
      · have hnx := fun ty => run_next_end_at (P := Tryz.prog) wr w.heap.size s pos ty hit hp
        have hpe : pos = s.size := by omega
        have hO2 := hO
        replace hO2 := Lib.hid hO2
        replace hpe := Lib.hid hpe
        replace hip := Lib.hid hip
        replace hit := Lib.hid hit
        clear hO
        go_wp2_with (at_builtin; refine wp_append1 (w.heap.size + 1) rfl (.tmp 26) (.tmp 30) 36 9 rfl Tryz.underlying36 (.string ⟨#[]⟩) 1 16 info_string rfl (by decide) u3 _ _ rfl [.string (s.extract f s.size)] rfl hO2.out.own rfl ?_ ?_ ?_ ?_ ?_)
        · simp [Value.oneCell']
        · simp [maxLen]; omega
        · omega
        · exact hsz
        · intro v1 w1 ho1 hg1 hat
          have hrow : ∀ b, u3.ownBlock = some b → w.heap.size + 1 ≤ b := fun b hb => by
            rcases own_rel hO2.out.own with h | ⟨x, h, h', _⟩
            · rw [h] at hb; cases hb
            · rw [h] at hb; cases hb; exact h'
          have hB : Below w.heap.size w w1 := hW.grown hg1 (by omega) (fun b hb => by have := hrow b hb; omega)
          have hO : Strs w.heap.size w1 v1 (split (bl s)) := by
            have hc2 := hcut
            rw [hpe.out, ← hl] at hc2
            rw [hsp.out, hc2.finish]
            refine own_low (Strs.own (Strs.snoc ?_)) (Nat.le_succ _)
            rw [show (bl s).drop f = ((bl s).take s.size).drop f by rw [← hl, List.take_length], ← slice_of]
            exact ho1
          clear ho1 hg1 hat hrow
          go_wp2
          go_ret
          exact ⟨⟨_, rfl, hO⟩, hB⟩
end Go.Proofs.YtocbjhhnginebaaGreat

namespace Go.Proofs.YtocbjhhnginebaaGreat
open Go.RowKit Go.Lib
set_option linter.unusedVariables false
set_option linter.unusedSimpArgs false

theorem bl_get (s : ByteArray) (i : Nat) (h : i < s.size) : (bl s)[i]? = some s[i] := by
  rw [List.getElem?_eq_getElem (by rw [bl_length]; exact h)]; rfl
theorem byte_is (s : ByteArray) (i : Nat) (c : UInt8) (h : i < s.size) : (((s[i].toNat : Int) == (c.toNat : Int)) = true ∧ (bl s)[i]? = some c) ∨ (((s[i].toNat : Int) == (c.toNat : Int)) = false ∧ (bl s)[i]? ≠ some c) := by
  rw [bl_get s i h]
  by_cases e : s[i] = c
  · left; rw [e]; simp
  · right
    refine ⟨?_, by simpa using e⟩
    rw [beq_eq_false_iff_ne]
    intro h2
    exact e (UInt8.toNat_inj.1 (by omega))

set_option maxHeartbeats 2000000 in
set_option maxRecDepth 100000 in
theorem refsplit_calls (s : ByteArray) (w : World) (hs : s.size ≤ 16777216) :
    Calls Tryz.prog 140 #[.string s] w fun e w' => (∃ v, e = .returned v ∧ Strs w.heap.size w' v (split (bl s))) ∧ Below w.heap.size w w' := by
  by_cases hz : s.size = 0
  · have he : s.toList.isEmpty = true := by rw [str_empty]; simp [hz]
    have hsp : split (bl s) = [] := by
      have : bl s = [] := List.eq_nil_of_length_eq_zero (by rw [bl_length, hz])
      rw [this]; rfl
    rw [hsp]
    clear hsp hz
    go_enter Tryz.func140, Tryz.ntmps140
    go_wp2
    go_ret
    exact ⟨⟨_, rfl, World.ownsRow_nil _ _ _ _⟩, Below.refl _ _⟩
  · have he : s.toList.isEmpty = false := by rw [str_empty]; simp [hz]
    have hne : bl s ≠ [] := fun h => hz (by rw [← bl_length, h]; rfl)
    have hsp : Hid (split (bl s) = splitL (bl s)) := split_ne hne
    have hl := bl_length s
    clear hz hne
    go_enter Tryz.func140, Tryz.ntmps140
    go_wp2
    go_loopw [3, 4, 5] (fun out fr ii W => ∃ (pos f : Nat) (done : List Bytes), ii = .int .i64 pos ∧ fr = .int .i64 f ∧ done.length ≤ pos ∧ pos ≤ s.size + 1 ∧ f ≤ pos ∧ ((pos ≤ s.size ∧ Cut (bl s) pos f done) ∨ (pos = s.size + 1 ∧ done = splitL (bl s))) ∧ Strs w.heap.size W out done ∧ Below w.heap.size w W) (fun _ _ ii _ => s.size + 1 - (intOf ii).toNat)
    case atStart => exact ⟨0, 0, [], rfl, rfl, Nat.le_refl _, by omega, by omega, .inl ⟨by omega, Cut.start _⟩, World.ownsRow_nil _ _ _ _, Below.refl _ _⟩
    case round =>
      obtain ⟨pos, f, done, rfl, rfl, hdl, hpb, hfp, hcase, hO, hW⟩ := hrel
      have hsz := hW.size
      have hrow : ∀ b, u3.ownBlock = some b → w.heap.size ≤ b := fun b hb => by
        rcases own_rel hO.own with h | ⟨x, h, h', _⟩
        · rw [h] at hb; cases hb
        · rw [h] at hb; cases hb; exact h'
      by_cases hp : pos < s.size
      · have hcut : Cut (bl s) pos f done := by
          rcases hcase with h | h
          · exact h.2
          · omega
        clear hcase
        have heq : ((pos : Int) == (s.size : Int)) = false := by rw [beq_eq_false_iff_ne]; omega
        have hle : (pos : Int) ≤ (s.size : Int) := by omega
        have hd := byte_is s pos 47 hp
        replace hO := Lib.hid hO
        rcases hd with ⟨h47, hc47⟩ | ⟨h47, hc47⟩
        · replace hc47 := Lib.hid hc47
          have h47' : ((s[pos].toNat : Int) == 47) = true := h47
          clear h47
          go_wp2_with (at_builtin; refine wp_append1 w.heap.size rfl (.tmp 24) (.tmp 29) 36 9 rfl Tryz.underlying36 (.string ⟨#[]⟩) 1 16 info_string rfl (by decide) u3 _ _ rfl [.string (s.extract f pos)] rfl hO.out.own rfl ?_ ?_ ?_ ?_ ?_)
          · simp [Value.oneCell']
          · simp [maxLen]; omega
          · omega
          · exact hsz
          · intro v1 w1 ho1 hg1 hat
            have hO2 : Strs w.heap.size w1 v1 (done ++ [((bl s).take pos).drop f]) := Strs.snoc (by rw [← slice_of]; exact ho1)
            have hB : Below w.heap.size w w1 := hW.grown hg1 hsz hrow
            have hC := hcut.slash hc47.out
            clear ho1 hg1 hat hrow hcut
            go_wp2
            go_roundw
            case measure => simp [intOf]; omega
            case rel => exact ⟨pos + 1, pos + 1, _, by go_num, by go_num, by simp; omega, by omega, by omega, .inl ⟨by omega, hC⟩, hO2, hB⟩
        · have h47' : ((s[pos].toNat : Int) == 47) = false := h47
          have hC := hcut.other (by omega) hc47
          clear h47 hc47 hrow hcut
          go_wp2
          go_roundw
          case measure => simp [intOf]; omega
          case rel => exact ⟨pos + 1, f, done, by go_num, rfl, by omega, by omega, by omega, .inl ⟨by omega, hC⟩, hO.out, hW⟩
      · by_cases hq : pos = s.size
        · have hcut : Cut (bl s) pos f done := by
            rcases hcase with h | h
            · exact h.2
            · omega
          clear hcase hp
          subst hq
          replace hO := Lib.hid hO
          go_wp2_with (at_builtin; refine wp_append1 w.heap.size rfl (.tmp 24) (.tmp 29) 36 9 rfl Tryz.underlying36 (.string ⟨#[]⟩) 1 16 info_string rfl (by decide) u3 _ _ rfl [.string (s.extract f s.size)] rfl hO.out.own rfl ?_ ?_ ?_ ?_ ?_)
          · simp [Value.oneCell']
          · simp [maxLen]; omega
          · omega
          · exact hsz
          · intro v1 w1 ho1 hg1 hat
            have hO2 : Strs w.heap.size w1 v1 (splitL (bl s)) := by
              have hc2 := hcut
              rw [← hl] at hc2
              rw [hc2.finish]
              refine Strs.snoc ?_
              rw [show (bl s).drop f = ((bl s).take s.size).drop f by rw [← hl, List.take_length], ← slice_of]
              exact ho1
            have hB : Below w.heap.size w w1 := hW.grown hg1 hsz hrow
            have hlen : (splitL (bl s)).length ≤ s.size + 1 := by
              have hc2 := hcut
              rw [← hl] at hc2
              rw [hc2.finish]; simp; omega
            clear ho1 hg1 hat hrow hcut
            go_wp2
            go_roundw
            case measure => simp [intOf]
            case rel => exact ⟨s.size + 1, s.size + 1, _, by go_num, by go_num, hlen, by omega, by omega, .inr ⟨rfl, rfl⟩, hO2, hB⟩
        · have hfin : done = splitL (bl s) := by
            rcases hcase with h | h
            · omega
            · exact h.2
          subst hfin
          have hle : ¬ ((pos : Int) ≤ (s.size : Int)) := by omega
          clear hcase hq hp hrow hpb
          go_wp2
          go_ret
          exact ⟨⟨_, rfl, by rw [hsp.out]; exact hO⟩, hW⟩
end Go.Proofs.YtocbjhhnginebaaGreat

namespace Go.Proofs.YtocbjhhnginebaaGreat
open Go.RowKit Go.Lib
set_option linter.unusedVariables false
set_option linter.unusedSimpArgs false

theorem indexByte_neg : ∀ (l : Bytes) (c : UInt8), decide (Lib.indexByte l c < 0) = !l.contains c
  | [], c => rfl
  | b :: l, c => by
    have ih := indexByte_neg l c
    have hge : -1 ≤ Lib.indexByte l c := by
      clear ih
      induction l with
      | nil => simp [Lib.indexByte]
      | cons d l ih => simp only [Lib.indexByte]; split; omega; split <;> omega
    simp only [Lib.indexByte, List.contains_cons]
    by_cases h : b = c
    · subst h; simp
    · have h1 : (b == c) = false := by simpa using h
      have h2 : (c == b) = false := by simpa using fun e => h e.symm
      simp only [h1, h2, Bool.false_or, ← ih, Bool.false_eq_true, if_false]
      by_cases hm : Lib.indexByte l c = -1
      · simp [hm]
      · have : (Lib.indexByte l c == -1) = false := by simpa using hm
        simp only [this, Bool.false_eq_true, if_false]
        rw [decide_eq_decide]
        omega

set_option maxHeartbeats 1000000 in
set_option maxRecDepth 100000 in
theorem liteindex_calls (s : ByteArray) (c : Int) (w : World) :
    Calls Tryz.prog 151 #[.string s, .int .u8 c] w fun e w' => e = .returned (.int .i64 (Lib.indexByte (bl s) c.toNat.toUInt8)) ∧ w = w' := by
  go_enter Tryz.func151, Tryz.ntmps151
  go_wp2
  rw [run_callFunc_extern Tryz.func160 (by kernel_rfl) (by kernel_rfl) (by kernel_rfl) (e := Extern.BytealgIndexByte.indexByte) (by kernel_rfl), Lib.run_indexByteString]
  simp only [Result.andThen]
  rw [Oper.upon_value]
  go_wp2
  go_ret
  exact ⟨rfl, rfl⟩
theorem indexbyte_calls (s : ByteArray) (c : Int) (w : World) :
    Calls Tryz.prog 122 #[.string s, .int .u8 c] w fun e w' => e = .returned (.int .i64 (Lib.indexByte (bl s) c.toNat.toUInt8)) ∧ w = w' := by
  go_enter Tryz.func122, Tryz.ntmps122
  go_wp2_with fail
  refine (liteindex_calls _ _ _).mono ?_
  rintro e w1 ⟨rfl, rfl⟩
  go_wp2
  go_ret
  exact ⟨rfl, rfl⟩

theorem beq_str (s : ByteArray) (l : Bytes) : (s.toList == l) = decide (bl s = l) := by
  rw [toList_bl, Bool.eq_iff_iff]; simp
theorem partOk_def (s : ByteArray) : partOk (bl s) = (!s.toList.isEmpty && decide ((s.size : Int) ≤ 48) && !(s.toList == [46]) && !(s.toList == [46, 46]) && decide (Lib.indexByte (bl s) 0 < 0)) := by
  rw [indexByte_neg, beq_str, beq_str, str_empty]
  unfold partOk
  have h1 : (decide (bl s ≠ [])) = !decide (s.size = 0) := by
    rw [← bl_length]
    cases bl s <;> simp
  have h2 : decide ((bl s).length ≤ 48) = decide ((s.size : Int) ≤ 48) := by
    rw [bl_length]; simp only [decide_eq_decide]; omega
  rw [h1, h2]
  simp

set_option maxHeartbeats 1000000 in
set_option maxRecDepth 100000 in
theorem part_calls (s : ByteArray) (w : World) :
    Calls Tryz.prog 81 #[.string s] w fun e w' => e = .returned (.bool (partOk (bl s))) ∧ w = w' := by
  have hd := partOk_def s
  have hi := fun W => indexbyte_calls s 0 W
  have e0 : ((0 : Int).toNat.toUInt8) = 0 := rfl
  rw [e0] at hi
  clear e0
  generalize Lib.indexByte (bl s) 0 = n at *
  generalize partOk (bl s) = r at *
  replace hd := Lib.hid hd
  replace hi := Lib.hid hi
  cases b1 : s.toList.isEmpty with
  | true =>
    have hr : Hid (r = false) := by rw [hd.out, b1]; exact Lib.hid rfl
    clear hd hi
    go_enter Tryz.func81, Tryz.ntmps81
    go_wp2
    go_ret
    exact ⟨by rw [hr.out]; rfl, rfl⟩
  | false =>
  by_cases b2 : (s.size : Int) ≤ 48
  · cases b3 : (s.toList == [46]) with
    | true =>
      have hr : Hid (r = false) := by rw [hd.out, b1, b3]; simp [Hid]
      clear hd hi
      go_enter Tryz.func81, Tryz.ntmps81
      go_wp2
      go_ret
      exact ⟨by rw [hr.out]; rfl, rfl⟩
    | false =>
    cases b4 : (s.toList == [46, 46]) with
    | true =>
      have hr : Hid (r = false) := by rw [hd.out, b1, b3, b4]; simp [Hid]
      clear hd hi
      go_enter Tryz.func81, Tryz.ntmps81
      go_wp2
      go_ret
      exact ⟨by rw [hr.out]; rfl, rfl⟩
    | false =>
      have hr : Hid (r = decide (n < 0)) := by rw [hd.out, b1, b3, b4]; simp [Hid, b2]
      clear hd
      go_enter Tryz.func81, Tryz.ntmps81
      go_wp2_with fail
      refine (hi.out _).mono ?_
      rintro e w1 ⟨rfl, rfl⟩
      go_wp2
      go_ret
      exact ⟨by rw [hr.out]; rfl, rfl⟩
  · have hr : Hid (r = false) := by rw [hd.out, b1]; simp [Hid, b2]
    clear hd hi
    go_enter Tryz.func81, Tryz.ntmps81
    go_wp2
    go_ret
    exact ⟨by rw [hr.out]; rfl, rfl⟩
end Go.Proofs.YtocbjhhnginebaaGreat

namespace Go.Proofs.YtocbjhhnginebaaGreat
open Go.RowKit Go.Lib
set_option linter.unusedVariables false
set_option linter.unusedSimpArgs false

/-- A slice that reads as a list of strings. -/
def Rd (W : World) (v : Value) (l : List Bytes) : Prop :=
  ∃ A c, v = .slice A l.length c ∧ l.length ≤ c ∧ c ≤ maxLen ∧ ∀ j u, l[j]? = some u → ∃ g o, A = some ⟨g, o, none⟩ ∧ W.cell? ⟨g, o + j, none⟩ = some (.string (mkS u))
theorem Strs.rd {B : Nat} {W : World} {v : Value} {l : List Bytes} (h : Strs B W v l) : Rd W v l := by
  obtain ⟨A, c, rfl, h1, h2⟩ := own_shape h.own
  refine ⟨A, c, rfl, h1, h2, fun j u hj => ?_⟩
  have hlt : j < l.length := (List.getElem?_eq_some_iff.1 hj).1
  obtain ⟨g, c', e, _, _, _, _, hc⟩ := own_at h.own (by omega)
  simp only [Value.slice.injEq] at e
  refine ⟨g, 0, e.1, ?_⟩
  rw [Nat.zero_add]
  exact hc j _ (by simp [strs, hj])
theorem Rd.shape {W : World} {v : Value} {l : List Bytes} (h : Rd W v l) : ∃ A c, v = .slice A l.length c ∧ l.length ≤ c ∧ c ≤ maxLen := by
  obtain ⟨A, c, h1, h2, h3, _⟩ := h; exact ⟨A, c, h1, h2, h3⟩
theorem Rd.cell {W : World} {A : Option Addr} {n c : Nat} {l : List Bytes} (h : Rd W (.slice A n c) l) {j : Nat} (hj : j < l.length) : ∃ g o, A = some ⟨g, o, none⟩ ∧ W.cell? ⟨g, o + j, none⟩ = some (.string (mkS (l[j]))) := by
  obtain ⟨A', c', e, _, _, hc⟩ := h
  simp only [Value.slice.injEq] at e
  obtain ⟨g, o, h1, h2⟩ := hc j _ (List.getElem?_eq_getElem hj)
  exact ⟨g, o, e.1.trans h1, h2⟩
theorem Rd.below {W W' : World} {v : Value} {l : List Bytes} (h : Rd W v l) (hb : Below W.heap.size W W') : Rd W' v l := by
  obtain ⟨A, c, h1, h2, h3, hc⟩ := h
  refine ⟨A, c, h1, h2, h3, fun j u hj => ?_⟩
  obtain ⟨g, o, e, hcell⟩ := hc j u hj
  exact ⟨g, o, e, (hb.cell (World.block_lt_of_cell? W _ hcell)).trans hcell⟩
theorem Rd.drewN {W : World} {v : Value} {l : List Bytes} (h : Rd W v l) (n : Nat) : Rd (W.drewN n) v l := h
theorem part_mk (p : Bytes) (w : World) : Calls Tryz.prog 81 #[.string (mkS p)] w fun e w' => e = .returned (.bool (partOk p)) ∧ w = w' := by
  have h := part_calls (mkS p) w
  rwa [bl_mkS] at h
theorem split_len (s : Bytes) : (split s).length ≤ s.length + 1 := by
  unfold split
  split
  · simp
  · induction s with
    | nil => simp [splitL]
    | cons c r ih =>
      simp only [splitL]
      split
      · by_cases hr : r = []
        · subst hr; simp [splitL]
        · have := ih hr; simp; omega
      · by_cases hr : r = []
        · subst hr; simp [splitL]
        · have := ih hr
          split
          · simp
          · rename_i h; rw [h] at this; simpa using Nat.le_succ_of_le this

set_option maxHeartbeats 2000000 in
set_option maxRecDepth 100000 in
theorem right_calls (s : ByteArray) (w : World) (hs : s.size ≤ 16777216) :
    Calls Tryz.prog 37 #[.string s] w fun e w' => e = .returned (.bool (right (bl s))) ∧ Below w.heap.size w w' := by
  have h0 := fun W => split_calls s W hs
  have hr : right (bl s) = ((split (bl s)).all partOk && decide (((split (bl s)).length : Int) ≤ 12) && decide ((s.size : Int) ≤ 200)) := by
    unfold right
    rw [bl_length]
    congr 1
    · congr 1; rw [decide_eq_decide]; omega
    · rw [decide_eq_decide]; omega
  have hln := split_len (bl s)
  rw [bl_length] at hln
  generalize split (bl s) = l at *
  generalize right (bl s) = r at *
  replace hr := Lib.hid hr
  replace h0 := Lib.hid h0
  go_enter Tryz.func37, Tryz.ntmps37
  go_wp2_with fail
  refine (h0.out _).mono ?_
  rintro e w1 ⟨⟨v, rfl, hO⟩, hB⟩
  have hR := hO.rd
  obtain ⟨A, c, rfl, hc1, hc2⟩ := hR.shape
  clear hO h0
  unfold maxLen at hc2
  go_wp2
  go_loop [10] (fun i => ∃ k : Nat, i = .int .i64 k ∧ k ≤ l.length ∧ Hid ((l.take k).all partOk = true)) (fun i => l.length - (intOf i).toNat)
  case atStart => exact ⟨0, rfl, Nat.zero_le _, by simp [Hid]⟩
  case round =>
    obtain ⟨k, rfl, hk, hall⟩ := hrel
    by_cases hlt : k < l.length
    · obtain ⟨g, o, rfl, hcell⟩ := hR.cell hlt
      have hp := fun W => part_mk l[k] W
      have hstep : Hid ((l.take (k + 1)).all partOk = partOk l[k]) := by
        unfold Hid
        rw [List.take_succ_eq_append_getElem hlt, List.all_append, hall.out]; simp
      have hfal : Hid (partOk l[k] = false → r = false) := fun h => by
        rw [hr.out]
        have : l.all partOk = false := by
          rw [List.all_eq_false]
          exact ⟨l[k], List.getElem_mem hlt, by simp [h]⟩
        rw [this]; rfl
      replace hp := Lib.hid hp
      clear hR hall
      cases hpk : partOk l[k] with
      | true =>
        rw [hpk] at hp hstep
        clear hfal
        go_wp2_with fail
        refine (hp.out _).mono ?_
        rintro e w2 ⟨rfl, rfl⟩
        go_wp2
        go_round
        case rel => exact ⟨k + 1, by go_num, by omega, hstep⟩
        case measure => simp [intOf]; omega
      | false =>
        rw [hpk] at hp
        have hf := hfal.out hpk
        replace hf := Lib.hid hf
        clear hfal hstep hpk
        go_wp2_with fail
        refine (hp.out _).mono ?_
        rintro e w2 ⟨rfl, rfl⟩
        go_wp2
        go_ret
        exact ⟨by rw [hf.out]; rfl, hB⟩
    · obtain rfl : k = l.length := by omega
      have hrr : Hid (r = (decide ((l.length : Int) ≤ 12) && decide ((s.size : Int) ≤ 200))) := by
        have := hall.out
        rw [List.take_length] at this
        unfold Hid
        rw [hr.out, this, Bool.true_and]
      clear hall hR hlt hk hr
      by_cases h12 : (l.length : Int) ≤ 12
      · by_cases h200 : (s.size : Int) ≤ 200
        · go_wp2
          go_ret
          exact ⟨by rw [hrr.out]; simp [h12, h200], hB⟩
        · go_wp2
          go_ret
          exact ⟨by rw [hrr.out]; simp [h12, h200], hB⟩
      · go_wp2
        go_ret
        exact ⟨by rw [hrr.out]; simp [show ¬ ((l.length : Int) ≤ 12) by omega], hB⟩
end Go.Proofs.YtocbjhhnginebaaGreat

namespace Go.Proofs.YtocbjhhnginebaaGreat
open Go.RowKit Go.Lib
set_option linter.unusedVariables false
set_option linter.unusedSimpArgs false

/-! Plain laws -/
theorem splitL_last (a b : Bytes) (hb : (47 : UInt8) ∉ b) : splitL (a ++ 47 :: b) = splitL a ++ [b] := by
  induction a with
  | nil => simp [splitL, splitL_one hb]
  | cons c r ih =>
    simp only [List.cons_append, splitL]
    rw [ih]
    by_cases hc : c = 47
    · simp [hc]
    · rw [if_neg hc, if_neg hc]
      cases h : splitL r with
      | nil => exact absurd h (splitL_ne r)
      | cons p ps => simp
theorem parent_slash (a b : Bytes) (hb : (47 : UInt8) ∉ b) : parent (a ++ 47 :: b) = a := by
  unfold parent
  rw [split_ne (by simp), splitL_last a b hb, List.dropLast_concat, glue_splitL]
theorem parent_none {a : Bytes} (ha : (47 : UInt8) ∉ a) : parent a = [] := by
  unfold parent split
  split
  · rfl
  · rw [splitL_one ha]; rfl
theorem base_slash (a b : Bytes) (hb : (47 : UInt8) ∉ b) : base (a ++ 47 :: b) = b := by
  unfold base
  rw [split_ne (by simp), splitL_last a b hb]
  simp
theorem base_none {a : Bytes} (ha : (47 : UInt8) ∉ a) : base a = a := by
  unfold base split
  split
  · rename_i h; rw [h]; rfl
  · rw [splitL_one ha]; rfl
theorem bt_is (s : ByteArray) (i : Nat) (h : i < s.size) (c : UInt8) : bt s i = (c.toNat : Int) ↔ (bl s)[i]? = some c := by
  have e : (bl s)[i]? = some (s[i]'h) := by
    rw [List.getElem?_eq_getElem (by rw [bl_length]; exact h)]; rfl
  rw [e, ← bt_at s i h]
  constructor
  · intro h2; congr 1; exact UInt8.toNat_inj.1 (by omega)
  · intro h2; injection h2 with h2; rw [h2]
/-- What the last place of '/' says. -/
theorem last_spec (s : ByteArray) : ∀ n, n ≤ s.size → (lastAt s 47 n = -1 ∧ (47 : UInt8) ∉ (bl s).take n) ∨ (∃ i : Nat, lastAt s 47 n = i ∧ i < n ∧ (bl s)[i]? = some 47 ∧ (47 : UInt8) ∉ ((bl s).take n).drop (i + 1))
  | 0, _ => .inl ⟨rfl, by simp⟩
  | n + 1, h => by
    have hl := bl_length s
    have ht : (bl s).take (n + 1) = (bl s).take n ++ [(bl s)[n]'(by rw [hl]; omega)] := List.take_succ_eq_append_getElem (by rw [hl]; omega)
    simp only [lastAt]
    by_cases hc : bt s n = 47
    · right
      refine ⟨n, by rw [if_pos hc], by omega, (bt_is s n h 47).1 hc, ?_⟩
      rw [List.drop_eq_nil_of_le (by simp; omega)]; simp
    · rw [if_neg hc]
      have hx : (bl s)[n]'(by rw [hl]; omega) ≠ 47 := fun e => hc ((bt_is s n h 47).2 (by rw [List.getElem?_eq_getElem (by rw [hl]; omega), e]))
      rcases last_spec s n (by omega) with ⟨h1, h2⟩ | ⟨i, h1, h2, h3, h4⟩
      · left
        refine ⟨h1, ?_⟩
        rw [ht]
        simp only [List.mem_append, List.mem_singleton]
        rintro (h | h)
        · exact h2 h
        · exact hx h.symm
      · right
        refine ⟨i, h1, by omega, h3, ?_⟩
        rw [ht, List.drop_append_of_le_length (by simp; omega)]
        simp only [List.mem_append, List.mem_singleton]
        rintro (h | h)
        · exact h4 h
        · exact hx h.symm
theorem parent_at (s : ByteArray) : (lastAt s 47 s.size = -1 ∧ parent (bl s) = [] ∧ base (bl s) = bl s) ∨ (∃ i : Nat, lastAt s 47 s.size = i ∧ i < s.size ∧ parent (bl s) = (bl s).take i ∧ base (bl s) = (bl s).drop (i + 1)) := by
  have hl := bl_length s
  rcases last_spec s s.size (Nat.le_refl _) with ⟨h1, h2⟩ | ⟨i, h1, h2, h3, h4⟩
  · rw [← hl, List.take_length] at h2
    exact .inl ⟨h1, parent_none h2, base_none h2⟩
  · rw [← hl, List.take_length] at h4
    have e : bl s = (bl s).take i ++ 47 :: (bl s).drop (i + 1) := by
      have hlt : i < (bl s).length := by rw [hl]; exact h2
      have e47 : (bl s)[i] = 47 := (List.getElem?_eq_some_iff.1 h3).2
      rw [← e47, ← List.drop_eq_getElem_cons hlt, List.take_append_drop]
    refine .inr ⟨i, h1, h2, ?_, ?_⟩
    · have := parent_slash ((bl s).take i) ((bl s).drop (i + 1)) h4
      rwa [← e] at this
    · have := base_slash ((bl s).take i) ((bl s).drop (i + 1)) h4
      rwa [← e] at this

set_option maxHeartbeats 1000000 in
set_option maxRecDepth 100000 in
theorem parent_calls (s : ByteArray) (w : World) (hs : s.size ≤ maxLen) :
    Calls Tryz.prog 118 #[.string s] w fun e w' => e = .returned (.string (mkS (parent (bl s)))) ∧ w = w' := by
  have hl := fun W => last_calls s 47 W hs
  have hsz := hs
  unfold maxLen at hsz
  rcases parent_at s with ⟨h1, h2, _⟩ | ⟨i, h1, hi, h2, _⟩
  · rw [h1] at hl
    rw [h2]
    have e0 : s.extract 0 0 = mkS [] := by rw [extract_mkS]; rfl
    replace hl := Lib.hid hl
    replace e0 := Lib.hid e0
    clear h1 h2
    have em : mx (-1) 0 = 0 := rfl
    go_enter Tryz.func118, Tryz.ntmps118
    go_wp2_with fail
    refine (hl.out _).mono ?_
    rintro e w1 ⟨rfl, rfl⟩
    go_wp2
    go_ret
    exact ⟨ret_str rfl, rfl⟩
  · rw [h1] at hl
    rw [h2]
    have e0 : s.extract 0 i = mkS ((bl s).take i) := by rw [extract_mkS]; rfl
    replace hl := Lib.hid hl
    replace e0 := Lib.hid e0
    clear h1 h2
    have em : mx (i : Int) 0 = i := by unfold mx; split <;> omega
    go_enter Tryz.func118, Tryz.ntmps118
    go_wp2_with fail
    refine (hl.out _).mono ?_
    rintro e w1 ⟨rfl, rfl⟩
    go_wp2
    go_ret
    exact ⟨ret_str e0.out, rfl⟩
end Go.Proofs.YtocbjhhnginebaaGreat

namespace Go.Proofs.YtocbjhhnginebaaGreat
open Go.RowKit Go.Lib
set_option linter.unusedVariables false
set_option linter.unusedSimpArgs false

/-- A row of the call's own that holds bytes. -/
def byteCells (l : Bytes) : List Value := l.map fun b => .int .u8 b.toNat
def Byts (B : Nat) (W : World) (v : Value) (l : Bytes) : Prop := W.ownsRow B 5 1 v l.length (byteCells l)
theorem Byts.own {B : Nat} {W : World} {v : Value} {l : Bytes} (h : Byts B W v l) : W.ownsRow B 5 1 v l.length (byteCells l) := h
theorem strCells_mk (l : Bytes) : strCells (mkS l) = byteCells l := by simp [strCells, byteCells, mkS]
theorem byteCells_append (a b : Bytes) : byteCells (a ++ b) = byteCells a ++ byteCells b := by simp [byteCells]
theorem strOfNums_bytes (l : Bytes) : strOfNums (l.map fun b => (b.toNat : Int)) = mkS l := by
  unfold strOfNums mkS
  congr 2
  rw [List.map_map]
  conv => rhs; rw [← List.map_id l]
  congr 1
  funext b
  simp
theorem Byts.string {B : Nat} {W : World} {v : Value} {l : Bytes} (h : Byts B W v l) : (convert 62 9 v).run Tryz.prog W = .ok (.string (mkS l)) W := by
  by_cases hl : l = []
  · subst hl
    rcases h.2 with ⟨rfl, _⟩ | ⟨g, cap, cur, rfl, _⟩
    · exact run_convert_bytes_nil W 62 5 Tryz.underlying62 Tryz.underlying5 0 0 9 Tryz.underlying9
    · exact run_convert_bytes_arg W 62 5 Tryz.underlying62 Tryz.underlying5 g 0 0 cap [] rfl (fun i hi => by omega) 9 Tryz.underlying9
  · have hp : 0 < l.length := List.length_pos_iff.2 hl
    obtain ⟨g, c, rfl, _, _, _, _, hc⟩ := own_at h.own hp
    rw [← strOfNums_bytes l]
    refine run_convert_bytes_arg W 62 5 Tryz.underlying62 Tryz.underlying5 g 0 l.length c (l.map fun b => (b.toNat : Int)) (by simp) (fun i hi => ?_) 9 Tryz.underlying9
    rw [Nat.zero_add]
    refine hc i _ ?_
    simp [byteCells, hi]
theorem info_byte : Tryz.prog.info? 5 = some (Tryz.prog.types[5]'(by decide +kernel)) := by kernel_rfl
theorem info_u8 : (Tryz.prog.info? 5).map (fun i => (i.zero, i.size, i.bytes)) = some (some (.int .u8 0), 1, 1) := by kernel_rfl
/-- 'append(b, s...)' of a string: b is the call's own. -/
theorem wp_append_str {ops : Array Oper} {rest : List Oper} {o : Oper} {a : Act} {Q : Exit → Act → World → Prop} {W : World} (base : Nat) (hgd : o.guard = none) (s x : Operand)
    (ho : o.op = .call { callee := .builtin .append, args := #[s, x], argTypes := #[62, 9] }) (v : Value) (l : Bytes) (hs : a.eval s = v) (p : Bytes) (hx : a.eval x = .string (mkS p)) (hown : Byts base W v l)
    (hb : l.length + p.length ≤ 140737488355328) (hbase : base ≤ W.heap.size)
    (h : ∀ v1 w1, Byts base w1 v1 (l ++ p) → W.grownBy w1 v.ownBlock → wpList Tryz.prog ops Q rest (a.put o.dst v1) w1) : wpList Tryz.prog ops Q (o :: rest) a W := by
  obtain ⟨i0, hi, hzz⟩ := Option.map_eq_some_iff.1 info_u8
  simp only [Prod.mk.injEq] at hzz
  obtain ⟨hz0, hz1, hz2⟩ := hzz
  refine wpList_append_own_string W hgd s x 62 9 ho base 5 i0 Tryz.underlying62 Tryz.underlying9 hi hz0 hz1 hz2 v l.length (byteCells l) hs hown.own (mkS p) hx ?_ ?_ hbase ?_
  · rw [mkS_size]; simp [maxLen]; omega
  · rw [mkS_size]; exact hb
  · intro v1 w1 h1 hg _
    refine h v1 w1 ?_ hg
    unfold Byts
    rw [byteCells_append, List.length_append, ← strCells_mk p]
    rwa [mkS_size] at h1

theorem glue_snoc (l : List Bytes) (p : Bytes) : glue (l ++ [p]) = if l = [] then p else glue l ++ 47 :: p := by
  induction l with
  | nil => rfl
  | cons q qs ih =>
    rw [if_neg (by simp)]
    cases qs with
    | nil => simp [glue]
    | cons r rs =>
      rw [List.cons_append, glue_cons q (l := r :: rs ++ [p]) (by simp), ih, if_neg (by simp), glue_cons q (l := r :: rs) (by simp)]
      simp
theorem glue_take_le (l : List Bytes) (k : Nat) : (glue (l.take k)).length ≤ (glue l).length := by
  induction l generalizing k with
  | nil => simp [glue]
  | cons p ps ih =>
    cases k with
    | zero => simp [glue]
    | succ k =>
      cases ps with
      | nil => simp [glue]
      | cons q qs =>
        have := ih k
        rw [List.take_succ_cons, glue_cons p (l := q :: qs) (by simp)]
        by_cases hk : (q :: qs).take k = []
        · rw [hk]; simp [glue]
        · rw [glue_cons p hk]; simp; omega

set_option maxHeartbeats 2000000 in
set_option maxRecDepth 100000 in
theorem glue_calls (v : Value) (l : List Bytes) (w : World) (hR : Rd w v l) (hs : (glue l).length ≤ 16777216) :
    Calls Tryz.prog 157 #[v] w fun e w' => e = .returned (.string (mkS (glue l))) ∧ Below w.heap.size w w' := by
  obtain ⟨A, c, rfl, hc1, hc2⟩ := hR.shape
  unfold maxLen at hc2
  go_enter Tryz.func157, Tryz.ntmps157
  go_wp2
  go_loopw [3, 4] (fun b i W => ∃ k : Nat, i = .int .i64 k ∧ k ≤ l.length ∧ Byts w.heap.size W b (glue (l.take k)) ∧ Below w.heap.size w W) (fun _ i _ => l.length - (intOf i).toNat)
  case atStart => exact ⟨0, rfl, Nat.zero_le _, World.ownsRow_nil _ _ _ _, Below.refl _ _⟩
  case round =>
    obtain ⟨k, rfl, hk, hO, hW⟩ := hrel
    have hsz := hW.size
    have hrow : ∀ b, u3.ownBlock = some b → w.heap.size ≤ b := fun b hb => by
      rcases own_rel hO.own with h | ⟨x, h, h', _⟩
      · rw [h] at hb; cases hb
      · rw [h] at hb; cases hb; exact h'
    by_cases hlt : k < l.length
    · have hgl := glue_take_le l (k + 1)
      have hsn := glue_snoc (l.take k) l[k]
      rw [← List.take_succ_eq_append_getElem hlt] at hsn
      have hcell : ∃ g o, A = some ⟨g, o, none⟩ ∧ ∀ W', Below w.heap.size w W' → W'.cell? ⟨g, o + k, none⟩ = some (.string (mkS l[k])) := by
        obtain ⟨g, o, h1, h2⟩ := hR.cell hlt
        exact ⟨g, o, h1, fun W' hb => (hb.cell (World.block_lt_of_cell? w _ h2)).trans h2⟩
      obtain ⟨g, o, rfl, hcell⟩ := hcell
      replace hO := Lib.hid hO
      replace hgl := Lib.hid hgl
      clear hR
      by_cases hz : k = 0
      · subst hz
        have hsn2 : Hid (glue (l.take (0 + 1)) = glue (l.take 0) ++ l[0]) := by
          unfold Hid; rw [hsn, List.take_zero]; simp [glue]
        have hc0 := hcell wr hW
        rw [Nat.add_zero] at hc0
        replace hcell := Lib.hid hcell
        clear hsn
        go_wp2_with (at_builtin; refine wp_append_str w.heap.size rfl (.tmp 16) (.tmp 20) rfl u3 _ rfl l[0] rfl hO.out ?_ hsz ?_)
        · have := hgl.out
          rw [hsn2.out, List.length_append] at this; omega
        · intro v1 w1 ho1 hg1
          have hO2 : Byts w.heap.size w1 v1 (glue (l.take (0 + 1))) := by rw [hsn2.out]; exact ho1
          have hB : Below w.heap.size w w1 := hW.grown hg1 hsz hrow
          clear ho1 hg1 hc0
          go_wp2
          go_roundw
          case measure => simp [intOf]; omega
          case rel => exact ⟨0 + 1, rfl, by omega, hO2, hB⟩
      · have hne : l.take k ≠ [] := by
          intro h
          have := congrArg List.length h
          rw [List.length_take, List.length_nil] at this; omega
        have hsn2 : Hid (glue (l.take (k + 1)) = (glue (l.take k) ++ [47]) ++ l[k]) := by
          unfold Hid; rw [hsn, if_neg hne]; simp
        have hlen2 : Hid ((glue (l.take (k + 1))).length = (glue (l.take k)).length + 1 + l[k].length) := by
          unfold Hid; rw [hsn2.out]; simp; omega
        have hk0 : 0 < k := by omega
        replace hcell := Lib.hid hcell
        clear hsn hne hz
        go_wp2_with (at_builtin; refine wp_append1 w.heap.size rfl (.tmp 13) (.tmp 14) 62 5 rfl Tryz.underlying62 (.int .u8 0) 1 1 info_u8 rfl (by decide) u3 _ _ rfl [.int .u8 47] rfl hO.out.own rfl ?_ ?_ ?_ hsz ?_)
        · simp [Value.oneCell']
        · have := hgl.out
          have := hlen2.out
          simp only [maxLen]; omega
        · have := hgl.out
          have := hlen2.out
          omega
        · intro v1 w1 ho1 hg1 hat
          have hO2 : Byts w.heap.size w1 v1 (glue (l.take k) ++ [47]) := by
            unfold Byts; rw [byteCells_append, List.length_append]; exact ho1
          have hB : Below w.heap.size w w1 := hW.grown hg1 hsz hrow
          have hsz1 := hB.size
          have hc1 := hcell.out w1 hB
          have hrow1 : ∀ b, v1.ownBlock = some b → w.heap.size ≤ b := fun b hb => by
            rcases own_rel hO2.own with h | ⟨x, h, h', _⟩
            · rw [h] at hb; cases hb
            · rw [h] at hb; cases hb; exact h'
          replace hO2 := Lib.hid hO2
          clear ho1 hg1 hat hrow hO
          go_wp2_with (at_builtin; refine wp_append_str w.heap.size rfl (.tmp 16) (.tmp 20) rfl v1 _ rfl l[k] rfl hO2.out ?_ hsz1 ?_)
          · have := hgl.out
            have := hlen2.out
            simp only [List.length_append, List.length_singleton]; omega
          · intro v2 w2 ho2 hg2
            have hO3 : Byts w.heap.size w2 v2 (glue (l.take (k + 1))) := by rw [hsn2.out]; simpa using ho2
            have hB2 : Below w.heap.size w w2 := hB.grown hg2 hsz1 hrow1
            clear ho2 hg2 hc1
            go_wp2
            go_roundw
            case measure => simp [intOf]; omega
            case rel => exact ⟨k + 1, by go_num, by omega, hO3, hB2⟩
    · obtain rfl : k = l.length := by omega
      rw [List.take_length] at hO
      have hcv := hO.string
      clear hrow hR
      go_wp2
      go_ret
      exact ⟨rfl, hW⟩

theorem Rd.take {W : World} {A : Option Addr} {n c : Nat} {l : List Bytes} (h : Rd W (.slice A n c) l) (m : Nat) (hm : m ≤ l.length) : Rd W (.slice A m c) (l.take m) := by
  obtain ⟨A', c', e, h1, h2, hc⟩ := h
  simp only [Value.slice.injEq] at e
  obtain ⟨rfl, rfl, rfl⟩ := e
  refine ⟨A, c, ?_, by simp; omega, h2, fun j u hj => ?_⟩
  · rw [List.length_take, Nat.min_eq_left hm]
  · rw [List.getElem?_take] at hj
    split at hj
    · exact hc j u hj
    · cases hj
theorem parent_le (s : Bytes) : (glue (split s).dropLast).length ≤ s.length := by
  have h := glue_take_le (split s) ((split s).length - 1)
  rw [glue_split, ← List.dropLast_eq_take] at h
  exact h

set_option maxHeartbeats 2000000 in
set_option maxRecDepth 100000 in
theorem refparent_calls (s : ByteArray) (w : World) (hs : s.size ≤ 16777216) :
    Calls Tryz.prog 144 #[.string s] w fun e w' => e = .returned (.string (mkS (parent (bl s)))) ∧ Below w.heap.size w w' := by
  have h0 := fun W => refsplit_calls s W hs
  have hp : parent (bl s) = glue (split (bl s)).dropLast := rfl
  have hle := parent_le (bl s)
  rw [bl_length] at hle
  generalize parent (bl s) = r at *
  generalize split (bl s) = l at *
  replace h0 := Lib.hid h0
  replace hp := Lib.hid hp
  go_enter Tryz.func144, Tryz.ntmps144
  go_wp2_with fail
  refine (h0.out _).mono ?_
  rintro e w1 ⟨⟨v, rfl, hO⟩, hB⟩
  have hR := hO.rd
  obtain ⟨A, c, rfl, hc1, hc2⟩ := hR.shape
  clear hO h0
  by_cases h2 : l.length < 2
  · have he : Hid (r = []) := by
      unfold Hid; rw [hp.out]
      match l, h2 with
      | [], _ => rfl
      | [x], _ => rfl
    have h2' : (l.length : Int) < 2 := by omega
    clear hR hp h2
    go_wp2
    go_ret
    exact ⟨by rw [he.out]; rfl, hB⟩
  · have h2' : ¬ (l.length : Int) < 2 := by omega
    have hR2 : Rd w1 (.slice A (l.length - 1) c) l.dropLast := by
      rw [List.dropLast_eq_take]; exact hR.take _ (by omega)
    have hg := fun W (hb : Below w1.heap.size w1 W) => glue_calls (.slice A (l.length - 1) c) l.dropLast W (hR2.below hb) (by omega)
    obtain ⟨m, hm⟩ : ∃ m, l.length - 1 = m := ⟨_, rfl⟩
    have hm1 : l.length = m + 1 := by omega
    rw [hm] at hg
    rw [← hp.out] at hg
    have hm0 : ¬ ((m : Int) + 1 < 2) := by omega
    rw [hm1] at hc1 ⊢
    replace hg := Lib.hid hg
    clear hR hR2 hp h2 hm hm1 h2' hle
    unfold maxLen at hc2
    go_wp2_with fail
    refine (hg.out _ (Below.refl _ _)).mono ?_
    rintro e w2 ⟨rfl, hb2⟩
    go_wp2
    go_ret
    exact ⟨rfl, below_step hB hb2⟩
end Go.Proofs.YtocbjhhnginebaaGreat

namespace Go.Proofs.YtocbjhhnginebaaGreat
open Go.RowKit Go.Lib
set_option linter.unusedVariables false
set_option linter.unusedSimpArgs false

/-- The three outcomes of a comparison, in the walk's words. -/
theorem cmp_cases (a b : ByteArray) :
    (cmpB (bl a) (bl b) = -1 ∧ Op.bytesLess a.toList b.toList = true) ∨
    (cmpB (bl a) (bl b) = 0 ∧ Op.bytesLess a.toList b.toList = false ∧ (a.toList == b.toList) = true) ∨
    (cmpB (bl a) (bl b) = 1 ∧ Op.bytesLess a.toList b.toList = false ∧ (a.toList == b.toList) = false) := by
  rw [toList_bl, toList_bl, less_cmp]
  rcases cmpB_range (bl a) (bl b) with h | h | h
  · exact .inl ⟨h, by simp [h]⟩
  · exact .inr (.inl ⟨h, by simp [h], by rw [cmpB_eq h]; simp⟩)
  · refine .inr (.inr ⟨h, by simp [h], ?_⟩)
    rw [beq_eq_false_iff_ne]
    intro e
    rw [e, cmpB_self] at h; simp at h

set_option maxHeartbeats 1000000 in
set_option maxRecDepth 100000 in
theorem compare_calls (a b : ByteArray) (w : World) :
    Calls Tryz.prog 129 #[.string a, .string b] w fun e w' => e = .returned (.int .i64 (cmpB (bl a) (bl b))) ∧ w = w' := by
  have h1 : (a.toList == a.toList) = true := by simp
  have h2 : (b.toList == b.toList) = true := by simp
  rcases cmp_cases a b with ⟨h, h3⟩ | ⟨h, h3, h4⟩ | ⟨h, h3, h4⟩
  all_goals
    rw [h]
    clear h
    go_enter Tryz.func129, Tryz.ntmps129
    go_wp2
    go_ret
    exact ⟨rfl, rfl⟩
theorem compare_mk (a b : Bytes) (w : World) :
    Calls Tryz.prog 129 #[.string (mkS a), .string (mkS b)] w fun e w' => e = .returned (.int .i64 (cmpB a b)) ∧ w = w' := by
  have h := compare_calls (mkS a) (mkS b) w
  rwa [bl_mkS, bl_mkS] at h

theorem cmpL_cons (a b : Bytes) (x y : List Bytes) : cmpL (a :: x) (b :: y) = if cmpB a b ≠ 0 then cmpB a b else cmpL x y := rfl
set_option maxHeartbeats 1000000 in
set_option maxRecDepth 100000 in
theorem slcompare_calls (v1 v2 : Value) (x y : List Bytes) (w : World) (h1 : Rd w v1 x) (h2 : Rd w v2 y) :
    Calls Tryz.prog 91 #[v1, v2] w fun e w' => e = .returned (.int .i64 (cmpL x y)) ∧ w = w' := by
  obtain ⟨A, c, rfl, _, _⟩ := h1.shape
  obtain ⟨B, d, rfl, _, _⟩ := h2.shape
  rename_i a1 a2 a3 a4
  unfold maxLen at a2 a4
  go_enter Tryz.func91, Tryz.ntmps91
  go_wp2
  go_loop [11] (fun i => ∃ k : Nat, i = .int .i64 k ∧ k ≤ x.length ∧ k ≤ y.length ∧ Hid (cmpL x y = cmpL (x.drop k) (y.drop k))) (fun i => x.length - (intOf i).toNat)
  case atStart => exact ⟨0, rfl, Nat.zero_le _, Nat.zero_le _, by simp [Hid]⟩
  case round =>
    obtain ⟨k, rfl, hk1, hk2, he⟩ := hrel
    by_cases hx : k < x.length
    · obtain ⟨g, o, rfl, hcx⟩ := h1.cell hx
      by_cases hy : k < y.length
      · obtain ⟨g', o', rfl, hcy⟩ := h2.cell hy
        have hc := fun W => compare_mk x[k] y[k] W
        have he2 : Hid (cmpL x y = if cmpB x[k] y[k] ≠ 0 then cmpB x[k] y[k] else cmpL (x.drop (k + 1)) (y.drop (k + 1))) := by
          unfold Hid; rw [he.out, List.drop_eq_getElem_cons hx, List.drop_eq_getElem_cons hy, cmpL_cons]
        replace hc := Lib.hid hc
        clear he h1 h2
        by_cases hz : cmpB x[k] y[k] = 0
        · have he3 : Hid (cmpL x y = cmpL (x.drop (k + 1)) (y.drop (k + 1))) := by unfold Hid; rw [he2.out, if_neg (by omega)]
          rw [hz] at hc
          clear he2 hz
          go_wp2_with fail
          refine (hc.out _).mono ?_
          rintro e w2 ⟨rfl, rfl⟩
          go_wp2
          go_round
          case rel => exact ⟨k + 1, by go_num, by omega, by omega, he3⟩
          case measure => simp [intOf]; omega
        · have he3 : Hid (cmpL x y = cmpB x[k] y[k]) := by unfold Hid; rw [he2.out, if_pos hz]
          have hz1 : (cmpB x[k] y[k] == 0) = false := by simpa using hz
          have hz2 : (cmpB x[k] y[k] != 0) = true := by simpa using hz
          clear he2 hz
          go_wp2_with fail
          refine (hc.out _).mono ?_
          rintro e w2 ⟨rfl, rfl⟩
          go_wp2
          go_ret
          exact ⟨ret_int he3.out.symm, rfl⟩
      · have hye : y.drop k = [] := List.drop_eq_nil_of_le (by omega)
        have he2 : Hid (cmpL x y = 1) := by unfold Hid; rw [he.out, hye, List.drop_eq_getElem_cons hx]; rfl
        clear he h1 h2 hye
        go_wp2
        go_ret
        exact ⟨ret_int he2.out.symm, rfl⟩
    · have hxe : x.drop k = [] := List.drop_eq_nil_of_le (by omega)
      by_cases hy : k < y.length
      · have he2 : Hid (cmpL x y = -1) := by unfold Hid; rw [he.out, hxe, List.drop_eq_getElem_cons hy]; rfl
        clear he h1 h2 hxe
        have hlt : (x.length : Int) < (y.length : Int) := by omega
        go_wp2
        go_ret
        exact ⟨ret_int he2.out.symm, rfl⟩
      · have hye : y.drop k = [] := List.drop_eq_nil_of_le (by omega)
        have he2 : Hid (cmpL x y = 0) := by unfold Hid; rw [he.out, hxe, hye]; rfl
        have hlt : ¬ (x.length : Int) < (y.length : Int) := by omega
        clear he h1 h2 hxe hye
        go_wp2
        go_ret
        exact ⟨ret_int he2.out.symm, rfl⟩

set_option maxHeartbeats 1000000 in
set_option maxRecDepth 100000 in
theorem slequal_calls (v1 v2 : Value) (x y : List Bytes) (w : World) (h1 : Rd w v1 x) (h2 : Rd w v2 y) :
    Calls Tryz.prog 52 #[v1, v2] w fun e w' => e = .returned (.bool (decide (x = y))) ∧ ∃ n, w.drewN n = w' := by
  obtain ⟨A, c, rfl, _, _⟩ := h1.shape
  obtain ⟨B, d, rfl, _, _⟩ := h2.shape
  rename_i a1 a2 a3 a4
  unfold maxLen at a2 a4
  by_cases hl : x.length = y.length
  · have hl1 : ((x.length : Int) == (y.length : Int)) = true := by rw [beq_iff_eq]; omega
    have hl2 : ((x.length : Int) != (y.length : Int)) = false := by rw [bne_eq_false_iff_eq]; omega
    have hle : y.length ≤ x.length := by omega
    have hle' : x.length ≤ y.length := by omega
    have hext : Hid ((∀ k, k < x.length → x[k]? = y[k]?) → x = y) := fun h => List.ext_getElem? fun k => by
      by_cases hk : k < x.length
      · exact h k hk
      · rw [List.getElem?_eq_none (by omega), List.getElem?_eq_none (by omega)]
    clear hl
    go_enter Tryz.func52, Tryz.ntmps52
    go_wp2
    go_loopw [13] (fun i W => ∃ (k n : Nat), i = .int .i64 k ∧ k ≤ x.length ∧ (∃ n, w.drewN n = W) ∧ Hid (∀ j, j < k → x[j]? = y[j]?)) (fun i _ => x.length - (intOf i).toNat)
    case atStart => exact ⟨0, 0, rfl, Nat.zero_le _, ⟨0, rfl⟩, fun j h => by omega⟩
    case round =>
      obtain ⟨k, _, rfl, hk, ⟨n, rfl⟩, he⟩ := hrel
      by_cases hx : k < x.length
      · have hy : k < y.length := by omega
        obtain ⟨g, o, rfl, hcx⟩ := h1.cell hx
        obtain ⟨g', o', rfl, hcy⟩ := h2.cell hy
        by_cases heq : x[k] = y[k]
        · have hb : ((mkS x[k]).toList == (mkS y[k]).toList) = true := by rw [heq]; simp
          have he2 : Hid (∀ j, j < k + 1 → x[j]? = y[j]?) := fun j hj => by
            by_cases hjk : j = k
            · subst hjk; rw [List.getElem?_eq_getElem hx, List.getElem?_eq_getElem (by omega), heq]
            · exact he.out j (by omega)
          clear he heq h1 h2
          go_wp2
          go_quiet (fail)
          go_wp2
          go_roundw
          case rel => exact ⟨k + 1, 0, by go_num, by omega, ⟨_, rfl⟩, he2⟩
          case measure => simp [intOf]; omega
        · have hb : ((mkS x[k]).toList == (mkS y[k]).toList) = false := by
            rw [str_eq, decide_eq_false_iff_not]; exact fun h => heq (mkS_inj h)
          have hne : Hid (x ≠ y) := fun h => heq (by simp [h])
          clear he heq h1 h2
          go_wp2
          go_quiet (fail)
          go_wp2
          go_ret
          exact ⟨by rw [decide_eq_false hne.out]; rfl, by first | exact ⟨_, rfl⟩ | exact ⟨_, (World.drewN_drewN _ _ _).symm⟩⟩
      · obtain rfl : k = x.length := by omega
        have he2 : Hid (x = y) := hext.out he.out
        clear he hext h1 h2
        go_wp2
        go_ret
        exact ⟨by rw [decide_eq_true he2.out]; rfl, _, rfl⟩
  · have hl1 : ((x.length : Int) == (y.length : Int)) = false := by rw [beq_eq_false_iff_ne]; omega
    have hl2 : ((x.length : Int) != (y.length : Int)) = true := by rw [bne_iff_ne]; omega
    have hne : Hid (x ≠ y) := fun h => hl (by rw [h])
    clear hl
    go_enter Tryz.func52, Tryz.ntmps52
    go_wp2
    go_ret
    exact ⟨by rw [decide_eq_false hne.out]; rfl, 0, rfl⟩

theorem below_of_drewN {w w' : World} (h : ∃ n, w.drewN n = w') : Below w.heap.size w w' := by
  obtain ⟨n, rfl⟩ := h; exact below_drewN (Below.refl _ _) n
theorem under_take (p top : Bytes) : under p top = (decide ((split top).length ≤ (split p).length) && decide ((split p).take (split top).length = split top)) := by
  unfold under
  rw [Bool.eq_iff_iff]
  simp only [List.isPrefixOf_iff_prefix, Bool.and_eq_true, decide_eq_true_eq]
  constructor
  · intro h
    exact ⟨h.length_le, (List.prefix_iff_eq_take.1 h).symm⟩
  · intro h
    exact List.prefix_iff_eq_take.2 h.2.symm

set_option maxHeartbeats 1000000 in
set_option maxRecDepth 100000 in
theorem under_calls (p top : ByteArray) (w : World) (hp : p.size ≤ 16777216) (ht : top.size ≤ 16777216) :
    Calls Tryz.prog 23 #[.string p, .string top] w fun e w' => e = .returned (.bool (under (bl p) (bl top))) ∧ Below w.heap.size w w' := by
  have h1 := fun W => split_calls p W hp
  have h2 := fun W => split_calls top W ht
  have hu := under_take (bl p) (bl top)
  generalize under (bl p) (bl top) = r at *
  generalize split (bl p) = x at *
  generalize split (bl top) = y at *
  replace h1 := Lib.hid h1
  replace h2 := Lib.hid h2
  replace hu := Lib.hid hu
  go_enter Tryz.func23, Tryz.ntmps23
  go_wp2_with fail
  refine (h1.out _).mono ?_
  rintro e w1 ⟨⟨v1, rfl, hO1⟩, hB1⟩
  go_wp2_with fail
  refine (h2.out _).mono ?_
  rintro e w2 ⟨⟨v2, rfl, hO2⟩, hB2⟩
  have hR1 := hO1.rd.below hB2
  have hR2 := hO2.rd
  obtain ⟨A, c, rfl, hc1, hc2⟩ := hR1.shape
  obtain ⟨B, d, rfl, hd1, hd2⟩ := hR2.shape
  clear hO1 hO2 h1 h2
  have hbb := below_step hB1 hB2
  by_cases hl : y.length ≤ x.length
  · have heq := slequal_calls (.slice A y.length c) (.slice B y.length d) (x.take y.length) y w2 (hR1.take _ hl) hR2
    have hu2 : Hid (r = decide (x.take y.length = y)) := by unfold Hid; rw [hu.out]; simp [hl]
    generalize decide (x.take y.length = y) = q at *
    replace heq := Lib.hid heq
    have hl' : (y.length : Int) ≤ (x.length : Int) := by omega
    have hlc : y.length ≤ c := by omega
    unfold maxLen at hc2 hd2
    clear hR1 hR2 hu
    go_wp2_with fail
    refine heq.out.mono ?_
    rintro e w3 ⟨rfl, hw3⟩
    have hb3 := below_of_drewN hw3
    clear hw3
    go_wp2
    go_ret
    exact ⟨by rw [hu2.out]; rfl, below_step hbb hb3⟩
  · have hu2 : Hid (r = false) := by unfold Hid; rw [hu.out]; simp [hl]
    have hl' : ¬ (y.length : Int) ≤ (x.length : Int) := by omega
    clear hR1 hR2 hu
    go_wp2
    go_ret
    exact ⟨by rw [hu2.out]; rfl, hbb⟩

set_option maxHeartbeats 1000000 in
set_option maxRecDepth 100000 in
theorem sortcmp_calls (a b : ByteArray) (w : World) (ha : a.size ≤ 16777216) (hb : b.size ≤ 16777216) :
    Calls Tryz.prog 90 #[.string a, .string b] w fun e w' => e = .returned (.int .i64 (cmpP (bl a) (bl b))) ∧ Below w.heap.size w w' := by
  have h1 := fun W => split_calls a W ha
  have h2 := fun W => split_calls b W hb
  have hu : cmpP (bl a) (bl b) = cmpL (split (bl a)) (split (bl b)) := rfl
  generalize cmpP (bl a) (bl b) = r at *
  generalize split (bl a) = x at *
  generalize split (bl b) = y at *
  replace h1 := Lib.hid h1
  replace h2 := Lib.hid h2
  replace hu := Lib.hid hu
  go_enter Tryz.func90, Tryz.ntmps90
  go_wp2_with fail
  refine (h1.out _).mono ?_
  rintro e w1 ⟨⟨v1, rfl, hO1⟩, hB1⟩
  go_wp2_with fail
  refine (h2.out _).mono ?_
  rintro e w2 ⟨⟨v2, rfl, hO2⟩, hB2⟩
  have hc := slcompare_calls v1 v2 x y w2 (hO1.rd.below hB2) hO2.rd
  rw [← hu.out] at hc
  replace hc := Lib.hid hc
  clear hO1 hO2 h1 h2 hu
  go_wp2_with fail
  refine hc.out.mono ?_
  rintro e w3 ⟨rfl, rfl⟩
  go_wp2
  go_ret
  exact ⟨rfl, below_step hB1 hB2⟩
end Go.Proofs.YtocbjhhnginebaaGreat

namespace Go.Proofs.YtocbjhhnginebaaGreat
open Go.RowKit Go.Lib
set_option linter.unusedVariables false
set_option linter.unusedSimpArgs false

set_option maxHeartbeats 1000000 in
set_option maxRecDepth 100000 in
theorem base_calls (s : ByteArray) (w : World) (hs : s.size ≤ maxLen) :
    Calls Tryz.prog 119 #[.string s] w fun e w' => e = .returned (.string (mkS (base (bl s)))) ∧ w = w' := by
  have hl := fun W => last_calls s 47 W hs
  have hsz := hs
  unfold maxLen at hsz
  have hbl := bl_length s
  rcases parent_at s with ⟨h1, _, h2⟩ | ⟨i, h1, hi, _, h2⟩
  · rw [h1] at hl
    rw [h2, mkS_bl]
    replace hl := Lib.hid hl
    clear h1 h2
    go_enter Tryz.func119, Tryz.ntmps119
    go_wp2_with fail
    refine (hl.out _).mono ?_
    rintro e w1 ⟨rfl, rfl⟩
    go_wp2
    go_ret
    exact ⟨ret_str (by simp), rfl⟩
  · rw [h1] at hl
    rw [h2]
    have e0 : s.extract (i + 1) s.size = mkS ((bl s).drop (i + 1)) := by rw [extract_mkS, ← hbl, List.take_length]
    replace hl := Lib.hid hl
    replace e0 := Lib.hid e0
    clear h1 h2
    go_enter Tryz.func119, Tryz.ntmps119
    go_wp2_with fail
    refine (hl.out _).mono ?_
    rintro e w1 ⟨rfl, rfl⟩
    go_wp2
    go_ret
    exact ⟨ret_str e0.out, rfl⟩
end Go.Proofs.YtocbjhhnginebaaGreat

namespace Go.Proofs.YtocbjhhnginebaaGreat
open Go.RowKit Go.Lib
set_option linter.unusedVariables false
set_option linter.unusedSimpArgs false

/-- Block g is a row of strings with a tail; since w no other old block has turned. -/
structure Row (w W : World) (g : Nat) (l : List Bytes) (pad : List Value) : Prop where
  lt : g < w.heap.size
  h : W.heap[g]? = some (.cells (strs l ++ pad).toArray 9 (0, 0))
  kept : w.grownBy W (some g)
theorem Row.drewN {w W : World} {g : Nat} {l : List Bytes} {pad : List Value} (h : Row w W g l pad) (n : Nat) : Row w (W.drewN n) g l pad := ⟨h.lt, h.h, ⟨h.kept.os, h.kept.tape, h.kept.output, h.kept.size, h.kept.block⟩⟩
theorem Row.cell {w W : World} {g : Nat} {l : List Bytes} {pad : List Value} (h : Row w W g l pad) {i : Nat} {x : Bytes} (hi : l[i]? = some x) : W.cell? ⟨g, i, none⟩ = some (.string (mkS x)) := by
  rw [cell_of_row W g i _ _ _ h.h]
  have hlt : i < l.length := (List.getElem?_eq_some_iff.1 hi).1
  simp only [List.getElem?_toArray]
  rw [List.getElem?_append_left (by simp [strs]; exact hlt)]
  simp [strs, hi]
theorem Row.free {w W : World} {g : Nat} {l : List Bytes} {pad : List Value} (h : Row w W g l pad) (i : Nat) : W.frozen? ⟨g, i, none⟩ = false := by simp [World.frozen?, h.h]
theorem blk_set {w : World} {g : Nat} {t : TypeId} {cs : Array Value} (h : w.heap[g]? = some (.cells cs t (0, 0))) (i : Nat) (u : Value) : (w.setCell ⟨g, i, none⟩ u).heap[g]? = some (.cells (cs.setIfInBounds i u) t (0, 0)) := by
  have hlt : g < w.heap.size := (Array.getElem?_eq_some_iff.1 h).1
  have h' : w.heap[g] = .cells cs t (0, 0) := (Array.getElem?_eq_some_iff.1 h).2
  show (w.heap.modify g _)[g]? = _
  rw [Array.getElem?_eq_getElem (by simpa using hlt), Array.getElem_modify_self, h']
  rfl
theorem Row.set {w W : World} {g : Nat} {l : List Bytes} {pad : List Value} (h : Row w W g l pad) (i : Nat) (hi : i < l.length) (x : Bytes) : Row w (W.setCell ⟨g, i, none⟩ (.string (mkS x))) g (l.set i x) pad := by
  refine ⟨h.lt, ?_, ⟨h.kept.os, h.kept.tape, h.kept.output, by simpa [World.setCell] using h.kept.size, fun k hk hne => ?_⟩⟩
  · rw [blk_set h.h]
    congr 2
    rw [List.setIfInBounds_toArray]
    congr 1
    rw [List.set_append_left _ _ (by simp [strs]; exact hi)]
    simp [strs, List.map_set]
  · rw [Below.heap_setCell _ _ _ _ (fun e => hne (by rw [e]))]; exact h.kept.block k hk hne
theorem Row.start {w : World} {g : Nat} {l : List Bytes} {pad : List Value} (h : w.heap[g]? = some (.cells (strs l ++ pad).toArray 9 (0, 0))) : Row w w g l pad :=
  ⟨(Array.getElem?_eq_some_iff.1 h).1, h, ⟨rfl, rfl, rfl, Nat.le_refl _, fun _ _ _ => rfl⟩⟩
theorem Row.trans {w W W' : World} {g : Nat} {l l' : List Bytes} {pad pad' : List Value} (h : Row w W g l pad) (k : Row W W' g l' pad') : Row w W' g l' pad' :=
  ⟨h.lt, k.h, ⟨k.kept.os.trans h.kept.os, k.kept.tape.trans h.kept.tape, k.kept.output.trans h.kept.output, Nat.le_trans h.kept.size k.kept.size,
    fun i hi hne => (k.kept.block i (Nat.lt_of_lt_of_le hi h.kept.size) hne).trans (h.kept.block i hi hne)⟩⟩
theorem Row.below {w W W' : World} {g : Nat} {l : List Bytes} {pad : List Value} (h : Row w W g l pad) (hb : Below W.heap.size W W') : Row w W' g l pad :=
  ⟨h.lt, by rw [hb.block g (Nat.lt_of_lt_of_le h.lt h.kept.size)]; exact h.h, ⟨hb.os.trans h.kept.os, hb.tape.trans h.kept.tape, hb.output.trans h.kept.output, Nat.le_trans h.kept.size hb.size,
    fun i hi hne => (hb.block i (Nat.lt_of_lt_of_le hi h.kept.size)).trans (h.kept.block i hi hne)⟩⟩

/-- Two ranges of n elements change places. -/
def Swapped (l l' : List Bytes) (a b n : Nat) : Prop := l'.length = l.length ∧ ∀ k, l'[k]? = if a ≤ k ∧ k < a + n then l[k - a + b]? else if b ≤ k ∧ k < b + n then l[k - b + a]? else l[k]?
theorem Swapped.zero (l : List Bytes) (a b : Nat) : Swapped l l a b 0 := ⟨rfl, fun k => by rw [if_neg (by omega), if_neg (by omega)]⟩
theorem Swapped.step {l l' : List Bytes} {a b n : Nat} (h : Swapped l l' a b n) (hab : a + n < b) (hb : b + n < l.length) {x y : Bytes} (hx : l[a + n]? = some x) (hy : l[b + n]? = some y) : Swapped l ((l'.set (a + n) y).set (b + n) x) a b (n + 1) := by
  refine ⟨by simpa using h.1, fun k => ?_⟩
  have hl := h.1
  rw [List.getElem?_set, List.getElem?_set]
  by_cases h1 : b + n = k
  · subst h1
    rw [if_pos rfl, if_pos (by simp; omega), if_neg (by omega), if_pos (by omega), show b + n - b + a = a + n by omega, hx]
  · rw [if_neg h1]
    by_cases h2 : a + n = k
    · subst h2
      rw [if_pos rfl, if_pos (by omega), if_pos (by omega), show a + n - a + b = b + n by omega, hy]
    · rw [if_neg h2, h.2 k]
      by_cases h3 : a ≤ k ∧ k < a + n
      · rw [if_pos h3, if_pos (by omega)]
      · rw [if_neg h3]
        by_cases h4 : b ≤ k ∧ k < b + n
        · rw [if_pos h4, if_neg (by omega), if_pos (by omega)]
        · rw [if_neg h4, if_neg (by omega), if_neg (by omega)]
theorem Swapped.at {l l' : List Bytes} {a b n : Nat} (h : Swapped l l' a b n) (hab : a + n < b) (hb : b + n < l.length) : (∃ x, l[a + n]? = some x ∧ l'[a + n]? = some x) ∧ ∃ y, l[b + n]? = some y ∧ l'[b + n]? = some y := by
  have e1 : l'[a + n]? = l[a + n]? := by rw [h.2, if_neg (by omega), if_neg (by omega)]
  have e2 : l'[b + n]? = l[b + n]? := by rw [h.2, if_neg (by omega), if_neg (by omega)]
  exact ⟨⟨l[a + n], List.getElem?_eq_getElem (by omega), by rw [e1]; exact List.getElem?_eq_getElem (by omega)⟩, ⟨l[b + n], List.getElem?_eq_getElem hb, by rw [e2]; exact List.getElem?_eq_getElem hb⟩⟩

set_option maxHeartbeats 2000000 in
set_option maxRecDepth 100000 in
theorem swaprange_calls (g c : Nat) (l : List Bytes) (pad : List Value) (a b n : Nat) (f : Value) (w W : World) (hR : Row w W g l pad) (hc : l.length ≤ c) (hm : l.length ≤ 4611686018427387904) (hab : a + n ≤ b) (hbl : b + n ≤ l.length) :
    Calls Tryz.prog 177 #[.slice (some ⟨g, 0, none⟩) l.length c, .int .i64 a, .int .i64 b, .int .i64 n, f] W fun e w' => e = .returned (.tuple #[]) ∧ ∃ l', Swapped l l' a b n ∧ Row w w' g l' pad := by
  go_enter Tryz.func177, Tryz.ntmps177
  go_wp2
  go_loopw [10] (fun i W' => ∃ (k : Nat) (l' : List Bytes), i = .int .i64 k ∧ k ≤ n ∧ Swapped l l' a b k ∧ Row w W' g l' pad) (fun i _ => n - (intOf i).toNat)
  case atStart => exact ⟨0, l, rfl, Nat.zero_le _, Swapped.zero _ _ _, hR⟩
  case round =>
    clear hR
    obtain ⟨k, l', rfl, hk, hS, hR⟩ := hrel
    by_cases hlt : k < n
    · obtain ⟨⟨x, hx, hx'⟩, ⟨y, hy, hy'⟩⟩ := hS.at (by omega) (by omega)
      have hlen := hS.1
      have c1 := hR.cell hx'
      have c2 := hR.cell hy'
      have f1 := hR.free (a + k)
      have f2 := hR.free (b + k)
      have hR2 := (hR.set (a + k) (by omega) y).set (b + k) (by simp; omega) x
      have hS2 := hS.step (by omega) (by omega) hx hy
      clear hx hy hx' hy' hR hS hlen
      go_wp2
      go_region
      all_goals go_wp2
      all_goals go_roundw
      case measure => simp [intOf]; omega
      case rel => exact ⟨k + 1, _, by go_num, by omega, hS2, hR2.drewN 1⟩
    · obtain rfl : k = n := by omega
      clear hlt hk
      go_wp2
      go_end0
      exact ⟨rfl, l', hS, hR⟩

/-! Segments -/
theorem get_right (p x : List Bytes) (k : Nat) (h : p.length ≤ k) : (p ++ x)[k]? = x[k - p.length]? := List.getElem?_append_right h
theorem swapped_seg {l' : List Bytes} {p X q Y s : List Bytes} (hXY : X.length = Y.length) (h : Swapped (p ++ X ++ q ++ Y ++ s) l' p.length (p ++ X ++ q).length X.length) : l' = p ++ Y ++ q ++ X ++ s := by
  apply List.ext_getElem?
  intro k
  rw [h.2 k]
  simp only [List.length_append]
  by_cases h1 : p.length ≤ k ∧ k < p.length + X.length
  · rw [if_pos h1]
    have e1 : (p ++ X ++ q ++ Y ++ s)[k - p.length + (p.length + X.length + q.length)]? = Y[k - p.length]? := by
      simp only [List.append_assoc]
      rw [List.getElem?_append_right (by omega), List.getElem?_append_right (by omega), List.getElem?_append_right (by omega), List.getElem?_append_left (by omega)]
      congr 1; omega
    have e2 : (p ++ Y ++ q ++ X ++ s)[k]? = Y[k - p.length]? := by
      simp only [List.append_assoc]
      rw [List.getElem?_append_right (by omega), List.getElem?_append_left (by omega)]
    rw [e1, e2]
  · rw [if_neg h1]
    by_cases h2 : p.length + X.length + q.length ≤ k ∧ k < p.length + X.length + q.length + X.length
    · rw [if_pos h2]
      have e1 : (p ++ X ++ q ++ Y ++ s)[k - (p.length + X.length + q.length) + p.length]? = X[k - (p.length + X.length + q.length)]? := by
        simp only [List.append_assoc]
        rw [List.getElem?_append_right (by omega), List.getElem?_append_left (by omega)]
        congr 1; omega
      have e2 : (p ++ Y ++ q ++ X ++ s)[k]? = X[k - (p.length + X.length + q.length)]? := by
        simp only [List.append_assoc]
        rw [List.getElem?_append_right (by omega), List.getElem?_append_right (by omega), List.getElem?_append_right (by omega), List.getElem?_append_left (by omega)]
        congr 1; omega
      rw [e1, e2]
    · rw [if_neg h2]
      simp only [List.append_assoc]
      by_cases h3 : k < p.length
      · rw [List.getElem?_append_left h3, List.getElem?_append_left h3]
      · rw [get_right p _ _ (by omega), get_right p _ _ (by omega), get_right X _ _ (by omega), get_right Y _ _ (by omega), hXY]
        by_cases h4 : k - p.length - Y.length < q.length
        · rw [List.getElem?_append_left h4, List.getElem?_append_left h4]
        · rw [get_right q _ _ (by omega), get_right q _ _ (by omega), get_right Y _ _ (by omega), get_right X _ _ (by omega), hXY]

theorem swapseg_calls (g c : Nat) (p X q Y s : List Bytes) (pad : List Value) (a b n : Nat) (f : Value) (w W : World) (hR : Row w W g (p ++ X ++ q ++ Y ++ s) pad) (hc : (p ++ X ++ q ++ Y ++ s).length ≤ c) (hm : (p ++ X ++ q ++ Y ++ s).length ≤ 4611686018427387904)
    (ha : a = p.length) (hb : b = (p ++ X ++ q).length) (hn : n = X.length) (hY : Y.length = X.length) (m : Nat) (hlen : m = (p ++ X ++ q ++ Y ++ s).length) :
    Calls Tryz.prog 177 #[.slice (some ⟨g, 0, none⟩) m c, .int .i64 a, .int .i64 b, .int .i64 n, f] W fun e w' => e = .returned (.tuple #[]) ∧ Row w w' g (p ++ Y ++ q ++ X ++ s) pad := by
  subst ha hb hn hlen
  refine (swaprange_calls g c _ pad _ _ _ f w W hR hc hm (by simp) (by simp; omega)).mono ?_
  rintro e w' ⟨rfl, l', hS, hR'⟩
  rw [swapped_seg hY.symm hS] at hR'
  exact ⟨rfl, hR'⟩

theorem take_drop_len {α : Type} (X : List α) (j : Nat) (h : j ≤ X.length) : ∃ A B, X = A ++ B ∧ A.length = j ∧ B.length = X.length - j := ⟨X.take j, X.drop j, (List.take_append_drop j X).symm, by simp; omega, by simp⟩

set_option maxHeartbeats 4000000 in
set_option maxRecDepth 100000 in
theorem rotate_calls (g c : Nat) (p X Y s : List Bytes) (pad : List Value) (a m b N : Nat) (f : Value) (w W : World) (hR : Row w W g (p ++ X ++ Y ++ s) pad) (hc : N ≤ c) (hm : N ≤ 4611686018427387904) (hN : N = (p ++ X ++ Y ++ s).length)
    (ha : a = p.length) (hmm : m = p.length + X.length) (hb : b = p.length + X.length + Y.length) (hX : 0 < X.length) (hY : 0 < Y.length) :
    Calls Tryz.prog 163 #[.slice (some ⟨g, 0, none⟩) N c, .int .i64 a, .int .i64 m, .int .i64 b, f] W fun e w' => e = .returned (.tuple #[]) ∧ Row w w' g (p ++ Y ++ X ++ s) pad := by
  have e1 : (m : Int) - (a : Int) = (X.length : Int) := by omega
  have e2 : (b : Int) - (m : Int) = (Y.length : Int) := by omega
  have hml : m ≤ N := by subst hN hmm; simp
  have hbl : b ≤ N := by subst hN hb; simp; omega
  have hal : a ≤ m := by omega
  have hmb : m ≤ b := by omega
  replace e1 := Lib.hid e1
  replace e2 := Lib.hid e2
  replace ha := Lib.hid ha
  replace hmm := Lib.hid hmm
  replace hb := Lib.hid hb
  replace hN := Lib.hid hN
  go_enter Tryz.func163, Tryz.ntmps163
  go_wp2
  go_loopw [10, 11] (fun i j W' => ∃ A X' Y' B : List Bytes, i = .int .i64 X'.length ∧ j = .int .i64 Y'.length ∧ 0 < X'.length ∧ 0 < Y'.length ∧ Hid (m = p.length + A.length + X'.length ∧ A ++ Y' ++ X' ++ B = Y ++ X ∧ A.length + X'.length + Y'.length + B.length = X.length + Y.length) ∧ Row w W' g (p ++ A ++ X' ++ Y' ++ B ++ s) pad) (fun i j _ => (intOf i).toNat + (intOf j).toNat)
  case atStart => exact ⟨[], X, Y, [], by rw [e1.out], by rw [e2.out], hX, hY, ⟨by rw [hmm.out]; simp, by simp, by simp⟩, by simpa using hR⟩
  case round =>
    clear hR
    obtain ⟨A, X', Y', B, rfl, rfl, hx, hy, hinv, hR⟩ := hrel
    obtain ⟨i1, i2, i3⟩ := hinv.out
    have hNN : N = (p ++ A ++ X' ++ Y' ++ B ++ s).length := by rw [hN.out]; simp; omega
    have hYl : m + Y'.length ≤ N := by rw [hNN, i1]; simp; omega
    have hmN : m ≤ N := by omega
    obtain ⟨st, hst⟩ : ∃ st, st = p.length + A.length := ⟨_, rfl⟩
    have es : (m : Int) - (X'.length : Int) = (st : Int) := by omega
    clear hinv
    replace i1 := Lib.hid i1
    replace i2 := Lib.hid i2
    replace i3 := Lib.hid i3
    replace hNN := Lib.hid hNN
    replace hst := Lib.hid hst
    by_cases heq : X'.length = Y'.length
    · have hcall := swapseg_calls g c (p ++ A) X' [] Y' (B ++ s) pad st m X'.length f w wr (by simpa using hR) (by have := hNN.out; simp at this ⊢; omega) (by have := hNN.out; simp at this ⊢; omega) (by simp [hst.out]) (by simp [i1.out]; omega) rfl heq.symm N (by rw [hNN.out]; simp)
      replace hcall := Lib.hid hcall
      rw [← heq]
      have hfin : Hid (p ++ A ++ Y' ++ [] ++ X' ++ (B ++ s) = p ++ Y ++ X ++ s) := by
        unfold Hid
        have := i2.out
        rw [show p ++ A ++ Y' ++ [] ++ X' ++ (B ++ s) = p ++ (A ++ Y' ++ X' ++ B) ++ s by simp, this]; simp
      clear hR heq
      go_wp2_with fail
      refine hcall.out.mono ?_
      rintro e w2 ⟨rfl, hR2⟩
      rw [hfin.out] at hR2
      go_wp2
      go_end0
      exact ⟨rfl, hR2⟩
    · have hne : ((X'.length : Int) == (Y'.length : Int)) = false := by rw [beq_eq_false_iff_ne]; omega
      have hne2 : ((X'.length : Int) != (Y'.length : Int)) = true := by rw [bne_iff_ne]; omega
      by_cases hgt : Y'.length < X'.length
      · obtain ⟨X1, X2, hX12, hx1, hx2⟩ := take_drop_len X' Y'.length (by omega)
        have hcall := swapseg_calls g c (p ++ A) X1 X2 Y' (B ++ s) pad st m Y'.length f w wr (by rw [hX12] at hR; simpa using hR) (by have := hNN.out; rw [hX12] at this; simp at this ⊢; omega) (by have := hNN.out; rw [hX12] at this; simp at this ⊢; omega) (by simp [hst.out]) (by rw [i1.out, hX12]; simp; omega) hx1.symm hx1.symm N (by rw [hNN.out, hX12]; simp)
        have ei : (X'.length : Int) - (Y'.length : Int) = (X2.length : Int) := by omega
        have hi : Hid (m = p.length + (A ++ Y').length + X2.length ∧ (A ++ Y') ++ X1 ++ X2 ++ B = Y ++ X ∧ (A ++ Y').length + X2.length + X1.length + B.length = X.length + Y.length) := by
          have h1 := i1.out
          have h3 := i3.out
          have h2 := i2.out
          rw [hX12] at h2
          exact ⟨by simp; omega, by rw [← h2]; simp, by simp; omega⟩
        have hy1 : X1.length = Y'.length := hx1
        have hx20 : 0 < X2.length := by omega
        replace hcall := Lib.hid hcall
        replace hX12 := Lib.hid hX12
        replace hx1 := Lib.hid hx1
        replace hx2 := Lib.hid hx2
        replace hy1 := Lib.hid hy1
        clear hR heq
        go_wp2_with fail
        refine hcall.out.mono ?_
        rintro e w2 ⟨rfl, hR2⟩
        go_wp2
        go_roundw
        case measure => simp [intOf]; omega
        case rel => exact ⟨A ++ Y', X2, X1, B, rfl, by rw [hy1.out], hx20, by rw [hy1.out]; exact hy, hi, by simpa using hR2⟩
      · obtain ⟨Y1, Y2, hY12, hy1, hy2⟩ := take_drop_len Y' (Y'.length - X'.length) (by omega)
        have hy2' : Y2.length = X'.length := by omega
        obtain ⟨sb, hsb⟩ : ∃ sb, sb = m + Y'.length - X'.length := ⟨_, rfl⟩
        have esb : (m : Int) + (Y'.length : Int) - (X'.length : Int) = (sb : Int) := by omega
        have hcall := swapseg_calls g c (p ++ A) X' Y1 Y2 (B ++ s) pad st sb X'.length f w wr (by rw [hY12] at hR; simpa using hR) (by have := hNN.out; rw [hY12] at this; simp at this ⊢; omega) (by have := hNN.out; rw [hY12] at this; simp at this ⊢; omega) (by simp [hst.out]) (by have := i1.out; simp; omega) rfl hy2' N (by rw [hNN.out, hY12]; simp)
        have ei : (Y'.length : Int) - (X'.length : Int) = (Y1.length : Int) := by omega
        have hi : Hid (m = p.length + A.length + Y2.length ∧ A ++ Y1 ++ Y2 ++ (X' ++ B) = Y ++ X ∧ A.length + Y2.length + Y1.length + (X' ++ B).length = X.length + Y.length) := by
          have h1 := i1.out
          have h3 := i3.out
          have h2 := i2.out
          rw [hY12] at h2
          exact ⟨by omega, by rw [← h2]; simp, by simp; omega⟩
        have hy10 : 0 < Y1.length := by omega
        have hy20 : 0 < Y2.length := by omega
        have hsl : sb + X'.length ≤ N := by omega
        replace hcall := Lib.hid hcall
        replace hY12 := Lib.hid hY12
        replace hy1 := Lib.hid hy1
        replace hy2 := Lib.hid hy2
        replace hy2' := Lib.hid hy2'
        replace hsb := Lib.hid hsb
        have hgt2 : ¬ ((Y'.length : Int) < (X'.length : Int)) := by omega
        clear hR heq
        go_wp2_with fail
        refine hcall.out.mono ?_
        rintro e w2 ⟨rfl, hR2⟩
        go_wp2
        go_roundw
        case measure => simp [intOf]; omega
        case rel => exact ⟨A, Y2, Y1, X' ++ B, by rw [hy2'.out], rfl, hy20, hy10, hi, by simpa using hR2⟩
end Go.Proofs.YtocbjhhnginebaaGreat

namespace Go.Proofs.YtocbjhhnginebaaGreat
open Go.RowKit Go.Lib
set_option linter.unusedVariables false
set_option linter.unusedSimpArgs false

def leP (a b : Bytes) : Prop := cmpP a b ≤ 0
theorem leP_trans {a b c : Bytes} (h : leP a b) (k : leP b c) : leP a c := by
  unfold leP at *
  rcases Int.lt_or_eq_of_le h with h1 | h1
  · rcases Int.lt_or_eq_of_le k with k1 | k1
    · exact Int.le_of_lt (cmpP_trans h1 k1)
    · rw [cmpP_eq k1] at h; exact h
  · rw [cmpP_eq h1]; exact k
theorem leP_of_not {a b : Bytes} (h : ¬ cmpP a b < 0) : leP b a := by
  unfold leP; rw [cmpP_swap a b]; omega
theorem leP_of_lt {a b : Bytes} (h : cmpP a b < 0) : leP a b := Int.le_of_lt h
abbrev Sorted (l : List Bytes) : Prop := l.Pairwise leP
def cmpV : Value := .func (.func 90) #[] #[]
theorem cmp_mk (a b : Bytes) (w : World) (ha : a.length ≤ 16777216) (hb : b.length ≤ 16777216) :
    Calls Tryz.prog 90 #[.string (mkS a), .string (mkS b)] w fun e w' => e = .returned (.int .i64 (cmpP a b)) ∧ Below w.heap.size w w' := by
  have h := sortcmp_calls (mkS a) (mkS b) w (by rw [mkS_size]; exact ha) (by rw [mkS_size]; exact hb)
  rwa [bl_mkS, bl_mkS] at h

theorem insort_step (U V : List Bytes) (u x : Bytes) (hs : Sorted (U ++ [u] ++ V)) (hux : ¬ cmpP x u < 0) (hV : ∀ v ∈ V, cmpP x v < 0) : Sorted (U ++ [u] ++ x :: V) := by
  have h1 := leP_of_not hux
  unfold Sorted at hs ⊢
  rw [List.pairwise_append] at hs ⊢
  obtain ⟨a1, a2, a3⟩ := hs
  refine ⟨a1, List.Pairwise.cons (fun v hv => leP_of_lt (hV v hv)) a2, fun y hy z hz => ?_⟩
  rcases List.mem_cons.1 hz with h | h
  · subst h
    rw [List.pairwise_append] at a1
    rcases List.mem_append.1 hy with h2 | h2
    · exact leP_trans (a1.2.2 y h2 u (by simp)) h1
    · simp at h2; subst h2; exact h1
  · exact a3 y hy z h

set_option maxHeartbeats 4000000 in
set_option maxRecDepth 100000 in
theorem insort_calls (g c : Nat) (p M s : List Bytes) (pad : List Value) (a b N : Nat) (w W : World) (hR : Row w W g (p ++ M ++ s) pad) (hc : N ≤ c) (hm : N ≤ 4611686018427387904) (hN : N = (p ++ M ++ s).length)
    (ha : a = p.length) (hb : b = p.length + M.length) (hsz : ∀ x ∈ M, x.length ≤ 16777216) :
    Calls Tryz.prog 153 #[.slice (some ⟨g, 0, none⟩) N c, .int .i64 a, .int .i64 b, .func (.func 90) #[] #[]] W fun e w' => e = .returned (.tuple #[]) ∧ ∃ M' : List Bytes, (M'.Perm M ∧ Sorted M') ∧ Row w w' g (p ++ M' ++ s) pad := by
  have hbN : b ≤ N := by subst hb hN; simp
  have hab : a ≤ b := by omega
  by_cases hM : M = []
  · subst hM
    have hba : b = a := by simp at hb; omega
    subst hba
    clear hb
    go_enter Tryz.func153, Tryz.ntmps153
    go_wp2
    refine wp_loop_rounds 1 ?_
    rw [rounds_succ]
    go_wp2
    go_end0
    exact ⟨rfl, [], ⟨List.Perm.refl _, List.Pairwise.nil⟩, hR⟩
  · obtain ⟨x0, M0, rfl⟩ : ∃ x0 M0, M = x0 :: M0 := by cases M with | nil => exact absurd rfl hM | cons x xs => exact ⟨x, xs, rfl⟩
    replace hb := Lib.hid hb
    replace ha := Lib.hid ha
    replace hN := Lib.hid hN
    clear hM
    go_enter Tryz.func153, Tryz.ntmps153
    go_wp2
    go_loopw [8] (fun i W' => ∃ (k : Nat) (D R : List Bytes), i = .int .i64 k ∧ k ≤ b + 1 ∧ Hid (k = p.length + D.length) ∧ 0 < D.length ∧ Hid ((D ++ R).Perm (x0 :: M0)) ∧ Hid (Sorted D) ∧ Row w W' g (p ++ (D ++ R) ++ s) pad) (fun i _ => b + 1 - (intOf i).toNat)
    case atStart => exact ⟨a + 1, [x0], M0, by go_num, by omega, by unfold Hid; rw [ha.out]; rfl, by simp, List.Perm.refl _, by simp [Hid, Sorted], hR⟩
    case round =>
      clear hR
      obtain ⟨k, D, R, rfl, hkb, hk, hD, hperm, hsort, hR⟩ := hrel
      have hlen : Hid (D.length + R.length = M0.length + 1) := by
        have := hperm.out.length_eq
        simpa [Hid] using this
      by_cases hlt : k < b
      · obtain ⟨x, R', rfl⟩ : ∃ x R', R = x :: R' := by
          cases R with
          | nil => have h1 := hlen.out; have h2 := hk.out; have h3 := hb.out; simp at h1 h3; omega
          | cons x xs => exact ⟨x, xs, rfl⟩
        go_wp2
        go_loopw [9] (fun j W' => ∃ (q : Nat) (U V : List Bytes), j = .int .i64 q ∧ Hid (q = p.length + U.length) ∧ a ≤ q ∧ q < b ∧ Hid (U ++ V = D) ∧ Hid (∀ v ∈ V, cmpP x v < 0) ∧ Row w W' g (p ++ (U ++ x :: V ++ R') ++ s) pad) (fun j _ => (intOf j).toNat)
        case atStart => exact ⟨k, D, [], rfl, hk, by have := hk.out; have := ha.out; omega, hlt, by simp [Hid], by simp [Hid], by simpa using hR⟩
        case round =>
          clear hR
          obtain ⟨q, U, V, rfl, hq, haq, hqb, hUV, hV, hR⟩ := hrel
          by_cases hgt : a < q
          · obtain ⟨U', u, rfl⟩ : ∃ U' u, U = U' ++ [u] := by
              have h1 := hq.out
              have h2 := ha.out
              have : U ≠ [] := fun h => by rw [h] at h1; simp at h1; omega
              exact ⟨U.dropLast, U.getLast this, (List.dropLast_concat_getLast this).symm⟩
            obtain ⟨q', hq'⟩ : ∃ q', q = q' + 1 := ⟨q - 1, by omega⟩
            have hq2 : q' = p.length + U'.length := by have := hq.out; simp at this; omega
            have hi1 : (p ++ (U' ++ [u] ++ x :: V ++ R') ++ s)[q]? = some x := by
              rw [hq', hq2]
              simp only [List.append_assoc]
              rw [get_right p _ _ (by omega), get_right U' _ _ (by omega), show p.length + U'.length + 1 - p.length - U'.length = 1 by omega]
              rfl
            have hi2 : (p ++ (U' ++ [u] ++ x :: V ++ R') ++ s)[q']? = some u := by
              rw [hq2]
              simp only [List.append_assoc]
              rw [get_right p _ _ (by omega), get_right U' _ _ (by omega), show p.length + U'.length - p.length - U'.length = 0 by omega]
              rfl
            have hc1 := hR.cell hi1
            have hc2 := hR.cell hi2
            have hxs : x.length ≤ 16777216 := hsz x (hperm.out.mem_iff.1 (by simp))
            have hus : u.length ≤ 16777216 := hsz u (hperm.out.mem_iff.1 (by rw [← hUV.out]; simp))
            have hcmp := fun W' => cmp_mk x u W' hxs hus
            have hqN : (q : Int) < (N : Int) := by omega
            have hqN' : (q' : Int) < (N : Int) := by omega
            have hw1 : IntKind.i64.wrap ((q : Int) - 1) = (q' : Int) := by rw [IntWalk.i64_in _ (by omega)]; omega
            have hgt' : (a : Int) < (q : Int) := by omega
            clear hi1 hi2 hsz
            replace hq' := Lib.hid hq'
            replace hq2 := Lib.hid hq2
            replace hcmp := Lib.hid hcmp
            go_wp2_with fail
            go_still_tail 14, (by kernel_rfl)
            change wpList _ _ _ _ _ wr.drew
            have hR1 := hR.drewN 1
            change Row w wr.drew g _ pad at hR1
            generalize wr.drew = w2 at *
            go_wp2_with fail
            refine (hcmp.out _).mono ?_
            rintro e w3 ⟨rfl, hB3⟩
            have hR3 := hR1.below hB3
            clear hcmp hc1 hc2 hR hR1
            have hsortin := insort_step U' V u x
            replace hsortin := Lib.hid hsortin
            go_wp2_with fail
            · have hcx : cmpP x u < 0 := by assumption
              have hc1 := hR3.cell (i := q) (x := x) (by
                rw [hq'.out, hq2.out]
                simp only [List.append_assoc]
                rw [get_right p _ _ (by omega), get_right U' _ _ (by omega), show p.length + U'.length + 1 - p.length - U'.length = 1 by omega]
                rfl)
              have hc2 := hR3.cell (i := q') (x := u) (by
                rw [hq2.out]
                simp only [List.append_assoc]
                rw [get_right p _ _ (by omega), get_right U' _ _ (by omega), show p.length + U'.length - p.length - U'.length = 0 by omega]
                rfl)
              have hf1 := hR3.free q
              have hf2 := hR3.free q'
              have hc3 := (hR3.set q (by have := hN.out; have := hq'.out; have := hq2.out; simp at *; omega) u).cell (i := q') (x := u) (by
                rw [List.getElem?_set_ne (by have := hq'.out; omega), hq2.out]
                simp only [List.append_assoc]
                rw [get_right p _ _ (by omega), get_right U' _ _ (by omega), show p.length + U'.length - p.length - U'.length = 0 by omega]
                rfl)
              have hR4 := (hR3.set q (by have := hN.out; have := hq'.out; have := hq2.out; simp at *; omega) u).set q' (by have := hq'.out; have := hq2.out; simp; omega) x
              have hset : Hid (((p ++ (U' ++ [u] ++ x :: V ++ R') ++ s).set q u).set q' x = p ++ (U' ++ x :: (u :: V) ++ R') ++ s) := by
                unfold Hid
                rw [hq'.out, hq2.out]
                simp only [List.append_assoc]
                rw [List.set_append_right _ _ (by omega), List.set_append_right _ _ (by omega), List.set_append_right _ _ (by omega), List.set_append_right _ _ (by omega)]
                rw [show p.length + U'.length + 1 - p.length - U'.length = 1 by omega, show p.length + U'.length - p.length - U'.length = 0 by omega]
                simp
              rw [hset.out] at hR4
              have hV2 : Hid (∀ v ∈ u :: V, cmpP x v < 0) := by
                intro v hv
                rcases List.mem_cons.1 hv with h | h
                · rw [h]; exact hcx
                · exact hV.out v h
              have hUV2 : Hid (U' ++ (u :: V) = D) := by rw [← hUV.out]; simp [Hid]
              clear hsortin hV hUV hR3 hset hcx
              go_region
              all_goals go_wp2
              all_goals go_roundw
              case measure => have := hq'.out; simp [intOf]; omega
              case rel => exact ⟨q', U', u :: V, rfl, hq2, by have := hq'.out; omega, by have := hq'.out; omega, hUV2, hV2, hR4.drewN 1⟩
            · have hcx : 0 ≤ cmpP x u := by assumption
              have hs2 : Hid (Sorted (U' ++ [u] ++ x :: V)) := by
                refine hsortin.out ?_ (by omega) hV.out
                rw [hUV.out]; exact hsort.out
              have hp2 : Hid ((U' ++ [u] ++ x :: V ++ R').Perm (x0 :: M0)) := by
                refine List.Perm.trans ?_ hperm.out
                rw [← hUV.out]
                simp only [List.append_assoc, List.cons_append, List.nil_append]
                exact List.Perm.append_left _ (List.Perm.cons _ (List.perm_middle.symm))
              refine ⟨⟨k + 1, U' ++ [u] ++ x :: V, R', by go_num, by omega, ?_, by simp; omega, hp2, hs2, by simpa using hR3⟩, by simp [intOf]; omega⟩
              have h1 := hk.out
              have h2 := congrArg List.length hUV.out
              simp [Hid] at *; omega
          · have hqa : q = a := by omega
            have hU : U = [] := by
              have h1 := hq.out
              have h2 := ha.out
              exact List.eq_nil_of_length_eq_zero (by omega)
            subst hU
            have hdec : decide ((a : Int) < (q : Int)) = false := by simp; omega
            have hs2 : Hid (Sorted (x :: V)) := by
              refine List.Pairwise.cons (fun v hv => leP_of_lt (hV.out v hv)) ?_
              have := hsort.out
              rw [← hUV.out] at this; simpa using this
            have hp2 : Hid ((x :: V ++ R').Perm (x0 :: M0)) := by
              refine List.Perm.trans ?_ hperm.out
              rw [← hUV.out]
              simp only [List.nil_append, List.cons_append]
              exact List.perm_middle.symm
            have hk2 : Hid (k + 1 = p.length + (x :: V).length) := by
              have h1 := hk.out
              have h2 := congrArg List.length hUV.out
              simp [Hid] at *; omega
            subst hqa
            clear hV hUV hgt
            go_wp2_with fail
            go_quiet (fail)
            go_wp2
            refine ⟨⟨k + 1, x :: V, R', by go_num, by omega, hk2, by simp, hp2, hs2, by simpa using hR.drewN _⟩, by simp [intOf]; omega⟩
      · have hRn : R = [] := by
          have h1 := hlen.out
          have h2 := hk.out
          have h3 := hb.out
          apply List.eq_nil_of_length_eq_zero
          simp at h3; omega
        subst hRn
        have hp2 := hperm.out
        rw [List.append_nil] at hp2 hR
        have hs2 := hsort.out
        clear hsort hperm hlen
        replace hp2 := Lib.hid hp2
        replace hs2 := Lib.hid hs2
        go_wp2
        go_end0
        exact ⟨rfl, D, ⟨hp2.out, hs2.out⟩, hR⟩
end Go.Proofs.YtocbjhhnginebaaGreat

namespace Go.Proofs.YtocbjhhnginebaaGreat
open Go.RowKit Go.Lib
set_option linter.unusedVariables false
set_option linter.unusedSimpArgs false

theorem sorted_get {V : List Bytes} (hV : Sorted V) {i j : Nat} (h : i ≤ j) {x y : Bytes} (hx : V[i]? = some x) (hy : V[j]? = some y) : leP x y := by
  obtain ⟨hi, rfl⟩ := List.getElem?_eq_some_iff.1 hx
  obtain ⟨hj, rfl⟩ := List.getElem?_eq_some_iff.1 hy
  rcases Nat.lt_or_eq_of_le h with h1 | h1
  · exact List.pairwise_iff_getElem.1 hV i j hi hj h1
  · subst h1; unfold leP; rw [cmpP_self]; exact Int.le_refl _
theorem lt_of_le_lt {a b c : Bytes} (h : leP a b) (k : cmpP b c < 0) : cmpP a c < 0 := by
  unfold leP at h
  rcases Int.lt_or_eq_of_le h with h1 | h1
  · exact cmpP_trans h1 k
  · rw [cmpP_eq h1]; exact k

set_option maxHeartbeats 8000000 in
set_option maxRecDepth 100000 in
theorem sym1_calls (g c : Nat) (x : Bytes) (p V s : List Bytes) (pad : List Value) (a m b N : Nat) (w W : World) (hR : Row w W g (p ++ [x] ++ V ++ s) pad) (hc : N ≤ c) (hm : N ≤ 4611686018427387) (hN : N = (p ++ [x] ++ V ++ s).length)
    (ha : a = p.length) (hmm : m = p.length + 1) (hb : b = p.length + 1 + V.length) (hsz : ∀ y ∈ x :: V, y.length ≤ 16777216) (hV : Sorted V) :
    Calls Tryz.prog 154 #[.slice (some ⟨g, 0, none⟩) N c, .int .i64 a, .int .i64 m, .int .i64 b, .func (.func 90) #[] #[]] W fun e w' => e = .returned (.tuple #[]) ∧ ∃ M' : List Bytes, (M'.Perm (x :: V) ∧ Sorted M') ∧ Row w w' g (p ++ M' ++ s) pad := by
  have hbN : b ≤ N := by subst hb hN; simp; omega
  have hma : m = a + 1 := by omega
  have e1 : ((m : Int) - (a : Int)) = 1 := by omega
  have hmb : m ≤ b := by omega
  replace hb := Lib.hid hb
  replace ha := Lib.hid ha
  replace hN := Lib.hid hN
  replace hmm := Lib.hid hmm
  replace hma := Lib.hid hma
  go_enter Tryz.func154, Tryz.ntmps154
  go_wp2
  clear e1
  go_loopw [10, 11] (fun i j W' => ∃ i' j' r q : Nat, i = .int .i64 i' ∧ j = .int .i64 j' ∧ m ≤ i' ∧ i' ≤ j' ∧ j' ≤ b ∧ Hid (i' = m + r) ∧ Hid (j' = m + q) ∧ Hid (∀ (t : Nat) (v : Bytes), t < r → V[t]? = some v → cmpP v x < 0) ∧ Hid (∀ (t : Nat) (v : Bytes), q ≤ t → V[t]? = some v → 0 ≤ cmpP v x) ∧ Row w W' g (p ++ [x] ++ V ++ s) pad) (fun i j _ => (intOf j).toNat - (intOf i).toNat)
  case atStart => exact ⟨m, b, 0, V.length, rfl, rfl, Nat.le_refl _, hmb, Nat.le_refl _, rfl, by unfold Hid; rw [hb.out, hmm.out], fun t v h => by omega, (fun t v h1 h2 => by rw [List.getElem?_eq_none h1] at h2; cases h2), hR⟩
  case round =>
    clear hR
    obtain ⟨i, j, r, q, rfl, rfl, hmi, hij, hjb, hi, hj, hlo, hhi, hR⟩ := hrel
    by_cases hlt : i < j
    · obtain ⟨h, hh⟩ : ∃ h : Nat, ((i : Int) + (j : Int)) / 2 = (h : Int) := ⟨(i + j) / 2, by omega⟩
      have hih : i ≤ h := by omega
      have hhj : h < j := by omega
      obtain ⟨t, ht⟩ : ∃ t, h = m + t := ⟨h - m, by omega⟩
      have htV : t < V.length := by have := hb.out; have := hmm.out; omega
      have hx1 : (p ++ [x] ++ V ++ s)[h]? = some V[t] := by
        rw [ht, hmm.out]
        simp only [List.append_assoc]
        rw [get_right p _ _ (by omega), get_right [x] _ _ (by simp; omega), List.getElem?_append_left (by simp; omega), ← List.getElem?_eq_getElem htV]
        congr 1; simp; omega
      have hx2 : (p ++ [x] ++ V ++ s)[a]? = some x := by
        rw [ha.out]
        simp only [List.append_assoc]
        rw [get_right p _ _ (by omega), Nat.sub_self]; rfl
      have hc1 := hR.cell hx1
      have hc2 := hR.cell hx2
      have hcmp := fun W' => cmp_mk V[t] x W' (hsz _ (List.mem_cons_of_mem _ (List.getElem_mem htV))) (hsz _ (by simp))
      have hlo2 : Hid (cmpP V[t] x < 0 → ∀ (t' : Nat) (v : Bytes), t' < t + 1 → V[t']? = some v → cmpP v x < 0) := fun hc t' v h1 h2 =>
        lt_of_le_lt (sorted_get hV (show t' ≤ t by omega) h2 (List.getElem?_eq_getElem htV)) hc
      have hhi2 : Hid (¬ cmpP V[t] x < 0 → ∀ (t' : Nat) (v : Bytes), t ≤ t' → V[t']? = some v → 0 ≤ cmpP v x) := fun hc t' v h1 h2 => Int.not_lt.1 fun hc2 =>
        hc (lt_of_le_lt (sorted_get hV h1 (List.getElem?_eq_getElem htV) h2) hc2)
      have haN : (a : Int) < (N : Int) := by have := hma.out; omega
      have hhN : (h : Int) < (N : Int) := by omega
      generalize V[t] = y at *
      replace hcmp := Lib.hid hcmp
      replace ht := Lib.hid ht
      clear hx1 hx2 hsz
      go_upto_region 5 with fail
      go_still_tail 9, (by kernel_rfl)
      change wpList _ _ _ _ _ wr.drew
      have hR1 := hR.drewN 1
      change Row w wr.drew g _ pad at hR1
      generalize wr.drew = w2 at *
      go_wp2_with fail
      refine (hcmp.out _).mono ?_
      rintro e w3 ⟨rfl, hB3⟩
      have hR3 := hR1.below hB3
      clear hcmp hc1 hc2 hR hR1
      by_cases hcx : cmpP y x < 0
      · go_wp2
        go_roundw
        case measure => simp [intOf]; omega
        case rel => exact ⟨h + 1, j, t + 1, q, by go_num, rfl, by omega, by omega, by omega, by have := ht.out; unfold Hid; omega, hj, hlo2.out hcx, hhi, hR3⟩
      · go_wp2
        go_roundw
        case measure => simp [intOf]; omega
        case rel => exact ⟨i, h, r, t, rfl, rfl, by omega, by omega, by omega, hi, ht, hlo, hhi2.out hcx, hR3⟩
    · obtain rfl : i = j := by omega
      have hrq : r = q := by have := hi.out; have := hj.out; omega
      subst hrq
      have hrV : r ≤ V.length := by have := hi.out; have := hb.out; have := hmm.out; omega
      obtain ⟨V1, V2, hV12, hV1, hV2⟩ := take_drop_len V r hrV
      have hsorted : Hid (Sorted (V1 ++ x :: V2)) := by
        unfold Hid Sorted
        rw [hV12] at hV
        unfold Sorted at hV
        rw [List.pairwise_append] at hV ⊢
        have hlow : ∀ v ∈ V1, cmpP v x < 0 := fun v hv => by
          obtain ⟨t, ht, rfl⟩ := List.getElem_of_mem hv
          refine hlo.out t V1[t] (by omega) ?_
          rw [hV12, List.getElem?_append_left ht]; exact List.getElem?_eq_getElem ht
        refine ⟨hV.1, List.Pairwise.cons (fun v hv => ?_) hV.2.1, fun u hu v hv => ?_⟩
        · obtain ⟨t, ht, rfl⟩ := List.getElem_of_mem hv
          refine leP_of_not (Int.not_lt.2 (hhi.out (r + t) V2[t] (by omega) ?_))
          rw [hV12, List.getElem?_append_right (by omega), show r + t - V1.length = t by omega]; exact List.getElem?_eq_getElem ht
        · rcases List.mem_cons.1 hv with h | h
          · rw [h]; exact leP_of_lt (hlow u hu)
          · exact hV.2.2 u hu v h
      have hia : (i : Int) - 1 = ((a + V1.length : Nat) : Int) := by have := hi.out; have := hma.out; omega
      have hperm : Hid ((V1 ++ x :: V2).Perm (x :: V)) := by rw [hV12]; exact List.perm_middle
      have hN2 : Hid (N = (p ++ [x] ++ (V1 ++ V2) ++ s).length) := by rw [← hV12]; exact hN
      rw [hV12] at hR
      clear hlo hhi hsz hV
      replace hV1 := Lib.hid hV1
      replace hV2 := Lib.hid hV2
      obtain ⟨e, he⟩ : ∃ e, e = a + V1.length := ⟨_, rfl⟩
      rw [← he] at hia
      have hae : a ≤ e := by omega
      have heN : e + 1 ≤ N := by omega
      replace he := Lib.hid he
      replace hV12 := Lib.hid hV12
      have hlt' : ¬ (i : Int) < (i : Int) := by omega
      go_wp2
      go_loopw [13] (fun k W' => ∃ (k' : Nat) (A B : List Bytes), k = .int .i64 k' ∧ a ≤ k' ∧ k' ≤ e ∧ Hid (k' = a + A.length) ∧ Hid (A ++ B = V1) ∧ Row w W' g (p ++ (A ++ x :: B ++ V2) ++ s) pad) (fun k _ => e - (intOf k).toNat)
      case atStart => exact ⟨a, [], V1, rfl, Nat.le_refl _, hae, rfl, rfl, by simpa using hR⟩
      case round =>
        clear hR
        obtain ⟨k, A, B, rfl, hak, hke, hk, hAB, hR⟩ := hrel
        by_cases hlt2 : k < e
        · obtain ⟨y, B', rfl⟩ : ∃ y B', B = y :: B' := by
            cases B with
            | nil => have h1 := hk.out; have h2 := he.out; have h3 := congrArg List.length hAB.out; simp at h3; omega
            | cons y ys => exact ⟨y, ys, rfl⟩
          have hk2 : k = p.length + A.length := by have := hk.out; have := ha.out; omega
          have hx1 : (p ++ (A ++ x :: (y :: B') ++ V2) ++ s)[k]? = some x := by
            rw [hk2]
            simp only [List.append_assoc]
            rw [get_right p _ _ (by omega), get_right A _ _ (by omega), show p.length + A.length - p.length - A.length = 0 by omega]; rfl
          have hx2 : (p ++ (A ++ x :: (y :: B') ++ V2) ++ s)[k + 1]? = some y := by
            rw [hk2]
            simp only [List.append_assoc]
            rw [get_right p _ _ (by omega), get_right A _ _ (by omega), show p.length + A.length + 1 - p.length - A.length = 1 by omega]; rfl
          have hl1 : k + 1 < (p ++ (A ++ x :: (y :: B') ++ V2) ++ s).length := (List.getElem?_eq_some_iff.1 hx2).1
          have hc1 := hR.cell hx1
          have hc2 := hR.cell hx2
          have hf1 := hR.free k
          have hf2 := hR.free (k + 1)
          have hc3 := (hR.set k (by omega) y).cell (i := k + 1) (x := y) (by rw [List.getElem?_set_ne (by omega)]; exact hx2)
          have hR4 := (hR.set k (by omega) y).set (k + 1) (by simpa using hl1) x
          have hset : Hid (((p ++ (A ++ x :: (y :: B') ++ V2) ++ s).set k y).set (k + 1) x = p ++ ((A ++ [y]) ++ x :: B' ++ V2) ++ s) := by
            unfold Hid
            rw [hk2]
            simp only [List.append_assoc]
            rw [List.set_append_right _ _ (by omega), List.set_append_right _ _ (by omega), List.set_append_right _ _ (by omega), List.set_append_right _ _ (by omega)]
            rw [show p.length + A.length + 1 - p.length - A.length = 1 by omega, show p.length + A.length - p.length - A.length = 0 by omega]
            simp
          rw [hset.out] at hR4
          have hAB2 : Hid ((A ++ [y]) ++ B' = V1) := by rw [← hAB.out]; simp [Hid]
          have hk3 : Hid (k + 1 = a + (A ++ [y]).length) := by have := hk.out; unfold Hid; simp; omega
          have hkN : (k : Int) + 1 < (N : Int) := by omega
          clear hx1 hx2 hl1 hset hR hAB
          replace hk2 := Lib.hid hk2
          go_wp2
          go_region
          all_goals go_wp2
          all_goals go_roundw
          case measure => simp [intOf]; omega
          case rel => exact ⟨k + 1, A ++ [y], B', by go_num, by omega, by omega, hk3, hAB2, hR4.drewN 1⟩
        · have hB : B = [] := by
            have h1 := hk.out
            have h2 := he.out
            have h3 := congrArg List.length hAB.out
            simp at h3
            exact List.eq_nil_of_length_eq_zero (by omega)
          subst hB
          have hA : A = V1 := by have := hAB.out; simpa using this
          subst hA
          have hR2 : Row w wr g (p ++ (A ++ x :: V2) ++ s) pad := by simpa using hR
          clear hAB hR
          go_wp2
          refine bodyPost_ret (results_none rfl _ _ _) rfl ?_
          exact ⟨rfl, _, ⟨hperm.out, hsorted.out⟩, hR2⟩
end Go.Proofs.YtocbjhhnginebaaGreat

namespace Go.Proofs.YtocbjhhnginebaaGreat
open Go.RowKit Go.Lib
set_option linter.unusedVariables false
set_option linter.unusedSimpArgs false

theorem lt_of_lt_le {a b c : Bytes} (h : cmpP a b < 0) (k : leP b c) : cmpP a c < 0 := by
  unfold leP at k
  rcases Int.lt_or_eq_of_le k with k1 | k1
  · exact cmpP_trans h k1
  · rw [← cmpP_eq k1]; exact h

set_option maxHeartbeats 8000000 in
set_option maxRecDepth 100000 in
theorem sym2_calls (g c : Nat) (y : Bytes) (p U s : List Bytes) (pad : List Value) (a m b N : Nat) (w W : World) (hR : Row w W g (p ++ U ++ [y] ++ s) pad) (hc : N ≤ c) (hm : N ≤ 4611686018427387) (hN : N = (p ++ U ++ [y] ++ s).length)
    (ha : a = p.length) (hmm : m = p.length + U.length) (hb : b = p.length + U.length + 1) (hU1 : U.length ≠ 1) (hsz : ∀ u ∈ y :: U, u.length ≤ 16777216) (hU : Sorted U) :
    Calls Tryz.prog 154 #[.slice (some ⟨g, 0, none⟩) N c, .int .i64 a, .int .i64 m, .int .i64 b, .func (.func 90) #[] #[]] W fun e w' => e = .returned (.tuple #[]) ∧ ∃ M' : List Bytes, (M'.Perm (U ++ [y]) ∧ Sorted M') ∧ Row w w' g (p ++ M' ++ s) pad := by
  have hbN : b ≤ N := by subst hb hN; simp; omega
  have hbm : b = m + 1 := by omega
  have e1 : (((m : Int) - (a : Int)) == 1) = false := by rw [beq_eq_false_iff_ne]; omega
  have e2 : ((b : Int) - (m : Int)) = 1 := by omega
  have ham : a ≤ m := by omega
  have hmN : m < N := by omega
  replace hb := Lib.hid hb
  replace ha := Lib.hid ha
  replace hN := Lib.hid hN
  replace hmm := Lib.hid hmm
  replace hbm := Lib.hid hbm
  go_enter Tryz.func154, Tryz.ntmps154
  go_wp2
  clear e2
  go_loopw [14, 15] (fun i j W' => ∃ i' j' r q : Nat, i = .int .i64 i' ∧ j = .int .i64 j' ∧ a ≤ i' ∧ i' ≤ j' ∧ j' ≤ m ∧ Hid (i' = a + r) ∧ Hid (j' = a + q) ∧ Hid (∀ (t : Nat) (u : Bytes), t < r → U[t]? = some u → 0 ≤ cmpP y u) ∧ Hid (∀ (t : Nat) (u : Bytes), q ≤ t → U[t]? = some u → cmpP y u < 0) ∧ Row w W' g (p ++ U ++ [y] ++ s) pad) (fun i j _ => (intOf j).toNat - (intOf i).toNat)
  case atStart => exact ⟨a, m, 0, U.length, rfl, rfl, Nat.le_refl _, ham, Nat.le_refl _, rfl, by unfold Hid; rw [hmm.out, ha.out], fun t u h => by omega, (fun t u h1 h2 => by rw [List.getElem?_eq_none h1] at h2; cases h2), hR⟩
  case round =>
    clear hR
    obtain ⟨i, j, r, q, rfl, rfl, hai, hij, hjm, hi, hj, hlo, hhi, hR⟩ := hrel
    by_cases hlt : i < j
    · obtain ⟨h, hh⟩ : ∃ h : Nat, ((i : Int) + (j : Int)) / 2 = (h : Int) := ⟨(i + j) / 2, by omega⟩
      have hih : i ≤ h := by omega
      have hhj : h < j := by omega
      obtain ⟨t, ht⟩ : ∃ t, h = a + t := ⟨h - a, by omega⟩
      have htU : t < U.length := by have := ha.out; have := hmm.out; omega
      have hx1 : (p ++ U ++ [y] ++ s)[h]? = some U[t] := by
        rw [ht, ha.out]
        simp only [List.append_assoc]
        rw [get_right p _ _ (by omega), List.getElem?_append_left (by omega), ← List.getElem?_eq_getElem htU]
        congr 1; omega
      have hx2 : (p ++ U ++ [y] ++ s)[m]? = some y := by
        rw [hmm.out]
        simp only [List.append_assoc]
        rw [get_right p _ _ (by omega), get_right U _ _ (by omega), show p.length + U.length - p.length - U.length = 0 by omega]; rfl
      have hc1 := hR.cell hx1
      have hc2 := hR.cell hx2
      have hcmp := fun W' => cmp_mk y U[t] W' (hsz _ (by simp)) (hsz _ (List.mem_cons_of_mem _ (List.getElem_mem htU)))
      have hlo2 : Hid (¬ cmpP y U[t] < 0 → ∀ (t' : Nat) (u : Bytes), t' < t + 1 → U[t']? = some u → 0 ≤ cmpP y u) := fun hc t' u h1 h2 => Int.not_lt.1 fun hc2 =>
        hc (lt_of_lt_le hc2 (sorted_get hU (show t' ≤ t by omega) h2 (List.getElem?_eq_getElem htU)))
      have hhi2 : Hid (cmpP y U[t] < 0 → ∀ (t' : Nat) (u : Bytes), t ≤ t' → U[t']? = some u → cmpP y u < 0) := fun hc t' u h1 h2 =>
        lt_of_lt_le hc (sorted_get hU h1 (List.getElem?_eq_getElem htU) h2)
      have hmN' : (m : Int) < (N : Int) := by omega
      have hhN : (h : Int) < (N : Int) := by omega
      generalize U[t] = x at *
      replace hcmp := Lib.hid hcmp
      replace ht := Lib.hid ht
      clear hx1 hx2 hsz
      go_upto_region 17 with fail
      go_still_tail 9, (by kernel_rfl)
      change wpList _ _ _ _ _ wr.drew
      have hR1 := hR.drewN 1
      change Row w wr.drew g _ pad at hR1
      generalize wr.drew = w2 at *
      go_wp2_with fail
      refine (hcmp.out _).mono ?_
      rintro e w3 ⟨rfl, hB3⟩
      have hR3 := hR1.below hB3
      clear hcmp hc1 hc2 hR hR1
      by_cases hcx : cmpP y x < 0
      · have hdb : decide (cmpP y x < 0) = true := decide_eq_true hcx
        go_wp2
        go_roundw
        case measure => simp [intOf]; omega
        case rel => exact ⟨i, h, r, t, rfl, rfl, by omega, by omega, by omega, hi, ht, hlo, hhi2.out hcx, hR3⟩
      · have hdb : decide (cmpP y x < 0) = false := decide_eq_false hcx
        go_wp2
        go_roundw
        case measure => simp [intOf]; omega
        case rel => exact ⟨h + 1, j, t + 1, q, by go_num, rfl, by omega, by omega, by omega, by have := ht.out; unfold Hid; omega, hj, hlo2.out hcx, hhi, hR3⟩
    · obtain rfl : i = j := by omega
      have hrq : r = q := by have := hi.out; have := hj.out; omega
      subst hrq
      have hrU : r ≤ U.length := by have := hi.out; have := ha.out; have := hmm.out; omega
      obtain ⟨U1, U2, hU12, hV1, hV2⟩ := take_drop_len U r hrU
      have hsorted : Hid (Sorted (U1 ++ y :: U2)) := by
        unfold Hid Sorted
        rw [hU12] at hU
        unfold Sorted at hU
        rw [List.pairwise_append] at hU ⊢
        have hlow : ∀ v ∈ U1, leP v y := fun v hv => by
          obtain ⟨t, ht, rfl⟩ := List.getElem_of_mem hv
          refine leP_of_not (Int.not_lt.2 (hlo.out t U1[t] (by omega) ?_))
          rw [hU12, List.getElem?_append_left ht]; exact List.getElem?_eq_getElem ht
        refine ⟨hU.1, List.Pairwise.cons (fun v hv => ?_) hU.2.1, fun u hu v hv => ?_⟩
        · obtain ⟨t, ht, rfl⟩ := List.getElem_of_mem hv
          refine leP_of_lt (hhi.out (r + t) U2[t] (by omega) ?_)
          rw [hU12, List.getElem?_append_right (by omega), show r + t - U1.length = t by omega]; exact List.getElem?_eq_getElem ht
        · rcases List.mem_cons.1 hv with h | h
          · rw [h]; exact hlow u hu
          · exact hU.2.2 u hu v h
      have hperm : Hid ((U1 ++ y :: U2).Perm (U ++ [y])) := by
        rw [hU12]
        have : (U1 ++ U2 ++ [y]) = U1 ++ (U2 ++ [y]) := by simp
        unfold Hid
        rw [this]
        exact List.Perm.append_left _ (List.perm_append_comm (l₁ := [y]) (l₂ := U2))
      rw [hU12] at hR
      have hN2 : Hid (N = (p ++ (U1 ++ U2) ++ [y] ++ s).length) := by rw [← hU12]; exact hN
      have hmU : Hid (m = i + U2.length) := by
        have := hi.out; have := ha.out; have := hmm.out; unfold Hid; omega
      clear hlo hhi hsz hU
      replace hV1 := Lib.hid hV1
      replace hV2 := Lib.hid hV2
      replace hU12 := Lib.hid hU12
      have hlt' : ¬ (i : Int) < (i : Int) := by omega
      go_wp2
      go_loopw [17] (fun k W' => ∃ (k' : Nat) (A B : List Bytes), k = .int .i64 k' ∧ i ≤ k' ∧ k' ≤ m ∧ Hid (k' = i + A.length) ∧ Hid (A ++ B = U2) ∧ Row w W' g (p ++ (U1 ++ A ++ y :: B) ++ s) pad) (fun k _ => (intOf k).toNat)
      case atStart => exact ⟨m, U2, [], rfl, hjm, Nat.le_refl _, hmU, by simp [Hid], by simpa using hR⟩
      case round =>
        clear hR
        obtain ⟨k, A, B, rfl, hik, hkm, hk, hAB, hR⟩ := hrel
        by_cases hlt2 : i < k
        · obtain ⟨A', z, rfl⟩ : ∃ A' z, A = A' ++ [z] := by
            have : A ≠ [] := fun h => by have := hk.out; rw [h] at this; simp at this; omega
            exact ⟨A.dropLast, A.getLast this, (List.dropLast_concat_getLast this).symm⟩
          obtain ⟨k', hk'⟩ : ∃ k', k = k' + 1 := ⟨k - 1, by omega⟩
          have hk2 : k' = p.length + (U1 ++ A').length := by
            have := hk.out; have := hi.out; have := ha.out; have := hV1.out; simp at *; omega
          have hx1 : (p ++ (U1 ++ (A' ++ [z]) ++ y :: B) ++ s)[k']? = some z := by
            rw [hk2, show p ++ (U1 ++ (A' ++ [z]) ++ y :: B) ++ s = p ++ ((U1 ++ A') ++ (z :: y :: B ++ s)) by simp]
            rw [get_right p _ _ (by omega), get_right (U1 ++ A') _ _ (by omega), show p.length + (U1 ++ A').length - p.length - (U1 ++ A').length = 0 by omega]; rfl
          have hx2 : (p ++ (U1 ++ (A' ++ [z]) ++ y :: B) ++ s)[k]? = some y := by
            rw [hk', hk2, show p ++ (U1 ++ (A' ++ [z]) ++ y :: B) ++ s = p ++ ((U1 ++ A') ++ (z :: y :: B ++ s)) by simp]
            rw [get_right p _ _ (by omega), get_right (U1 ++ A') _ _ (by omega), show p.length + (U1 ++ A').length + 1 - p.length - (U1 ++ A').length = 1 by omega]; rfl
          have hl1 : k < (p ++ (U1 ++ (A' ++ [z]) ++ y :: B) ++ s).length := (List.getElem?_eq_some_iff.1 hx2).1
          have hc1 := hR.cell hx1
          have hc2 := hR.cell hx2
          have hf1 := hR.free k
          have hf2 := hR.free k'
          have hc3 := (hR.set k hl1 z).cell (i := k') (x := z) (by rw [List.getElem?_set_ne (by omega)]; exact hx1)
          have hR4 := (hR.set k hl1 z).set k' (by simp only [List.length_set]; omega) y
          have hset : Hid (((p ++ (U1 ++ (A' ++ [z]) ++ y :: B) ++ s).set k z).set k' y = p ++ (U1 ++ A' ++ y :: (z :: B)) ++ s) := by
            unfold Hid
            rw [hk', hk2, show p ++ (U1 ++ (A' ++ [z]) ++ y :: B) ++ s = p ++ ((U1 ++ A') ++ (z :: y :: B ++ s)) by simp]
            rw [List.set_append_right _ _ (by omega), List.set_append_right _ _ (by omega), List.set_append_right _ _ (by omega), List.set_append_right _ _ (by omega)]
            rw [show p.length + (U1 ++ A').length + 1 - p.length - (U1 ++ A').length = 1 by omega, show p.length + (U1 ++ A').length - p.length - (U1 ++ A').length = 0 by omega]
            simp
          rw [hset.out] at hR4
          have hAB2 : Hid (A' ++ (z :: B) = U2) := by rw [← hAB.out]; simp [Hid]
          have hk3 : Hid (k' = i + A'.length) := by have := hk.out; unfold Hid; simp at this; omega
          have hik' : i ≤ k' := by omega
          have hkm' : k' ≤ m := by omega
          have hkN : (k : Int) < (N : Int) := by omega
          have hkN' : (k' : Int) < (N : Int) := by omega
          have hw1 : IntKind.i64.wrap ((k : Int) - 1) = (k' : Int) := by rw [IntWalk.i64_in _ (by omega)]; omega
          have hw2 : (k : Int) - 1 = (k' : Int) := by omega
          clear hx1 hx2 hl1 hset hR hAB
          replace hk2 := Lib.hid hk2
          replace hk' := Lib.hid hk'
          go_wp2
          go_region
          all_goals go_wp2
          all_goals go_roundw
          case measure => have := hk'.out; simp [intOf]; omega
          case rel => exact ⟨k', A', z :: B, rfl, hik', hkm', hk3, hAB2, hR4.drewN 1⟩
        · have hA : A = [] := by
            have h1 := hk.out
            exact List.eq_nil_of_length_eq_zero (by omega)
          subst hA
          have hB : B = U2 := by have := hAB.out; simpa using this
          subst hB
          have hR2 : Row w wr g (p ++ (U1 ++ y :: B) ++ s) pad := by simpa using hR
          clear hAB hR
          go_wp2
          refine bodyPost_ret (results_none rfl _ _ _) rfl ?_
          exact ⟨rfl, _, ⟨hperm.out, hsorted.out⟩, hR2⟩
end Go.Proofs.YtocbjhhnginebaaGreat

namespace Go.Proofs.YtocbjhhnginebaaGreat
open Go.RowKit Go.Lib
set_option linter.unusedVariables false
set_option linter.unusedSimpArgs false

def SymOk (n : Nat) : Prop := ∀ (g c : Nat) (p U V s : List Bytes) (pad : List Value) (a m b N : Nat) (w W : World), Row w W g (p ++ U ++ V ++ s) pad → N ≤ c → N ≤ 4611686018427387 → N = (p ++ U ++ V ++ s).length →
    a = p.length → m = p.length + U.length → b = p.length + U.length + V.length → U ≠ [] → V ≠ [] → U.length + V.length ≤ n → (∀ y ∈ U ++ V, y.length ≤ 16777216) → Sorted U → Sorted V →
    Calls Tryz.prog 154 #[.slice (some ⟨g, 0, none⟩) N c, .int .i64 a, .int .i64 m, .int .i64 b, .func (.func 90) #[] #[]] W fun e w' => e = .returned (.tuple #[]) ∧ ∃ M' : List Bytes, (M'.Perm (U ++ V) ∧ Sorted M') ∧ Row w w' g (p ++ M' ++ s) pad

/-- What stands left of the cut is not above what stands right of it. -/
theorem sym_parts {U1 U2 V1 V2 M1 M2 : List Bytes} (hU : Sorted (U1 ++ U2)) (hV : Sorted (V1 ++ V2)) (h1 : ∀ u ∈ U1, ∀ v ∈ V2, leP u v) (h2 : ∀ v ∈ V1, ∀ u ∈ U2, leP v u)
    (p1 : M1.Perm (U1 ++ V1)) (p2 : M2.Perm (U2 ++ V2)) (s1 : Sorted M1) (s2 : Sorted M2) : (M1 ++ M2).Perm (U1 ++ U2 ++ (V1 ++ V2)) ∧ Sorted (M1 ++ M2) := by
  unfold Sorted at *
  rw [List.pairwise_append] at hU hV
  refine ⟨?_, List.pairwise_append.2 ⟨s1, s2, fun x hx y hy => ?_⟩⟩
  · refine (List.Perm.append p1 p2).trans ?_
    have e1 : U1 ++ V1 ++ (U2 ++ V2) = U1 ++ (V1 ++ U2) ++ V2 := by simp
    have e2 : U1 ++ U2 ++ (V1 ++ V2) = U1 ++ (U2 ++ V1) ++ V2 := by simp
    rw [e1, e2]
    exact List.Perm.append_right _ (List.Perm.append_left _ List.perm_append_comm)
  · have hx' := (p1.mem_iff).1 hx
    have hy' := (p2.mem_iff).1 hy
    rcases List.mem_append.1 hx' with a | a <;> rcases List.mem_append.1 hy' with b | b
    · exact hU.2.2 x a y b
    · exact h1 x a y b
    · exact h2 x a y b
    · exact hV.2.2 x a y b

/-- What the halving search has found out: t0 of the first half go left, h - t0 of the second. -/
theorem sym_cut {U V : List Bytes} (hU : Sorted U) (hV : Sorted V) (h t0 : Nat) (ht : t0 ≤ h) (htU : t0 ≤ U.length) (htV : h - t0 ≤ V.length)
    (lo : t0 = 0 ∨ h - t0 = V.length ∨ ∀ u v, U[t0 - 1]? = some u → V[h - t0]? = some v → leP u v)
    (hi : t0 = U.length ∨ h = t0 ∨ ∀ u v, U[t0]? = some u → V[h - t0 - 1]? = some v → leP v u) :
    (∀ u ∈ U.take t0, ∀ v ∈ V.drop (h - t0), leP u v) ∧ (∀ v ∈ V.take (h - t0), ∀ u ∈ U.drop t0, leP v u) := by
  constructor
  · intro u hu v hv
    obtain ⟨i, hi', rfl⟩ := List.getElem_of_mem hu
    obtain ⟨j, hj', rfl⟩ := List.getElem_of_mem hv
    simp only [List.length_take, List.length_drop] at hi' hj'
    simp only [List.getElem_take, List.getElem_drop]
    rcases lo with h0 | h0 | h0
    · omega
    · omega
    · refine leP_trans (sorted_get hU (show i ≤ t0 - 1 by omega) (List.getElem?_eq_getElem (by omega)) (List.getElem?_eq_getElem (by omega))) (leP_trans (h0 _ _ (List.getElem?_eq_getElem (by omega)) (List.getElem?_eq_getElem (by omega))) (sorted_get hV (show h - t0 ≤ h - t0 + j by omega) (List.getElem?_eq_getElem (by omega)) (List.getElem?_eq_getElem (by omega))))
  · intro v hv u hu
    obtain ⟨i, hi', rfl⟩ := List.getElem_of_mem hv
    obtain ⟨j, hj', rfl⟩ := List.getElem_of_mem hu
    simp only [List.length_take, List.length_drop] at hi' hj'
    simp only [List.getElem_take, List.getElem_drop]
    rcases hi with h0 | h0 | h0
    · omega
    · omega
    · refine leP_trans (sorted_get hV (show i ≤ h - t0 - 1 by omega) (List.getElem?_eq_getElem (by omega)) (List.getElem?_eq_getElem (by omega))) (leP_trans (h0 _ _ (List.getElem?_eq_getElem (by omega)) (List.getElem?_eq_getElem (by omega))) (sorted_get hU (show t0 ≤ t0 + j by omega) (List.getElem?_eq_getElem (by omega)) (List.getElem?_eq_getElem (by omega))))

set_option maxHeartbeats 16000000 in
set_option maxRecDepth 100000 in
theorem sym_step (n : Nat) (ih : SymOk n) (g c : Nat) (p U V s : List Bytes) (pad : List Value) (a m b N : Nat) (w W : World) (hR : Row w W g (p ++ U ++ V ++ s) pad) (hc : N ≤ c) (hm : N ≤ 4611686018427387) (hN : N = (p ++ U ++ V ++ s).length)
    (ha : a = p.length) (hmm : m = p.length + U.length) (hb : b = p.length + U.length + V.length) (hU1 : 2 ≤ U.length) (hV1 : 2 ≤ V.length) (hn : U.length + V.length ≤ n + 1) (hsz : ∀ y ∈ U ++ V, y.length ≤ 16777216) (hU : Sorted U) (hV : Sorted V) :
    Calls Tryz.prog 154 #[.slice (some ⟨g, 0, none⟩) N c, .int .i64 a, .int .i64 m, .int .i64 b, .func (.func 90) #[] #[]] W fun e w' => e = .returned (.tuple #[]) ∧ ∃ M' : List Bytes, (M'.Perm (U ++ V) ∧ Sorted M') ∧ Row w w' g (p ++ M' ++ s) pad := by
  have hbN : b ≤ N := by subst hb hN; simp; omega
  have e1 : (((m : Int) - (a : Int)) == 1) = false := by rw [beq_eq_false_iff_ne]; omega
  have e2 : (((b : Int) - (m : Int)) == 1) = false := by rw [beq_eq_false_iff_ne]; omega
  have ham : a ≤ m := by omega
  have hmb : m ≤ b := by omega
  obtain ⟨mid, hmid⟩ : ∃ mid : Nat, ((a : Int) + (b : Int)) / 2 = (mid : Int) := ⟨(a + b) / 2, by omega⟩
  obtain ⟨h, hh⟩ : ∃ h, mid = a + h := ⟨mid - a, by omega⟩
  have hmid2 : mid < b := by omega
  have hmid1 : a < mid := by omega
  obtain ⟨nn, hnn⟩ : ∃ nn, nn = mid + m := ⟨_, rfl⟩
  have ennI : (mid : Int) + (m : Int) = (nn : Int) := by omega
  obtain ⟨pp, hpp⟩ : ∃ pp, nn = pp + 1 := ⟨nn - 1, by omega⟩
  have eppI : (nn : Int) - 1 = (pp : Int) := by omega
  -- the search's bounds, as places
  obtain ⟨st0, r0, hst0, hstr, hr0m, hr0mid, hast, hlobd, hhibd⟩ : ∃ st0 r0 : Nat, ((m > mid ∧ (nn : Int) - (b : Int) = (st0 : Int) ∧ r0 = mid) ∨ (¬ m > mid ∧ st0 = a ∧ r0 = m)) ∧ st0 ≤ r0 ∧ r0 ≤ m ∧ r0 ≤ mid ∧ a ≤ st0 ∧ (st0 = a ∨ st0 + b = nn) ∧ (r0 = m ∨ r0 = mid) := by
    by_cases hgt : m > mid
    · exact ⟨nn - b, mid, .inl ⟨hgt, by omega, rfl⟩, by omega, by omega, by omega, by omega, by omega, .inr rfl⟩
    · exact ⟨a, m, .inr ⟨hgt, rfl, rfl⟩, by omega, by omega, by omega, by omega, .inl rfl, .inl rfl⟩
  have hst0n : nn ≤ st0 + b := by omega
  have hnnN : nn ≤ N + N := by omega
  replace hb := Lib.hid hb
  replace ha := Lib.hid ha
  replace hN := Lib.hid hN
  replace hmm := Lib.hid hmm
  replace hh := Lib.hid hh
  replace hnn := Lib.hid hnn
  replace hpp := Lib.hid hpp
  replace hlobd := Lib.hid hlobd
  replace hhibd := Lib.hid hhibd
  replace ih := Lib.hid ih
  replace hst0n := Lib.hid hst0n
  replace hst0 := Lib.hid hst0
  go_enter Tryz.func154, Tryz.ntmps154
  go_upto_if 140 with fail
  go_cut [20, 21] (fun x y W' => x = .int .i64 st0 ∧ y = .int .i64 r0 ∧ W = W')
  case first =>
    rcases hst0.out with ⟨hgt, hstI, hr0e⟩ | ⟨hgt, hste, hr0e⟩
    · have hgt' : (mid : Int) < (m : Int) := by omega
      subst hr0e
      go_wp2
      go_meet
      exact ⟨rfl, rfl, rfl⟩
    · have hgt' : ¬ ((mid : Int) < (m : Int)) := by omega
      subst hste
      subst hr0e
      go_wp2
      go_meet
      exact ⟨rfl, rfl, rfl⟩
  case rest =>
    obtain ⟨rfl, rfl, rfl⟩ := hcut
    clear hst0 hmid
    go_wp2
    go_loopw [20, 21] (fun x y W' => ∃ i j : Nat, x = .int .i64 i ∧ y = .int .i64 j ∧ st0 ≤ i ∧ i ≤ j ∧ j ≤ r0 ∧
        Hid (∀ (cc : Nat) (u v : Bytes), st0 ≤ cc → cc < i → U[cc - a]? = some u → V[pp - cc - m]? = some v → leP u v) ∧ Hid (∀ (cc : Nat) (u v : Bytes), j ≤ cc → cc < r0 → U[cc - a]? = some u → V[pp - cc - m]? = some v → leP v u) ∧ Row w W' g (p ++ U ++ V ++ s) pad) (fun x y _ => (intOf y).toNat - (intOf x).toNat)
    case atStart => exact ⟨st0, r0, rfl, rfl, Nat.le_refl _, hstr, Nat.le_refl _, (fun cc u v h1 h2 => by omega), (fun cc u v h1 h2 => by omega), hR⟩
    case round =>
      clear hR
      obtain ⟨i, j, rfl, rfl, hsti, hij, hjr, hlo, hhi, hR⟩ := hrel
      by_cases hlt : i < j
      · obtain ⟨cc, hcc⟩ : ∃ cc : Nat, ((i : Int) + (j : Int)) / 2 = (cc : Int) := ⟨(i + j) / 2, by omega⟩
        have hic : i ≤ cc := by omega
        have hcj : cc < j := by omega
        have hppc : cc ≤ pp := by have := hpp.out; have := hnn.out; omega
        obtain ⟨d, hd⟩ : ∃ d, pp = cc + d := ⟨pp - cc, by omega⟩
        have edI : (pp : Int) - (cc : Int) = (d : Int) := by omega
        have ewI : IntKind.i64.wrap ((pp : Int) - (cc : Int)) = (d : Int) := by rw [edI]; exact IntWalk.i64_in _ (by have := hpp.out; omega)
        have hmd : m ≤ d := by have := hpp.out; have := hnn.out; omega
        have hdb : d < b := by have := hpp.out; have := hst0n.out; omega
        have htU : cc - a < U.length := by have := ha.out; have := hmm.out; omega
        have htV : d - m < V.length := by have := hmm.out; have := hb.out; omega
        have hx1 : (p ++ U ++ V ++ s)[d]? = some V[d - m] := by
          have h1 := hmm.out
          simp only [List.append_assoc]
          rw [get_right p _ _ (by omega), get_right U _ _ (by omega), List.getElem?_append_left (by omega), ← List.getElem?_eq_getElem htV]
          congr 1; omega
        have hx2 : (p ++ U ++ V ++ s)[cc]? = some U[cc - a] := by
          have h1 := ha.out
          simp only [List.append_assoc]
          rw [get_right p _ _ (by omega), List.getElem?_append_left (by omega), ← List.getElem?_eq_getElem htU]
          congr 1; omega
        have hc1 := hR.cell hx1
        have hc2 := hR.cell hx2
        have hcmp := fun W' => cmp_mk V[d - m] U[cc - a] W' (hsz _ (List.mem_append_right _ (List.getElem_mem htV))) (hsz _ (List.mem_append_left _ (List.getElem_mem htU)))
        have hlo2 : Hid (¬ cmpP V[d - m] U[cc - a] < 0 → ∀ (c' : Nat) (u v : Bytes), st0 ≤ c' → c' < cc + 1 → U[c' - a]? = some u → V[pp - c' - m]? = some v → leP u v) := fun hcx c' u v h1 h2 h3 h4 =>
          leP_trans (sorted_get hU (show c' - a ≤ cc - a by omega) h3 (List.getElem?_eq_getElem htU)) (leP_trans (leP_of_not hcx) (sorted_get hV (show d - m ≤ pp - c' - m by omega) (List.getElem?_eq_getElem htV) h4))
        have hhi2 : Hid (cmpP V[d - m] U[cc - a] < 0 → ∀ (c' : Nat) (u v : Bytes), cc ≤ c' → c' < r0 → U[c' - a]? = some u → V[pp - c' - m]? = some v → leP v u) := fun hcx c' u v h1 h2 h3 h4 =>
          leP_trans (sorted_get hV (show pp - c' - m ≤ d - m by omega) h4 (List.getElem?_eq_getElem htV)) (leP_trans (leP_of_lt hcx) (sorted_get hU (show cc - a ≤ c' - a by omega) (List.getElem?_eq_getElem htU) h3))
        clear edI
        have hdN : (d : Int) < (N : Int) := by omega
        have hcN : (cc : Int) < (N : Int) := by omega
        generalize V[d - m] = y at *
        generalize U[cc - a] = x at *
        replace hcmp := Lib.hid hcmp
        replace hd := Lib.hid hd
        clear hx1 hx2 hsz
        go_upto_region 35 with fail
        go_still_tail 11, (by kernel_rfl)
        change wpList _ _ _ _ _ wr.drew
        have hR1 := hR.drewN 1
        change Row w wr.drew g _ pad at hR1
        generalize wr.drew = w2 at *
        go_wp2_with fail
        refine (hcmp.out _).mono ?_
        rintro e w3 ⟨rfl, hB3⟩
        have hR3 := hR1.below hB3
        clear hcmp hc1 hc2 hR hR1
        by_cases hcx : cmpP y x < 0
        · have hdb' : decide (cmpP y x < 0) = true := decide_eq_true hcx
          go_wp2
          go_roundw
          case measure => simp [intOf]; omega
          case rel => exact ⟨i, cc, rfl, rfl, by omega, by omega, by omega, hlo, hhi2.out hcx, hR3⟩
        · have hdb' : decide (cmpP y x < 0) = false := decide_eq_false hcx
          go_wp2
          go_roundw
          case measure => simp [intOf]; omega
          case rel => exact ⟨cc + 1, j, by go_num, rfl, by omega, by omega, by omega, hlo2.out hcx, hhi, hR3⟩
      · obtain rfl : i = j := by omega
        obtain ⟨t0, ht0⟩ : ∃ t0, i = a + t0 := ⟨i - a, by omega⟩
        have ht0h : t0 ≤ h := by have := hh.out; omega
        have ht0U : t0 ≤ U.length := by have := ha.out; have := hmm.out; omega
        have hhV : h - t0 ≤ V.length := by have := hh.out; have := hst0n.out; have := hnn.out; have := hmm.out; have := hb.out; omega
        have hcut := sym_cut hU hV h t0 ht0h ht0U hhV (by
            by_cases h1 : i = st0
            · rcases hlobd.out with h2 | h2
              · left; omega
              · right; left; have := hh.out; have := hnn.out; have := hmm.out; have := hb.out; omega
            · right; right
              intro u v h2 h3
              refine hlo.out (i - 1) u v (by omega) (by omega) (by rw [← h2]; congr 1; omega) ?_
              rw [← h3]; congr 1; have := hpp.out; have := hnn.out; have := hh.out; omega) (by
            by_cases h1 : i = r0
            · rcases hhibd.out with h2 | h2
              · left; have := hmm.out; have := ha.out; omega
              · right; left; have := hh.out; omega
            · right; right
              intro u v h2 h3
              refine hhi.out i u v (by omega) (by omega) (by rw [← h2]; congr 1; omega) ?_
              rw [← h3]; congr 1; have := hpp.out; have := hnn.out; have := hh.out; omega)
        obtain ⟨U1, U2, hU12, hlU1, hlU2⟩ := take_drop_len U t0 ht0U
        obtain ⟨V1, V2, hV12, hlV1, hlV2⟩ := take_drop_len V (h - t0) hhV
        have ht1 : U.take t0 = U1 := by rw [hU12, List.take_left' hlU1]
        have ht2 : U.drop t0 = U2 := by rw [hU12, List.drop_left' hlU1]
        have ht3 : V.take (h - t0) = V1 := by rw [hV12, List.take_left' hlV1]
        have ht4 : V.drop (h - t0) = V2 := by rw [hV12, List.drop_left' hlV1]
        rw [ht1, ht2, ht3, ht4] at hcut
        have hparts := fun (M1 M2 : List Bytes) => sym_parts (U1 := U1) (U2 := U2) (V1 := V1) (V2 := V2) (M1 := M1) (M2 := M2) (by rw [← hU12]; exact hU) (by rw [← hV12]; exact hV) hcut.1 hcut.2
        rw [← hU12, ← hV12] at hparts
        have hsU : Sorted U1 ∧ Sorted U2 := by
          rw [hU12] at hU; unfold Sorted at hU ⊢; rw [List.pairwise_append] at hU; exact ⟨hU.1, hU.2.1⟩
        have hsV : Sorted V1 ∧ Sorted V2 := by
          rw [hV12] at hV; unfold Sorted at hV ⊢; rw [List.pairwise_append] at hV; exact ⟨hV.1, hV.2.1⟩
        obtain ⟨e, hend⟩ : ∃ e : Nat, (nn : Int) - (i : Int) = (e : Int) := ⟨nn - i, by have := hnn.out; omega⟩
        have hem : Hid (e = m + V1.length) := by have := hnn.out; have := hh.out; unfold Hid; omega
        have him : Hid (m = i + U2.length) := by have := hmm.out; have := ha.out; unfold Hid; omega
        have hia : Hid (i = a + U1.length) := by unfold Hid; omega
        have hmi : Hid (mid = i + V1.length) := by have := hh.out; unfold Hid; omega
        have hme : Hid (e = mid + U2.length) := by have := hnn.out; have := hh.out; have := hmm.out; have := ha.out; unfold Hid; omega
        have heb : Hid (b = e + V2.length) := by have := hem.out; have := hb.out; have := hmm.out; unfold Hid; omega
        have hiN : i ≤ N := by omega
        have heN : e ≤ N := by have := heb.out; omega
        have hszU : Hid (∀ y ∈ U1 ++ V1, y.length ≤ 16777216) := fun y hy => hsz y (by
          rw [hU12, hV12]; simp only [List.mem_append] at hy ⊢; rcases hy with h | h
          · exact .inl (.inl h)
          · exact .inr (.inl h))
        have hszV : Hid (∀ y ∈ U2 ++ V2, y.length ≤ 16777216) := fun y hy => hsz y (by
          rw [hU12, hV12]; simp only [List.mem_append] at hy ⊢; rcases hy with h | h
          · exact .inl (.inr h)
          · exact .inr (.inr h))
        have hlen1 : Hid (U1.length + V1.length ≤ n) := by have := ha.out; have := hmi.out; have := hia.out; have := hh.out; have := hmm.out; have := hb.out; unfold Hid; omega
        have hlen2 : Hid (U2.length + V2.length ≤ n) := by have := hme.out; have := heb.out; have := hh.out; have := hmm.out; have := hb.out; have := ha.out; unfold Hid; omega
        have hNe : Hid (N = (p ++ U1 ++ U2 ++ V1 ++ V2 ++ s).length) := by
          have := hN.out; rw [hU12, hV12] at this; unfold Hid; rw [this]; simp
        have hR0 : Row w wr g (p ++ U1 ++ U2 ++ V1 ++ (V2 ++ s)) pad := by rw [hU12, hV12] at hR; simpa using hR
        replace hparts := Lib.hid hparts
        replace hsU := Lib.hid hsU
        replace hsV := Lib.hid hsV
        have hi1 : Hid (a = p.length) := ha
        have hgi := hlt
        clear hR hlo hhi hsz hcut ht1 ht2 ht3 ht4 hU hV hlU1 hlU2 hlV1 hlV2 ht0 ht0h ht0U hhV
        replace hU12 := Lib.hid hU12
        replace hV12 := Lib.hid hV12
        clear hU1 hV1 hn hsti hij hjr hlt
        have cmb : Hid (∀ M1 M2 : List Bytes, M1.Perm (U1 ++ V1) → M2.Perm (U2 ++ V2) → Sorted M1 → Sorted M2 → (M1 ++ M2).Perm (U ++ V) ∧ Sorted (M1 ++ M2)) := hparts.out
        clear hparts
        have hia' := hia.out
        have him' := him.out
        have hem' := hem.out
        have hmi' := hmi.out
        have hme' := hme.out
        have heb' := heb.out
        have hNe' := hNe.out
        have hi1' := hi1.out
        by_cases hzU1 : 0 < U1.length
        · by_cases hzU2 : 0 < U2.length
          · by_cases hzV1 : 0 < V1.length
            · by_cases hzV2 : 0 < V2.length
              · have t1 : ((i : Int) < (m : Int)) := by omega
                have t2 : ((m : Int) < (e : Int)) := by omega
                have t3 : ((a : Int) < (i : Int)) := by omega
                have t4 : ((i : Int) < (mid : Int)) := by omega
                have t5 : ((mid : Int) < (e : Int)) := by omega
                have t6 : ((e : Int) < (b : Int)) := by omega
                have hcall := rotate_calls g c (p ++ U1) U2 V1 (V2 ++ s) pad i m e N (.func (.func 90) #[] #[]) w wr hR0 hc (by omega) (by rw [hNe']; simp) (by simp; omega) (by simp; omega) (by simp; omega) (by omega) (by omega)
                replace hcall := Lib.hid hcall
                clear hia' him' hem' hmi' hme' heb' hNe' hi1'
                go_wp2_with fail
                refine hcall.out.mono ?_
                rintro e' w2 ⟨rfl, hRA⟩
                have hRA2 : Row w w2 g (p ++ U1 ++ V1 ++ (U2 ++ V2) ++ s) pad := by simpa using hRA
                clear hR0 hRA hcall
                have hcallB := ih.out g c p U1 V1 ((U2 ++ V2) ++ s) pad a i mid N w w2 (by simpa using hRA2) hc hm (by have := hNe.out; rw [this]; simp; omega) hi1.out (by have := hia.out; have := hi1.out; omega) (by have := hmi.out; have := hia.out; have := hi1.out; omega) (List.length_pos_iff.1 (by omega)) (List.length_pos_iff.1 (by omega)) hlen1.out hszU.out hsU.out.1 hsV.out.1
                replace hcallB := Lib.hid hcallB
                go_wp2_with fail
                refine hcallB.out.mono ?_
                rintro e' w3 ⟨rfl, M1, hM1, hRB⟩
                have hRB2 : Row w w3 g (p ++ M1 ++ (U2 ++ V2) ++ s) pad := by simpa using hRB
                clear hRA2 hRB hcallB
                have hM1p : Hid (M1.Perm (U1 ++ V1)) := hM1.1
                have hM1s : Hid (Sorted M1) := hM1.2
                clear hM1
                have hlM : Hid (M1.length = U1.length + V1.length) := by have := hM1p.out.length_eq; simpa [Hid] using this
                have hcallC := ih.out g c (p ++ M1) U2 V2 s pad mid e b N w w3 (by simpa using hRB2) hc hm (by have := hlM.out; rw [hNe.out]; simp; omega) (by have := hlM.out; have := hmi.out; have := hia.out; have := hi1.out; simp; omega) (by have := hlM.out; have := hme.out; have := hmi.out; have := hia.out; have := hi1.out; simp; omega) (by have := hlM.out; have := heb.out; have := hme.out; have := hmi.out; have := hia.out; have := hi1.out; simp; omega) (List.length_pos_iff.1 (by omega)) (List.length_pos_iff.1 (by omega)) hlen2.out hszV.out hsU.out.2 hsV.out.2
                replace hcallC := Lib.hid hcallC
                go_wp2_with fail
                refine hcallC.out.mono ?_
                rintro e' w4 ⟨rfl, M2, hM2, hRC⟩
                have hfin := cmb.out M1 M2 hM1p.out hM2.1 hM1s.out hM2.2
                replace hfin := Lib.hid hfin
                clear hM2 hcallC
                go_wp2
                go_end0
                exact ⟨rfl, M1 ++ M2, hfin.out, by simpa using hRC⟩
              · have hV2 : Hid (V2 = []) := List.eq_nil_of_length_eq_zero (by omega)
                have t1 : ((i : Int) < (m : Int)) := by omega
                have t2 : ((m : Int) < (e : Int)) := by omega
                have t3 : ((a : Int) < (i : Int)) := by omega
                have t4 : ((i : Int) < (mid : Int)) := by omega
                have t5 : ((mid : Int) < (e : Int)) := by omega
                have t6 : ¬ ((e : Int) < (b : Int)) := by omega
                have hcall := rotate_calls g c (p ++ U1) U2 V1 (V2 ++ s) pad i m e N (.func (.func 90) #[] #[]) w wr hR0 hc (by omega) (by rw [hNe']; simp) (by simp; omega) (by simp; omega) (by simp; omega) (by omega) (by omega)
                replace hcall := Lib.hid hcall
                clear hia' him' hem' hmi' hme' heb' hNe' hi1'
                go_wp2_with fail
                refine hcall.out.mono ?_
                rintro e' w2 ⟨rfl, hRA⟩
                have hRA2 : Row w w2 g (p ++ U1 ++ V1 ++ (U2 ++ V2) ++ s) pad := by simpa using hRA
                clear hR0 hRA hcall
                have hcallB := ih.out g c p U1 V1 ((U2 ++ V2) ++ s) pad a i mid N w w2 (by simpa using hRA2) hc hm (by have := hNe.out; rw [this]; simp; omega) hi1.out (by have := hia.out; have := hi1.out; omega) (by have := hmi.out; have := hia.out; have := hi1.out; omega) (List.length_pos_iff.1 (by omega)) (List.length_pos_iff.1 (by omega)) hlen1.out hszU.out hsU.out.1 hsV.out.1
                replace hcallB := Lib.hid hcallB
                go_wp2_with fail
                refine hcallB.out.mono ?_
                rintro e' w3 ⟨rfl, M1, hM1, hRB⟩
                have hRB2 : Row w w3 g (p ++ M1 ++ (U2 ++ V2) ++ s) pad := by simpa using hRB
                clear hRA2 hRB hcallB
                have hM1p : Hid (M1.Perm (U1 ++ V1)) := hM1.1
                have hM1s : Hid (Sorted M1) := hM1.2
                clear hM1
                have hlM : Hid (M1.length = U1.length + V1.length) := by have := hM1p.out.length_eq; simpa [Hid] using this
                have hfin := cmb.out M1 (U2 ++ V2) hM1p.out (List.Perm.refl _) hM1s.out (by rw [hV2.out]; simpa using hsU.out.2)
                replace hfin := Lib.hid hfin
                go_wp2
                go_end0
                exact ⟨rfl, M1 ++ (U2 ++ V2), hfin.out, by simpa using hRB2⟩
            · have hV1 : Hid (V1 = []) := List.eq_nil_of_length_eq_zero (by omega)
              by_cases hzV2 : 0 < V2.length
              · have t1 : ((i : Int) < (m : Int)) := by omega
                have t2 : ¬ ((m : Int) < (e : Int)) := by omega
                have t3 : ((a : Int) < (i : Int)) := by omega
                have t4 : ¬ ((i : Int) < (mid : Int)) := by omega
                have t5 : ((mid : Int) < (e : Int)) := by omega
                have t6 : ((e : Int) < (b : Int)) := by omega
                clear hia' him' hem' hmi' hme' heb' hNe' hi1'
                have hRA2 : Row w wr g (p ++ U1 ++ V1 ++ (U2 ++ V2) ++ s) pad := by have := hR0; rw [hV1.out] at this ⊢; simpa using this
                clear hR0
                obtain ⟨M1, hM1e⟩ : ∃ M1 : List Bytes, M1 = U1 ++ V1 := ⟨_, rfl⟩
                have hM1p : Hid (M1.Perm (U1 ++ V1)) := by unfold Hid; rw [hM1e]
                have hM1s : Hid (Sorted M1) := by unfold Hid; rw [hM1e, hV1.out]; simpa using hsU.out.1
                have hRB2 : Row w wr g (p ++ M1 ++ (U2 ++ V2) ++ s) pad := by rw [hM1e]; simpa using hRA2
                clear hRA2 hM1e
                have hlM : Hid (M1.length = U1.length + V1.length) := by have := hM1p.out.length_eq; simpa [Hid] using this
                have hcallC := ih.out g c (p ++ M1) U2 V2 s pad mid e b N w wr (by simpa using hRB2) hc hm (by have := hlM.out; rw [hNe.out]; simp; omega) (by have := hlM.out; have := hmi.out; have := hia.out; have := hi1.out; simp; omega) (by have := hlM.out; have := hme.out; have := hmi.out; have := hia.out; have := hi1.out; simp; omega) (by have := hlM.out; have := heb.out; have := hme.out; have := hmi.out; have := hia.out; have := hi1.out; simp; omega) (List.length_pos_iff.1 (by omega)) (List.length_pos_iff.1 (by omega)) hlen2.out hszV.out hsU.out.2 hsV.out.2
                replace hcallC := Lib.hid hcallC
                go_wp2_with fail
                refine hcallC.out.mono ?_
                rintro e' w4 ⟨rfl, M2, hM2, hRC⟩
                have hfin := cmb.out M1 M2 hM1p.out hM2.1 hM1s.out hM2.2
                replace hfin := Lib.hid hfin
                clear hM2 hcallC
                go_wp2
                go_end0
                exact ⟨rfl, M1 ++ M2, hfin.out, by simpa using hRC⟩
              · have hV2 : Hid (V2 = []) := List.eq_nil_of_length_eq_zero (by omega)
                have t1 : ((i : Int) < (m : Int)) := by omega
                have t2 : ¬ ((m : Int) < (e : Int)) := by omega
                have t3 : ((a : Int) < (i : Int)) := by omega
                have t4 : ¬ ((i : Int) < (mid : Int)) := by omega
                have t5 : ((mid : Int) < (e : Int)) := by omega
                have t6 : ¬ ((e : Int) < (b : Int)) := by omega
                clear hia' him' hem' hmi' hme' heb' hNe' hi1'
                have hRA2 : Row w wr g (p ++ U1 ++ V1 ++ (U2 ++ V2) ++ s) pad := by have := hR0; rw [hV1.out] at this ⊢; simpa using this
                clear hR0
                obtain ⟨M1, hM1e⟩ : ∃ M1 : List Bytes, M1 = U1 ++ V1 := ⟨_, rfl⟩
                have hM1p : Hid (M1.Perm (U1 ++ V1)) := by unfold Hid; rw [hM1e]
                have hM1s : Hid (Sorted M1) := by unfold Hid; rw [hM1e, hV1.out]; simpa using hsU.out.1
                have hRB2 : Row w wr g (p ++ M1 ++ (U2 ++ V2) ++ s) pad := by rw [hM1e]; simpa using hRA2
                clear hRA2 hM1e
                have hlM : Hid (M1.length = U1.length + V1.length) := by have := hM1p.out.length_eq; simpa [Hid] using this
                have hfin := cmb.out M1 (U2 ++ V2) hM1p.out (List.Perm.refl _) hM1s.out (by rw [hV2.out]; simpa using hsU.out.2)
                replace hfin := Lib.hid hfin
                go_wp2
                go_end0
                exact ⟨rfl, M1 ++ (U2 ++ V2), hfin.out, by simpa using hRB2⟩
          · have hU2 : Hid (U2 = []) := List.eq_nil_of_length_eq_zero (by omega)
            by_cases hzV1 : 0 < V1.length
            · by_cases hzV2 : 0 < V2.length
              · have t1 : ¬ ((i : Int) < (m : Int)) := by omega
                have t3 : ((a : Int) < (i : Int)) := by omega
                have t4 : ((i : Int) < (mid : Int)) := by omega
                have t5 : ¬ ((mid : Int) < (e : Int)) := by omega
                clear hia' him' hem' hmi' hme' heb' hNe' hi1'
                have hRA2 : Row w wr g (p ++ U1 ++ V1 ++ (U2 ++ V2) ++ s) pad := by have := hR0; rw [hU2.out] at this ⊢; simpa using this
                clear hR0
                have hcallB := ih.out g c p U1 V1 ((U2 ++ V2) ++ s) pad a i mid N w wr (by simpa using hRA2) hc hm (by have := hNe.out; rw [this]; simp; omega) hi1.out (by have := hia.out; have := hi1.out; omega) (by have := hmi.out; have := hia.out; have := hi1.out; omega) (List.length_pos_iff.1 (by omega)) (List.length_pos_iff.1 (by omega)) hlen1.out hszU.out hsU.out.1 hsV.out.1
                replace hcallB := Lib.hid hcallB
                go_wp2_with fail
                refine hcallB.out.mono ?_
                rintro e' w3 ⟨rfl, M1, hM1, hRB⟩
                have hRB2 : Row w w3 g (p ++ M1 ++ (U2 ++ V2) ++ s) pad := by simpa using hRB
                clear hRA2 hRB hcallB
                have hM1p : Hid (M1.Perm (U1 ++ V1)) := hM1.1
                have hM1s : Hid (Sorted M1) := hM1.2
                clear hM1
                have hlM : Hid (M1.length = U1.length + V1.length) := by have := hM1p.out.length_eq; simpa [Hid] using this
                have hfin := cmb.out M1 (U2 ++ V2) hM1p.out (List.Perm.refl _) hM1s.out (by rw [hU2.out]; simpa using hsV.out.2)
                replace hfin := Lib.hid hfin
                go_wp2
                go_end0
                exact ⟨rfl, M1 ++ (U2 ++ V2), hfin.out, by simpa using hRB2⟩
              · have hV2 : Hid (V2 = []) := List.eq_nil_of_length_eq_zero (by omega)
                have t1 : ¬ ((i : Int) < (m : Int)) := by omega
                have t3 : ((a : Int) < (i : Int)) := by omega
                have t4 : ((i : Int) < (mid : Int)) := by omega
                have t5 : ¬ ((mid : Int) < (e : Int)) := by omega
                clear hia' him' hem' hmi' hme' heb' hNe' hi1'
                have hRA2 : Row w wr g (p ++ U1 ++ V1 ++ (U2 ++ V2) ++ s) pad := by have := hR0; rw [hU2.out] at this ⊢; simpa using this
                clear hR0
                have hcallB := ih.out g c p U1 V1 ((U2 ++ V2) ++ s) pad a i mid N w wr (by simpa using hRA2) hc hm (by have := hNe.out; rw [this]; simp; omega) hi1.out (by have := hia.out; have := hi1.out; omega) (by have := hmi.out; have := hia.out; have := hi1.out; omega) (List.length_pos_iff.1 (by omega)) (List.length_pos_iff.1 (by omega)) hlen1.out hszU.out hsU.out.1 hsV.out.1
                replace hcallB := Lib.hid hcallB
                go_wp2_with fail
                refine hcallB.out.mono ?_
                rintro e' w3 ⟨rfl, M1, hM1, hRB⟩
                have hRB2 : Row w w3 g (p ++ M1 ++ (U2 ++ V2) ++ s) pad := by simpa using hRB
                clear hRA2 hRB hcallB
                have hM1p : Hid (M1.Perm (U1 ++ V1)) := hM1.1
                have hM1s : Hid (Sorted M1) := hM1.2
                clear hM1
                have hlM : Hid (M1.length = U1.length + V1.length) := by have := hM1p.out.length_eq; simpa [Hid] using this
                have hfin := cmb.out M1 (U2 ++ V2) hM1p.out (List.Perm.refl _) hM1s.out (by rw [hU2.out]; simpa using hsV.out.2)
                replace hfin := Lib.hid hfin
                go_wp2
                go_end0
                exact ⟨rfl, M1 ++ (U2 ++ V2), hfin.out, by simpa using hRB2⟩
            · have hV1 : Hid (V1 = []) := List.eq_nil_of_length_eq_zero (by omega)
              by_cases hzV2 : 0 < V2.length
              · have t1 : ¬ ((i : Int) < (m : Int)) := by omega
                have t3 : ((a : Int) < (i : Int)) := by omega
                have t4 : ¬ ((i : Int) < (mid : Int)) := by omega
                have t5 : ¬ ((mid : Int) < (e : Int)) := by omega
                clear hia' him' hem' hmi' hme' heb' hNe' hi1'
                have hRA2 : Row w wr g (p ++ U1 ++ V1 ++ (U2 ++ V2) ++ s) pad := by have := hR0; rw [hU2.out] at this ⊢; simpa using this
                clear hR0
                obtain ⟨M1, hM1e⟩ : ∃ M1 : List Bytes, M1 = U1 ++ V1 := ⟨_, rfl⟩
                have hM1p : Hid (M1.Perm (U1 ++ V1)) := by unfold Hid; rw [hM1e]
                have hM1s : Hid (Sorted M1) := by unfold Hid; rw [hM1e, hV1.out]; simpa using hsU.out.1
                have hRB2 : Row w wr g (p ++ M1 ++ (U2 ++ V2) ++ s) pad := by rw [hM1e]; simpa using hRA2
                clear hRA2 hM1e
                have hlM : Hid (M1.length = U1.length + V1.length) := by have := hM1p.out.length_eq; simpa [Hid] using this
                have hfin := cmb.out M1 (U2 ++ V2) hM1p.out (List.Perm.refl _) hM1s.out (by rw [hU2.out]; simpa using hsV.out.2)
                replace hfin := Lib.hid hfin
                go_wp2
                go_end0
                exact ⟨rfl, M1 ++ (U2 ++ V2), hfin.out, by simpa using hRB2⟩
              · have hV2 : Hid (V2 = []) := List.eq_nil_of_length_eq_zero (by omega)
                have t1 : ¬ ((i : Int) < (m : Int)) := by omega
                have t3 : ((a : Int) < (i : Int)) := by omega
                have t4 : ¬ ((i : Int) < (mid : Int)) := by omega
                have t5 : ¬ ((mid : Int) < (e : Int)) := by omega
                clear hia' him' hem' hmi' hme' heb' hNe' hi1'
                have hRA2 : Row w wr g (p ++ U1 ++ V1 ++ (U2 ++ V2) ++ s) pad := by have := hR0; rw [hU2.out] at this ⊢; simpa using this
                clear hR0
                obtain ⟨M1, hM1e⟩ : ∃ M1 : List Bytes, M1 = U1 ++ V1 := ⟨_, rfl⟩
                have hM1p : Hid (M1.Perm (U1 ++ V1)) := by unfold Hid; rw [hM1e]
                have hM1s : Hid (Sorted M1) := by unfold Hid; rw [hM1e, hV1.out]; simpa using hsU.out.1
                have hRB2 : Row w wr g (p ++ M1 ++ (U2 ++ V2) ++ s) pad := by rw [hM1e]; simpa using hRA2
                clear hRA2 hM1e
                have hlM : Hid (M1.length = U1.length + V1.length) := by have := hM1p.out.length_eq; simpa [Hid] using this
                have hfin := cmb.out M1 (U2 ++ V2) hM1p.out (List.Perm.refl _) hM1s.out (by rw [hU2.out]; simpa using hsV.out.2)
                replace hfin := Lib.hid hfin
                go_wp2
                go_end0
                exact ⟨rfl, M1 ++ (U2 ++ V2), hfin.out, by simpa using hRB2⟩
        · have hU1 : Hid (U1 = []) := List.eq_nil_of_length_eq_zero (by omega)
          by_cases hzU2 : 0 < U2.length
          · by_cases hzV1 : 0 < V1.length
            · by_cases hzV2 : 0 < V2.length
              · have t1 : ((i : Int) < (m : Int)) := by omega
                have t2 : ((m : Int) < (e : Int)) := by omega
                have t3 : ¬ ((a : Int) < (i : Int)) := by omega
                have t5 : ((mid : Int) < (e : Int)) := by omega
                have t6 : ((e : Int) < (b : Int)) := by omega
                have hcall := rotate_calls g c (p ++ U1) U2 V1 (V2 ++ s) pad i m e N (.func (.func 90) #[] #[]) w wr hR0 hc (by omega) (by rw [hNe']; simp) (by simp; omega) (by simp; omega) (by simp; omega) (by omega) (by omega)
                replace hcall := Lib.hid hcall
                clear hia' him' hem' hmi' hme' heb' hNe' hi1'
                go_wp2_with fail
                refine hcall.out.mono ?_
                rintro e' w2 ⟨rfl, hRA⟩
                have hRA2 : Row w w2 g (p ++ U1 ++ V1 ++ (U2 ++ V2) ++ s) pad := by simpa using hRA
                clear hR0 hRA hcall
                obtain ⟨M1, hM1e⟩ : ∃ M1 : List Bytes, M1 = U1 ++ V1 := ⟨_, rfl⟩
                have hM1p : Hid (M1.Perm (U1 ++ V1)) := by unfold Hid; rw [hM1e]
                have hM1s : Hid (Sorted M1) := by unfold Hid; rw [hM1e, hU1.out]; simpa using hsV.out.1
                have hRB2 : Row w w2 g (p ++ M1 ++ (U2 ++ V2) ++ s) pad := by rw [hM1e]; simpa using hRA2
                clear hRA2 hM1e
                have hlM : Hid (M1.length = U1.length + V1.length) := by have := hM1p.out.length_eq; simpa [Hid] using this
                have hcallC := ih.out g c (p ++ M1) U2 V2 s pad mid e b N w w2 (by simpa using hRB2) hc hm (by have := hlM.out; rw [hNe.out]; simp; omega) (by have := hlM.out; have := hmi.out; have := hia.out; have := hi1.out; simp; omega) (by have := hlM.out; have := hme.out; have := hmi.out; have := hia.out; have := hi1.out; simp; omega) (by have := hlM.out; have := heb.out; have := hme.out; have := hmi.out; have := hia.out; have := hi1.out; simp; omega) (List.length_pos_iff.1 (by omega)) (List.length_pos_iff.1 (by omega)) hlen2.out hszV.out hsU.out.2 hsV.out.2
                replace hcallC := Lib.hid hcallC
                go_wp2_with fail
                refine hcallC.out.mono ?_
                rintro e' w4 ⟨rfl, M2, hM2, hRC⟩
                have hfin := cmb.out M1 M2 hM1p.out hM2.1 hM1s.out hM2.2
                replace hfin := Lib.hid hfin
                clear hM2 hcallC
                go_wp2
                go_end0
                exact ⟨rfl, M1 ++ M2, hfin.out, by simpa using hRC⟩
              · have hV2 : Hid (V2 = []) := List.eq_nil_of_length_eq_zero (by omega)
                have t1 : ((i : Int) < (m : Int)) := by omega
                have t2 : ((m : Int) < (e : Int)) := by omega
                have t3 : ¬ ((a : Int) < (i : Int)) := by omega
                have t5 : ((mid : Int) < (e : Int)) := by omega
                have t6 : ¬ ((e : Int) < (b : Int)) := by omega
                have hcall := rotate_calls g c (p ++ U1) U2 V1 (V2 ++ s) pad i m e N (.func (.func 90) #[] #[]) w wr hR0 hc (by omega) (by rw [hNe']; simp) (by simp; omega) (by simp; omega) (by simp; omega) (by omega) (by omega)
                replace hcall := Lib.hid hcall
                clear hia' him' hem' hmi' hme' heb' hNe' hi1'
                go_wp2_with fail
                refine hcall.out.mono ?_
                rintro e' w2 ⟨rfl, hRA⟩
                have hRA2 : Row w w2 g (p ++ U1 ++ V1 ++ (U2 ++ V2) ++ s) pad := by simpa using hRA
                clear hR0 hRA hcall
                obtain ⟨M1, hM1e⟩ : ∃ M1 : List Bytes, M1 = U1 ++ V1 := ⟨_, rfl⟩
                have hM1p : Hid (M1.Perm (U1 ++ V1)) := by unfold Hid; rw [hM1e]
                have hM1s : Hid (Sorted M1) := by unfold Hid; rw [hM1e, hU1.out]; simpa using hsV.out.1
                have hRB2 : Row w w2 g (p ++ M1 ++ (U2 ++ V2) ++ s) pad := by rw [hM1e]; simpa using hRA2
                clear hRA2 hM1e
                have hlM : Hid (M1.length = U1.length + V1.length) := by have := hM1p.out.length_eq; simpa [Hid] using this
                have hfin := cmb.out M1 (U2 ++ V2) hM1p.out (List.Perm.refl _) hM1s.out (by rw [hV2.out]; simpa using hsU.out.2)
                replace hfin := Lib.hid hfin
                go_wp2
                go_end0
                exact ⟨rfl, M1 ++ (U2 ++ V2), hfin.out, by simpa using hRB2⟩
            · have hV1 : Hid (V1 = []) := List.eq_nil_of_length_eq_zero (by omega)
              by_cases hzV2 : 0 < V2.length
              · have t1 : ((i : Int) < (m : Int)) := by omega
                have t2 : ¬ ((m : Int) < (e : Int)) := by omega
                have t3 : ¬ ((a : Int) < (i : Int)) := by omega
                have t5 : ((mid : Int) < (e : Int)) := by omega
                have t6 : ((e : Int) < (b : Int)) := by omega
                clear hia' him' hem' hmi' hme' heb' hNe' hi1'
                have hRA2 : Row w wr g (p ++ U1 ++ V1 ++ (U2 ++ V2) ++ s) pad := by have := hR0; rw [hV1.out] at this ⊢; simpa using this
                clear hR0
                obtain ⟨M1, hM1e⟩ : ∃ M1 : List Bytes, M1 = U1 ++ V1 := ⟨_, rfl⟩
                have hM1p : Hid (M1.Perm (U1 ++ V1)) := by unfold Hid; rw [hM1e]
                have hM1s : Hid (Sorted M1) := by unfold Hid; rw [hM1e, hU1.out]; simpa using hsV.out.1
                have hRB2 : Row w wr g (p ++ M1 ++ (U2 ++ V2) ++ s) pad := by rw [hM1e]; simpa using hRA2
                clear hRA2 hM1e
                have hlM : Hid (M1.length = U1.length + V1.length) := by have := hM1p.out.length_eq; simpa [Hid] using this
                have hcallC := ih.out g c (p ++ M1) U2 V2 s pad mid e b N w wr (by simpa using hRB2) hc hm (by have := hlM.out; rw [hNe.out]; simp; omega) (by have := hlM.out; have := hmi.out; have := hia.out; have := hi1.out; simp; omega) (by have := hlM.out; have := hme.out; have := hmi.out; have := hia.out; have := hi1.out; simp; omega) (by have := hlM.out; have := heb.out; have := hme.out; have := hmi.out; have := hia.out; have := hi1.out; simp; omega) (List.length_pos_iff.1 (by omega)) (List.length_pos_iff.1 (by omega)) hlen2.out hszV.out hsU.out.2 hsV.out.2
                replace hcallC := Lib.hid hcallC
                go_wp2_with fail
                refine hcallC.out.mono ?_
                rintro e' w4 ⟨rfl, M2, hM2, hRC⟩
                have hfin := cmb.out M1 M2 hM1p.out hM2.1 hM1s.out hM2.2
                replace hfin := Lib.hid hfin
                clear hM2 hcallC
                go_wp2
                go_end0
                exact ⟨rfl, M1 ++ M2, hfin.out, by simpa using hRC⟩
              · have hV2 : Hid (V2 = []) := List.eq_nil_of_length_eq_zero (by omega)
                have t1 : ((i : Int) < (m : Int)) := by omega
                have t2 : ¬ ((m : Int) < (e : Int)) := by omega
                have t3 : ¬ ((a : Int) < (i : Int)) := by omega
                have t5 : ((mid : Int) < (e : Int)) := by omega
                have t6 : ¬ ((e : Int) < (b : Int)) := by omega
                clear hia' him' hem' hmi' hme' heb' hNe' hi1'
                have hRA2 : Row w wr g (p ++ U1 ++ V1 ++ (U2 ++ V2) ++ s) pad := by have := hR0; rw [hV1.out] at this ⊢; simpa using this
                clear hR0
                obtain ⟨M1, hM1e⟩ : ∃ M1 : List Bytes, M1 = U1 ++ V1 := ⟨_, rfl⟩
                have hM1p : Hid (M1.Perm (U1 ++ V1)) := by unfold Hid; rw [hM1e]
                have hM1s : Hid (Sorted M1) := by unfold Hid; rw [hM1e, hU1.out]; simpa using hsV.out.1
                have hRB2 : Row w wr g (p ++ M1 ++ (U2 ++ V2) ++ s) pad := by rw [hM1e]; simpa using hRA2
                clear hRA2 hM1e
                have hlM : Hid (M1.length = U1.length + V1.length) := by have := hM1p.out.length_eq; simpa [Hid] using this
                have hfin := cmb.out M1 (U2 ++ V2) hM1p.out (List.Perm.refl _) hM1s.out (by rw [hV2.out]; simpa using hsU.out.2)
                replace hfin := Lib.hid hfin
                go_wp2
                go_end0
                exact ⟨rfl, M1 ++ (U2 ++ V2), hfin.out, by simpa using hRB2⟩
          · have hU2 : Hid (U2 = []) := List.eq_nil_of_length_eq_zero (by omega)
            by_cases hzV1 : 0 < V1.length
            · by_cases hzV2 : 0 < V2.length
              · have t1 : ¬ ((i : Int) < (m : Int)) := by omega
                have t3 : ¬ ((a : Int) < (i : Int)) := by omega
                have t5 : ¬ ((mid : Int) < (e : Int)) := by omega
                clear hia' him' hem' hmi' hme' heb' hNe' hi1'
                have hRA2 : Row w wr g (p ++ U1 ++ V1 ++ (U2 ++ V2) ++ s) pad := by have := hR0; rw [hU2.out] at this ⊢; simpa using this
                clear hR0
                obtain ⟨M1, hM1e⟩ : ∃ M1 : List Bytes, M1 = U1 ++ V1 := ⟨_, rfl⟩
                have hM1p : Hid (M1.Perm (U1 ++ V1)) := by unfold Hid; rw [hM1e]
                have hM1s : Hid (Sorted M1) := by unfold Hid; rw [hM1e, hU1.out]; simpa using hsV.out.1
                have hRB2 : Row w wr g (p ++ M1 ++ (U2 ++ V2) ++ s) pad := by rw [hM1e]; simpa using hRA2
                clear hRA2 hM1e
                have hlM : Hid (M1.length = U1.length + V1.length) := by have := hM1p.out.length_eq; simpa [Hid] using this
                have hfin := cmb.out M1 (U2 ++ V2) hM1p.out (List.Perm.refl _) hM1s.out (by rw [hU2.out]; simpa using hsV.out.2)
                replace hfin := Lib.hid hfin
                go_wp2
                go_end0
                exact ⟨rfl, M1 ++ (U2 ++ V2), hfin.out, by simpa using hRB2⟩
              · have hV2 : Hid (V2 = []) := List.eq_nil_of_length_eq_zero (by omega)
                have t1 : ¬ ((i : Int) < (m : Int)) := by omega
                have t3 : ¬ ((a : Int) < (i : Int)) := by omega
                have t5 : ¬ ((mid : Int) < (e : Int)) := by omega
                clear hia' him' hem' hmi' hme' heb' hNe' hi1'
                have hRA2 : Row w wr g (p ++ U1 ++ V1 ++ (U2 ++ V2) ++ s) pad := by have := hR0; rw [hU2.out] at this ⊢; simpa using this
                clear hR0
                obtain ⟨M1, hM1e⟩ : ∃ M1 : List Bytes, M1 = U1 ++ V1 := ⟨_, rfl⟩
                have hM1p : Hid (M1.Perm (U1 ++ V1)) := by unfold Hid; rw [hM1e]
                have hM1s : Hid (Sorted M1) := by unfold Hid; rw [hM1e, hU1.out]; simpa using hsV.out.1
                have hRB2 : Row w wr g (p ++ M1 ++ (U2 ++ V2) ++ s) pad := by rw [hM1e]; simpa using hRA2
                clear hRA2 hM1e
                have hlM : Hid (M1.length = U1.length + V1.length) := by have := hM1p.out.length_eq; simpa [Hid] using this
                have hfin := cmb.out M1 (U2 ++ V2) hM1p.out (List.Perm.refl _) hM1s.out (by rw [hU2.out]; simpa using hsV.out.2)
                replace hfin := Lib.hid hfin
                go_wp2
                go_end0
                exact ⟨rfl, M1 ++ (U2 ++ V2), hfin.out, by simpa using hRB2⟩
            · have hV1 : Hid (V1 = []) := List.eq_nil_of_length_eq_zero (by omega)
              by_cases hzV2 : 0 < V2.length
              · have t1 : ¬ ((i : Int) < (m : Int)) := by omega
                have t3 : ¬ ((a : Int) < (i : Int)) := by omega
                have t5 : ¬ ((mid : Int) < (e : Int)) := by omega
                clear hia' him' hem' hmi' hme' heb' hNe' hi1'
                have hRA2 : Row w wr g (p ++ U1 ++ V1 ++ (U2 ++ V2) ++ s) pad := by have := hR0; rw [hU2.out] at this ⊢; simpa using this
                clear hR0
                obtain ⟨M1, hM1e⟩ : ∃ M1 : List Bytes, M1 = U1 ++ V1 := ⟨_, rfl⟩
                have hM1p : Hid (M1.Perm (U1 ++ V1)) := by unfold Hid; rw [hM1e]
                have hM1s : Hid (Sorted M1) := by unfold Hid; rw [hM1e, hU1.out]; simpa using hsV.out.1
                have hRB2 : Row w wr g (p ++ M1 ++ (U2 ++ V2) ++ s) pad := by rw [hM1e]; simpa using hRA2
                clear hRA2 hM1e
                have hlM : Hid (M1.length = U1.length + V1.length) := by have := hM1p.out.length_eq; simpa [Hid] using this
                have hfin := cmb.out M1 (U2 ++ V2) hM1p.out (List.Perm.refl _) hM1s.out (by rw [hU2.out]; simpa using hsV.out.2)
                replace hfin := Lib.hid hfin
                go_wp2
                go_end0
                exact ⟨rfl, M1 ++ (U2 ++ V2), hfin.out, by simpa using hRB2⟩
              · have hV2 : Hid (V2 = []) := List.eq_nil_of_length_eq_zero (by omega)
                have t1 : ¬ ((i : Int) < (m : Int)) := by omega
                have t3 : ¬ ((a : Int) < (i : Int)) := by omega
                have t5 : ¬ ((mid : Int) < (e : Int)) := by omega
                clear hia' him' hem' hmi' hme' heb' hNe' hi1'
                have hRA2 : Row w wr g (p ++ U1 ++ V1 ++ (U2 ++ V2) ++ s) pad := by have := hR0; rw [hU2.out] at this ⊢; simpa using this
                clear hR0
                obtain ⟨M1, hM1e⟩ : ∃ M1 : List Bytes, M1 = U1 ++ V1 := ⟨_, rfl⟩
                have hM1p : Hid (M1.Perm (U1 ++ V1)) := by unfold Hid; rw [hM1e]
                have hM1s : Hid (Sorted M1) := by unfold Hid; rw [hM1e, hU1.out]; simpa using hsV.out.1
                have hRB2 : Row w wr g (p ++ M1 ++ (U2 ++ V2) ++ s) pad := by rw [hM1e]; simpa using hRA2
                clear hRA2 hM1e
                have hlM : Hid (M1.length = U1.length + V1.length) := by have := hM1p.out.length_eq; simpa [Hid] using this
                have hfin := cmb.out M1 (U2 ++ V2) hM1p.out (List.Perm.refl _) hM1s.out (by rw [hU2.out]; simpa using hsV.out.2)
                replace hfin := Lib.hid hfin
                go_wp2
                go_end0
                exact ⟨rfl, M1 ++ (U2 ++ V2), hfin.out, by simpa using hRB2⟩

theorem sym_ok : ∀ n, SymOk n
  | 0 => fun g c p U V s pad a m b N w W _ _ _ _ _ _ _ hU _ hn _ _ _ => by
    exfalso; exact hU (List.eq_nil_of_length_eq_zero (by omega))
  | n + 1 => fun g c p U V s pad a m b N w W hR hc hm hN ha hmm hb hU hV hn hsz sU sV => by
    have hu : 0 < U.length := List.length_pos_iff.2 hU
    have hv : 0 < V.length := List.length_pos_iff.2 hV
    by_cases h1 : U.length = 1
    · obtain ⟨x, rfl⟩ := List.length_eq_one_iff.1 h1
      exact sym1_calls g c x p V s pad a m b N w W hR hc hm hN ha (by simpa using hmm) (by simpa using hb) (by simpa using hsz) sV
    · by_cases h2 : V.length = 1
      · obtain ⟨y, rfl⟩ := List.length_eq_one_iff.1 h2
        exact sym2_calls g c y p U s pad a m b N w W hR hc hm hN ha hmm (by simpa using hb) h1 (fun u hu => hsz u (by simp at hu ⊢; rcases hu with h | h; exact .inr h; exact .inl h)) sU
      · exact sym_step n (sym_ok n) g c p U V s pad a m b N w W hR hc hm hN ha hmm hb (by omega) (by omega) hn hsz sU sV
end Go.Proofs.YtocbjhhnginebaaGreat

namespace Go.Proofs.YtocbjhhnginebaaGreat
open Go.RowKit Go.Lib
set_option linter.unusedVariables false
set_option linter.unusedSimpArgs false

/-- Below 'lim' each block of bs elements is in order. -/
def PB (bs lim : Nat) (l : List Bytes) : Prop := ∀ i j x y, i ≤ j → j < lim → i / bs = j / bs → l[i]? = some x → l[j]? = some y → leP x y
/-- From 'fr' on each block of bs elements is in order. -/
def PC (bs fr : Nat) (l : List Bytes) : Prop := ∀ i j x y, fr ≤ i → i ≤ j → i / bs = j / bs → l[i]? = some x → l[j]? = some y → leP x y
theorem sorted_of {M : List Bytes} (h : ∀ (i j : Nat) (x y : Bytes), i < j → M[i]? = some x → M[j]? = some y → leP x y) : Sorted M :=
  List.pairwise_iff_getElem.2 fun i j hi hj hij => h i j _ _ hij (List.getElem?_eq_getElem hi) (List.getElem?_eq_getElem hj)
theorem PB.block {bs k a : Nat} {p M M' s : List Bytes} (hbs : 0 < bs) (hp : p.length = a) (ha : a = bs * k) (hl : M'.length ≤ bs) (h : PB bs a (p ++ M ++ s)) (hs : Sorted M') : PB bs (a + M'.length) (p ++ M' ++ s) := by
  intro i j x y hij hj hb hx hy
  simp only [List.append_assoc] at hx hy
  by_cases hja : j < a
  · rw [List.getElem?_append_left (by omega)] at hx hy
    refine h i j x y hij hja hb ?_ ?_
    · rw [List.append_assoc, List.getElem?_append_left (by omega)]; exact hx
    · rw [List.append_assoc, List.getElem?_append_left (by omega)]; exact hy
  · have hjk : j / bs = k := by
      rw [Nat.div_eq_iff hbs]
      rw [Nat.mul_comm] at ha
      omega
    have hia : a ≤ i := by
      rw [hjk] at hb
      have := (Nat.div_eq_iff hbs).1 hb
      rw [Nat.mul_comm] at ha
      omega
    rw [get_right p _ _ (by omega), List.getElem?_append_left (by omega)] at hx hy
    exact sorted_get hs (by omega) hx hy
theorem PC.block {bs a b : Nat} {p M M' s : List Bytes} (hp : p.length = a) (hM : M.length = M'.length) (hb : b = a + M.length) (h : PC bs a (p ++ M ++ s)) : PC bs b (p ++ M' ++ s) := by
  intro i j x y hi hij hbl hx hy
  have e : ∀ k, b ≤ k → (p ++ M' ++ s)[k]? = (p ++ M ++ s)[k]? := fun k hk => by
    rw [get_right (p ++ M') _ _ (by simp; omega), get_right (p ++ M) _ _ (by simp; omega)]
    congr 1; simp; omega
  rw [e i hi] at hx
  rw [e j (by omega)] at hy
  exact h i j x y (by omega) hij hbl hx hy
theorem PC.sorted {bs k a : Nat} {p U s : List Bytes} (hbs : 0 < bs) (hp : p.length = a) (ha : a = bs * k) (hl : U.length ≤ bs) (h : PC bs a (p ++ U ++ s)) : Sorted U := by
  refine sorted_of fun i j x y hij hx hy => ?_
  have hj : j < U.length := (List.getElem?_eq_some_iff.1 hy).1
  refine h (a + i) (a + j) x y (by omega) (by omega) ?_ ?_ ?_
  · rw [ha, Nat.mul_add_div hbs, Nat.mul_add_div hbs, Nat.div_eq_of_lt (by omega), Nat.div_eq_of_lt (by omega)]
  · rw [List.append_assoc, get_right p _ _ (by omega), List.getElem?_append_left (by omega)]; rw [← hx]; congr 1; omega
  · rw [List.append_assoc, get_right p _ _ (by omega), List.getElem?_append_left (by omega)]; rw [← hy]; congr 1; omega
theorem seg_split (l : List Bytes) (a b : Nat) (hab : a ≤ b) (hb : b ≤ l.length) : ∃ p M s : List Bytes, l = p ++ M ++ s ∧ p.length = a ∧ M.length = b - a ∧ s.length = l.length - b := by
  refine ⟨l.take a, (l.drop a).take (b - a), l.drop b, ?_, by simp; omega, by simp; omega, by simp⟩
  have e1 : l.drop b = (l.drop a).drop (b - a) := by rw [List.drop_drop]; congr 1; omega
  rw [e1, List.append_assoc, List.take_append_drop, List.take_append_drop]

set_option maxHeartbeats 8000000 in
set_option maxRecDepth 100000 in
theorem stable_calls (g c : Nat) (l : List Bytes) (pad : List Value) (N : Nat) (w W : World) (hR : Row w W g l pad) (hc : N ≤ c) (hm : N ≤ 2305843009213) (hN : N = l.length) (hsz : ∀ y ∈ l, y.length ≤ 16777216) :
    Calls Tryz.prog 128 #[.slice (some ⟨g, 0, none⟩) N c, .int .i64 N, .func (.func 90) #[] #[]] W fun e w' => e = .returned (.tuple #[]) ∧ ∃ l' : List Bytes, (l'.Perm l ∧ Sorted l') ∧ Row w w' g l' pad := by
  replace hN := Lib.hid hN
  go_enter Tryz.func128, Tryz.ntmps128
  go_wp2
  go_loopw [7, 8] (fun x y W' => ∃ (a b k : Nat) (l' : List Bytes), x = .int .i64 a ∧ y = .int .i64 b ∧ Hid (a = 20 * k) ∧ Hid (b = a + 20) ∧ a ≤ N ∧ b ≤ N + 20 ∧ Hid (l'.Perm l) ∧ Hid (PB 20 a l') ∧ Row w W' g l' pad) (fun x _ _ => N - (intOf x).toNat)
  case atStart => exact ⟨0, 20, 0, l, rfl, rfl, rfl, rfl, Nat.zero_le _, by omega, List.Perm.refl _, fun i j x y _ h => by omega, hR⟩
  case round =>
    clear hR
    obtain ⟨a, b, k, l', rfl, rfl, hak, hba, haN, hbN, hperm, hPB, hR⟩ := hrel
    have hlen : Hid (N = l'.length) := by rw [hperm.out.length_eq]; exact hN
    by_cases hlt : b ≤ N
    · obtain ⟨p, M, s, hl', hp, hM, hs⟩ := seg_split l' a b (by have := hba.out; omega) (by have := hlen.out; omega)
      have hcall := insort_calls g c p M s pad a b N w wr (by rw [← hl']; exact hR) hc (by omega) (by rw [hlen.out, hl']) hp.symm (by have := hba.out; omega) (fun x hx => hsz x (hperm.out.mem_iff.1 (by rw [hl']; simp [hx])))
      replace hcall := Lib.hid hcall
      replace hl' := Lib.hid hl'
      replace hp := Lib.hid hp
      replace hM := Lib.hid hM
      clear hsz hs
      go_wp2_with fail
      refine hcall.out.mono ?_
      rintro e w2 ⟨rfl, M', hM', hR2⟩
      have hlM : M'.length = 20 := by have := hM'.1.length_eq; have := hM.out; have := hba.out; omega
      have hPB2 : Hid (PB 20 b (p ++ M' ++ s)) := by
        have := PB.block (M := M) (by omega) hp.out hak.out (by omega) (by rw [← hl'.out]; exact hPB.out) hM'.2 (s := s)
        rw [hlM, ← hba.out] at this; exact this
      have hperm2 : Hid ((p ++ M' ++ s).Perm l) := by
        refine List.Perm.trans ?_ hperm.out
        rw [hl'.out]
        exact List.Perm.append_right _ (List.Perm.append_left _ hM'.1)
      have hbk : Hid (b = 20 * (k + 1)) := by have := hba.out; have := hak.out; unfold Hid; omega
      replace hlM := Lib.hid hlM
      clear hcall hM' hPB hperm
      go_wp2
      go_roundw
      case measure => have := hba.out; simp [intOf]; omega
      case rel => exact ⟨b, b + 20, k + 1, _, rfl, by go_num, hbk, rfl, hlt, by omega, hperm2, hPB2, hR2⟩
    · obtain ⟨p, M, s, hl', hp, hM, hs⟩ := seg_split l' a N haN (by have := hlen.out; omega)
      have hcall := insort_calls g c p M s pad a N N w wr (by rw [← hl']; exact hR) hc (by omega) (by rw [hlen.out, hl']) hp.symm (by omega) (fun x hx => hsz x (hperm.out.mem_iff.1 (by rw [hl']; simp [hx])))
      replace hcall := Lib.hid hcall
      replace hl' := Lib.hid hl'
      replace hp := Lib.hid hp
      replace hM := Lib.hid hM
      replace hs := Lib.hid hs
      replace hsz := Lib.hid hsz
      go_wp2_with fail
      refine hcall.out.mono ?_
      rintro e w2 ⟨rfl, M', hM', hR2⟩
      have hlM : M'.length = N - a := by have := hM'.1.length_eq; have := hM.out; omega
      have hPB2 : Hid (PB 20 N (p ++ M' ++ s)) := by
        have := PB.block (M := M) (by omega) hp.out hak.out (by have := hba.out; omega) (by rw [← hl'.out]; exact hPB.out) hM'.2 (s := s)
        rw [hlM, show a + (N - a) = N by omega] at this; exact this
      have hperm2 : Hid ((p ++ M' ++ s).Perm l) := by
        refine List.Perm.trans ?_ hperm.out
        rw [hl'.out]
        exact List.Perm.append_right _ (List.Perm.append_left _ hM'.1)
      generalize p ++ M' ++ s = l2 at *
      clear hcall hM' hPB hperm hlM hl' hp hM hs hlen hR hba hbN hlt haN hak
      go_wp2
      go_loopw [6] (fun x W' => ∃ (bs : Nat) (l' : List Bytes), x = .int .i64 bs ∧ 20 ≤ bs ∧ bs ≤ 2 * N + 20 ∧ Hid (l'.Perm l) ∧ Hid (PB bs N l') ∧ Row w W' g l' pad) (fun x _ => 2 * N + 20 - (intOf x).toNat)
      case atStart => exact ⟨20, l2, rfl, Nat.le_refl _, by omega, hperm2, hPB2, hR2⟩
      case round =>
        clear hperm2 hPB2 hR2
        obtain ⟨bs, l2, rfl, hbs, hbsN, hperm, hPB, hR⟩ := hrel
        have hlen : Hid (N = l2.length) := by rw [hperm.out.length_eq]; exact hN
        by_cases hlt : bs < N
        · have hPC : Hid (PC bs 0 l2) := fun i j x y _ hij hb hx hy => hPB.out i j x y hij (by have := (List.getElem?_eq_some_iff.1 hy).1; have := hlen.out; omega) hb hx hy
          go_wp2
          go_loopw [7, 8] (fun x y W' => ∃ (a b k : Nat) (l' : List Bytes), x = .int .i64 a ∧ y = .int .i64 b ∧ Hid (a = 2 * bs * k) ∧ Hid (b = a + 2 * bs) ∧ a ≤ N ∧ b ≤ N + 2 * bs ∧ Hid (l'.Perm l) ∧ Hid (PB (2 * bs) a l') ∧ Hid (PC bs a l') ∧ Row w W' g l' pad) (fun x _ _ => N - (intOf x).toNat)
          case atStart => exact ⟨0, 2 * bs, 0, l2, rfl, by go_num, rfl, by simp [Hid], Nat.zero_le _, by omega, hperm, fun i j x y _ h => by omega, hPC, hR⟩
          case round =>
            clear hR hPC hPB hperm hlen
            obtain ⟨a, b, k, l3, rfl, rfl, hak, hba, haN, hbN, hperm, hPB, hPC, hR⟩ := hrel
            have hlen : Hid (N = l3.length) := by rw [hperm.out.length_eq]; exact hN
            have hak2 : Hid (a = bs * (2 * k)) := by unfold Hid; rw [hak.out, Nat.mul_comm 2 bs, Nat.mul_assoc]
            by_cases hlt2 : b ≤ N
            · obtain ⟨p, M, s, hl', hp, hM, hs⟩ := seg_split l3 a b (by have := hba.out; omega) (by have := hlen.out; omega)
              obtain ⟨U, V, hUV, hlU, hlV⟩ := take_drop_len M bs (by have := hba.out; omega)
              subst hUV
              rw [hM] at hlV
              have hsU : Sorted U := PC.sorted (s := V ++ s) (by omega) hp hak2.out (by omega) (by rw [hl'] at hPC; simpa using hPC.out)
              have hsV : Sorted V := by
                have h2 := PC.block (M := U) (M' := U) (s := V ++ s) (b := a + bs) hp rfl (by omega) (by rw [hl'] at hPC; simpa using hPC.out)
                refine PC.sorted (bs := bs) (a := a + bs) (p := p ++ U) (s := s) (k := 2 * k + 1) (by omega) (by simp; omega) (by have := hak2.out; rw [Nat.mul_add]; omega) (by have := hba.out; omega) (by simpa using h2)
              have hcall := sym_ok (U.length + V.length) g c p U V s pad a (a + bs) b N w wr (by rw [hl'] at hR; simpa using hR) hc (by omega) (by rw [hlen.out, hl']; simp) hp.symm (by omega) (by have := hba.out; omega) (List.length_pos_iff.1 (by omega)) (List.length_pos_iff.1 (by have := hba.out; omega)) (Nat.le_refl _) (fun x hx => hsz.out x (hperm.out.mem_iff.1 (by rw [hl']; simp at hx ⊢; rcases hx with h | h; exact .inr (.inl h); exact .inr (.inr (.inl h))))) hsU hsV
              obtain ⟨mm, hmm⟩ : ∃ mm, a + bs = mm := ⟨_, rfl⟩
              rw [hmm] at hcall
              have hmI : (a : Int) + (bs : Int) = (mm : Int) := by omega
              have hmN : mm ≤ N := by have := hba.out; omega
              replace hcall := Lib.hid hcall
              replace hl' := Lib.hid hl'
              replace hp := Lib.hid hp
              replace hlU := Lib.hid hlU
              replace hlV := Lib.hid hlV
              replace hM := Lib.hid hM
              replace hmm := Lib.hid hmm
              clear hs hsU hsV
              go_wp2_with fail
              refine hcall.out.mono ?_
              rintro e w3 ⟨rfl, M', hM', hR3⟩
              have hlM : M'.length = 2 * bs := by have := hM'.1.length_eq; have := hlU.out; have := hlV.out; have := hM.out; have := hba.out; simp at *; omega
              have hPB2 : Hid (PB (2 * bs) b (p ++ M' ++ s)) := by
                have := PB.block (M := U ++ V) (by omega) hp.out hak.out (by omega) (by rw [← hl'.out]; exact hPB.out) hM'.2 (s := s)
                rw [hlM, ← hba.out] at this; exact this
              have hPC2 : Hid (PC bs b (p ++ M' ++ s)) := PC.block (M := U ++ V) hp.out (hM'.1.length_eq.symm) (by have := hM.out; have := hba.out; omega) (by rw [← hl'.out]; exact hPC.out)
              have hperm2 : Hid ((p ++ M' ++ s).Perm l) := by
                refine List.Perm.trans ?_ hperm.out
                rw [hl'.out]
                exact List.Perm.append_right _ (List.Perm.append_left _ hM'.1)
              have hbk : Hid (b = 2 * bs * (k + 1)) := by have := hba.out; have := hak.out; unfold Hid; rw [Nat.mul_add]; omega
              replace hlM := Lib.hid hlM
              clear hcall hM' hPB hPC hperm hR hmI
              go_wp2
              go_roundw
              case measure => have := hba.out; simp [intOf]; omega
              case rel => exact ⟨b, b + 2 * bs, k + 1, _, rfl, by go_num, hbk, rfl, hlt2, by omega, hperm2, hPB2, hPC2, hR3⟩
            · by_cases hlt3 : a + bs < N
              · obtain ⟨p, M, s, hl', hp, hM, hs⟩ := seg_split l3 a N haN (by have := hlen.out; omega)
                obtain ⟨U, V, hUV, hlU, hlV⟩ := take_drop_len M bs (by omega)
                subst hUV
                rw [hM] at hlV
                have hsU : Sorted U := PC.sorted (s := V ++ s) (by omega) hp hak2.out (by omega) (by rw [hl'] at hPC; simpa using hPC.out)
                have hsV : Sorted V := by
                  have h2 := PC.block (M := U) (M' := U) (s := V ++ s) (b := a + bs) hp rfl (by omega) (by rw [hl'] at hPC; simpa using hPC.out)
                  refine PC.sorted (bs := bs) (a := a + bs) (p := p ++ U) (s := s) (k := 2 * k + 1) (by omega) (by simp; omega) (by have := hak2.out; rw [Nat.mul_add]; omega) (by have := hba.out; omega) (by simpa using h2)
                have hcall := sym_ok (U.length + V.length) g c p U V s pad a (a + bs) N N w wr (by rw [hl'] at hR; simpa using hR) hc (by omega) (by rw [hlen.out, hl']; simp) hp.symm (by omega) (by omega) (List.length_pos_iff.1 (by omega)) (List.length_pos_iff.1 (by omega)) (Nat.le_refl _) (fun x hx => hsz.out x (hperm.out.mem_iff.1 (by rw [hl']; simp at hx ⊢; rcases hx with h | h; exact .inr (.inl h); exact .inr (.inr (.inl h))))) hsU hsV
                obtain ⟨mm, hmm⟩ : ∃ mm, a + bs = mm := ⟨_, rfl⟩
                rw [hmm] at hcall
                have hmI : (a : Int) + (bs : Int) = (mm : Int) := by omega
                have hmN : mm < N := by omega
                replace hcall := Lib.hid hcall
                replace hl' := Lib.hid hl'
                replace hp := Lib.hid hp
                replace hlU := Lib.hid hlU
                replace hlV := Lib.hid hlV
                replace hM := Lib.hid hM
                replace hmm := Lib.hid hmm
                replace hs := Lib.hid hs
                clear hsU hsV
                go_wp2_with fail
                refine hcall.out.mono ?_
                rintro e w3 ⟨rfl, M', hM', hR3⟩
                have hlM : M'.length = N - a := by have := hM'.1.length_eq; have := hM.out; simp at *; omega
                have hPB2 : Hid (PB (2 * bs) N (p ++ M' ++ s)) := by
                  have := PB.block (M := U ++ V) (by omega) hp.out hak.out (by have := hba.out; omega) (by rw [← hl'.out]; exact hPB.out) hM'.2 (s := s)
                  rw [hlM, show a + (N - a) = N by omega] at this; exact this
                have hperm2 : Hid ((p ++ M' ++ s).Perm l) := by
                  refine List.Perm.trans ?_ hperm.out
                  rw [hl'.out]
                  exact List.Perm.append_right _ (List.Perm.append_left _ hM'.1)
                replace hlM := Lib.hid hlM
                clear hcall hM' hPB hPC hperm hR hmI
                go_wp2
                go_roundw
                case measure => simp [intOf]; omega
                case rel => exact ⟨bs * 2, _, by go_num, by omega, by omega, hperm2, by rw [Nat.mul_comm bs 2]; exact hPB2, hR3⟩
              · have hPB2 : Hid (PB (2 * bs) N l3) := by
                  obtain ⟨p, M, s, hl', hp, hM, hs⟩ := seg_split l3 a N haN (by have := hlen.out; omega)
                  have hsM : Sorted M := PC.sorted (s := s) (by omega) hp hak2.out (by omega) (by rw [← hl']; exact hPC.out)
                  have := PB.block (M := M) (by omega) hp hak.out (by omega) (by rw [← hl']; exact hPB.out) hsM (s := s)
                  rw [hM, show a + (N - a) = N by omega, ← hl'] at this; exact this
                have hmN : ¬ ((a : Int) + (bs : Int) < (N : Int)) := by omega
                clear hPB hPC
                go_wp2
                go_roundw
                case measure => simp [intOf]; omega
                case rel => exact ⟨bs * 2, _, by go_num, by omega, by omega, hperm, by rw [Nat.mul_comm bs 2]; exact hPB2, hR⟩
        · have hfin : Hid (Sorted l2) := by
            refine sorted_of fun i j x y hij hx hy => hPB.out i j x y (by omega) ?_ ?_ hx hy
            · have := (List.getElem?_eq_some_iff.1 hy).1; have := hlen.out; omega
            · have := (List.getElem?_eq_some_iff.1 hy).1; have := hlen.out
              rw [Nat.div_eq_of_lt (by omega), Nat.div_eq_of_lt (by omega)]
          clear hPB
          go_wp2
          go_end0
          exact ⟨rfl, l2, ⟨hperm.out, hfin.out⟩, hR⟩
end Go.Proofs.YtocbjhhnginebaaGreat

namespace Go.Proofs.YtocbjhhnginebaaGreat
open Go.RowKit Go.Lib
set_option linter.unusedVariables false
set_option linter.unusedSimpArgs false

theorem leP_antisymm {a b : Bytes} (h : leP a b) (k : leP b a) : a = b := by
  unfold leP at *
  rw [cmpP_swap a b] at k
  exact cmpP_eq (by omega)
theorem sorted_unique : ∀ {l1 l2 : List Bytes}, l1.Perm l2 → Sorted l1 → Sorted l2 → l1 = l2
  | [], l2, h, _, _ => (List.Perm.nil_eq h)
  | a :: l1, [], h, _, _ => by have := h.length_eq; simp at this
  | a :: l1, b :: l2, h, h1, h2 => by
    have hab : a = b := by
      have ha : a ∈ b :: l2 := h.mem_iff.1 (by simp)
      have hb : b ∈ a :: l1 := h.mem_iff.2 (by simp)
      rcases List.mem_cons.1 ha with e | e
      · exact e
      · rcases List.mem_cons.1 hb with e' | e'
        · exact e'.symm
        · exact leP_antisymm ((List.pairwise_cons.1 h1).1 b e') ((List.pairwise_cons.1 h2).1 a e)
    subst hab
    rw [sorted_unique ((List.perm_cons a).1 h) (List.pairwise_cons.1 h1).2 (List.pairwise_cons.1 h2).2]
def sortP (l : List Bytes) : List Bytes := l.mergeSort fun a b => decide (cmpP a b ≤ 0)
theorem sortP_perm (l : List Bytes) : (sortP l).Perm l := List.mergeSort_perm _ _
theorem sortP_sorted (l : List Bytes) : Sorted (sortP l) := by
  have h := List.pairwise_mergeSort (le := fun a b => decide (cmpP a b ≤ 0)) (fun a b c h k => by
    simp only [decide_eq_true_eq] at *
    exact leP_trans (a := a) (b := b) (c := c) h k) (fun a b => by
    simp only [Bool.or_eq_true, decide_eq_true_eq]
    rw [cmpP_swap a b]; omega) l
  exact h.imp (fun h => by unfold leP; simpa using h)
theorem sortP_eq {l l' : List Bytes} (h : l'.Perm l) (hs : Sorted l') : l' = sortP l := sorted_unique (h.trans (sortP_perm l).symm) hs (sortP_sorted l)

/-- Shapes of a row of the call's own that holds strings. -/
theorem Strs.block {B : Nat} {W : World} {v : Value} {l : List Bytes} (h : Strs B W v l) : (∃ c, v = .slice none 0 0 ∧ l = [] ∧ c = 0) ∨
    (∃ g c pad, v = .slice (some ⟨g, 0, none⟩) l.length c ∧ B ≤ g ∧ W.heap[g]? = some (.cells (strs l ++ pad).toArray 9 (0, 0)) ∧ l.length ≤ c ∧ c ≤ maxLen ∧ l.length + pad.length = c) := by
  rcases h.2 with ⟨h1, h2⟩ | ⟨g, cap, cur, h1, h2, h3, h4, h5, h6, h7⟩
  · exact .inl ⟨0, h1, List.eq_nil_of_length_eq_zero h2, rfl⟩
  · have hl : (strs l).length = l.length := by simp [strs]
    refine .inr ⟨g, cap, cur.toList.drop l.length, h1, h2, ?_, h4, h5, ?_⟩
    · rw [h3]
      congr 2
      rw [← h7, Nat.mul_one, List.take_append_drop]
    · simp; omega
theorem Strs.of_block {B g c : Nat} {W : World} {l : List Bytes} {pad : List Value} (hg : B ≤ g) (h : W.heap[g]? = some (.cells (strs l ++ pad).toArray 9 (0, 0))) (hc : l.length ≤ c) (hm : c ≤ maxLen) (hp : l.length + pad.length = c) : Strs B W (.slice (some ⟨g, 0, none⟩) l.length c) l := by
  have hl : (strs l).length = l.length := by simp [strs]
  refine ⟨by simp [strs], .inr ⟨g, c, _, rfl, hg, h, hc, hm, by simp; omega, ?_⟩⟩
  rw [Nat.mul_one, ← hl]; simp

set_option maxHeartbeats 2000000 in
set_option maxRecDepth 100000 in
theorem sortstable_calls (g c : Nat) (l : List Bytes) (pad : List Value) (w W : World) (hR : Row w W g l pad) (hc : l.length ≤ c) (hm : l.length ≤ 2305843009213) (hsz : ∀ y ∈ l, y.length ≤ 16777216) :
    Calls Tryz.prog 89 #[.slice (some ⟨g, 0, none⟩) l.length c, .func (.func 90) #[] #[]] W fun e w' => e = .returned (.tuple #[]) ∧ Row w w' g (sortP l) pad := by
  have hcall := stable_calls g c l pad l.length w W hR hc hm rfl hsz
  replace hcall := Lib.hid hcall
  go_enter Tryz.func89, Tryz.ntmps89
  go_wp2_with fail
  refine hcall.out.mono ?_
  rintro e w2 ⟨rfl, l', ⟨h1, h2⟩, hR2⟩
  rw [sortP_eq h1 h2] at hR2
  clear h1 h2
  go_wp2
  go_end0
  exact ⟨rfl, hR2⟩
set_option maxHeartbeats 2000000 in
set_option maxRecDepth 100000 in
theorem insort_nil (f : Value) (W : World) :
    Calls Tryz.prog 153 #[.slice none 0 0, .int .i64 0, .int .i64 0, f] W fun e w' => e = .returned (.tuple #[]) ∧ W = w' := by
  go_enter Tryz.func153, Tryz.ntmps153
  go_wp2
  refine wp_loop_rounds 1 ?_
  rw [rounds_succ]
  go_wp2
  go_end0
  exact ⟨rfl, rfl⟩
set_option maxHeartbeats 2000000 in
set_option maxRecDepth 100000 in
theorem stable_nil (f : Value) (W : World) :
    Calls Tryz.prog 128 #[.slice none 0 0, .int .i64 0, f] W fun e w' => e = .returned (.tuple #[]) ∧ W = w' := by
  have hcall := fun W => insort_nil f W
  replace hcall := Lib.hid hcall
  go_enter Tryz.func128, Tryz.ntmps128
  go_wp2
  refine wp_loop_rounds 1 ?_
  rw [rounds_succ]
  go_wp2_with fail
  refine (hcall.out _).mono ?_
  rintro e w2 ⟨rfl, rfl⟩
  go_wp2
  refine wp_loop_rounds 1 ?_
  rw [rounds_succ]
  go_wp2
  go_end0
  exact ⟨rfl, rfl⟩
set_option maxHeartbeats 2000000 in
set_option maxRecDepth 100000 in
theorem sortstable_nil (W : World) :
    Calls Tryz.prog 89 #[.slice none 0 0, .func (.func 90) #[] #[]] W fun e w' => e = .returned (.tuple #[]) ∧ W = w' := by
  have hcall := fun W => stable_nil (.func (.func 90) #[] #[]) W
  replace hcall := Lib.hid hcall
  go_enter Tryz.func89, Tryz.ntmps89
  go_wp2_with fail
  refine (hcall.out _).mono ?_
  rintro e w2 ⟨rfl, rfl⟩
  go_wp2
  go_end0
  exact ⟨rfl, rfl⟩
theorem slice_is_nil (w : World) (A : Option Addr) (n c : Nat) : (binOp .eql 36 (.slice A n c) (.slice none 0 0)).run Tryz.prog w = .ok (.bool A.isNone) w := Lib.run_eql_slice_nil w 36 9 A n c 0 0 Tryz.underlying36

set_option maxHeartbeats 2000000 in
set_option maxRecDepth 100000 in
theorem clone_calls (v : Value) (l : List Bytes) (w : World) (hR : Rd w v l) (hm : l.length ≤ 2305843009213) :
    Calls Tryz.prog 88 #[v] w fun e w' => (∃ v', e = .returned v' ∧ Strs w.heap.size w' v' l) ∧ Below w.heap.size w w' := by
  obtain ⟨A, c, rfl, hc1, hc2⟩ := hR.shape
  have hnil := slice_is_nil w A l.length c
  cases A with
  | none =>
    have hl : l = [] := by
      cases l with
      | nil => rfl
      | cons x xs => obtain ⟨g, o, h1, _⟩ := hR.cell (j := 0) (by simp); cases h1
    subst hl
    have hnil' : (binOp .eql 36 (.slice none 0 c) (.slice none 0 0)).run Tryz.prog w = .ok (.bool true) w := hnil
    clear hnil
    go_enter Tryz.func88, Tryz.ntmps88
    go_wp2
    go_ret
    exact ⟨⟨_, rfl, World.ownsRow_nil _ _ _ _⟩, Below.refl _ _⟩
  | some ad =>
    have hnil' : (binOp .eql 36 (.slice (some ad) l.length c) (.slice none 0 0)).run Tryz.prog w = .ok (.bool false) w := hnil
    clear hnil
    have hown : (w.alloc (.cells #[] 9)).ownsRow w.heap.size 9 1 (.slice (some ⟨w.heap.size, 0, none⟩) 0 0) 0 [] := own_made w w.heap.size 9 1 0 [] (Nat.le_refl _) rfl (by simp [maxLen])
    have hnews : ∀ j u, (strs l)[j]? = some u → (w.alloc (.cells #[] 9)).cell? (ad.add j) = some u := by
      intro j u hj
      have hjl : j < l.length := by have := (List.getElem?_eq_some_iff.1 hj).1; simpa [strs] using this
      obtain ⟨g, o, h1, h2⟩ := hR.cell hjl
      injection h1 with h1
      subst h1
      have e : (⟨g, o, none⟩ : Addr).add j = ⟨g, o + j, none⟩ := by unfold Addr.add; split <;> simp_all
      rw [e]
      have e2 : u = .string (mkS l[j]) := by
        simp only [strs, List.getElem?_map, List.getElem?_eq_getElem hjl, Option.map_some, Option.some.injEq] at hj
        exact hj.symm
      rw [e2]
      exact Lib.cell?_alloc_some _ h2
    obtain ⟨i0, hi, hzz⟩ := Option.map_eq_some_iff.1 info_string
    simp only [Prod.mk.injEq] at hzz
    obtain ⟨hz0, hz1, hz2⟩ := hzz
    replace hown := Lib.hid hown
    replace hnews := Lib.hid hnews
    replace hi := Lib.hid hi
    replace hz0 := Lib.hid hz0
    replace hz1 := Lib.hid hz1
    replace hz2 := Lib.hid hz2
    clear hR
    go_enter Tryz.func88, Tryz.ntmps88
    go_wp2_with (at_builtin; refine wpList_append_own_at _ rfl (.tmp 5) (.tmp 6) 36 rfl w.heap.size 9 i0 (.string ⟨#[]⟩) 1 16 Tryz.underlying36 hi.out hz0.out hz1.out hz2.out rfl (by decide) (.slice (some ⟨w.heap.size, 0, none⟩) 0 0) 0 [] rfl hown.out ad l.length c (strs l) rfl ?_ hnews.out ?_ ?_ ?_ ?_ ?_)
    · simp [strs]
    · intro u hu
      simp only [strs, List.mem_map] at hu
      obtain ⟨x, _, rfl⟩ := hu
      rfl
    · simp only [maxLen]; omega
    · omega
    · simp
    · intro v1 w1 ho1 hg1 _ _
      have hO : Strs w.heap.size w1 v1 l := by
        unfold Strs
        simpa using ho1
      have hB : Below w.heap.size w w1 := (below_alloc (Below.refl _ _) _).grown hg1 (by simp) (fun b hb => by simp [Value.ownBlock] at hb; omega)
      clear ho1 hg1
      go_wp2
      go_ret
      exact ⟨⟨_, rfl, hO⟩, hB⟩

set_option maxHeartbeats 2000000 in
set_option maxRecDepth 100000 in
theorem sort_calls (v : Value) (l : List Bytes) (w : World) (hR : Rd w v l) (hm : l.length ≤ 2305843009213) (hsz : ∀ y ∈ l, y.length ≤ 16777216) :
    Calls Tryz.prog 48 #[v] w fun e w' => (∃ v', e = .returned v' ∧ Strs w.heap.size w' v' (sortP l)) ∧ Below w.heap.size w w' := by
  have h1 := clone_calls v l w hR hm
  replace h1 := Lib.hid h1
  go_enter Tryz.func48, Tryz.ntmps48
  go_wp2_with fail
  refine h1.out.mono ?_
  rintro e w1 ⟨⟨v1, rfl, hO1⟩, hB1⟩
  rcases hO1.block with ⟨_, rfl, hl, _⟩ | ⟨g, c, pad, rfl, hg, hh, hlc, hcm, hlp⟩
  · subst hl
    have hcall : Calls Tryz.prog 89 #[.slice none 0 0, .func (.func 90) #[] #[]] w1 fun e w' => e = .returned (.tuple #[]) ∧ w1 = w' := sortstable_nil w1
    replace hcall := Lib.hid hcall
    clear h1
    go_wp2_with fail
    refine hcall.out.mono ?_
    rintro e w2 ⟨rfl, rfl⟩
    go_wp2
    go_ret
    exact ⟨⟨_, rfl, by simpa [sortP] using hO1⟩, hB1⟩
  · have hcall := sortstable_calls g c l pad w1 w1 (Row.start hh) hlc hm hsz
    replace hcall := Lib.hid hcall
    replace hlp := Lib.hid hlp
    clear h1 hO1 hh
    go_wp2_with fail
    refine hcall.out.mono ?_
    rintro e w2 ⟨rfl, hR2⟩
    have hB2 : Below w.heap.size w w2 := hB1.grown hR2.kept hB1.size (fun b hb => by cases hb; exact hg)
    have hlen : (sortP l).length = l.length := (sortP_perm l).length_eq
    have hO2 : Strs w.heap.size w2 (.slice (some ⟨g, 0, none⟩) l.length c) (sortP l) := by
      have := Strs.of_block (B := w.heap.size) (c := c) hg hR2.h (by omega) hcm (by have := hlp.out; omega)
      rwa [hlen] at this
    replace hlen := Lib.hid hlen
    clear hcall hR2
    go_wp2
    go_ret
    exact ⟨⟨_, rfl, hO2⟩, hB2⟩
end Go.Proofs.YtocbjhhnginebaaGreat
