/-
  Maps whose entries are a list, up to its order: what the operations do with them, whatever the keys and the elements.
  A tree of files, directories and links as a list of names: the plain law's own words, with no program in sight.
  The program's tree in memory: which blocks hold the tree of the plain law, and what leaves them as they are.
  tree.at: what stands at a path.
  tree.look, there, fresh, file: a path is looked up.
  What is told of a path: the plain law's Stat, Read and List.
  tree.there, fresh, file, tell, may, meta.Check: the small steps of the tree's calls.
  meta.Check, tree.may and tree.tell.
  tree.tell, Stat and Read: what is told of a thing.
  tree.Stat and Read.
  tree.Read.
  tree.names: the names in a directory, rising; sort.Strings.
  tree.names and List.
  What the tree's calls do to the plain law's tree: a new thing, another record of a thing, another name, a name that goes.
  A name that goes; what stands in a directory behind each change.
  The tree in memory behind each change.
  tree.put: a new thing is put into its directory.
  tree.Mkdir and Symlink.
  tree.Symlink.
  The tree in memory behind another record, another name, a name that went.
  tree.Set.
  tree.out and Remove: a name goes.
  tree.Remove.
  tree.Link.
  Bytes that can be read, wherever they lie; a file's bytes and Meta are set.
  tree.Write.
-/
import Derived.Maps.Ext
import Derived.Maps.RangeWalk
import Derived.Maps.OwnSet
import Derived.WalkKit
import Derived.Test.YtocbjhhnginebaaGreatB1
import Derived.Maps.OwnOps
import Derived.BigQuiet
import Derived.Test.YtocbjhhnginebaaGreatShelf
import Derived.StillTailTactics
set_option linter.unusedVariables false
set_option linter.unusedSimpArgs false

namespace Go.Proofs.YtocbjhhnginebaaGreat
open Go.MapKept Go.ChangeMaps

/-- The entries as pairs. -/
def kv (e : MapEntry) : Value × Value := (e.key, e.val)

/-- Block b is a map whose entries are those of l, in some order. -/
def MapIs (w : World) (b : Nat) (l : List (Value × Value)) : Prop :=
  ∃ es clock, w.heap[b]? = some (.map es clock) ∧ Stamped es clock ∧ l.Perm (es.toList.map kv)

/-- x can be looked for among the keys ks. -/
structure Keyable (P : Program) (k : TypeId) (w : World) (x : Value) (ks : List Value) : Prop where
  check : ∀ em, (Instr.checkKey em 10000 k x).run P w = .ok () w
  stays : (Instr.keyThatStays x x).run P w = .ok x w
  find : ∀ es : List MapEntry, (∀ e ∈ es, e.key ∈ ks) →
    ((Instr.findKey k x es).run P w = .ok none w ∧ ∀ e ∈ es, e.key ≠ x) ∨ ∃ j e, (Instr.findKey k x es).run P w = .ok (some (j, e.val)) w ∧ es[j]? = some e ∧ e.key = x

theorem keyable_string {P : Program} {k : TypeId} (hk : P.underlying k = some .string) (w : World) (s : ByteArray) {ks : List Value} (h : ∀ v ∈ ks, ∃ t, v = .string t) : Keyable P k w (.string s) ks := by
  refine ⟨fun em => run_checkKey hk (by trivial) em 9999, run_keyThatStays (d := .string) (by trivial), fun es hes => ?_⟩
  rcases findNow_spec (d := .string) (k := .string s) (by trivial) es 0 (fun x hx => by obtain ⟨t, ht⟩ := h _ (hes x hx); rw [ht]; trivial) with ⟨h1, h2⟩ | ⟨j, e0, h1, h2, h3⟩
  · exact Or.inl ⟨run_findKey hk h1, h2⟩
  · exact Or.inr ⟨j, e0, by simpa using run_findKey hk h1, h2, h3⟩

section
variable {P : Program} {k e t : TypeId} {w : World} {b : Nat} {l : List (Value × Value)}

theorem MapIs.perm (h : MapIs w b l) {l' : List (Value × Value)} (hp : l'.Perm l) : MapIs w b l' := by
  obtain ⟨es, clock, hb, hs, hl⟩ := h
  exact ⟨es, clock, hb, hs, hp.trans hl⟩

theorem MapIs.lt (h : MapIs w b l) : b < w.heap.size := by
  obtain ⟨es, clock, hb, _⟩ := h
  exact (Array.getElem?_eq_some_iff.1 hb).1

theorem MapIs.nodup (h : MapIs w b l) : (l.map (·.1)).Nodup := by
  obtain ⟨es, clock, hb, hs, hl⟩ := h
  have h3 : (es.toList.map (·.key)).Nodup := hs.2.2
  have : ((es.toList.map kv).map (·.1)).Nodup := by simpa [List.map_map, kv, Function.comp_def] using h3
  exact ((hl.map (·.1)).nodup_iff).2 this

theorem MapIs.kept {w' : World} {row : Option Nat} (h : MapIs w b l) (hg : w.grownBy w' row) (hne : some b ≠ row) : MapIs w' b l := by
  have hlt := h.lt
  obtain ⟨es, clock, hb, hs, hl⟩ := h
  exact ⟨es, clock, (hg.block b hlt hne).trans hb, hs, hl⟩

theorem MapIs.of_block {w' : World} (h : MapIs w b l) (hb' : w'.heap[b]? = w.heap[b]?) : MapIs w' b l := by
  obtain ⟨es, clock, hb, hs, hl⟩ := h
  exact ⟨es, clock, hb'.trans hb, hs, hl⟩

theorem mapIs_made (w : World) : MapIs (w.alloc (.map #[] 0)) w.heap.size [] :=
  ⟨#[], 0, (MapKept.heap_alloc w _).1, stamped_empty 0, by simp⟩

theorem mem_of_key {es : Array MapEntry} {clock : Nat} (hs : Stamped es clock) {x v : Value} {j : Nat} {e0 : MapEntry} (hm : (x, v) ∈ es.toList.map kv) (h2 : es.toList[j]? = some e0) (h3 : e0.key = x) : e0.val = v := by
  obtain ⟨y, hy, hyx⟩ := List.mem_map.1 hm
  simp only [kv, Prod.mk.injEq] at hyx
  have hp := ((stamped_iff es clock).1 hs).2.2
  have e1 : y = e0 := entry_eq_of_key hp hy (List.mem_of_getElem? h2) (hyx.1.trans h3.symm)
  rw [← e1]
  exact hyx.2

/-- A look-up that finds. -/
theorem MapIs.look_hit (h : MapIs w b l) (ht : P.underlying t = some (.map k e)) {x v : Value} (hk : Keyable P k w x (l.map (·.1))) (hm : (x, v) ∈ l) (c : Bool) :
    (Instr.lookup t (.map (some b)) x c).run P w = .ok (if c then .tuple #[v, .bool true] else v) w := by
  obtain ⟨es, clock, hb, hs, hl⟩ := h
  have hm' := hl.mem_iff.1 hm
  rcases hk.find es.toList (fun y hy => (hl.map (·.1)).mem_iff.2 (by simpa [kv] using ⟨y, by simpa using hy, rfl⟩)) with ⟨h1, h2⟩ | ⟨j, e0, h1, h2, h3⟩
  · obtain ⟨y, hy, hyx⟩ := List.mem_map.1 hm'
    simp only [kv, Prod.mk.injEq] at hyx
    exact absurd hyx.1 (h2 y hy)
  · have := mem_of_key hs hm' h2 h3
    simp [Instr.lookup, run_underlying ht, MapKept.run_getObj_map hb, hk.check, h1, Result.andThen, this]

/-- A look-up that does not find. -/
theorem MapIs.look_miss (h : MapIs w b l) (ht : P.underlying t = some (.map k e)) {x z : Value} (hk : Keyable P k w x (l.map (·.1))) (hm : ∀ p ∈ l, p.1 ≠ x) (hz : (zeroValue e).run P w = .ok z w) (c : Bool) :
    (Instr.lookup t (.map (some b)) x c).run P w = .ok (if c then .tuple #[z, .bool false] else z) w := by
  obtain ⟨es, clock, hb, hs, hl⟩ := h
  rcases hk.find es.toList (fun y hy => (hl.map (·.1)).mem_iff.2 (by simpa [kv] using ⟨y, by simpa using hy, rfl⟩)) with ⟨h1, h2⟩ | ⟨j, e0, h1, h2, h3⟩
  · simp [Instr.lookup, run_underlying ht, MapKept.run_getObj_map hb, hk.check, h1, Result.andThen, hz]
  · exact absurd h3 (hm (kv e0) (hl.mem_iff.2 (List.mem_map.2 ⟨e0, List.mem_of_getElem? h2, rfl⟩)))

/-- How many entries. -/
theorem MapIs.len (h : MapIs w b l) (ht : P.underlying t = some (.map k e)) (ty : TypeId) : (Builtin.len_ #[t] ty #[.map (some b)]).run P w = .ok (.int .i64 l.length) w := by
  obtain ⟨es, clock, hb, hs, hl⟩ := h
  have e1 : l.length = es.size := by rw [hl.length_eq]; simp
  rw [e1]
  simp [Builtin.len_, run_underlying ht, MapKept.run_getObj_map hb, goInt, Result.andThen]

/-- A store at a new key. -/
theorem MapIs.store_new (h : MapIs w b l) (ht : P.underlying t = some (.map k e)) {x v : Value} (hk : Keyable P k w x (l.map (·.1))) (hm : ∀ p ∈ l, p.1 ≠ x) :
    ∃ w', (Instr.mapUpdate t (.map (some b)) x v).run P w = .ok () w' ∧ MapIs w' b ((x, v) :: l) ∧ w.mapTurned w' b := by
  obtain ⟨es, clock, hb, hs, hl⟩ := h
  rcases hk.find es.toList (fun y hy => (hl.map (·.1)).mem_iff.2 (by simpa [kv] using ⟨y, by simpa using hy, rfl⟩)) with ⟨h1, h2⟩ | ⟨j, e0, h1, h2, h3⟩
  · refine ⟨setBlock w b (.map (es.push ⟨x, v, clock⟩) (clock + 1)), ?_, ⟨_, _, heap_setBlock_same hb _, stamped_push hs h2, ?_⟩, ⟨_, _, _, _, hb, rfl⟩⟩
    · simp [Instr.mapUpdate, run_underlying ht, MapKept.run_getObj_map hb, hk.check, h1, MapKept.run_setObj_map _ hb, Result.andThen, setBlock]
    · simp only [Array.toList_push, List.map_append, List.map_singleton]
      exact (hl.cons (x, v)).trans (List.perm_append_singleton (x, v) _).symm
  · exact absurd h3 (hm (kv e0) (hl.mem_iff.2 (List.mem_map.2 ⟨e0, List.mem_of_getElem? h2, rfl⟩)))

theorem perm_set {α : Type} (z a : α) : ∀ (l : List α) (j : Nat), l[j]? = some a → ∃ r, l.Perm (a :: r) ∧ (l.set j z).Perm (z :: r)
  | y :: l, 0, h => by
    simp only [List.getElem?_cons_zero, Option.some.injEq] at h
    subst h
    exact ⟨l, .refl _, .refl _⟩
  | y :: l, j + 1, h => by
    simp only [List.getElem?_cons_succ] at h
    obtain ⟨r, h1, h2⟩ := perm_set z a l j h
    exact ⟨y :: r, (h1.cons y).trans (List.Perm.swap _ _ _), by simpa using (h2.cons y).trans (List.Perm.swap _ _ _)⟩

theorem perm_erase {α : Type} (a : α) : ∀ (l : List α) (j : Nat), l[j]? = some a → l.Perm (a :: l.eraseIdx j)
  | y :: l, 0, h => by
    simp only [List.getElem?_cons_zero, Option.some.injEq] at h
    subst h
    exact .refl _
  | y :: l, j + 1, h => by
    simp only [List.getElem?_cons_succ] at h
    simpa using ((perm_erase a l j h).cons y).trans (List.Perm.swap _ _ _)

/-- A store at a key that is there. -/
theorem MapIs.store_old (h : MapIs w b l) (ht : P.underlying t = some (.map k e)) {x v v0 : Value} {r : List (Value × Value)} (hk : Keyable P k w x (l.map (·.1))) (hm : l.Perm ((x, v0) :: r)) :
    ∃ w', (Instr.mapUpdate t (.map (some b)) x v).run P w = .ok () w' ∧ MapIs w' b ((x, v) :: r) ∧ w.mapTurned w' b := by
  have hnd := h.nodup
  obtain ⟨es, clock, hb, hs, hl⟩ := h
  have hm' := hl.mem_iff.1 (hm.mem_iff.2 (List.mem_cons_self ..))
  rcases hk.find es.toList (fun y hy => (hl.map (·.1)).mem_iff.2 (by simpa [kv] using ⟨y, by simpa using hy, rfl⟩)) with ⟨h1, h2⟩ | ⟨j, e0, h1, h2, h3⟩
  · obtain ⟨y, hy, hyx⟩ := List.mem_map.1 hm'
    simp only [kv, Prod.mk.injEq] at hyx
    exact absurd hyx.1 (h2 y hy)
  · have hv := mem_of_key hs hm' h2 h3
    have hj : es[j]? = some e0 := by simpa using h2
    have hkeyf : ∀ e', es[j]? = some e' → ({ e' with key := x, val := v } : MapEntry).key = e'.key := fun e' he' => by rw [hj] at he'; cases he'; exact h3.symm
    have hlist : (es.modify j (fun e' => { e' with key := x, val := v })).toList = es.toList.set j { e0 with key := x, val := v } := by rw [Array.toList_modify, modify_eq_set _ _ _ _ h2]
    refine ⟨setBlock w b (.map (es.modify j (fun e' => { e' with key := x, val := v })) clock), ?_, ⟨_, _, heap_setBlock_same hb _, stamped_modify hs _ _ (fun _ _ => rfl) (fun e' _ he' => hkeyf e' he'), ?_⟩, ⟨_, _, _, _, hb, rfl⟩⟩
    · simp [Instr.mapUpdate, run_underlying ht, MapKept.run_getObj_map hb, hk.check, h1, hj, h3, hk.stays, MapKept.run_setObj_map _ hb, Result.andThen, setBlock]
    · rw [hlist, List.map_set]
      have hj2 : (es.toList.map kv)[j]? = some (x, v0) := by
        rw [List.getElem?_map, h2]
        simp [kv, h3, hv]
      obtain ⟨r', p1, p2⟩ := perm_set (x, v) (x, v0) _ _ hj2
      have : r.Perm r' := (List.perm_cons (x, v0)).1 (hm.symm.trans (hl.trans p1))
      exact (this.cons (x, v)).trans p2.symm

/-- A key that is there goes. -/
theorem MapIs.drop_hit (h : MapIs w b l) (ht : P.underlying t = some (.map k e)) {x v0 : Value} {r : List (Value × Value)} (hk : Keyable P k w x (l.map (·.1))) (hm : l.Perm ((x, v0) :: r)) (ty : TypeId) :
    ∃ w', (Builtin.delete_ #[t, k] ty #[.map (some b), x]).run P w = .ok (.tuple #[]) w' ∧ MapIs w' b r ∧ w.mapTurned w' b := by
  obtain ⟨es, clock, hb, hs, hl⟩ := h
  have hm' := hl.mem_iff.1 (hm.mem_iff.2 (List.mem_cons_self ..))
  rcases hk.find es.toList (fun y hy => (hl.map (·.1)).mem_iff.2 (by simpa [kv] using ⟨y, by simpa using hy, rfl⟩)) with ⟨h1, h2⟩ | ⟨j, e0, h1, h2, h3⟩
  · obtain ⟨y, hy, hyx⟩ := List.mem_map.1 hm'
    simp only [kv, Prod.mk.injEq] at hyx
    exact absurd hyx.1 (h2 y hy)
  · have hv := mem_of_key hs hm' h2 h3
    have hjl : j < es.toList.length := (List.getElem?_eq_some_iff.1 h2).1
    have hjs : j < es.size := by simpa using hjl
    have hsub : (es.eraseIdxIfInBounds j).toList = es.toList.eraseIdx j := by
      unfold Array.eraseIdxIfInBounds
      rw [dif_pos hjs]
      simp
    refine ⟨setBlock w b (.map (es.eraseIdxIfInBounds j) clock), ?_, ⟨_, _, heap_setBlock_same hb _, stamped_erase hs j, ?_⟩, ⟨_, _, _, _, hb, rfl⟩⟩
    · simp [Builtin.delete_, run_underlying ht, MapKept.run_getObj_map hb, hk.check, h1, MapKept.run_setObj_map _ hb, Result.andThen, setBlock]
    · rw [hsub, map_eraseIdx]
      have hj2 : (es.toList.map kv)[j]? = some (x, v0) := by
        rw [List.getElem?_map, h2]
        simp [kv, h3, hv]
      exact (List.perm_cons (x, v0)).1 (hm.symm.trans (hl.trans (perm_erase _ _ _ hj2)))

/-- A key that is not there goes: nothing turns. -/
theorem MapIs.drop_miss (h : MapIs w b l) (ht : P.underlying t = some (.map k e)) {x : Value} (hk : Keyable P k w x (l.map (·.1))) (hm : ∀ p ∈ l, p.1 ≠ x) (ty : TypeId) :
    ∃ w', (Builtin.delete_ #[t, k] ty #[.map (some b), x]).run P w = .ok (.tuple #[]) w' ∧ MapIs w' b l ∧ w.mapTurned w' b := by
  obtain ⟨es, clock, hb, hs, hl⟩ := h
  rcases hk.find es.toList (fun y hy => (hl.map (·.1)).mem_iff.2 (by simpa [kv] using ⟨y, by simpa using hy, rfl⟩)) with ⟨h1, h2⟩ | ⟨j, e0, h1, h2, h3⟩
  · refine ⟨setBlock w b (.map es clock), ?_, ⟨_, _, heap_setBlock_same hb _, hs, hl⟩, ⟨_, _, _, _, hb, rfl⟩⟩
    simp [Builtin.delete_, run_underlying ht, MapKept.run_getObj_map hb, hk.check, h1, MapKept.run_setObj_map _ hb, Result.andThen, setBlock]
  · exact absurd h3 (hm (kv e0) (hl.mem_iff.2 (List.mem_map.2 ⟨e0, List.mem_of_getElem? h2, rfl⟩)))

/-- A range over the map of block b, by the iterator of block r: left is still to come. -/
def Ranges (w : World) (b r : Nat) (l left : List (Value × Value)) : Prop :=
  ∃ es clock since seen c0, w.heap[b]? = some (.map es clock) ∧ Stamped es clock ∧ l.Perm (es.toList.map kv) ∧ w.heap[r]? = some (.mapIter (some b) since seen c0) ∧
    (∀ x ∈ es.toList, x.born < since) ∧ left.Perm ((leftOf es seen).toList.map kv) ∧ since ≤ c0 ∧ since ≤ clock

variable {r : Nat} {left : List (Value × Value)}

theorem Ranges.is (h : Ranges w b r l left) : MapIs w b l := by
  obtain ⟨es, clock, since, seen, c0, hb, hs, hl, _⟩ := h
  exact ⟨es, clock, hb, hs, hl⟩

theorem Ranges.ne (h : Ranges w b r l left) : r ≠ b := by
  obtain ⟨es, clock, since, seen, c0, hb, hs, hl, hr, _⟩ := h
  intro e
  rw [e, hb] at hr
  cases hr

theorem Ranges.lt (h : Ranges w b r l left) : r < w.heap.size := by
  obtain ⟨es, clock, since, seen, c0, hb, hs, hl, hr, _⟩ := h
  exact (Array.getElem?_eq_some_iff.1 hr).1

theorem Ranges.of_blocks {w' : World} (h : Ranges w b r l left) (hb' : w'.heap[b]? = w.heap[b]?) (hr' : w'.heap[r]? = w.heap[r]?) : Ranges w' b r l left := by
  obtain ⟨es, clock, since, seen, c0, hb, hs, hl, hr, rest⟩ := h
  exact ⟨es, clock, since, seen, c0, hb'.trans hb, hs, hl, hr'.trans hr, rest⟩

theorem Ranges.kept {w' : World} {row : Option Nat} (h : Ranges w b r l left) (hg : w.grownBy w' row) (hb' : some b ≠ row) (hr' : some r ≠ row) : Ranges w' b r l left :=
  h.of_blocks (hg.block b h.is.lt hb') (hg.block r h.lt hr')

theorem Ranges.left_eq (h : Ranges w b r l left) : w.rangeLeft b r = left.length := by
  obtain ⟨es, clock, since, seen, c0, hb, hs, hl, hr, hold, hleft, _⟩ := h
  rw [hleft.length_eq]
  simp [World.rangeLeft, hb, hr]

/-- 'range m'. -/
theorem MapIs.range (h : MapIs w b l) (ht : P.underlying t = some (.map k e)) :
    ∃ w', (Instr.range t (.map (some b))).run P w = .ok (.pointer (some ⟨w.heap.size, 0, none⟩)) w' ∧ Ranges w' b w.heap.size l l ∧ w.grownBy w' none ∧ w'.heap.size = w.heap.size + 1 := by
  have hlt := h.lt
  obtain ⟨es, clock, hb, hs, hl⟩ := h
  refine ⟨_, run_range_map w t k e b es clock ht hb, ⟨es, clock, clock, #[], clock, ((MapKept.heap_alloc w _).2 b hlt).trans hb, hs, hl, (MapKept.heap_alloc w _).1, hs.1, ?_, Nat.le_refl _, Nat.le_refl _⟩, World.grownBy_alloc w _ none, by simp⟩
  have e1 : List.filter (fun _ : MapEntry => true) es.toList = es.toList := List.filter_eq_self.2 (by simp)
  simpa [leftOf, e1] using hl

theorem perm_struck (p : MapEntry → Bool) (e : MapEntry) : ∀ L : List MapEntry, (L.map (·.born)).Nodup → e ∈ L → p e = true → (L.filter p).Perm (e :: L.filter (fun x => p x && !(x.born == e.born)))
  | y :: L, hn, he, hp => by
    obtain ⟨h1, h2⟩ := List.nodup_cons.1 hn
    rcases List.mem_cons.1 he with rfl | h
    · have hf : L.filter (fun x => p x && !(x.born == e.born)) = L.filter p := List.filter_congr fun x hx => by
        have : (x.born == e.born) = false := by
          cases hc : x.born == e.born with
          | false => rfl
          | true => exact absurd (List.mem_map.2 ⟨x, hx, beq_iff_eq.1 hc⟩) h1
        rw [this]
        simp
      simp [hp, hf]
    · have hy : (y.born == e.born) = false := by
        cases hc : y.born == e.born with
        | false => rfl
        | true => exact absurd (List.mem_map.2 ⟨e, h, (beq_iff_eq.1 hc).symm⟩) h1
      have ih := perm_struck p e L h2 h hp
      by_cases hpy : p y = true
      · simp only [List.filter_cons, hpy, hy, Bool.not_false, Bool.and_true, if_true]
        exact (ih.cons y).trans (List.Perm.swap _ _ _)
      · simpa [List.filter_cons, hpy] using ih

/-- The step. -/
theorem Ranges.next (h : Ranges w b r l left) (ty : TypeId) :
    (left = [] ∧ (Instr.next (.pointer (some ⟨r, 0, none⟩)) false ty).run P w = .ok (.tuple #[.bool false]) w) ∨
    ∃ x v left' w', left.Perm ((x, v) :: left') ∧ (x, v) ∈ l ∧ (Instr.next (.pointer (some ⟨r, 0, none⟩)) false ty).run P w = .ok (.tuple #[.bool true, x, v]) w' ∧
      Ranges w' b r l left' ∧ w.grownBy w' (some r) ∧ w'.heap.size = w.heap.size ∧ (Instr.entry (.pointer (some ⟨r, 0, none⟩))).run P w' = .ok (.tuple #[x, v]) w' := by
  have hne := h.ne
  obtain ⟨es, clock, since, seen, c0, hb, hs, hl, hr, hold, hleft, hsc, hsk⟩ := h
  rcases run_next_at (P := P) w ty r b since c0 seen es clock hr hb hold hsc with ⟨h0, hrun⟩ | ⟨e, he, w1, hal, hrun⟩
  · refine Or.inl ⟨?_, hrun⟩
    have : left.length = 0 := by rw [hleft.length_eq]; simpa using h0
    exact List.length_eq_zero_iff.1 this
  · obtain ⟨hem, hes⟩ := mem_left he
    have hr1 : w1.heap[r]? = some (.mapIter (some b) since seen c0) := by rcases hal with rfl | rfl <;> exact hr
    have hb1 : w1.heap[b]? = some (.map es clock) := by rcases hal with rfl | rfl <;> exact hb
    have hset := heap_set (o' := .mapIter (some b) since (seen.push e.born) clock) hr1
    have hb' : (setBlock w1 r (.mapIter (some b) since (seen.push e.born) clock)).heap[b]? = some (.map es clock) := (hset.2 b (fun e1 => hne e1.symm)).trans hb1
    have hnd := ((stamped_iff es clock).1 hs).2.1
    have hperm : ((leftOf es seen).toList.map kv).Perm (kv e :: ((leftOf es (seen.push e.born)).toList.map kv)) := by
      have e1 : ∀ s : Array Nat, (leftOf es s).toList = es.toList.filter (fun x => !s.contains x.born) := fun s => by
        unfold leftOf
        rw [Array.toList_filter]
      rw [e1, e1]
      show List.Perm _ (List.map kv (e :: _))
      refine List.Perm.map _ ?_
      have := perm_struck (fun x : MapEntry => !seen.contains x.born) e es.toList hnd hem (by rw [hes]; rfl)
      refine this.trans (List.Perm.of_eq (congrArg _ (List.filter_congr fun x _ => ?_)))
      rw [contains_push]
      cases seen.contains x.born <;> cases (x.born == e.born) <;> rfl
    refine Or.inr ⟨e.key, e.val, _, _, hleft.trans hperm, hl.mem_iff.2 (List.mem_map.2 ⟨e, hem, rfl⟩), hrun,
      ⟨es, clock, since, seen.push e.born, clock, hb', hs, hl, hset.1, hold, .refl _, hsk, hsk⟩, ?_, ?_,
      run_entry_at _ r b since seen es clock e hset.1 hb' hem hnd⟩
    · rcases hal with rfl | rfl <;> exact ⟨rfl, rfl, rfl, by simp [setBlock], fun i _ hi => hset.2 i (fun e1 => hi (by rw [e1]))⟩
    · rcases hal with rfl | rfl <;> simp [setBlock]

end

section
variable {P : Program} (w : World) {ops : Array Oper} {rest : List Oper} {o : Oper} {a : Act} {Q : Exit → Act → World → Prop}

/-- A look-up at the operation. -/
theorem wp_look (hg : o.guard = none) (m x : Operand) (t : TypeId) (c : Bool) (hop : o.op = Op.lookup t m x c) (mv : Value) (key r : Value) (hm : a.eval m = mv) (hx : a.eval x = key)
    (hrun : (Instr.lookup t mv key c).run P w = .ok r w) (hK : wpList P ops Q rest (a.put o.dst r) w) : wpList P ops Q (o :: rest) a w := by
  refine wpList_plain hg fun K' hK' => ?_
  unfold Oper.wp
  simp [execOp, hop, hm, hx, hrun, Result.andThen]
  exact hK' _ _ hK

/-- A store at the operation. -/
theorem wp_store (hg : o.guard = none) (m x v : Operand) (t : TypeId) (hop : o.op = Op.mapUpdate t m x v) (mv : Value) (key val : Value) (hm : a.eval m = mv) (hx : a.eval x = key) (hv : a.eval v = val) (w' : World)
    (hrun : (Instr.mapUpdate t mv key val).run P w = .ok () w') (hK : wpList P ops Q rest (a.put o.dst undef) w') : wpList P ops Q (o :: rest) a w := by
  refine wpList_plain hg fun K' hK' => ?_
  unfold Oper.wp
  simp [execOp, hop, hm, hx, hv, hrun, Result.andThen]
  exact hK' _ _ hK

/-- 'delete' at the operation. -/
theorem wp_drop (hg : o.guard = none) (m x : Operand) (t k : TypeId) (hop : o.op = Op.call { callee := Callee.builtin Builtin.delete, args := #[m, x], argTypes := #[t, k] }) (mv : Value) (key : Value) (hm : a.eval m = mv) (hx : a.eval x = key) (w' : World)
    (hrun : (Builtin.delete_ #[t, k] o.type #[mv, key]).run P w = .ok (.tuple #[]) w') (hK : wpList P ops Q rest (a.put o.dst (.tuple #[])) w') : wpList P ops Q (o :: rest) a w := by
  refine wpList_plain hg fun K' hK' => ?_
  unfold Oper.wp
  simp [execOp, hop, resolve, invoke, builtin, hm, hx, hrun, Result.andThen]
  exact hK' _ _ hK

/-- 'range m' at the operation. -/
theorem wp_range (hg : o.guard = none) (m : Operand) (t : TypeId) (hop : o.op = Op.range t m) (k e : TypeId) (ht : P.underlying t = some (.map k e)) (b : Nat) (l : List (Value × Value)) (hm : a.eval m = .map (some b)) (h : MapIs w b l)
    (hK : ∀ w', Ranges w' b w.heap.size l l → w.grownBy w' none → w'.heap.size = w.heap.size + 1 → wpList P ops Q rest (a.put o.dst (.pointer (some ⟨w.heap.size, 0, none⟩))) w') :
    wpList P ops Q (o :: rest) a w := by
  refine wpList_plain hg fun K' hK' => ?_
  obtain ⟨w', hrun, r1, r2, r3⟩ := h.range ht
  unfold Oper.wp
  simp [execOp, hop, hm, hrun, Result.andThen]
  exact hK' _ _ (hK w' r1 r2 r3)

/-- The step at the operation. -/
theorem wp_next (hg : o.guard = none) (it : Operand) (hop : o.op = Op.next it false) (b r : Nat) (l left : List (Value × Value)) (hit : a.eval it = .pointer (some ⟨r, 0, none⟩)) (h : Ranges w b r l left)
    (hDone : left = [] → wpList P ops Q rest (a.put o.dst (.tuple #[.bool false])) w)
    (hMore : ∀ x v left' w', left.Perm ((x, v) :: left') → (x, v) ∈ l → Ranges w' b r l left' → w.grownBy w' (some r) → w'.heap.size = w.heap.size → (Instr.entry (.pointer (some ⟨r, 0, none⟩))).run P w' = .ok (.tuple #[x, v]) w' →
      wpList P ops Q rest (a.put o.dst (.tuple #[.bool true, x, v])) w') :
    wpList P ops Q (o :: rest) a w := by
  refine wpList_plain hg fun K' hK' => ?_
  unfold Oper.wp
  rcases h.next (P := P) o.type with ⟨h0, hrun⟩ | ⟨x, v, left', w', hp, hm, hrun, hrg, hgr, hsz, hen⟩
  · simp [execOp, hop, hit, hrun, Result.andThen]
    exact hK' _ _ (hDone h0)
  · simp [execOp, hop, hit, hrun, Result.andThen]
    exact hK' _ _ (hMore x v left' w' hp hm hrg hgr hsz hen)
end

end Go.Proofs.YtocbjhhnginebaaGreat

namespace Go.Proofs.YtocbjhhnginebaaGreat

/-- A path: its parts. -/
abbrev Pt := List Bytes

structure Mt where
  mode : Int
  sec : Int
  nano : Int
  uid : Int
  gid : Int
deriving DecidableEq

structure Nd where
  kind : Int
  links : Int
  mt : Mt
  target : Bytes
  data : Bytes

structure Fs where
  names : List (Pt × Nat)
  nd : Nat → Nd
  next : Nat

/-- What stands at a path. -/
def look1 (l : List (Pt × Nat)) (p : Pt) : Option Nat := (l.find? (fun x => x.1 = p)).map (·.2)
def Fs.at (T : Fs) (p : Pt) : Option Nat := look1 T.names p

/-- What stands right in the directory of a path: its last part, and its number. -/
def kidOf (p : Pt) (x : Pt × Nat) : Option (Bytes × Nat) := if x.1 ≠ [] ∧ x.1.dropLast = p then some (x.1.getLastD [], x.2) else none
def kidsL (l : List (Pt × Nat)) (p : Pt) : List (Bytes × Nat) := l.filterMap (kidOf p)
def Fs.kids (T : Fs) (p : Pt) : List (Bytes × Nat) := kidsL T.names p

/-- How many names a thing has. -/
def namesOf (l : List (Pt × Nat)) (i : Nat) : Nat := (l.filter (fun x => x.2 = i)).length

def Pth (p : Pt) : Prop := ∃ s, right s = true ∧ split s = p

structure Fs.Inv (T : Fs) : Prop where
  top : ∃ r, T.names = ([], 1) :: r
  nodup : (T.names.map (·.1)).Nodup
  topKind : (T.nd 1).kind = 2
  up : ∀ p i, (p, i) ∈ T.names → p ≠ [] → ∃ j, (p.dropLast, j) ∈ T.names ∧ (T.nd j).kind = 2
  pth : ∀ p i, (p, i) ∈ T.names → Pth p
  kinds : ∀ p i, (p, i) ∈ T.names → (T.nd i).kind = 1 ∨ (T.nd i).kind = 2 ∨ (T.nd i).kind = 3
  lt : ∀ p i, (p, i) ∈ T.names → 1 ≤ i ∧ i < T.next
  links : ∀ p i, (p, i) ∈ T.names → (T.nd i).links = namesOf T.names i
  single : ∀ p i, (p, i) ∈ T.names → (T.nd i).kind ≠ 1 → ∀ q, (q, i) ∈ T.names → q = p
  data : ∀ p i, (p, i) ∈ T.names → (T.nd i).data.length ≤ 65536
  plain : ∀ p i, (p, i) ∈ T.names → ((T.nd i).kind ≠ 1 → (T.nd i).data = []) ∧ ((T.nd i).kind ≠ 3 → (T.nd i).target = []) ∧ (T.nd i).target.length ≤ 200

def Fs.Live (T : Fs) (i : Nat) : Prop := ∃ p, (p, i) ∈ T.names

theorem look1_some : ∀ {l : List (Pt × Nat)}, (l.map (·.1)).Nodup → ∀ {p : Pt} {i : Nat}, look1 l p = some i ↔ (p, i) ∈ l
  | [], _, p, i => by simp [look1]
  | (q, j) :: l, h, p, i => by
    obtain ⟨h1, h2⟩ := List.nodup_cons.1 h
    by_cases hq : q = p
    · subst hq
      simp only [look1, List.find?_cons, decide_true, Option.map_some, Option.some.injEq, List.mem_cons, Prod.mk.injEq, true_and]
      constructor
      · intro e; exact Or.inl e.symm
      · rintro (e | e)
        · exact e.symm
        · exact absurd (List.mem_map.2 ⟨_, e, rfl⟩) h1
    · have ih := look1_some h2 (p := p) (i := i)
      simp only [look1, List.find?_cons, hq, decide_false, List.mem_cons, Prod.mk.injEq] at ih ⊢
      rw [ih]
      constructor
      · exact Or.inr
      · rintro (⟨e, _⟩ | e)
        · exact absurd e.symm hq
        · exact e

theorem look1_none {l : List (Pt × Nat)} {p : Pt} : look1 l p = none ↔ ∀ i, (p, i) ∉ l := by
  simp only [look1, Option.map_eq_none_iff, List.find?_eq_none, decide_eq_true_eq]
  constructor
  · intro h i hi; exact h _ hi rfl
  · rintro h ⟨q, j⟩ hx rfl; exact h j hx

theorem Fs.Inv.at_some {T : Fs} (h : T.Inv) {p : Pt} {i : Nat} : T.at p = some i ↔ (p, i) ∈ T.names := look1_some h.nodup
theorem Fs.at_none {T : Fs} {p : Pt} : T.at p = none ↔ ∀ i, (p, i) ∉ T.names := look1_none
theorem Fs.Inv.one {T : Fs} (h : T.Inv) : ([], 1) ∈ T.names := by obtain ⟨r, e⟩ := h.top; rw [e]; exact List.mem_cons_self ..
theorem Fs.Inv.at_top {T : Fs} (h : T.Inv) : T.at [] = some 1 := h.at_some.2 h.one

theorem snoc_of {q p : Pt} (h2 : q ≠ []) (h3 : q.dropLast = p) : q = p ++ [q.getLastD []] := by
  subst h3
  conv => lhs; rw [← List.dropLast_concat_getLast h2]
  rw [List.getLastD_eq_getLast?, List.getLast?_eq_some_getLast h2]
  rfl

theorem snoc_rec {α : Type} {C : List α → Prop} (h0 : C []) (h1 : ∀ l x, C l → C (l ++ [x])) : ∀ l, C l := by
  intro l
  rw [← List.reverse_reverse l]
  induction l.reverse with
  | nil => exact h0
  | cons a r ih => rw [List.reverse_cons]; exact h1 _ _ ih

theorem mem_kidsL {l : List (Pt × Nat)} {p : Pt} {x : Bytes} {i : Nat} : (x, i) ∈ kidsL l p ↔ (p ++ [x], i) ∈ l := by
  simp only [kidsL, List.mem_filterMap, kidOf]
  constructor
  · rintro ⟨⟨q, j⟩, hm, h⟩
    split at h
    · rename_i hc
      simp only [Option.some.injEq, Prod.mk.injEq] at h
      obtain ⟨h1, rfl⟩ := h
      obtain ⟨h2, h3⟩ := hc
      have : q = p ++ [x] := by rw [← h1]; exact snoc_of h2 h3
      rw [← this]
      exact hm
    · cases h
  · intro hm
    exact ⟨_, hm, by simp⟩

theorem Fs.Inv.kids_at {T : Fs} (h : T.Inv) {p : Pt} {x : Bytes} {i : Nat} : (x, i) ∈ T.kids p ↔ T.at (p ++ [x]) = some i := by
  rw [h.at_some]
  exact mem_kidsL

theorem kidsL_nodup {l : List (Pt × Nat)} (h : (l.map (·.1)).Nodup) (p : Pt) : ((kidsL l p).map (·.1)).Nodup := by
  induction l with
  | nil => simp [kidsL]
  | cons a l ih =>
    obtain ⟨q, j⟩ := a
    obtain ⟨h1, h2⟩ := List.nodup_cons.1 h
    have ih := ih h2
    simp only [kidsL, List.filterMap_cons] at ih ⊢
    unfold kidOf
    by_cases hc : q ≠ [] ∧ q.dropLast = p
    · simp only [hc, and_self, ne_eq, not_false_eq_true, if_true, List.map_cons]
      refine List.nodup_cons.2 ⟨fun hm => h1 ?_, ih⟩
      obtain ⟨⟨y, k⟩, hy, hyx⟩ := List.mem_map.1 hm
      have := mem_kidsL.1 (show (y, k) ∈ kidsL l p from hy)
      simp only at hyx
      have hq : q = p ++ [y] := by rw [hyx]; exact snoc_of hc.1 hc.2
      rw [hq]
      exact List.mem_map.2 ⟨_, this, rfl⟩
    · have : kidOf p (q, j) = none := by unfold kidOf; rw [if_neg hc]
      simp only [kidOf] at this
      rw [if_neg hc]
      exact ih

/-- What stands nowhere has nothing below it; and what is no directory neither. -/
theorem Fs.Inv.at_below {T : Fs} (h : T.Inv) : ∀ (r : Pt) {p : Pt}, r ≠ [] → (∀ i, T.at p = some i → (T.nd i).kind ≠ 2) → T.at (p ++ r) = none := by
  intro r
  refine snoc_rec (C := fun r => ∀ {p : Pt}, r ≠ [] → (∀ i, T.at p = some i → (T.nd i).kind ≠ 2) → T.at (p ++ r) = none) ?_ ?_ r
  · intro p hr; exact absurd rfl hr
  · intro r x ih p _ hp
    cases hc : T.at (p ++ (r ++ [x])) with
    | none => rfl
    | some i =>
      have hm := h.at_some.1 hc
      obtain ⟨j, hj, hk⟩ := h.up _ _ hm (by simp)
      rw [← List.append_assoc, List.dropLast_concat] at hj
      by_cases hr : r = []
      · subst hr
        rw [List.append_nil] at hj
        exact absurd hk (hp j (h.at_some.2 hj))
      · have := ih hr hp
        rw [h.at_some.2 hj] at this
        cases this

theorem right_part {s : Bytes} (h : right s = true) : ∀ x ∈ split s, partOk x = true := by
  simp only [right, Bool.and_eq_true, List.all_eq_true] at h
  exact h.1.1

theorem partOk_ne {x : Bytes} (h : partOk x = true) : x ≠ [] := by
  simp only [partOk, Bool.and_eq_true, decide_eq_true_eq] at h
  exact h.1.1.1.1

/-- A path's parts, glued, fall into the same parts. -/
theorem split_glue {l : List Bytes} (h1 : ∀ x ∈ l, (47 : UInt8) ∉ x) (h2 : ∀ x ∈ l, x ≠ []) : split (glue l) = l := by
  cases l with
  | nil => rfl
  | cons a r =>
    have hne : glue (a :: r) ≠ [] := by
      intro e
      have := splitL_glue (l := a :: r) (by simp) h1
      rw [e] at this
      simp only [splitL, List.cons.injEq] at this
      exact h2 a (List.mem_cons_self ..) this.1.symm
    rw [split_ne hne]
    exact splitL_glue (by simp) h1

theorem split_parent {s : Bytes} (h : right s = true) : split (parent s) = (split s).dropLast :=
  split_glue (fun x hx => split_parts s x (List.dropLast_subset _ hx)) (fun x hx => partOk_ne (right_part h x (List.dropLast_subset _ hx)))

theorem split_base {s : Bytes} (h : s ≠ []) : (split s).dropLast ++ [base s] = split s := by
  have hne : split s ≠ [] := fun e => h (split_eq_nil e)
  exact (snoc_of hne rfl).symm

/-- A path is looked up: what stands there, its directory, and why not. -/
def Fs.look (T : Fs) (s : Bytes) : Option Nat × Option Nat × Int :=
  if right s = true then
    if s = [] then (some 1, none, 0)
    else match T.at (split s).dropLast with
      | none => (none, none, 10)
      | some d => if (T.nd d).kind = 2 then (T.at (split s), some d, 0) else (none, none, 12)
  else (none, none, 9)

/-- .. and something has to stand there. -/
def Fs.there (T : Fs) (s : Bytes) : Option Nat × Option Nat × Int :=
  ((T.look s).1, (T.look s).2.1, if (T.look s).2.2 = 0 ∧ (T.look s).1 = none then 10 else (T.look s).2.2)

/-- .. and nothing may. -/
def Fs.fresh (T : Fs) (s : Bytes) : Option Nat × Int :=
  ((T.look s).2.1, if (T.look s).2.2 = 0 ∧ (T.look s).1 ≠ none then 11 else (T.look s).2.2)

/-- What a thing that should be a file is not. -/
def notFile (n : Nd) : Int := if n.kind = 2 then 13 else if n.kind = 3 then 17 else 0

def within (n lo hi : Int) : Bool := decide (lo ≤ n) && decide (n ≤ hi)
def metaOk (m : Mt) : Bool := within m.mode 0 4095 && within m.sec (-1099511627776) 1099511627776 && within m.nano 0 999999999 && within m.uid 0 2147483647 && within m.gid 0 2147483647

end Go.Proofs.YtocbjhhnginebaaGreat

namespace Go.Proofs.YtocbjhhnginebaaGreat
open Go.RowKit

def ptr (b : Nat) : Value := .pointer (some ⟨b, 0, none⟩)
/-- A pointer to what stands there, or nil. -/
def optPtr (A : Nat → Nat) : Option Nat → Value
  | some i => ptr (A i)
  | none => .pointer none

theorem optPtr_some (A : Nat → Nat) (i : Nat) : optPtr A (some i) = .pointer (some ⟨A i, 0, none⟩) := rfl
theorem optPtr_none (A : Nat → Nat) : optPtr A none = .pointer none := rfl

def kidsV (n : Nd) (m : Nat) : Value := if n.kind = 2 then .map (some m) else .map none

def mtCells (m : Mt) : List Value := [.int .i64 m.mode, .int .i64 m.sec, .int .i64 m.nano, .int .i64 m.uid, .int .i64 m.gid]
def nodeCells (n : Nd) (i : Nat) (dv kv : Value) : Array Value :=
  #[.int .i64 n.kind, .int .i64 i, .int .i64 0, .int .i64 n.links, .int .i64 n.mt.mode, .int .i64 n.mt.sec, .int .i64 n.mt.nano, .int .i64 n.mt.uid, .int .i64 n.mt.gid, .string (mkS n.target), dv, kv]

/-- The bytes of a file: in a block of bytes, at its beginning. -/
def Dat (w : World) (v : Value) (l : Bytes) : Prop :=
  ((∃ A c, v = .slice A 0 c ∧ c ≤ maxLen) ∧ l = []) ∨ ∃ g c cur, v = .slice (some ⟨g, 0, none⟩) l.length c ∧ w.heap[g]? = some (Obj.cells cur 5 (0, 0)) ∧ l.length ≤ c ∧ c ≤ maxLen ∧ c ≤ cur.size ∧ cur.toList.take l.length = byteCells l

theorem dat_nil (w : World) : Dat w (.slice none 0 0) [] := Or.inl ⟨⟨none, 0, rfl, Nat.zero_le _⟩, rfl⟩
theorem Dat.kept {w w' : World} {dv : Value} {l : Bytes} (h : Dat w dv l) (hk : ∀ g : Nat, (∃ cs, w.heap[g]? = some (Obj.cells cs 5 (0, 0))) → w'.heap[g]? = w.heap[g]?) : Dat w' dv l := by
  rcases h with h | ⟨g, c, cur, h1, h2, h3, h4, h5, h6⟩
  · exact Or.inl h
  · exact Or.inr ⟨g, c, cur, h1, (hk g ⟨cur, h2⟩).trans h2, h3, h4, h5, h6⟩
theorem Dat.shape {w : World} {v : Value} {l : Bytes} (h : Dat w v l) : ∃ A c, v = .slice A l.length c ∧ l.length ≤ c ∧ c ≤ maxLen := by
  rcases h with ⟨⟨A, c, rfl, hc⟩, rfl⟩ | ⟨g, c, cur, h1, h2, h3, h4, _⟩
  · exact ⟨A, c, rfl, Nat.zero_le _, hc⟩
  · exact ⟨_, c, h1, h3, h4⟩
theorem Byts.dat {B : Nat} {w : World} {v : Value} {l : Bytes} (h : Byts B w v l) : Dat w v l := by
  obtain ⟨h1, ⟨rfl, h2⟩ | ⟨g, cap, cur, e1, h2, h3, h4, h5, h6, h7⟩⟩ := h
  · exact Or.inl ⟨⟨none, 0, rfl, Nat.zero_le _⟩, List.eq_nil_of_length_eq_zero h2⟩
  · exact Or.inr ⟨g, cap, cur, e1, h3, h4, h5, by omega, by rw [← h7, Nat.mul_one]⟩

def entries (A : Nat → Nat) (l : List (Bytes × Nat)) : List (Value × Value) := l.map fun x => (.string (mkS x.1), ptr (A x.2))

/-- Block tb of w is the tree T; its thing i lies in block A i, its directory i's names in block M i. -/
structure Rep (w : World) (tb : Nat) (A M : Nat → Nat) (T : Fs) : Prop where
  inv : T.Inv
  tree : w.heap[tb]? = some (.cells #[ptr (A 1), .int .i64 T.next] 90 (0, 0))
  node : ∀ i, T.Live i → ∃ dv, Dat w dv (T.nd i).data ∧ w.heap[A i]? = some (.cells (nodeCells (T.nd i) i dv (kidsV (T.nd i) (M i))) 110 (0, 0))
  kids : ∀ p i, (p, i) ∈ T.names → (T.nd i).kind = 2 → MapIs w (M i) (entries A (T.kids p))
  injA : ∀ i j, T.Live i → T.Live j → A i = A j → i = j
  injM : ∀ i j, T.Live i → T.Live j → (T.nd i).kind = 2 → (T.nd j).kind = 2 → M i = M j → i = j

/-- The blocks that a tree's calls may write. -/
def Own (tb : Nat) (A M : Nat → Nat) (T : Fs) (b : Nat) : Prop := b = tb ∨ (∃ i, T.Live i ∧ b = A i) ∨ ∃ i, T.Live i ∧ (T.nd i).kind = 2 ∧ b = M i

/-- The blocks of S alone may have turned, and new ones may have come. -/
structure Turn (w w' : World) (S : Nat → Prop) : Prop where
  os : w'.os = w.os
  tape : w'.tape = w.tape
  output : w'.output = w.output
  size : w.heap.size ≤ w'.heap.size
  block : ∀ i, i < w.heap.size → ¬ S i → w'.heap[i]? = w.heap[i]?

theorem Turn.refl (w : World) (S : Nat → Prop) : Turn w w S := ⟨rfl, rfl, rfl, Nat.le_refl _, fun _ _ _ => rfl⟩
theorem Turn.drewN {w w' : World} {S : Nat → Prop} (h : Turn w w' S) (n : Nat) : Turn w (w'.drewN n) S := ⟨h.os, h.tape, h.output, h.size, h.block⟩
theorem Turn.trans {a b c : World} {S : Nat → Prop} (h : Turn a b S) (k : Turn b c (fun i => S i ∨ a.heap.size ≤ i)) : Turn a c S :=
  ⟨k.os.trans h.os, k.tape.trans h.tape, k.output.trans h.output, Nat.le_trans h.size k.size, fun i hi hs =>
    (k.block i (Nat.lt_of_lt_of_le hi h.size) (by rintro (h1 | h1); exact hs h1; omega)).trans (h.block i hi hs)⟩
theorem Turn.mono {a b : World} {S S' : Nat → Prop} (h : Turn a b S) (hs : ∀ i, i < a.heap.size → S i → S' i) : Turn a b S' :=
  ⟨h.os, h.tape, h.output, h.size, fun i hi hn => h.block i hi (fun h1 => hn (hs i hi h1))⟩
theorem Turn.of_below {a b : World} (h : Below a.heap.size a b) (S : Nat → Prop) : Turn a b S := ⟨h.os, h.tape, h.output, h.size, fun i hi _ => h.block i hi⟩
theorem Turn.of_grown {a b : World} {row : Option Nat} (h : a.grownBy b row) {S : Nat → Prop} (hs : ∀ j, row = some j → S j) : Turn a b S :=
  ⟨h.os, h.tape, h.output, h.size, fun i hi hn => h.block i hi (fun e => hn (hs i e.symm))⟩

/-- A tree stays where no block of its own, and no block of bytes, has turned. -/
theorem Rep.kept {w w' : World} {tb : Nat} {A M : Nat → Nat} {T : Fs} (h : Rep w tb A M T) (hk : ∀ b, Own tb A M T b → w'.heap[b]? = w.heap[b]?)
    (hb : ∀ g : Nat, (∃ cs, w.heap[g]? = some (Obj.cells cs 5 (0, 0))) → w'.heap[g]? = w.heap[g]?) : Rep w' tb A M T := by
  refine ⟨h.inv, (hk tb (Or.inl rfl)).trans h.tree, fun i hi => ?_, fun p i hm h2 => ?_, h.injA, h.injM⟩
  · obtain ⟨dv, h1, h2⟩ := h.node i hi
    exact ⟨dv, h1.kept hb, (hk _ (Or.inr (Or.inl ⟨i, hi, rfl⟩))).trans h2⟩
  · exact (h.kids p i hm h2).of_block (hk _ (Or.inr (Or.inr ⟨i, ⟨p, hm⟩, h2, rfl⟩)))

theorem Rep.lt {w : World} {tb : Nat} {A M : Nat → Nat} {T : Fs} (h : Rep w tb A M T) {b : Nat} (hb : Own tb A M T b) : b < w.heap.size := by
  rcases hb with rfl | ⟨i, hi, rfl⟩ | ⟨i, ⟨p, hi⟩, h2, rfl⟩
  · exact (Array.getElem?_eq_some_iff.1 h.tree).1
  · obtain ⟨dv, _, h2⟩ := h.node i hi
    exact (Array.getElem?_eq_some_iff.1 h2).1
  · exact (h.kids p i hi h2).lt

theorem Rep.below {w w' : World} {tb : Nat} {A M : Nat → Nat} {T : Fs} (h : Rep w tb A M T) (hb : Below w.heap.size w w') : Rep w' tb A M T :=
  h.kept (fun b ho => hb.block b (h.lt ho)) (fun g ⟨cs, hc⟩ => hb.block g (Array.getElem?_eq_some_iff.1 hc).1)

theorem Rep.drewN {w : World} {tb : Nat} {A M : Nat → Nat} {T : Fs} (h : Rep w tb A M T) (n : Nat) : Rep (w.drewN n) tb A M T :=
  ⟨h.inv, h.tree, h.node, h.kids, h.injA, h.injM⟩

end Go.Proofs.YtocbjhhnginebaaGreat

namespace Go.Proofs.YtocbjhhnginebaaGreat
open Go.RowKit

theorem under_kids : Tryz.prog.underlying 108 = some (.map 9 85) := Tryz.underlying108
theorem zero_node (w : World) : (zeroValue 85).run Tryz.prog w = .ok (.pointer none) w := by kernel_rfl

theorem map_nil (w : World) (m : Option Nat) : (binOp .eql 108 (.map m) (.map none)).run Tryz.prog w = .ok (.bool m.isNone) w := run_eql_map_nil w _ _ _ m under_kids
theorem map_not_nil (w : World) (m : Option Nat) : (binOp .neq 108 (.map m) (.map none)).run Tryz.prog w = .ok (.bool (!m.isNone)) w := run_neq_map_nil w _ _ _ m under_kids

theorem entries_keys (A : Nat → Nat) (l : List (Bytes × Nat)) : ∀ v ∈ (entries A l).map (·.1), ∃ t, v = .string t := by
  intro v hv
  simp only [entries, List.map_map, List.mem_map, Function.comp_apply] at hv
  obtain ⟨x, _, rfl⟩ := hv
  exact ⟨_, rfl⟩

/-- A look-up among the names of a directory. -/
theorem Rep.look {w : World} {tb : Nat} {A M : Nat → Nat} {T : Fs} (h : Rep w tb A M T) {p : Pt} {i : Nat} (hp : (p, i) ∈ T.names) (h2 : (T.nd i).kind = 2) (x : Bytes) :
    (Instr.lookup 108 (.map (some (M i))) (.string (mkS x)) false).run Tryz.prog w = .ok (optPtr A (T.at (p ++ [x]))) w := by
  have hm := h.kids p i hp h2
  have hk := keyable_string Tryz.underlying9 w (mkS x) (entries_keys A (T.kids p))
  cases hc : T.at (p ++ [x]) with
  | some j =>
    have : ((.string (mkS x), ptr (A j)) : Value × Value) ∈ entries A (T.kids p) := List.mem_map.2 ⟨(x, j), h.inv.kids_at.2 hc, rfl⟩
    exact hm.look_hit under_kids hk this false
  | none =>
    refine hm.look_miss under_kids hk ?_ (zero_node w) false
    intro q hq e
    obtain ⟨⟨y, j⟩, hy, rfl⟩ := List.mem_map.1 hq
    simp only [Value.string.injEq] at e
    rw [mkS_inj e] at hy
    rw [h.inv.kids_at.1 hy] at hc
    cases hc

theorem cell_of {w : World} {b : Nat} {cs : Array Value} {t : TypeId} {f : Nat × Nat} (h : w.heap[b]? = some (.cells cs t f)) {j : Nat} {v : Value} (hj : cs[j]? = some v) : w.cell? ⟨b, j, none⟩ = some v := by
  simp [World.cell?, h, hj]

set_option maxHeartbeats 1000000 in
set_option maxRecDepth 100000 in
theorem at_calls (tb : Nat) (A M : Nat → Nat) (T : Fs) (s : ByteArray) (w : World) (hR : Rep w tb A M T) (hs : s.size ≤ 16777216) :
    Calls Tryz.prog 117 #[ptr tb, .string s] w fun e w' => e = .returned (optPtr A (T.at (split (bl s)))) ∧ Below w.heap.size w w' := by
  have h1 := fun W => split_calls s W hs
  generalize split (bl s) = l at *
  replace h1 := Lib.hid h1
  have c0 : w.cell? ⟨tb, 0, none⟩ = some (ptr (A 1)) := cell_of hR.tree rfl
  have hR0 := hR
  replace hR := Lib.hid hR
  clear hR0
  unfold ptr at c0 ⊢
  go_enter Tryz.func117, Tryz.ntmps117
  go_wp2_with fail
  refine (h1.out _).mono ?_
  rintro e w1 ⟨⟨v1, rfl, hO1⟩, hB1⟩
  have hRd := hO1.rd
  obtain ⟨g, c, rfl, hle, hmax⟩ := hRd.shape
  unfold maxLen at hmax
  go_wp2
  have hRw := (hR.out).below hB1
  clear hR c0 h1 hO1
  have hI := hRw.inv
  have hmn := fun W m => map_nil W m
  go_loop [5, 7, 15] (fun n x i => ∃ k : Nat, i = .int .i64 k ∧ k ≤ l.length ∧ n = optPtr A (T.at (l.take k))) (fun n x i => l.length - (intOf i).toNat)
  case atStart => exact ⟨0, rfl, Nat.zero_le _, by rw [List.take_zero, hI.at_top]; rfl⟩
  case round =>
    obtain ⟨k, rfl, hk, rfl⟩ := hrel
    by_cases hlt : k < l.length
    · obtain ⟨g, o, rfl, hcx⟩ := hRd.cell hlt
      have htk : l.take (k + 1) = l.take k ++ [l[k]] := by rw [List.take_add_one, List.getElem?_eq_getElem hlt]; rfl
      have hdk : l = l.take k ++ l.drop k := (List.take_append_drop k l).symm
      have hne : l.drop k ≠ [] := by intro e; have := congrArg List.length e; simp at this; omega
      cases hc : T.at (l.take k) with
      | none =>
        have hend : T.at l = none := by
          rw [hdk]
          exact hI.at_below _ hne (fun i hi => by rw [hc] at hi; cases hi)
        rw [optPtr_none]
        replace hend := Lib.hid hend
        replace hRw := Lib.hid hRw
        replace hI := Lib.hid hI
        clear hdk hne hc htk
        go_wp2
        go_ret
        exact ⟨by rw [hend.out]; rfl, hB1⟩
      | some i =>
        have hm := hI.at_some.1 hc
        obtain ⟨dv, _, hnode⟩ := hRw.node i ⟨_, hm⟩
        have c11 : w1.cell? ⟨A i, 11, none⟩ = some (kidsV (T.nd i) (M i)) := cell_of hnode rfl
        rw [optPtr_some]
        by_cases h2 : (T.nd i).kind = 2
        · have hlk := hRw.look hm h2 l[k]
          rw [← htk] at hlk
          rw [kidsV, if_pos h2] at c11
          generalize hq : optPtr A (T.at (l.take (k + 1))) = q at hlk
          replace hq := Lib.hid hq
          clear hdk hne hc hm hnode htk h2
          replace hRw := Lib.hid hRw
          replace hI := Lib.hid hI
          go_wp2
          go_round
          case rel => exact ⟨k + 1, by go_num, by omega, hq.out.symm⟩
          case measure => simp [intOf]; omega
        · have hend : T.at l = none := by
            rw [hdk]
            exact hI.at_below _ hne (fun j hj => by rw [hc] at hj; cases hj; exact h2)
          rw [kidsV, if_neg h2] at c11
          replace hend := Lib.hid hend
          replace hRw := Lib.hid hRw
          replace hI := Lib.hid hI
          clear hdk hne hc hm hnode htk h2
          go_wp2
          go_ret
          exact ⟨by rw [hend.out]; rfl, hB1⟩
    · obtain rfl : k = l.length := by omega
      rw [List.take_length]
      have hlt2 : ¬ (l.length : Int) < l.length := by omega
      go_wp2
      go_ret
      exact ⟨rfl, hB1⟩

end Go.Proofs.YtocbjhhnginebaaGreat

namespace Go.Proofs.YtocbjhhnginebaaGreat
open Go.RowKit

theorem look3_facts {T : Fs} (hI : T.Inv) (s : Bytes) : ∀ i, (T.look s).1 = some i → T.Live i := by
  intro i
  unfold Fs.look
  split
  · split
    · intro e; cases e; exact ⟨_, hI.one⟩
    · split
      · intro e; cases e
      · split
        · intro e; exact ⟨_, hI.at_some.1 e⟩
        · intro e; cases e
  · intro e; cases e

theorem str_nil (s : ByteArray) : s.toList.isEmpty = decide (bl s = []) := by
  rw [str_empty]
  congr 1
  rw [← bl_length]
  exact propext List.length_eq_zero_iff

set_option maxHeartbeats 1000000 in
set_option maxRecDepth 100000 in
theorem look_calls (tb : Nat) (A M : Nat → Nat) (T : Fs) (s : ByteArray) (w : World) (hR : Rep w tb A M T) (hs : s.size ≤ 16777216) :
    Calls Tryz.prog 68 #[ptr tb, .string s] w fun e w' => e = .returned (.tuple #[optPtr A (T.look (bl s)).1, optPtr A (T.look (bl s)).2.1, .int .i64 (T.look (bl s)).2.2]) ∧ Below w.heap.size w w' := by
  have hs2 : s.size ≤ maxLen := by unfold maxLen; omega
  have h1 := fun W => right_calls s W hs
  have h2 := fun W => parent_calls s W hs2
  have h3 := fun W => base_calls s W hs2
  have hn := str_nil s
  unfold ptr
  have hLk : T.look (bl s) = ((if right (bl s) = true then
    if bl s = [] then (some 1, none, 0)
    else match T.at (split (bl s)).dropLast with
      | none => (none, none, 10)
      | some d => if (T.nd d).kind = 2 then (T.at (split (bl s)), some d, 0) else (none, none, 12)
    else (none, none, 9)) : Option Nat × Option Nat × Int) := rfl
  generalize T.look (bl s) = res at *
  replace h1 := Lib.hid h1
  replace h2 := Lib.hid h2
  replace h3 := Lib.hid h3
  by_cases hr : right (bl s) = true
  · rw [hr] at h1
    rw [if_pos hr] at hLk
    by_cases hnil : bl s = []
    · rw [if_pos hnil] at hLk
      subst hLk
      have hn2 : s.toList.isEmpty = true := by rw [hn, hnil]; rfl
      clear hn hr hnil
      replace hR := Lib.hid hR
      go_enter Tryz.func68, Tryz.ntmps68
      go_wp2_with fail
      refine (h1.out _).mono ?_
      rintro e w1 ⟨rfl, hB1⟩
      have c0 : w1.cell? ⟨tb, 0, none⟩ = some (.pointer (some ⟨A 1, 0, none⟩)) := cell_of (hR.out.below hB1).tree rfl
      go_wp2
      go_ret3
      exact ⟨rfl, hB1⟩
    · rw [if_neg hnil] at hLk
      have hn2 : s.toList.isEmpty = false := by rw [hn]; simpa using hnil
      have hsp := split_parent hr
      have hsb := split_base hnil
      have hps : (mkS (parent (bl s))).size ≤ 16777216 := by
        rw [mkS_size]
        have := parent_le (bl s)
        rw [bl_length] at this
        unfold parent
        omega
      have h4 := fun W hW => at_calls tb A M T (mkS (parent (bl s))) W hW hps
      rw [bl_mkS, hsp] at h4
      unfold ptr at h4
      replace h4 := Lib.hid h4
      clear hn hr hnil hps
      replace hR := Lib.hid hR
      replace hLk := Lib.hid hLk
      replace hsp := Lib.hid hsp
      replace hsb := Lib.hid hsb
      go_enter Tryz.func68, Tryz.ntmps68
      go_wp2_with fail
      refine (h1.out _).mono ?_
      rintro e w1 ⟨rfl, hB1⟩
      go_wp2_with fail
      refine (h2.out _).mono ?_
      rintro e w1' ⟨rfl, rfl⟩
      go_wp2_with fail
      refine (h4.out w1 (hR.out.below hB1)).mono ?_
      rintro e w2 ⟨rfl, hB2⟩
      have hB := below_step hB1 hB2
      have hR2 := hR.out.below hB
      cases hc : T.at (split (bl s)).dropLast with
      | none =>
        have hL := hLk.out
        rw [hc] at hL
        subst hL
        rw [optPtr_none]
        clear hLk
        replace hR2 := Lib.hid hR2
        go_wp2
        go_ret3
        exact ⟨rfl, hB⟩
      | some d =>
        have hL := hLk.out
        rw [hc] at hL
        simp only at hL
        have hm := hR2.inv.at_some.1 hc
        obtain ⟨dv, _, hnode⟩ := hR2.node d ⟨_, hm⟩
        have c0 : w2.cell? ⟨A d, 0, none⟩ = some (.int .i64 (T.nd d).kind) := cell_of hnode rfl
        have c11 : w2.cell? ⟨A d, 11, none⟩ = some (kidsV (T.nd d) (M d)) := cell_of hnode rfl
        rw [optPtr_some]
        clear hLk
        by_cases hk : (T.nd d).kind = 2
        · rw [if_pos hk] at hL
          subst hL
          have hlk := fun n => (hR2.drewN n).look hm hk (base (bl s))
          rw [hsb.out] at hlk
          rw [kidsV, if_pos hk] at c11
          rw [hk] at c0
          generalize hq : T.at (split (bl s)) = q at hlk
          replace hq := Lib.hid hq
          clear hm hnode hc hk
          replace hR2 := Lib.hid hR2
          go_wp2_with fail
          go_quiet (first | (go_at_call 119; refine Calls.quiet_of_same (((h3.out _)).mono fun e w' hh => ⟨hh.1, hh.2.symm⟩)))
          go_wp2
          go_ret3
          exact ⟨by rw [hq.out]; rfl, below_drewN hB _⟩
        · rw [if_neg hk] at hL
          subst hL
          have hk2 : ((T.nd d).kind == 2) = false := by simpa using hk
          clear hm hnode hc
          replace hR2 := Lib.hid hR2
          go_wp2
          go_ret3
          exact ⟨rfl, hB⟩
  · have hr2 : right (bl s) = false := by simpa using hr
    rw [hr2] at h1
    rw [if_neg hr] at hLk
    subst hLk
    clear hn hr hr2
    replace hR := Lib.hid hR
    go_enter Tryz.func68, Tryz.ntmps68
    go_wp2_with fail
    refine (h1.out _).mono ?_
    rintro e w1 ⟨rfl, hB1⟩
    go_wp2
    go_ret3
    exact ⟨rfl, hB1⟩

end Go.Proofs.YtocbjhhnginebaaGreat

namespace Go.Proofs.YtocbjhhnginebaaGreat

theorem Fs.Inv.look_ok {T : Fs} (h : T.Inv) {s : Bytes} (h0 : (T.look s).2.2 = 0) : right s = true ∧ (T.look s).1 = T.at (split s) ∧
    (s = [] ∧ (T.look s).1 = some 1 ∧ (T.look s).2.1 = none ∨ s ≠ [] ∧ ∃ d, (T.look s).2.1 = some d ∧ ((split s).dropLast, d) ∈ T.names ∧ (T.nd d).kind = 2) := by
  unfold Fs.look at *
  by_cases hr : right s = true
  · rw [if_pos hr] at *
    by_cases hs : s = []
    · subst hs
      rw [if_pos rfl] at *
      exact ⟨rfl, h.at_top.symm, Or.inl ⟨rfl, rfl, rfl⟩⟩
    · rw [if_neg hs] at *
      cases hc : T.at (split s).dropLast with
      | none => rw [hc] at h0; cases h0
      | some d =>
        rw [hc] at h0
        dsimp only at *
        by_cases hk : (T.nd d).kind = 2
        · rw [if_pos hk]
          exact ⟨hr, rfl, Or.inr ⟨hs, d, rfl, h.at_some.1 hc, hk⟩⟩
        · rw [if_neg hk] at h0
          cases h0
  · rw [if_neg hr] at h0
    cases h0

theorem Fs.Inv.there_ok {T : Fs} (h : T.Inv) {s : Bytes} (h0 : (T.there s).2.2 = 0) : right s = true ∧ ∃ i, (T.there s).1 = some i ∧ (split s, i) ∈ T.names ∧
    (s = [] ∧ i = 1 ∧ (T.there s).2.1 = none ∨ s ≠ [] ∧ ∃ d, (T.there s).2.1 = some d ∧ ((split s).dropLast, d) ∈ T.names ∧ (T.nd d).kind = 2) := by
  unfold Fs.there at *
  dsimp only at *
  by_cases hc : (T.look s).2.2 = 0 ∧ (T.look s).1 = none
  · rw [if_pos hc] at h0
    cases h0
  · rw [if_neg hc] at h0
    obtain ⟨h1, h2, h3⟩ := h.look_ok h0
    cases hn : (T.look s).1 with
    | none => exact absurd ⟨h0, hn⟩ hc
    | some i =>
      refine ⟨h1, i, rfl, h.at_some.1 (by rw [← h2, hn]), ?_⟩
      rcases h3 with ⟨e1, e2, e3⟩ | ⟨e1, d, e2, e3⟩
      · rw [hn] at e2
        cases e2
        exact Or.inl ⟨e1, rfl, e3⟩
      · exact Or.inr ⟨e1, d, e2, e3⟩

theorem there_fst {T : Fs} (s : Bytes) : (T.there s).1 = (T.look s).1 := rfl

/-- What a thing tells as its Size. -/
def Fs.size (T : Fs) (p : Pt) (i : Nat) : Int :=
  if (T.nd i).kind = 1 then (T.nd i).data.length else if (T.nd i).kind = 2 then (T.kids p).length else (T.nd i).target.length

/-- A thing as it is told. -/
structure St where
  kind : Int
  ino : Int
  size : Int
  links : Int
  mt : Mt
  target : Bytes
deriving DecidableEq

def noMt : Mt := ⟨0, 0, 0, 0, 0⟩
def noSt : St := ⟨0, 0, 0, 0, noMt, []⟩
def Fs.tell (T : Fs) (p : Pt) (i : Nat) : St := ⟨(T.nd i).kind, i, T.size p i, (T.nd i).links, (T.nd i).mt, (T.nd i).target⟩

def Fs.stat (T : Fs) (s : Bytes) : St × Int :=
  if (T.there s).2.2 = 0 then match (T.there s).1 with
    | some i => (T.tell (split s) i, 0)
    | none => (noSt, 0)
  else (noSt, (T.there s).2.2)

/-- A path, at which a file has to stand. -/
def Fs.file (T : Fs) (s : Bytes) : Option Nat × Int :=
  if (T.there s).2.2 = 0 then match (T.there s).1 with
    | some i => (some i, notFile (T.nd i))
    | none => (none, 0)
  else (none, (T.there s).2.2)

def Fs.read (T : Fs) (s : Bytes) : Bytes × Int :=
  if (T.file s).2 = 0 then match (T.file s).1 with
    | some i => ((T.nd i).data, 0)
    | none => ([], 0)
  else ([], (T.file s).2)

def sortB (l : List Bytes) : List Bytes := l.mergeSort fun a b => decide (a ≤ b)

def Fs.list (T : Fs) (s : Bytes) : List Bytes × Int :=
  if (T.there s).2.2 = 0 then match (T.there s).1 with
    | some i => if (T.nd i).kind = 2 then (sortB ((T.kids (split s)).map (·.1)), 0) else ([], 12)
    | none => ([], 0)
  else ([], (T.there s).2.2)

end Go.Proofs.YtocbjhhnginebaaGreat

namespace Go.Proofs.YtocbjhhnginebaaGreat
open Go.RowKit

set_option maxHeartbeats 1000000 in
set_option maxRecDepth 100000 in
theorem there_calls (tb : Nat) (A M : Nat → Nat) (T : Fs) (s : ByteArray) (w : World) (hR : Rep w tb A M T) (hs : s.size ≤ 16777216) :
    Calls Tryz.prog 44 #[ptr tb, .string s] w fun e w' => e = .returned (.tuple #[optPtr A (T.there (bl s)).1, optPtr A (T.there (bl s)).2.1, .int .i64 (T.there (bl s)).2.2]) ∧ Below w.heap.size w w' := by
  have h1 := look_calls tb A M T s w hR hs
  unfold Fs.there
  generalize T.look (bl s) = r at *
  obtain ⟨n, d, e⟩ := r
  dsimp only at *
  unfold ptr at *
  replace h1 := Lib.hid h1
  clear hR
  cases n with
  | none =>
    by_cases he : e = 0
    · subst he
      go_enter Tryz.func44, Tryz.ntmps44
      go_wp2_with fail
      refine h1.out.mono ?_
      rintro e w1 ⟨rfl, hB1⟩
      rw [optPtr_none]
      go_wp2
      go_ret3
      exact ⟨rfl, hB1⟩
    · have he2 : (e == 0) = false := by simpa using he
      have he3 : (if e = 0 ∧ (none : Option Nat) = none then (10 : Int) else e) = e := if_neg (fun h => he h.1)
      rw [he3]
      clear he3
      go_enter Tryz.func44, Tryz.ntmps44
      go_wp2_with fail
      refine h1.out.mono ?_
      rintro e w1 ⟨rfl, hB1⟩
      rw [optPtr_none]
      go_wp2
      go_ret3
      exact ⟨rfl, hB1⟩
  | some n =>
    have he3 : (if e = 0 ∧ some n = none then (10 : Int) else e) = e := if_neg (fun h => by cases h.2)
    rw [he3]
    clear he3
    by_cases he : e = 0
    · subst he
      go_enter Tryz.func44, Tryz.ntmps44
      go_wp2_with fail
      refine h1.out.mono ?_
      rintro e w1 ⟨rfl, hB1⟩
      rw [optPtr_some]
      go_wp2
      go_ret3
      exact ⟨rfl, hB1⟩
    · have he2 : (e == 0) = false := by simpa using he
      go_enter Tryz.func44, Tryz.ntmps44
      go_wp2_with fail
      refine h1.out.mono ?_
      rintro e w1 ⟨rfl, hB1⟩
      rw [optPtr_some]
      go_wp2
      go_ret3
      exact ⟨rfl, hB1⟩

set_option maxRecDepth 100000 in
theorem there_nil (s : ByteArray) (w : World) :
    Calls Tryz.prog 44 #[.pointer none, .string s] w fun e w' => e = .returned (.tuple #[.pointer none, .pointer none, .int .i64 1]) ∧ w = w' := by
  go_enter Tryz.func44, Tryz.ntmps44
  go_wp2
  go_ret3
  exact ⟨rfl, rfl⟩

set_option maxHeartbeats 1000000 in
set_option maxRecDepth 100000 in
theorem fresh_calls (tb : Nat) (A M : Nat → Nat) (T : Fs) (s : ByteArray) (w : World) (hR : Rep w tb A M T) (hs : s.size ≤ 16777216) :
    Calls Tryz.prog 82 #[ptr tb, .string s] w fun e w' => e = .returned (.tuple #[optPtr A (T.fresh (bl s)).1, .int .i64 (T.fresh (bl s)).2]) ∧ Below w.heap.size w w' := by
  have h1 := look_calls tb A M T s w hR hs
  unfold Fs.fresh
  generalize T.look (bl s) = r at *
  obtain ⟨n, d, e⟩ := r
  dsimp only at *
  unfold ptr at *
  replace h1 := Lib.hid h1
  clear hR
  cases n with
  | some n =>
    by_cases he : e = 0
    · subst he
      have he3 : (if (0 : Int) = 0 ∧ some n ≠ none then (11 : Int) else 0) = 11 := if_pos ⟨rfl, by simp⟩
      rw [he3]
      clear he3
      go_enter Tryz.func82, Tryz.ntmps82
      go_wp2_with fail
      refine h1.out.mono ?_
      rintro e w1 ⟨rfl, hB1⟩
      rw [optPtr_some]
      go_wp2
      go_ret2
      exact ⟨rfl, hB1⟩
    · have he2 : (e == 0) = false := by simpa using he
      have he3 : (if e = 0 ∧ some n ≠ none then (11 : Int) else e) = e := if_neg (fun h => he h.1)
      rw [he3]
      clear he3
      go_enter Tryz.func82, Tryz.ntmps82
      go_wp2_with fail
      refine h1.out.mono ?_
      rintro e w1 ⟨rfl, hB1⟩
      rw [optPtr_some]
      go_wp2
      go_ret2
      exact ⟨rfl, hB1⟩
  | none =>
    have he3 : (if e = 0 ∧ (none : Option Nat) ≠ none then (11 : Int) else e) = e := if_neg (fun h => h.2 rfl)
    rw [he3]
    clear he3
    by_cases he : e = 0
    · subst he
      go_enter Tryz.func82, Tryz.ntmps82
      go_wp2_with fail
      refine h1.out.mono ?_
      rintro e w1 ⟨rfl, hB1⟩
      rw [optPtr_none]
      go_wp2
      go_ret2
      exact ⟨rfl, hB1⟩
    · have he2 : (e == 0) = false := by simpa using he
      go_enter Tryz.func82, Tryz.ntmps82
      go_wp2_with fail
      refine h1.out.mono ?_
      rintro e w1 ⟨rfl, hB1⟩
      rw [optPtr_none]
      go_wp2
      go_ret2
      exact ⟨rfl, hB1⟩

set_option maxRecDepth 100000 in
theorem file_calls (tb : Nat) (A M : Nat → Nat) (T : Fs) (i : Nat) (w : World) (hR : Rep w tb A M T) (hi : T.Live i) :
    Calls Tryz.prog 70 #[ptr (A i)] w fun e w' => e = .returned (.int .i64 (notFile (T.nd i))) ∧ w = w' := by
  obtain ⟨dv, _, hnode⟩ := hR.node i hi
  have c0 : w.cell? ⟨A i, 0, none⟩ = some (.int .i64 (T.nd i).kind) := cell_of hnode rfl
  unfold notFile ptr
  clear hR hnode
  by_cases h2 : (T.nd i).kind = 2
  · rw [h2] at c0 ⊢
    clear h2
    go_enter Tryz.func70, Tryz.ntmps70
    go_wp2
    go_ret
    exact ⟨rfl, rfl⟩
  · have h22 : ((T.nd i).kind == 2) = false := by simpa using h2
    rw [if_neg h2]
    by_cases h3 : (T.nd i).kind = 3
    · rw [h3] at c0 ⊢
      clear h2 h3 h22
      go_enter Tryz.func70, Tryz.ntmps70
      go_wp2
      go_ret
      exact ⟨rfl, rfl⟩
    · have h33 : ((T.nd i).kind == 3) = false := by simpa using h3
      rw [if_neg h3]
      generalize (T.nd i).kind = k at *
      go_enter Tryz.func70, Tryz.ntmps70
      go_wp2
      go_ret
      exact ⟨rfl, rfl⟩

def statCells (s : St) : List Value :=
  [.int .i64 s.kind, .int .i64 s.ino, .int .i64 s.size, .int .i64 s.links, .int .i64 s.mt.mode, .int .i64 s.mt.sec, .int .i64 s.mt.nano, .int .i64 s.mt.uid, .int .i64 s.mt.gid, .string (mkS s.target)]
def statV (s : St) : Value := .agg (statCells s).toArray

end Go.Proofs.YtocbjhhnginebaaGreat

namespace Go.Proofs.YtocbjhhnginebaaGreat
open Go.RowKit

def mtV (m : Mt) : Value := .agg (mtCells m).toArray

set_option maxHeartbeats 1000000 in
set_option maxRecDepth 100000 in
theorem check_calls (m : Mt) (w : World) :
    Calls Tryz.prog 116 #[mtV m] w fun e w' => e = .returned (.int .i64 (if metaOk m then 0 else 2)) ∧ Below w.heap.size w w' := by
  obtain ⟨a1, a2, a3, a4, a5⟩ := m
  generalize hr : (if metaOk ⟨a1, a2, a3, a4, a5⟩ then (0 : Int) else 2) = r
  replace hr := Lib.hid hr
  unfold mtV mtCells
  dsimp only
  have hB : Below w.heap.size w (w.alloc (.cells #[.int .i64 a1, .int .i64 a2, .int .i64 a3, .int .i64 a4, .int .i64 a5] 40)) := (Below.refl _ _).alloc (Nat.le_refl _) _
  replace hB := Lib.hid hB
  go_enter Tryz.func116, Tryz.ntmps116
  go_wp2
  all_goals
    go_ret
    refine ⟨ret_int ?_, hB.out⟩
    have := hr.out
    simp only [metaOk, within, Bool.and_eq_true, decide_eq_true_eq] at this
    split at this <;> omega

set_option maxHeartbeats 1000000 in
set_option maxRecDepth 100000 in
theorem may_calls (tb : Nat) (s : ByteArray) (m : Mt) (w : World) (hs : s.size ≤ 16777216) :
    Calls Tryz.prog 67 #[ptr tb, .string s, mtV m] w fun e w' => e = .returned (.int .i64 (if right (bl s) then if metaOk m then 0 else 2 else 9)) ∧ Below w.heap.size w w' := by
  have h1 := fun W => right_calls s W hs
  have h2 := fun W => check_calls m W
  generalize right (bl s) = r at *
  generalize metaOk m = k at *
  unfold ptr
  obtain ⟨a1, a2, a3, a4, a5⟩ := m
  unfold mtV mtCells at *
  dsimp only at *
  have hB : Below w.heap.size w (w.alloc (.cells #[.int .i64 a1, .int .i64 a2, .int .i64 a3, .int .i64 a4, .int .i64 a5] 40)) := (Below.refl _ _).alloc (Nat.le_refl _) _
  have hblk : (w.alloc (.cells #[.int .i64 a1, .int .i64 a2, .int .i64 a3, .int .i64 a4, .int .i64 a5] 40)).heap[w.heap.size]? = some (.cells #[.int .i64 a1, .int .i64 a2, .int .i64 a3, .int .i64 a4, .int .i64 a5] 40) := (MapKept.heap_alloc w _).1
  replace h1 := Lib.hid h1
  replace h2 := Lib.hid h2
  replace hblk := Lib.hid hblk
  replace hB := Lib.hid hB
  go_enter Tryz.func67, Tryz.ntmps67
  go_wp2_with fail
  refine (h1.out _).mono ?_
  rintro e w1 ⟨rfl, hB1⟩
  cases r with
  | false =>
    go_wp2
    go_ret
    exact ⟨rfl, below_step hB.out hB1⟩
  | true =>
    have hblk1 : w1.heap[w.heap.size]? = some (.cells #[.int .i64 a1, .int .i64 a2, .int .i64 a3, .int .i64 a4, .int .i64 a5] 40) := (hB1.block _ (Array.getElem?_eq_some_iff.1 hblk.out).1).trans hblk.out
    have d0 := cell_of (j := 0) hblk1 rfl
    have d1 := cell_of (j := 1) hblk1 rfl
    have d2 := cell_of (j := 2) hblk1 rfl
    have d3 := cell_of (j := 3) hblk1 rfl
    have d4 := cell_of (j := 4) hblk1 rfl
    clear hblk1
    go_wp2_with fail
    refine (h2.out _).mono ?_
    rintro e w2 ⟨rfl, hB2⟩
    cases k with
    | false =>
      go_wp2
      go_ret
      exact ⟨rfl, below_step (below_step hB.out hB1) hB2⟩
    | true =>
      go_wp2
      go_ret
      exact ⟨rfl, below_step (below_step hB.out hB1) hB2⟩

end Go.Proofs.YtocbjhhnginebaaGreat

namespace Go.Proofs.YtocbjhhnginebaaGreat
open Go.RowKit

set_option maxRecDepth 100000 in
theorem may_nil (s : ByteArray) (m : Mt) (w : World) :
    Calls Tryz.prog 67 #[.pointer none, .string s, mtV m] w fun e w' => e = .returned (.int .i64 1) ∧ Below w.heap.size w w' := by
  obtain ⟨a1, a2, a3, a4, a5⟩ := m
  unfold mtV mtCells at *
  dsimp only at *
  have hB : Below w.heap.size w (w.alloc (.cells #[.int .i64 a1, .int .i64 a2, .int .i64 a3, .int .i64 a4, .int .i64 a5] 40)) := (Below.refl _ _).alloc (Nat.le_refl _) _
  replace hB := Lib.hid hB
  go_enter Tryz.func67, Tryz.ntmps67
  go_wp2
  go_ret
  exact ⟨rfl, hB.out⟩

theorem Rep.cells {w : World} {tb : Nat} {A M : Nat → Nat} {T : Fs} (h : Rep w tb A M T) {i : Nat} (hi : T.Live i) :
    ∃ dv, Dat w dv (T.nd i).data ∧ w.cell? ⟨A i, 0, none⟩ = some (.int .i64 (T.nd i).kind) ∧ w.cell? ⟨A i, 1, none⟩ = some (.int .i64 i) ∧ w.cell? ⟨A i, 2, none⟩ = some (.int .i64 0) ∧ w.cell? ⟨A i, 3, none⟩ = some (.int .i64 (T.nd i).links) ∧
      w.cell? ⟨A i, 4, none⟩ = some (.int .i64 (T.nd i).mt.mode) ∧ w.cell? ⟨A i, 5, none⟩ = some (.int .i64 (T.nd i).mt.sec) ∧ w.cell? ⟨A i, 6, none⟩ = some (.int .i64 (T.nd i).mt.nano) ∧ w.cell? ⟨A i, 7, none⟩ = some (.int .i64 (T.nd i).mt.uid) ∧ w.cell? ⟨A i, 8, none⟩ = some (.int .i64 (T.nd i).mt.gid) ∧
      w.cell? ⟨A i, 9, none⟩ = some (.string (mkS (T.nd i).target)) ∧ w.cell? ⟨A i, 10, none⟩ = some dv ∧ w.cell? ⟨A i, 11, none⟩ = some (kidsV (T.nd i) (M i)) := by
  obtain ⟨dv, h1, h2⟩ := h.node i hi
  exact ⟨dv, h1, cell_of h2 rfl, cell_of h2 rfl, cell_of h2 rfl, cell_of h2 rfl, cell_of h2 rfl, cell_of h2 rfl, cell_of h2 rfl, cell_of h2 rfl, cell_of h2 rfl, cell_of h2 rfl, cell_of h2 rfl, cell_of h2 rfl⟩

set_option maxHeartbeats 2000000 in
set_option maxRecDepth 100000 in
theorem tell_calls (tb : Nat) (A M : Nat → Nat) (T : Fs) (p : Pt) (i : Nat) (w : World) (hR : Rep w tb A M T) (hp : (p, i) ∈ T.names) :
    Calls Tryz.prog 45 #[ptr (A i)] w fun e w' => e = .returned (statV (T.tell p i)) ∧ Below w.heap.size w w' := by
  obtain ⟨dv, hD, c0, c1, c2, c3, c4, c5, c6, c7, c8, c9, c10, c11⟩ := hR.cells ⟨p, hp⟩
  have hki := hR.inv.kinds p i hp
  have hkm := hR.kids p i hp
  obtain ⟨dA, dc, rfl, hd1, hd2⟩ := hD.shape
  unfold maxLen at hd2
  unfold ptr statV statCells Fs.tell
  dsimp only
  have hts := mkS_size (T.nd i).target
  have hlt : A i < w.heap.size := hR.lt (Or.inr (Or.inl ⟨i, ⟨p, hp⟩, rfl⟩))
  have hlt2 : A i < w.heap.size + 1 := by omega
  have hne1 : A i ≠ w.heap.size := by omega
  have hne2 : A i ≠ w.heap.size + 1 := by omega
  have hne3 : w.heap.size + 1 ≠ A i := by omega
  replace hR := Lib.hid hR
  replace hD := Lib.hid hD
  have hB : ∀ o o', Below w.heap.size w ((w.alloc o).alloc o') := fun o o' => ((Below.refl _ _).alloc (Nat.le_refl _) _).alloc (by simp) _
  have hblk : ∀ C o' t, ((w.alloc (.cells C t)).alloc o').heap[w.heap.size]? = some (.cells C t) := fun C o' t => by
    rw [(MapKept.heap_alloc _ _).2 _ (by simp)]
    exact (MapKept.heap_alloc w _).1
  replace hblk := Lib.hid hblk
  replace hB := Lib.hid hB
  unfold Fs.size
  rcases hki with hk | hk | hk
  · rw [hk] at c0 ⊢
    rw [if_pos rfl]
    clear hkm hk hts
    generalize (T.nd i).data.length = n at *
    generalize (T.nd i).target = tg at *
    generalize (T.nd i).mt = m at *
    obtain ⟨m1, m2, m3, m4, m5⟩ := m
    generalize (T.nd i).links = lk at *
    dsimp only at *
    go_enter Tryz.func45, Tryz.ntmps45
    go_wp2
    refine bodyPost_ret (results_cell_row rfl _ _ w.heap.size _ _ _ _ rfl (hblk.out _ _ _) Tryz.underlying42 rfl (by kernel_rfl)) rfl ?_
    exact ⟨rfl, hB.out _ _⟩
  · have hkm2 := hkm hk
    have hln : ∀ o o' ty, (Builtin.len_ #[108] ty #[.map (some (M i))]).run Tryz.prog ((w.alloc o).alloc o') = .ok (.int .i64 (T.kids p).length) ((w.alloc o).alloc o') := fun o o' ty => by
      have h3 : MapIs ((w.alloc o).alloc o') (M i) (entries A (T.kids p)) := (hkm2.kept (World.grownBy_alloc w o none) (by simp)).kept (World.grownBy_alloc _ o' none) (by simp)
      have h4 := h3.len under_kids ty
      rw [h4]
      simp [entries]
    rw [kidsV, if_pos hk] at c11
    rw [hk] at c0 ⊢
    rw [if_neg (by decide), if_pos rfl]
    clear hkm hkm2 hk hts
    generalize (T.nd i).data.length = n at *
    generalize (T.nd i).target = tg at *
    generalize (T.kids p).length = kn at *
    generalize (T.nd i).mt = m at *
    obtain ⟨m1, m2, m3, m4, m5⟩ := m
    generalize (T.nd i).links = lk at *
    dsimp only at *
    go_enter Tryz.func45, Tryz.ntmps45
    go_wp2
    refine bodyPost_ret (results_cell_row rfl _ _ w.heap.size _ _ _ _ rfl (hblk.out _ _ _) Tryz.underlying42 rfl (by kernel_rfl)) rfl ?_
    exact ⟨rfl, hB.out _ _⟩
  · rw [hk] at c0 ⊢
    rw [if_neg (by decide), if_neg (by decide)]
    clear hkm hk
    generalize (T.nd i).target = tg at *
    generalize (T.nd i).mt = m at *
    obtain ⟨m1, m2, m3, m4, m5⟩ := m
    generalize (T.nd i).links = lk at *
    dsimp only at *
    go_enter Tryz.func45, Tryz.ntmps45
    go_wp2
    refine bodyPost_ret (results_cell_row rfl _ _ w.heap.size _ _ _ _ rfl (hblk.out _ _ _) Tryz.underlying42 rfl (by kernel_rfl)) rfl ?_
    exact ⟨rfl, hB.out _ _⟩

end Go.Proofs.YtocbjhhnginebaaGreat

namespace Go.Proofs.YtocbjhhnginebaaGreat
open Go.RowKit

theorem byteCells_ints (l : Bytes) : byteCells l = (l.map fun b => (b.toNat : Int)).map (Value.int .u8) := by simp [byteCells]

/-- v reads as the bytes l. -/
def RdB (W : World) (v : Value) (l : Bytes) : Prop :=
  ∃ A c, v = .slice A l.length c ∧ l.length ≤ c ∧ c ≤ maxLen ∧ ∀ j (h : j < l.length), ∃ g o, A = some ⟨g, o, none⟩ ∧ W.cell? ⟨g, o + j, none⟩ = some (.int .u8 (l[j]).toNat)

theorem Byts.rdb {B : Nat} {W : World} {v : Value} {l : Bytes} (h : Byts B W v l) : RdB W v l := by
  rcases h.own with ⟨h1, ⟨rfl, h2⟩ | ⟨g, cap, cur, rfl, h2, h3, h4, h5, h6, h7⟩⟩
  · exact ⟨none, 0, by rw [h2], by omega, by unfold maxLen; omega, fun j hj => by omega⟩
  · refine ⟨_, cap, rfl, h4, h5, fun j hj => ⟨g, 0, rfl, ?_⟩⟩
    rw [Nat.zero_add]
    refine cell_of h3 ?_
    have hget : cur[j]? = (byteCells l)[j]? := by rw [← h7, List.getElem?_take_of_lt (by omega), Array.getElem?_toList]
    rw [hget]
    simp [byteCells, hj]

theorem Dat.rdb {W : World} {v : Value} {l : Bytes} (h : Dat W v l) : RdB W v l := by
  rcases h with ⟨⟨A, c, rfl, hc⟩, rfl⟩ | ⟨g, c, cur, rfl, h2, h3, h4, h5, h6⟩
  · exact ⟨A, c, rfl, Nat.zero_le _, hc, fun j hj => by simp at hj⟩
  · refine ⟨_, c, rfl, h3, h4, fun j hj => ⟨g, 0, rfl, ?_⟩⟩
    rw [Nat.zero_add]
    refine cell_of h2 ?_
    have hget : cur[j]? = (byteCells l)[j]? := by rw [← h6, List.getElem?_take_of_lt (by omega), Array.getElem?_toList]
    rw [hget]
    simp [byteCells, hj]

theorem RdB.below {W W' : World} {v : Value} {l : Bytes} (h : RdB W v l) (hb : Below W.heap.size W W') : RdB W' v l := by
  obtain ⟨A, c, h1, h2, h3, h4⟩ := h
  refine ⟨A, c, h1, h2, h3, fun j hj => ?_⟩
  obtain ⟨g, o, e, hc⟩ := h4 j hj
  refine ⟨g, o, e, ?_⟩
  have hlt : g < W.heap.size := by
    rcases Nat.lt_or_ge g W.heap.size with h | h
    · exact h
    · simp [World.cell?, Array.getElem?_eq_none h] at hc
  simpa [World.cell?, hb.block g hlt] using hc

theorem bclone_rd (v : Value) (l : Bytes) (w : World) (hv : RdB w v l) (hl : l.length ≤ 140737488355328) :
    Calls Tryz.prog 71 #[v] w fun e w' => (∃ v', e = .returned v' ∧ Byts w.heap.size w' v' l) ∧ Below w.heap.size w w' := by
  obtain ⟨A, c, rfl, h2, h3, h4⟩ := hv
  cases A with
  | none =>
    have hnil : l = [] := by
      cases l with
      | nil => rfl
      | cons x xs => obtain ⟨g, o, h, _⟩ := h4 0 (by simp); cases h
    refine (sh_bytes_Clone_nil l.length c w).mono ?_
    rintro e w' ⟨rfl, rfl⟩
    subst hnil
    exact ⟨⟨_, rfl, World.ownsRow_nil _ _ _ _⟩, Below.refl _ _⟩
  | some a =>
    have hc : ∀ i, i < l.length → w.cell? (a.add i) = some (.int .u8 ((l.map fun b => (b.toNat : Int)).getD i 0)) := by
      intro i hi
      obtain ⟨g, o, e, hcc⟩ := h4 i hi
      cases e
      have e1 : (⟨g, o, none⟩ : Addr).add i = ⟨g, o + i, none⟩ := by
        unfold Addr.add
        split
        · rename_i h0; rw [h0]; simp
        · simp
      rw [e1, hcc]
      simp [hi]
    refine (sh_bytes_Clone_at a l.length c (l.map fun b => (b.toNat : Int)) w (by simp) hl hc).mono ?_
    rintro e w' ⟨v', rfl, hO, _, hB⟩
    rw [← byteCells_ints] at hO
    exact ⟨⟨v', rfl, hO⟩, hB⟩

theorem below_set {b : Nat} {a w : World} {k : Nat} {u : Value} (h : Below b a w) : Below b a (w.setCell ⟨b, k, none⟩ u) := h.setCell (Nat.le_refl b) u

theorem Byts.low {B C : Nat} {w : World} {v : Value} {l : Bytes} (h : Byts B w v l) (hle : C ≤ B) : Byts C w v l := own_low h hle

set_option maxHeartbeats 1000000 in
set_option maxRecDepth 100000 in
theorem stat_calls (tb : Nat) (A M : Nat → Nat) (T : Fs) (s : ByteArray) (w : World) (hR : Rep w tb A M T) (hs : s.size ≤ 16777216) :
    Calls Tryz.prog 16 #[ptr tb, .string s] w fun e w' => e = .returned (.tuple #[statV (T.stat (bl s)).1, .int .i64 (T.stat (bl s)).2]) ∧ Below w.heap.size w w' := by
  have h1 := fun W hW => there_calls tb A M T s W hW hs
  have hok := hR.inv.there_ok (s := bl s)
  unfold Fs.stat
  generalize hth : T.there (bl s) = r at *
  obtain ⟨n, d, e⟩ := r
  dsimp only at *
  have hB0 : ∀ o, Below w.heap.size w (w.alloc o) := fun o => (Below.refl _ _).alloc (Nat.le_refl _) _
  unfold ptr at h1 ⊢
  replace h1 := Lib.hid h1
  replace hR := Lib.hid hR
  replace hth := Lib.hid hth
  have hsz : ∀ o, (w.alloc o).heap.size = w.heap.size + 1 := by simp
  replace hsz := Lib.hid hsz
  by_cases he : e = 0
  · subst he
    obtain ⟨_, i, rfl, hm, _⟩ := hok rfl
    clear hok
    rw [if_pos rfl]
    dsimp only
    have h2 := fun W hW => tell_calls tb A M T (split (bl s)) i W hW hm
    generalize T.tell (split (bl s)) i = st at *
    unfold ptr at h2
    replace h2 := Lib.hid h2
    obtain ⟨k1, k2, k3, k4, ⟨k5, k6, k7, k8, k9⟩, k10⟩ := st
    unfold statV statCells at *
    dsimp only at *
    go_enter Tryz.func16, Tryz.ntmps16
    go_wp2_with fail
    refine (h1.out _ (hR.out.below (hB0 _))).mono ?_
    rintro e w1 ⟨rfl, hB1⟩
    rw [optPtr_some]
    go_wp2_with fail
    refine (h2.out w1 ((hR.out.below (hB0 _)).below hB1)).mono ?_
    rintro e w2 ⟨rfl, hB2⟩
    have hB12 := below_step hB1 hB2
    have hblk := (hB12.block w.heap.size (by rw [hsz.out]; omega)).trans (MapKept.heap_alloc w _).1
    have hBf := below_step (hB0 _) hB12
    have hsz2 := hB12.size
    rw [hsz.out] at hsz2
    clear hB0 hB1 hB12
    generalize hw2 : w2 = w3 at *
    clear hw2
    have hf : ∀ k, w3.frozen? ⟨w.heap.size, k, none⟩ = false := fun k => by simp [World.frozen?, hblk]
    have d0 := cell_of (j := 0) hblk rfl
    have d1 := cell_of (j := 1) hblk rfl
    have d2 := cell_of (j := 2) hblk rfl
    have d3 := cell_of (j := 3) hblk rfl
    have d4 := cell_of (j := 4) hblk rfl
    have d5 := cell_of (j := 5) hblk rfl
    have d6 := cell_of (j := 6) hblk rfl
    have d7 := cell_of (j := 7) hblk rfl
    have d8 := cell_of (j := 8) hblk rfl
    have d9 := cell_of (j := 9) hblk rfl
    replace hblk := Lib.hid hblk
    go_wp2
    refine bodyPost_ret (v := .tuple #[.agg #[.int .i64 k1, .int .i64 k2, .int .i64 k3, .int .i64 k4, .int .i64 k5, .int .i64 k6, .int .i64 k7, .int .i64 k8, .int .i64 k9, .string (mkS k10)], .int .i64 0]) ?_ rfl ⟨rfl, ?_⟩
    · rw [results_cell_tmp rfl]
      go_simp
    · iterate 10 refine below_set ?_
      exact hBf
  · have he2 : (e != 0) = true := by simpa using he
    rw [if_neg he]
    clear hok he
    unfold statV statCells noSt noMt
    dsimp only
    go_enter Tryz.func16, Tryz.ntmps16
    go_wp2_with fail
    refine (h1.out _ (hR.out.below (hB0 _))).mono ?_
    rintro e w1 ⟨rfl, hB1⟩
    have hblk := (hB1.block w.heap.size (by rw [hsz.out]; omega)).trans (MapKept.heap_alloc w _).1
    have hBf := below_step (hB0 _) hB1
    have hsz2 := hB1.size
    rw [hsz.out] at hsz2
    clear hB0 hB1
    have hf : ∀ k, w1.frozen? ⟨w.heap.size, k, none⟩ = false := fun k => by simp [World.frozen?, hblk]
    have d0 := cell_of (j := 0) hblk rfl
    have d1 := cell_of (j := 1) hblk rfl
    have d2 := cell_of (j := 2) hblk rfl
    have d3 := cell_of (j := 3) hblk rfl
    have d4 := cell_of (j := 4) hblk rfl
    have d5 := cell_of (j := 5) hblk rfl
    have d6 := cell_of (j := 6) hblk rfl
    have d7 := cell_of (j := 7) hblk rfl
    have d8 := cell_of (j := 8) hblk rfl
    have d9 := cell_of (j := 9) hblk rfl
    replace hblk := Lib.hid hblk
    go_wp2
    refine bodyPost_ret (v := .tuple #[.agg #[.int .i64 0, .int .i64 0, .int .i64 0, .int .i64 0, .int .i64 0, .int .i64 0, .int .i64 0, .int .i64 0, .int .i64 0, .string (mkS [])], .int .i64 e]) ?_ rfl ⟨rfl, ?_⟩
    · rw [results_cell_tmp rfl]
      go_simp
      rfl
    · iterate 10 refine below_set ?_
      exact hBf

end Go.Proofs.YtocbjhhnginebaaGreat

namespace Go.Proofs.YtocbjhhnginebaaGreat
open Go.RowKit

theorem rep_data {w : World} {tb : Nat} {A M : Nat → Nat} {T : Fs} (h : Rep w tb A M T) {i : Nat} (hi : T.Live i) :
    ∃ dv, Dat w dv (T.nd i).data ∧ w.cell? ⟨A i, 10, none⟩ = some dv ∧ (T.nd i).data.length ≤ 65536 := by
  obtain ⟨p, hp⟩ := hi
  obtain ⟨dv, h1, h2⟩ := h.node i ⟨p, hp⟩
  exact ⟨dv, h1, cell_of h2 rfl, h.inv.data p i hp⟩

set_option maxHeartbeats 1000000 in
set_option maxRecDepth 100000 in
theorem read_calls (tb : Nat) (A M : Nat → Nat) (T : Fs) (s : ByteArray) (w : World) (hR : Rep w tb A M T) (hs : s.size ≤ 16777216) :
    Calls Tryz.prog 110 #[ptr tb, .string s] w fun e w' => (∃ v, e = .returned (.tuple #[v, .int .i64 (T.read (bl s)).2]) ∧ Byts w.heap.size w' v (T.read (bl s)).1) ∧ Below w.heap.size w w' := by
  have h1 := fun W hW => there_calls tb A M T s W hW hs
  have hok := hR.inv.there_ok (s := bl s)
  unfold Fs.read Fs.file
  generalize hth : T.there (bl s) = r at *
  obtain ⟨n, d, e⟩ := r
  dsimp only at *
  unfold ptr at h1 ⊢
  replace h1 := Lib.hid h1
  replace hR := Lib.hid hR
  replace hth := Lib.hid hth
  by_cases he : e = 0
  · subst he
    obtain ⟨_, i, rfl, hm, _⟩ := hok rfl
    clear hok
    rw [if_pos rfl]
    dsimp only
    have hl : T.Live i := ⟨_, hm⟩
    have h2 := fun W hW => file_calls tb A M T i W hW hl
    unfold ptr at h2
    by_cases hz : notFile (T.nd i) = 0
    · rw [hz] at h2
      rw [if_pos hz]
      dsimp only
      clear hz
      replace h2 := Lib.hid h2
      go_enter Tryz.func110, Tryz.ntmps110
      go_wp2_with fail
      refine (h1.out _ hR.out).mono ?_
      rintro e w1 ⟨rfl, hB1⟩
      rw [optPtr_some]
      have hR1 := hR.out.below hB1
      go_wp2_with fail
      refine (h2.out _ hR1).mono ?_
      rintro e w2 ⟨rfl, rfl⟩
      obtain ⟨dv, hD, c10, hdl⟩ := rep_data hR1 hl
      have h3 := bclone_rd dv (T.nd i).data w1 hD.rdb (by omega)
      replace h3 := Lib.hid h3
      replace hR1 := Lib.hid hR1
      replace hD := Lib.hid hD
      replace hdl := Lib.hid hdl
      go_wp2_with fail
      refine h3.out.mono ?_
      rintro e w2 ⟨⟨v, rfl, hO⟩, hB2⟩
      go_wp2
      go_ret2
      exact ⟨⟨v, rfl, hO.low hB1.size⟩, below_step hB1 hB2⟩
    · rw [if_neg hz]
      generalize notFile (T.nd i) = nf at *
      have hz2 : (nf != 0) = true := by simpa using hz
      clear hz
      replace h2 := Lib.hid h2
      go_enter Tryz.func110, Tryz.ntmps110
      go_wp2_with fail
      refine (h1.out _ hR.out).mono ?_
      rintro e w1 ⟨rfl, hB1⟩
      rw [optPtr_some]
      have hR1 := hR.out.below hB1
      go_wp2_with fail
      refine (h2.out _ hR1).mono ?_
      rintro e w2 ⟨rfl, rfl⟩
      replace hR1 := Lib.hid hR1
      go_wp2
      go_ret2
      exact ⟨⟨_, rfl, World.ownsRow_nil _ _ _ _⟩, hB1⟩
  · have he2 : (e == 0) = false := by simpa using he
    have he3 : (e != 0) = true := by simpa using he
    simp only [he, if_false]
    clear hok he
    go_enter Tryz.func110, Tryz.ntmps110
    go_wp2_with fail
    refine (h1.out _ hR.out).mono ?_
    rintro e w1 ⟨rfl, hB1⟩
    go_wp2
    go_ret2
    exact ⟨⟨_, rfl, World.ownsRow_nil _ _ _ _⟩, hB1⟩

end Go.Proofs.YtocbjhhnginebaaGreat

namespace Go.Proofs.YtocbjhhnginebaaGreat
open Go.RowKit

theorem lexB_antisymm : ∀ {x y : Bytes}, x ≤ y → y ≤ x → x = y := fun h k => List.le_antisymm h k
theorem lexB_total (x y : Bytes) : x ≤ y ∨ y ≤ x := List.le_total x y
theorem lexB_trans {x y z : Bytes} (h : x ≤ y) (k : y ≤ z) : x ≤ z := List.le_trans h k

theorem sortB_perm (l : List Bytes) : (sortB l).Perm l := List.mergeSort_perm _ _
theorem sortB_sorted (l : List Bytes) : (sortB l).Pairwise (· ≤ ·) := by
  have := List.pairwise_mergeSort (le := fun a b : Bytes => decide (a ≤ b)) (fun a b c => by simpa using fun h k => lexB_trans h k) (fun a b => by simpa using lexB_total a b) l
  exact this.imp (by simp)

theorem risingB_unique : ∀ {l1 l2 : List Bytes}, l1.Perm l2 → l1.Pairwise (· ≤ ·) → l2.Pairwise (· ≤ ·) → l1 = l2
  | [], l2, h, _, _ => by simpa using h.symm.eq_nil.symm
  | a :: l1, [], h, _, _ => by simpa using h.eq_nil
  | a :: l1, b :: l2, h, h1, h2 => by
    obtain ⟨ha, h1'⟩ := List.pairwise_cons.1 h1
    obtain ⟨hb, h2'⟩ := List.pairwise_cons.1 h2
    have e : a = b := by
      have m1 : a ∈ b :: l2 := h.mem_iff.1 (List.mem_cons_self ..)
      have m2 : b ∈ a :: l1 := h.mem_iff.2 (List.mem_cons_self ..)
      rcases List.mem_cons.1 m1 with e | m1
      · exact e
      · rcases List.mem_cons.1 m2 with e | m2
        · exact e.symm
        · exact lexB_antisymm (ha b m2) (hb a m1)
    subst e
    rw [risingB_unique ((List.perm_cons a).1 h) h1' h2']

theorem sortB_of_perm {l l' : List Bytes} (h : l.Perm l') : sortB l = sortB l' := risingB_unique ((sortB_perm l).trans (h.trans (sortB_perm l').symm)) (sortB_sorted l) (sortB_sorted l')

/-- sort.Strings over a row of its own block. -/
theorem sortStrings_calls (g c : Nat) (l : List Bytes) (pad : List Value) (w : World) (hh : w.heap[g]? = some (.cells (strs l ++ pad).toArray 9 (0, 0))) (hl : l.length < 4611686018427387904) :
    Calls Tryz.prog 127 #[.slice (some ⟨g, 0, none⟩) l.length c] w fun e w' => e = .returned (.tuple #[]) ∧ Row w w' g (sortB l) pad := by
  have hlt : g < w.heap.size := (Array.getElem?_eq_some_iff.1 hh).1
  have hH : Sort.Holds encStr w g 0 l.toArray := by
    intro j hj
    have hj' : j < l.length := by simpa using hj
    refine ⟨?_, by simp [World.frozen?, hh]⟩
    rw [Nat.zero_add]
    refine cell_of hh ?_
    simp only [List.getElem?_toArray]
    rw [List.getElem?_append_left (by simpa [strs] using hj')]
    simp [strs, mkS, hj']
  refine (sh_sort_Strings g 0 c l w hH hlt hl).mono ?_
  rintro e w' ⟨rfl, n, os, rfl⟩
  refine ⟨rfl, hlt, ?_, ?_⟩
  · rw [Sort.heap_grow_old _ _ (by simpa [Sort.putRow, Sort.mapBlock, Sort.ahead] using hlt)]
    simp only [Sort.putRow, Sort.mapBlock, Sort.ahead, Array.getElem?_modify, if_true, hh, Option.map_some, Sort.onCells]
    congr 2
    have hsl : (sortB l).length = l.length := (sortB_perm l).length_eq
    apply Array.ext_getElem?
    intro k
    simp only [Sort.putCells, Array.getElem?_mapIdx, List.getElem?_toArray, List.size_toArray]
    have e0 : (l.mergeSort fun x y => decide (x ≤ y)) = sortB l := rfl
    rw [e0]
    by_cases hk : k < l.length
    · rw [List.getElem?_append_left (by simpa [strs] using hk), List.getElem?_append_left (by simpa [strs, hsl] using hk)]
      simp [strs, hk, hsl, mkS]
    · rw [List.getElem?_append_right (by simpa [strs] using hk), List.getElem?_append_right (by simpa [strs, hsl] using hk)]
      simp only [strs, List.length_map, hsl]
      cases pad[k - l.length]? with
      | none => rfl
      | some x =>
        simp only [Option.map_some, Option.some.injEq]
        rw [if_neg (by omega)]
  · refine ⟨rfl, rfl, rfl, by simp [Sort.putRow, Sort.mapBlock, Sort.ahead], fun i hi hne => ?_⟩
    rw [Sort.heap_grow_old _ _ (by simpa [Sort.putRow, Sort.mapBlock, Sort.ahead] using hi)]
    simp only [Sort.putRow, Sort.mapBlock, Sort.ahead, Array.getElem?_modify]
    rw [if_neg (fun e => hne (by rw [e]))]

end Go.Proofs.YtocbjhhnginebaaGreat

namespace Go.Proofs.YtocbjhhnginebaaGreat
open Go.RowKit

theorem kids_few (T : Fs) (p : Pt) : (T.kids p).length ≤ T.names.length := List.length_filterMap_le _ _

theorem entries_pick {A : Nat → Nat} {L : List (Bytes × Nat)} {left left' : List (Value × Value)} {x v : Value} (h : left.Perm (entries A L)) (k : left.Perm ((x, v) :: left')) :
    ∃ y j L', L.Perm ((y, j) :: L') ∧ x = .string (mkS y) ∧ v = ptr (A j) ∧ left'.Perm (entries A L') := by
  have hm : (x, v) ∈ entries A L := (k.symm.trans h).mem_iff.1 (List.mem_cons_self ..)
  obtain ⟨⟨y, j⟩, hy, he⟩ := List.mem_map.1 hm
  simp only [Prod.mk.injEq] at he
  obtain ⟨s, t, rfl⟩ := List.append_of_mem hy
  refine ⟨y, j, s ++ t, List.perm_middle, he.1.symm, he.2.symm, ?_⟩
  have h1 : (entries A (s ++ (y, j) :: t)).Perm ((x, v) :: entries A (s ++ t)) := by
    have : entries A (s ++ (y, j) :: t) = entries A s ++ (x, v) :: entries A t := by simp [entries, he.1, he.2]
    rw [this]
    refine List.perm_middle.trans ?_
    simp [entries]
  exact (List.perm_cons _).1 (k.symm.trans (h.trans h1))

theorem row_of_own {w : World} {base g n c : Nat} {l : List Bytes} (h : w.ownsRow base 9 1 (.slice (some ⟨g, 0, none⟩) n c) n (strs l)) :
    ∃ pad, w.heap[g]? = some (.cells (strs l ++ pad).toArray 9 (0, 0)) ∧ l.length = n ∧ n + pad.length = c ∧ c ≤ maxLen ∧ base ≤ g := by
  obtain ⟨h1, ⟨e, _⟩ | ⟨g', cap, cur, e, h2, h3, h4, h5, h6, h7⟩⟩ := h
  · cases e
  · simp only [Value.slice.injEq, Option.some.injEq, Addr.mk.injEq, and_true, true_and] at e
    obtain ⟨rfl, rfl⟩ := e
    have hl : l.length = n := by simpa [strs] using h1
    refine ⟨cur.toList.drop n, ?_, hl, ?_, h5, h2⟩
    · rw [h3, ← h7, Nat.mul_one, List.take_append_drop]
    · simp [h6]
      omega

theorem entries_nil {A : Nat → Nat} {L : List (Bytes × Nat)} (h : ([] : List (Value × Value)).Perm (entries A L)) : L = [] := by
  have := h.symm.eq_nil
  simpa [entries] using this

set_option maxHeartbeats 2000000 in
set_option maxRecDepth 100000 in
theorem names_calls (tb : Nat) (A M : Nat → Nat) (T : Fs) (p : Pt) (i : Nat) (w : World) (hR : Rep w tb A M T) (hp : (p, i) ∈ T.names) (h2 : (T.nd i).kind = 2) (hf : T.names.length ≤ 1000000) :
    Calls Tryz.prog 87 #[ptr (A i)] w fun e w' => (∃ v, e = .returned v ∧ Strs w.heap.size w' v (sortB ((T.kids p).map (·.1)))) ∧ Below w.heap.size w w' := by
  have hM := hR.kids p i hp h2
  have hKl := Nat.le_trans (kids_few T p) hf
  obtain ⟨dv, _, hnode⟩ := hR.node i ⟨p, hp⟩
  have c11 : w.cell? ⟨A i, 11, none⟩ = some (kidsV (T.nd i) (M i)) := cell_of hnode rfl
  rw [kidsV, if_pos h2] at c11
  have hAlt : A i < w.heap.size := hR.lt (Or.inr (Or.inl ⟨i, ⟨p, hp⟩, rfl⟩))
  have hMlt := hM.lt
  have hlen : ∀ ty, (Builtin.len_ #[108] ty #[.map (some (M i))]).run Tryz.prog w = .ok (.int .i64 (T.kids p).length) w := fun ty => by
    rw [hM.len under_kids ty]
    simp [entries]
  clear hR hnode
  generalize T.kids p = K at *
  obtain ⟨i0, hi, hzz⟩ := Option.map_eq_some_iff.1 info_string
  simp only [Prod.mk.injEq] at hzz
  obtain ⟨hz0, hz1, hz2⟩ := hzz
  replace hM := Lib.hid hM
  replace hi := Lib.hid hi
  replace hz0 := Lib.hid hz0
  replace hz1 := Lib.hid hz1
  replace hz2 := Lib.hid hz2
  unfold ptr
  go_enter Tryz.func87, Tryz.ntmps87
  go_wp2_with (at_make; refine wpList_make_own _ rfl _ _ 36 rfl w.heap.size 9 i0 (.string ⟨#[]⟩) 1 Tryz.underlying36 hi.out hz0.out hz1.out .i64 .i64 _ K.length rfl rfl rfl (by rw [hz2.out]; omega) (by unfold maxLen; omega) (Nat.le_refl _) ?_)
  intro w0 hO0 hg0
  have c11' : w0.cell? ⟨A i, 11, none⟩ = some (.map (some (M i))) := by
    have := hg0.block (A i) hAlt (by simp)
    simpa [World.cell?, this] using c11
  have hM0 : MapIs w0 (M i) (entries A K) := hM.out.kept hg0 (by simp)
  have hO0lt := hO0.lt w.heap.size rfl
  replace hM0 := Lib.hid hM0
  try go_frame
  go_wp2_with (at_range; refine wp_range _ rfl _ 108 rfl 9 85 under_kids (M i) _ rfl hM0.out ?_)
  intro w1 hrg1 hg1 hs1
  have hO1 : w1.ownsRow w.heap.size 9 1 (.slice (some ⟨w.heap.size, 0, none⟩) 0 K.length) 0 [] := own_kept hO0 hg1 (fun b hb => by simp)
  have hB1 : Below w.heap.size w w1 := ⟨hg1.os.trans hg0.os, hg1.tape.trans hg0.tape, hg1.output.trans hg0.output, Nat.le_trans hg0.size hg1.size, fun k hk => (hg1.block k (Nat.lt_of_lt_of_le hk hg0.size) (by simp)).trans (hg0.block k hk (by simp))⟩
  generalize w0.heap.size = r at *
  go_wp2
  try go_frame
  go_loopw [3, 4] (fun v x wr => ∃ (done leftK : List (Bytes × Nat)) (left : List (Value × Value)), v = .slice (some ⟨w.heap.size, 0, none⟩) done.length K.length ∧ wr.ownsRow w.heap.size 9 1 v done.length (strs (done.map (·.1))) ∧ Ranges wr (M i) r (entries A K) left ∧ left.Perm (entries A leftK) ∧ K.Perm (done ++ leftK) ∧ Below w.heap.size w wr) (fun _ _ wr => wr.rangeLeft (M i) r)
  case atStart => exact ⟨[], K, _, rfl, hO1, hrg1, .refl _, .refl _, hB1⟩
  case round =>
    clear hO1 hB1 hrg1 hg1 hs1 hM0 c11' hO0 hg0 hlen c11
    obtain ⟨done, leftK, left, rfl, hO, hrg, hL, hK, hB⟩ := hrel
    replace hK := Lib.hid hK
    replace hL := Lib.hid hL
    go_wp2_with (at_next; refine wp_next _ rfl _ rfl (M i) r _ _ rfl hrg ?_ ?_)
    · intro hl0
      have hLK : leftK = [] := entries_nil (A := A) (by have := hL.out; rwa [hl0] at this)
      have hKd : ((done.map (·.1)) : List Bytes).Perm (K.map (·.1)) := by
        have := hK.out
        rw [hLK, List.append_nil] at this
        exact (this.map (·.1)).symm
      obtain ⟨pad, hblk, hdl, hpl, hcm, _⟩ := row_of_own hO
      have hcall := sortStrings_calls w.heap.size K.length (done.map (·.1)) pad wr hblk (by have := hKd.length_eq; simp at this ⊢; omega)
      rw [List.length_map] at hcall
      replace hcall := Lib.hid hcall
      replace hKd := Lib.hid hKd
      replace hblk := Lib.hid hblk
      replace hdl := Lib.hid hdl
      replace hpl := Lib.hid hpl
      clear hK hL hrg hO hl0 hLK
      go_wp2_with fail
      refine hcall.out.mono ?_
      rintro e w2 ⟨rfl, hR2⟩
      have hB2 : Below w.heap.size w w2 := hB.grown hR2.kept hB.size (fun b hb => by cases hb; exact Nat.le_refl _)
      have hO2 : Strs w.heap.size w2 (.slice (some ⟨w.heap.size, 0, none⟩) done.length K.length) (sortB (K.map (·.1))) := by
        have hs := sortB_of_perm hKd.out
        have hl2 : (sortB (done.map (·.1))).length = done.length := by rw [(sortB_perm _).length_eq, List.length_map]
        have := Strs.of_block (B := w.heap.size) (c := K.length) (Nat.le_refl _) hR2.h (by rw [hl2]; have := hpl.out; omega) hcm (by rw [hl2]; exact hpl.out)
        rw [hl2, hs] at this
        exact this
      clear hcall hR2 hB
      go_wp2
      go_ret
      exact ⟨⟨_, rfl, hO2⟩, hB2⟩
    · intro x v left' w2 hp2 hmem hrg2 hg2 hs2 hen
      obtain ⟨y, j, L', hL1, rfl, rfl, hL2⟩ := entries_pick hL.out hp2
      have hK2 : K.Perm ((done ++ [(y, j)]) ++ L') := hK.out.trans (by simpa using hL1.append_left done)
      have hdl : done.length + 1 ≤ K.length := by have := hK2.length_eq; simp at this; omega
      have hO2 : w2.ownsRow w.heap.size 9 1 (.slice (some ⟨w.heap.size, 0, none⟩) done.length K.length) done.length (strs (done.map (·.1))) := own_kept hO hg2 (fun b hb e => by simp [Value.ownBlock] at hb; simp at e; omega)
      have hB2 : Below w.heap.size w w2 := hB.grown hg2 hB.size (fun b hb => by cases hb; omega)
      have hmeas : wr.rangeLeft (M i) r = left.length := hrg.left_eq
      have hlt : left'.length < left.length := by have := hp2.length_eq; simp at this; omega
      replace hK2 := Lib.hid hK2
      replace hL2 := Lib.hid hL2
      replace hmeas := Lib.hid hmeas
      clear hK hL hL1 hp2 hmem hrg hO hB hg2 hs2
      have hOa : ∀ o, (w2.alloc o).ownsRow w.heap.size 9 1 (.slice (some ⟨w.heap.size, 0, none⟩) done.length K.length) done.length (strs (done.map (·.1))) := fun o => hO2.alloc o
      replace hOa := Lib.hid hOa
      unfold ptr at hen
      go_wp2_with (at_builtin; refine wpList_append_fits _ rfl _ _ 36 rfl w.heap.size 9 i0 1 Tryz.underlying36 hi.out hz1.out w.heap.size done.length K.length _ rfl (hOa.out _) ⟨w2.heap.size, 0, none⟩ 1 1 [.string (mkS y)] rfl rfl (cell_one_new _ _ _) (by intro u hu; simp at hu; subst hu; rfl) hdl ?_)
      intro w3 hO3 hg3
      have hrg3 : Ranges w3 (M i) r (entries A K) left' := (hrg2.kept (World.grownBy_alloc w2 _ none) (by simp) (by simp)).kept hg3 (by simp; omega) (by simp; omega)
      have hB3 : Below w.heap.size w w3 := (below_alloc hB2 _).grown hg3 (by have := hB2.size; simp; omega) (fun b hb => by cases hb; exact Nat.le_refl _)
      go_wp2
      go_roundw
      case rel => exact ⟨done ++ [(y, j)], L', left', by simp, by simpa [strs] using hO3, hrg3, hL2.out, hK2.out, hB3⟩
      case measure => rw [hrg3.left_eq, hmeas.out]; exact hlt

set_option maxHeartbeats 1000000 in
set_option maxRecDepth 100000 in
theorem list_calls (tb : Nat) (A M : Nat → Nat) (T : Fs) (s : ByteArray) (w : World) (hR : Rep w tb A M T) (hs : s.size ≤ 16777216) (hf : T.names.length ≤ 1000000) :
    Calls Tryz.prog 77 #[ptr tb, .string s] w fun e w' => (∃ v, e = .returned (.tuple #[v, .int .i64 (T.list (bl s)).2]) ∧ Strs w.heap.size w' v (T.list (bl s)).1) ∧ Below w.heap.size w w' := by
  have h1 := fun W hW => there_calls tb A M T s W hW hs
  have hok := hR.inv.there_ok (s := bl s)
  unfold Fs.list
  generalize hth : T.there (bl s) = r at *
  obtain ⟨n, d, e⟩ := r
  dsimp only at *
  unfold ptr at h1 ⊢
  replace h1 := Lib.hid h1
  replace hR := Lib.hid hR
  replace hth := Lib.hid hth
  by_cases he : e = 0
  · subst he
    obtain ⟨_, i, rfl, hm, _⟩ := hok rfl
    clear hok
    rw [if_pos rfl]
    dsimp only
    by_cases hk : (T.nd i).kind = 2
    · rw [if_pos hk]
      dsimp only
      have h2 := fun W hW => names_calls tb A M T _ i W hW hm hk hf
      unfold ptr at h2
      replace h2 := Lib.hid h2
      go_enter Tryz.func77, Tryz.ntmps77
      go_wp2_with fail
      refine (h1.out _ hR.out).mono ?_
      rintro e w1 ⟨rfl, hB1⟩
      rw [optPtr_some]
      have hR1 := hR.out.below hB1
      obtain ⟨dv, _, hnode⟩ := hR1.node i ⟨_, hm⟩
      have c0 : w1.cell? ⟨A i, 0, none⟩ = some (.int .i64 (T.nd i).kind) := cell_of hnode rfl
      rw [hk] at c0
      clear hnode hk
      replace hR1 := Lib.hid hR1
      go_wp2_with fail
      refine (h2.out _ hR1.out).mono ?_
      rintro e w2 ⟨⟨v, rfl, hO⟩, hB2⟩
      go_wp2
      go_ret2
      exact ⟨⟨v, rfl, own_low hO hB1.size⟩, below_step hB1 hB2⟩
    · rw [if_neg hk]
      dsimp only
      have hk2 : ((T.nd i).kind != 2) = true := by simpa using hk
      go_enter Tryz.func77, Tryz.ntmps77
      go_wp2_with fail
      refine (h1.out _ hR.out).mono ?_
      rintro e w1 ⟨rfl, hB1⟩
      rw [optPtr_some]
      have hR1 := hR.out.below hB1
      obtain ⟨dv, _, hnode⟩ := hR1.node i ⟨_, hm⟩
      have c0 : w1.cell? ⟨A i, 0, none⟩ = some (.int .i64 (T.nd i).kind) := cell_of hnode rfl
      clear hnode hk
      replace hR1 := Lib.hid hR1
      go_wp2
      go_ret2
      exact ⟨⟨_, rfl, World.ownsRow_nil _ _ _ _⟩, hB1⟩
  · have he2 : (e == 0) = false := by simpa using he
    have he3 : (e != 0) = true := by simpa using he
    simp only [he, if_false]
    clear hok he
    go_enter Tryz.func77, Tryz.ntmps77
    go_wp2_with fail
    refine (h1.out _ hR.out).mono ?_
    rintro e w1 ⟨rfl, hB1⟩
    go_wp2
    go_ret2
    exact ⟨⟨_, rfl, World.ownsRow_nil _ _ _ _⟩, hB1⟩

end Go.Proofs.YtocbjhhnginebaaGreat

namespace Go.Proofs.YtocbjhhnginebaaGreat

/-- A new thing. -/
def Fs.add (T : Fs) (p : Pt) (n : Nd) : Fs := ⟨T.names ++ [(p, T.next)], fun i => if i = T.next then n else T.nd i, T.next + 1⟩
/-- A thing's record. -/
def Fs.set (T : Fs) (i : Nat) (n : Nd) : Fs := ⟨T.names, fun j => if j = i then n else T.nd j, T.next⟩
/-- Another name of a thing. -/
def Fs.name (T : Fs) (p : Pt) (i : Nat) : Fs := ⟨T.names ++ [(p, i)], fun j => if j = i then { T.nd i with links := (T.nd i).links + 1 } else T.nd j, T.next⟩
/-- A name goes. -/
def Fs.gone (T : Fs) (p : Pt) (i : Nat) : Fs := ⟨T.names.filter (fun x => x.1 ≠ p), fun j => if j = i then { T.nd i with links := (T.nd i).links - 1 } else T.nd j, T.next⟩

theorem namesOf_append (l r : List (Pt × Nat)) (i : Nat) : namesOf (l ++ r) i = namesOf l i + namesOf r i := by simp [namesOf]
theorem namesOf_one (p : Pt) (j i : Nat) : namesOf [(p, j)] i = if j = i then 1 else 0 := by
  unfold namesOf
  by_cases h : j = i <;> simp [h]
theorem namesOf_zero {l : List (Pt × Nat)} {i : Nat} (h : ∀ p, (p, i) ∉ l) : namesOf l i = 0 := by
  unfold namesOf
  rw [List.length_eq_zero_iff, List.filter_eq_nil_iff]
  rintro ⟨q, j⟩ hx
  simp only [decide_eq_true_eq]
  rintro rfl
  exact h q hx

theorem Fs.Inv.next_fresh {T : Fs} (h : T.Inv) (p : Pt) : (p, T.next) ∉ T.names := fun hm => by have := h.lt _ _ hm; omega
theorem Fs.Inv.two {T : Fs} (h : T.Inv) : 2 ≤ T.next := by have := h.lt _ _ h.one; omega

/-- What may be a thing's record. -/
structure NdOk (n : Nd) : Prop where
  kind : n.kind = 1 ∨ n.kind = 2 ∨ n.kind = 3
  data : n.data.length ≤ 65536
  plain : (n.kind ≠ 1 → n.data = []) ∧ (n.kind ≠ 3 → n.target = []) ∧ n.target.length ≤ 200

theorem Fs.Inv.ok {T : Fs} (h : T.Inv) {p : Pt} {i : Nat} (hm : (p, i) ∈ T.names) : NdOk (T.nd i) := ⟨h.kinds p i hm, h.data p i hm, h.plain p i hm⟩

theorem nodup_snoc {l : List (Pt × Nat)} (h : (l.map (·.1)).Nodup) {p : Pt} {i : Nat} (hn : look1 l p = none) : ((l ++ [(p, i)]).map (·.1)).Nodup := by
  rw [List.map_append, List.map_singleton]
  refine List.nodup_append.2 ⟨h, by simp, ?_⟩
  intro a ha b hb
  simp only [List.mem_singleton] at hb
  subst hb
  rintro rfl
  obtain ⟨⟨q, j⟩, hx, hq⟩ := List.mem_map.1 ha
  simp only at hq
  subst hq
  exact look1_none.1 hn j hx

theorem add_inv {T : Fs} (h : T.Inv) {p : Pt} {d : Nat} {n : Nd} (hp : p ≠ []) (hP : Pth p) (hd : (p.dropLast, d) ∈ T.names) (hk : (T.nd d).kind = 2) (hn : T.at p = none) (h1 : n.links = 1) (hN : NdOk n) : (T.add p n).Inv := by
  have hfr := h.next_fresh
  have h2 := h.two
  have hmem : ∀ q i, (q, i) ∈ (T.add p n).names ↔ (q, i) ∈ T.names ∨ (q = p ∧ i = T.next) := fun q i => by simp [Fs.add]
  have hold : ∀ q i, (q, i) ∈ T.names → (T.add p n).nd i = T.nd i := fun q i hm => by
    unfold Fs.add
    dsimp only
    rw [if_neg (fun e : i = T.next => hfr q (e ▸ hm))]
  have hnew : (T.add p n).nd T.next = n := by simp [Fs.add]
  refine ⟨?_, nodup_snoc h.nodup hn, ?_, ?_, ?_, ?_, ?_, ?_, ?_, ?_, ?_⟩
  · obtain ⟨r, e⟩ := h.top
    exact ⟨r ++ [(p, T.next)], by simp [Fs.add, e]⟩
  · rw [hold _ _ h.one]; exact h.topKind
  · intro q i hm hq
    rcases (hmem q i).1 hm with hm | ⟨rfl, rfl⟩
    · obtain ⟨j, hj, hjk⟩ := h.up q i hm hq
      exact ⟨j, (hmem _ _).2 (Or.inl hj), by rw [hold _ _ hj]; exact hjk⟩
    · exact ⟨d, (hmem _ _).2 (Or.inl hd), by rw [hold _ _ hd]; exact hk⟩
  · intro q i hm
    rcases (hmem q i).1 hm with hm | ⟨rfl, rfl⟩
    · exact h.pth q i hm
    · exact hP
  · intro q i hm
    rcases (hmem q i).1 hm with hm | ⟨rfl, rfl⟩
    · rw [hold _ _ hm]; exact h.kinds q i hm
    · rw [hnew]; exact hN.kind
  · intro q i hm
    show 1 ≤ i ∧ i < T.next + 1
    rcases (hmem q i).1 hm with hm | ⟨rfl, rfl⟩
    · have := h.lt q i hm; omega
    · omega
  · intro q i hm
    have e : namesOf (T.add p n).names i = namesOf T.names i + if T.next = i then 1 else 0 := by
      show namesOf (T.names ++ [(p, T.next)]) i = _
      rw [namesOf_append, namesOf_one]
    rw [e]
    rcases (hmem q i).1 hm with hm | ⟨rfl, rfl⟩
    · rw [hold _ _ hm, h.links q i hm, if_neg (fun e : T.next = i => hfr q (e ▸ hm))]
      rfl
    · rw [hnew, h1, namesOf_zero hfr, if_pos rfl]
      rfl
  · intro q i hm hk1 r hr
    rcases (hmem q i).1 hm with hm1 | ⟨rfl, rfl⟩
    · rw [hold _ _ hm1] at hk1
      rcases (hmem r i).1 hr with hr | ⟨rfl, rfl⟩
      · exact h.single q i hm1 hk1 r hr
      · exact absurd hm1 (hfr q)
    · rcases (hmem r _).1 hr with hr | ⟨rfl, _⟩
      · exact absurd hr (hfr r)
      · rfl
  · intro q i hm
    rcases (hmem q i).1 hm with hm | ⟨rfl, rfl⟩
    · rw [hold _ _ hm]; exact h.data q i hm
    · rw [hnew]; exact hN.data
  · intro q i hm
    rcases (hmem q i).1 hm with hm | ⟨rfl, rfl⟩
    · rw [hold _ _ hm]; exact h.plain q i hm
    · rw [hnew]; exact hN.plain

theorem set_inv {T : Fs} (h : T.Inv) {i : Nat} {n : Nd} (hN : NdOk n) (hk : n.kind = (T.nd i).kind) (hl : n.links = (T.nd i).links) : (T.set i n).Inv := by
  have hkk : ∀ j, ((T.set i n).nd j).kind = (T.nd j).kind := fun j => by
    by_cases e : j = i
    · subst e; simp [Fs.set, hk]
    · simp [Fs.set, e]
  have hll : ∀ j, ((T.set i n).nd j).links = (T.nd j).links := fun j => by
    by_cases e : j = i
    · subst e; simp [Fs.set, hl]
    · simp [Fs.set, e]
  refine ⟨h.top, h.nodup, ?_, ?_, h.pth, ?_, h.lt, ?_, ?_, ?_, ?_⟩
  · rw [hkk]; exact h.topKind
  · intro p j hm hp
    obtain ⟨d, h1, h2⟩ := h.up p j hm hp
    exact ⟨d, h1, by rw [hkk]; exact h2⟩
  · intro p j hm; rw [hkk]; exact h.kinds p j hm
  · intro p j hm; rw [hll]; exact h.links p j hm
  · intro p j hm; rw [hkk]; exact h.single p j hm
  · intro p j hm
    by_cases e : j = i
    · subst e; simpa [Fs.set] using hN.data
    · simpa [Fs.set, e] using h.data p j hm
  · intro p j hm
    by_cases e : j = i
    · subst e; simpa [Fs.set] using hN.plain
    · simpa [Fs.set, e] using h.plain p j hm

theorem name_inv {T : Fs} (h : T.Inv) {p q : Pt} {d i : Nat} (hp : p ≠ []) (hP : Pth p) (hd : (p.dropLast, d) ∈ T.names) (hk : (T.nd d).kind = 2) (hn : T.at p = none) (hi : (q, i) ∈ T.names) (hf : (T.nd i).kind = 1) : (T.name p i).Inv := by
  have hmem : ∀ r j, (r, j) ∈ (T.name p i).names ↔ (r, j) ∈ T.names ∨ (r = p ∧ j = i) := fun r j => by simp [Fs.name]
  have hkk : ∀ j, ((T.name p i).nd j).kind = (T.nd j).kind := fun j => by
    by_cases e : j = i
    · subst e; simp [Fs.name]
    · simp [Fs.name, e]
  have hdd : ∀ j, ((T.name p i).nd j).data = (T.nd j).data := fun j => by
    by_cases e : j = i
    · subst e; simp [Fs.name]
    · simp [Fs.name, e]
  have htt : ∀ j, ((T.name p i).nd j).target = (T.nd j).target := fun j => by
    by_cases e : j = i
    · subst e; simp [Fs.name]
    · simp [Fs.name, e]
  have hlive : ∀ r j, (r, j) ∈ (T.name p i).names → ∃ s, (s, j) ∈ T.names := fun r j hm => by
    rcases (hmem r j).1 hm with hm | ⟨_, rfl⟩
    · exact ⟨r, hm⟩
    · exact ⟨q, hi⟩
  refine ⟨?_, nodup_snoc h.nodup hn, ?_, ?_, ?_, ?_, ?_, ?_, ?_, ?_, ?_⟩
  · obtain ⟨r, e⟩ := h.top
    exact ⟨r ++ [(p, i)], by simp [Fs.name, e]⟩
  · rw [hkk]; exact h.topKind
  · intro r j hm hr
    rcases (hmem r j).1 hm with hm | ⟨rfl, rfl⟩
    · obtain ⟨k, h1, h2⟩ := h.up r j hm hr
      exact ⟨k, (hmem _ _).2 (Or.inl h1), by rw [hkk]; exact h2⟩
    · exact ⟨d, (hmem _ _).2 (Or.inl hd), by rw [hkk]; exact hk⟩
  · intro r j hm
    rcases (hmem r j).1 hm with hm | ⟨rfl, rfl⟩
    · exact h.pth r j hm
    · exact hP
  · intro r j hm
    obtain ⟨s, hs⟩ := hlive r j hm
    rw [hkk]; exact h.kinds s j hs
  · intro r j hm
    obtain ⟨s, hs⟩ := hlive r j hm
    exact h.lt s j hs
  · intro r j hm
    obtain ⟨s, hs⟩ := hlive r j hm
    have e : namesOf (T.name p i).names j = namesOf T.names j + if i = j then 1 else 0 := by
      show namesOf (T.names ++ [(p, i)]) j = _
      rw [namesOf_append, namesOf_one]
    rw [e]
    by_cases ej : j = i
    · subst ej
      simp [Fs.name, h.links s j hs]
    · rw [if_neg (fun e => ej e.symm)]
      simp [Fs.name, ej, h.links s j hs]
  · intro r j hm hk1 s hs
    rw [hkk] at hk1
    rcases (hmem r j).1 hm with hm | ⟨rfl, rfl⟩
    · rcases (hmem s j).1 hs with hs | ⟨rfl, rfl⟩
      · exact h.single r j hm hk1 s hs
      · exact absurd hf hk1
    · exact absurd hf hk1
  · intro r j hm
    obtain ⟨s, hs⟩ := hlive r j hm
    rw [hdd]; exact h.data s j hs
  · intro r j hm
    obtain ⟨s, hs⟩ := hlive r j hm
    rw [hkk, hdd, htt]; exact h.plain s j hs

end Go.Proofs.YtocbjhhnginebaaGreat

namespace Go.Proofs.YtocbjhhnginebaaGreat

theorem split_at {l : List (Pt × Nat)} (h : (l.map (·.1)).Nodup) {p : Pt} {i : Nat} (hm : (p, i) ∈ l) :
    ∃ s t, l = s ++ (p, i) :: t ∧ l.filter (fun x => x.1 ≠ p) = s ++ t := by
  obtain ⟨s, t, rfl⟩ := List.append_of_mem hm
  refine ⟨s, t, rfl, ?_⟩
  rw [List.map_append, List.map_cons] at h
  have h1 := List.nodup_append.1 h
  obtain ⟨_, h2, h3⟩ := h1
  have h4 := (List.nodup_cons.1 h2).1
  rw [List.filter_append, List.filter_cons]
  simp only [ne_eq, not_true_eq_false, decide_false, Bool.false_eq_true, if_false]
  rw [List.filter_eq_self.2, List.filter_eq_self.2]
  · intro x hx
    simp only [decide_eq_true_eq]
    rintro rfl
    exact h4 (List.mem_map.2 ⟨x, hx, rfl⟩)
  · intro x hx
    simp only [decide_eq_true_eq]
    rintro rfl
    exact h3 _ (List.mem_map.2 ⟨x, hx, rfl⟩) _ (List.mem_cons_self ..) rfl

theorem namesOf_gone {l : List (Pt × Nat)} (h : (l.map (·.1)).Nodup) {p : Pt} {i : Nat} (hm : (p, i) ∈ l) (j : Nat) :
    namesOf l j = namesOf (l.filter (fun x => x.1 ≠ p)) j + if i = j then 1 else 0 := by
  obtain ⟨s, t, e1, e2⟩ := split_at h hm
  rw [e2, e1, namesOf_append, namesOf_append]
  have : namesOf ((p, i) :: t) j = (if i = j then 1 else 0) + namesOf t j := by
    rw [← namesOf_one p i j, ← namesOf_append]
    rfl
  rw [this]
  omega

theorem mem_gone {T : Fs} {p : Pt} {i : Nat} (q : Pt) (j : Nat) : (q, j) ∈ (T.gone p i).names ↔ (q, j) ∈ T.names ∧ q ≠ p := by simp [Fs.gone]

theorem gone_inv {T : Fs} (h : T.Inv) {p : Pt} {i : Nat} (hm : (p, i) ∈ T.names) (hp : p ≠ []) (hk : T.kids p = []) : (T.gone p i).Inv := by
  have hkk : ∀ j, ((T.gone p i).nd j).kind = (T.nd j).kind := fun j => by
    by_cases e : j = i
    · subst e; simp [Fs.gone]
    · simp [Fs.gone, e]
  have hdd : ∀ j, ((T.gone p i).nd j).data = (T.nd j).data := fun j => by
    by_cases e : j = i
    · subst e; simp [Fs.gone]
    · simp [Fs.gone, e]
  have htt : ∀ j, ((T.gone p i).nd j).target = (T.nd j).target := fun j => by
    by_cases e : j = i
    · subst e; simp [Fs.gone]
    · simp [Fs.gone, e]
  refine ⟨?_, ?_, ?_, ?_, ?_, ?_, ?_, ?_, ?_, ?_, ?_⟩
  · obtain ⟨r, e⟩ := h.top
    exact ⟨r.filter (fun x => x.1 ≠ p), by simp [Fs.gone, e, Ne.symm hp]⟩
  · exact (List.filter_sublist.map _).nodup h.nodup
  · rw [hkk]; exact h.topKind
  · intro q j hq hne
    obtain ⟨hq1, hq2⟩ := (mem_gone q j).1 hq
    obtain ⟨d, h1, h2⟩ := h.up q j hq1 hne
    refine ⟨d, (mem_gone _ _).2 ⟨h1, fun e => ?_⟩, by rw [hkk]; exact h2⟩
    have : (q.getLastD [], j) ∈ T.kids p := mem_kidsL.2 (by rw [← snoc_of hne e]; exact hq1)
    rw [hk] at this
    cases this
  · intro q j hq; exact h.pth q j ((mem_gone q j).1 hq).1
  · intro q j hq; rw [hkk]; exact h.kinds q j ((mem_gone q j).1 hq).1
  · intro q j hq; exact h.lt q j ((mem_gone q j).1 hq).1
  · intro q j hq
    have h1 := h.links q j ((mem_gone q j).1 hq).1
    have h2 := namesOf_gone h.nodup hm j
    show ((T.gone p i).nd j).links = namesOf (T.names.filter (fun x => x.1 ≠ p)) j
    by_cases e : j = i
    · subst e
      rw [if_pos rfl] at h2
      have : ((T.gone p j).nd j).links = (T.nd j).links - 1 := by simp [Fs.gone]
      rw [this, h1, h2]
      omega
    · rw [if_neg (fun e2 => e e2.symm)] at h2
      have : ((T.gone p i).nd j).links = (T.nd j).links := by simp [Fs.gone, e]
      rw [this, h1, h2]
      rfl
  · intro q j hq hk1 r hr
    rw [hkk] at hk1
    exact h.single q j ((mem_gone q j).1 hq).1 hk1 r ((mem_gone r j).1 hr).1
  · intro q j hq; rw [hdd]; exact h.data q j ((mem_gone q j).1 hq).1
  · intro q j hq; rw [hkk, hdd, htt]; exact h.plain q j ((mem_gone q j).1 hq).1

/-! ### what stands in a directory -/

theorem kidsL_append (l r : List (Pt × Nat)) (q : Pt) : kidsL (l ++ r) q = kidsL l q ++ kidsL r q := by simp [kidsL]
theorem kidsL_same (p : Pt) (i : Nat) (hp : p ≠ []) : kidsL [(p, i)] p.dropLast = [(p.getLastD [], i)] := by simp [kidsL, kidOf, hp]
theorem kidsL_other (p : Pt) (i : Nat) {q : Pt} (h : p.dropLast ≠ q) : kidsL [(p, i)] q = [] := by simp [kidsL, kidOf, h]

theorem kidsL_gone {l : List (Pt × Nat)} (h : (l.map (·.1)).Nodup) {p : Pt} {i : Nat} (hm : (p, i) ∈ l) (hp : p ≠ []) :
    (kidsL l p.dropLast).Perm ((p.getLastD [], i) :: kidsL (l.filter (fun x => x.1 ≠ p)) p.dropLast) := by
  obtain ⟨s, t, e1, e2⟩ := split_at h hm
  rw [e2, e1, kidsL_append, kidsL_append]
  have : kidsL ((p, i) :: t) p.dropLast = (p.getLastD [], i) :: kidsL t p.dropLast := by
    have := kidsL_append [(p, i)] t p.dropLast
    rw [kidsL_same p i hp] at this
    simpa using this
  rw [this]
  exact List.perm_middle

theorem kidsL_gone_other {l : List (Pt × Nat)} (h : (l.map (·.1)).Nodup) {p : Pt} {i : Nat} (hm : (p, i) ∈ l) {q : Pt} (hq : p.dropLast ≠ q) : kidsL (l.filter (fun x => x.1 ≠ p)) q = kidsL l q := by
  obtain ⟨s, t, e1, e2⟩ := split_at h hm
  rw [e2, e1, kidsL_append, kidsL_append]
  have : kidsL ((p, i) :: t) q = kidsL t q := by
    have := kidsL_append [(p, i)] t q
    rw [kidsL_other p i hq] at this
    simpa using this
  rw [this]

end Go.Proofs.YtocbjhhnginebaaGreat

namespace Go.Proofs.YtocbjhhnginebaaGreat
open Go.RowKit

def upd (f : Nat → Nat) (a b : Nat) : Nat → Nat := fun i => if i = a then b else f i
theorem upd_same (f : Nat → Nat) (a b : Nat) : upd f a b a = b := if_pos rfl
theorem upd_other (f : Nat → Nat) (a b : Nat) {i : Nat} (h : i ≠ a) : upd f a b i = f i := if_neg h

section
variable {w : World} {tb : Nat} {A M : Nat → Nat} {T : Fs}

/-! ### the blocks of a tree are apart -/
theorem Rep.node_tree (h : Rep w tb A M T) {i : Nat} (hi : T.Live i) : A i ≠ tb := by
  intro e
  obtain ⟨dv, _, h2⟩ := h.node i hi
  rw [e, h.tree] at h2
  simp at h2
theorem Rep.map_tree (h : Rep w tb A M T) {p : Pt} {i : Nat} (hm : (p, i) ∈ T.names) (hk : (T.nd i).kind = 2) : M i ≠ tb := by
  intro e
  obtain ⟨es, c, h2, _⟩ := h.kids p i hm hk
  rw [e, h.tree] at h2
  cases h2
theorem Rep.map_node (h : Rep w tb A M T) {p : Pt} {i j : Nat} (hm : (p, i) ∈ T.names) (hk : (T.nd i).kind = 2) (hj : T.Live j) : M i ≠ A j := by
  intro e
  obtain ⟨es, c, h2, _⟩ := h.kids p i hm hk
  obtain ⟨dv, _, h3⟩ := h.node j hj
  rw [e, h3] at h2
  cases h2
/-- A block of another kind of cells is none of the tree's. -/
theorem Rep.not_own (h : Rep w tb A M T) {g : Nat} {cs : Array Value} {t : TypeId} {f : Nat × Nat} (hg : w.heap[g]? = some (.cells cs t f)) (h1 : t ≠ 90) (h2 : t ≠ 110) : ¬ Own tb A M T g := by
  rintro (rfl | ⟨i, hi, rfl⟩ | ⟨i, ⟨p, hp⟩, hk, rfl⟩)
  · rw [h.tree] at hg
    cases hg
    exact h1 rfl
  · obtain ⟨dv, _, h3⟩ := h.node i hi
    rw [h3] at hg
    cases hg
    exact h2 rfl
  · obtain ⟨es, c, h3, _⟩ := h.kids p i hp hk
    rw [h3] at hg
    cases hg

theorem Rep.bytes_kept (h : Rep w tb A M T) {w' : World} {S : Nat → Prop} (ht : Turn w w' S) (hS : ∀ b, S b → Own tb A M T b ∨ w.heap.size ≤ b) :
    ∀ g : Nat, (∃ cs, w.heap[g]? = some (Obj.cells cs 5 (0, 0))) → w'.heap[g]? = w.heap[g]? := by
  rintro g ⟨cs, hg⟩
  have hlt := (Array.getElem?_eq_some_iff.1 hg).1
  refine ht.block g hlt (fun hs => ?_)
  rcases hS g hs with h1 | h1
  · exact h.not_own hg (by decide) (by decide) h1
  · omega

theorem entries_upd (hI : T.Inv) {p : Pt} {a : Nat} : entries (upd A T.next a) (T.kids p) = entries A (T.kids p) := by
  unfold entries
  refine List.map_congr_left fun x hx => ?_
  have : (p ++ [x.1], x.2) ∈ T.names := mem_kidsL.1 (show (x.1, x.2) ∈ kidsL T.names p from hx)
  rw [upd_other _ _ _ (fun e => hI.next_fresh _ (e ▸ this))]

theorem kids_none (hI : T.Inv) {p : Pt} (h : T.at p = none) : T.kids p = [] := by
  cases hc : T.kids p with
  | nil => rfl
  | cons x r =>
    have : (p ++ [x.1], x.2) ∈ T.names := mem_kidsL.1 (by show (x.1, x.2) ∈ T.kids p; rw [hc]; exact List.mem_cons_self ..)
    obtain ⟨j, hj, _⟩ := hI.up _ _ this (by simp)
    rw [List.dropLast_concat] at hj
    exact absurd hj (Fs.at_none.1 h j)

theorem dropLast_ne {p : Pt} (hp : p ≠ []) : p.dropLast ≠ p := by
  intro e
  have := congrArg List.length e
  rw [List.length_dropLast] at this
  have : p.length ≠ 0 := fun e => hp (List.eq_nil_of_length_eq_zero e)
  omega

/-- Two names of one directory are one. -/
theorem Fs.Inv.dir_one (h : T.Inv) {p q : Pt} {i : Nat} (hp : (p, i) ∈ T.names) (hq : (q, i) ∈ T.names) (hk : (T.nd i).kind = 2) : q = p := h.single p i hp (by rw [hk]; decide) q hq
theorem Fs.Inv.at_one (h : T.Inv) {p : Pt} {i j : Nat} (hp : (p, i) ∈ T.names) (hq : (p, j) ∈ T.names) : i = j := by
  have h1 := h.at_some.2 hp
  rw [h.at_some.2 hq] at h1
  exact (Option.some.inj h1).symm

/-- A new thing has come. -/
theorem rep_add {w' : World} {p : Pt} {d nb mb : Nat} {n : Nd} {dv : Value} (hR : Rep w tb A M T) (hI' : (T.add p n).Inv) (hp : p ≠ []) (hd : (p.dropLast, d) ∈ T.names) (hk : (T.nd d).kind = 2) (hn : T.at p = none)
    (hnb : ¬ Own tb A M T nb) (hmb : n.kind = 2 → ¬ Own tb A M T mb) (ht : Turn w w' (fun b => b = tb ∨ b = nb ∨ b = M d))
    (hnbw : ∃ cs, w.heap[nb]? = some (Obj.cells cs 110 (0, 0)))
    (h1 : w'.heap[tb]? = some (.cells #[ptr (A 1), .int .i64 ((T.next + 1 : Nat) : Int)] 90 (0, 0)))
    (h2 : w'.heap[nb]? = some (.cells (nodeCells n T.next dv (kidsV n mb)) 110 (0, 0))) (h3 : Dat w' dv n.data) (h4 : n.kind = 2 → MapIs w' mb [])
    (h5 : MapIs w' (M d) ((.string (mkS (p.getLastD [])), ptr nb) :: entries A (T.kids p.dropLast))) :
    Rep w' tb (upd A T.next nb) (upd M T.next mb) (T.add p n) := by
  have hI := hR.inv
  have hfr := hI.next_fresh
  have hmem : ∀ q i, (q, i) ∈ (T.add p n).names ↔ (q, i) ∈ T.names ∨ (q = p ∧ i = T.next) := fun q i => by simp [Fs.add]
  have hold : ∀ i, T.Live i → (T.add p n).nd i = T.nd i ∧ i ≠ T.next := fun i ⟨q, hm⟩ => by
    have : i ≠ T.next := fun e : i = T.next => hfr q (e ▸ hm)
    exact ⟨by unfold Fs.add; exact if_neg this, this⟩
  have hnew : (T.add p n).nd T.next = n := by simp [Fs.add]
  have hlv : ∀ i, (T.add p n).Live i → T.Live i ∨ i = T.next := fun i ⟨q, hm⟩ => by
    rcases (hmem q i).1 hm with hm | ⟨_, e⟩
    · exact Or.inl ⟨q, hm⟩
    · exact Or.inr e
  have hu8 : ∀ g : Nat, (∃ cs, w.heap[g]? = some (Obj.cells cs 5 (0, 0))) → w'.heap[g]? = w.heap[g]? := by
    rintro g ⟨cs, hg⟩
    refine ht.block g (Array.getElem?_eq_some_iff.1 hg).1 ?_
    rintro (rfl | rfl | rfl)
    · exact hR.not_own hg (by decide) (by decide) (Or.inl rfl)
    · obtain ⟨cs', hc⟩ := hnbw
      rw [hc] at hg
      simp at hg
    · exact hR.not_own hg (by decide) (by decide) (Or.inr (Or.inr ⟨d, ⟨_, hd⟩, hk, rfl⟩))
  have hA1 : upd A T.next nb 1 = A 1 := upd_other _ _ _ (hold 1 ⟨_, hI.one⟩).2
  refine ⟨hI', ?_, ?_, ?_, ?_, ?_⟩
  · rw [h1, hA1]; rfl
  · intro i hi
    rcases hlv i hi with hl | rfl
    · obtain ⟨e1, e2⟩ := hold i hl
      obtain ⟨dv', g1, g2⟩ := hR.node i hl
      rw [e1, upd_other _ _ _ e2, upd_other _ _ _ e2]
      refine ⟨dv', g1.kept hu8, (ht.block _ (Array.getElem?_eq_some_iff.1 g2).1 ?_).trans g2⟩
      rintro (e | e | e)
      · exact hR.node_tree hl e
      · exact hnb (Or.inr (Or.inl ⟨i, hl, e.symm⟩))
      · exact hR.map_node hd hk hl e.symm
    · rw [hnew, upd_same, upd_same]
      exact ⟨dv, h3, h2⟩
  · intro q i hm hk2
    rcases (hmem q i).1 hm with hm | ⟨rfl, rfl⟩
    · obtain ⟨e1, e2⟩ := hold i ⟨q, hm⟩
      rw [e1] at hk2
      rw [upd_other _ _ _ e2]
      by_cases hq : p.dropLast = q
      · subst hq
        have : i = d := hI.at_one hm hd
        subst this
        have hkid : (T.add p n).kids p.dropLast = T.kids p.dropLast ++ [(p.getLastD [], T.next)] := by
          show kidsL (T.names ++ [(p, T.next)]) _ = _
          rw [kidsL_append, kidsL_same p _ hp]
          rfl
        rw [hkid]
        refine h5.perm ?_
        have e3 : entries (upd A T.next nb) (T.kids p.dropLast ++ [(p.getLastD [], T.next)]) = entries A (T.kids p.dropLast) ++ [(.string (mkS (p.getLastD [])), ptr nb)] := by
          have := entries_upd (A := A) hI (p := p.dropLast) (a := nb)
          unfold entries at this ⊢
          rw [List.map_append, this]
          simp [upd_same]
        rw [e3]
        exact List.perm_append_singleton _ _
      · have hkid : (T.add p n).kids q = T.kids q := by
          show kidsL (T.names ++ [(p, T.next)]) _ = _
          rw [kidsL_append, kidsL_other p _ hq, List.append_nil]
          rfl
        rw [hkid, entries_upd hI]
        have hM := hR.kids q i hm hk2
        refine hM.of_block (ht.block _ hM.lt ?_)
        rintro (e | e | e)
        · exact hR.map_tree hm hk2 e
        · exact hnb (Or.inr (Or.inr ⟨i, ⟨q, hm⟩, hk2, e.symm⟩))
        · have : i = d := hR.injM i d ⟨q, hm⟩ ⟨_, hd⟩ hk2 hk e
          subst this
          exact hq (hI.dir_one hm hd hk2)
    · rw [hnew] at hk2
      rw [upd_same]
      have hkid : (T.add q n).kids q = [] := by
        show kidsL (T.names ++ [(q, T.next)]) _ = _
        rw [kidsL_append, kidsL_other q _ (dropLast_ne hp), List.append_nil]
        exact kids_none hI hn
      rw [hkid]
      exact h4 hk2
  · intro i j hi hj e
    rcases hlv i hi with hl | rfl
    · rw [upd_other _ _ _ (hold i hl).2] at e
      rcases hlv j hj with hl' | rfl
      · rw [upd_other _ _ _ (hold j hl').2] at e
        exact hR.injA i j hl hl' e
      · rw [upd_same] at e
        exact absurd (Or.inr (Or.inl ⟨i, hl, e.symm⟩)) hnb
    · rw [upd_same] at e
      rcases hlv j hj with hl' | rfl
      · rw [upd_other _ _ _ (hold j hl').2] at e
        exact absurd (Or.inr (Or.inl ⟨j, hl', e⟩)) hnb
      · rfl
  · intro i j hi hj hki hkj e
    rcases hlv i hi with hl | rfl
    · rw [upd_other _ _ _ (hold i hl).2] at e
      rw [(hold i hl).1] at hki
      rcases hlv j hj with hl' | rfl
      · rw [upd_other _ _ _ (hold j hl').2] at e
        rw [(hold j hl').1] at hkj
        exact hR.injM i j hl hl' hki hkj e
      · rw [upd_same] at e
        rw [hnew] at hkj
        exact absurd (Or.inr (Or.inr ⟨i, hl, hki, e.symm⟩)) (hmb hkj)
    · rw [upd_same] at e
      rw [hnew] at hki
      rcases hlv j hj with hl' | rfl
      · rw [upd_other _ _ _ (hold j hl').2] at e
        rw [(hold j hl').1] at hkj
        exact absurd (Or.inr (Or.inr ⟨j, hl', hkj, e⟩)) (hmb hki)
      · rfl

end

end Go.Proofs.YtocbjhhnginebaaGreat

namespace Go.Proofs.YtocbjhhnginebaaGreat
open Go.RowKit

theorem heap_set_same {w : World} {b : Nat} {cs : Array Value} {t : TypeId} {f : Nat × Nat} (h : w.heap[b]? = some (.cells cs t f)) (k : Nat) (v : Value) : (w.setCell ⟨b, k, none⟩ v).heap[b]? = some (.cells (cs.setIfInBounds k v) t f) := by
  rw [Sort.setCell_eq]
  unfold Sort.mapBlock
  simp only [Array.getElem?_modify, if_true, h, Option.map_some, Sort.onCells]
theorem heap_set_other (w : World) {b b' : Nat} (h : b' ≠ b) (k : Nat) (v : Value) : (w.setCell ⟨b, k, none⟩ v).heap[b']? = w.heap[b']? := RowKit.Below.heap_setCell _ _ _ _ h
theorem heap_set_size (w : World) (a : Addr) (v : Value) : (w.setCell a v).heap.size = w.heap.size := by simp [World.setCell]
theorem turn_set {w w' : World} {S : Nat → Prop} (h : Turn w w' S) {b : Nat} (hb : S b) (k : Nat) (v : Value) : Turn w (w'.setCell ⟨b, k, none⟩ v) S :=
  ⟨h.os, h.tape, h.output, by rw [heap_set_size]; exact h.size, fun i hi hn => (heap_set_other w' (fun e => hn (by rw [e]; exact hb)) k v).trans (h.block i hi hn)⟩

set_option maxHeartbeats 2000000 in
set_option maxRecDepth 100000 in
theorem put_calls (tb : Nat) (A M : Nat → Nat) (T : Fs) (s : ByteArray) (d nb mb : Nat) (n : Nd) (dv : Value) (w : World) (hR : Rep w tb A M T) (hs : s.size ≤ 16777216) (hr : right (bl s) = true) (hne : bl s ≠ [])
    (hd : ((split (bl s)).dropLast, d) ∈ T.names) (hk : (T.nd d).kind = 2) (hn : T.at (split (bl s)) = none) (hnb : ¬ Own tb A M T nb) (hmb : n.kind = 2 → ¬ Own tb A M T mb)
    (hnode : w.heap[nb]? = some (.cells (nodeCells { n with links := 0 } 0 dv (kidsV n mb)) 110 (0, 0))) (hdv : Dat w dv n.data) (hm0 : n.kind = 2 → MapIs w mb []) (hN : NdOk n) (hnx : T.next < 4611686018427387904) :
    Calls Tryz.prog 69 #[ptr tb, ptr (A d), .string s, ptr nb] w fun e w' => e = .returned (.tuple #[]) ∧ Rep w' tb (upd A T.next nb) (upd M T.next mb) (T.add (split (bl s)) { n with links := 1 }) ∧ Turn w w' (fun b => b = tb ∨ b = nb ∨ b = M d) := by
  have hb := fun W => base_calls s W (by unfold maxLen; omega)
  have hsb := split_base hne
  have hpne : split (bl s) ≠ [] := fun e => hne (split_eq_nil e)
  have hP : Pth (split (bl s)) := ⟨_, hr, rfl⟩
  have hbase : base (bl s) = (split (bl s)).getLastD [] := rfl
  have hI' : (T.add (split (bl s)) { n with links := 1 }).Inv := add_inv hR.inv hpne hP hd hk hn rfl ⟨hN.kind, hN.data, hN.plain⟩
  have hM := hR.kids _ d hd hk
  have hMd : M d ≠ tb := hR.map_tree hd hk
  have hMn : M d ≠ nb := fun e => hnb (Or.inr (Or.inr ⟨d, ⟨_, hd⟩, hk, e.symm⟩))
  have htn : nb ≠ tb := fun e => hnb (Or.inl e)
  obtain ⟨dvd, _, hnd⟩ := hR.node d ⟨_, hd⟩
  have hAd : A d ≠ nb := fun e => hnb (Or.inr (Or.inl ⟨d, ⟨_, hd⟩, e.symm⟩))
  have hAt : A d ≠ tb := hR.node_tree ⟨_, hd⟩
  -- the worlds
  obtain ⟨w1, hw1⟩ : ∃ x, x = w.setCell ⟨nb, 1, none⟩ (.int .i64 T.next) := ⟨_, rfl⟩
  obtain ⟨w2, hw2⟩ : ∃ x, x = w1.setCell ⟨nb, 3, none⟩ (.int .i64 1) := ⟨_, rfl⟩
  obtain ⟨w3, hw3⟩ : ∃ x, x = w2.setCell ⟨tb, 1, none⟩ (.int .i64 ((T.next + 1 : Nat) : Int)) := ⟨_, rfl⟩
  have t1 := (heap_set_other w htn.symm 1 (.int .i64 T.next)).trans hR.tree
  rw [← hw1] at t1
  have t2 := (heap_set_other w1 htn.symm 3 (.int .i64 1)).trans t1
  rw [← hw2] at t2
  have t3 : w3.heap[tb]? = some (.cells #[ptr (A 1), .int .i64 ((T.next + 1 : Nat) : Int)] 90 (0, 0)) := by rw [hw3]; exact heap_set_same t2 1 _
  have n1 := heap_set_same hnode 1 (.int .i64 T.next)
  rw [← hw1] at n1
  have n2 := heap_set_same n1 3 (.int .i64 1)
  rw [← hw2] at n2
  have n3 : w3.heap[nb]? = some (.cells (nodeCells { n with links := 1 } T.next dv (kidsV n mb)) 110 (0, 0)) := by
    rw [hw3]
    exact (heap_set_other w2 htn 1 _).trans n2
  have ht3 : Turn w w3 (fun b => b = tb ∨ b = nb ∨ b = M d) := by
    rw [hw3, hw2, hw1]
    exact turn_set (turn_set (turn_set (Turn.refl w _) (Or.inr (Or.inl rfl)) 1 _) (Or.inr (Or.inl rfl)) 3 _) (Or.inl rfl) 1 _
  have keep : ∀ b, b ≠ tb → b ≠ nb → w3.heap[b]? = w.heap[b]? := fun b h1 h2 => by
    rw [hw3, heap_set_other w2 h1, hw2, heap_set_other w1 h2, hw1, heap_set_other w h2]
  have m3 : MapIs w3 (M d) (entries A (T.kids (split (bl s)).dropLast)) := hM.of_block (keep _ hMd hMn)
  have d3 := (keep _ hAt hAd).trans hnd
  have c11 : w3.cell? ⟨A d, 11, none⟩ = some (kidsV (T.nd d) (M d)) := cell_of d3 rfl
  rw [kidsV, if_pos hk] at c11
  have hkey := keyable_string Tryz.underlying9 w3.drew (mkS (base (bl s))) (entries_keys A (T.kids (split (bl s)).dropLast))
  have hmiss : ∀ q ∈ entries A (T.kids (split (bl s)).dropLast), q.1 ≠ .string (mkS (base (bl s))) := by
    intro q hq e
    obtain ⟨⟨y, j⟩, hy, rfl⟩ := List.mem_map.1 hq
    simp only [Value.string.injEq] at e
    rw [mkS_inj e] at hy
    have := hR.inv.kids_at.1 hy
    rw [hsb, hn] at this
    cases this
  have m3d : MapIs w3.drew (M d) (entries A (T.kids (split (bl s)).dropLast)) := m3
  obtain ⟨w4, hrun, hm4, hturn⟩ := m3d.store_new under_kids (v := ptr nb) hkey hmiss
  have hg4 := hturn.grown
  have ht4 : Turn w w4 (fun b => b = tb ∨ b = nb ∨ b = M d) := (ht3.drewN 1).trans (Turn.of_grown hg4 (fun j e => by cases e; exact Or.inl (Or.inr (Or.inr rfl))))
  have hu8 : ∀ g : Nat, (∃ cs, w.heap[g]? = some (Obj.cells cs 5 (0, 0))) → w4.heap[g]? = w.heap[g]? := by
    rintro g ⟨cs, hg⟩
    refine ht4.block g (Array.getElem?_eq_some_iff.1 hg).1 ?_
    rintro (rfl | rfl | rfl)
    · exact hR.not_own hg (by decide) (by decide) (Or.inl rfl)
    · rw [hnode] at hg; simp at hg
    · exact hR.not_own hg (by decide) (by decide) (Or.inr (Or.inr ⟨d, ⟨_, hd⟩, hk, rfl⟩))
  have hmb4 : n.kind = 2 → MapIs w4 mb [] := fun h2 => by
    have hm := hm0 h2
    refine hm.of_block (ht4.block _ hm.lt ?_)
    rintro (e | e | e)
    · exact hmb h2 (Or.inl e)
    · obtain ⟨es, c, hx, _⟩ := hm
      rw [e, hnode] at hx
      cases hx
    · exact hmb h2 (Or.inr (Or.inr ⟨d, ⟨_, hd⟩, hk, e⟩))
  have hrep : Rep w4 tb (upd A T.next nb) (upd M T.next mb) (T.add (split (bl s)) { n with links := 1 }) := by
    refine rep_add hR hI' hpne hd hk hn hnb hmb ht4 ⟨_, hnode⟩ ?_ ?_ (hdv.kept hu8) hmb4 (by rw [← hbase]; exact hm4) (dv := dv)
    · exact (hg4.block tb (Array.getElem?_eq_some_iff.1 t3).1 (by simpa using hMd.symm)).trans t3
    · exact (hg4.block nb (Array.getElem?_eq_some_iff.1 n3).1 (by simpa using hMn.symm)).trans n3
  have e1 : w.cell? ⟨tb, 1, none⟩ = some (.int .i64 T.next) := cell_of hR.tree rfl
  have e2 : w.cell? ⟨nb, 1, none⟩ = some (.int .i64 0) := cell_of hnode rfl
  have f1 : ∀ k, w.frozen? ⟨tb, k, none⟩ = false := fun k => by simp [World.frozen?, hR.tree]
  have f2 : ∀ k, w.frozen? ⟨nb, k, none⟩ = false := fun k => by simp [World.frozen?, hnode]
  have e3 : w1.cell? ⟨nb, 3, none⟩ = some (.int .i64 0) := cell_of n1 rfl
  have e4 : w2.cell? ⟨tb, 1, none⟩ = some (.int .i64 T.next) := cell_of t2 rfl
  have f3 : w1.frozen? ⟨nb, 3, none⟩ = false := by simp [World.frozen?, n1]
  have f4 : w2.frozen? ⟨tb, 1, none⟩ = false := by simp [World.frozen?, t2]
  have hwr : IntKind.i64.wrap ((T.next : Int) + 1) = ((T.next + 1 : Nat) : Int) := by
    rw [IntWalk.i64_in _ (by omega)]
    omega
  have hfin : Hid (Rep w4 tb (upd A T.next nb) (upd M T.next mb) (T.add (split (bl s)) { n with links := 1 }) ∧ Turn w w4 (fun b => b = tb ∨ b = nb ∨ b = M d)) := ⟨hrep, ht4⟩
  replace hb := Lib.hid hb
  replace hrun := Lib.hid hrun
  replace hwr := Lib.hid hwr
  replace c11 := Lib.hid c11
  clear hrep ht4 hu8 hmb4 hg4 hturn hm4 m3d hmiss hkey m3 ht3 n3 n2 n1 t3 t2 t1 d3 hnd hM hI' hbase hP hpne hsb hm0 hdv hnode hR hN keep hd hk hn hnb hmb
  generalize T.next = nx at *
  generalize ((nx + 1 : Nat) : Int) = nx1 at *
  rw [hw2] at e4 f4
  rw [hw1] at e3 f3 e4 f4
  replace hw1 := Lib.hid hw1
  replace hw2 := Lib.hid hw2
  replace hw3 := Lib.hid hw3
  have hwr2 := hwr.out
  unfold ptr
  go_enter Tryz.func69, Tryz.ntmps69
  go_wp2_with fail
  rw [← hw1.out, ← hw2.out, ← hw3.out]
  have c11' := c11.out
  clear e1 e2 e3 e4 f1 f2 f3 f4 hw1 hw2 hw3 hwr hwr2
  refine wp_region_still_tail 7 (by kernel_rfl) (by kernel_rfl) ?_
  simp only [List.take_succ_cons, List.take_zero, List.drop_succ_cons, List.drop_zero]
  iterate 5 still_step
  still_call ((hb.out w3.drew).mono fun e w' hh => ⟨hh.1, hh.2.symm⟩)
  still_step
  refine wpStill_nil ?_
  change wpList _ _ _ _ _ w3.drew
  refine wp_store _ rfl _ _ _ 108 rfl (.map (some (M d))) (.string (mkS (base (bl s)))) (ptr nb) rfl rfl rfl w4 hrun.out ?_
  go_wp2
  go_end0
  exact ⟨rfl, hfin.out⟩

end Go.Proofs.YtocbjhhnginebaaGreat

namespace Go.Proofs.YtocbjhhnginebaaGreat
open Go.RowKit

/-- A call has turned the tree T into T', and written no block but the tree's own. -/
def Stp (w w' : World) (tb : Nat) (A M : Nat → Nat) (T T' : Fs) : Prop :=
  ∃ A' M', Rep w' tb A' M' T' ∧ Turn w w' (Own tb A M T) ∧ ∀ b, Own tb A' M' T' b → Own tb A M T b ∨ w.heap.size ≤ b

theorem Stp.same {w w' : World} {tb : Nat} {A M : Nat → Nat} {T : Fs} (h : Rep w tb A M T) (hb : Below w.heap.size w w') : Stp w w' tb A M T T :=
  ⟨A, M, h.below hb, Turn.of_below hb _, fun _ h => Or.inl h⟩

theorem Stp.after {w w1 w' : World} {tb : Nat} {A M : Nat → Nat} {T T' : Fs} (hb : Below w.heap.size w w1) (h : Stp w1 w' tb A M T T') : Stp w w' tb A M T T' := by
  obtain ⟨A', M', h1, h2, h3⟩ := h
  exact ⟨A', M', h1, (Turn.of_below hb _).trans (h2.mono fun i _ hi => Or.inl hi), fun b hb2 => (h3 b hb2).imp id (fun h => Nat.le_trans hb.size h)⟩

theorem own_add {tb nb mb : Nat} {A M : Nat → Nat} {T : Fs} (hI : T.Inv) {p : Pt} {n : Nd} {b : Nat} (h : Own tb (upd A T.next nb) (upd M T.next mb) (T.add p n) b) : Own tb A M T b ∨ b = nb ∨ (n.kind = 2 ∧ b = mb) := by
  have hfr := hI.next_fresh
  have hmem : ∀ q i, (q, i) ∈ (T.add p n).names ↔ (q, i) ∈ T.names ∨ (q = p ∧ i = T.next) := fun q i => by simp [Fs.add]
  have hold : ∀ q i, (q, i) ∈ T.names → i ≠ T.next := fun q i hm e => hfr q (e ▸ hm)
  have hnd : ∀ i, i ≠ T.next → (T.add p n).nd i = T.nd i := fun i hi => by unfold Fs.add; exact if_neg hi
  rcases h with rfl | ⟨i, ⟨q, hm⟩, rfl⟩ | ⟨i, ⟨q, hm⟩, hk, rfl⟩
  · exact Or.inl (Or.inl rfl)
  · rcases (hmem q i).1 hm with hm | ⟨rfl, rfl⟩
    · rw [upd_other _ _ _ (hold q i hm)]
      exact Or.inl (Or.inr (Or.inl ⟨i, ⟨q, hm⟩, rfl⟩))
    · rw [upd_same]
      exact Or.inr (Or.inl rfl)
  · rcases (hmem q i).1 hm with hm | ⟨rfl, rfl⟩
    · rw [upd_other _ _ _ (hold q i hm)]
      rw [hnd i (hold q i hm)] at hk
      exact Or.inl (Or.inr (Or.inr ⟨i, ⟨q, hm⟩, hk, rfl⟩))
    · rw [upd_same]
      have : (T.add q n).nd T.next = n := by simp [Fs.add]
      rw [this] at hk
      exact Or.inr (Or.inr ⟨hk, rfl⟩)

theorem Fs.Inv.fresh_ok {T : Fs} (h : T.Inv) {s : Bytes} (h0 : (T.fresh s).2 = 0) : right s = true ∧ s ≠ [] ∧ T.at (split s) = none ∧ ∃ d, (T.fresh s).1 = some d ∧ ((split s).dropLast, d) ∈ T.names ∧ (T.nd d).kind = 2 := by
  unfold Fs.fresh at *
  dsimp only at *
  by_cases hc : (T.look s).2.2 = 0 ∧ (T.look s).1 ≠ none
  · rw [if_pos hc] at h0
    cases h0
  · rw [if_neg hc] at h0
    obtain ⟨h1, h2, h3⟩ := h.look_ok h0
    have hn : (T.look s).1 = none := by
      cases hx : (T.look s).1 with
      | none => rfl
      | some i => exact absurd ⟨h0, by rw [hx]; simp⟩ hc
    rcases h3 with ⟨_, e, _⟩ | ⟨e, d, h4, h5⟩
    · rw [hn] at e; cases e
    · exact ⟨h1, e, by rw [← h2, hn], d, h4, h5⟩

section
variable {w : World} {tb : Nat} {A M : Nat → Nat} {T : Fs} {s : ByteArray} {d : Nat}

theorem put_dir (hR : Rep w tb A M T) (hs : s.size ≤ 16777216) (hr : right (bl s) = true) (hne : bl s ≠ []) (hd : ((split (bl s)).dropLast, d) ∈ T.names) (hk : (T.nd d).kind = 2) (hn : T.at (split (bl s)) = none) (hnx : T.next < 4611686018427387904) (m : Mt) :
    Calls Tryz.prog 69 #[ptr tb, ptr (A d), .string s, ptr (w.heap.size + 1)] ((w.alloc (.map #[] 0)).alloc (.cells (nodeCells ⟨2, 0, m, [], []⟩ 0 (.slice none 0 0) (.map (some w.heap.size))) 110)) fun e w' =>
      e = .returned (.tuple #[]) ∧ Stp w w' tb A M T (T.add (split (bl s)) ⟨2, 1, m, [], []⟩) := by
  have hB : Below w.heap.size w ((w.alloc (.map #[] 0)).alloc (.cells (nodeCells ⟨2, 0, m, [], []⟩ 0 (.slice none 0 0) (.map (some w.heap.size))) 110)) := ((Below.refl _ _).alloc (Nat.le_refl _) _).alloc (by simp) _
  have hnb : ¬ Own tb A M T (w.heap.size + 1) := fun h => by have := hR.lt h; omega
  have hmb : ¬ Own tb A M T w.heap.size := fun h => by have := hR.lt h; omega
  have e1 : (w.alloc (.map #[] 0)).heap.size = w.heap.size + 1 := by simp
  have hnode := (MapKept.heap_alloc (w.alloc (.map #[] 0)) (.cells (nodeCells ⟨2, 0, m, [], []⟩ 0 (.slice none 0 0) (.map (some w.heap.size))) 110)).1
  rw [e1] at hnode
  have hmap : MapIs ((w.alloc (.map #[] 0)).alloc (.cells (nodeCells ⟨2, 0, m, [], []⟩ 0 (.slice none 0 0) (.map (some w.heap.size))) 110)) w.heap.size [] := (mapIs_made w).kept (World.grownBy_alloc _ _ none) (by simp)
  refine (put_calls tb A M T s d (w.heap.size + 1) w.heap.size ⟨2, 0, m, [], []⟩ (.slice none 0 0) _ (hR.below hB) hs hr hne hd hk hn hnb (fun _ => hmb) hnode (dat_nil _) (fun _ => hmap) ⟨Or.inr (Or.inl rfl), by simp, by simp⟩ hnx).mono ?_
  rintro e w' ⟨rfl, h1, h2⟩
  refine ⟨rfl, _, _, h1, (Turn.of_below hB _).trans (h2.mono ?_), ?_⟩
  · rintro i hi (rfl | rfl | rfl)
    · exact Or.inl (Or.inl rfl)
    · exact Or.inr (Nat.le_succ _)
    · exact Or.inl (Or.inr (Or.inr ⟨d, ⟨_, hd⟩, hk, rfl⟩))
  · intro b hb
    rcases own_add hR.inv hb with h | rfl | ⟨_, rfl⟩
    · exact Or.inl h
    · exact Or.inr (Nat.le_succ _)
    · exact Or.inr (Nat.le_refl _)

theorem put_plain (hR : Rep w tb A M T) (hs : s.size ≤ 16777216) (hr : right (bl s) = true) (hne : bl s ≠ []) (hd : ((split (bl s)).dropLast, d) ∈ T.names) (hk : (T.nd d).kind = 2) (hn : T.at (split (bl s)) = none) (hnx : T.next < 4611686018427387904)
    (k : Int) (m : Mt) (t : Bytes) (hN : NdOk ⟨k, 0, m, t, []⟩) (hk2 : k ≠ 2) :
    Calls Tryz.prog 69 #[ptr tb, ptr (A d), .string s, ptr w.heap.size] (w.alloc (.cells (nodeCells ⟨k, 0, m, t, []⟩ 0 (.slice none 0 0) (.map none)) 110)) fun e w' =>
      e = .returned (.tuple #[]) ∧ (∃ A' M', Rep w' tb A' M' (T.add (split (bl s)) ⟨k, 1, m, t, []⟩) ∧ A' T.next = w.heap.size ∧ Turn w w' (Own tb A M T) ∧ ∀ b, Own tb A' M' (T.add (split (bl s)) ⟨k, 1, m, t, []⟩) b → Own tb A M T b ∨ w.heap.size ≤ b) := by
  have hB : Below w.heap.size w (w.alloc (.cells (nodeCells ⟨k, 0, m, t, []⟩ 0 (.slice none 0 0) (.map none)) 110)) := (Below.refl _ _).alloc (Nat.le_refl _) _
  have hnb : ¬ Own tb A M T w.heap.size := fun h => by have := hR.lt h; omega
  have hnode := (MapKept.heap_alloc w (.cells (nodeCells ⟨k, 0, m, t, []⟩ 0 (.slice none 0 0) (.map none)) 110)).1
  have hkv : kidsV ⟨k, 0, m, t, []⟩ 0 = .map none := if_neg hk2
  rw [← hkv] at hnode
  refine (put_calls tb A M T s d w.heap.size 0 ⟨k, 0, m, t, []⟩ (.slice none 0 0) _ (hR.below hB) hs hr hne hd hk hn hnb (fun h => absurd h hk2) (by rw [hkv] at hnode ⊢; exact hnode) (dat_nil _) (fun h => absurd h hk2) hN hnx).mono ?_
  rintro e w' ⟨rfl, h1, h2⟩
  refine ⟨rfl, _, _, h1, upd_same _ _ _, (Turn.of_below hB _).trans (h2.mono ?_), ?_⟩
  · rintro i hi (rfl | rfl | rfl)
    · exact Or.inl (Or.inl rfl)
    · exact Or.inr (Nat.le_refl _)
    · exact Or.inl (Or.inr (Or.inr ⟨d, ⟨_, hd⟩, hk, rfl⟩))
  · intro b hb
    rcases own_add hR.inv hb with h | rfl | ⟨h, _⟩
    · exact Or.inl h
    · exact Or.inr (Nat.le_refl _)
    · exact absurd h hk2

end

/-- Why a new thing may not come to a path by its name and Meta. -/
def mayE (s : Bytes) (m : Mt) : Int := if right s then if metaOk m then 0 else 2 else 9

def Fs.mkdir (T : Fs) (s : Bytes) (m : Mt) : Fs × Int :=
  if mayE s m ≠ 0 then (T, mayE s m) else if (T.fresh s).2 ≠ 0 then (T, (T.fresh s).2) else (T.add (split s) ⟨2, 1, m, [], []⟩, 0)

def Fs.symlink (T : Fs) (s t : Bytes) (m : Mt) : Fs × Int :=
  if mayE s m ≠ 0 then (T, mayE s m) else if t = [] then (T, 2) else if 200 < t.length then (T, 7) else
  if (T.fresh s).2 ≠ 0 then (T, (T.fresh s).2) else (T.add (split s) ⟨3, 1, m, t, []⟩, 0)

set_option maxHeartbeats 2000000 in
set_option maxRecDepth 100000 in
theorem mkdir_calls (tb : Nat) (A M : Nat → Nat) (T : Fs) (s : ByteArray) (m : Mt) (w : World) (hR : Rep w tb A M T) (hs : s.size ≤ 16777216) (hnx : T.next < 4611686018427387904) :
    Calls Tryz.prog 38 #[ptr tb, .string s, mtV m] w fun e w' => e = .returned (.int .i64 (T.mkdir (bl s) m).2) ∧ Stp w w' tb A M T (T.mkdir (bl s) m).1 := by
  have h1 := fun W => may_calls tb s m W hs
  have h2 := fun W hW => fresh_calls tb A M T s W hW hs
  have hfo := hR.inv.fresh_ok (s := bl s)
  have hput : ∀ W d, Rep W tb A M T → right (bl s) = true → bl s ≠ [] → ((split (bl s)).dropLast, d) ∈ T.names → (T.nd d).kind = 2 → T.at (split (bl s)) = none → _ := fun W d hW h1 h2 h3 h4 h5 => put_dir (d := d) hW hs h1 h2 h3 h4 h5 hnx m
  unfold Fs.mkdir
  have hme : (if right (bl s) then if metaOk m then (0 : Int) else 2 else 9) = mayE (bl s) m := rfl
  rw [hme] at h1
  generalize mayE (bl s) m = me at *
  obtain ⟨a1, a2, a3, a4, a5⟩ := m
  unfold mtV mtCells nodeCells ptr at *
  dsimp only at *
  have hB0 : Below w.heap.size w (w.alloc (.cells #[.int .i64 a1, .int .i64 a2, .int .i64 a3, .int .i64 a4, .int .i64 a5] 40)) := (Below.refl _ _).alloc (Nat.le_refl _) _
  have hblk := (MapKept.heap_alloc w (.cells #[.int .i64 a1, .int .i64 a2, .int .i64 a3, .int .i64 a4, .int .i64 a5] 40)).1
  replace h1 := Lib.hid h1
  replace h2 := Lib.hid h2
  replace hput := Lib.hid hput
  replace hblk := Lib.hid hblk
  replace hB0 := Lib.hid hB0
  replace hR := Lib.hid hR
  clear hme
  by_cases he : me = 0
  · subst he
    rw [if_neg (by simp)]
    by_cases hf : (T.fresh (bl s)).2 = 0
    · rw [if_neg (by simp [hf])]
      obtain ⟨k1, k2, k3, d, k4, k5, k6⟩ := hfo hf
      rw [hf, k4, optPtr_some] at h2
      have hput2 := fun W hW => hput.out W d hW k1 k2 k5 k6 k3
      clear hput hfo hf k1 k2 k3 k4 k5 k6
      dsimp only
      generalize T.add (split (bl s)) _ = T' at *
      replace hput2 := Lib.hid hput2
      have hmm := @run_makeMap Tryz.prog
      go_enter Tryz.func38, Tryz.ntmps38
      go_wp2_with fail
      refine (h1.out _).mono ?_
      rintro e w1 ⟨rfl, hB1⟩
      have hB01 := below_step hB0.out hB1
      have hblk1 := (hB1.block _ (Array.getElem?_eq_some_iff.1 hblk.out).1).trans hblk.out
      have hR1 := hR.out.below hB01
      replace hR1 := Lib.hid hR1
      replace hblk1 := Lib.hid hblk1
      go_wp2_with fail
      refine (h2.out _ hR1.out).mono ?_
      rintro e w2 ⟨rfl, hB2⟩
      have hB02 := below_step hB01 hB2
      have hR2 := hR1.out.below hB2
      have hlt := (Array.getElem?_eq_some_iff.1 hblk1.out).1
      have hblk2 := (hB2.block _ hlt).trans hblk1.out
      replace hR2 := Lib.hid hR2
      have hp := hput2.out w2 hR2.out
      have d0 := cell_of (j := 0) hblk2 rfl
      have d1 := cell_of (j := 1) hblk2 rfl
      have d2 := cell_of (j := 2) hblk2 rfl
      have d3 := cell_of (j := 3) hblk2 rfl
      have d4 := cell_of (j := 4) hblk2 rfl
      clear hblk2 h1 h2 hput2
      replace hp := Lib.hid hp
      go_wp2_with fail
      refine hp.out.mono ?_
      rintro e w3 ⟨rfl, hst⟩
      go_wp2
      go_ret
      exact ⟨rfl, hst.after hB02⟩
    · rw [if_pos hf]
      have hf2 : ((T.fresh (bl s)).2 != 0) = true := by simpa using hf
      generalize T.fresh (bl s) = fr at *
      obtain ⟨fd, fe⟩ := fr
      dsimp only at *
      clear hput hfo hf
      go_enter Tryz.func38, Tryz.ntmps38
      go_wp2_with fail
      refine (h1.out _).mono ?_
      rintro e w1 ⟨rfl, hB1⟩
      have hB01 := below_step hB0.out hB1
      have hblk1 := (hB1.block _ (Array.getElem?_eq_some_iff.1 hblk.out).1).trans hblk.out
      have hR1 := hR.out.below hB01
      replace hR1 := Lib.hid hR1
      replace hblk1 := Lib.hid hblk1
      go_wp2_with fail
      refine (h2.out _ hR1.out).mono ?_
      rintro e w2 ⟨rfl, hB2⟩
      have hB02 := below_step hB01 hB2
      have hR2 := hR1.out.below hB2
      have hlt := (Array.getElem?_eq_some_iff.1 hblk1.out).1
      have hblk2 := (hB2.block _ hlt).trans hblk1.out
      replace hR2 := Lib.hid hR2
      clear hblk2 h1 h2
      go_wp2
      go_ret
      exact ⟨rfl, Stp.same hR.out hB02⟩
  · rw [if_pos he]
    have he2 : (me != 0) = true := by simpa using he
    clear he hput h2 hfo
    go_enter Tryz.func38, Tryz.ntmps38
    go_wp2_with fail
    refine (h1.out _).mono ?_
    rintro e w1 ⟨rfl, hB1⟩
    have hB01 := below_step hB0.out hB1
    go_wp2
    go_ret
    exact ⟨rfl, Stp.same hR.out hB01⟩

end Go.Proofs.YtocbjhhnginebaaGreat

namespace Go.Proofs.YtocbjhhnginebaaGreat
open Go.RowKit

set_option maxHeartbeats 2000000 in
set_option maxRecDepth 100000 in
theorem symlink_calls (tb : Nat) (A M : Nat → Nat) (T : Fs) (s tg : ByteArray) (m : Mt) (w : World) (hR : Rep w tb A M T) (hs : s.size ≤ 16777216) (hnx : T.next < 4611686018427387904) :
    Calls Tryz.prog 72 #[ptr tb, .string s, .string tg, mtV m] w fun e w' => e = .returned (.int .i64 (T.symlink (bl s) (bl tg) m).2) ∧ Stp w w' tb A M T (T.symlink (bl s) (bl tg) m).1 := by
  have h1 := fun W => may_calls tb s m W hs
  have h2 := fun W hW => fresh_calls tb A M T s W hW hs
  have hfo := hR.inv.fresh_ok (s := bl s)
  have hput : ∀ W d, Rep W tb A M T → right (bl s) = true → bl s ≠ [] → ((split (bl s)).dropLast, d) ∈ T.names → (T.nd d).kind = 2 → T.at (split (bl s)) = none → NdOk ⟨3, 0, m, bl tg, []⟩ → _ := fun W d hW h1 h2 h3 h4 h5 h6 => put_plain (d := d) hW hs h1 h2 h3 h4 h5 hnx 3 m (bl tg) h6 (by decide)
  have htn := str_nil tg
  have htl := bl_length tg
  unfold Fs.symlink
  have hme : (if right (bl s) then if metaOk m then (0 : Int) else 2 else 9) = mayE (bl s) m := rfl
  rw [hme] at h1
  generalize mayE (bl s) m = me at *
  obtain ⟨a1, a2, a3, a4, a5⟩ := m
  unfold mtV mtCells nodeCells ptr at *
  dsimp only at *
  simp only [mkS_bl] at hput
  have hB0 : Below w.heap.size w (w.alloc (.cells #[.int .i64 a1, .int .i64 a2, .int .i64 a3, .int .i64 a4, .int .i64 a5] 40)) := (Below.refl _ _).alloc (Nat.le_refl _) _
  have hblk := (MapKept.heap_alloc w (.cells #[.int .i64 a1, .int .i64 a2, .int .i64 a3, .int .i64 a4, .int .i64 a5] 40)).1
  replace h1 := Lib.hid h1
  replace h2 := Lib.hid h2
  replace hput := Lib.hid hput
  replace hblk := Lib.hid hblk
  replace hB0 := Lib.hid hB0
  replace hR := Lib.hid hR
  clear hme
  by_cases he : me = 0
  · subst he
    rw [if_neg (by simp)]
    by_cases ht0 : bl tg = []
    · rw [if_pos ht0]
      have ht1 : tg.toList.isEmpty = true := by rw [htn]; simpa using ht0
      dsimp only
      clear hput h2 hfo htn htl ht0
      go_enter Tryz.func72, Tryz.ntmps72
      go_wp2_with fail
      refine (h1.out _).mono ?_
      rintro e w1 ⟨rfl, hB1⟩
      have hB01 := below_step hB0.out hB1
      go_wp2
      go_ret
      exact ⟨rfl, Stp.same hR.out hB01⟩
    · rw [if_neg ht0]
      have ht1 : tg.toList.isEmpty = false := by rw [htn]; simpa using ht0
      by_cases ht2 : 200 < (bl tg).length
      · rw [if_pos ht2]
        have ht3 : (200 : Int) < (tg.size : Int) := by omega
        dsimp only
        clear hput h2 hfo htn htl ht0 ht2
        go_enter Tryz.func72, Tryz.ntmps72
        go_wp2_with fail
        refine (h1.out _).mono ?_
        rintro e w1 ⟨rfl, hB1⟩
        have hB01 := below_step hB0.out hB1
        go_wp2
        go_ret
        exact ⟨rfl, Stp.same hR.out hB01⟩
      · rw [if_neg ht2]
        have ht3 : ¬ (200 : Int) < (tg.size : Int) := by omega
        have hN : NdOk ⟨3, 0, ⟨a1, a2, a3, a4, a5⟩, bl tg, []⟩ := ⟨Or.inr (Or.inr rfl), by simp, by simp, by simp, by dsimp only; omega⟩
        by_cases hf : (T.fresh (bl s)).2 = 0
        · rw [if_neg (by simp [hf])]
          obtain ⟨k1, k2, k3, d, k4, k5, k6⟩ := hfo hf
          rw [hf, k4, optPtr_some] at h2
          have hput2 := fun W hW => hput.out W d hW k1 k2 k5 k6 k3 hN
          clear hput hfo hf k1 k2 k3 k4 k5 k6 htn htl ht0 ht2 hN
          dsimp only
          generalize T.add (split (bl s)) _ = T' at *
          replace hput2 := Lib.hid hput2
          go_enter Tryz.func72, Tryz.ntmps72
          go_wp2_with fail
          refine (h1.out _).mono ?_
          rintro e w1 ⟨rfl, hB1⟩
          have hB01 := below_step hB0.out hB1
          have hblk1 := (hB1.block _ (Array.getElem?_eq_some_iff.1 hblk.out).1).trans hblk.out
          have hR1 := hR.out.below hB01
          replace hR1 := Lib.hid hR1
          replace hblk1 := Lib.hid hblk1
          go_wp2_with fail
          refine (h2.out _ hR1.out).mono ?_
          rintro e w2 ⟨rfl, hB2⟩
          have hB02 := below_step hB01 hB2
          have hR2 := hR1.out.below hB2
          have hlt := (Array.getElem?_eq_some_iff.1 hblk1.out).1
          have hblk2 := (hB2.block _ hlt).trans hblk1.out
          replace hR2 := Lib.hid hR2
          have hp := hput2.out w2 hR2.out
          have d0 := cell_of (j := 0) hblk2 rfl
          have d1 := cell_of (j := 1) hblk2 rfl
          have d2 := cell_of (j := 2) hblk2 rfl
          have d3 := cell_of (j := 3) hblk2 rfl
          have d4 := cell_of (j := 4) hblk2 rfl
          clear hblk2 h1 h2 hput2
          replace hp := Lib.hid hp
          go_wp2_with fail
          refine hp.out.mono ?_
          rintro e w3 ⟨rfl, A', M', hst1, _, hst2, hst3⟩
          have hst : Stp w2 w3 tb A M T T' := ⟨A', M', hst1, hst2, hst3⟩
          replace hst := Lib.hid hst
          clear hst1 hst2 hst3
          go_wp2
          go_ret
          exact ⟨rfl, hst.out.after hB02⟩
        · rw [if_pos hf]
          have hf2 : ((T.fresh (bl s)).2 != 0) = true := by simpa using hf
          generalize T.fresh (bl s) = fr at *
          obtain ⟨fd, fe⟩ := fr
          dsimp only at *
          clear hput hfo hf htn htl ht0 ht2 hN
          go_enter Tryz.func72, Tryz.ntmps72
          go_wp2_with fail
          refine (h1.out _).mono ?_
          rintro e w1 ⟨rfl, hB1⟩
          have hB01 := below_step hB0.out hB1
          have hblk1 := (hB1.block _ (Array.getElem?_eq_some_iff.1 hblk.out).1).trans hblk.out
          have hR1 := hR.out.below hB01
          replace hR1 := Lib.hid hR1
          replace hblk1 := Lib.hid hblk1
          go_wp2_with fail
          refine (h2.out _ hR1.out).mono ?_
          rintro e w2 ⟨rfl, hB2⟩
          have hB02 := below_step hB01 hB2
          have hR2 := hR1.out.below hB2
          have hlt := (Array.getElem?_eq_some_iff.1 hblk1.out).1
          have hblk2 := (hB2.block _ hlt).trans hblk1.out
          replace hR2 := Lib.hid hR2
          clear hblk2 h1 h2
          go_wp2
          go_ret
          exact ⟨rfl, Stp.same hR.out hB02⟩
  · rw [if_pos he]
    have he2 : (me != 0) = true := by simpa using he
    clear he hput h2 hfo htn htl
    go_enter Tryz.func72, Tryz.ntmps72
    go_wp2_with fail
    refine (h1.out _).mono ?_
    rintro e w1 ⟨rfl, hB1⟩
    have hB01 := below_step hB0.out hB1
    go_wp2
    go_ret
    exact ⟨rfl, Stp.same hR.out hB01⟩

end Go.Proofs.YtocbjhhnginebaaGreat

namespace Go.Proofs.YtocbjhhnginebaaGreat
open Go.RowKit

section
variable {w : World} {tb : Nat} {A M : Nat → Nat} {T : Fs}

/-- No thing comes; thing i's block and directory d's map may have turned. -/
theorem rep_change {w' : World} {T' : Fs} {i d : Nat} {pd : Pt} {dv : Value} (hR : Rep w tb A M T) (hI' : T'.Inv) (hd : (pd, d) ∈ T.names) (hk : (T.nd d).kind = 2) (hi : T.Live i)
    (hlive : ∀ j, T'.Live j → T.Live j) (hkind : ∀ j, T.Live j → (T'.nd j).kind = (T.nd j).kind) (hsame : ∀ j, j ≠ i → T'.nd j = T.nd j) (hnext : T'.next = T.next)
    (ht : Turn w w' (fun b => b = A i ∨ b = M d))
    (h2 : T'.Live i → w'.heap[A i]? = some (.cells (nodeCells (T'.nd i) i dv (kidsV (T'.nd i) (M i))) 110 (0, 0)) ∧ Dat w' dv (T'.nd i).data)
    (hother : ∀ q j, (q, j) ∈ T'.names → (T.nd j).kind = 2 → j ≠ d → ∃ q', (q', j) ∈ T.names ∧ (entries A (T'.kids q)).Perm (entries A (T.kids q')))
    (h5 : ∀ q, (q, d) ∈ T'.names → MapIs w' (M d) (entries A (T'.kids q))) :
    Rep w' tb A M T' := by
  have hI := hR.inv
  have hu8 : ∀ g : Nat, (∃ cs, w.heap[g]? = some (Obj.cells cs 5 (0, 0))) → w'.heap[g]? = w.heap[g]? := by
    rintro g ⟨cs, hg⟩
    refine ht.block g (Array.getElem?_eq_some_iff.1 hg).1 ?_
    rintro (rfl | rfl)
    · exact hR.not_own hg (by decide) (by decide) (Or.inr (Or.inl ⟨i, hi, rfl⟩))
    · exact hR.not_own hg (by decide) (by decide) (Or.inr (Or.inr ⟨d, ⟨_, hd⟩, hk, rfl⟩))
  refine ⟨hI', ?_, ?_, ?_, fun a b ha hb e => hR.injA a b (hlive a ha) (hlive b hb) e, fun a b ha hb hka hkb e => hR.injM a b (hlive a ha) (hlive b hb) (by rw [← hkind a (hlive a ha)]; exact hka) (by rw [← hkind b (hlive b hb)]; exact hkb) e⟩
  · rw [hnext]
    refine (ht.block tb (Array.getElem?_eq_some_iff.1 hR.tree).1 ?_).trans hR.tree
    rintro (e | e)
    · exact hR.node_tree hi e.symm
    · exact hR.map_tree hd hk e.symm
  · intro j hj
    by_cases e : j = i
    · subst e
      obtain ⟨h3, h4⟩ := h2 hj
      exact ⟨dv, h4, h3⟩
    · obtain ⟨dv', g1, g2⟩ := hR.node j (hlive j hj)
      rw [hsame j e]
      refine ⟨dv', g1.kept hu8, (ht.block _ (Array.getElem?_eq_some_iff.1 g2).1 ?_).trans g2⟩
      rintro (e2 | e2)
      · exact e (hR.injA j i (hlive j hj) hi e2)
      · exact hR.map_node hd hk (hlive j hj) e2.symm
  · intro q j hm hk2
    have hl := hlive j ⟨q, hm⟩
    rw [hkind j hl] at hk2
    by_cases e : j = d
    · subst e
      exact h5 q hm
    · obtain ⟨q', hq', hp⟩ := hother q j hm hk2 e
      have hM := hR.kids q' j hq' hk2
      refine (hM.of_block (ht.block _ hM.lt ?_)).perm hp
      rintro (e2 | e2)
      · exact hR.map_node hq' hk2 hi e2
      · exact e (hR.injM j d hl ⟨_, hd⟩ hk2 hk e2)

theorem own_change {T' : Fs} (hlive : ∀ j, T'.Live j → T.Live j) (hkind : ∀ j, T.Live j → (T'.nd j).kind = (T.nd j).kind) {b : Nat} (h : Own tb A M T' b) : Own tb A M T b := by
  rcases h with rfl | ⟨i, hi, rfl⟩ | ⟨i, hi, hk, rfl⟩
  · exact Or.inl rfl
  · exact Or.inr (Or.inl ⟨i, hlive i hi, rfl⟩)
  · exact Or.inr (Or.inr ⟨i, hlive i hi, by rw [← hkind i (hlive i hi)]; exact hk, rfl⟩)

/-- Another record of a thing. -/
theorem rep_set {w' : World} {p : Pt} {i : Nat} {n : Nd} {dv : Value} (hR : Rep w tb A M T) (hi : (p, i) ∈ T.names) (hN : NdOk n) (hk : n.kind = (T.nd i).kind) (hl : n.links = (T.nd i).links) (ht : Turn w w' (fun b => b = A i))
    (h2 : w'.heap[A i]? = some (.cells (nodeCells n i dv (kidsV n (M i))) 110 (0, 0))) (h3 : Dat w' dv n.data) : Rep w' tb A M (T.set i n) := by
  have hI := hR.inv
  have hnd : (T.set i n).nd i = n := by simp [Fs.set]
  have hM := hR.kids [] 1 hI.one hI.topKind
  refine rep_change (dv := dv) hR (set_inv hI hN hk hl) hI.one hI.topKind ⟨p, hi⟩ (fun j hj => hj) (fun j hj => ?_) (fun j hj => if_neg hj) rfl (ht.mono fun b _ h => Or.inl h) (fun _ => ?_) (fun q j hm _ _ => ⟨q, hm, .refl _⟩) (fun q hm => ?_)
  · by_cases e : j = i
    · subst e; rw [hnd, hk]
    · exact congrArg Nd.kind (if_neg e)
  · rw [hnd]; exact ⟨h2, h3⟩
  · have : q = [] := hI.dir_one hI.one hm hI.topKind
    subst this
    refine hM.of_block (ht.block _ hM.lt ?_)
    exact fun e => hR.map_node hI.one hI.topKind ⟨p, hi⟩ e

/-- Another name of a thing. -/
theorem rep_name {w' : World} {p q : Pt} {d i : Nat} {dv : Value} (hR : Rep w tb A M T) (hp : p ≠ []) (hP : Pth p) (hd : (p.dropLast, d) ∈ T.names) (hk : (T.nd d).kind = 2) (hn : T.at p = none) (hi : (q, i) ∈ T.names) (hf : (T.nd i).kind = 1)
    (ht : Turn w w' (fun b => b = A i ∨ b = M d)) (h2 : w'.heap[A i]? = some (.cells (nodeCells { T.nd i with links := (T.nd i).links + 1 } i dv (kidsV (T.nd i) (M i))) 110 (0, 0))) (h3 : Dat w' dv (T.nd i).data)
    (h5 : MapIs w' (M d) ((.string (mkS (p.getLastD [])), ptr (A i)) :: entries A (T.kids p.dropLast))) : Rep w' tb A M (T.name p i) := by
  have hI := hR.inv
  have hmem : ∀ r j, (r, j) ∈ (T.name p i).names ↔ (r, j) ∈ T.names ∨ (r = p ∧ j = i) := fun r j => by simp [Fs.name]
  have hnd : (T.name p i).nd i = { T.nd i with links := (T.nd i).links + 1 } := by simp [Fs.name]
  have hlive : ∀ j, (T.name p i).Live j → T.Live j := fun j ⟨r, hm⟩ => by
    rcases (hmem r j).1 hm with hm | ⟨_, rfl⟩
    · exact ⟨r, hm⟩
    · exact ⟨q, hi⟩
  have hold : ∀ r j, (r, j) ∈ (T.name p i).names → (T.nd j).kind = 2 → (r, j) ∈ T.names := fun r j hm hk2 => by
    rcases (hmem r j).1 hm with hm | ⟨_, rfl⟩
    · exact hm
    · rw [hf] at hk2; cases hk2
  refine rep_change (dv := dv) hR (name_inv hI hp hP hd hk hn hi hf) hd hk ⟨q, hi⟩ hlive (fun j hj => ?_) (fun j hj => if_neg hj) rfl ht (fun _ => ?_) (fun r j hm hk2 hjd => ?_) (fun r hm => ?_)
  · by_cases e : j = i
    · subst e; rw [hnd]
    · exact congrArg Nd.kind (if_neg e)
  · rw [hnd]; exact ⟨h2, h3⟩
  · have hm' := hold r j hm hk2
    refine ⟨r, hm', List.Perm.of_eq ?_⟩
    have : (T.name p i).kids r = T.kids r := by
      show kidsL (T.names ++ [(p, i)]) r = _
      rw [kidsL_append, kidsL_other p i (fun e => hjd ?_), List.append_nil]
      · rfl
      · subst e; exact hI.at_one hm' hd
    rw [this]
  · have hm' := hold r d hm hk
    have hr : r = p.dropLast := hI.dir_one hd hm' hk
    subst hr
    have hkid : (T.name p i).kids p.dropLast = T.kids p.dropLast ++ [(p.getLastD [], i)] := by
      show kidsL (T.names ++ [(p, i)]) _ = _
      rw [kidsL_append, kidsL_same p _ hp]
      rfl
    rw [hkid]
    refine h5.perm ?_
    unfold entries
    rw [List.map_append]
    exact List.perm_append_singleton _ _

/-- A name has gone. -/
theorem rep_gone {w' : World} {p : Pt} {d i : Nat} {dv : Value} {r : List (Value × Value)} (hR : Rep w tb A M T) (hp : p ≠ []) (hd : (p.dropLast, d) ∈ T.names) (hk : (T.nd d).kind = 2) (hi : (p, i) ∈ T.names) (h0 : T.kids p = [])
    (ht : Turn w w' (fun b => b = A i ∨ b = M d)) (h2 : w'.heap[A i]? = some (.cells (nodeCells { T.nd i with links := (T.nd i).links - 1 } i dv (kidsV (T.nd i) (M i))) 110 (0, 0))) (h3 : Dat w' dv (T.nd i).data)
    (hr : (entries A (T.kids p.dropLast)).Perm ((.string (mkS (p.getLastD [])), ptr (A i)) :: r)) (h5 : MapIs w' (M d) r) : Rep w' tb A M (T.gone p i) := by
  have hI := hR.inv
  have hnd : (T.gone p i).nd i = { T.nd i with links := (T.nd i).links - 1 } := by simp [Fs.gone]
  have hmem : ∀ q j, (q, j) ∈ (T.gone p i).names ↔ (q, j) ∈ T.names ∧ q ≠ p := mem_gone
  refine rep_change (dv := dv) hR (gone_inv hI hi hp h0) hd hk ⟨p, hi⟩ (fun j ⟨q, hm⟩ => ⟨q, ((hmem q j).1 hm).1⟩) (fun j hj => ?_) (fun j hj => if_neg hj) rfl ht (fun _ => ?_) (fun q j hm hk2 hjd => ?_) (fun q hm => ?_)
  · by_cases e : j = i
    · subst e; rw [hnd]
    · exact congrArg Nd.kind (if_neg e)
  · rw [hnd]; exact ⟨h2, h3⟩
  · have hm' := ((hmem q j).1 hm).1
    refine ⟨q, hm', List.Perm.of_eq ?_⟩
    have : (T.gone p i).kids q = T.kids q := kidsL_gone_other hI.nodup hi (fun e => hjd (by subst e; exact hI.at_one hm' hd))
    rw [this]
  · have hm' := ((hmem q d).1 hm).1
    have hq : q = p.dropLast := hI.dir_one hd hm' hk
    subst hq
    refine h5.perm ?_
    have h6 : (entries A (T.kids p.dropLast)).Perm ((.string (mkS (p.getLastD [])), ptr (A i)) :: entries A ((T.gone p i).kids p.dropLast)) := (kidsL_gone hI.nodup hi hp).map _
    exact (List.perm_cons _).1 (h6.symm.trans hr)

end

end Go.Proofs.YtocbjhhnginebaaGreat

namespace Go.Proofs.YtocbjhhnginebaaGreat
open Go.RowKit

def Fs.setM (T : Fs) (s : Bytes) (m : Mt) : Fs × Int :=
  if mayE s m ≠ 0 then (T, mayE s m) else if (T.there s).2.2 ≠ 0 then (T, (T.there s).2.2) else
  match (T.there s).1 with
  | some i => (T.set i { T.nd i with mt := m }, 0)
  | none => (T, 0)

theorem Stp.of_turn {w w' : World} {tb : Nat} {A M : Nat → Nat} {T T' : Fs} (h : Rep w' tb A M T') (ht : Turn w w' (Own tb A M T)) (hlive : ∀ j, T'.Live j → T.Live j) (hkind : ∀ j, T.Live j → (T'.nd j).kind = (T.nd j).kind) : Stp w w' tb A M T T' :=
  ⟨A, M, h, ht, fun _ hb => Or.inl (own_change hlive hkind hb)⟩

theorem set_kind {T : Fs} {i : Nat} {n : Nd} (hk : n.kind = (T.nd i).kind) (j : Nat) : ((T.set i n).nd j).kind = (T.nd j).kind := by
  by_cases e : j = i
  · subst e
    have : (T.set j n).nd j = n := by simp [Fs.set]
    rw [this, hk]
  · exact congrArg Nd.kind (if_neg e)

theorem mt_stp {w : World} {tb : Nat} {A M : Nat → Nat} {T : Fs} {p : Pt} {i : Nat} (hR : Rep w tb A M T) (hi : (p, i) ∈ T.names) (a1 a2 a3 a4 a5 : Int) :
    Stp w (((((w.setCell ⟨A i, 4, none⟩ (.int .i64 a1)).setCell ⟨A i, 5, none⟩ (.int .i64 a2)).setCell ⟨A i, 6, none⟩ (.int .i64 a3)).setCell ⟨A i, 7, none⟩ (.int .i64 a4)).setCell ⟨A i, 8, none⟩ (.int .i64 a5)) tb A M T (T.set i { T.nd i with mt := ⟨a1, a2, a3, a4, a5⟩ }) := by
  obtain ⟨dv, h1, h2⟩ := hR.node i ⟨p, hi⟩
  have ht : Turn w (((((w.setCell ⟨A i, 4, none⟩ (.int .i64 a1)).setCell ⟨A i, 5, none⟩ (.int .i64 a2)).setCell ⟨A i, 6, none⟩ (.int .i64 a3)).setCell ⟨A i, 7, none⟩ (.int .i64 a4)).setCell ⟨A i, 8, none⟩ (.int .i64 a5)) (fun b => b = A i) :=
    by
    iterate 5 refine turn_set (S := fun b => b = A i) ?_ rfl _ _
    exact Turn.refl _ _
  have hu8 := hR.bytes_kept ht (fun b hb => Or.inl (Or.inr (Or.inl ⟨i, ⟨p, hi⟩, hb⟩)))
  refine Stp.of_turn (rep_set (dv := dv) hR hi ⟨hR.inv.kinds p i hi, hR.inv.data p i hi, hR.inv.plain p i hi⟩ rfl rfl ht ?_ (h1.kept hu8)) (ht.mono fun b _ hb => Or.inr (Or.inl ⟨i, ⟨p, hi⟩, hb⟩)) (fun j hj => hj) (fun j _ => set_kind (n := { T.nd i with mt := ⟨a1, a2, a3, a4, a5⟩ }) rfl j)
  exact heap_set_same (heap_set_same (heap_set_same (heap_set_same (heap_set_same h2 4 _) 5 _) 6 _) 7 _) 8 _

set_option maxHeartbeats 2000000 in
set_option maxRecDepth 100000 in
theorem set_calls (tb : Nat) (A M : Nat → Nat) (T : Fs) (s : ByteArray) (m : Mt) (w : World) (hR : Rep w tb A M T) (hs : s.size ≤ 16777216) :
    Calls Tryz.prog 42 #[ptr tb, .string s, mtV m] w fun e w' => e = .returned (.int .i64 (T.setM (bl s) m).2) ∧ Stp w w' tb A M T (T.setM (bl s) m).1 := by
  have h1 := fun W => may_calls tb s m W hs
  have h2 := fun W hW => there_calls tb A M T s W hW hs
  have hto := hR.inv.there_ok (s := bl s)
  unfold Fs.setM
  have hme : (if right (bl s) then if metaOk m then (0 : Int) else 2 else 9) = mayE (bl s) m := rfl
  rw [hme] at h1
  generalize mayE (bl s) m = me at *
  generalize T.there (bl s) = th at *
  obtain ⟨n, dd, te⟩ := th
  obtain ⟨a1, a2, a3, a4, a5⟩ := m
  unfold mtV mtCells ptr at *
  dsimp only at *
  have hB0 : Below w.heap.size w (w.alloc (.cells #[.int .i64 a1, .int .i64 a2, .int .i64 a3, .int .i64 a4, .int .i64 a5] 40)) := (Below.refl _ _).alloc (Nat.le_refl _) _
  have hblk := (MapKept.heap_alloc w (.cells #[.int .i64 a1, .int .i64 a2, .int .i64 a3, .int .i64 a4, .int .i64 a5] 40)).1
  replace h1 := Lib.hid h1
  replace h2 := Lib.hid h2
  replace hblk := Lib.hid hblk
  replace hB0 := Lib.hid hB0
  replace hR := Lib.hid hR
  clear hme
  by_cases he : me = 0
  · subst he
    rw [if_neg (by simp)]
    by_cases hf : te = 0
    · subst hf
      rw [if_neg (by simp)]
      obtain ⟨_, i, rfl, hi, _⟩ := hto rfl
      have hmt := fun W hW => mt_stp (w := W) (tb := tb) (A := A) (M := M) hW hi a1 a2 a3 a4 a5
      dsimp only
      have hlive : T.Live i := ⟨_, hi⟩
      clear hto
      replace hmt := Lib.hid hmt
      go_enter Tryz.func42, Tryz.ntmps42
      go_wp2_with fail
      refine (h1.out _).mono ?_
      rintro e w1 ⟨rfl, hB1⟩
      have hB01 := below_step hB0.out hB1
      have hblk1 := (hB1.block _ (Array.getElem?_eq_some_iff.1 hblk.out).1).trans hblk.out
      have hR1 := hR.out.below hB01
      replace hR1 := Lib.hid hR1
      replace hblk1 := Lib.hid hblk1
      go_wp2_with fail
      refine (h2.out _ hR1.out).mono ?_
      rintro e w2 ⟨rfl, hB2⟩
      have hB02 := below_step hB01 hB2
      have hR2 := hR1.out.below hB2
      have hlt := (Array.getElem?_eq_some_iff.1 hblk1.out).1
      have hblk2 := (hB2.block _ hlt).trans hblk1.out
      replace hR2 := Lib.hid hR2
      rw [optPtr_some]
      have d0 := cell_of (j := 0) hblk2 rfl
      have d1 := cell_of (j := 1) hblk2 rfl
      have d2 := cell_of (j := 2) hblk2 rfl
      have d3 := cell_of (j := 3) hblk2 rfl
      have d4 := cell_of (j := 4) hblk2 rfl
      obtain ⟨dv, _, hnode⟩ := hR2.out.node i hlive
      have f1 : ∀ k, w2.frozen? ⟨A i, k, none⟩ = false := fun k => by simp [World.frozen?, hnode]
      have c4 : w2.cell? ⟨A i, 4, none⟩ = some (.int .i64 (T.nd i).mt.mode) := cell_of hnode rfl
      have c5 : w2.cell? ⟨A i, 5, none⟩ = some (.int .i64 (T.nd i).mt.sec) := cell_of hnode rfl
      have c6 : w2.cell? ⟨A i, 6, none⟩ = some (.int .i64 (T.nd i).mt.nano) := cell_of hnode rfl
      have c7 : w2.cell? ⟨A i, 7, none⟩ = some (.int .i64 (T.nd i).mt.uid) := cell_of hnode rfl
      have c8 : w2.cell? ⟨A i, 8, none⟩ = some (.int .i64 (T.nd i).mt.gid) := cell_of hnode rfl
      have hst := hmt.out w2 hR2.out
      replace hst := Lib.hid hst
      clear hblk2 h1 h2 hmt hnode
      go_wp2
      go_ret
      exact ⟨rfl, hst.out.after hB02⟩
    · rw [if_pos hf]
      have hf2 : (te != 0) = true := by simpa using hf
      dsimp only at *
      clear hto hf
      go_enter Tryz.func42, Tryz.ntmps42
      go_wp2_with fail
      refine (h1.out _).mono ?_
      rintro e w1 ⟨rfl, hB1⟩
      have hB01 := below_step hB0.out hB1
      have hblk1 := (hB1.block _ (Array.getElem?_eq_some_iff.1 hblk.out).1).trans hblk.out
      have hR1 := hR.out.below hB01
      replace hR1 := Lib.hid hR1
      replace hblk1 := Lib.hid hblk1
      go_wp2_with fail
      refine (h2.out _ hR1.out).mono ?_
      rintro e w2 ⟨rfl, hB2⟩
      have hB02 := below_step hB01 hB2
      have hR2 := hR1.out.below hB2
      have hlt := (Array.getElem?_eq_some_iff.1 hblk1.out).1
      have hblk2 := (hB2.block _ hlt).trans hblk1.out
      replace hR2 := Lib.hid hR2
      clear hblk2 h1 h2
      go_wp2
      go_ret
      exact ⟨rfl, Stp.same hR.out hB02⟩
  · rw [if_pos he]
    have he2 : (me != 0) = true := by simpa using he
    clear he h2 hto
    go_enter Tryz.func42, Tryz.ntmps42
    go_wp2_with fail
    refine (h1.out _).mono ?_
    rintro e w1 ⟨rfl, hB1⟩
    have hB01 := below_step hB0.out hB1
    go_wp2
    go_ret
    exact ⟨rfl, Stp.same hR.out hB01⟩

end Go.Proofs.YtocbjhhnginebaaGreat

namespace Go.Proofs.YtocbjhhnginebaaGreat
open Go.RowKit

theorem namesOf_le (l : List (Pt × Nat)) (i : Nat) : namesOf l i ≤ l.length := List.length_filter_le _ _

theorem kids_split {A : Nat → Nat} {T : Fs} (hI : T.Inv) {p : Pt} (hp : p ≠ []) {i : Nat} (hi : (p, i) ∈ T.names) :
    ∃ r, (entries A (T.kids p.dropLast)).Perm ((.string (mkS (p.getLastD [])), ptr (A i)) :: r) := ⟨_, (kidsL_gone hI.nodup hi hp).map _⟩

set_option maxHeartbeats 2000000 in
set_option maxRecDepth 100000 in
theorem out_calls (tb : Nat) (A M : Nat → Nat) (T : Fs) (s : ByteArray) (d i : Nat) (w : World) (hR : Rep w tb A M T) (hs : s.size ≤ 16777216) (hne : bl s ≠ []) (hd : ((split (bl s)).dropLast, d) ∈ T.names) (hk : (T.nd d).kind = 2)
    (hi : (split (bl s), i) ∈ T.names) (h0 : T.kids (split (bl s)) = []) (hf : T.names.length ≤ 1000000) :
    Calls Tryz.prog 86 #[ptr (A d), .string s] w fun e w' => e = .returned (.tuple #[]) ∧ Rep w' tb A M (T.gone (split (bl s)) i) ∧ Turn w w' (fun b => b = A i ∨ b = M d) := by
  have hb := fun W => base_calls s W (by unfold maxLen; omega)
  have hsb := split_base hne
  have hpne : split (bl s) ≠ [] := fun e => hne (split_eq_nil e)
  have hbase : base (bl s) = (split (bl s)).getLastD [] := rfl
  have hI := hR.inv
  have hlk := hR.look hd hk (base (bl s))
  rw [hsb, hI.at_some.2 hi, optPtr_some] at hlk
  have hM := hR.kids _ d hd hk
  obtain ⟨dv, hdv, hnode⟩ := hR.node i ⟨_, hi⟩
  obtain ⟨dvd, _, hnd⟩ := hR.node d ⟨_, hd⟩
  have hMn : M d ≠ A i := hR.map_node hd hk ⟨_, hi⟩
  have hl1 := hI.links _ i hi
  have hl2 := namesOf_le T.names i
  obtain ⟨r, hr⟩ := kids_split (A := A) hI hpne hi
  rw [← hbase] at hr
  obtain ⟨w1, hw1⟩ : ∃ x, x = w.setCell ⟨A i, 3, none⟩ (.int .i64 ((T.nd i).links - 1)) := ⟨_, rfl⟩
  have n1 := heap_set_same hnode 3 (.int .i64 ((T.nd i).links - 1))
  rw [← hw1] at n1
  have hM1 : MapIs w1 (M d) (entries A (T.kids (split (bl s)).dropLast)) := hM.of_block (by rw [hw1]; exact heap_set_other w hMn 3 _)
  have hkey := keyable_string Tryz.underlying9 w1 (mkS (base (bl s))) (entries_keys A (T.kids (split (bl s)).dropLast))
  have hdrop := fun ty => hM1.drop_hit under_kids hkey hr ty
  have d1c : w1.cell? ⟨A d, 11, none⟩ = some (.map (some (M d))) := by
    by_cases e : A d = A i
    · have := hR.injA d i ⟨_, hd⟩ ⟨_, hi⟩ e
      subst this
      have := cell_of (j := 11) n1 (v := kidsV (T.nd d) (M d)) rfl
      rwa [kidsV, if_pos hk] at this
    · have h3 : w1.heap[A d]? = some (.cells (nodeCells (T.nd d) d dvd (kidsV (T.nd d) (M d))) 110 (0, 0)) := by rw [hw1]; exact (heap_set_other w e 3 _).trans hnd
      have := cell_of (j := 11) h3 (v := kidsV (T.nd d) (M d)) rfl
      rwa [kidsV, if_pos hk] at this
  have d0c : w.cell? ⟨A d, 11, none⟩ = some (.map (some (M d))) := by
    have := cell_of (j := 11) hnd (v := kidsV (T.nd d) (M d)) rfl
    rwa [kidsV, if_pos hk] at this
  have c3 : w.cell? ⟨A i, 3, none⟩ = some (.int .i64 (T.nd i).links) := cell_of hnode rfl
  have f3 : w.frozen? ⟨A i, 3, none⟩ = false := by simp [World.frozen?, hnode]
  have hwr : IntKind.i64.wrap ((T.nd i).links - 1) = (T.nd i).links - 1 := IntWalk.i64_in _ (by omega)
  have hfin : ∀ w2, MapIs w2 (M d) r → w1.mapTurned w2 (M d) → Rep w2 tb A M (T.gone (split (bl s)) i) ∧ Turn w w2 (fun b => b = A i ∨ b = M d) := by
    intro w2 hm2 ht2
    have hg2 := ht2.grown
    have ht1 : Turn w w1 (fun b => b = A i ∨ b = M d) := by
      rw [hw1]
      exact turn_set (S := fun b => b = A i ∨ b = M d) (Turn.refl _ _) (Or.inl rfl) _ _
    have htt : Turn w w2 (fun b => b = A i ∨ b = M d) := ht1.trans (Turn.of_grown hg2 (fun j e => by cases e; exact Or.inl (Or.inr rfl)))
    refine ⟨rep_gone (dv := dv) hR hpne hd hk hi h0 htt ?_ (hdv.kept (hR.bytes_kept htt ?_)) (by rw [← hbase]; exact hr) hm2, htt⟩
    · exact (hg2.block _ (Array.getElem?_eq_some_iff.1 n1).1 (by simpa using hMn.symm)).trans n1
    · rintro b (rfl | rfl)
      · exact Or.inl (Or.inr (Or.inl ⟨i, ⟨_, hi⟩, rfl⟩))
      · exact Or.inl (Or.inr (Or.inr ⟨d, ⟨_, hd⟩, hk, rfl⟩))
  replace hb := Lib.hid hb
  replace hdrop := Lib.hid hdrop
  replace hfin := Lib.hid hfin
  clear hM1 hkey hr n1 hnd hnode hdv hM hl1 hl2 hI hbase hsb hR
  rw [hw1] at d1c
  replace hw1 := Lib.hid hw1
  replace d1c := Lib.hid d1c
  generalize (T.nd i).links = lk at *
  obtain ⟨lk1, hlk1⟩ : ∃ x, x = lk - 1 := ⟨_, rfl⟩
  have hwr2 : IntKind.i64.wrap (lk - 1) = lk1 := hwr.trans hlk1.symm
  rw [← hlk1] at hw1 d1c
  replace hlk1 := Lib.hid hlk1
  clear hwr
  have d1c' := d1c.out
  unfold ptr
  go_enter Tryz.func86, Tryz.ntmps86
  go_wp2_with fail
  refine (hb.out _).mono ?_
  rintro e w' ⟨rfl, rfl⟩
  obtain ⟨w2, hrun, hm2, ht2⟩ := hdrop.out 0
  have hf2 := hfin.out w2 hm2 ht2
  rw [hw1.out] at hrun
  replace hrun := Lib.hid hrun
  replace hf2 := Lib.hid hf2
  clear hdrop hfin hm2 ht2 hw1
  go_wp2_with (at_delete; refine wp_drop _ rfl _ _ 108 9 rfl (.map (some (M d))) (.string (mkS (base (bl s)))) rfl rfl w2 hrun.out ?_)
  go_wp2
  go_end0
  exact ⟨rfl, hf2.out⟩

set_option maxHeartbeats 2000000 in
set_option maxRecDepth 100000 in
theorem out_none (tb : Nat) (A M : Nat → Nat) (T : Fs) (s : ByteArray) (d : Nat) (w : World) (hR : Rep w tb A M T) (hs : s.size ≤ 16777216) (hne : bl s ≠ []) (hd : ((split (bl s)).dropLast, d) ∈ T.names) (hk : (T.nd d).kind = 2)
    (hi : T.at (split (bl s)) = none) :
    Calls Tryz.prog 86 #[ptr (A d), .string s] w fun e w' => e = .returned (.tuple #[]) ∧ w = w' := by
  have hb := fun W => base_calls s W (by unfold maxLen; omega)
  have hsb := split_base hne
  have hlk := hR.look hd hk (base (bl s))
  rw [hsb, hi, optPtr_none] at hlk
  obtain ⟨dvd, _, hnd⟩ := hR.node d ⟨_, hd⟩
  have d0c : w.cell? ⟨A d, 11, none⟩ = some (.map (some (M d))) := by
    have := cell_of (j := 11) hnd (v := kidsV (T.nd d) (M d)) rfl
    rwa [kidsV, if_pos hk] at this
  replace hb := Lib.hid hb
  clear hnd hsb hR hi
  unfold ptr
  go_enter Tryz.func86, Tryz.ntmps86
  go_wp2_with fail
  refine (hb.out _).mono ?_
  rintro e w' ⟨rfl, rfl⟩
  go_wp2
  go_end0
  exact ⟨rfl, rfl⟩

end Go.Proofs.YtocbjhhnginebaaGreat

namespace Go.Proofs.YtocbjhhnginebaaGreat
open Go.RowKit

def Fs.remove (T : Fs) (s : Bytes) : Fs × Int :=
  if right s = false then (T, 9) else if s = [] then (T, 2) else if (T.there s).2.2 ≠ 0 then (T, (T.there s).2.2) else
  match (T.there s).1 with
  | some i => if T.kids (split s) ≠ [] then (T, 14) else (T.gone (split s) i, 0)
  | none => (T, 0)

theorem kids_file {T : Fs} (hI : T.Inv) {p : Pt} {i : Nat} (hi : (p, i) ∈ T.names) (hk : (T.nd i).kind ≠ 2) : T.kids p = [] := by
  cases hc : T.kids p with
  | nil => rfl
  | cons x r =>
    have : (p ++ [x.1], x.2) ∈ T.names := mem_kidsL.1 (by show (x.1, x.2) ∈ T.kids p; rw [hc]; exact List.mem_cons_self ..)
    obtain ⟨j, hj, hj2⟩ := hI.up _ _ this (by simp)
    rw [List.dropLast_concat] at hj
    have := hI.at_one hi hj
    subst this
    exact absurd hj2 hk

theorem gone_live {T : Fs} {p : Pt} {i j : Nat} (h : (T.gone p i).Live j) : T.Live j := by
  obtain ⟨q, hm⟩ := h
  exact ⟨q, ((mem_gone q j).1 hm).1⟩
theorem gone_kind {T : Fs} {p : Pt} {i : Nat} (j : Nat) : ((T.gone p i).nd j).kind = (T.nd j).kind := by
  by_cases e : j = i
  · subst e; simp [Fs.gone]
  · exact congrArg Nd.kind (if_neg e)

/-- How many stand in a directory, as the program counts them. -/
theorem Rep.len_kids {w : World} {tb : Nat} {A M : Nat → Nat} {T : Fs} (h : Rep w tb A M T) {p : Pt} {i : Nat} (hi : (p, i) ∈ T.names) (ty : TypeId) :
    (Builtin.len_ #[108] ty #[kidsV (T.nd i) (M i)]).run Tryz.prog w = .ok (.int .i64 (T.kids p).length) w := by
  by_cases hk : (T.nd i).kind = 2
  · rw [kidsV, if_pos hk, (h.kids p i hi hk).len under_kids ty]
    simp [entries]
  · rw [kidsV, if_neg hk, kids_file h.inv hi hk]
    simp [Builtin.len_, run_underlying under_kids, goInt, Result.andThen]

set_option maxHeartbeats 2000000 in
set_option maxRecDepth 100000 in
theorem remove_calls (tb : Nat) (A M : Nat → Nat) (T : Fs) (s : ByteArray) (w : World) (hR : Rep w tb A M T) (hs : s.size ≤ 16777216) (hf : T.names.length ≤ 1000000) :
    Calls Tryz.prog 43 #[ptr tb, .string s] w fun e w' => e = .returned (.int .i64 (T.remove (bl s)).2) ∧ Stp w w' tb A M T (T.remove (bl s)).1 := by
  have h1 := fun W => right_calls s W hs
  have h2 := fun W hW => there_calls tb A M T s W hW hs
  have hto := hR.inv.there_ok (s := bl s)
  have hn := str_nil s
  unfold Fs.remove
  generalize T.there (bl s) = th at *
  obtain ⟨n, dd, te⟩ := th
  unfold ptr at *
  dsimp only at *
  replace h1 := Lib.hid h1
  replace h2 := Lib.hid h2
  replace hR := Lib.hid hR
  cases hr : right (bl s) with
  | false =>
    rw [if_pos rfl]
    rw [hr] at h1
    clear h2 hto hn hr
    go_enter Tryz.func43, Tryz.ntmps43
    go_wp2_with fail
    refine (h1.out _).mono ?_
    rintro e w1 ⟨rfl, hB1⟩
    go_wp2
    go_ret
    exact ⟨rfl, Stp.same hR.out hB1⟩
  | true =>
    rw [if_neg (by simp)]
    rw [hr] at h1
    by_cases hnil : bl s = []
    · rw [if_pos hnil]
      have hn2 : s.toList.isEmpty = true := by rw [hn, hnil]; rfl
      clear h2 hto hn hr hnil
      go_enter Tryz.func43, Tryz.ntmps43
      go_wp2_with fail
      refine (h1.out _).mono ?_
      rintro e w1 ⟨rfl, hB1⟩
      go_wp2
      go_ret
      exact ⟨rfl, Stp.same hR.out hB1⟩
    · rw [if_neg hnil]
      have hn2 : s.toList.isEmpty = false := by rw [hn]; simpa using hnil
      by_cases he : te = 0
      · subst he
        rw [if_neg (by simp)]
        obtain ⟨_, i, rfl, hi, hc⟩ := hto rfl
        rcases hc with ⟨h0, _⟩ | ⟨_, d, rfl, hd, hdk⟩
        · exact absurd h0 hnil
        have hlk := fun W hW => Rep.len_kids (w := W) (tb := tb) (A := A) (M := M) hW hi
        dsimp only
        clear hto hn hr
        by_cases hkd : T.kids (split (bl s)) = []
        · rw [if_neg (by simp [hkd])]
          have h3 := fun W hW => out_calls tb A M T s d i W hW hs hnil hd hdk hi hkd hf
          rw [hkd] at hlk
          unfold ptr at h3
          clear hnil hkd
          replace h3 := Lib.hid h3
          replace hlk := Lib.hid hlk
          go_enter Tryz.func43, Tryz.ntmps43
          go_wp2_with fail
          refine (h1.out _).mono ?_
          rintro e w1 ⟨rfl, hB1⟩
          go_wp2_with fail
          refine (h2.out _ (hR.out.below hB1)).mono ?_
          rintro e w2 ⟨rfl, hB2⟩
          have hB := below_step hB1 hB2
          have hR2 := hR.out.below hB
          obtain ⟨dv, _, hnode⟩ := hR2.node i ⟨_, hi⟩
          have c11 : w2.cell? ⟨A i, 11, none⟩ = some (kidsV (T.nd i) (M i)) := cell_of hnode rfl
          have hlen := hlk.out w2 hR2
          have h4 := h3.out w2 hR2
          rw [optPtr_some, optPtr_some]
          generalize kidsV (T.nd i) (M i) = kv at *
          replace hR2 := Lib.hid hR2
          replace h4 := Lib.hid h4
          clear hnode
          go_wp2_with fail
          refine h4.out.mono ?_
          rintro e w3 ⟨rfl, hr3, ht3⟩
          have hst : Stp w2 w3 tb A M T (T.gone (split (bl s)) i) := Stp.of_turn hr3 (ht3.mono (by
            rintro b _ (rfl | rfl)
            · exact Or.inr (Or.inl ⟨i, ⟨_, hi⟩, rfl⟩)
            · exact Or.inr (Or.inr ⟨d, ⟨_, hd⟩, hdk, rfl⟩))) (fun j hj => gone_live hj) (fun j _ => gone_kind j)
          replace hst := Lib.hid hst
          clear hr3 ht3
          go_wp2
          go_ret
          exact ⟨rfl, hst.out.after hB⟩
        · rw [if_pos hkd]
          have hpos : (0 : Int) < ((T.kids (split (bl s))).length : Int) := by
            have : (T.kids (split (bl s))).length ≠ 0 := fun e => hkd (List.eq_nil_of_length_eq_zero e)
            omega
          clear hnil hkd
          replace hlk := Lib.hid hlk
          go_enter Tryz.func43, Tryz.ntmps43
          go_wp2_with fail
          refine (h1.out _).mono ?_
          rintro e w1 ⟨rfl, hB1⟩
          go_wp2_with fail
          refine (h2.out _ (hR.out.below hB1)).mono ?_
          rintro e w2 ⟨rfl, hB2⟩
          have hB := below_step hB1 hB2
          have hR2 := hR.out.below hB
          obtain ⟨dv, _, hnode⟩ := hR2.node i ⟨_, hi⟩
          have c11 : w2.cell? ⟨A i, 11, none⟩ = some (kidsV (T.nd i) (M i)) := cell_of hnode rfl
          have hlen := hlk.out w2 hR2
          rw [optPtr_some, optPtr_some]
          generalize kidsV (T.nd i) (M i) = kv at *
          replace hR2 := Lib.hid hR2
          clear hnode
          go_wp2
          go_ret
          exact ⟨rfl, Stp.same hR.out hB⟩
      · rw [if_pos he]
        have he2 : (te != 0) = true := by simpa using he
        clear hto hn hr hnil he
        go_enter Tryz.func43, Tryz.ntmps43
        go_wp2_with fail
        refine (h1.out _).mono ?_
        rintro e w1 ⟨rfl, hB1⟩
        go_wp2_with fail
        refine (h2.out _ (hR.out.below hB1)).mono ?_
        rintro e w2 ⟨rfl, hB2⟩
        have hB := below_step hB1 hB2
        go_wp2
        go_ret
        exact ⟨rfl, Stp.same hR.out hB⟩

end Go.Proofs.YtocbjhhnginebaaGreat

namespace Go.Proofs.YtocbjhhnginebaaGreat
open Go.RowKit

def Fs.link (T : Fs) (o p : Bytes) : Fs × Int :=
  if right o = false ∨ right p = false then (T, 9) else if (T.there o).2.2 ≠ 0 then (T, (T.there o).2.2) else
  match (T.there o).1 with
  | some i => if notFile (T.nd i) ≠ 0 then (T, notFile (T.nd i)) else if (T.fresh p).2 ≠ 0 then (T, (T.fresh p).2) else (T.name (split p) i, 0)
  | none => (T, 0)

theorem name_live {T : Fs} {p q : Pt} {i j : Nat} (hi : (q, i) ∈ T.names) (h : (T.name p i).Live j) : T.Live j := by
  obtain ⟨r, hm⟩ := h
  simp only [Fs.name, List.mem_append, List.mem_singleton, Prod.mk.injEq] at hm
  rcases hm with hm | ⟨_, rfl⟩
  · exact ⟨r, hm⟩
  · exact ⟨q, hi⟩
theorem name_kind {T : Fs} {p : Pt} {i : Nat} (j : Nat) : ((T.name p i).nd j).kind = (T.nd j).kind := by
  by_cases e : j = i
  · subst e; simp [Fs.name]
  · exact congrArg Nd.kind (if_neg e)

theorem notFile_zero {T : Fs} (hI : T.Inv) {p : Pt} {i : Nat} (hi : (p, i) ∈ T.names) (h : notFile (T.nd i) = 0) : (T.nd i).kind = 1 := by
  unfold notFile at h
  rcases hI.kinds p i hi with e | e | e
  · exact e
  · rw [if_pos e] at h; cases h
  · rw [if_neg (by rw [e]; decide), if_pos e] at h; cases h

/-- The two last steps of a Link: the name is stored, the links are one more. -/
theorem link_end {w : World} {tb : Nat} {A M : Nat → Nat} {T : Fs} {s : ByteArray} {q : Pt} {d i : Nat} (hR : Rep w tb A M T) (hr : right (bl s) = true) (hne : bl s ≠ []) (hd : ((split (bl s)).dropLast, d) ∈ T.names) (hk : (T.nd d).kind = 2) (hn : T.at (split (bl s)) = none)
    (hi : (q, i) ∈ T.names) (hf : (T.nd i).kind = 1) (hfew : T.names.length ≤ 1000000) :
    ∃ w1, (Instr.mapUpdate 108 (.map (some (M d))) (.string (mkS (base (bl s)))) (ptr (A i))).run Tryz.prog w.drew = .ok () w1 ∧ w1.cell? ⟨A i, 3, none⟩ = some (.int .i64 (T.nd i).links) ∧ w1.frozen? ⟨A i, 3, none⟩ = false ∧
      IntKind.i64.wrap ((T.nd i).links + 1) = (T.nd i).links + 1 ∧ Stp w (w1.setCell ⟨A i, 3, none⟩ (.int .i64 ((T.nd i).links + 1))) tb A M T (T.name (split (bl s)) i) := by
  have hI := hR.inv
  have hsb := split_base hne
  have hpne : split (bl s) ≠ [] := fun e => hne (split_eq_nil e)
  have hbase : base (bl s) = (split (bl s)).getLastD [] := rfl
  have hM := hR.kids _ d hd hk
  obtain ⟨dv, hdv, hnode⟩ := hR.node i ⟨_, hi⟩
  have hMn : M d ≠ A i := hR.map_node hd hk ⟨_, hi⟩
  have hl1 := hI.links _ i hi
  have hl2 := namesOf_le T.names i
  have hkey := keyable_string Tryz.underlying9 w.drew (mkS (base (bl s))) (entries_keys A (T.kids (split (bl s)).dropLast))
  have hmiss : ∀ q ∈ entries A (T.kids (split (bl s)).dropLast), q.1 ≠ .string (mkS (base (bl s))) := by
    intro q hq e
    obtain ⟨⟨y, j⟩, hy, rfl⟩ := List.mem_map.1 hq
    simp only [Value.string.injEq] at e
    rw [mkS_inj e] at hy
    have := hI.kids_at.1 hy
    rw [hsb, hn] at this
    cases this
  have hMd : MapIs w.drew (M d) (entries A (T.kids (split (bl s)).dropLast)) := hM
  obtain ⟨w1, hrun, hm1, ht1⟩ := hMd.store_new under_kids (v := ptr (A i)) hkey hmiss
  have hg1 := ht1.grown
  have hn1 := (hg1.block (A i) (Array.getElem?_eq_some_iff.1 hnode).1 (by simpa using hMn.symm)).trans hnode
  have htt : Turn w (w1.setCell ⟨A i, 3, none⟩ (.int .i64 ((T.nd i).links + 1))) (fun b => b = A i ∨ b = M d) := by
    refine turn_set (S := fun b => b = A i ∨ b = M d) ?_ (Or.inl rfl) _ _
    have h0 : Turn w w.drew (fun b => b = A i ∨ b = M d) := (Turn.refl w _).drewN 1
    exact h0.trans (Turn.of_grown hg1 (fun j e => by cases e; exact Or.inl (Or.inr rfl)))
  have hrep : Rep (w1.setCell ⟨A i, 3, none⟩ (.int .i64 ((T.nd i).links + 1))) tb A M (T.name (split (bl s)) i) := by
    refine rep_name (dv := dv) hR hpne ⟨_, hr, rfl⟩ hd hk hn hi hf htt (heap_set_same hn1 3 _) (hdv.kept (hR.bytes_kept htt ?_)) ?_
    · rintro b (rfl | rfl)
      · exact Or.inl (Or.inr (Or.inl ⟨i, ⟨_, hi⟩, rfl⟩))
      · exact Or.inl (Or.inr (Or.inr ⟨d, ⟨_, hd⟩, hk, rfl⟩))
    · rw [← hbase]
      exact hm1.of_block (heap_set_other w1 hMn 3 _)
  refine ⟨w1, hrun, cell_of hn1 rfl, by simp [World.frozen?, hn1], IntWalk.i64_in _ (by omega), Stp.of_turn hrep (htt.mono ?_) (fun j hj => name_live hi hj) (fun j _ => name_kind j)⟩
  rintro b _ (rfl | rfl)
  · exact Or.inr (Or.inl ⟨i, ⟨_, hi⟩, rfl⟩)
  · exact Or.inr (Or.inr ⟨d, ⟨_, hd⟩, hk, rfl⟩)

set_option maxHeartbeats 2000000 in
set_option maxRecDepth 100000 in
theorem link_calls (tb : Nat) (A M : Nat → Nat) (T : Fs) (o s : ByteArray) (w : World) (hR : Rep w tb A M T) (ho : o.size ≤ 16777216) (hs : s.size ≤ 16777216) (hf : T.names.length ≤ 1000000) :
    Calls Tryz.prog 73 #[ptr tb, .string o, .string s] w fun e w' => e = .returned (.int .i64 (T.link (bl o) (bl s)).2) ∧ Stp w w' tb A M T (T.link (bl o) (bl s)).1 := by
  have h0 := fun W => right_calls o W ho
  have h1 := fun W => right_calls s W hs
  have h2 := fun W hW => there_calls tb A M T o W hW ho
  have h3 := fun W hW => fresh_calls tb A M T s W hW hs
  have hb := fun W => base_calls s W (by unfold maxLen; omega)
  have hto := hR.inv.there_ok (s := bl o)
  have hfo := hR.inv.fresh_ok (s := bl s)
  have hI := hR.inv
  unfold Fs.link
  generalize T.there (bl o) = th at *
  obtain ⟨n, dd, te⟩ := th
  generalize T.fresh (bl s) = fr at *
  obtain ⟨fd, fe⟩ := fr
  unfold ptr at *
  dsimp only at *
  replace h0 := Lib.hid h0
  replace h1 := Lib.hid h1
  replace h2 := Lib.hid h2
  replace h3 := Lib.hid h3
  replace hb := Lib.hid hb
  replace hR := Lib.hid hR
  replace hI := Lib.hid hI
  cases hr0 : right (bl o) with
  | false =>
    rw [if_pos (Or.inl rfl)]
    rw [hr0] at h0
    clear h1 h2 h3 hto hfo hr0
    go_enter Tryz.func73, Tryz.ntmps73
    go_wp2_with fail
    refine (h0.out _).mono ?_
    rintro e w1 ⟨rfl, hB1⟩
    go_wp2
    go_ret
    exact ⟨rfl, Stp.same hR.out hB1⟩
  | true =>
    rw [hr0] at h0
    cases hr : right (bl s) with
    | false =>
      rw [if_pos (Or.inr rfl)]
      rw [hr] at h1
      clear h2 h3 hto hfo hr0 hr
      go_enter Tryz.func73, Tryz.ntmps73
      go_wp2_with fail
      refine (h0.out _).mono ?_
      rintro e w1 ⟨rfl, hB1⟩
      go_wp2_with fail
      refine (h1.out _).mono ?_
      rintro e w2 ⟨rfl, hB2⟩
      go_wp2
      go_ret
      exact ⟨rfl, Stp.same hR.out (below_step hB1 hB2)⟩
    | true =>
      rw [if_neg (by simp)]
      rw [hr] at h1
      by_cases he : te = 0
      · subst he
        rw [if_neg (by simp)]
        obtain ⟨_, i, rfl, hi, _⟩ := hto rfl
        have h4 := fun W hW => file_calls tb A M T i W hW ⟨_, hi⟩
        unfold ptr at h4
        dsimp only
        clear hto hr0 hr
        by_cases hz : notFile (T.nd i) = 0
        · rw [if_neg (by simp [hz])]
          have hk1 := notFile_zero hI.out hi hz
          rw [hz] at h4
          clear hz
          replace h4 := Lib.hid h4
          by_cases hfe : fe = 0
          · subst hfe
            rw [if_neg (by simp)]
            obtain ⟨g1, g2, g3, d, rfl, g4, g5⟩ := hfo rfl
            have hend := fun W hW => link_end (w := W) (tb := tb) (A := A) (M := M) hW g1 g2 g4 g5 g3 hi hk1 hf
            dsimp only
            have hdl : T.Live d := ⟨_, g4⟩
            clear hfo g1 g2 g3 g4 hk1 hi
            replace hend := Lib.hid hend
            replace g5 := Lib.hid g5
            go_enter Tryz.func73, Tryz.ntmps73
            go_wp2_with fail
            refine (h0.out _).mono ?_
            rintro e w1 ⟨rfl, hB1⟩
            go_wp2_with fail
            refine (h1.out _).mono ?_
            rintro e w2 ⟨rfl, hB2⟩
            have hB12 := below_step hB1 hB2
            go_wp2_with fail
            refine (h2.out _ (hR.out.below hB12)).mono ?_
            rintro e w3 ⟨rfl, hB3⟩
            have hB13 := below_step hB12 hB3
            rw [optPtr_some]
            go_wp2_with fail
            refine (h4.out _ (hR.out.below hB13)).mono ?_
            rintro e w3' ⟨rfl, rfl⟩
            go_wp2_with fail
            refine (h3.out _ (hR.out.below hB13)).mono ?_
            rintro e w4 ⟨rfl, hB4⟩
            have hB14 := below_step hB13 hB4
            have hR4 := hR.out.below hB14
            rw [optPtr_some]
            obtain ⟨w5, hrun, hc3, hf3, hwr, hst⟩ := hend.out w4 hR4
            obtain ⟨dv, _, hnd⟩ := hR4.node d hdl
            have c11 : w4.cell? ⟨A d, 11, none⟩ = some (kidsV (T.nd d) (M d)) := cell_of hnd rfl
            rw [kidsV, if_pos g5.out] at c11
            obtain ⟨lk1, hlk1⟩ : ∃ x, x = (T.nd i).links + 1 := ⟨_, rfl⟩
            rw [← hlk1] at hst
            have hwr2 : IntKind.i64.wrap ((T.nd i).links + 1) = lk1 := hwr.trans hlk1.symm
            generalize (T.nd i).links = lk at *
            replace hlk1 := Lib.hid hlk1
            replace hrun := Lib.hid hrun
            replace hst := Lib.hid hst
            replace hR4 := Lib.hid hR4
            replace hnd := Lib.hid hnd
            clear hwr h0 h1 h2 h3 h4 hend
            go_wp2_with fail
            refine wp_region_still_tail 7 (by kernel_rfl) (by kernel_rfl) ?_
            simp only [List.take_succ_cons, List.take_zero, List.drop_succ_cons, List.drop_zero]
            iterate 5 still_step
            still_call ((hb.out w4.drew).mono fun e w' hh => ⟨hh.1, hh.2.symm⟩)
            still_step
            refine wpStill_nil ?_
            change wpList _ _ _ _ _ w4.drew
            refine wp_store _ rfl _ _ _ 108 rfl (.map (some (M d))) (.string (mkS (base (bl s)))) (ptr (A i)) rfl rfl rfl w5 hrun.out ?_
            go_wp2
            go_ret
            exact ⟨rfl, hst.out.after hB14⟩
          · rw [if_pos hfe]
            have hfe2 : (fe != 0) = true := by simpa using hfe
            dsimp only at *
            clear hfo hfe hk1
            go_enter Tryz.func73, Tryz.ntmps73
            go_wp2_with fail
            refine (h0.out _).mono ?_
            rintro e w1 ⟨rfl, hB1⟩
            go_wp2_with fail
            refine (h1.out _).mono ?_
            rintro e w2 ⟨rfl, hB2⟩
            have hB12 := below_step hB1 hB2
            go_wp2_with fail
            refine (h2.out _ (hR.out.below hB12)).mono ?_
            rintro e w3 ⟨rfl, hB3⟩
            have hB13 := below_step hB12 hB3
            rw [optPtr_some]
            go_wp2_with fail
            refine (h4.out _ (hR.out.below hB13)).mono ?_
            rintro e w3' ⟨rfl, rfl⟩
            go_wp2_with fail
            refine (h3.out _ (hR.out.below hB13)).mono ?_
            rintro e w4 ⟨rfl, hB4⟩
            have hB14 := below_step hB13 hB4
            go_wp2
            go_ret
            exact ⟨rfl, Stp.same hR.out hB14⟩
        · rw [if_pos hz]
          generalize notFile (T.nd i) = nf at *
          have hz2 : (nf != 0) = true := by simpa using hz
          clear hz hfo h3
          replace h4 := Lib.hid h4
          go_enter Tryz.func73, Tryz.ntmps73
          go_wp2_with fail
          refine (h0.out _).mono ?_
          rintro e w1 ⟨rfl, hB1⟩
          go_wp2_with fail
          refine (h1.out _).mono ?_
          rintro e w2 ⟨rfl, hB2⟩
          have hB12 := below_step hB1 hB2
          go_wp2_with fail
          refine (h2.out _ (hR.out.below hB12)).mono ?_
          rintro e w3 ⟨rfl, hB3⟩
          have hB13 := below_step hB12 hB3
          rw [optPtr_some]
          go_wp2_with fail
          refine (h4.out _ (hR.out.below hB13)).mono ?_
          rintro e w3' ⟨rfl, rfl⟩
          go_wp2
          go_ret
          exact ⟨rfl, Stp.same hR.out hB13⟩
      · rw [if_pos he]
        have he2 : (te != 0) = true := by simpa using he
        clear hto hfo he h3
        go_enter Tryz.func73, Tryz.ntmps73
        go_wp2_with fail
        refine (h0.out _).mono ?_
        rintro e w1 ⟨rfl, hB1⟩
        go_wp2_with fail
        refine (h1.out _).mono ?_
        rintro e w2 ⟨rfl, hB2⟩
        have hB12 := below_step hB1 hB2
        go_wp2_with fail
        refine (h2.out _ (hR.out.below hB12)).mono ?_
        rintro e w3 ⟨rfl, hB3⟩
        go_wp2
        go_ret
        exact ⟨rfl, Stp.same hR.out (below_step hB12 hB3)⟩

end Go.Proofs.YtocbjhhnginebaaGreat

namespace Go.Proofs.YtocbjhhnginebaaGreat
open Go.RowKit

theorem Fs.ext {T T' : Fs} (h1 : T.names = T'.names) (h2 : ∀ i, T.nd i = T'.nd i) (h3 : T.next = T'.next) : T = T' := by
  cases T
  cases T'
  simp only at h1 h2 h3
  have : (_ : Nat → Nd) = _ := funext h2
  subst h1 h3 this
  rfl

theorem add_set (T : Fs) (p : Pt) (n n' : Nd) : (T.add p n).set T.next n' = T.add p n' := by
  refine Fs.ext rfl (fun i => ?_) rfl
  unfold Fs.set Fs.add
  dsimp only
  by_cases e : i = T.next <;> simp [e]

theorem node_no_byte {n : Nd} {i : Nat} {dv : Value} {m k : Nat} {x : Int} (hdv : ∃ A l c, dv = .slice A l c) (h : (nodeCells n i dv (kidsV n m))[k]? = some (.int .u8 x)) : False := by
  obtain ⟨A, l, c, rfl⟩ := hdv
  have hk : kidsV n m = .map (some m) ∨ kidsV n m = .map none := by
    unfold kidsV
    split
    · exact Or.inl rfl
    · exact Or.inr rfl
  unfold nodeCells at h
  rcases hk with e | e <;> rw [e] at h <;>
  (rcases k with _ | _ | _ | _ | _ | _ | _ | _ | _ | _ | _ | _ | k <;> simp at h)

/-- A byte lies in no block of a tree's own. -/
theorem Rep.byte_not_own {w : World} {tb : Nat} {A M : Nat → Nat} {T : Fs} (h : Rep w tb A M T) {g o : Nat} {x : Int} (hc : w.cell? ⟨g, o, none⟩ = some (.int .u8 x)) : ¬ Own tb A M T g := by
  rintro (rfl | ⟨i, hi, rfl⟩ | ⟨i, ⟨p, hp⟩, hk, rfl⟩)
  · simp only [World.cell?, h.tree] at hc
    rcases o with _ | _ | o <;> simp [ptr] at hc
  · obtain ⟨dv, h1, h2⟩ := h.node i hi
    simp only [World.cell?, h2] at hc
    obtain ⟨A', c', e, _⟩ := h1.shape
    exact node_no_byte ⟨_, _, _, e⟩ hc
  · obtain ⟨es, c, h3, _⟩ := h.kids p i hp hk
    simp [World.cell?, h3] at hc

theorem RdB.turn {w w' : World} {tb : Nat} {A M : Nat → Nat} {T : Fs} {S : Nat → Prop} {v : Value} {l : Bytes} (h : RdB w v l) (hR : Rep w tb A M T) (ht : Turn w w' S) (hS : ∀ b, S b → Own tb A M T b ∨ w.heap.size ≤ b) : RdB w' v l := by
  obtain ⟨A', c, h1, h2, h3, h4⟩ := h
  refine ⟨A', c, h1, h2, h3, fun j hj => ?_⟩
  obtain ⟨g, o, e, hc⟩ := h4 j hj
  refine ⟨g, o, e, ?_⟩
  have hlt : g < w.heap.size := by
    rcases Nat.lt_or_ge g w.heap.size with h | h
    · exact h
    · simp [World.cell?, Array.getElem?_eq_none h] at hc
  have hb := ht.block g hlt (fun hs => by
    rcases hS g hs with h1 | h1
    · exact hR.byte_not_own hc h1
    · omega)
  simpa [World.cell?, hb] using hc

/-- A file's bytes, and its Meta. -/
theorem data_stp {w : World} {tb : Nat} {A M : Nat → Nat} {T : Fs} {p : Pt} {i : Nat} {v : Value} {l : Bytes} (hR : Rep w tb A M T) (hi : (p, i) ∈ T.names) (hk : (T.nd i).kind = 1) (hl : l.length ≤ 65536) (hv : Dat w v l) (a1 a2 a3 a4 a5 : Int) :
    Stp w ((((((w.setCell ⟨A i, 10, none⟩ v).setCell ⟨A i, 4, none⟩ (.int .i64 a1)).setCell ⟨A i, 5, none⟩ (.int .i64 a2)).setCell ⟨A i, 6, none⟩ (.int .i64 a3)).setCell ⟨A i, 7, none⟩ (.int .i64 a4)).setCell ⟨A i, 8, none⟩ (.int .i64 a5)) tb A M T (T.set i { T.nd i with mt := ⟨a1, a2, a3, a4, a5⟩, data := l }) := by
  obtain ⟨dv, h1, h2⟩ := hR.node i ⟨p, hi⟩
  have ht : Turn w ((((((w.setCell ⟨A i, 10, none⟩ v).setCell ⟨A i, 4, none⟩ (.int .i64 a1)).setCell ⟨A i, 5, none⟩ (.int .i64 a2)).setCell ⟨A i, 6, none⟩ (.int .i64 a3)).setCell ⟨A i, 7, none⟩ (.int .i64 a4)).setCell ⟨A i, 8, none⟩ (.int .i64 a5)) (fun b => b = A i) := by
    iterate 6 refine turn_set (S := fun b => b = A i) ?_ rfl _ _
    exact Turn.refl _ _
  have hu8 := hR.bytes_kept ht (fun b hb => Or.inl (Or.inr (Or.inl ⟨i, ⟨p, hi⟩, hb⟩)))
  have hpl := hR.inv.plain p i hi
  refine Stp.of_turn (rep_set (dv := v) hR hi ⟨hR.inv.kinds p i hi, hl, fun h => absurd hk h, hpl.2.1, hpl.2.2⟩ rfl rfl ht ?_ (hv.kept hu8)) (ht.mono fun b _ hb => Or.inr (Or.inl ⟨i, ⟨p, hi⟩, hb⟩)) (fun j hj => hj) (fun j _ => set_kind (n := { T.nd i with mt := ⟨a1, a2, a3, a4, a5⟩, data := l }) rfl j)
  exact heap_set_same (heap_set_same (heap_set_same (heap_set_same (heap_set_same (heap_set_same h2 10 _) 4 _) 5 _) 6 _) 7 _) 8 _

theorem dataonly_stp {w : World} {tb : Nat} {A M : Nat → Nat} {T : Fs} {p : Pt} {i : Nat} {v : Value} {l : Bytes} (hR : Rep w tb A M T) (hi : (p, i) ∈ T.names) (hk : (T.nd i).kind = 1) (hl : l.length ≤ 65536) (hv : Dat w v l) :
    Stp w (w.setCell ⟨A i, 10, none⟩ v) tb A M T (T.set i { T.nd i with data := l }) := by
  obtain ⟨dv, h1, h2⟩ := hR.node i ⟨p, hi⟩
  have ht : Turn w (w.setCell ⟨A i, 10, none⟩ v) (fun b => b = A i) := by
    refine turn_set (S := fun b => b = A i) ?_ rfl _ _
    exact Turn.refl _ _
  have hu8 := hR.bytes_kept ht (fun b hb => Or.inl (Or.inr (Or.inl ⟨i, ⟨p, hi⟩, hb⟩)))
  have hpl := hR.inv.plain p i hi
  refine Stp.of_turn (rep_set (dv := v) hR hi ⟨hR.inv.kinds p i hi, hl, fun h => absurd hk h, hpl.2.1, hpl.2.2⟩ rfl rfl ht ?_ (hv.kept hu8)) (ht.mono fun b _ hb => Or.inr (Or.inl ⟨i, ⟨p, hi⟩, hb⟩)) (fun j hj => hj) (fun j _ => set_kind (n := { T.nd i with data := l }) rfl j)
  exact heap_set_same h2 10 _

end Go.Proofs.YtocbjhhnginebaaGreat

namespace Go.Proofs.YtocbjhhnginebaaGreat
open Go.RowKit

def Fs.write (T : Fs) (s b : Bytes) (m : Mt) : Fs × Int :=
  if mayE s m ≠ 0 then (T, mayE s m) else if 65536 < b.length then (T, 7) else if (T.look s).2.2 ≠ 0 then (T, (T.look s).2.2) else
  match (T.look s).1 with
  | some i => if notFile (T.nd i) ≠ 0 then (T, notFile (T.nd i)) else (T.set i { T.nd i with mt := m, data := b }, 0)
  | none => (T.add (split s) ⟨1, 1, m, [], b⟩, 0)

theorem Stp.trans {w w1 w2 : World} {tb : Nat} {A M : Nat → Nat} {T T1 T2 : Fs} {A1 M1 : Nat → Nat} (h1 : Turn w w1 (Own tb A M T)) (h2 : ∀ b, Own tb A1 M1 T1 b → Own tb A M T b ∨ w.heap.size ≤ b) (h : Stp w1 w2 tb A1 M1 T1 T2) : Stp w w2 tb A M T T2 := by
  obtain ⟨A2, M2, g1, g2, g3⟩ := h
  refine ⟨A2, M2, g1, h1.trans (g2.mono fun i _ hi => h2 i hi), fun b hb => ?_⟩
  rcases g3 b hb with h | h
  · exact h2 b h
  · exact Or.inr (Nat.le_trans h1.size h)

set_option maxHeartbeats 4000000 in
set_option maxRecDepth 100000 in
theorem write_calls (tb : Nat) (A M : Nat → Nat) (T : Fs) (s : ByteArray) (v : Value) (b : Bytes) (m : Mt) (w : World) (hR : Rep w tb A M T) (hs : s.size ≤ 16777216) (hv : RdB w v b) (hbl : b.length ≤ 140737488355328) (hnx : T.next < 4611686018427387904) :
    Calls Tryz.prog 30 #[ptr tb, .string s, v, mtV m] w fun e w' => e = .returned (.int .i64 (T.write (bl s) b m).2) ∧ Stp w w' tb A M T (T.write (bl s) b m).1 := by
  have h1 := fun W => may_calls tb s m W hs
  have h2 := fun W hW => look_calls tb A M T s W hW hs
  have hlo := hR.inv.look_ok (s := bl s)
  have hput : ∀ W d, Rep W tb A M T → right (bl s) = true → bl s ≠ [] → ((split (bl s)).dropLast, d) ∈ T.names → (T.nd d).kind = 2 → T.at (split (bl s)) = none → _ := fun W d hW h1 h2 h3 h4 h5 => put_plain (d := d) hW hs h1 h2 h3 h4 h5 hnx 1 noMt [] ⟨Or.inl rfl, by simp, by simp, by simp, by simp⟩ (by decide)
  have hcl := fun W hW => bclone_rd v b W hW hbl
  have hI := hR.inv
  obtain ⟨vA, vc, rfl, hvc1, hvc2, _⟩ := id hv
  unfold maxLen at hvc2
  unfold Fs.write
  have hme : (if right (bl s) then if metaOk m then (0 : Int) else 2 else 9) = mayE (bl s) m := rfl
  rw [hme] at h1
  generalize mayE (bl s) m = me at *
  generalize T.look (bl s) = lk at *
  obtain ⟨n, dd, te⟩ := lk
  obtain ⟨a1, a2, a3, a4, a5⟩ := m
  unfold mtV mtCells nodeCells ptr at *
  dsimp only at *
  have hB0 : Below w.heap.size w (w.alloc (.cells #[.int .i64 a1, .int .i64 a2, .int .i64 a3, .int .i64 a4, .int .i64 a5] 40)) := (Below.refl _ _).alloc (Nat.le_refl _) _
  have hblk := (MapKept.heap_alloc w (.cells #[.int .i64 a1, .int .i64 a2, .int .i64 a3, .int .i64 a4, .int .i64 a5] 40)).1
  replace h1 := Lib.hid h1
  replace h2 := Lib.hid h2
  replace hput := Lib.hid hput
  replace hcl := Lib.hid hcl
  replace hblk := Lib.hid hblk
  replace hB0 := Lib.hid hB0
  replace hR := Lib.hid hR
  replace hv := Lib.hid hv
  replace hI := Lib.hid hI
  clear hme
  by_cases he : me = 0
  · subst he
    rw [if_neg (by simp)]
    by_cases hbig : 65536 < b.length
    · rw [if_pos hbig]
      have hbig2 : (65536 : Int) < (b.length : Int) := by omega
      dsimp only
      clear hput h2 hlo hcl
      go_enter Tryz.func30, Tryz.ntmps30
      go_wp2_with fail
      refine (h1.out _).mono ?_
      rintro e w1 ⟨rfl, hB1⟩
      have hB01 := below_step hB0.out hB1
      go_wp2
      go_ret
      exact ⟨rfl, Stp.same hR.out hB01⟩
    · rw [if_neg hbig]
      have hbig2 : ¬ (65536 : Int) < (b.length : Int) := by omega
      by_cases hf : te = 0
      · subst hf
        rw [if_neg (by simp)]
        obtain ⟨k1, rfl, k3⟩ := hlo rfl
        cases hc : T.at (split (bl s)) with
        | none =>
          rw [hc] at h2 k3
          rcases k3 with ⟨_, k4, _⟩ | ⟨k4, d, rfl, k5, k6⟩
          · cases k4
          dsimp only
          have hput2 := fun W hW => hput.out W d hW k1 k4 k5 k6 hc
          clear hput hlo k1 k4 k5 k6 hc hvc1 hvc2
          replace hput2 := Lib.hid hput2
          go_enter Tryz.func30, Tryz.ntmps30
          go_wp2_with fail
          refine (h1.out _).mono ?_
          rintro e w1 ⟨rfl, hB1⟩
          have hB01 := below_step hB0.out hB1
          have hblk1 := (hB1.block _ (Array.getElem?_eq_some_iff.1 hblk.out).1).trans hblk.out
          have hR1 := hR.out.below hB01
          replace hR1 := Lib.hid hR1
          replace hblk1 := Lib.hid hblk1
          go_wp2_with fail
          refine (h2.out _ hR1.out).mono ?_
          rintro e w2 ⟨rfl, hB2⟩
          have hB02 := below_step hB01 hB2
          have hR2 := hR1.out.below hB2
          have hlt := (Array.getElem?_eq_some_iff.1 hblk1.out).1
          have hblk2 := (hB2.block _ hlt).trans hblk1.out
          replace hR2 := Lib.hid hR2
          rw [optPtr_some, optPtr_none]
          have hp := hput2.out w2 hR2.out
          replace hp := Lib.hid hp
          replace hblk2 := Lib.hid hblk2
          clear h1 h2 hput2
          go_wp2_with fail
          refine hp.out.mono ?_
          rintro e w3 ⟨rfl, A', M', hr3, hA', ht3, ho3⟩
          have hmeta : ¬ Own tb A M T w.heap.size := hR2.out.not_own hblk2.out (by decide) (by decide)
          have hlt2 := (Array.getElem?_eq_some_iff.1 hblk2.out).1
          have hblk3 := (ht3.block _ hlt2 hmeta).trans hblk2.out
          have hv3 := ((hv.out.below hB02).turn hR2.out ht3 (fun b hb => Or.inl hb))
          have hcl3 := hcl.out w3 hv3
          replace hcl3 := Lib.hid hcl3
          replace hr3 := Lib.hid hr3
          replace ht3 := Lib.hid ht3
          replace ho3 := Lib.hid ho3
          replace hA' := Lib.hid hA'
          replace hblk3 := Lib.hid hblk3
          clear hp hcl hv3 hblk2
          go_wp2_with fail
          refine hcl3.out.mono ?_
          rintro e w4 ⟨⟨v', rfl, hO4⟩, hB4⟩
          obtain ⟨vA', vc', rfl, _, _⟩ := own_shape hO4.own
          have hlt3 := (Array.getElem?_eq_some_iff.1 hblk3.out).1
          have hblk4 := (hB4.block _ hlt3).trans hblk3.out
          have hr4 := hr3.out.below hB4
          have hl4 : (T.add (split (bl s)) ⟨1, 1, noMt, [], []⟩).Live T.next := ⟨split (bl s), by simp [Fs.add]⟩
          have hnd4 : (T.add (split (bl s)) ⟨1, 1, noMt, [], []⟩).nd T.next = ⟨1, 1, noMt, [], []⟩ := by simp [Fs.add]
          obtain ⟨dv, _, hnode⟩ := hr4.node _ hl4
          rw [hA'.out] at hnode
          have hst := data_stp (p := split (bl s)) hr4 (i := T.next) (by simp [Fs.add]) (by rw [hnd4]) (by omega) hO4.dat a1 a2 a3 a4 a5
          rw [add_set, hnd4, hA'.out] at hst
          have hT : Turn w w4 (Own tb A M T) := (Turn.of_below hB02 _).trans ((ht3.out.trans ((Turn.of_below hB4 _).mono fun i _ hi => Or.inl hi)).mono fun i _ hi => Or.inl hi)
          have hst2 := Stp.trans hT (fun x hx => (ho3.out x hx).imp id (fun h => Nat.le_trans hB02.size h)) hst
          have f1 : ∀ k, w4.frozen? ⟨w2.heap.size, k, none⟩ = false := fun k => by simp [World.frozen?, hnode]
          have c4 := cell_of (j := 4) hnode rfl
          have c5 := cell_of (j := 5) hnode rfl
          have c6 := cell_of (j := 6) hnode rfl
          have c7 := cell_of (j := 7) hnode rfl
          have c8 := cell_of (j := 8) hnode rfl
          have c10 : w4.cell? ⟨w2.heap.size, 10, none⟩ = some dv := cell_of hnode rfl
          have d0 := cell_of (j := 0) hblk4 rfl
          have d1 := cell_of (j := 1) hblk4 rfl
          have d2 := cell_of (j := 2) hblk4 rfl
          have d3 := cell_of (j := 3) hblk4 rfl
          have d4 := cell_of (j := 4) hblk4 rfl
          replace hst2 := Lib.hid hst2
          have hne1 : w.heap.size ≠ w2.heap.size := by omega
          have hne2 : w2.heap.size ≠ w.heap.size := by omega
          clear hst hnode hblk4 hr4 hl4 hnd4 hT hcl3
          go_wp2
          go_ret
          exact ⟨rfl, hst2.out⟩
        | some i =>
          rw [hc] at h2
          have hi := hI.out.at_some.1 hc
          dsimp only
          have h4 := fun W hW => file_calls tb A M T i W hW ⟨_, hi⟩
          unfold ptr at h4
          clear hput hlo k1 k3 hc
          by_cases hz : notFile (T.nd i) = 0
          · rw [if_neg (by simp [hz])]
            have hk1 := notFile_zero hI.out hi hz
            rw [hz] at h4
            clear hz
            replace h4 := Lib.hid h4
            go_enter Tryz.func30, Tryz.ntmps30
            go_wp2_with fail
            refine (h1.out _).mono ?_
            rintro e w1 ⟨rfl, hB1⟩
            have hB01 := below_step hB0.out hB1
            have hblk1 := (hB1.block _ (Array.getElem?_eq_some_iff.1 hblk.out).1).trans hblk.out
            have hR1 := hR.out.below hB01
            replace hR1 := Lib.hid hR1
            replace hblk1 := Lib.hid hblk1
            go_wp2_with fail
            refine (h2.out _ hR1.out).mono ?_
            rintro e w2 ⟨rfl, hB2⟩
            have hB02 := below_step hB01 hB2
            have hR2 := hR1.out.below hB2
            have hlt := (Array.getElem?_eq_some_iff.1 hblk1.out).1
            have hblk2 := (hB2.block _ hlt).trans hblk1.out
            replace hR2 := Lib.hid hR2
            rw [optPtr_some]
            have hcl2 := hcl.out w2 (hv.out.below hB02)
            replace hcl2 := Lib.hid hcl2
            replace hblk2 := Lib.hid hblk2
            clear h1 h2 hcl
            go_wp2_with fail
            refine (h4.out _ hR2.out).mono ?_
            rintro e w2' ⟨rfl, rfl⟩
            go_wp2_with fail
            refine hcl2.out.mono ?_
            rintro e w4 ⟨⟨v', rfl, hO4⟩, hB4⟩
            obtain ⟨vA', vc', rfl, _, _⟩ := own_shape hO4.own
            have hlt3 := (Array.getElem?_eq_some_iff.1 hblk2.out).1
            have hblk4 := (hB4.block _ hlt3).trans hblk2.out
            have hr4 := hR2.out.below hB4
            obtain ⟨dv, _, hnode⟩ := hr4.node _ ⟨_, hi⟩
            have hst := data_stp hr4 hi hk1 (by omega) hO4.dat a1 a2 a3 a4 a5
            have hst2 := hst.after (below_step hB02 hB4)
            have f1 : ∀ k, w4.frozen? ⟨A i, k, none⟩ = false := fun k => by simp [World.frozen?, hnode]
            have c4 : w4.cell? ⟨A i, 4, none⟩ = some (.int .i64 (T.nd i).mt.mode) := cell_of hnode rfl
            have c5 : w4.cell? ⟨A i, 5, none⟩ = some (.int .i64 (T.nd i).mt.sec) := cell_of hnode rfl
            have c6 : w4.cell? ⟨A i, 6, none⟩ = some (.int .i64 (T.nd i).mt.nano) := cell_of hnode rfl
            have c7 : w4.cell? ⟨A i, 7, none⟩ = some (.int .i64 (T.nd i).mt.uid) := cell_of hnode rfl
            have c8 : w4.cell? ⟨A i, 8, none⟩ = some (.int .i64 (T.nd i).mt.gid) := cell_of hnode rfl
            have c10 : w4.cell? ⟨A i, 10, none⟩ = some dv := cell_of hnode rfl
            have d0 := cell_of (j := 0) hblk4 rfl
            have d1 := cell_of (j := 1) hblk4 rfl
            have d2 := cell_of (j := 2) hblk4 rfl
            have d3 := cell_of (j := 3) hblk4 rfl
            have d4 := cell_of (j := 4) hblk4 rfl
            have hne0 : ¬ Own tb A M T w.heap.size := hR2.out.not_own hblk2.out (by decide) (by decide)
            have hne1 : w.heap.size ≠ A i := fun e => hne0 (Or.inr (Or.inl ⟨i, ⟨_, hi⟩, e⟩))
            have hne2 : A i ≠ w.heap.size := hne1.symm
            replace hst2 := Lib.hid hst2
            clear hst hnode hblk4 hr4 hcl2
            go_wp2
            go_ret
            exact ⟨rfl, hst2.out⟩
          · rw [if_pos hz]
            generalize notFile (T.nd i) = nf at *
            have hz2 : (nf != 0) = true := by simpa using hz
            clear hz hcl
            replace h4 := Lib.hid h4
            go_enter Tryz.func30, Tryz.ntmps30
            go_wp2_with fail
            refine (h1.out _).mono ?_
            rintro e w1 ⟨rfl, hB1⟩
            have hB01 := below_step hB0.out hB1
            have hblk1 := (hB1.block _ (Array.getElem?_eq_some_iff.1 hblk.out).1).trans hblk.out
            have hR1 := hR.out.below hB01
            replace hR1 := Lib.hid hR1
            replace hblk1 := Lib.hid hblk1
            go_wp2_with fail
            refine (h2.out _ hR1.out).mono ?_
            rintro e w2 ⟨rfl, hB2⟩
            have hB02 := below_step hB01 hB2
            have hR2 := hR1.out.below hB2
            have hlt := (Array.getElem?_eq_some_iff.1 hblk1.out).1
            have hblk2 := (hB2.block _ hlt).trans hblk1.out
            replace hR2 := Lib.hid hR2
            rw [optPtr_some]
            clear hblk2 h1 h2
            go_wp2_with fail
            refine (h4.out _ hR2.out).mono ?_
            rintro e w2' ⟨rfl, rfl⟩
            go_wp2
            go_ret
            exact ⟨rfl, Stp.same hR.out hB02⟩
      · rw [if_pos hf]
        have hf2 : (te != 0) = true := by simpa using hf
        dsimp only at *
        clear hput hlo hcl hf
        go_enter Tryz.func30, Tryz.ntmps30
        go_wp2_with fail
        refine (h1.out _).mono ?_
        rintro e w1 ⟨rfl, hB1⟩
        have hB01 := below_step hB0.out hB1
        have hblk1 := (hB1.block _ (Array.getElem?_eq_some_iff.1 hblk.out).1).trans hblk.out
        have hR1 := hR.out.below hB01
        replace hR1 := Lib.hid hR1
        replace hblk1 := Lib.hid hblk1
        go_wp2_with fail
        refine (h2.out _ hR1.out).mono ?_
        rintro e w2 ⟨rfl, hB2⟩
        have hB02 := below_step hB01 hB2
        have hR2 := hR1.out.below hB2
        have hlt := (Array.getElem?_eq_some_iff.1 hblk1.out).1
        have hblk2 := (hB2.block _ hlt).trans hblk1.out
        replace hR2 := Lib.hid hR2
        clear hblk2 h1 h2
        go_wp2
        go_ret
        exact ⟨rfl, Stp.same hR.out hB02⟩
  · rw [if_pos he]
    have he2 : (me != 0) = true := by simpa using he
    clear he hput h2 hlo hcl
    go_enter Tryz.func30, Tryz.ntmps30
    go_wp2_with fail
    refine (h1.out _).mono ?_
    rintro e w1 ⟨rfl, hB1⟩
    have hB01 := below_step hB0.out hB1
    go_wp2
    go_ret
    exact ⟨rfl, Stp.same hR.out hB01⟩

end Go.Proofs.YtocbjhhnginebaaGreat
