/-
  The numbers of acts that stand as an argument are numbers of 64 bits.
-/
import Derived.Test.YtocbjhhnginebaaGreatB6
import Derived.OpenShut
namespace Go.Proofs.YtocbjhhnginebaaGreat
open Go.RowKit Go.ChangeShapes Go.WideShapes Go.Deep
set_option linter.unusedSimpArgs false
set_option linter.unusedVariables false

section
variable {H : Type} {enc : TypeId × Value → H} {W : World} {spare : Nat → Bool} {held : Bool}

set_option maxRecDepth 100000 in
theorem act42_bound {fuel : Nat} {cs : List Value} {x : DataW H × List MemPlace} (h : DataW.trod enc Tryz.prog W 0 spare held fuel 35 cs = some x) : ∃ n : Int, cs[3]? = some (.int .i64 n) ∧ n ≤ 9223372036854775807 := by
  obtain ⟨xs, n, _, _, hl, hxl, hf⟩ := DataW.trod_struct Tryz.underlying35 h
  have hl5 : cs.length = 5 := hl.trans (by kernel_rfl)
  match cs, hl5 with
  | [c0, c1, c2, c3, c4], _ =>
    have hx : ∀ i, i < 5 → ∃ y, xs[i]? = some y := fun i hi => ⟨_, List.getElem?_eq_getElem (by rw [hxl]; exact hi)⟩
    obtain ⟨y3, e3⟩ := hx 3 (by decide)
    have f3 : DataW.trod enc Tryz.prog W 0 spare held n 3 (([c0, c1, c2, c3, c4].drop 3).take (Tryz.prog.cellsOf 3)) = some y3 := (hf 3 _ rfl).trans e3
    have k1 : Tryz.prog.cellsOf 3 = 1 := by kernel_rfl
    rw [k1] at f3
    simp only [List.drop_zero, List.drop_succ_cons, List.take_succ_cons, List.take_zero] at f3
    obtain ⟨n1, q3, _, hw⟩ := DataW.trod_int Tryz.underlying3 f3
    simp only [List.cons.injEq, and_true] at q3
    subst q3
    exact ⟨n1, rfl, (bounds_i64 hw).2⟩

set_option maxRecDepth 100000 in
theorem acts42_bounds {v : Value} {d : DataW H} {ps : List MemPlace} (h : DataW.Trod enc Tryz.prog W 0 spare held 23 v d ps) {l : List A42} (hl : Acts42 W v l) : ∀ a ∈ l, a.n ≤ 9223372036854775807 := by
  obtain ⟨fuel, hf⟩ := h
  obtain ⟨A, c, rfl, _, _, hc⟩ := hl
  intro a ha
  obtain ⟨i, hi, rfl⟩ := List.mem_iff_getElem.1 ha
  rcases open_slice Tryz.underlying23 hf with ⟨e, _⟩ | ⟨a, len, cap, m, n, D, Pl, e, _, h1, h2, hm, _, hel⟩
  · have e2 : [Value.slice A l.length c] = [Value.slice none 0 0] := e
    simp only [List.cons.injEq, Value.slice.injEq, and_true] at e2
    omega
  · have e2 : [Value.slice A l.length c] = [Value.slice (some a) len cap] := e
    simp only [List.cons.injEq, Value.slice.injEq, and_true] at e2
    obtain ⟨rfl, rfl, rfl⟩ := e2
    have hlm : l.length ≤ m := by rw [hm]; split <;> omega
    have k5 : Tryz.prog.cellsOf 35 = 5 := by kernel_rfl
    rw [k5] at hel
    obtain ⟨cs, hcs, ht⟩ := hel i (by omega)
    obtain ⟨n, hn, hb⟩ := act42_bound ht
    obtain ⟨g, o, sv, e, _, h4⟩ := hc i hi
    cases e
    obtain ⟨_, _, hat⟩ := World.cells?_some hcs
    have e3 := hat 3 (by decide)
    rw [add_plain, add_plain, hn, h4 3 (by decide)] at e3
    simp only [act42Cells, List.getElem?_cons_succ, List.getElem?_cons_zero, Option.some.injEq, Value.int.injEq, true_and] at e3
    rw [e3]
    exact hb
end
end Go.Proofs.YtocbjhhnginebaaGreat
