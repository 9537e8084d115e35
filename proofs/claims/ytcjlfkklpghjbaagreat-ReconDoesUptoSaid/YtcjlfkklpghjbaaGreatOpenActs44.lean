/-
  Acts as an argument, whose bulk is told.
-/
import Derived.Test.YtcjlfkklpghjbaaGreatRows
import Derived.Test.YtcjlfkklpghjbaaGreatB6
namespace Go.Proofs.YtcjlfkklpghjbaaGreat
open Go.RowKit Go.ChangeShapes Go.WideShapes Go.Deep

theorem bulk_part {H : Type} {d : DataW H} {l : List (DataW H)} (h : d ∈ l) : Rows.uptoBulk d ≤ Rows.uptoBulkAll l := by
  induction l with
  | nil => cases h
  | cons x r ih =>
    simp only [Rows.uptoBulkAll]
    cases List.mem_cons.1 h with
    | inl e => subst e; omega
    | inr e => have := ih e; omega

section
variable {H : Type} {enc : TypeId × Value → H} {W : World} {spare : Nat → Bool} {held : Bool}

set_option maxRecDepth 100000 in
theorem open_acts44 {v : Value} {d : DataW H} {ps : List MemPlace} {r : Reach} {b0 : Nat} (hv : Value.okWide Tryz.prog W r b0 25 v) (h : DataW.Trod enc Tryz.prog W 0 spare held 25 v d ps) : ∃ l, RdA W v l ∧ ∀ y ∈ l, y.1.length ≤ Rows.uptoBulk d := by
  obtain ⟨fuel, hf⟩ := h
  rcases open_slice Tryz.underlying25 hf with ⟨e, _⟩ | ⟨a, len, cap, m, n, D, Pl, e, _, h1, h2, hm, hd, hel⟩
  · obtain ⟨A', n', c', rfl⟩ := okWide_slice Tryz.underlying25 hv
    have e2 : [Value.slice A' n' c'] = [Value.slice none 0 0] := e
    simp only [List.cons.injEq, Value.slice.injEq, and_true] at e2
    obtain ⟨rfl, rfl, rfl⟩ := e2
    exact ⟨[], ⟨none, 0, rfl, Nat.le_refl _, Nat.zero_le _, fun k hk => by simp at hk⟩, by simp⟩
  · obtain ⟨A', n', c', rfl⟩ := okWide_slice Tryz.underlying25 hv
    have e2 : [Value.slice A' n' c'] = [Value.slice (some a) len cap] := e
    simp only [List.cons.injEq, Value.slice.injEq, and_true] at e2
    obtain ⟨rfl, rfl, rfl⟩ := e2
    have hlm : n' ≤ m := by rw [hm]; split <;> omega
    have k2 : Tryz.prog.cellsOf 51 = 2 := by kernel_rfl
    rw [k2] at hel
    have hspot : ∀ i, i < n' → a.spot = none := fun i hi => by
      obtain ⟨cs, hc, ht⟩ := hel 0 (by omega)
      obtain ⟨y, rest, rfl, _⟩ := act44_of_cells ht
      obtain ⟨_, _, hat⟩ := World.cells?_some hc
      have := World.cell?_spot ((hat 0 (by decide)).trans rfl)
      simpa [Addr.add] using this
    have hdd := congrArg Prod.fst hd
    dsimp only at hdd
    obtain ⟨l, hl1, hl2⟩ := choose_44 (m := n') (p := fun i y => y.1.length ≤ Rows.uptoBulk (D i) ∧ ∃ g o, a = ⟨g, o, none⟩ ∧ W.cell? ⟨g, o + i * 2, none⟩ = some (.string (mkS y.1)) ∧ W.cell? ⟨g, o + i * 2 + 1, none⟩ = some (.int .i64 y.2)) (fun i hi => by
      obtain ⟨cs, hc, ht⟩ := hel i (by omega)
      obtain ⟨y, rest, rfl, hD⟩ := act44_of_cells ht
      obtain ⟨_, _, hat⟩ := World.cells?_some hc
      dsimp only at hD
      refine ⟨y, ?_, ?_⟩
      · rw [hD]
        simp only [Rows.uptoBulk, Rows.uptoBulkAll]
        omega
      · obtain ⟨g, o, s⟩ := a
        have hs : s = none := hspot i hi
        subst hs
        have t0 := hat 0 (by decide)
        have t1 := hat 1 (by decide)
        rw [add_plain, add_plain] at t0 t1
        exact ⟨g, o, rfl, t0, t1⟩)
    refine ⟨l, ⟨some a, c', by rw [hl1], by omega, h2, fun k hk => ?_⟩, fun y hy => ?_⟩
    · obtain ⟨_, g, o, rfl, q1, q2⟩ := hl2 k hk
      exact ⟨g, o, rfl, q1, q2⟩
    · obtain ⟨k, hk, rfl⟩ := List.mem_iff_getElem.1 hy
      refine Nat.le_trans (hl2 k hk).1 ?_
      rw [hdd]
      have hmem : D k ∈ (List.range n').map D := List.mem_map.2 ⟨k, List.mem_range.2 (by omega), rfl⟩
      have := bulk_part hmem
      simp only [Rows.uptoBulk]
      omega

end

end Go.Proofs.YtcjlfkklpghjbaaGreat
