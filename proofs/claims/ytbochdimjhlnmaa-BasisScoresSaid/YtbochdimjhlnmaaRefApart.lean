/-
  The reference's distance (remoraref22.Apart): its walk computes the same plain function of lists.
-/
import Derived.Test.YtbochdimjhlnmaaApart
namespace Go.Proofs.Ytbochdimjhlnmaa
open Go.RowKit
set_option linter.unusedVariables false
set_option linter.unusedSimpArgs false

set_option maxHeartbeats 1000000 in
set_option maxRecDepth 100000 in
theorem cut_calls (s : ByteArray) (w : World) : Calls Try.prog 24 #[.string s] w fun e w' => e = .returned (.string (cutS s)) ∧ w = w' := by
  by_cases h : 200 < s.size
  · have e : s.extract 0 200 = cutS s := by unfold cutS; rw [show min s.size 200 = 200 by omega]
    have H := Lib.hid e
    clear e
    go_enter Try.func24, Try.ntmps24
    go_wp2
    go_ret
    exact ⟨ret_str H.out, rfl⟩
  · have e : s = cutS s := by unfold cutS; rw [show min s.size 200 = s.size by omega, extract_whole]
    have H := Lib.hid e
    clear e
    go_enter Try.func24, Try.ntmps24
    go_wp2
    go_ret
    exact ⟨ret_str H.out, rfl⟩

/-- A row of the call's own that holds whole numbers. -/
def Ints (w W : World) (v : Value) (xs : List Int) : Prop := W.ownsRow w.heap.size 3 1 v xs.length (xs.map fun x => .int .i64 x)
theorem Ints.own {w W : World} {v : Value} {xs : List Int} (h : Ints w W v xs) : W.ownsRow w.heap.size 3 1 v xs.length (xs.map fun x => .int .i64 x) := h
theorem Ints.at_ {w W : World} {v : Value} {xs : List Int} (h : Ints w W v xs) (hn : 0 < xs.length) : ∃ g c, v = .slice (some ⟨g, 0, none⟩) xs.length c ∧ ∀ j, j < xs.length → W.cell? ⟨g, j, none⟩ = some (.int .i64 (rd xs j)) := by
  obtain ⟨g, c, rfl, _, _, _, _, hc⟩ := own_at h hn
  exact ⟨g, c, rfl, fun j hj => hc j _ (by simp [rd, hj])⟩
theorem Ints.snoc {w W : World} {v : Value} {xs : List Int} {x : Int} (h : W.ownsRow w.heap.size 3 1 v (xs.length + 1) ((xs.map fun x => .int .i64 x) ++ [.int .i64 x])) : Ints w W v (xs ++ [x]) := by
  unfold Ints; simpa using h

def upto (n : Nat) : List Int := (List.range n).map fun (k : Nat) => (k : Int)

set_option maxHeartbeats 2000000 in
set_option maxRecDepth 100000 in
theorem refapart_calls (a b : ByteArray) (w : World) :
    Calls Try.prog 10 #[.string a, .string b] w fun e w' => e = .returned (.int .i64 (dist (cutS a) (cutS b))) ∧ Below w.heap.size w w' := by
  have HA := cutS_size a
  have HB := cutS_size b
  have ha := fun W => cut_calls a W
  have hb := fun W => cut_calls b W
  generalize cutS a = A at *
  generalize cutS b = B at *
  have Ha := Lib.hid ha
  have Hb := Lib.hid hb
  clear ha hb
  go_enter Try.func10, Try.ntmps10
  go_wp2_with fail
  refine (Ha.out _).mono ?_
  rintro e w1 ⟨rfl, rfl⟩
  go_wp2_with fail
  refine (Hb.out _).mono ?_
  rintro e w1 ⟨rfl, rfl⟩
  go_wp2
  go_loopw [5, 6] (fun r i W => ∃ k : Nat, i = .int .i64 k ∧ k ≤ B.size + 1 ∧ Ints w W r (upto k) ∧ Below w.heap.size w W) (fun _ i _ => B.size + 1 - (intOf i).toNat)
  case atStart => exact ⟨0, rfl, by omega, World.ownsRow_nil _ _ _ _, Below.refl _ _⟩
  case round =>
    obtain ⟨k, rfl, hk, HO, HW⟩ := hrel
    by_cases hlt : k ≤ B.size
    · have hs := HW.size
      have ho := HO.own
      have hl : (upto k).length = k := by simp [upto]
      have hm : (upto k).length + 1 ≤ maxLen := by simp [maxLen]; omega
      have hz : ((upto k).length + 1) * 8 ≤ 140737488355328 := by omega
      have Ho := Lib.hid ho
      have Hl := Lib.hid hl
      have Hm := Lib.hid hm
      have Hz := Lib.hid hz
      clear ho hl hm hz
      go_wp2_with (at_builtin; refine wp_append1 w.heap.size rfl (.tmp 21) (.tmp 23) 56 3 rfl Try.underlying56 (.int .i64 0) 1 8 info_int rfl (by decide) u5 _ _ rfl [.int .i64 (k : Int)] rfl Ho.out rfl ?_ Hm.out Hz.out hs ?_)
      · simp [Value.oneCell']
      · intro v1 w1 ho1 hg1 _
        have hO : Ints w w1 v1 (upto (k + 1)) := by
          have e : upto (k + 1) = upto k ++ [(k : Int)] := by simp [upto, List.range_succ]
          rw [e]; exact Ints.snoc ho1
        have hB : Below w.heap.size w w1 := HW.grown hg1 hs (fun b hb => by
          rcases own_rel Ho.out with h | ⟨q, h, h', _⟩
          · rw [h] at hb; cases hb
          · rw [h] at hb; cases hb; exact h')
        clear ho1 hg1
        go_wp2
        go_roundw
        case measure => simp [intOf]; omega
        case rel => exact ⟨k + 1, by go_num, by omega, hO, hB⟩
    · obtain rfl : k = B.size + 1 := by omega
      have e : upto (B.size + 1) = rowAt A B 0 := rfl
      rw [e] at HO
      clear e hk
      have hlt' : ¬ ((B.size : Int) + 1 ≤ (B.size : Int)) := by omega
      go_wp2
      go_loopw [5, 7] (fun r i W => ∃ k : Nat, i = .int .i64 k ∧ k ≤ A.size ∧ Ints w W r (rowAt A B k) ∧ Below w.heap.size w W) (fun _ i _ => A.size - (intOf i).toNat)
      case atStart => exact ⟨0, rfl, by omega, HO, HW⟩
      case round =>
        clear HO HW hlt hlt'
        obtain ⟨k, rfl, hk, HO, HW⟩ := hrel
        obtain ⟨g, c, rfl, hc⟩ := HO.at_ (by rw [rowAt_length]; omega)
        rw [rowAt_length] at hc
        have hl := rowAt_length A B k
        by_cases hlt : k < A.size
        · have hs := HW.size
          have HN0 : Ints w (wr.alloc (.cells #[.int .i64 ((k : Int) + 1)] 3)) (.slice (some ⟨wr.heap.size, 0, none⟩) 1 1) (stepRow A B k (rowAt A B k) 0) := own_made wr w.heap.size 3 1 1 [.int .i64 ((k : Int) + 1)] hs rfl (by simp [maxLen])
          have HO0 : Ints w (wr.alloc (.cells #[.int .i64 ((k : Int) + 1)] 3)) (.slice (some ⟨g, 0, none⟩) (rowAt A B k).length c) (rowAt A B k) := HO.own.alloc _
          have HW0 := HW.alloc hs (.cells #[.int .i64 ((k : Int) + 1)] 3)
          have hg : g < wr.heap.size := (HO.own.lt g rfl).2
          rw [hl] at HO0 ⊢
          clear hc HO HW hl
          go_wp2
          go_loopw [8, 9] (fun nv i W => ∃ j : Nat, i = .int .i64 j ∧ j ≤ B.size ∧ Ints w W nv (stepRow A B k (rowAt A B k) j) ∧ Ints w W (.slice (some ⟨g, 0, none⟩) (B.size + 1) c) (rowAt A B k) ∧ nv.ownBlock ≠ some g ∧ Below w.heap.size w W) (fun _ i _ => B.size - (intOf i).toNat)
          case atStart => exact ⟨0, rfl, by omega, HN0, HO0, by simp [Value.ownBlock]; omega, HW0⟩
          case round =>
            clear HN0 HO0 HW0 hg hs
            obtain ⟨j, rfl, hj, HN, HO, hne, HW⟩ := hrel
            have hs := HW.size
            have hlr := rowAt_length A B k
            have hls := stepRow_length A B k (rowAt A B k) j
            by_cases hlj : j < B.size
            · obtain ⟨g', c', e', hc'⟩ := HN.at_ (by omega)
              obtain ⟨g2, c2, e2, hc2⟩ := HO.at_ (by omega)
              rw [hlr] at hc2 e2
              simp only [Value.slice.injEq, Option.some.injEq, Addr.mk.injEq] at e2
              obtain ⟨⟨rfl, _, _⟩, _, rfl⟩ := e2
              have hr1 := hc2 j (by omega)
              have hr2 := hc2 (j + 1) (by omega)
              have hn1 := hc' j (by omega)
              clear hc' hc2
              have hba := bt_at A k hlt
              have hbb := bt_at B j hlj
              have hp : stepRow A B k (rowAt A B k) (j + 1) = stepRow A B k (rowAt A B k) j ++ [mn (mn (if bt A k = bt B j then rd (rowAt A B k) j else rd (rowAt A B k) j + 1) (rd (rowAt A B k) (j + 1) + 1)) (rd (stepRow A B k (rowAt A B k) j) j + 1)] := rfl
              have bd1 := row_bd A B k j hj
              have bd2 := row_bd A B k (j + 1) hlj
              have bd3 := step_bd A B k B.size (rowAt A B k) (row_bd A B k) j hj j (Nat.le_refl _)
              have bd4 : 0 ≤ mn (rd (rowAt A B k) j) (rd (rowAt A B k) (j + 1) + 1) ∧ mn (rd (rowAt A B k) j) (rd (rowAt A B k) (j + 1) + 1) ≤ 1000 := mn_bd (by omega) (by omega) (.inr (by omega))
              have HN0 := HN.own
              subst e'
              clear HN
              generalize hx : rd (rowAt A B k) j = x at *
              generalize hy : rd (rowAt A B k) (j + 1) = y at *
              generalize hz : rd (stepRow A B k (rowAt A B k) j) j = z at *
              clear hx hy hz
              replace hls := Lib.hid hls
              replace hp := Lib.hid hp
              clear hlr
              rw [hls.out]
              by_cases hbt : bt A k = bt B j
              · have hbe : (if bt A k = bt B j then x else x + 1) = x := if_pos hbt
                replace hbe := Lib.hid hbe
                have ho : wr.ownsRow w.heap.size 3 1 (.slice (some ⟨g', 0, none⟩) (j + 1) c') (j + 1) ((stepRow A B k (rowAt A B k) j).map fun x => .int .i64 x) := by rw [hls.out] at HN0; exact HN0
                have Ho := Lib.hid ho
                have hpp : Hid (stepRow A B k (rowAt A B k) (j + 1) = stepRow A B k (rowAt A B k) j ++ [mn (mn x (y + 1)) (z + 1)]) := by rw [hp.out, hbe.out]; exact Lib.hid rfl
                clear ho hp HN0
                go_wp2
                go_quiet (fail)
                go_wp2_with (at_builtin; refine wp_append1 w.heap.size rfl (.tmp 68) (.tmp 70) 56 3 rfl Try.underlying56 (.int .i64 0) 1 8 info_int rfl (by decide) (.slice (some ⟨g', 0, none⟩) (j + 1) c') _ _ rfl [.int .i64 (mn (mn x (y + 1)) (z + 1))] rfl Ho.out rfl ?_ ?_ ?_ hs ?_)
                · simp [Value.oneCell']
                · simp [maxLen]; omega
                · omega
                · intro v1 w1 ho1 hg1 hat
                  have hg2 : wr.grownBy w1 (some g') := grown_drewN (by simpa [Value.ownBlock] using hg1)
                  have hO : Ints w w1 v1 (stepRow A B k (rowAt A B k) (j + 1)) := by
                    rw [hpp.out]
                    refine Ints.snoc ?_
                    rw [hls.out]; exact ho1
                  have hO2 : Ints w w1 (.slice (some ⟨g, 0, none⟩) (B.size + 1) c) (rowAt A B k) := own_kept HO.own hg2 (fun b hb => by
                    simp only [Value.ownBlock, Option.some.injEq] at hb
                    subst hb
                    simpa [Value.ownBlock] using hne.symm)
                  have hB : Below w.heap.size w w1 := HW.grown hg2 hs (fun b hb => by cases hb; exact (Ho.out.lt g' rfl).1)
                  have hne2 : v1.ownBlock ≠ some g := by
                    rcases hat with h | ⟨b, h, h'⟩
                    · rw [h]; exact hne
                    · rw [h]
                      have := (HO.own.lt g rfl).2
                      simp at h' ⊢; omega
                  clear ho1 hg1 hat hg2 hpp
                  go_wp2
                  go_roundw
                  case measure => simp [intOf]; omega
                  case rel => exact ⟨j + 1, by go_num, by omega, hO, hO2, hne2, hB⟩
              · have hbe : (if bt A k = bt B j then x else x + 1) = x + 1 := if_neg hbt
                replace hbe := Lib.hid hbe
                have hbf : (bt A k == bt B j) = false := by simpa using hbt
                have hbg : (bt A k != bt B j) = true := by simpa using hbt
                clear hbt
                have ho : wr.ownsRow w.heap.size 3 1 (.slice (some ⟨g', 0, none⟩) (j + 1) c') (j + 1) ((stepRow A B k (rowAt A B k) j).map fun x => .int .i64 x) := by rw [hls.out] at HN0; exact HN0
                have Ho := Lib.hid ho
                have hpp : Hid (stepRow A B k (rowAt A B k) (j + 1) = stepRow A B k (rowAt A B k) j ++ [mn (mn (x + 1) (y + 1)) (z + 1)]) := by rw [hp.out, hbe.out]; exact Lib.hid rfl
                clear ho hp HN0
                go_wp2
                go_quiet (fail)
                go_wp2_with (at_builtin; refine wp_append1 w.heap.size rfl (.tmp 68) (.tmp 70) 56 3 rfl Try.underlying56 (.int .i64 0) 1 8 info_int rfl (by decide) (.slice (some ⟨g', 0, none⟩) (j + 1) c') _ _ rfl [.int .i64 (mn (mn (x + 1) (y + 1)) (z + 1))] rfl Ho.out rfl ?_ ?_ ?_ hs ?_)
                · simp [Value.oneCell']
                · simp [maxLen]; omega
                · omega
                · intro v1 w1 ho1 hg1 hat
                  have hg2 : wr.grownBy w1 (some g') := grown_drewN (by simpa [Value.ownBlock] using hg1)
                  have hO : Ints w w1 v1 (stepRow A B k (rowAt A B k) (j + 1)) := by
                    rw [hpp.out]
                    refine Ints.snoc ?_
                    rw [hls.out]; exact ho1
                  have hO2 : Ints w w1 (.slice (some ⟨g, 0, none⟩) (B.size + 1) c) (rowAt A B k) := own_kept HO.own hg2 (fun b hb => by
                    simp only [Value.ownBlock, Option.some.injEq] at hb
                    subst hb
                    simpa [Value.ownBlock] using hne.symm)
                  have hB : Below w.heap.size w w1 := HW.grown hg2 hs (fun b hb => by cases hb; exact (Ho.out.lt g' rfl).1)
                  have hne2 : v1.ownBlock ≠ some g := by
                    rcases hat with h | ⟨b, h, h'⟩
                    · rw [h]; exact hne
                    · rw [h]
                      have := (HO.own.lt g rfl).2
                      simp at h' ⊢; omega
                  clear ho1 hg1 hat hg2 hpp
                  go_wp2
                  go_roundw
                  case measure => simp [intOf]; omega
                  case rel => exact ⟨j + 1, by go_num, by omega, hO, hO2, hne2, hB⟩
            · obtain rfl : j = B.size := by omega
              have HF : Ints w wr u8 (rowAt A B (k + 1)) := HN
              clear hlj hj HN HO
              go_wp2
              go_roundw
              case measure => simp [intOf]; omega
              case rel => exact ⟨k + 1, by go_num, by omega, HF, HW⟩
        · obtain rfl : k = A.size := by omega
          have hr := hc B.size (by omega)
          rw [hl]
          clear hc hl hlt hk
          go_wp2
          go_ret
          exact ⟨rfl, HW⟩
#print axioms refapart_calls

end Go.Proofs.Ytbochdimjhlnmaa
