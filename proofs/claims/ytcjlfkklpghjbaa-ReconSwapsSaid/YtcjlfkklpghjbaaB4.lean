/-
  remoraref44.held.
  remoraref44.Swap, remoralaw44.same.
  remoralaw44.same.
  recon.Clash, remoraref44.Clash.
  remoraref44.Paths: all paths of two lists, rising, each once.
  A region that draws its order, whose loads stand under one condition S, and whose last operations write what S speaks of: the head is walked under S, the tail in the text's order.
  remoraref44.Plan.
  recon's states: maps from paths to entries; its maps from paths to ints.
  recon.of: a list's entries by their paths.
  recon.sorted: all paths of some states, in order.
  recon: alike, dir, later, wish.
-/
import Derived.Test.YtcjlfkklpghjbaaB3
import Derived.Test.YtcjlfkklpghjbaaB2
import Derived.Test.YtcjlfkklpghjbaaB1
import Derived.StillTail
import Derived.OrdersHeld
set_option linter.unusedVariables false
set_option linter.unusedSimpArgs false

namespace Go.Proofs.Ytcjlfkklpghjbaa
open Go.RowKit

/-- A cell of an own row is written. -/
theorem own_set {W : World} {base : Nat} {e : TypeId} {size n : Nat} {v : Value} {xs : List Value} (h : W.ownsRow base e size v n xs) {g : Nat} (hv : v.ownBlock = some g) (j : Nat) (u : Value) : (W.setCell ⟨g, j, none⟩ u).ownsRow base e size v n (xs.set j u) := by
  obtain ⟨h1, ⟨rfl, h2⟩ | ⟨g', cap, cur, rfl, hb, hh, h3, h4, h5, h6⟩⟩ := h
  · cases hv
  · cases hv
    refine ⟨by rw [List.length_set]; exact h1, Or.inr ⟨g', cap, cur.setIfInBounds j u, rfl, hb, heap_set_same hh j u, h3, h4, by simpa using h5, ?_⟩⟩
    rw [Array.toList_setIfInBounds, List.take_set, h6]
theorem actRow_set : ∀ (l : Acts44) (k : Nat) (t : Int) (q : Bytes), (∀ y, l[k]? = some y → y.1 = q) → (actRow l).set (k * 2 + 1) (.int .i64 t) = actRow (l.set k (q, t))
  | [], k, t, q, _ => by simp [actRow]
  | z :: l, 0, t, q, h => by
    have hq := h z rfl
    have e : actRow (z :: l) = [.string (mkS z.1), .int .i64 z.2] ++ actRow l := rfl
    have e2 : actRow ((q, t) :: l) = [.string (mkS q), .int .i64 t] ++ actRow l := rfl
    rw [e, List.set_cons_zero, e2, hq]
    rfl
  | z :: l, k + 1, t, q, h => by
    have e : actRow (z :: l) = [.string (mkS z.1), .int .i64 z.2] ++ actRow l := rfl
    have ih := actRow_set l k t q (fun y hy => h y (by rw [List.getElem?_cons_succ]; exact hy))
    rw [e, List.set_cons_succ]
    have e2 : actRow (z :: l.set k (q, t)) = [.string (mkS z.1), .int .i64 z.2] ++ actRow (l.set k (q, t)) := rfl
    rw [e2, ← ih, show (k + 1) * 2 + 1 = (k * 2 + 1) + 2 by omega]
    rfl

/-- The row behind k rounds. -/
def heldTo (l : Acts44) (L R : List Ent) (k : Nat) : Acts44 := (heldL l L R).take k ++ l.drop k
theorem heldTo_at {l : Acts44} {L R : List Ent} {k : Nat} (hk : k < l.length) : (heldTo l L R k)[k]? = some l[k] := by
  unfold heldTo
  have hl : ((heldL l L R).take k).length = k := by rw [List.length_take, heldL, List.length_map]; omega
  rw [List.getElem?_append_right (by omega), hl, Nat.sub_self, List.getElem?_drop, Nat.add_zero, List.getElem?_eq_getElem hk]
theorem heldTo_step {l : Acts44} {L R : List Ent} {k : Nat} (hk : k < l.length) : heldTo l L R (k + 1) = (heldTo l L R k).set k (l[k].1, heldA l L R l[k]) := by
  unfold heldTo
  have hh : k < (heldL l L R).length := by rw [heldL, List.length_map]; exact hk
  have hl : ((heldL l L R).take k).length = k := by rw [List.length_take]; omega
  rw [List.take_succ_eq_append_getElem hh, List.set_append_right _ _ (by omega), hl, Nat.sub_self, List.drop_eq_getElem_cons hk, List.set_cons_zero, List.append_assoc]
  congr 1
  simp [heldL]
theorem heldTo_end (l : Acts44) (L R : List Ent) : heldTo l L R l.length = heldL l L R := by
  unfold heldTo
  rw [List.drop_length, List.append_nil, List.take_of_length_le]
  rw [heldL, List.length_map]
  exact Nat.le_refl _
theorem heldTo_len {l : Acts44} {L R : List Ent} {k : Nat} (hk : k ≤ l.length) : (heldTo l L R k).length = l.length := by
  unfold heldTo
  rw [List.length_append, List.length_take, List.length_drop, heldL, List.length_map]
  omega

theorem rda_src {W : World} {v : Value} {l : Acts44} (h : RdA W v l) : Src W v 2 l.length (actRow l) := by
  obtain ⟨A, c, rfl, h1, h2, hc⟩ := h
  by_cases hl : l = []
  · subst hl
    exact Or.inl ⟨rfl, rfl, A, c, rfl⟩
  · have hp : 0 < l.length := List.length_pos_iff.2 hl
    obtain ⟨g, o, rfl, _⟩ := hc 0 hp
    refine Or.inr ⟨_, c, rfl, actRow_length l, fun j u hj => ?_⟩
    have hlt : j < l.length * 2 := by have := (List.getElem?_eq_some_iff.1 hj).1; rwa [actRow_length] at this
    obtain ⟨i, b, hb, rfl⟩ : ∃ i b, b < 2 ∧ j = i * 2 + b := ⟨j / 2, j % 2, by omega, by omega⟩
    have hk : i < l.length := by omega
    obtain ⟨g', o', e, c1, c2⟩ := hc i hk
    cases e
    obtain ⟨r1, r2⟩ := actRow_at l i _ (List.getElem?_eq_getElem hk)
    rw [add_at]
    have hb2 : b = 0 ∨ b = 1 := by omega
    rcases hb2 with rfl | rfl
    · rw [Nat.add_zero] at hj ⊢
      rw [r1] at hj
      cases hj
      exact c1
    · rw [r2] at hj
      cases hj
      exact c2

theorem info_act44 : (Try.prog.info? 39).map (fun i => (i.zero, i.size, i.bytes)) = some (some (.agg #[.string ⟨#[]⟩, .int .i64 0]), 2, 24) := by kernel_rfl
set_option maxHeartbeats 8000000 in
set_option maxRecDepth 100000 in
theorem held44_calls (va vl vr : Value) (l : Acts44) (L R : List Ent) (w : World) (ha : RdA w va l) (hL : Ents w vl L) (hR : Ents w vr R) (rL : Rise L) (rR : Rise R) (hll : l.length ≤ 1000000) (hlp : ∀ y ∈ l, y.1.length ≤ 1000000) :
    Calls Try.prog 28 #[va, vl, vr] w fun e w' => (∃ v', e = .returned v' ∧ w'.ownsRow w.heap.size 39 2 v' l.length (actRow (heldL l L R))) ∧ Below w.heap.size w w' := by
  obtain ⟨A, c, rfl, h2, h3⟩ := ha.shape
  obtain ⟨Z1, z1, rfl, _, _⟩ := hL.shape
  obtain ⟨Z2, z2, rfl, _, _⟩ := hR.shape
  unfold maxLen at h3
  have hB0 := below_alloc (Below.refl w.heap.size w) (.cells #[] 39)
  have hown0 := own_made w w.heap.size 39 2 0 [] (Nat.le_refl _) rfl (by simp [maxLen])
  have hsrc := rda_src (ha.below hB0)
  have hd1 := fun W q hW => dir44_calls (.slice Z1 L.length z1) L q W hW rL
  have hd2 := fun W q hW => dir44_calls (.slice Z2 R.length z2) R q W hW rR
  have ht1 := fun W q hW => at44_calls (.slice Z1 L.length z1) L q W hW rL
  have ht2 := fun W q hW => at44_calls (.slice Z2 R.length z2) R q W hW rR
  have hb1 := fun W q hq hA hW => below44_calls (.slice A l.length c) (.slice Z1 L.length z1) l L q 2 W hA hW rL hq hlp
  have hb2 := fun W q hq hA hW => below44_calls (.slice A l.length c) (.slice Z2 R.length z2) l R q 1 W hA hW rR hq hlp
  replace ha := Lib.hid ha
  replace hL := Lib.hid hL
  replace hR := Lib.hid hR
  replace hB0 := Lib.hid hB0
  replace hown0 := Lib.hid hown0
  replace hsrc := Lib.hid hsrc
  replace hd1 := Lib.hid hd1
  replace hd2 := Lib.hid hd2
  replace ht1 := Lib.hid ht1
  replace ht2 := Lib.hid ht2
  replace hb1 := Lib.hid hb1
  replace hb2 := Lib.hid hb2
  replace hlp := Lib.hid hlp
  go_enter Try.func28, Try.ntmps28
  go_wp2_with (at_builtin; refine wp_append_any w.heap.size rfl (.tmp 16) (.tmp 17) 36 39 rfl Try.underlying36 (.agg #[.string ⟨#[]⟩, .int .i64 0]) 2 24 info_act44 rfl (by decide) (.slice (some ⟨w.heap.size, 0, none⟩) 0 0) 0 [] rfl (.slice A l.length c) l.length (actRow l) rfl hsrc.out hown0.out ?_ ?_ ?_ (by simp) ?_)
  · exact actRow_one l
  · simp only [maxLen]; omega
  · omega
  · intro v1 w1 g1 hg hat
    obtain ⟨vA, vc, hv1, hc1, hc2⟩ := own_shape g1
    subst hv1
    try simp only [Nat.zero_add, List.nil_append] at g1
    have hB1 : Below w.heap.size w w1 := hB0.out.grown hg hB0.out.size (own_base hown0.out)
    unfold maxLen at hc2
    have e0 : heldTo l L R 0 = l := by simp [heldTo]
    have hown : w1.ownsRow w.heap.size 39 2 (.slice vA l.length vc) l.length (actRow (heldTo l L R 0)) := by rw [e0]; exact g1
    replace hown := Lib.hid hown
    replace hB1 := Lib.hid hB1
    replace e0 := Lib.hid e0
    clear hg hat g1 hB0 hown0 hsrc
    try simp only [Nat.zero_add] at hc1
    go_wp2_with fail
    go_loopw [8] (fun i wr => ∃ k : Nat, i = .int .i64 k ∧ k ≤ l.length ∧ wr.ownsRow w.heap.size 39 2 (.slice vA l.length vc) l.length (actRow (heldTo l L R k)) ∧ Below w.heap.size w wr) (fun i _ => l.length - (intOf i).toNat)
    case atStart => exact ⟨0, rfl, Nat.zero_le _, hown.out, hB1.out⟩
    case round =>
      clear hown hB1
      obtain ⟨k, rfl, hk, hO, hB⟩ := hrel
      by_cases hlt : k < l.length
      · obtain ⟨g, o, rfl, c1, c2⟩ := (ha.out.below hB).at hlt
        obtain ⟨og, oc, hoe, hob, _, _, hov, _⟩ := own_at hO (by omega)
        simp only [Value.slice.injEq, true_and] at hoe
        obtain ⟨rfl, rfl⟩ := hoe
        have hstep := heldTo_step (L := L) (R := R) hlt
        have hat0 := heldTo_at (L := L) (R := R) hlt
        have hrow := fun t => actRow_set (heldTo l L R k) k t l[k].1 (fun y hy => by rw [hat0] at hy; cases hy; rfl)
        have hlen := heldTo_len (L := L) (R := R) (l := l) (k := k) (by omega)
        have hyl := hlp.out _ (List.getElem_mem hlt)
        have hheld : heldA l L R l[k] = if isDirE (entAt L l[k].1) = true ∧ isDirE (entAt R l[k].1) = false ∧ l[k].2 = 2 ∧ belowA l L l[k].1 2 = true then (if (entAt R l[k].1).isSome = true then 0 else 1) else if isDirE (entAt R l[k].1) = true ∧ isDirE (entAt L l[k].1) = false ∧ l[k].2 = 1 ∧ belowA l R l[k].1 1 = true then (if (entAt L l[k].1).isSome = true then 0 else 2) else l[k].2 := rfl
        have hself : (heldTo l L R k).set k (l[k].1, l[k].2) = heldTo l L R k := by
          obtain ⟨hk1, hk2⟩ := List.getElem?_eq_some_iff.1 hat0
          have := @List.set_getElem_self _ (heldTo l L R k) k hk1
          rwa [hk2] at this
        have hown : ∀ (W : World), Below wr.heap.size wr W → W.ownsRow w.heap.size 39 2 (.slice (some ⟨og, 0, none⟩) l.length vc) l.length (actRow (heldTo l L R k)) := fun W hW => own_below hO hW
        generalize heldA l L R l[k] = hd at *
        generalize l[k] = y at *
        obtain ⟨q, t⟩ := y
        dsimp only at *
        have hqs := mkS_size q
        have k1 := fun W hW => hd1.out W q hW
        have k2 := fun W hW => hd2.out W q hW
        have k3 := fun W hW => ht1.out W q hW
        have k4 := fun W hW => ht2.out W q hW
        have k5 := fun W hA hW => hb1.out W q (by omega) hA hW
        have k6 := fun W hA hW => hb2.out W q (by omega) hA hW
        generalize isDirE (entAt L q) = a at *
        generalize isDirE (entAt R q) = b at *
        generalize (entAt L q).isSome = sx at *
        generalize (entAt R q).isSome = sy at *
        generalize entOr (entAt L q) = x at *
        generalize entOr (entAt R q) = y at *
        generalize belowA l L q 2 = u1 at *
        generalize belowA l R q 1 = u2 at *
        obtain ⟨p1, kd1, sz1, ⟨a1, a2, a3, a4, a5⟩, tg1, sm1, gr1⟩ := x
        obtain ⟨p2, kd2, sz2, ⟨b1, b2, b3, b4, b5⟩, tg2, sm2, gr2⟩ := y
        unfold entV entCells at k3 k4
        dsimp only at k3 k4
        have hki : (k : Int) < (l.length : Int) := by omega
        replace hO := Lib.hid hO
        replace hB := Lib.hid hB
        replace hov := Lib.hid hov
        replace hstep := Lib.hid hstep
        replace hat0 := Lib.hid hat0
        replace hrow := Lib.hid hrow
        replace hlen := Lib.hid hlen
        replace hheld := Lib.hid hheld
        replace hself := Lib.hid hself
        replace hown := Lib.hid hown
        replace k1 := Lib.hid k1
        replace k2 := Lib.hid k2
        replace k3 := Lib.hid k3
        replace k4 := Lib.hid k4
        replace k5 := Lib.hid k5
        replace k6 := Lib.hid k6
        cases a with
        | true =>
          cases b with
          | true =>
            have hhq : hd = t := by rw [hheld.out]; simp
            replace hhq := Lib.hid hhq
            go_wp2_with fail
            (with_reducible refine (k1.out _ (hL.out.below hB.out)).mono ?_)
            rintro e w3 ⟨rfl, hB3⟩
            have hB03 := below_step hB.out hB3
            replace hB03 := Lib.hid hB03
            replace hB3 := Lib.hid hB3
            go_wp2_with fail
            (with_reducible refine (k2.out _ (hR.out.below hB03.out)).mono ?_)
            rintro e w4 ⟨rfl, hB4⟩
            have hBr4 := below_step hB3.out hB4
            have hB04 := below_step hB.out hBr4
            replace hB04 := Lib.hid hB04
            replace hBr4 := Lib.hid hBr4
            clear hB4 hB3 hB03
            go_wp2_with fail
            (with_reducible refine (k3.out _ (hL.out.below hB04.out)).mono ?_)
            rintro e w5 ⟨rfl, hB5⟩
            have hBr5 := below_alloc (below_step hBr4.out hB5) (.cells #[.string (mkS p1), .int .i64 kd1, .int .i64 sz1, .int .i64 a1, .int .i64 a2, .int .i64 a3, .int .i64 a4, .int .i64 a5, .string (mkS tg1), .string (mkS sm1), .int .i64 gr1] 35)
            have hB05 := below_step hB.out hBr5
            replace hB05 := Lib.hid hB05
            replace hBr5 := Lib.hid hBr5
            clear hB5 hBr4 hB04
            go_upto_region 8 with fail
            generalize w5.alloc (.cells #[.string (mkS p1), .int .i64 kd1, .int .i64 sz1, .int .i64 a1, .int .i64 a2, .int .i64 a3, .int .i64 a4, .int .i64 a5, .string (mkS tg1), .string (mkS sm1), .int .i64 gr1] 35) = w6 at *
            go_wp2_with fail
            (with_reducible refine (k4.out _ (hR.out.below hB05.out)).mono ?_)
            rintro e w7 ⟨rfl, hB7⟩
            have hBr7 := below_alloc (below_step hBr5.out hB7) (.cells #[.string (mkS p2), .int .i64 kd2, .int .i64 sz2, .int .i64 b1, .int .i64 b2, .int .i64 b3, .int .i64 b4, .int .i64 b5, .string (mkS tg2), .string (mkS sm2), .int .i64 gr2] 35)
            have hB07 := below_step hB.out hBr7
            replace hB07 := Lib.hid hB07
            replace hBr7 := Lib.hid hBr7
            clear hB7 hBr5 hB05
            go_upto_region 9 with fail
            generalize w7.alloc (.cells #[.string (mkS p2), .int .i64 kd2, .int .i64 sz2, .int .i64 b1, .int .i64 b2, .int .i64 b3, .int .i64 b4, .int .i64 b5, .string (mkS tg2), .string (mkS sm2), .int .i64 gr2] 35) = w8 at *
            have d1 := (hBr7.out.cell (cell_lt c1)).trans c1
            have d2 := (hBr7.out.cell (cell_lt c2)).trans c2
            clear c1 c2
            have hs := hstep.out
            rw [hhq.out, hself.out] at hs
            have ho := hown.out _ hBr7.out
            rw [← hs] at ho
            replace hs := Lib.hid hs
            replace ho := Lib.hid ho
            go_wp2
            go_roundw
            case rel => exact ⟨k + 1, by go_num, by omega, ho.out, hB07.out⟩
            case measure => simp [intOf]; omega
          | false =>
            by_cases ht2' : t = 2
            · subst ht2'
              have hLR := fun (W : World) (hW : Below w.heap.size w W) => hL.out.below hW
              cases u1 with
              | true =>
                have hhq : hd = if sy = true then 0 else 1 := by rw [hheld.out]; simp
                replace hhq := Lib.hid hhq
                replace hLR := Lib.hid hLR
                go_wp2_with fail
                (with_reducible refine (k1.out _ (hL.out.below hB.out)).mono ?_)
                rintro e w3 ⟨rfl, hB3⟩
                have hB03 := below_step hB.out hB3
                replace hB03 := Lib.hid hB03
                replace hB3 := Lib.hid hB3
                go_wp2_with fail
                (with_reducible refine (k2.out _ (hR.out.below hB03.out)).mono ?_)
                rintro e w4 ⟨rfl, hB4⟩
                have hBr4 := below_step hB3.out hB4
                have hB04 := below_step hB.out hBr4
                replace hB04 := Lib.hid hB04
                replace hBr4 := Lib.hid hBr4
                clear hB4 hB3 hB03
                go_wp2_with fail
                (with_reducible refine (k3.out _ (hL.out.below hB04.out)).mono ?_)
                rintro e w5 ⟨rfl, hB5⟩
                have hBr5 := below_alloc (below_step hBr4.out hB5) (.cells #[.string (mkS p1), .int .i64 kd1, .int .i64 sz1, .int .i64 a1, .int .i64 a2, .int .i64 a3, .int .i64 a4, .int .i64 a5, .string (mkS tg1), .string (mkS sm1), .int .i64 gr1] 35)
                have hB05 := below_step hB.out hBr5
                replace hB05 := Lib.hid hB05
                replace hBr5 := Lib.hid hBr5
                clear hB5 hBr4 hB04
                go_upto_region 8 with fail
                generalize w5.alloc (.cells #[.string (mkS p1), .int .i64 kd1, .int .i64 sz1, .int .i64 a1, .int .i64 a2, .int .i64 a3, .int .i64 a4, .int .i64 a5, .string (mkS tg1), .string (mkS sm1), .int .i64 gr1] 35) = w6 at *
                go_wp2_with fail
                (with_reducible refine (k4.out _ (hR.out.below hB05.out)).mono ?_)
                rintro e w7 ⟨rfl, hB7⟩
                have hBr7 := below_alloc (below_step hBr5.out hB7) (.cells #[.string (mkS p2), .int .i64 kd2, .int .i64 sz2, .int .i64 b1, .int .i64 b2, .int .i64 b3, .int .i64 b4, .int .i64 b5, .string (mkS tg2), .string (mkS sm2), .int .i64 gr2] 35)
                have hB07 := below_step hB.out hBr7
                replace hB07 := Lib.hid hB07
                replace hBr7 := Lib.hid hBr7
                clear hB7 hBr5 hB05
                go_upto_region 9 with fail
                generalize w7.alloc (.cells #[.string (mkS p2), .int .i64 kd2, .int .i64 sz2, .int .i64 b1, .int .i64 b2, .int .i64 b3, .int .i64 b4, .int .i64 b5, .string (mkS tg2), .string (mkS sm2), .int .i64 gr2] 35) = w8 at *
                have d1 := (hBr7.out.cell (cell_lt c1)).trans c1
                have d2 := (hBr7.out.cell (cell_lt c2)).trans c2
                clear c1 c2
                go_wp2_with fail
                (with_reducible refine (k5.out _ (ha.out.below hB07.out) (hLR.out _ hB07.out)).mono ?_)
                rintro e w9 ⟨rfl, hB9⟩
                have hBr9 := below_step hBr7.out hB9
                have hB09 := below_step hB.out hBr9
                have e1 := (hB9.cell (cell_lt d1)).trans d1
                have e2 := (hB9.cell (cell_lt d2)).trans d2
                replace hBr9 := Lib.hid hBr9
                replace hB09 := Lib.hid hB09
                clear hB9 d1 d2 hBr7 hB07
                have ho5 := hown.out w9 hBr9.out
                obtain ⟨_, cur, hcur⟩ := own_cells ho5 hov.out
                obtain ⟨og', oc', oe', _, _, _, _, hc5⟩ := own_at ho5 (by omega)
                simp only [Value.slice.injEq, Option.some.injEq, Addr.mk.injEq, and_true, true_and] at oe'
                have hog := oe'.1
                rw [← hog] at hc5
                clear oe' hog
                have c5 := hc5 _ _ (actRow_at _ _ _ hat0.out).2
                have f5 : w9.frozen? ⟨og, k * 2 + 1, none⟩ = false := by simp [World.frozen?, hcur]
                have hcur2 := heap_set_same hcur (k * 2 + 1) (.int .i64 1)
                have f6 : (w9.setCell ⟨og, k * 2 + 1, none⟩ (.int .i64 1)).frozen? ⟨og, k * 2 + 1, none⟩ = false := by simp [World.frozen?, hcur2]
                have s1 := own_set ho5 hov.out (k * 2 + 1) (.int .i64 1)
                have s2 := own_set s1 hov.out (k * 2 + 1) (.int .i64 0)
                have b1x := hB09.out.setCell (p := ⟨og, k * 2 + 1, none⟩) hob (.int .i64 1)
                have b2x := b1x.setCell (p := ⟨og, k * 2 + 1, none⟩) hob (.int .i64 0)
                rw [List.set_set, hrow.out] at s2
                rw [hrow.out] at s1
                have hs := hstep.out
                replace ho5 := Lib.hid ho5
                replace hcur := Lib.hid hcur
                replace hcur2 := Lib.hid hcur2
                replace s1 := Lib.hid s1
                replace s2 := Lib.hid s2
                replace b1x := Lib.hid b1x
                replace b2x := Lib.hid b2x
                replace hs := Lib.hid hs
                clear hc5
                cases sy with
                | true =>
                  have hs2 := hs.out
                  rw [hhq.out, if_pos rfl] at hs2
                  have hfin := s2.out
                  rw [← hs2] at hfin
                  replace hs2 := Lib.hid hs2
                  replace hfin := Lib.hid hfin
                  go_wp2
                  go_roundw
                  case rel => exact ⟨k + 1, by go_num, by omega, by simpa using hfin.out, by simpa using b2x.out⟩
                  case measure => simp [intOf]; omega
                | false =>
                  have hs2 := hs.out
                  rw [hhq.out, if_neg (by simp)] at hs2
                  have hfin := s1.out
                  rw [← hs2] at hfin
                  replace hs2 := Lib.hid hs2
                  replace hfin := Lib.hid hfin
                  go_wp2
                  go_roundw
                  case rel => exact ⟨k + 1, by go_num, by omega, hfin.out, b1x.out⟩
                  case measure => simp [intOf]; omega
              | false =>
                have hhq : hd = 2 := by rw [hheld.out]; simp
                replace hhq := Lib.hid hhq
                replace hLR := Lib.hid hLR
                go_wp2_with fail
                (with_reducible refine (k1.out _ (hL.out.below hB.out)).mono ?_)
                rintro e w3 ⟨rfl, hB3⟩
                have hB03 := below_step hB.out hB3
                replace hB03 := Lib.hid hB03
                replace hB3 := Lib.hid hB3
                go_wp2_with fail
                (with_reducible refine (k2.out _ (hR.out.below hB03.out)).mono ?_)
                rintro e w4 ⟨rfl, hB4⟩
                have hBr4 := below_step hB3.out hB4
                have hB04 := below_step hB.out hBr4
                replace hB04 := Lib.hid hB04
                replace hBr4 := Lib.hid hBr4
                clear hB4 hB3 hB03
                go_wp2_with fail
                (with_reducible refine (k3.out _ (hL.out.below hB04.out)).mono ?_)
                rintro e w5 ⟨rfl, hB5⟩
                have hBr5 := below_alloc (below_step hBr4.out hB5) (.cells #[.string (mkS p1), .int .i64 kd1, .int .i64 sz1, .int .i64 a1, .int .i64 a2, .int .i64 a3, .int .i64 a4, .int .i64 a5, .string (mkS tg1), .string (mkS sm1), .int .i64 gr1] 35)
                have hB05 := below_step hB.out hBr5
                replace hB05 := Lib.hid hB05
                replace hBr5 := Lib.hid hBr5
                clear hB5 hBr4 hB04
                go_upto_region 8 with fail
                generalize w5.alloc (.cells #[.string (mkS p1), .int .i64 kd1, .int .i64 sz1, .int .i64 a1, .int .i64 a2, .int .i64 a3, .int .i64 a4, .int .i64 a5, .string (mkS tg1), .string (mkS sm1), .int .i64 gr1] 35) = w6 at *
                go_wp2_with fail
                (with_reducible refine (k4.out _ (hR.out.below hB05.out)).mono ?_)
                rintro e w7 ⟨rfl, hB7⟩
                have hBr7 := below_alloc (below_step hBr5.out hB7) (.cells #[.string (mkS p2), .int .i64 kd2, .int .i64 sz2, .int .i64 b1, .int .i64 b2, .int .i64 b3, .int .i64 b4, .int .i64 b5, .string (mkS tg2), .string (mkS sm2), .int .i64 gr2] 35)
                have hB07 := below_step hB.out hBr7
                replace hB07 := Lib.hid hB07
                replace hBr7 := Lib.hid hBr7
                clear hB7 hBr5 hB05
                go_upto_region 9 with fail
                generalize w7.alloc (.cells #[.string (mkS p2), .int .i64 kd2, .int .i64 sz2, .int .i64 b1, .int .i64 b2, .int .i64 b3, .int .i64 b4, .int .i64 b5, .string (mkS tg2), .string (mkS sm2), .int .i64 gr2] 35) = w8 at *
                have d1 := (hBr7.out.cell (cell_lt c1)).trans c1
                have d2 := (hBr7.out.cell (cell_lt c2)).trans c2
                clear c1 c2
                go_wp2_with fail
                (with_reducible refine (k5.out _ (ha.out.below hB07.out) (hLR.out _ hB07.out)).mono ?_)
                rintro e w9 ⟨rfl, hB9⟩
                have hBr9 := below_step hBr7.out hB9
                have hB09 := below_step hB.out hBr9
                have e1 := (hB9.cell (cell_lt d1)).trans d1
                have e2 := (hB9.cell (cell_lt d2)).trans d2
                replace hBr9 := Lib.hid hBr9
                replace hB09 := Lib.hid hB09
                clear hB9 d1 d2 hBr7 hB07
                have hs := hstep.out
                rw [hhq.out, hself.out] at hs
                have ho := hown.out _ hBr9.out
                rw [← hs] at ho
                replace hs := Lib.hid hs
                replace ho := Lib.hid ho
                go_wp2
                go_roundw
                case rel => exact ⟨k + 1, by go_num, by omega, ho.out, hB09.out⟩
                case measure => simp [intOf]; omega
            · have hhq : hd = t := by rw [hheld.out]; simp [ht2']
              have z2 : (t == 2) = false := by simpa using ht2'
              replace hhq := Lib.hid hhq
              replace ht2' := Lib.hid ht2'
              go_wp2_with fail
              (with_reducible refine (k1.out _ (hL.out.below hB.out)).mono ?_)
              rintro e w3 ⟨rfl, hB3⟩
              have hB03 := below_step hB.out hB3
              replace hB03 := Lib.hid hB03
              replace hB3 := Lib.hid hB3
              go_wp2_with fail
              (with_reducible refine (k2.out _ (hR.out.below hB03.out)).mono ?_)
              rintro e w4 ⟨rfl, hB4⟩
              have hBr4 := below_step hB3.out hB4
              have hB04 := below_step hB.out hBr4
              replace hB04 := Lib.hid hB04
              replace hBr4 := Lib.hid hBr4
              clear hB4 hB3 hB03
              go_wp2_with fail
              (with_reducible refine (k3.out _ (hL.out.below hB04.out)).mono ?_)
              rintro e w5 ⟨rfl, hB5⟩
              have hBr5 := below_alloc (below_step hBr4.out hB5) (.cells #[.string (mkS p1), .int .i64 kd1, .int .i64 sz1, .int .i64 a1, .int .i64 a2, .int .i64 a3, .int .i64 a4, .int .i64 a5, .string (mkS tg1), .string (mkS sm1), .int .i64 gr1] 35)
              have hB05 := below_step hB.out hBr5
              replace hB05 := Lib.hid hB05
              replace hBr5 := Lib.hid hBr5
              clear hB5 hBr4 hB04
              go_upto_region 8 with fail
              generalize w5.alloc (.cells #[.string (mkS p1), .int .i64 kd1, .int .i64 sz1, .int .i64 a1, .int .i64 a2, .int .i64 a3, .int .i64 a4, .int .i64 a5, .string (mkS tg1), .string (mkS sm1), .int .i64 gr1] 35) = w6 at *
              go_wp2_with fail
              (with_reducible refine (k4.out _ (hR.out.below hB05.out)).mono ?_)
              rintro e w7 ⟨rfl, hB7⟩
              have hBr7 := below_alloc (below_step hBr5.out hB7) (.cells #[.string (mkS p2), .int .i64 kd2, .int .i64 sz2, .int .i64 b1, .int .i64 b2, .int .i64 b3, .int .i64 b4, .int .i64 b5, .string (mkS tg2), .string (mkS sm2), .int .i64 gr2] 35)
              have hB07 := below_step hB.out hBr7
              replace hB07 := Lib.hid hB07
              replace hBr7 := Lib.hid hBr7
              clear hB7 hBr5 hB05
              go_upto_region 9 with fail
              generalize w7.alloc (.cells #[.string (mkS p2), .int .i64 kd2, .int .i64 sz2, .int .i64 b1, .int .i64 b2, .int .i64 b3, .int .i64 b4, .int .i64 b5, .string (mkS tg2), .string (mkS sm2), .int .i64 gr2] 35) = w8 at *
              have d1 := (hBr7.out.cell (cell_lt c1)).trans c1
              have d2 := (hBr7.out.cell (cell_lt c2)).trans c2
              clear c1 c2
              have hs := hstep.out
              rw [hhq.out, hself.out] at hs
              have ho := hown.out _ hBr7.out
              rw [← hs] at ho
              replace hs := Lib.hid hs
              replace ho := Lib.hid ho
              go_wp2
              go_roundw
              case rel => exact ⟨k + 1, by go_num, by omega, ho.out, hB07.out⟩
              case measure => simp [intOf]; omega
        | false =>
          cases b with
          | false =>
            have hhq : hd = t := by rw [hheld.out]; simp
            replace hhq := Lib.hid hhq
            go_wp2_with fail
            (with_reducible refine (k1.out _ (hL.out.below hB.out)).mono ?_)
            rintro e w3 ⟨rfl, hB3⟩
            have hB03 := below_step hB.out hB3
            replace hB03 := Lib.hid hB03
            replace hB3 := Lib.hid hB3
            go_wp2_with fail
            (with_reducible refine (k2.out _ (hR.out.below hB03.out)).mono ?_)
            rintro e w4 ⟨rfl, hB4⟩
            have hBr4 := below_step hB3.out hB4
            have hB04 := below_step hB.out hBr4
            replace hB04 := Lib.hid hB04
            replace hBr4 := Lib.hid hBr4
            clear hB4 hB3 hB03
            go_wp2_with fail
            (with_reducible refine (k3.out _ (hL.out.below hB04.out)).mono ?_)
            rintro e w5 ⟨rfl, hB5⟩
            have hBr5 := below_alloc (below_step hBr4.out hB5) (.cells #[.string (mkS p1), .int .i64 kd1, .int .i64 sz1, .int .i64 a1, .int .i64 a2, .int .i64 a3, .int .i64 a4, .int .i64 a5, .string (mkS tg1), .string (mkS sm1), .int .i64 gr1] 35)
            have hB05 := below_step hB.out hBr5
            replace hB05 := Lib.hid hB05
            replace hBr5 := Lib.hid hBr5
            clear hB5 hBr4 hB04
            go_upto_region 8 with fail
            generalize w5.alloc (.cells #[.string (mkS p1), .int .i64 kd1, .int .i64 sz1, .int .i64 a1, .int .i64 a2, .int .i64 a3, .int .i64 a4, .int .i64 a5, .string (mkS tg1), .string (mkS sm1), .int .i64 gr1] 35) = w6 at *
            go_wp2_with fail
            (with_reducible refine (k4.out _ (hR.out.below hB05.out)).mono ?_)
            rintro e w7 ⟨rfl, hB7⟩
            have hBr7 := below_alloc (below_step hBr5.out hB7) (.cells #[.string (mkS p2), .int .i64 kd2, .int .i64 sz2, .int .i64 b1, .int .i64 b2, .int .i64 b3, .int .i64 b4, .int .i64 b5, .string (mkS tg2), .string (mkS sm2), .int .i64 gr2] 35)
            have hB07 := below_step hB.out hBr7
            replace hB07 := Lib.hid hB07
            replace hBr7 := Lib.hid hBr7
            clear hB7 hBr5 hB05
            go_upto_region 9 with fail
            generalize w7.alloc (.cells #[.string (mkS p2), .int .i64 kd2, .int .i64 sz2, .int .i64 b1, .int .i64 b2, .int .i64 b3, .int .i64 b4, .int .i64 b5, .string (mkS tg2), .string (mkS sm2), .int .i64 gr2] 35) = w8 at *
            have d1 := (hBr7.out.cell (cell_lt c1)).trans c1
            have d2 := (hBr7.out.cell (cell_lt c2)).trans c2
            clear c1 c2
            have hs := hstep.out
            rw [hhq.out, hself.out] at hs
            have ho := hown.out _ hBr7.out
            rw [← hs] at ho
            replace hs := Lib.hid hs
            replace ho := Lib.hid ho
            go_wp2
            go_roundw
            case rel => exact ⟨k + 1, by go_num, by omega, ho.out, hB07.out⟩
            case measure => simp [intOf]; omega
          | true =>
            by_cases ht1' : t = 1
            · subst ht1'
              have hLR := fun (W : World) (hW : Below w.heap.size w W) => hR.out.below hW
              cases u2 with
              | true =>
                have hhq : hd = if sx = true then 0 else 2 := by rw [hheld.out]; simp
                replace hhq := Lib.hid hhq
                replace hLR := Lib.hid hLR
                go_wp2_with fail
                (with_reducible refine (k1.out _ (hL.out.below hB.out)).mono ?_)
                rintro e w3 ⟨rfl, hB3⟩
                have hB03 := below_step hB.out hB3
                replace hB03 := Lib.hid hB03
                replace hB3 := Lib.hid hB3
                go_wp2_with fail
                (with_reducible refine (k2.out _ (hR.out.below hB03.out)).mono ?_)
                rintro e w4 ⟨rfl, hB4⟩
                have hBr4 := below_step hB3.out hB4
                have hB04 := below_step hB.out hBr4
                replace hB04 := Lib.hid hB04
                replace hBr4 := Lib.hid hBr4
                clear hB4 hB3 hB03
                go_wp2_with fail
                (with_reducible refine (k3.out _ (hL.out.below hB04.out)).mono ?_)
                rintro e w5 ⟨rfl, hB5⟩
                have hBr5 := below_alloc (below_step hBr4.out hB5) (.cells #[.string (mkS p1), .int .i64 kd1, .int .i64 sz1, .int .i64 a1, .int .i64 a2, .int .i64 a3, .int .i64 a4, .int .i64 a5, .string (mkS tg1), .string (mkS sm1), .int .i64 gr1] 35)
                have hB05 := below_step hB.out hBr5
                replace hB05 := Lib.hid hB05
                replace hBr5 := Lib.hid hBr5
                clear hB5 hBr4 hB04
                go_upto_region 8 with fail
                generalize w5.alloc (.cells #[.string (mkS p1), .int .i64 kd1, .int .i64 sz1, .int .i64 a1, .int .i64 a2, .int .i64 a3, .int .i64 a4, .int .i64 a5, .string (mkS tg1), .string (mkS sm1), .int .i64 gr1] 35) = w6 at *
                go_wp2_with fail
                (with_reducible refine (k4.out _ (hR.out.below hB05.out)).mono ?_)
                rintro e w7 ⟨rfl, hB7⟩
                have hBr7 := below_alloc (below_step hBr5.out hB7) (.cells #[.string (mkS p2), .int .i64 kd2, .int .i64 sz2, .int .i64 b1, .int .i64 b2, .int .i64 b3, .int .i64 b4, .int .i64 b5, .string (mkS tg2), .string (mkS sm2), .int .i64 gr2] 35)
                have hB07 := below_step hB.out hBr7
                replace hB07 := Lib.hid hB07
                replace hBr7 := Lib.hid hBr7
                clear hB7 hBr5 hB05
                go_upto_region 9 with fail
                generalize w7.alloc (.cells #[.string (mkS p2), .int .i64 kd2, .int .i64 sz2, .int .i64 b1, .int .i64 b2, .int .i64 b3, .int .i64 b4, .int .i64 b5, .string (mkS tg2), .string (mkS sm2), .int .i64 gr2] 35) = w8 at *
                have d1 := (hBr7.out.cell (cell_lt c1)).trans c1
                have d2 := (hBr7.out.cell (cell_lt c2)).trans c2
                clear c1 c2
                go_wp2_with fail
                (with_reducible refine (k6.out _ (ha.out.below hB07.out) (hLR.out _ hB07.out)).mono ?_)
                rintro e w9 ⟨rfl, hB9⟩
                have hBr9 := below_step hBr7.out hB9
                have hB09 := below_step hB.out hBr9
                have e1 := (hB9.cell (cell_lt d1)).trans d1
                have e2 := (hB9.cell (cell_lt d2)).trans d2
                replace hBr9 := Lib.hid hBr9
                replace hB09 := Lib.hid hB09
                clear hB9 d1 d2 hBr7 hB07
                have ho5 := hown.out w9 hBr9.out
                obtain ⟨_, cur, hcur⟩ := own_cells ho5 hov.out
                obtain ⟨og', oc', oe', _, _, _, _, hc5⟩ := own_at ho5 (by omega)
                simp only [Value.slice.injEq, Option.some.injEq, Addr.mk.injEq, and_true, true_and] at oe'
                have hog := oe'.1
                rw [← hog] at hc5
                clear oe' hog
                have c5 := hc5 _ _ (actRow_at _ _ _ hat0.out).2
                have f5 : w9.frozen? ⟨og, k * 2 + 1, none⟩ = false := by simp [World.frozen?, hcur]
                have hcur2 := heap_set_same hcur (k * 2 + 1) (.int .i64 2)
                have f6 : (w9.setCell ⟨og, k * 2 + 1, none⟩ (.int .i64 2)).frozen? ⟨og, k * 2 + 1, none⟩ = false := by simp [World.frozen?, hcur2]
                have s1 := own_set ho5 hov.out (k * 2 + 1) (.int .i64 2)
                have s2 := own_set s1 hov.out (k * 2 + 1) (.int .i64 0)
                have b1x := hB09.out.setCell (p := ⟨og, k * 2 + 1, none⟩) hob (.int .i64 2)
                have b2x := b1x.setCell (p := ⟨og, k * 2 + 1, none⟩) hob (.int .i64 0)
                rw [List.set_set, hrow.out] at s2
                rw [hrow.out] at s1
                have hs := hstep.out
                replace ho5 := Lib.hid ho5
                replace hcur := Lib.hid hcur
                replace hcur2 := Lib.hid hcur2
                replace s1 := Lib.hid s1
                replace s2 := Lib.hid s2
                replace b1x := Lib.hid b1x
                replace b2x := Lib.hid b2x
                replace hs := Lib.hid hs
                clear hc5
                cases sx with
                | true =>
                  have hs2 := hs.out
                  rw [hhq.out, if_pos rfl] at hs2
                  have hfin := s2.out
                  rw [← hs2] at hfin
                  replace hs2 := Lib.hid hs2
                  replace hfin := Lib.hid hfin
                  go_wp2
                  go_roundw
                  case rel => exact ⟨k + 1, by go_num, by omega, by simpa using hfin.out, by simpa using b2x.out⟩
                  case measure => simp [intOf]; omega
                | false =>
                  have hs2 := hs.out
                  rw [hhq.out, if_neg (by simp)] at hs2
                  have hfin := s1.out
                  rw [← hs2] at hfin
                  replace hs2 := Lib.hid hs2
                  replace hfin := Lib.hid hfin
                  go_wp2
                  go_roundw
                  case rel => exact ⟨k + 1, by go_num, by omega, hfin.out, b1x.out⟩
                  case measure => simp [intOf]; omega
              | false =>
                have hhq : hd = 1 := by rw [hheld.out]; simp
                replace hhq := Lib.hid hhq
                replace hLR := Lib.hid hLR
                go_wp2_with fail
                (with_reducible refine (k1.out _ (hL.out.below hB.out)).mono ?_)
                rintro e w3 ⟨rfl, hB3⟩
                have hB03 := below_step hB.out hB3
                replace hB03 := Lib.hid hB03
                replace hB3 := Lib.hid hB3
                go_wp2_with fail
                (with_reducible refine (k2.out _ (hR.out.below hB03.out)).mono ?_)
                rintro e w4 ⟨rfl, hB4⟩
                have hBr4 := below_step hB3.out hB4
                have hB04 := below_step hB.out hBr4
                replace hB04 := Lib.hid hB04
                replace hBr4 := Lib.hid hBr4
                clear hB4 hB3 hB03
                go_wp2_with fail
                (with_reducible refine (k3.out _ (hL.out.below hB04.out)).mono ?_)
                rintro e w5 ⟨rfl, hB5⟩
                have hBr5 := below_alloc (below_step hBr4.out hB5) (.cells #[.string (mkS p1), .int .i64 kd1, .int .i64 sz1, .int .i64 a1, .int .i64 a2, .int .i64 a3, .int .i64 a4, .int .i64 a5, .string (mkS tg1), .string (mkS sm1), .int .i64 gr1] 35)
                have hB05 := below_step hB.out hBr5
                replace hB05 := Lib.hid hB05
                replace hBr5 := Lib.hid hBr5
                clear hB5 hBr4 hB04
                go_upto_region 8 with fail
                generalize w5.alloc (.cells #[.string (mkS p1), .int .i64 kd1, .int .i64 sz1, .int .i64 a1, .int .i64 a2, .int .i64 a3, .int .i64 a4, .int .i64 a5, .string (mkS tg1), .string (mkS sm1), .int .i64 gr1] 35) = w6 at *
                go_wp2_with fail
                (with_reducible refine (k4.out _ (hR.out.below hB05.out)).mono ?_)
                rintro e w7 ⟨rfl, hB7⟩
                have hBr7 := below_alloc (below_step hBr5.out hB7) (.cells #[.string (mkS p2), .int .i64 kd2, .int .i64 sz2, .int .i64 b1, .int .i64 b2, .int .i64 b3, .int .i64 b4, .int .i64 b5, .string (mkS tg2), .string (mkS sm2), .int .i64 gr2] 35)
                have hB07 := below_step hB.out hBr7
                replace hB07 := Lib.hid hB07
                replace hBr7 := Lib.hid hBr7
                clear hB7 hBr5 hB05
                go_upto_region 9 with fail
                generalize w7.alloc (.cells #[.string (mkS p2), .int .i64 kd2, .int .i64 sz2, .int .i64 b1, .int .i64 b2, .int .i64 b3, .int .i64 b4, .int .i64 b5, .string (mkS tg2), .string (mkS sm2), .int .i64 gr2] 35) = w8 at *
                have d1 := (hBr7.out.cell (cell_lt c1)).trans c1
                have d2 := (hBr7.out.cell (cell_lt c2)).trans c2
                clear c1 c2
                go_wp2_with fail
                (with_reducible refine (k6.out _ (ha.out.below hB07.out) (hLR.out _ hB07.out)).mono ?_)
                rintro e w9 ⟨rfl, hB9⟩
                have hBr9 := below_step hBr7.out hB9
                have hB09 := below_step hB.out hBr9
                have e1 := (hB9.cell (cell_lt d1)).trans d1
                have e2 := (hB9.cell (cell_lt d2)).trans d2
                replace hBr9 := Lib.hid hBr9
                replace hB09 := Lib.hid hB09
                clear hB9 d1 d2 hBr7 hB07
                have hs := hstep.out
                rw [hhq.out, hself.out] at hs
                have ho := hown.out _ hBr9.out
                rw [← hs] at ho
                replace hs := Lib.hid hs
                replace ho := Lib.hid ho
                go_wp2
                go_roundw
                case rel => exact ⟨k + 1, by go_num, by omega, ho.out, hB09.out⟩
                case measure => simp [intOf]; omega
            · have hhq : hd = t := by rw [hheld.out]; simp [ht1']
              have z1' : (t == 1) = false := by simpa using ht1'
              replace hhq := Lib.hid hhq
              replace ht1' := Lib.hid ht1'
              go_wp2_with fail
              (with_reducible refine (k1.out _ (hL.out.below hB.out)).mono ?_)
              rintro e w3 ⟨rfl, hB3⟩
              have hB03 := below_step hB.out hB3
              replace hB03 := Lib.hid hB03
              replace hB3 := Lib.hid hB3
              go_wp2_with fail
              (with_reducible refine (k2.out _ (hR.out.below hB03.out)).mono ?_)
              rintro e w4 ⟨rfl, hB4⟩
              have hBr4 := below_step hB3.out hB4
              have hB04 := below_step hB.out hBr4
              replace hB04 := Lib.hid hB04
              replace hBr4 := Lib.hid hBr4
              clear hB4 hB3 hB03
              go_wp2_with fail
              (with_reducible refine (k3.out _ (hL.out.below hB04.out)).mono ?_)
              rintro e w5 ⟨rfl, hB5⟩
              have hBr5 := below_alloc (below_step hBr4.out hB5) (.cells #[.string (mkS p1), .int .i64 kd1, .int .i64 sz1, .int .i64 a1, .int .i64 a2, .int .i64 a3, .int .i64 a4, .int .i64 a5, .string (mkS tg1), .string (mkS sm1), .int .i64 gr1] 35)
              have hB05 := below_step hB.out hBr5
              replace hB05 := Lib.hid hB05
              replace hBr5 := Lib.hid hBr5
              clear hB5 hBr4 hB04
              go_upto_region 8 with fail
              generalize w5.alloc (.cells #[.string (mkS p1), .int .i64 kd1, .int .i64 sz1, .int .i64 a1, .int .i64 a2, .int .i64 a3, .int .i64 a4, .int .i64 a5, .string (mkS tg1), .string (mkS sm1), .int .i64 gr1] 35) = w6 at *
              go_wp2_with fail
              (with_reducible refine (k4.out _ (hR.out.below hB05.out)).mono ?_)
              rintro e w7 ⟨rfl, hB7⟩
              have hBr7 := below_alloc (below_step hBr5.out hB7) (.cells #[.string (mkS p2), .int .i64 kd2, .int .i64 sz2, .int .i64 b1, .int .i64 b2, .int .i64 b3, .int .i64 b4, .int .i64 b5, .string (mkS tg2), .string (mkS sm2), .int .i64 gr2] 35)
              have hB07 := below_step hB.out hBr7
              replace hB07 := Lib.hid hB07
              replace hBr7 := Lib.hid hBr7
              clear hB7 hBr5 hB05
              go_upto_region 9 with fail
              generalize w7.alloc (.cells #[.string (mkS p2), .int .i64 kd2, .int .i64 sz2, .int .i64 b1, .int .i64 b2, .int .i64 b3, .int .i64 b4, .int .i64 b5, .string (mkS tg2), .string (mkS sm2), .int .i64 gr2] 35) = w8 at *
              have d1 := (hBr7.out.cell (cell_lt c1)).trans c1
              have d2 := (hBr7.out.cell (cell_lt c2)).trans c2
              clear c1 c2
              have hs := hstep.out
              rw [hhq.out, hself.out] at hs
              have ho := hown.out _ hBr7.out
              rw [← hs] at ho
              replace hs := Lib.hid hs
              replace ho := Lib.hid ho
              go_wp2
              go_roundw
              case rel => exact ⟨k + 1, by go_num, by omega, ho.out, hB07.out⟩
              case measure => simp [intOf]; omega
      · obtain rfl : k = l.length := by omega
        rw [heldTo_end] at hO
        replace hO := Lib.hid hO
        replace hB := Lib.hid hB
        go_wp2
        go_ret
        exact ⟨⟨_, rfl, hO.out⟩, hB.out⟩

end Go.Proofs.Ytcjlfkklpghjbaa

namespace Go.Proofs.Ytcjlfkklpghjbaa
open Go.RowKit

theorem swapA_snoc {l : Acts44} {k : Nat} (hk : k < l.length) : swapA (l.take (k + 1)) = swapA (l.take k) ++ [(l[k].1, swapT l[k].2)] := by
  rw [List.take_succ_eq_append_getElem hk]
  unfold swapA
  rw [List.map_append]
  rfl

set_option maxHeartbeats 4000000 in
set_option maxRecDepth 100000 in
theorem swap44_calls (va : Value) (l : Acts44) (w : World) (ha : RdA w va l) (hll : l.length ≤ 1000000) :
    Calls Try.prog 9 #[va] w fun e w' => (∃ v', e = .returned v' ∧ w'.ownsRow w.heap.size 39 2 v' l.length (actRow (swapA l))) ∧ Below w.heap.size w w' := by
  obtain ⟨A, c, rfl, h2, h3⟩ := ha.shape
  unfold maxLen at h3
  replace ha := Lib.hid ha
  go_enter Try.func9, Try.ntmps9
  go_wp2_with fail
  go_loopw [3, 4] (fun o i wr => ∃ k : Nat, i = .int .i64 k ∧ k ≤ l.length ∧ wr.ownsRow w.heap.size 39 2 o k (actRow (swapA (l.take k))) ∧ Below w.heap.size w wr) (fun _ i _ => l.length - (intOf i).toNat)
  case atStart => exact ⟨0, rfl, Nat.zero_le _, World.ownsRow_nil _ _ _ _, Below.refl _ _⟩
  case round =>
    obtain ⟨k, rfl, hk, hO, hB⟩ := hrel
    by_cases hlt : k < l.length
    · obtain ⟨g, o, rfl, c1, c2⟩ := (ha.out.below hB).at hlt
      have hsn := swapA_snoc hlt
      generalize l[k] = y at *
      obtain ⟨q, t⟩ := y
      dsimp only at *
      obtain ⟨oA, oc, ho, ho1, ho2⟩ := own_shape hO
      subst ho
      unfold maxLen at ho2
      have hki : (k : Int) < (l.length : Int) := by omega
      replace hO := Lib.hid hO
      replace hB := Lib.hid hB
      replace hsn := Lib.hid hsn
      by_cases h1 : t = 1
      · subst h1
        have hst : swapT 1 = 2 := rfl
        replace hst := Lib.hid hst
        go_wp2_with (at_builtin; refine wp_append1 w.heap.size rfl (.tmp 25) (.tmp 33) 36 39 rfl Try.underlying36 (.agg #[.string ⟨#[]⟩, .int .i64 0]) 2 24 info_act44 rfl (by decide) (.slice oA k oc) _ _ rfl [.string (mkS q), .int .i64 2] rfl hO.out rfl ?_ ?_ ?_ hB.out.size ?_)
        · simp [Value.oneCell']
        · simp only [maxLen]; omega
        · omega
        · intro v1 w3 g1 hg hat
          have hB3 := hB.out.grown hg hB.out.size (own_base hO.out)
          have hO3 : w3.ownsRow w.heap.size 39 2 v1 (k + 1) (actRow (swapA (l.take (k + 1)))) := by
            rw [hsn.out, hst.out, actRow_append]
            exact g1
          replace hO3 := Lib.hid hO3
          replace hB3 := Lib.hid hB3
          clear g1 hg hat
          go_wp2
          go_roundw
          case rel => exact ⟨k + 1, by go_num, by omega, hO3.out, hB3.out⟩
          case measure => simp [intOf]; omega
      · by_cases h2 : t = 2
        · subst h2
          have hst : swapT 2 = 1 := rfl
          replace hst := Lib.hid hst
          go_wp2_with (at_builtin; refine wp_append1 w.heap.size rfl (.tmp 25) (.tmp 33) 36 39 rfl Try.underlying36 (.agg #[.string ⟨#[]⟩, .int .i64 0]) 2 24 info_act44 rfl (by decide) (.slice oA k oc) _ _ rfl [.string (mkS q), .int .i64 1] rfl hO.out rfl ?_ ?_ ?_ hB.out.size ?_)
          · simp [Value.oneCell']
          · simp only [maxLen]; omega
          · omega
          · intro v1 w3 g1 hg hat
            have hB3 := hB.out.grown hg hB.out.size (own_base hO.out)
            have hO3 : w3.ownsRow w.heap.size 39 2 v1 (k + 1) (actRow (swapA (l.take (k + 1)))) := by
              rw [hsn.out, hst.out, actRow_append]
              exact g1
            replace hO3 := Lib.hid hO3
            replace hB3 := Lib.hid hB3
            clear g1 hg hat
            go_wp2
            go_roundw
            case rel => exact ⟨k + 1, by go_num, by omega, hO3.out, hB3.out⟩
            case measure => simp [intOf]; omega
        · have z1 : (t == 1) = false := by simpa using h1
          have z2 : (t == 2) = false := by simpa using h2
          have hst : swapT t = t := by unfold swapT; rw [if_neg (by omega)]
          replace hst := Lib.hid hst
          replace h1 := Lib.hid h1
          replace h2 := Lib.hid h2
          go_wp2_with (at_builtin; refine wp_append1 w.heap.size rfl (.tmp 25) (.tmp 33) 36 39 rfl Try.underlying36 (.agg #[.string ⟨#[]⟩, .int .i64 0]) 2 24 info_act44 rfl (by decide) (.slice oA k oc) _ _ rfl [.string (mkS q), .int .i64 t] rfl hO.out rfl ?_ ?_ ?_ hB.out.size ?_)
          · simp [Value.oneCell']
          · simp only [maxLen]; omega
          · omega
          · intro v1 w3 g1 hg hat
            have hB3 := hB.out.grown hg hB.out.size (own_base hO.out)
            have hO3 : w3.ownsRow w.heap.size 39 2 v1 (k + 1) (actRow (swapA (l.take (k + 1)))) := by
              rw [hsn.out, hst.out, actRow_append]
              exact g1
            replace hO3 := Lib.hid hO3
            replace hB3 := Lib.hid hB3
            clear g1 hg hat
            go_wp2
            go_roundw
            case rel => exact ⟨k + 1, by go_num, by omega, hO3.out, hB3.out⟩
            case measure => simp [intOf]; omega
    · obtain rfl : k = l.length := by omega
      rw [List.take_length] at hO
      replace hO := Lib.hid hO
      replace hB := Lib.hid hB
      go_wp2
      go_ret
      exact ⟨⟨_, rfl, hO.out⟩, hB.out⟩

end Go.Proofs.Ytcjlfkklpghjbaa

namespace Go.Proofs.Ytcjlfkklpghjbaa
open Go.RowKit

set_option maxHeartbeats 4000000 in
set_option maxRecDepth 100000 in
theorem same44_calls (va vb : Value) (l r : Acts44) (w : World) (ha : RdA w va l) (hb : RdA w vb r) (hll : l.length ≤ 1000000) :
    Calls Try.prog 8 #[va, vb] w fun e w' => e = .returned (.bool (decide (l = r))) ∧ Below w.heap.size w w' := by
  obtain ⟨A, c, rfl, h2, h3⟩ := ha.shape
  obtain ⟨B, d, rfl, h4, h5⟩ := hb.shape
  unfold maxLen at h3 h5
  by_cases hlen : l.length = r.length
  · rw [← hlen] at hb h4 ⊢
    have hno : ∀ k (hk : k < l.length), l[k] ≠ r[k]'(by omega) → decide (l = r) = false := fun k hk hne => by
      rw [decide_eq_false_iff_not]
      rintro rfl
      exact hne rfl
    have hrel0 : ∀ k (hk : k < l.length), ∃ g o, B = some ⟨g, o, none⟩ ∧ w.cell? ⟨g, o + k * 2, none⟩ = some (.string (mkS (r[k]'(by omega)).1)) ∧ w.cell? ⟨g, o + k * 2 + 1, none⟩ = some (.int .i64 (r[k]'(by omega)).2) := fun k hk => by
      rw [hlen] at hb
      exact hb.at (by omega)
    have hend : (∀ k (hk : k < l.length), l[k] = r[k]'(by omega)) → decide (l = r) = true := fun h => by
      rw [decide_eq_true_eq]
      exact List.ext_getElem hlen fun k h1 _ => h k h1
    replace ha := Lib.hid ha
    replace hb := Lib.hid hb
    replace hno := Lib.hid hno
    replace hrel0 := Lib.hid hrel0
    replace hend := Lib.hid hend
    go_enter Try.func8, Try.ntmps8
    go_wp2_with fail
    go_loopw [5] (fun i wr => ∃ k : Nat, i = .int .i64 k ∧ k ≤ l.length ∧ (∀ j (hj : j < k) (hj2 : j < l.length), l[j] = r[j]'(by omega)) ∧ Below w.heap.size w wr) (fun i _ => l.length - (intOf i).toNat)
    case atStart => exact ⟨0, rfl, Nat.zero_le _, fun j hj => absurd hj (Nat.not_lt_zero _), Below.refl _ _⟩
    case round =>
      obtain ⟨k, rfl, hk, hso, hB⟩ := hrel
      by_cases hlt : k < l.length
      · obtain ⟨g, o, rfl, c1, c2⟩ := (ha.out.below hB).at hlt
        obtain ⟨g', o', rfl, d1, d2⟩ := hrel0.out k hlt
        have hn := hno.out k hlt
        have d1 := (hB.cell (cell_lt d1)).trans d1
        have d2 := (hB.cell (cell_lt d2)).trans d2
        have hs2 : l[k] = r[k]'(by omega) → ∀ j (hj : j < k + 1) (hj2 : j < l.length), l[j] = r[j]'(by omega) := fun e j hj hj2 => by
          rcases Nat.lt_succ_iff_lt_or_eq.1 hj with h | rfl
          · exact hso j h hj2
          · exact e
        generalize l[k] = x at *
        generalize r[k]'(by omega) = y at *
        obtain ⟨q, t⟩ := x
        obtain ⟨q', t'⟩ := y
        dsimp only at *
        have hki : (k : Int) < (l.length : Int) := by omega
        replace hn := Lib.hid hn
        replace hs2 := Lib.hid hs2
        replace hso := Lib.hid hso
        replace hB := Lib.hid hB
        by_cases hq : q = q'
        · subst hq
          have t1 : ((mkS q).toList == (mkS q).toList) = true := by simp
          by_cases ht : t = t'
          · subst ht
            have hs := hs2.out rfl
            replace hs := Lib.hid hs
            go_upto_region 6 with fail
            go_quiet (fail)
            go_wp2
            go_roundw
            case rel => exact ⟨k + 1, by go_num, by omega, hs.out, below_drewN hB.out _⟩
            case measure => simp [intOf]; omega
          · have t2 : (t == t') = false := by simpa using ht
            have t3 : (t != t') = true := by simpa using ht
            have hn' := hn.out (by simpa using ht)
            replace hn' := Lib.hid hn'
            replace ht := Lib.hid ht
            go_upto_region 6 with fail
            go_quiet (fail)
            go_wp2
            go_ret
            exact ⟨ret_bool hn'.out.symm, below_drewN hB.out _⟩
        · have t1 : ((mkS q).toList == (mkS q').toList) = false := strs_diff (fun e => hq (mkS_inj e))
          have hn' := hn.out (fun e => hq (Prod.mk.inj e).1)
          replace hn' := Lib.hid hn'
          replace hq := Lib.hid hq
          go_upto_region 6 with fail
          go_quiet (fail)
          go_wp2
          go_ret
          exact ⟨ret_bool hn'.out.symm, below_drewN hB.out _⟩
      · obtain rfl : k = l.length := by omega
        have hy := hend.out fun j hj => hso j hj hj
        replace hy := Lib.hid hy
        replace hso := Lib.hid hso
        replace hB := Lib.hid hB
        go_wp2
        go_ret
        exact ⟨ret_bool hy.out.symm, hB.out⟩
  · have hne : decide (l = r) = false := by
      rw [decide_eq_false_iff_not]
      rintro rfl
      exact hlen rfl
    have t0 : ((l.length : Int) == (r.length : Int)) = false := by rw [beq_eq_false_iff_ne]; omega
    have t1 : ((l.length : Int) != (r.length : Int)) = true := by rw [bne_iff_ne]; omega
    have t2 : ¬ (l.length : Int) = (r.length : Int) := by omega
    replace ha := Lib.hid ha
    replace hb := Lib.hid hb
    replace hne := Lib.hid hne
    go_enter Try.func8, Try.ntmps8
    go_wp2
    go_ret
    exact ⟨ret_bool hne.out.symm, Below.refl _ _⟩

end Go.Proofs.Ytcjlfkklpghjbaa

namespace Go.Proofs.Ytcjlfkklpghjbaa
open Go.RowKit

theorem clashL_yes {l : Acts44} {k : Nat} (hk : k < l.length) (h : l[k].2 = 0) : clashL (l.take (k + 1)) = clashL (l.take k) ++ [l[k].1] := by
  rw [List.take_succ_eq_append_getElem hk]
  unfold clashL
  rw [List.filter_append, List.map_append]
  simp [h]
theorem clashL_no {l : Acts44} {k : Nat} (hk : k < l.length) (h : l[k].2 ≠ 0) : clashL (l.take (k + 1)) = clashL (l.take k) := by
  rw [List.take_succ_eq_append_getElem hk]
  unfold clashL
  rw [List.filter_append, List.map_append]
  simp [h]
theorem clashL_len (l : Acts44) (k : Nat) : (clashL (l.take k)).length ≤ k := by
  unfold clashL
  rw [List.length_map]
  refine Nat.le_trans (List.length_filter_le _ _) ?_
  rw [List.length_take]
  omega

set_option maxHeartbeats 4000000 in
set_option maxRecDepth 100000 in
theorem clash44_calls (va : Value) (l : Acts44) (w : World) (ha : RdA w va l) (hll : l.length ≤ 1000000) :
    Calls Try.prog 13 #[va] w fun e w' => (∃ v', e = .returned v' ∧ Strs w.heap.size w' v' (clashL l)) ∧ Below w.heap.size w w' := by
  obtain ⟨A, c, rfl, h2, h3⟩ := ha.shape
  unfold maxLen at h3
  have hnil : w.ownsRow w.heap.size 9 1 (.slice none 0 0) 0 [] := ⟨rfl, Or.inl ⟨rfl, rfl⟩⟩
  replace ha := Lib.hid ha
  replace hnil := Lib.hid hnil
  go_enter Try.func13, Try.ntmps13
  go_wp2_with fail
  go_loopw [3, 4] (fun o i wr => ∃ k : Nat, i = .int .i64 k ∧ k ≤ l.length ∧ Strs w.heap.size wr o (clashL (l.take k)) ∧ Below w.heap.size w wr) (fun _ i _ => l.length - (intOf i).toNat)
  case atStart => exact ⟨0, rfl, Nat.zero_le _, hnil.out, Below.refl _ _⟩
  case round =>
    obtain ⟨k, rfl, hk, hO, hB⟩ := hrel
    have hil := clashL_len l k
    by_cases hlt : k < l.length
    · obtain ⟨g, o, rfl, c1, c2⟩ := (ha.out.below hB).at hlt
      obtain ⟨oA, oc, ho, ho1, ho2⟩ := own_shape hO.own
      subst ho
      unfold maxLen at ho2
      have hki : (k : Int) < (l.length : Int) := by omega
      by_cases hy0 : l[k].2 = 0
      · have hO2 := hO
        replace hO2 := Lib.hid hO2
        have hsn := clashL_yes hlt hy0
        generalize l[k] = y at *
        obtain ⟨q, t⟩ := y
        dsimp only at *
        subst hy0
        have hB' := hB
        replace hO := Lib.hid hO
        replace hB := Lib.hid hB
        replace hB' := Lib.hid hB'
        replace hsn := Lib.hid hsn
        go_wp2_with (at_builtin; refine wp_append1 w.heap.size rfl (.tmp 17) (.tmp 23) 46 9 rfl Try.underlying46 (.string ⟨#[]⟩) 1 16 info_string rfl (by decide) (.slice oA (clashL (l.take k)).length oc) _ _ rfl [.string (mkS q)] rfl hO2.out rfl ?_ ?_ ?_ hB'.out.size ?_)
        · simp [Value.oneCell']
        · simp only [maxLen]; omega
        · omega
        · intro v1 w3 g1 hg hat
          have hB3 := hB'.out.grown hg hB'.out.size (own_base hO2.out)
          have hO3 : Strs w.heap.size w3 v1 (clashL (l.take (k + 1))) := by
            rw [hsn.out]
            exact Strs.snoc g1
          replace hO3 := Lib.hid hO3
          replace hB3 := Lib.hid hB3
          clear g1 hg hat
          go_wp2
          go_roundw
          case rel => exact ⟨k + 1, by go_num, by omega, hO3.out, hB3.out⟩
          case measure => simp [intOf]; omega
      · have hsn := clashL_no hlt hy0
        generalize l[k] = y at *
        obtain ⟨q, t⟩ := y
        dsimp only at *
        have z0 : (t == 0) = false := by simpa using hy0
        have hO3 : Strs w.heap.size wr (.slice oA (clashL (l.take k)).length oc) (clashL (l.take (k + 1))) := by rw [hsn]; exact hO
        replace hO := Lib.hid hO
        replace hO3 := Lib.hid hO3
        replace hB := Lib.hid hB
        replace hsn := Lib.hid hsn
        replace hy0 := Lib.hid hy0
        go_wp2
        go_roundw
        case rel => exact ⟨k + 1, by go_num, by omega, hO3.out, hB.out⟩
        case measure => simp [intOf]; omega
    · obtain rfl : k = l.length := by omega
      rw [List.take_length] at hO
      replace hO := Lib.hid hO
      replace hB := Lib.hid hB
      go_wp2
      go_ret
      exact ⟨⟨_, rfl, hO.out⟩, hB.out⟩

set_option maxHeartbeats 4000000 in
set_option maxRecDepth 100000 in
theorem clash_calls (va : Value) (l : Acts44) (w : World) (ha : RdA w va l) (hll : l.length ≤ 1000000) :
    Calls Try.prog 12 #[va] w fun e w' => (∃ v', e = .returned v' ∧ Strs w.heap.size w' v' (clashL l)) ∧ Below w.heap.size w w' := by
  obtain ⟨A, c, rfl, h2, h3⟩ := ha.shape
  unfold maxLen at h3
  have hnil : w.ownsRow w.heap.size 9 1 (.slice none 0 0) 0 [] := ⟨rfl, Or.inl ⟨rfl, rfl⟩⟩
  replace ha := Lib.hid ha
  replace hnil := Lib.hid hnil
  go_enter Try.func12, Try.ntmps12
  go_wp2_with fail
  go_loopw [3, 8] (fun o i wr => ∃ k : Nat, i = .int .i64 k ∧ k ≤ l.length ∧ Strs w.heap.size wr o (clashL (l.take k)) ∧ Below w.heap.size w wr) (fun _ i _ => l.length - (intOf i).toNat)
  case atStart => exact ⟨0, rfl, Nat.zero_le _, hnil.out, Below.refl _ _⟩
  case round =>
    obtain ⟨k, rfl, hk, hO, hB⟩ := hrel
    have hil := clashL_len l k
    by_cases hlt : k < l.length
    · obtain ⟨g, o, rfl, c1, c2⟩ := (ha.out.below hB).at hlt
      obtain ⟨oA, oc, ho, ho1, ho2⟩ := own_shape hO.own
      subst ho
      unfold maxLen at ho2
      have hki : (k : Int) < (l.length : Int) := by omega
      have hsz := mkS_size l[k].1
      by_cases hy0 : l[k].2 = 0
      · have hsn := clashL_yes hlt hy0
        generalize l[k] = y at *
        obtain ⟨q, t⟩ := y
        dsimp only at *
        subst hy0
        have hB4 := below_alloc hB (.cells #[.string (mkS q), .int .i64 0] 38)
        have hO2 := own_below hO.own (below_alloc (Below.refl _ wr) (.cells #[.string (mkS q), .int .i64 0] 38))
        have n0 := cell_of (j := 0) (heap_alloc_new wr (.cells #[.string (mkS q), .int .i64 0] 38)) rfl
        have n1 := cell_of (j := 1) (heap_alloc_new wr (.cells #[.string (mkS q), .int .i64 0] 38)) rfl
        replace hO := Lib.hid hO
        replace hB := Lib.hid hB
        replace hB4 := Lib.hid hB4
        replace hO2 := Lib.hid hO2
        replace hsn := Lib.hid hsn
        go_upto_region 5 with fail
        generalize wr.alloc (.cells #[.string (mkS q), .int .i64 0] 38) = w4 at *
        clear hO hB
        go_wp2_with (at_builtin; refine wp_append1 w.heap.size rfl (.tmp 15) (.tmp 18) 46 9 rfl Try.underlying46 (.string ⟨#[]⟩) 1 16 info_string rfl (by decide) (.slice oA (clashL (l.take k)).length oc) _ _ rfl [.string (mkS q)] rfl hO2.out rfl ?_ ?_ ?_ hB4.out.size ?_)
        · simp [Value.oneCell']
        · simp only [maxLen]; omega
        · omega
        · intro v1 w3 g1 hg hat
          have hB3 := hB4.out.grown hg hB4.out.size (own_base hO2.out)
          have hO3 : Strs w.heap.size w3 v1 (clashL (l.take (k + 1))) := by
            rw [hsn.out]
            exact Strs.snoc g1
          replace hO3 := Lib.hid hO3
          replace hB3 := Lib.hid hB3
          clear g1 hg hat
          go_wp2
          go_roundw
          case rel => exact ⟨k + 1, by go_num, by omega, hO3.out, hB3.out⟩
          case measure => simp [intOf]; omega
      · have hsn := clashL_no hlt hy0
        generalize l[k] = y at *
        obtain ⟨q, t⟩ := y
        dsimp only at *
        have z0 : (t == 0) = false := by simpa using hy0
        replace hy0 := Lib.hid hy0
        have hB4 := below_alloc hB (.cells #[.string (mkS q), .int .i64 t] 38)
        have hO2 := own_below hO.own (below_alloc (Below.refl _ wr) (.cells #[.string (mkS q), .int .i64 t] 38))
        have n0 := cell_of (j := 0) (heap_alloc_new wr (.cells #[.string (mkS q), .int .i64 t] 38)) rfl
        have n1 := cell_of (j := 1) (heap_alloc_new wr (.cells #[.string (mkS q), .int .i64 t] 38)) rfl
        replace hO := Lib.hid hO
        replace hB := Lib.hid hB
        replace hB4 := Lib.hid hB4
        replace hO2 := Lib.hid hO2
        replace hsn := Lib.hid hsn
        go_upto_region 5 with fail
        generalize wr.alloc (.cells #[.string (mkS q), .int .i64 t] 38) = w4 at *
        clear hO hB
        have hO3 : Strs w.heap.size w4 (.slice oA (clashL (l.take k)).length oc) (clashL (l.take (k + 1))) := by rw [hsn.out]; exact hO2.out
        replace hO3 := Lib.hid hO3
        go_wp2
        go_roundw
        case rel => exact ⟨k + 1, by go_num, by omega, hO3.out, hB4.out⟩
        case measure => simp [intOf]; omega
    · obtain rfl : k = l.length := by omega
      rw [List.take_length] at hO
      replace hO := Lib.hid hO
      replace hB := Lib.hid hB
      go_wp2
      go_ret
      exact ⟨⟨_, rfl, hO.out⟩, hB.out⟩

end Go.Proofs.Ytcjlfkklpghjbaa

namespace Go.Proofs.Ytcjlfkklpghjbaa
open Go.RowKit

theorem uniqTo_len (l : List Bytes) : ∀ k, (uniqTo l k).length ≤ k
  | 0 => Nat.le_refl _
  | k + 1 => by
    have ih := uniqTo_len l k
    unfold uniqTo
    split
    · omega
    · split
      · simp only [List.length_append, List.length_cons, List.length_nil]; omega
      · omega


def preOf (L R : List Ent) : Nat → List Bytes
  | 0 => []
  | 1 => entPaths L
  | _ => entPaths L ++ entPaths R

set_option maxHeartbeats 8000000 in
set_option maxRecDepth 100000 in
theorem paths44_calls (g0 : Nat) (vl vr : Value) (L R : List Ent) (w : World) (b0 : w.cell? ⟨g0, 0, none⟩ = some vl) (b1 : w.cell? ⟨g0, 1, none⟩ = some vr) (L_mem : Ents w vl L) (R_mem : Ents w vr R) (hn : L.length + R.length ≤ 1000000) (hp : ∀ y ∈ entPaths L ++ entPaths R, y.length ≤ 16777216) :
    Calls Try.prog 24 #[.slice (some ⟨g0, 0, none⟩) 2 2] w fun e w' => (∃ v', e = .returned v' ∧ Strs w.heap.size w' v' (upaths L R)) ∧ Below w.heap.size w w' := by
  obtain ⟨Z1, z1, rfl, _, hz1⟩ := L_mem.shape
  obtain ⟨Z2, z2, rfl, _, hz2⟩ := R_mem.shape
  unfold maxLen at hz1 hz2
  have hnil : w.ownsRow w.heap.size 9 1 (.slice none 0 0) 0 [] := ⟨rfl, Or.inl ⟨rfl, rfl⟩⟩
  have hun : upaths L R = uniqTo (sortP (entPaths L ++ entPaths R)) (sortP (entPaths L ++ entPaths R)).length := rfl
  have hlen : (entPaths L ++ entPaths R).length ≤ 1000000 := by
    rw [List.length_append]
    unfold entPaths
    simp only [List.length_map]
    omega
  have hsl : (sortP (entPaths L ++ entPaths R)).length ≤ 1000000 := by rw [(sortP_perm _).length_eq]; exact hlen
  have hrows : ∀ k, k < 2 → ∃ (X : List Ent) (P : List Bytes) (Zx : Option Addr) (zx : Nat), w.cell? ⟨g0, k, none⟩ = some (.slice Zx X.length zx) ∧ Ents w (.slice Zx X.length zx) X ∧ preOf L R k = P ∧ preOf L R (k + 1) = P ++ entPaths X ∧ P.length + X.length ≤ 1000000 ∧ zx ≤ 2 ^ 63 - 1 := fun k hk => by
    have hk3 : k = 0 ∨ k = 1 := by omega
    rcases hk3 with rfl | rfl
    · exact ⟨L, [], Z1, z1, b0, L_mem, rfl, rfl, by simp; omega, hz1⟩
    · exact ⟨R, entPaths L, Z2, z2, b1, R_mem, rfl, rfl, by unfold entPaths; simp; omega, hz2⟩
  clear b0 b1
  replace hnil := Lib.hid hnil
  replace hun := Lib.hid hun
  replace hp := Lib.hid hp
  replace hrows := Lib.hid hrows
  go_enter Try.func24, Try.ntmps24
  go_wp2_with fail
  go_loopw [3, 4] (fun o i wr => ∃ k : Nat, i = .int .i64 k ∧ k ≤ 2 ∧ Strs w.heap.size wr o (preOf L R k) ∧ Below w.heap.size w wr) (fun _ i _ => 2 - (intOf i).toNat)
  case atStart => exact ⟨0, rfl, Nat.zero_le _, hnil.out, Below.refl _ _⟩
  case round =>
    obtain ⟨k, rfl, hk, hS, hB⟩ := hrel
    by_cases hk2 : k < 2
    · obtain ⟨X, P, Zx, zx, b0, hXm, hP, hnx, hPl, hzx⟩ := hrows.out k hk2
      rw [hP] at hS
      have hki0 : (k : Int) < 2 := by omega
      obtain ⟨wo, rfl⟩ : ∃ wo : World, wo = wr := ⟨_, rfl⟩
      have bx := (hB.cell (cell_lt b0)).trans b0
      have hX := hXm
      obtain ⟨oA, oc, ho, ho1, ho2⟩ := own_shape hS.own
      subst ho
      unfold maxLen at ho2
      replace hS := Lib.hid hS
      replace hB := Lib.hid hB
      replace hX := Lib.hid hX
      replace hnx := Lib.hid hnx
      go_wp2_with fail
      go_loopw [3, 5] (fun o j wr => ∃ m : Nat, j = .int .i64 m ∧ m ≤ X.length ∧ Strs w.heap.size wr o (P ++ (entPaths X).take m) ∧ Below w.heap.size w wr) (fun _ j _ => X.length - (intOf j).toNat)
      case atStart => exact ⟨0, rfl, Nat.zero_le _, by simpa using hS.out, hB.out⟩
      case round =>
        clear hS hB bx
        obtain ⟨m, rfl, hm, hS, hB⟩ := hrel
        have bx := (hB.cell (cell_lt b0)).trans b0
        by_cases hlt : m < X.length
        · obtain ⟨g, o, rfl, c1, _⟩ := (hX.out.below hB).at hlt
          have hsn : (entPaths X).take (m + 1) = (entPaths X).take m ++ [X[m].path] := by
            rw [List.take_succ_eq_append_getElem (by unfold entPaths; rw [List.length_map]; exact hlt)]
            simp [entPaths]
          have hln : (P ++ (entPaths X).take m).length ≤ 1000000 := by
            rw [List.length_append, List.length_take]
            unfold entPaths
            simp only [List.length_map]
            omega
          generalize X[m].path = q at *
          generalize hrw : P ++ (entPaths X).take m = row at *
          obtain ⟨oA, oc, ho, ho1, ho2⟩ := own_shape hS.own
          subst ho
          unfold maxLen at ho2
          have hki : (m : Int) < (X.length : Int) := by omega
          replace hS := Lib.hid hS
          replace hB := Lib.hid hB
          replace hsn := Lib.hid hsn
          replace hrw := Lib.hid hrw
          go_wp2_with (at_builtin; refine wp_append1 w.heap.size rfl (.tmp 23) (.tmp 32) 46 9 rfl Try.underlying46 (.string ⟨#[]⟩) 1 16 info_string rfl (by decide) (.slice oA row.length oc) _ _ rfl [.string (mkS q)] rfl hS.out.own rfl ?_ ?_ ?_ hB.out.size ?_)
          · simp [Value.oneCell']
          · simp only [maxLen]; omega
          · omega
          · intro v1 w3 g1 hg hat
            have hB3 := hB.out.grown hg hB.out.size (own_base hS.out.own)
            have hS3 : Strs w.heap.size w3 v1 (P ++ (entPaths X).take (m + 1)) := by
              rw [hsn.out, ← List.append_assoc, hrw.out]
              exact Strs.snoc g1
            replace hS3 := Lib.hid hS3
            replace hB3 := Lib.hid hB3
            clear g1 hg hat
            go_wp2
            go_roundw
            case rel => exact ⟨m + 1, by go_num, by omega, hS3.out, hB3.out⟩
            case measure => simp [intOf]; omega
        · obtain rfl : m = X.length := by omega
          rw [List.take_of_length_le (by unfold entPaths; rw [List.length_map]; exact Nat.le_refl _)] at hS
          replace hS := Lib.hid hS
          replace hB := Lib.hid hB
          go_wp2
          go_roundw
          case rel => exact ⟨k + 1, by go_num, by omega, by rw [hnx.out]; exact hS.out, hB.out⟩
          case measure => simp [intOf]; omega
    · obtain rfl : k = 2 := by omega
      replace hS : Strs w.heap.size wr _ (entPaths L ++ entPaths R) := hS
      have hso := refsort_calls _ _ _ wr (Nat.le_refl _) hS.rd hlen hp.out
      obtain ⟨oA, oc, ho, ho1, ho2⟩ := own_shape hS.own
      subst ho
      unfold maxLen at ho2
      replace hS := Lib.hid hS
      replace hB := Lib.hid hB
      replace hso := Lib.hid hso
      generalize entPaths L ++ entPaths R = ps at *
      go_wp2_with fail
      (with_reducible refine (hso.out).mono ?_)
      rintro e w1 ⟨⟨v2, rfl, hS2⟩, hB2⟩
      have hB02 := below_step hB.out hB2
      have hrd := hS2.rd
      obtain ⟨oA2, oc2, ho2', hc1, hc2⟩ := own_shape hS2.own
      subst ho2'
      unfold maxLen at hc2
      generalize sortP ps = s at *
      obtain ⟨wo, rfl⟩ : ∃ wo : World, wo = wr := ⟨_, rfl⟩
      replace hB02 := Lib.hid hB02
      replace hrd := Lib.hid hrd
      clear hS2 hB2 hS hB hso
      have hnil2 : w1.ownsRow w1.heap.size 9 1 (.slice none 0 0) 0 [] := ⟨rfl, Or.inl ⟨rfl, rfl⟩⟩
      replace hnil2 := Lib.hid hnil2
      go_wp2_with fail
      go_loopw [6, 7] (fun o i wr => ∃ k : Nat, i = .int .i64 k ∧ k ≤ s.length ∧ Strs w1.heap.size wr o (uniqTo s k) ∧ Below w1.heap.size w1 wr) (fun _ i _ => s.length - (intOf i).toNat)
      case atStart => exact ⟨0, rfl, Nat.zero_le _, hnil2.out, Below.refl _ _⟩
      case round =>
        obtain ⟨k, rfl, hk', hS, hB1⟩ := hrel
        have hul := uniqTo_len s k
        by_cases hlt : k < s.length
        · obtain ⟨g, o, rfl, c1⟩ := (hrd.out.below hB1).cell hlt
          obtain ⟨oA, oc, ho, ho1, ho2⟩ := own_shape hS.own
          subst ho
          unfold maxLen at ho2
          have hki : (k : Int) < (s.length : Int) := by omega
          by_cases hk0 : k = 0
          · have hsn := uniqTo_new hlt (Or.inl hk0)
            have t0 : ((k : Int) == 0) = true := by rw [beq_iff_eq]; omega
            replace hk0 := Lib.hid hk0
            generalize s[k] = q at *
            replace hS := Lib.hid hS
            replace hB1 := Lib.hid hB1
            replace hsn := Lib.hid hsn
            go_upto_region 14 with fail
            go_quiet (fail)
            have hS5 := own_drewN hS.out.own nq
            have hB15 := below_drewN hB1.out nq
            have c5 : (wr.drewN nq).cell? ⟨g, o + k, none⟩ = some (.string (mkS q)) := c1
            replace hS5 := Lib.hid hS5
            replace hB15 := Lib.hid hB15
            generalize wr.drewN nq = w5 at *
            clear hS hB1 c1
            go_wp2_with (at_builtin; refine wp_append1 w1.heap.size rfl (.tmp 56) (.tmp 61) 46 9 rfl Try.underlying46 (.string ⟨#[]⟩) 1 16 info_string rfl (by decide) (.slice oA (uniqTo s k).length oc) _ _ rfl [.string (mkS q)] rfl hS5.out rfl ?_ ?_ ?_ hB15.out.size ?_)
            · simp [Value.oneCell']
            · simp only [maxLen]; omega
            · omega
            · intro v1 w3 g1 hg hat
              have hB13 := hB15.out.grown hg hB15.out.size (own_base hS5.out)
              have hS3 : Strs w1.heap.size w3 v1 (uniqTo s (k + 1)) := by
                rw [hsn.out]
                exact Strs.snoc g1
              replace hS3 := Lib.hid hS3
              replace hB13 := Lib.hid hB13
              clear g1 hg hat
              go_wp2
              go_roundw
              case rel => exact ⟨k + 1, by go_num, by omega, hS3.out, hB13.out⟩
              case measure => simp [intOf]; omega
          · have t0 : ((k : Int) == 0) = false := by rw [beq_eq_false_iff_ne]; omega
            obtain ⟨g', o', e', c2⟩ := (hrd.out.below hB1).cell (j := k - 1) (by omega)
            cases e'
            have hw : IntKind.i64.wrap ((k : Int) - 1) = ((k - 1 : Nat) : Int) := by rw [IntWalk.i64_in _ (by omega)]; omega
            have hlt2 : ((k - 1 : Nat) : Int) < (s.length : Int) := by omega
            have hlt3 : k - 1 < s.length := by omega
            by_cases hq : s[k - 1] = s[k]
            · have hsn := uniqTo_old hlt (by rintro (h | h); exact hk0 h; exact h (by rw [List.getElem?_eq_getElem (by omega), hq]))
              rw [hq] at c2
              generalize s[k] = q at *
              have t1 : ((mkS q).toList == (mkS q).toList) = true := by simp
              replace hS := Lib.hid hS
              replace hB1 := Lib.hid hB1
              replace hsn := Lib.hid hsn
              replace hq := Lib.hid hq
              replace hk0 := Lib.hid hk0
              go_upto_region 14 with fail
              go_quiet (fail)
              have hS5' : Strs w1.heap.size (wr.drewN nq) (.slice oA (uniqTo s k).length oc) (uniqTo s (k + 1)) := by
                rw [hsn.out]
                exact own_drewN hS.out.own nq
              have hB15 := below_drewN hB1.out nq
              replace hS5' := Lib.hid hS5'
              replace hB15 := Lib.hid hB15
              generalize wr.drewN nq = w5 at *
              go_wp2
              go_roundw
              case rel => exact ⟨k + 1, by go_num, by omega, hS5'.out, hB15.out⟩
              case measure => simp [intOf]; omega
            · have hsn := uniqTo_new hlt (Or.inr (by rw [List.getElem?_eq_getElem (by omega)]; exact fun e => hq (Option.some.inj e)))
              have t1 : ((mkS s[k]).toList == (mkS s[k - 1]).toList) = false := strs_diff (fun e => hq (mkS_inj e).symm)
              generalize s[k - 1] = q2 at *
              replace hq := Lib.hid hq
              replace hk0 := Lib.hid hk0
              generalize s[k] = q at *
              replace hS := Lib.hid hS
              replace hB1 := Lib.hid hB1
              replace hsn := Lib.hid hsn
              go_upto_region 14 with fail
              go_quiet (fail)
              have hS5 := own_drewN hS.out.own nq
              have hB15 := below_drewN hB1.out nq
              have c5 : (wr.drewN nq).cell? ⟨g, o + k, none⟩ = some (.string (mkS q)) := c1
              replace hS5 := Lib.hid hS5
              replace hB15 := Lib.hid hB15
              generalize wr.drewN nq = w5 at *
              clear hS hB1 c1
              go_wp2_with (at_builtin; refine wp_append1 w1.heap.size rfl (.tmp 56) (.tmp 61) 46 9 rfl Try.underlying46 (.string ⟨#[]⟩) 1 16 info_string rfl (by decide) (.slice oA (uniqTo s k).length oc) _ _ rfl [.string (mkS q)] rfl hS5.out rfl ?_ ?_ ?_ hB15.out.size ?_)
              · simp [Value.oneCell']
              · simp only [maxLen]; omega
              · omega
              · intro v1 w3 g1 hg hat
                have hB13 := hB15.out.grown hg hB15.out.size (own_base hS5.out)
                have hS3 : Strs w1.heap.size w3 v1 (uniqTo s (k + 1)) := by
                  rw [hsn.out]
                  exact Strs.snoc g1
                replace hS3 := Lib.hid hS3
                replace hB13 := Lib.hid hB13
                clear g1 hg hat
                go_wp2
                go_roundw
                case rel => exact ⟨k + 1, by go_num, by omega, hS3.out, hB13.out⟩
                case measure => simp [intOf]; omega
        · obtain rfl : k = s.length := by omega
          have hun' := hun.out
          rw [← hun'] at hS
          replace hS := Lib.hid hS
          replace hB1 := Lib.hid hB1
          replace hun' := Lib.hid hun'
          go_wp2
          go_ret
          exact ⟨⟨_, rfl, own_low hS.out.own hB02.out.size⟩, below_step hB02.out hB1.out⟩

end Go.Proofs.Ytcjlfkklpghjbaa

namespace Go.Proofs.Ytcjlfkklpghjbaa
open Go.RowKit

/-- Q, but T where the head has come to its end. -/
def TailQ (T : Act → World → Prop) (Q : Exit → Act → World → Prop) : Exit → Act → World → Prop
  | .normal, a, w => T a w
  | e, a, w => Q e a w

theorem oper_tailQ {P : Program} {T : Act → World → Prop} {Q : Exit → Act → World → Prop} {o : Oper} {a : Act} {w : World} {K : Act → World → Prop} (h : o.wp P a w K (TailQ T Q)) : o.wp P a w K Q := by
  unfold Oper.wp at *
  generalize (execOp a.eval o).run P w = r at *
  cases r with
  | ok n w' =>
    cases n <;> simp only [Oper.upon] at h ⊢ <;>
      first
        | exact h
        | exact Calls.mono h (fun e w'' he => by cases e <;> exact he)
        | exact Rows.mono h (fun _ _ he => he)
  | halt x w' => cases x <;> simp only [Oper.upon] at h ⊢ <;> exact h

def depsB (md : Region.Mode) (ops : Array Oper) (n : Nat) : Bool :=
  (List.range n).all fun j => ((ops[j]?).map fun o => o.after.all fun e => !Region.binds md e || decide (e.on < j)).getD false
def bareB (ops : Array Oper) (n : Nat) : Bool :=
  (List.range n).all fun j => ((ops[j]?).map fun o => o.guard.isNone).getD false

theorem depsB_spec {md : Region.Mode} {ops : Array Oper} {n : Nat} (h : depsB md ops n = true) {j : Nat} (hj : j < n) : ∃ o, ops[j]? = some o ∧ ∀ e ∈ o.after, Region.binds md e = true → e.on < j := by
  have := List.all_eq_true.1 h j (List.mem_range.2 hj)
  cases ho : ops[j]? with
  | none => simp [ho] at this
  | some o =>
    refine ⟨o, rfl, fun e he hb => ?_⟩
    simp only [ho, Option.map_some, Option.getD_some, Array.all_eq_true_iff_forall_mem] at this
    have := this e he
    simpa [hb] using this
theorem bareB_spec {ops : Array Oper} {n : Nat} (h : bareB ops n = true) {j : Nat} (hj : j < n) {o : Oper} (ho : ops[j]? = some o) : o.guard = none := by
  have := List.all_eq_true.1 h j (List.mem_range.2 hj)
  simpa [ho] using this

theorem getD_app_lt {x y : Array Bool} {i : Nat} (h : i < x.size) (d : Bool) : (x ++ y).getD i d = x.getD i d := by
  simp only [Array.getD_eq_getD_getElem?, Array.getElem?_append_left h]
theorem getD_app_false {x : Array Bool} {g i : Nat} (h : (x ++ Array.replicate g false).getD i false = true) : i < x.size ∧ x.getD i false = true := by
  rcases Nat.lt_or_ge i x.size with h1 | h1
  · rw [getD_app_lt h1] at h
    exact ⟨h1, h⟩
  · rw [Array.getD_eq_getD_getElem?, Array.getElem?_append_right h1, ← Array.getD_eq_getD_getElem?, getD_replicate_false] at h
    cases h

theorem wpAny_of_headH {P : Program} {md : Region.Mode} {l : List Oper} {n : Nat} {S : World → Prop} {Q : Exit → Act → World → Prop} (hn : n < l.length)
    (hs : Region.sinkB md l.toArray n = true) (hc : Region.chainB md l.toArray n = true) (hd : depsB md l.toArray n = true) (hb : bareB l.toArray n = true)
    (hq : Region.seqB md l.toArray (l.length - n) n (Array.replicate n true ++ Array.replicate (l.length - n) false) = true) :
    ∀ (f : Nat) (x : Array Bool) (a : Act) (w : World), x.size = n → x.toList.count false = f → HeadInv md l.toArray n (x ++ Array.replicate (l.length - n) false) →
      wpAnyH P md (l.take n).toArray (TailQ (wpList P l.toArray Q (l.drop n)) Q) S f x a w → wpAny P md l.toArray Q (f + (l.length - n)) (x ++ Array.replicate (l.length - n) false) a w
  | 0, x, a, w, hx, hcnt, inv, h => by
    have hxe : x = Array.replicate n true := by
      apply Array.toList_inj.1
      rw [Array.toList_replicate]
      refine List.eq_replicate_iff.2 ⟨by simpa using hx, fun b hb => ?_⟩
      cases b with
      | true => rfl
      | false => exact absurd hb (List.count_eq_zero.1 hcnt)
    subst hxe
    rw [Nat.zero_add]
    have h2 : wpList P l.toArray Q (l.drop n) a w := h.2
    have := wpAny_of_seq (md := md) (Q' := Q) (l.drop n) n _ a w (fun j => by simp [List.getElem?_drop]) (by rw [List.length_drop]; exact hq) h2
    rwa [List.length_drop] at this
  | f + 1, x, a, w, hx, hcnt, inv, h => by
    have hun : ∃ i, i < n ∧ x.getD i true = false := by
      have hm : false ∈ x.toList := List.count_pos_iff.1 (by omega)
      obtain ⟨i, hi, he⟩ := List.mem_iff_getElem.1 hm
      refine ⟨i, by simpa [hx] using hi, ?_⟩
      rw [Array.getD_eq_getD_getElem?, ← Array.getElem?_toList, List.getElem?_eq_getElem hi, he]
      rfl
    have hsz : n < l.toArray.size := by simpa using hn
    have hlt : ∀ i, i ∈ Region.ready md l.toArray (x ++ Array.replicate (l.length - n) false) → i < n := fun i hi => by
      obtain ⟨u, hu, hu2⟩ := hun
      rcases Nat.lt_or_ge i n with h1 | h1
      · exact h1
      · exact absurd hi (tail_waits hs hc hsz inv _ u rfl hu (by rw [getD_app_lt (by omega)]; exact hu2) i h1)
    rw [show f + 1 + (l.length - n) = (f + (l.length - n)) + 1 by omega]
    refine ⟨fun h0 => ?_, fun i hi => ?_⟩
    · exfalso
      have key : ∀ k, ∀ i, i < k → i < n → x.getD i true = true := by
        intro k
        induction k with
        | zero => intro i hi; omega
        | succ k ih =>
          intro i hi hin
          rcases Nat.lt_or_ge i k with h1 | h1
          · exact ih i h1 hin
          · have : i = k := by omega
            subst this
            cases hg : x.getD i true with
            | true => rfl
            | false =>
              obtain ⟨o, ho, hdep⟩ := depsB_spec hd hin
              have hr : i ∈ Region.ready md l.toArray (x ++ Array.replicate (l.length - n) false) := mem_ready.2 ⟨by rw [getD_app_lt (by omega)]; exact hg, o, ho, fun e he hbi => by
                have h3 := hdep e he hbi
                rw [getD_app_lt (by omega)]
                have h4 := ih e.on h3 (by omega)
                have h5 : e.on < x.size := by omega
                simp only [Array.getD_eq_getD_getElem?, Array.getElem?_eq_getElem h5, Option.getD_some] at h4 ⊢
                exact h4⟩
              rw [h0] at hr
              cases hr
      obtain ⟨u, hu, hu2⟩ := hun
      rw [key (u + 1) u (by omega) hu] at hu2
      cases hu2
    · have hin := hlt i hi
      obtain ⟨h1, o, ho, hall⟩ := mem_ready.1 hi
      rw [getD_app_lt (by omega)] at h1
      have hoh : (l.take n).toArray[i]? = some o := by
        rw [List.getElem?_toArray, List.getElem?_take, if_pos hin]
        simpa using ho
      have hih : i ∈ Region.ready md (l.take n).toArray x := mem_ready.2 ⟨h1, o, hoh, fun e he hbi => (getD_app_false (hall e he hbi)).2⟩
      have hstep := h.2 i hih
      have hg := bareB_spec hb hin ho
      have hset : (x ++ Array.replicate (l.length - n) false).setIfInBounds i true = x.setIfInBounds i true ++ Array.replicate (l.length - n) false := by
        apply Array.toList_inj.1
        simp only [Array.toList_setIfInBounds, Array.toList_append]
        rw [List.set_append_left _ _ (by simpa using (by omega : i < x.size))]
      have hnext : ∀ a' w', (S w' ∧ wpAnyH P md (l.take n).toArray (TailQ (wpList P l.toArray Q (l.drop n)) Q) S f (x.setIfInBounds i true) a' w') → wpAny P md l.toArray Q (f + (l.length - n)) ((x ++ Array.replicate (l.length - n) false).setIfInBounds i true) a' w' := fun a' w' hh => by
        rw [hset]
        refine wpAny_of_headH hn hs hc hd hb hq f _ a' w' (by simpa using hx) ?_ ?_ hh.2
        · rw [Array.toList_setIfInBounds]
          have hix : i < x.toList.length := by simpa using (by omega : i < x.size)
          have hxi : x.toList[i] = false := by
            have h5 : i < x.size := by omega
            simp only [Array.getD_eq_getD_getElem?, Array.getElem?_eq_getElem h5, Option.getD_some] at h1
            simpa using h1
          rw [List.count_set hix, hxi, hcnt]
          simp
        · rw [← hset]
          exact inv.set hi hin
      unfold wpOp at hstep ⊢
      rw [hoh] at hstep
      rw [ho]
      have hw1 : ∀ y, Region.wanted o y = true := fun y => by simp [Region.wanted, hg]
      simp only [hw1, if_true] at hstep ⊢
      rcases hstep with hstep | ⟨h6, h7⟩
      · exact Or.inl (Oper.wp_mono hnext (oper_tailQ hstep))
      · exact Or.inr ⟨h6, h7⟩

theorem wp_region_held_tail {P : Program} {id : Nat} {l : List Oper} {S : World → Prop} {Q : Exit → Act → World → Prop} {a : Act} {w : World} (n : Nat) (hm : P.follows .mixedOrders = true)
    (hB : (decide (n < l.length) && Region.sinkB .any l.toArray n && Region.chainB .any l.toArray n && depsB .any l.toArray n && bareB l.toArray n && Region.seqB .any l.toArray (l.length - n) n (Array.replicate n true ++ Array.replicate (l.length - n) false)) = true)
    (hS : S w.drew) (h : S w.drew → wpAnyH P .any (l.take n).toArray (TailQ (wpList P l.toArray Q (l.drop n)) Q) S n (Array.replicate n false) a w.drew) : (Code.region id l.toArray true).wp P Q a w := by
  simp only [Bool.and_eq_true, decide_eq_true_eq] at hB
  obtain ⟨⟨⟨⟨⟨hn, hs⟩, hc⟩, hd⟩, hb⟩, hq⟩ := hB
  refine wp_region_any hm ?_
  have happ : Array.replicate l.toArray.size false = Array.replicate n false ++ Array.replicate (l.length - n) false := by
    rw [List.size_toArray, Array.replicate_append_replicate, show n + (l.length - n) = l.length by omega]
  have := wpAny_of_headH (P := P) (Q := Q) hn hs hc hd hb hq n (Array.replicate n false) a w.drew (by simp) (by simp) (by
    rw [← happ]
    exact ⟨by simp, fun j oj _ hl => (by rw [getD_replicate_false] at hl; cases hl), fun t _ ht => getD_in (by simpa using ht) (getD_replicate_false _ _)⟩) (h hS)
  rw [happ, List.size_toArray, show l.length = n + (l.length - n) by omega]
  rw [show n + (l.length - n) - n = l.length - n by omega]
  exact this

end Go.Proofs.Ytcjlfkklpghjbaa

namespace Go.Proofs.Ytcjlfkklpghjbaa
open Go.RowKit

def row3 (W L R : List Ent) : Nat → List Ent
  | 0 => W
  | 1 => L
  | _ => R
theorem planE_fail {W L R : List Ent} {po : Int} {k : Nat} (hk : k < 3) (h : ∀ j, j < k → chk (row3 W L R j) = 0) (hn : chk (row3 W L R k) ≠ 0) : planE W L R po = ([], chk (row3 W L R k)) := by
  have hk3 : k = 0 ∨ k = 1 ∨ k = 2 := by omega
  unfold planE
  rcases hk3 with rfl | rfl | rfl
  · replace hn : chk W ≠ 0 := hn
    rw [if_pos hn]; rfl
  · replace hn : chk L ≠ 0 := hn
    rw [if_neg (by simpa [row3] using h 0 (by omega)), if_pos hn]; rfl
  · replace hn : chk R ≠ 0 := hn
    rw [if_neg (by simpa [row3] using h 0 (by omega)), if_neg (by simpa [row3] using h 1 (by omega)), if_pos hn]; rfl
theorem planE_on {W L R : List Ent} {po : Int} (h : ∀ j, j < 3 → chk (row3 W L R j) = 0) : planE W L R po = if po < 0 ∨ 3 < po then ([], 2) else (planL W L R po, 0) := by
  unfold planE
  rw [if_neg (by simpa [row3] using h 0 (by omega)), if_neg (by simpa [row3] using h 1 (by omega)), if_neg (by simpa [row3] using h 2 (by omega))]

theorem chkFrom_ok : ∀ (r p : List Ent), ChkOk p → chkFrom p r = 0 → ChkOk (p ++ r)
  | [], p, h, _ => by rw [List.append_nil]; exact h
  | x :: r, p, h, h0 => by
    rw [chkFrom] at h0
    by_cases hs : stepE p x = 0
    · rw [if_pos hs] at h0
      have := chkFrom_ok r (p ++ [x]) (h.snoc hs) h0
      rwa [List.append_assoc] at this
    · rw [if_neg hs] at h0
      exact absurd h0 hs
theorem chk_ok {l : List Ent} (h : chk l = 0) : ChkOk l := chkFrom_ok l [] chkOk_nil h

theorem actsOf_len (W L R : List Ent) (po : Int) (u : List Bytes) : (actsOf W L R po u).length ≤ u.length := by
  unfold actsOf
  rw [List.length_map]
  exact List.length_filter_le _ _

/-- The row in the midst of one act's marking. -/
def stickTo (pl : Acts44) (k : Nat) (q : Bytes) (j : Nat) : Acts44 := pl.mapIdx fun m y => (y.1, if k < m ∧ m < j ∧ under y.1 q = true then 0 else y.2)
theorem stickTo_len (pl : Acts44) (k : Nat) (q : Bytes) (j : Nat) : (stickTo pl k q j).length = pl.length := by simp [stickTo]
theorem stickTo_start (pl : Acts44) (k : Nat) (q : Bytes) : stickTo pl k q (k + 1) = pl := by
  apply List.ext_getElem?
  intro m
  unfold stickTo
  rw [List.getElem?_mapIdx]
  cases pl[m]? with
  | none => rfl
  | some y => rw [Option.map_some, if_neg (by omega)]
theorem stickTo_end {pl : Acts44} {k : Nat} {q : Bytes} {j : Nat} (hj : pl.length ≤ j) : stickTo pl k q j = pl.mapIdx fun m y => (y.1, if k < m ∧ under y.1 q = true then 0 else y.2) := by
  apply List.ext_getElem?
  intro m
  unfold stickTo
  rw [List.getElem?_mapIdx, List.getElem?_mapIdx]
  cases hm : pl[m]? with
  | none => rfl
  | some y =>
    have := (List.getElem?_eq_some_iff.1 hm).1
    have e : (k < m ∧ m < j ∧ under y.1 q = true) = (k < m ∧ under y.1 q = true) := by
      rw [eq_iff_iff]
      constructor
      · rintro ⟨a, _, c⟩; exact ⟨a, c⟩
      · rintro ⟨a, c⟩; exact ⟨a, by omega, c⟩
    rw [Option.map_some, Option.map_some]
    simp only [e]
theorem stickTo_at {pl : Acts44} {k : Nat} {q : Bytes} {j : Nat} (hj : j < pl.length) : (stickTo pl k q j)[j]? = some pl[j] := by
  unfold stickTo
  rw [List.getElem?_mapIdx, List.getElem?_eq_getElem hj, Option.map_some, if_neg (by omega)]
theorem stickTo_self {pl : Acts44} {k : Nat} {q : Bytes} {j : Nat} {y : Bytes × Int} (hy : pl[k]? = some y) : (stickTo pl k q j)[k]? = some y := by
  unfold stickTo
  rw [List.getElem?_mapIdx, hy, Option.map_some, if_neg (by omega)]
theorem stickTo_no {pl : Acts44} {k : Nat} {q : Bytes} {j : Nat} (hj : j < pl.length) (hu : under pl[j].1 q = false) : stickTo pl k q (j + 1) = stickTo pl k q j := by
  apply List.ext_getElem?
  intro m
  unfold stickTo
  rw [List.getElem?_mapIdx, List.getElem?_mapIdx]
  cases hm : pl[m]? with
  | none => rfl
  | some y =>
    rw [Option.map_some, Option.map_some]
    by_cases e : m = j
    · subst e
      rw [List.getElem?_eq_getElem hj] at hm
      cases hm
      rw [hu]
      simp
    · have e2 : (m < j + 1) = (m < j) := by rw [eq_iff_iff]; omega
      simp only [e2]
theorem stickTo_yes {pl : Acts44} {k : Nat} {q : Bytes} {j : Nat} (hj : j < pl.length) (hk : k < j) (hu : under pl[j].1 q = true) : stickTo pl k q (j + 1) = (stickTo pl k q j).set j (pl[j].1, 0) := by
  apply List.ext_getElem?
  intro m
  by_cases e : m = j
  · subst e
    rw [List.getElem?_set_self (by rw [stickTo_len]; exact hj)]
    unfold stickTo
    rw [List.getElem?_mapIdx, List.getElem?_eq_getElem hj, Option.map_some, if_pos ⟨hk, by omega, hu⟩]
  · rw [List.getElem?_set_ne (fun h => e h.symm)]
    unfold stickTo
    rw [List.getElem?_mapIdx, List.getElem?_mapIdx]
    cases hm : pl[m]? with
    | none => rfl
    | some y =>
      have e2 : (m < j + 1) = (m < j) := by rw [eq_iff_iff]; omega
      rw [Option.map_some, Option.map_some]
      simp only [e2]

set_option maxHeartbeats 8000000 in
set_option maxRecDepth 100000 in
theorem plan44_calls (vw vl vr : Value) (W L R : List Ent) (po : Int) (w : World) (hW : Ents w vw W) (hL : Ents w vl L) (hR : Ents w vr R) (sW : smallEs W = true) (sL : smallEs L = true) (sR : smallEs R = true) :
    Calls Try.prog 10 #[vw, vl, vr, .int .i64 po] w fun e w' => (∃ v', e = .returned (.tuple #[v', .int .i64 (planE W L R po).2]) ∧ w'.ownsRow w.heap.size 39 2 v' (planE W L R po).1.length (actRow (planE W L R po).1)) ∧ Below w.heap.size w w' := by
  obtain ⟨Z0, z0, rfl, _, hz0⟩ := hW.shape
  obtain ⟨Z1, z1, rfl, _, hz1⟩ := hL.shape
  obtain ⟨Z2, z2, rfl, _, hz2⟩ := hR.shape
  unfold maxLen at hz0 hz1 hz2
  have hL60 := (smallEs_at sL).1
  have hR60 := (smallEs_at sR).1
  have hrows : ∀ k, k < 3 → ∃ (X : List Ent) (Zx : Option Addr) (zx : Nat), row3 W L R k = X ∧ (∀ wr : World, wr.heap[w.heap.size]? = some (.cells #[.slice Z0 W.length z0, .slice Z1 L.length z1, .slice Z2 R.length z2] 22 (0, 0)) → wr.cell? ⟨w.heap.size, k, none⟩ = some (.slice Zx X.length zx)) ∧ Ents w (.slice Zx X.length zx) X ∧ smallEs X = true := fun k hk => by
    have hk3 : k = 0 ∨ k = 1 ∨ k = 2 := by omega
    rcases hk3 with rfl | rfl | rfl
    · exact ⟨W, Z0, z0, rfl, fun wr h => cell_of (j := 0) h rfl, hW, sW⟩
    · exact ⟨L, Z1, z1, rfl, fun wr h => cell_of (j := 1) h rfl, hL, sL⟩
    · exact ⟨R, Z2, z2, rfl, fun wr h => cell_of (j := 2) h rfl, hR, sR⟩
  have hfail := fun k (hk : k < 3) => @planE_fail W L R po k hk
  have hon := @planE_on W L R po
  have hB1 := below_alloc (Below.refl w.heap.size w) (.cells #[.slice Z0 W.length z0, .slice Z1 L.length z1, .slice Z2 R.length z2] 22)
  have hblk := heap_alloc_new w (.cells #[.slice Z0 W.length z0, .slice Z1 L.length z1, .slice Z2 R.length z2] 22)
  have hps : ∀ y ∈ entPaths L ++ entPaths R, y.length ≤ 16777216 := fun y hy => by
    rw [List.mem_append] at hy
    rcases hy with hy | hy
    · obtain ⟨x, hx, rfl⟩ := List.mem_map.1 hy
      have := ((smallEs_at sL).2 x hx).1
      omega
    · obtain ⟨x, hx, rfl⟩ := List.mem_map.1 hy
      have := ((smallEs_at sR).2 x hx).1
      omega
  obtain ⟨u0, hu0⟩ : ∃ u0, upaths L R = u0 := ⟨_, rfl⟩
  have hup : u0.length ≤ 120 := by
    rw [← hu0]
    have h := uniqTo_len (sortP (entPaths L ++ entPaths R)) (sortP (entPaths L ++ entPaths R)).length
    have h2 : (sortP (entPaths L ++ entPaths R)).length = L.length + R.length := by
      rw [(sortP_perm _).length_eq, List.length_append]
      simp [entPaths]
    unfold upaths
    omega
  replace hu0 := Lib.hid hu0
  replace hup := Lib.hid hup
  replace hW := Lib.hid hW
  replace hL := Lib.hid hL
  replace hR := Lib.hid hR
  replace sW := Lib.hid sW
  replace sL := Lib.hid sL
  replace sR := Lib.hid sR
  replace hrows := Lib.hid hrows
  replace hfail := Lib.hid hfail
  replace hon := Lib.hid hon
  replace hB1 := Lib.hid hB1
  replace hblk := Lib.hid hblk
  replace hps := Lib.hid hps
  go_enter Try.func10, Try.ntmps10
  go_wp2_with fail
  go_loopw [27] (fun i wr => ∃ k : Nat, i = .int .i64 k ∧ k ≤ 3 ∧ (∀ j, j < k → chk (row3 W L R j) = 0) ∧ wr.heap[w.heap.size]? = some (.cells #[.slice Z0 W.length z0, .slice Z1 L.length z1, .slice Z2 R.length z2] 22 (0, 0)) ∧ Below w.heap.size w wr) (fun i _ => 3 - (intOf i).toNat)
  case atStart => exact ⟨0, rfl, Nat.zero_le _, fun j hj => absurd hj (Nat.not_lt_zero _), hblk.out, hB1.out⟩
  case round =>
    clear hB1 hblk
    obtain ⟨k, rfl, hk, hz, hbk, hB⟩ := hrel
    by_cases hlt : k < 3
    · obtain ⟨X, Zx, zx, hX, hcell, hEX, sX⟩ := hrows.out k hlt
      have hfk := hfail.out k hlt hz
      have bx := hcell wr hbk
      have hck := fun V hV => rcheck20_calls (.slice Zx X.length zx) X V hV sX
      have hz2 : chk X = 0 → ∀ j, j < k + 1 → chk (row3 W L R j) = 0 := fun e j hj => by
        rcases Nat.lt_succ_iff_lt_or_eq.1 hj with h | rfl
        · exact hz j h
        · rw [hX]; exact e
      rw [hX] at hfk
      have hki : (k : Int) < 3 := by omega
      generalize chk X = c at *
      have hlb := (Array.getElem?_eq_some_iff.1 hbk).1
      replace hX := Lib.hid hX
      replace hcell := Lib.hid hcell
      replace hEX := Lib.hid hEX
      replace sX := Lib.hid sX
      replace hfk := Lib.hid hfk
      replace hck := Lib.hid hck
      replace hz2 := Lib.hid hz2
      replace hz := Lib.hid hz
      replace hbk := Lib.hid hbk
      replace hB := Lib.hid hB
      go_wp2_with fail
      (with_reducible refine (hck.out _ (hEX.out.below hB.out)).mono ?_)
      rintro e w3 ⟨rfl, hB3⟩
      have hb3 := (hB3.block _ hlb).trans hbk.out
      have hB03 := below_step hB.out hB3
      clear hB3
      by_cases hc : c = 0
      · have t0 : (c != 0) = false := by simpa using hc
        have hzz := hz2.out hc
        replace hzz := Lib.hid hzz
        replace hb3 := Lib.hid hb3
        replace hB03 := Lib.hid hB03
        replace hc := Lib.hid hc
        go_wp2
        go_roundw
        case rel => exact ⟨k + 1, by go_num, by omega, hzz.out, hb3.out, hB03.out⟩
        case measure => simp [intOf]; omega
      · have t0 : (c != 0) = true := by simpa using hc
        have hpe := hfk.out hc
        replace hb3 := Lib.hid hb3
        replace hB03 := Lib.hid hB03
        replace hc := Lib.hid hc
        replace hpe := Lib.hid hpe
        go_wp2
        go_ret2
        refine ⟨⟨.slice none 0 0, by rw [hpe.out]; rfl, ?_⟩, hB03.out⟩
        rw [hpe.out]
        exact World.ownsRow_nil _ _ _ _
    · obtain rfl : k = 3 := by omega
      have hpe := hon.out hz
      have rW : Rise W := (chk_ok (hz 0 (by omega))).rise
      have rL : Rise L := (chk_ok (hz 1 (by omega))).rise
      have rR : Rise R := (chk_ok (hz 2 (by omega))).rise
      by_cases hpo : po < 0 ∨ 3 < po
      · rw [if_pos hpo] at hpe
        replace hpe := Lib.hid hpe
        replace hz := Lib.hid hz
        replace hbk := Lib.hid hbk
        replace hB := Lib.hid hB
        by_cases hp1 : po < 0
        · go_wp2
          go_ret2
          refine ⟨⟨.slice none 0 0, by rw [hpe.out]; rfl, ?_⟩, hB.out⟩
          rw [hpe.out]
          exact World.ownsRow_nil _ _ _ _
        · have hp2 : 3 < po := by omega
          go_wp2
          go_ret2
          refine ⟨⟨.slice none 0 0, by rw [hpe.out]; rfl, ?_⟩, hB.out⟩
          rw [hpe.out]
          exact World.ownsRow_nil _ _ _ _
      · rw [if_neg hpo] at hpe
        have hp1 : ¬ po < 0 := by omega
        have hp2 : ¬ 3 < po := by omega
        have hp44 := paths44_calls wr.heap.size (.slice Z1 L.length z1) (.slice Z2 R.length z2) L R (wr.alloc (.cells #[.slice Z1 L.length z1, .slice Z2 R.length z2] 22)) (cell_of (j := 0) (heap_alloc_new wr _) rfl) (cell_of (j := 1) (heap_alloc_new wr _) rfl) ((hL.out.below hB).below (below_alloc (Below.refl _ wr) _)) ((hR.out.below hB).below (below_alloc (Below.refl _ wr) _)) (by omega) hps.out
        have hB2 := below_alloc hB (.cells #[.slice Z1 L.length z1, .slice Z2 R.length z2] 22)
        replace hpe := Lib.hid hpe
        replace hz := Lib.hid hz
        replace hbk := Lib.hid hbk
        replace hB := Lib.hid hB
        replace hp44 := Lib.hid hp44
        replace hB2 := Lib.hid hB2
        go_wp2_with fail
        (with_reducible refine (hp44.out).mono ?_)
        rintro e w3 ⟨⟨v3, rfl, hS3⟩, hB3⟩
        have hB03 := below_step hB2.out hB3
        rw [hu0.out] at hS3
        have hrd := hS3.rd
        obtain ⟨oA, oc, ho, hc1, hc2⟩ := own_shape hS3.own
        subst ho
        unfold maxLen at hc2
        have hul : u0.length ≤ 120 := hup.out
        have hpe2 : planE W L R po = (markL L R (heldL (actsOf W L R po u0) L R), 0) := by rw [hpe.out, planL, hu0.out]
        replace hB03 := Lib.hid hB03
        replace hrd := Lib.hid hrd
        replace hpe2 := Lib.hid hpe2
        clear hS3 hB3 hB2 hp44 hpe
        obtain ⟨wo, rfl⟩ : ∃ wo : World, wo = wr := ⟨_, rfl⟩
        have hnil : w3.ownsRow w3.heap.size 39 2 (.slice none 0 0) 0 [] := ⟨rfl, Or.inl ⟨rfl, rfl⟩⟩
        replace hnil := Lib.hid hnil
        go_wp2_with fail
        go_loopw [13, 15] (fun o i wr => ∃ k : Nat, i = .int .i64 k ∧ k ≤ u0.length ∧ wr.ownsRow w3.heap.size 39 2 o (actsOf W L R po (u0.take k)).length (actRow (actsOf W L R po (u0.take k))) ∧ Below w3.heap.size w3 wr) (fun _ i _ => u0.length - (intOf i).toNat)
        case atStart => exact ⟨0, rfl, Nat.zero_le _, hnil.out, Below.refl _ _⟩
        case round =>
          clear hnil
          obtain ⟨k, rfl, hk', hO, hB1⟩ := hrel
          have hB := below_step hB03.out hB1
          by_cases hlt' : k < u0.length
          · obtain ⟨g, o, rfl, c1⟩ := (hrd.out.below hB1).cell hlt'
            have hsn := actsOf_snoc W L R po (u0.take k) u0[k]
            rw [← List.take_succ_eq_append_getElem hlt'] at hsn
            have htl := actsOf_len W L R po (u0.take k)
            rw [List.length_take] at htl
            have k1 := fun V hV => at44_calls (.slice Z1 L.length z1) L u0[k] V hV rL
            have k2 := fun V hV => at44_calls (.slice Z2 R.length z2) R u0[k] V hV rR
            have k3 := fun V => alike44_calls (entAt L u0[k]) (entAt R u0[k]) V
            have k4 := fun V h1 h2 h3 => wish44_calls (.slice Z0 W.length z0) (.slice Z1 L.length z1) (.slice Z2 R.length z2) W L R u0[k] po V h1 h2 h3 rW rL rR
            have hdf : differs L R u0[k] = !alikeE (entAt L u0[k]) (entAt R u0[k]) := rfl
            have hwq : wishAt W L R po u0[k] = wishE (entAt W u0[k]) (entAt L u0[k]) (entAt R u0[k]) po := rfl
            rw [hdf] at hsn
            generalize wishE (entAt W u0[k]) (entAt L u0[k]) (entAt R u0[k]) po = wq at *
            rw [hwq] at hsn
            generalize alikeE (entAt L u0[k]) (entAt R u0[k]) = al at *
            generalize (entAt L u0[k]).isSome = sx at *
            generalize (entAt R u0[k]).isSome = sy at *
            generalize entOr (entAt L u0[k]) = x at *
            generalize entOr (entAt R u0[k]) = y at *
            clear hdf hwq
            generalize u0[k] = q at *
            generalize hAk : actsOf W L R po (u0.take k) = ak at *
            obtain ⟨oA, oc, ho, ho1, ho2⟩ := own_shape hO
            subst ho
            unfold maxLen at ho2
            obtain ⟨p1, kd1, sz1, ⟨a1, a2, a3, a4, a5⟩, tg1, sm1, gr1⟩ := x
            obtain ⟨p2, kd2, sz2, ⟨b1, b2, b3, b4, b5⟩, tg2, sm2, gr2⟩ := y
            unfold entV entCells at k1 k2 k3
            dsimp only at k1 k2 k3
            have hki : (k : Int) < (u0.length : Int) := by omega
            replace hO := Lib.hid hO
            replace hB := Lib.hid hB
            replace hB1 := Lib.hid hB1
            replace hsn := Lib.hid hsn
            replace k1 := Lib.hid k1
            replace k2 := Lib.hid k2
            replace k3 := Lib.hid k3
            replace k4 := Lib.hid k4
            replace hAk := Lib.hid hAk
            cases al with
            | true =>
              have hs2 := hsn.out
              rw [Bool.not_true, if_neg (by simp), List.append_nil] at hs2
              replace hs2 := Lib.hid hs2
              go_wp2_with fail
              (with_reducible refine (k1.out _ (hL.out.below hB.out)).mono ?_)
              rintro e w4 ⟨rfl, hB4⟩
              have c1' := (hB4.cell (cell_lt c1)).trans c1
              have hB14 := below_alloc (below_step hB1.out hB4) (.cells #[.string (mkS p1), .int .i64 kd1, .int .i64 sz1, .int .i64 a1, .int .i64 a2, .int .i64 a3, .int .i64 a4, .int .i64 a5, .string (mkS tg1), .string (mkS sm1), .int .i64 gr1] 35)
              have hB04 := below_alloc (below_step hB.out hB4) (.cells #[.string (mkS p1), .int .i64 kd1, .int .i64 sz1, .int .i64 a1, .int .i64 a2, .int .i64 a3, .int .i64 a4, .int .i64 a5, .string (mkS tg1), .string (mkS sm1), .int .i64 gr1] 35)
              have hO4 := own_below hO.out (below_alloc hB4 (.cells #[.string (mkS p1), .int .i64 kd1, .int .i64 sz1, .int .i64 a1, .int .i64 a2, .int .i64 a3, .int .i64 a4, .int .i64 a5, .string (mkS tg1), .string (mkS sm1), .int .i64 gr1] 35))
              have g1 := heap_alloc_new w4 (.cells #[.string (mkS p1), .int .i64 kd1, .int .i64 sz1, .int .i64 a1, .int .i64 a2, .int .i64 a3, .int .i64 a4, .int .i64 a5, .string (mkS tg1), .string (mkS sm1), .int .i64 gr1] 35)
              have c1x := ((below_alloc (Below.refl _ w4) (.cells #[.string (mkS p1), .int .i64 kd1, .int .i64 sz1, .int .i64 a1, .int .i64 a2, .int .i64 a3, .int .i64 a4, .int .i64 a5, .string (mkS tg1), .string (mkS sm1), .int .i64 gr1] 35)).cell (cell_lt c1')).trans c1'
              replace hB14 := Lib.hid hB14
              replace hB04 := Lib.hid hB04
              replace hO4 := Lib.hid hO4
              replace g1 := Lib.hid g1
              clear hB4 c1 c1' hO
              go_upto_region 16 with fail
              generalize w4.alloc (.cells #[.string (mkS p1), .int .i64 kd1, .int .i64 sz1, .int .i64 a1, .int .i64 a2, .int .i64 a3, .int .i64 a4, .int .i64 a5, .string (mkS tg1), .string (mkS sm1), .int .i64 gr1] 35) = w5 at *
              generalize w4.heap.size = n1 at *
              go_wp2_with fail
              (with_reducible refine (k2.out _ (hR.out.below hB04.out)).mono ?_)
              rintro e w6 ⟨rfl, hB6⟩
              have c2x := (hB6.cell (cell_lt c1x)).trans c1x
              have hA := below_alloc (Below.refl w6.heap.size w6) (.cells #[.string (mkS p2), .int .i64 kd2, .int .i64 sz2, .int .i64 b1, .int .i64 b2, .int .i64 b3, .int .i64 b4, .int .i64 b5, .string (mkS tg2), .string (mkS sm2), .int .i64 gr2] 35)
              have hB16 := below_alloc (below_step hB14.out hB6) (.cells #[.string (mkS p2), .int .i64 kd2, .int .i64 sz2, .int .i64 b1, .int .i64 b2, .int .i64 b3, .int .i64 b4, .int .i64 b5, .string (mkS tg2), .string (mkS sm2), .int .i64 gr2] 35)
              have hB06 := below_alloc (below_step hB04.out hB6) (.cells #[.string (mkS p2), .int .i64 kd2, .int .i64 sz2, .int .i64 b1, .int .i64 b2, .int .i64 b3, .int .i64 b4, .int .i64 b5, .string (mkS tg2), .string (mkS sm2), .int .i64 gr2] 35)
              have hO6 := own_below hO4.out (below_alloc hB6 (.cells #[.string (mkS p2), .int .i64 kd2, .int .i64 sz2, .int .i64 b1, .int .i64 b2, .int .i64 b3, .int .i64 b4, .int .i64 b5, .string (mkS tg2), .string (mkS sm2), .int .i64 gr2] 35))
              have g1b := (hB6.block _ (Array.getElem?_eq_some_iff.1 g1.out).1).trans g1.out
              have g1c := (hA.block _ (Array.getElem?_eq_some_iff.1 g1b).1).trans g1b
              have g2 := heap_alloc_new w6 (.cells #[.string (mkS p2), .int .i64 kd2, .int .i64 sz2, .int .i64 b1, .int .i64 b2, .int .i64 b3, .int .i64 b4, .int .i64 b5, .string (mkS tg2), .string (mkS sm2), .int .i64 gr2] 35)
              have c3x := (hA.cell (cell_lt c2x)).trans c2x
              replace hB16 := Lib.hid hB16
              replace hB06 := Lib.hid hB06
              replace hO6 := Lib.hid hO6
              replace g1c := Lib.hid g1c
              replace g2 := Lib.hid g2
              clear hB6 c1x c2x hA hO4 g1 g1b
              go_upto_region 17 with fail
              generalize w6.alloc (.cells #[.string (mkS p2), .int .i64 kd2, .int .i64 sz2, .int .i64 b1, .int .i64 b2, .int .i64 b3, .int .i64 b4, .int .i64 b5, .string (mkS tg2), .string (mkS sm2), .int .i64 gr2] 35) = w7 at *
              generalize w6.heap.size = n2 at *
              have x0 := cell_of (j := 0) g1c.out rfl
              have y0 := cell_of (j := 0) g2.out rfl
              have x1 := cell_of (j := 1) g1c.out rfl
              have y1 := cell_of (j := 1) g2.out rfl
              have x2 := cell_of (j := 2) g1c.out rfl
              have y2 := cell_of (j := 2) g2.out rfl
              have x3 := cell_of (j := 3) g1c.out rfl
              have y3 := cell_of (j := 3) g2.out rfl
              have x4 := cell_of (j := 4) g1c.out rfl
              have y4 := cell_of (j := 4) g2.out rfl
              have x5 := cell_of (j := 5) g1c.out rfl
              have y5 := cell_of (j := 5) g2.out rfl
              have x6 := cell_of (j := 6) g1c.out rfl
              have y6 := cell_of (j := 6) g2.out rfl
              have x7 := cell_of (j := 7) g1c.out rfl
              have y7 := cell_of (j := 7) g2.out rfl
              have x8 := cell_of (j := 8) g1c.out rfl
              have y8 := cell_of (j := 8) g2.out rfl
              have x9 := cell_of (j := 9) g1c.out rfl
              have y9 := cell_of (j := 9) g2.out rfl
              have x10 := cell_of (j := 10) g1c.out rfl
              have y10 := cell_of (j := 10) g2.out rfl
              go_wp2_with fail
              (with_reducible refine (k3.out _).mono ?_)
              rintro e w8 ⟨rfl, hB8⟩
              have hB18 := below_step hB16.out hB8
              have hB08 := below_step hB06.out hB8
              have hO8 := own_below hO6.out hB8
              have c4x := (hB8.cell (cell_lt c3x)).trans c3x
              replace hB18 := Lib.hid hB18
              replace hB08 := Lib.hid hB08
              replace hO8 := Lib.hid hO8
              clear c3x hB8 hO6
              have hO9 := hO8.out
              rw [← hs2.out] at hO9
              replace hO9 := Lib.hid hO9
              go_wp2
              go_roundw
              case rel => exact ⟨k + 1, by go_num, by omega, by have h := hs2.out; rw [h] at hO9 ⊢; exact hO9.out, hB18.out⟩
              case measure => simp [intOf]; omega
            | false =>
              have hs2 := hsn.out
              rw [Bool.not_false, if_pos rfl] at hs2
              replace hs2 := Lib.hid hs2
              go_wp2_with fail
              (with_reducible refine (k1.out _ (hL.out.below hB.out)).mono ?_)
              rintro e w4 ⟨rfl, hB4⟩
              have c1' := (hB4.cell (cell_lt c1)).trans c1
              have hB14 := below_alloc (below_step hB1.out hB4) (.cells #[.string (mkS p1), .int .i64 kd1, .int .i64 sz1, .int .i64 a1, .int .i64 a2, .int .i64 a3, .int .i64 a4, .int .i64 a5, .string (mkS tg1), .string (mkS sm1), .int .i64 gr1] 35)
              have hB04 := below_alloc (below_step hB.out hB4) (.cells #[.string (mkS p1), .int .i64 kd1, .int .i64 sz1, .int .i64 a1, .int .i64 a2, .int .i64 a3, .int .i64 a4, .int .i64 a5, .string (mkS tg1), .string (mkS sm1), .int .i64 gr1] 35)
              have hO4 := own_below hO.out (below_alloc hB4 (.cells #[.string (mkS p1), .int .i64 kd1, .int .i64 sz1, .int .i64 a1, .int .i64 a2, .int .i64 a3, .int .i64 a4, .int .i64 a5, .string (mkS tg1), .string (mkS sm1), .int .i64 gr1] 35))
              have g1 := heap_alloc_new w4 (.cells #[.string (mkS p1), .int .i64 kd1, .int .i64 sz1, .int .i64 a1, .int .i64 a2, .int .i64 a3, .int .i64 a4, .int .i64 a5, .string (mkS tg1), .string (mkS sm1), .int .i64 gr1] 35)
              have c1x := ((below_alloc (Below.refl _ w4) (.cells #[.string (mkS p1), .int .i64 kd1, .int .i64 sz1, .int .i64 a1, .int .i64 a2, .int .i64 a3, .int .i64 a4, .int .i64 a5, .string (mkS tg1), .string (mkS sm1), .int .i64 gr1] 35)).cell (cell_lt c1')).trans c1'
              replace hB14 := Lib.hid hB14
              replace hB04 := Lib.hid hB04
              replace hO4 := Lib.hid hO4
              replace g1 := Lib.hid g1
              clear hB4 c1 c1' hO
              go_upto_region 16 with fail
              generalize w4.alloc (.cells #[.string (mkS p1), .int .i64 kd1, .int .i64 sz1, .int .i64 a1, .int .i64 a2, .int .i64 a3, .int .i64 a4, .int .i64 a5, .string (mkS tg1), .string (mkS sm1), .int .i64 gr1] 35) = w5 at *
              generalize w4.heap.size = n1 at *
              go_wp2_with fail
              (with_reducible refine (k2.out _ (hR.out.below hB04.out)).mono ?_)
              rintro e w6 ⟨rfl, hB6⟩
              have c2x := (hB6.cell (cell_lt c1x)).trans c1x
              have hA := below_alloc (Below.refl w6.heap.size w6) (.cells #[.string (mkS p2), .int .i64 kd2, .int .i64 sz2, .int .i64 b1, .int .i64 b2, .int .i64 b3, .int .i64 b4, .int .i64 b5, .string (mkS tg2), .string (mkS sm2), .int .i64 gr2] 35)
              have hB16 := below_alloc (below_step hB14.out hB6) (.cells #[.string (mkS p2), .int .i64 kd2, .int .i64 sz2, .int .i64 b1, .int .i64 b2, .int .i64 b3, .int .i64 b4, .int .i64 b5, .string (mkS tg2), .string (mkS sm2), .int .i64 gr2] 35)
              have hB06 := below_alloc (below_step hB04.out hB6) (.cells #[.string (mkS p2), .int .i64 kd2, .int .i64 sz2, .int .i64 b1, .int .i64 b2, .int .i64 b3, .int .i64 b4, .int .i64 b5, .string (mkS tg2), .string (mkS sm2), .int .i64 gr2] 35)
              have hO6 := own_below hO4.out (below_alloc hB6 (.cells #[.string (mkS p2), .int .i64 kd2, .int .i64 sz2, .int .i64 b1, .int .i64 b2, .int .i64 b3, .int .i64 b4, .int .i64 b5, .string (mkS tg2), .string (mkS sm2), .int .i64 gr2] 35))
              have g1b := (hB6.block _ (Array.getElem?_eq_some_iff.1 g1.out).1).trans g1.out
              have g1c := (hA.block _ (Array.getElem?_eq_some_iff.1 g1b).1).trans g1b
              have g2 := heap_alloc_new w6 (.cells #[.string (mkS p2), .int .i64 kd2, .int .i64 sz2, .int .i64 b1, .int .i64 b2, .int .i64 b3, .int .i64 b4, .int .i64 b5, .string (mkS tg2), .string (mkS sm2), .int .i64 gr2] 35)
              have c3x := (hA.cell (cell_lt c2x)).trans c2x
              replace hB16 := Lib.hid hB16
              replace hB06 := Lib.hid hB06
              replace hO6 := Lib.hid hO6
              replace g1c := Lib.hid g1c
              replace g2 := Lib.hid g2
              clear hB6 c1x c2x hA hO4 g1 g1b
              go_upto_region 17 with fail
              generalize w6.alloc (.cells #[.string (mkS p2), .int .i64 kd2, .int .i64 sz2, .int .i64 b1, .int .i64 b2, .int .i64 b3, .int .i64 b4, .int .i64 b5, .string (mkS tg2), .string (mkS sm2), .int .i64 gr2] 35) = w7 at *
              generalize w6.heap.size = n2 at *
              have x0 := cell_of (j := 0) g1c.out rfl
              have y0 := cell_of (j := 0) g2.out rfl
              have x1 := cell_of (j := 1) g1c.out rfl
              have y1 := cell_of (j := 1) g2.out rfl
              have x2 := cell_of (j := 2) g1c.out rfl
              have y2 := cell_of (j := 2) g2.out rfl
              have x3 := cell_of (j := 3) g1c.out rfl
              have y3 := cell_of (j := 3) g2.out rfl
              have x4 := cell_of (j := 4) g1c.out rfl
              have y4 := cell_of (j := 4) g2.out rfl
              have x5 := cell_of (j := 5) g1c.out rfl
              have y5 := cell_of (j := 5) g2.out rfl
              have x6 := cell_of (j := 6) g1c.out rfl
              have y6 := cell_of (j := 6) g2.out rfl
              have x7 := cell_of (j := 7) g1c.out rfl
              have y7 := cell_of (j := 7) g2.out rfl
              have x8 := cell_of (j := 8) g1c.out rfl
              have y8 := cell_of (j := 8) g2.out rfl
              have x9 := cell_of (j := 9) g1c.out rfl
              have y9 := cell_of (j := 9) g2.out rfl
              have x10 := cell_of (j := 10) g1c.out rfl
              have y10 := cell_of (j := 10) g2.out rfl
              go_wp2_with fail
              (with_reducible refine (k3.out _).mono ?_)
              rintro e w8 ⟨rfl, hB8⟩
              have hB18 := below_step hB16.out hB8
              have hB08 := below_step hB06.out hB8
              have hO8 := own_below hO6.out hB8
              have c4x := (hB8.cell (cell_lt c3x)).trans c3x
              replace hB18 := Lib.hid hB18
              replace hB08 := Lib.hid hB08
              replace hO8 := Lib.hid hO8
              clear c3x hB8 hO6
              go_upto_region 18 with fail
              have hWd : Ents w8.drew _ W := hW.out.below (below_drewN hB08.out 1)
              have hLd : Ents w8.drew _ L := hL.out.below (below_drewN hB08.out 1)
              have hRd : Ents w8.drew _ R := hR.out.below (below_drewN hB08.out 1)
              have k5 := k4.out w8.drew hWd hLd hRd
              have c5 : w8.drew.cell? ⟨g, o + k, none⟩ = some (.string (mkS q)) := c4x
              replace k5 := Lib.hid k5
              clear hWd hLd hRd x0 x1 x2 x3 x4 x5 x6 x7 x8 x9 x10 y0 y1 y2 y3 y4 y5 y6 y7 y8 y9 y10
              refine wp_region_held_tail (S := fun W => W.cell? ⟨g, o + k, none⟩ = some (.string (mkS q))) 16 (by kernel_rfl) (by kernel_rfl) c5 (fun hHeld => ?_)
              simp only [List.take_succ_cons, List.take_zero, List.drop_succ_cons, List.drop_zero]
              simp only [Array.replicate, List.replicate]
              refine wpAnyH_take (i := 0) (v := ?_) rfl (by kernel_rfl) (by kernel_rfl) (by kernel_rfl) (fun _ _ _ h => h) (Or.inl ⟨by rfl, ?_⟩) (by assumption) ?_
              rotate_left 1
              · intro W hSw
                (try dsimp only at hSw)
                go_simp
                try with_reducible rfl
              simp only [Act.put, List.setIfInBounds_toArray, List.set_cons_zero, List.set_cons_succ]
              refine wpAnyH_take (i := 1) (v := ?_) rfl (by kernel_rfl) (by kernel_rfl) (by kernel_rfl) (fun _ _ _ h => h) (Or.inl ⟨by rfl, ?_⟩) (by assumption) ?_
              rotate_left 1
              · intro W hSw
                (try dsimp only at hSw)
                go_simp
                try with_reducible rfl
              simp only [Act.put, List.setIfInBounds_toArray, List.set_cons_zero, List.set_cons_succ]
              refine wpAnyH_take (i := 2) (v := ?_) rfl (by kernel_rfl) (by kernel_rfl) (by kernel_rfl) (fun _ _ _ h => h) (Or.inl ⟨by rfl, ?_⟩) (by assumption) ?_
              rotate_left 1
              · intro W hSw
                (try dsimp only at hSw)
                go_simp
                try with_reducible rfl
              simp only [Act.put, List.setIfInBounds_toArray, List.set_cons_zero, List.set_cons_succ]
              refine wpAnyH_take (i := 3) (v := ?_) rfl (by kernel_rfl) (by kernel_rfl) (by kernel_rfl) (fun _ _ _ h => h) (Or.inl ⟨by rfl, ?_⟩) (by assumption) ?_
              rotate_left 1
              · intro W hSw
                (try dsimp only at hSw)
                go_simp
                try with_reducible rfl
              simp only [Act.put, List.setIfInBounds_toArray, List.set_cons_zero, List.set_cons_succ]
              refine wpAnyH_take (i := 4) (v := ?_) rfl (by kernel_rfl) (by kernel_rfl) (by kernel_rfl) (fun _ _ _ h => h) (Or.inl ⟨by rfl, ?_⟩) (by assumption) ?_
              rotate_left 1
              · intro W hSw
                (try dsimp only at hSw)
                go_simp
                try with_reducible rfl
              simp only [Act.put, List.setIfInBounds_toArray, List.set_cons_zero, List.set_cons_succ]
              refine wpAnyH_take (i := 5) (v := ?_) rfl (by kernel_rfl) (by kernel_rfl) (by kernel_rfl) (fun _ _ _ h => h) (Or.inl ⟨by rfl, ?_⟩) (by assumption) ?_
              rotate_left 1
              · intro W hSw
                (try dsimp only at hSw)
                go_simp
                try with_reducible rfl
              simp only [Act.put, List.setIfInBounds_toArray, List.set_cons_zero, List.set_cons_succ]
              refine wpAnyH_take (i := 6) (v := ?_) rfl (by kernel_rfl) (by kernel_rfl) (by kernel_rfl) (fun _ _ _ h => h) (Or.inl ⟨by rfl, ?_⟩) (by assumption) ?_
              rotate_left 1
              · intro W hSw
                (try dsimp only at hSw)
                go_simp
                try with_reducible rfl
              simp only [Act.put, List.setIfInBounds_toArray, List.set_cons_zero, List.set_cons_succ]
              refine wpAnyH_take (i := 7) (v := ?_) rfl (by kernel_rfl) (by kernel_rfl) (by kernel_rfl) (fun _ _ _ h => h) (Or.inl ⟨by rfl, ?_⟩) (by assumption) ?_
              rotate_left 1
              · intro W hSw
                (try dsimp only at hSw)
                go_simp
                try with_reducible rfl
              simp only [Act.put, List.setIfInBounds_toArray, List.set_cons_zero, List.set_cons_succ]
              refine wpAnyH_take (i := 8) (v := ?_) rfl (by kernel_rfl) (by kernel_rfl) (by kernel_rfl) (fun _ _ _ h => h) (Or.inl ⟨by rfl, ?_⟩) (by assumption) ?_
              rotate_left 1
              · intro W hSw
                (try dsimp only at hSw)
                go_simp
                try with_reducible rfl
              simp only [Act.put, List.setIfInBounds_toArray, List.set_cons_zero, List.set_cons_succ]
              refine wpAnyH_take (i := 9) (v := ?_) rfl (by kernel_rfl) (by kernel_rfl) (by kernel_rfl) (fun _ _ _ h => h) (Or.inl ⟨by rfl, ?_⟩) (by assumption) ?_
              rotate_left 1
              · intro W hSw
                (try dsimp only at hSw)
                go_simp
                try with_reducible rfl
              simp only [Act.put, List.setIfInBounds_toArray, List.set_cons_zero, List.set_cons_succ]
              refine wpAnyH_take (i := 10) (v := ?_) rfl (by kernel_rfl) (by kernel_rfl) (by kernel_rfl) (fun _ _ _ h => h) (Or.inl ⟨by rfl, ?_⟩) (by assumption) ?_
              rotate_left 1
              · intro W hSw
                (try dsimp only at hSw)
                go_simp
                try with_reducible rfl
              simp only [Act.put, List.setIfInBounds_toArray, List.set_cons_zero, List.set_cons_succ]
              refine wpAnyH_take (i := 11) (v := ?_) rfl (by kernel_rfl) (by kernel_rfl) (by kernel_rfl) (fun _ _ _ h => h) (Or.inl ⟨by rfl, ?_⟩) (by assumption) ?_
              rotate_left 1
              · intro W hSw
                (try dsimp only at hSw)
                go_simp
                try with_reducible rfl
              simp only [Act.put, List.setIfInBounds_toArray, List.set_cons_zero, List.set_cons_succ]
              refine wpAnyH_take (i := 12) (v := ?_) rfl (by kernel_rfl) (by kernel_rfl) (by kernel_rfl) (fun _ _ _ h => h) (Or.inl ⟨by rfl, ?_⟩) (by assumption) ?_
              rotate_left 1
              · intro W hSw
                (try dsimp only at hSw)
                go_simp
                try with_reducible rfl
              simp only [Act.put, List.setIfInBounds_toArray, List.set_cons_zero, List.set_cons_succ]
              refine wpAnyH_ready (rs := [13]) (by kernel_rfl) (by simp) ?_
              refine AllReadyH.cons rfl (fun K hK => ?_) AllReadyH.nil
              go_simp
              (with_reducible refine k5.out.mono ?_)
              rintro e w9 ⟨rfl, hB9⟩
              have hB9' : Below w8.heap.size w8 w9 := below_step (below_drewN (Below.refl _ _) 1) hB9
              have c6 := (hB9'.cell (cell_lt c4x)).trans c4x
              have hB19 := below_step hB18.out hB9'
              have hO9 := own_below hO8.out hB9'
              replace hB19 := Lib.hid hB19
              replace hO9 := Lib.hid hO9
              refine hK.out _ _ c6 (fun hHeld => ?_)
              clear hK K hB9 hB9'
              simp only [Act.put, List.setIfInBounds_toArray, List.set_cons_zero, List.set_cons_succ]
              refine wpAnyH_take (i := 14) (v := ?_) rfl (by kernel_rfl) (by kernel_rfl) (by kernel_rfl) (fun _ _ _ h => h) (Or.inl ⟨by rfl, ?_⟩) (by assumption) ?_
              rotate_left 1
              · intro W hSw
                (try dsimp only at hSw)
                go_simp
                try with_reducible rfl
              simp only [Act.put, List.setIfInBounds_toArray, List.set_cons_zero, List.set_cons_succ]
              have c7 := ((below_alloc (Below.refl _ w9) (.cells #[.string (mkS q), .int .i64 wq] 39)).cell (cell_lt c6)).trans c6
              refine wpAnyH_ready (rs := [15]) (by kernel_rfl) (by simp) ?_
              refine AllReadyH.cons rfl (fun K hK => ?_) AllReadyH.nil
              go_simp
              refine hK.out _ _ c7 (fun hHeld => ?_)
              clear hK K
              simp only [Act.put, List.setIfInBounds_toArray, List.set_cons_zero, List.set_cons_succ]
              refine wpAnyH_done (by kernel_rfl) ?_ _
              change wpList _ _ _ _ _ (w9.alloc (.cells #[.string (mkS q), .int .i64 wq] 39))
              go_wp2_with (at_builtin; refine wp_append1 w3.heap.size rfl (.tmp 77) (.tmp 92) 36 39 rfl Try.underlying36 (.agg #[.string ⟨#[]⟩, .int .i64 0]) 2 24 info_act44 rfl (by decide) (.slice oA ak.length oc) _ _ rfl [.string (mkS q), .int .i64 wq] rfl hO9.out rfl ?_ ?_ ?_ hB19.out.size ?_)
              · simp [Value.oneCell']
              · simp only [maxLen]; omega
              · omega
              · intro v1 wx h1 hg hat
                have hBx := hB19.out.grown hg hB19.out.size (own_base hO9.out)
                have hOx : wx.ownsRow w3.heap.size 39 2 v1 (actsOf W L R po (u0.take (k + 1))).length (actRow (actsOf W L R po (u0.take (k + 1)))) := by
                  rw [hs2.out, actRow_append, List.length_append]
                  exact h1
                replace hOx := Lib.hid hOx
                replace hBx := Lib.hid hBx
                clear h1 hg hat
                go_wp2
                go_roundw
                case rel => exact ⟨k + 1, by go_num, by omega, hOx.out, hBx.out⟩
                case measure => simp [intOf]; omega
          · obtain rfl : k = u0.length := by omega
            rw [List.take_length] at hO
            have hlp : ∀ y ∈ actsOf W L R po u0, y.1.length ≤ 1000000 := fun y hy => by
              obtain ⟨p, hp, rfl⟩ := List.mem_map.1 hy
              have hm := (List.mem_filter.1 hp).1
              rw [← hu0.out, (upaths_is L R).2] at hm
              rcases hm with hm | hm
              · obtain ⟨x, hx, rfl⟩ := List.mem_map.1 hm
                have := ((smallEs_at sL.out).2 x hx).1
                dsimp only
                omega
              · obtain ⟨x, hx, rfl⟩ := List.mem_map.1 hm
                have := ((smallEs_at sR.out).2 x hx).1
                dsimp only
                omega
            have hal := actsOf_len W L R po u0
            generalize actsOf W L R po u0 = ak at *
            have h44 := held44_calls _ _ _ ak L R wr (rda_own hO) (hL.out.below hB) (hR.out.below hB) rL rR (by omega) hlp
            obtain ⟨oA, oc, ho, ho1, ho2⟩ := own_shape hO
            subst ho
            unfold maxLen at ho2
            replace h44 := Lib.hid h44
            replace hB := Lib.hid hB
            replace hB1 := Lib.hid hB1
            replace hlp := Lib.hid hlp
            replace hO := Lib.hid hO
            go_wp2_with fail
            (with_reducible refine (h44.out).mono ?_)
            rintro e w4 ⟨⟨v4, rfl, hO4⟩, hB4⟩
            have hB04 := below_step hB.out hB4
            have hO4' := own_low hO4 hB.out.size
            obtain ⟨oA4, oc4, ho, ho1, ho2⟩ := own_shape hO4'
            subst ho
            unfold maxLen at ho2
            have hhl : (heldL ak L R).length = ak.length := by rw [heldL, List.length_map]
            have hhp : ∀ y ∈ heldL ak L R, y.1.length ≤ 1000000 := fun y hy => by
              obtain ⟨x, hx, rfl⟩ := List.mem_map.1 hy
              exact hlp.out x hx
            generalize heldL ak L R = hl at *
            replace hB04 := Lib.hid hB04
            replace hO4' := Lib.hid hO4'
            replace hhl := Lib.hid hhl
            replace hhp := Lib.hid hhp
            clear hO4 hB4 h44 hO hB1 hB hlp
            obtain ⟨wi, rfl⟩ : ∃ wi : World, wi = wr := ⟨_, rfl⟩
            have hst : w4.ownsRow w.heap.size 39 2 (.slice oA4 ak.length oc4) ak.length (actRow (placeL L R hl 0)) := by rw [placeL_start]; exact hO4'.out
            replace hst := Lib.hid hst
            go_wp2_with fail
            go_loopw [20] (fun i wr => ∃ k : Nat, i = .int .i64 k ∧ k ≤ ak.length ∧ wr.ownsRow w.heap.size 39 2 (.slice oA4 ak.length oc4) ak.length (actRow (placeL L R hl k)) ∧ Below w.heap.size w wr) (fun i _ => ak.length - (intOf i).toNat)
            case atStart => exact ⟨0, rfl, Nat.zero_le _, hst.out, hB04.out⟩
            case round =>
              obtain ⟨k, rfl, hkk, hO, hB⟩ := hrel
              by_cases hlt2 : k < ak.length
              · have hkl : k < hl.length := by rw [hhl.out]; exact hlt2
                have hyk : (placeL L R hl k)[k]? = some (inPlace L R hl k k hl[k]) := by
                  unfold placeL
                  rw [List.getElem?_mapIdx, List.getElem?_eq_getElem hkl]
                  rfl
                obtain ⟨r1, r2⟩ := actRow_at _ _ _ hyk
                obtain ⟨og, oc, hoe, hob, _, _, hov, hcs⟩ := own_at hO (by omega)
                simp only [Value.slice.injEq, true_and] at hoe
                obtain ⟨rfl, rfl⟩ := hoe
                have c1 := hcs _ _ r1
                have c2 := hcs _ _ r2
                have hquiet := @place_quiet L R hl k hkl
                have hstick : sticks L R (inPlace L R hl k k hl[k]) = true → placeL L R hl (k + 1) = (placeL L R hl k).mapIdx fun m y => (y.1, if k < m ∧ under y.1 (inPlace L R hl k k hl[k]).1 = true then 0 else y.2) := place_stick hkl
                have hpp : ∀ y ∈ placeL L R hl k, y.1.length ≤ 1000000 := fun y hy => by
                  obtain ⟨m, hm, rfl⟩ := List.mem_iff_getElem.1 hy
                  unfold placeL at hm ⊢
                  rw [List.length_mapIdx] at hm
                  rw [List.getElem_mapIdx]
                  exact hhp.out hl[m] (List.getElem_mem hm)
                have hpl : (placeL L R hl k).length = ak.length := by
                  unfold placeL
                  rw [List.length_mapIdx]
                  exact hhl.out
                generalize inPlace L R hl k k hl[k] = y at *
                obtain ⟨q, t⟩ := y
                dsimp only at *
                have hstk : sticks L R (q, t) = (decide (t = 0) && !(isDirE (entAt L q) && isDirE (entAt R q))) := rfl
                have hki : (k : Int) < (ak.length : Int) := by omega
                have d1 := fun V hV => dir44_calls (.slice Z1 L.length z1) L q V hV rL
                have d2 := fun V hV => dir44_calls (.slice Z2 R.length z2) R q V hV rR
                generalize isDirE (entAt L q) = b1 at *
                generalize isDirE (entAt R q) = b2 at *
                clear hcs r1 r2
                replace hO := Lib.hid hO
                replace hB := Lib.hid hB
                replace hob := Lib.hid hob
                replace hov := Lib.hid hov
                replace hquiet := Lib.hid hquiet
                replace hstick := Lib.hid hstick
                replace hstk := Lib.hid hstk
                replace d1 := Lib.hid d1
                replace d2 := Lib.hid d2
                replace hyk := Lib.hid hyk
                replace hpp := Lib.hid hpp
                replace hpl := Lib.hid hpl
                by_cases ht : t = 0
                · subst ht
                  cases b1 with
                  | true =>
                    cases b2 with
                    | true =>
                      have hqq := hquiet.out (by rw [hstk.out]; simp)
                      replace hqq := Lib.hid hqq
                      go_wp2_with fail
                      (with_reducible refine (d1.out _ (hL.out.below hB.out)).mono ?_)
                      rintro e w5 ⟨rfl, hB5⟩
                      have c1' := (hB5.cell (cell_lt c1)).trans c1
                      have c2' := (hB5.cell (cell_lt c2)).trans c2
                      have hB05 := below_step hB.out hB5
                      replace hB05 := Lib.hid hB05
                      go_wp2_with fail
                      (with_reducible refine (d2.out _ (hR.out.below hB05.out)).mono ?_)
                      rintro e w6 ⟨rfl, hB6⟩
                      have hB56 := below_step hB5 hB6
                      clear hB5 hB6
                      have hO2 := own_below hO.out hB56
                      rw [← hqq.out] at hO2
                      have hBq := below_step hB.out hB56
                      replace hO2 := Lib.hid hO2
                      replace hBq := Lib.hid hBq
                      go_wp2
                      go_roundw
                      case rel => exact ⟨k + 1, by go_num, by omega, hO2.out, hBq.out⟩
                      case measure => simp [intOf]; omega
                    | false =>
                      go_wp2_with fail
                      (with_reducible refine (d1.out _ (hL.out.below hB.out)).mono ?_)
                      rintro e w5 ⟨rfl, hB5⟩
                      have c1' := (hB5.cell (cell_lt c1)).trans c1
                      have c2' := (hB5.cell (cell_lt c2)).trans c2
                      have hB05 := below_step hB.out hB5
                      replace hB05 := Lib.hid hB05
                      go_wp2_with fail
                      (with_reducible refine (d2.out _ (hR.out.below hB05.out)).mono ?_)
                      rintro e w6 ⟨rfl, hB6⟩
                      have hB56 := below_step hB5 hB6
                      clear hB5 hB6
                      have hO2 := own_below hO.out hB56
                      have hBq := below_step hB.out hB56
                      have hpn := hstick.out (by rw [hstk.out]; simp)
                      rw [← stickTo_end (Nat.le_of_eq hpl.out)] at hpn
                      generalize placeL L R hl k = pl at *
                      have hqs := mkS_size q
                      have hql : q.length ≤ 1000000 := hpp.out _ (List.mem_of_getElem? hyk.out)
                      have hO2' : (w6).ownsRow w.heap.size 39 2 (.slice (some ⟨og, 0, none⟩) ak.length oc4) ak.length (actRow (stickTo pl k q (k + 1))) := by rw [stickTo_start]; exact hO2
                      replace hO2' := Lib.hid hO2'
                      replace hBq := Lib.hid hBq
                      replace hpn := Lib.hid hpn
                      replace hql := Lib.hid hql
                      clear hO2 hO hB hquiet hstick d1 d2
                      go_wp2_with fail
                      go_loopw [21] (fun i wr => ∃ m : Nat, i = .int .i64 m ∧ k + 1 ≤ m ∧ m ≤ ak.length ∧ wr.ownsRow w.heap.size 39 2 (.slice (some ⟨og, 0, none⟩) ak.length oc4) ak.length (actRow (stickTo pl k q m)) ∧ Below w.heap.size w wr) (fun i _ => ak.length - (intOf i).toNat)
                      case atStart => exact ⟨k + 1, by go_num, Nat.le_refl _, by omega, hO2'.out, hBq.out⟩
                      case round =>
                        clear hO2' hBq
                        obtain ⟨m, rfl, hkm, hmm, hO3, hB3⟩ := hrel
                        by_cases hlt3 : m < ak.length
                        · have hmp : m < pl.length := by rw [hpl.out]; exact hlt3
                          have hat := stickTo_at (k := k) (q := q) hmp
                          have hslf := stickTo_self (q := q) (j := m) hyk.out
                          obtain ⟨r1, r2⟩ := actRow_at _ _ _ hat
                          obtain ⟨r3, _⟩ := actRow_at _ _ _ hslf
                          obtain ⟨og', oc', hoe', _, _, _, _, hcs⟩ := own_at hO3 (by omega)
                          simp only [Value.slice.injEq, Option.some.injEq, Addr.mk.injEq, and_true, true_and] at hoe'
                          have hog := hoe'.1
                          rw [← hog] at hcs
                          clear hoe' hog
                          have e1 := hcs _ _ r1
                          have e2 := hcs _ _ r2
                          have e3 := hcs _ _ r3
                          have hyes := @stickTo_yes pl k q m hmp (by omega)
                          have hno := @stickTo_no pl k q m hmp
                          have hpy := hpp.out _ (List.getElem_mem hmp)
                          have hrow := actRow_set (stickTo pl k q m) m 0 pl[m].1 (fun y hy => by rw [hat] at hy; cases hy; rfl)
                          clear hcs r1 r2 r3
                          generalize pl[m] = y at *
                          obtain ⟨p, t2⟩ := y
                          dsimp only at *
                          have hps := mkS_size p
                          have hun := fun W => refunder_calls (mkS p) (mkS q) W (by omega) (by have := hql.out; omega)
                          rw [bl_mkS, bl_mkS] at hun
                          generalize under p q = u at *
                          have hki2 : (m : Int) < (ak.length : Int) := by omega
                          replace hat := Lib.hid hat
                          replace hslf := Lib.hid hslf
                          replace hyes := Lib.hid hyes
                          replace hno := Lib.hid hno
                          replace hpy := Lib.hid hpy
                          replace hrow := Lib.hid hrow
                          replace hun := Lib.hid hun
                          replace hO3 := Lib.hid hO3
                          replace hB3 := Lib.hid hB3
                          go_upto_region 27 with fail
                          have E1 := fun x : Gr wr => Gr.cell e1 x
                          have E3 := fun x : Gr wr => Gr.cell e3 x
                          refine wp_region_grow (by kernel_rfl) (by kernel_rfl) ?_
                          repeat (any_goals (first | go_big_quiet_step ((go_at_call 30; with_reducible exact grow_of _ (hun.out _))) | quiet_step ((go_at_call 30; with_reducible exact grow_of _ (hun.out _)))))
                          refine wpQuiet_nil ?_
                          rintro w7 ⟨⟨W7, hB7⟩, hW7⟩
                          obtain rfl : w7 = W7 := hW7
                          clear E1 E3
                          have hO7 := own_below hO3.out hB7
                          have hB07 := below_step hB3.out hB7
                          cases u with
                          | false =>
                            have hn := hno.out rfl
                            rw [← hn] at hO7
                            replace hn := Lib.hid hn
                            replace hO7 := Lib.hid hO7
                            replace hB07 := Lib.hid hB07
                            go_wp2
                            go_roundw
                            case rel => exact ⟨m + 1, by go_num, by omega, by omega, hO7.out, hB07.out⟩
                            case measure => simp [intOf]; omega
                          | true =>
                            have hn := hyes.out rfl
                            obtain ⟨_, cur, hcur⟩ := own_cells hO7 hov.out
                            have f5 : w7.frozen? ⟨og, m * 2 + 1, none⟩ = false := by simp [World.frozen?, hcur]
                            have e4 := (hB7.cell (cell_lt e2)).trans e2
                            have s1 := own_set hO7 hov.out (m * 2 + 1) (.int .i64 0)
                            rw [hrow.out, ← hn] at s1
                            have b1x := hB07.setCell (p := ⟨og, m * 2 + 1, none⟩) hob.out (.int .i64 0)
                            replace hn := Lib.hid hn
                            replace hcur := Lib.hid hcur
                            replace s1 := Lib.hid s1
                            replace b1x := Lib.hid b1x
                            replace hO7 := Lib.hid hO7
                            replace hB07 := Lib.hid hB07
                            clear hB7 e1 e2 e3
                            go_wp2
                            go_roundw
                            case rel => exact ⟨m + 1, by go_num, by omega, by omega, s1.out, b1x.out⟩
                            case measure => simp [intOf]; omega
                        · obtain rfl : m = ak.length := by omega
                          rw [← hpn.out] at hO3
                          replace hO3 := Lib.hid hO3
                          replace hB3 := Lib.hid hB3
                          go_wp2
                          go_roundw
                          case rel => exact ⟨k + 1, by go_num, by omega, hO3.out, hB3.out⟩
                          case measure => simp [intOf]; omega
                  | false =>
                    go_wp2_with fail
                    (with_reducible refine (d1.out _ (hL.out.below hB.out)).mono ?_)
                    rintro e w5 ⟨rfl, hB5⟩
                    have hO2 := own_below hO.out hB5
                    have hBq := below_step hB.out hB5
                    have hpn := hstick.out (by rw [hstk.out]; simp)
                    rw [← stickTo_end (Nat.le_of_eq hpl.out)] at hpn
                    generalize placeL L R hl k = pl at *
                    have hqs := mkS_size q
                    have hql : q.length ≤ 1000000 := hpp.out _ (List.mem_of_getElem? hyk.out)
                    have hO2' : (w5).ownsRow w.heap.size 39 2 (.slice (some ⟨og, 0, none⟩) ak.length oc4) ak.length (actRow (stickTo pl k q (k + 1))) := by rw [stickTo_start]; exact hO2
                    replace hO2' := Lib.hid hO2'
                    replace hBq := Lib.hid hBq
                    replace hpn := Lib.hid hpn
                    replace hql := Lib.hid hql
                    clear hO2 hO hB hquiet hstick d1 d2
                    go_wp2_with fail
                    go_loopw [21] (fun i wr => ∃ m : Nat, i = .int .i64 m ∧ k + 1 ≤ m ∧ m ≤ ak.length ∧ wr.ownsRow w.heap.size 39 2 (.slice (some ⟨og, 0, none⟩) ak.length oc4) ak.length (actRow (stickTo pl k q m)) ∧ Below w.heap.size w wr) (fun i _ => ak.length - (intOf i).toNat)
                    case atStart => exact ⟨k + 1, by go_num, Nat.le_refl _, by omega, hO2'.out, hBq.out⟩
                    case round =>
                      clear hO2' hBq
                      obtain ⟨m, rfl, hkm, hmm, hO3, hB3⟩ := hrel
                      by_cases hlt3 : m < ak.length
                      · have hmp : m < pl.length := by rw [hpl.out]; exact hlt3
                        have hat := stickTo_at (k := k) (q := q) hmp
                        have hslf := stickTo_self (q := q) (j := m) hyk.out
                        obtain ⟨r1, r2⟩ := actRow_at _ _ _ hat
                        obtain ⟨r3, _⟩ := actRow_at _ _ _ hslf
                        obtain ⟨og', oc', hoe', _, _, _, _, hcs⟩ := own_at hO3 (by omega)
                        simp only [Value.slice.injEq, Option.some.injEq, Addr.mk.injEq, and_true, true_and] at hoe'
                        have hog := hoe'.1
                        rw [← hog] at hcs
                        clear hoe' hog
                        have e1 := hcs _ _ r1
                        have e2 := hcs _ _ r2
                        have e3 := hcs _ _ r3
                        have hyes := @stickTo_yes pl k q m hmp (by omega)
                        have hno := @stickTo_no pl k q m hmp
                        have hpy := hpp.out _ (List.getElem_mem hmp)
                        have hrow := actRow_set (stickTo pl k q m) m 0 pl[m].1 (fun y hy => by rw [hat] at hy; cases hy; rfl)
                        clear hcs r1 r2 r3
                        generalize pl[m] = y at *
                        obtain ⟨p, t2⟩ := y
                        dsimp only at *
                        have hps := mkS_size p
                        have hun := fun W => refunder_calls (mkS p) (mkS q) W (by omega) (by have := hql.out; omega)
                        rw [bl_mkS, bl_mkS] at hun
                        generalize under p q = u at *
                        have hki2 : (m : Int) < (ak.length : Int) := by omega
                        replace hat := Lib.hid hat
                        replace hslf := Lib.hid hslf
                        replace hyes := Lib.hid hyes
                        replace hno := Lib.hid hno
                        replace hpy := Lib.hid hpy
                        replace hrow := Lib.hid hrow
                        replace hun := Lib.hid hun
                        replace hO3 := Lib.hid hO3
                        replace hB3 := Lib.hid hB3
                        go_upto_region 27 with fail
                        have E1 := fun x : Gr wr => Gr.cell e1 x
                        have E3 := fun x : Gr wr => Gr.cell e3 x
                        refine wp_region_grow (by kernel_rfl) (by kernel_rfl) ?_
                        repeat (any_goals (first | go_big_quiet_step ((go_at_call 30; with_reducible exact grow_of _ (hun.out _))) | quiet_step ((go_at_call 30; with_reducible exact grow_of _ (hun.out _)))))
                        refine wpQuiet_nil ?_
                        rintro w7 ⟨⟨W7, hB7⟩, hW7⟩
                        obtain rfl : w7 = W7 := hW7
                        clear E1 E3
                        have hO7 := own_below hO3.out hB7
                        have hB07 := below_step hB3.out hB7
                        cases u with
                        | false =>
                          have hn := hno.out rfl
                          rw [← hn] at hO7
                          replace hn := Lib.hid hn
                          replace hO7 := Lib.hid hO7
                          replace hB07 := Lib.hid hB07
                          go_wp2
                          go_roundw
                          case rel => exact ⟨m + 1, by go_num, by omega, by omega, hO7.out, hB07.out⟩
                          case measure => simp [intOf]; omega
                        | true =>
                          have hn := hyes.out rfl
                          obtain ⟨_, cur, hcur⟩ := own_cells hO7 hov.out
                          have f5 : w7.frozen? ⟨og, m * 2 + 1, none⟩ = false := by simp [World.frozen?, hcur]
                          have e4 := (hB7.cell (cell_lt e2)).trans e2
                          have s1 := own_set hO7 hov.out (m * 2 + 1) (.int .i64 0)
                          rw [hrow.out, ← hn] at s1
                          have b1x := hB07.setCell (p := ⟨og, m * 2 + 1, none⟩) hob.out (.int .i64 0)
                          replace hn := Lib.hid hn
                          replace hcur := Lib.hid hcur
                          replace s1 := Lib.hid s1
                          replace b1x := Lib.hid b1x
                          replace hO7 := Lib.hid hO7
                          replace hB07 := Lib.hid hB07
                          clear hB7 e1 e2 e3
                          go_wp2
                          go_roundw
                          case rel => exact ⟨m + 1, by go_num, by omega, by omega, s1.out, b1x.out⟩
                          case measure => simp [intOf]; omega
                      · obtain rfl : m = ak.length := by omega
                        rw [← hpn.out] at hO3
                        replace hO3 := Lib.hid hO3
                        replace hB3 := Lib.hid hB3
                        go_wp2
                        go_roundw
                        case rel => exact ⟨k + 1, by go_num, by omega, hO3.out, hB3.out⟩
                        case measure => simp [intOf]; omega
                · have z0 : (t != 0) = true := by simpa using ht
                  have hqq := hquiet.out (by rw [hstk.out]; simp [ht])
                  have hO2 := hO.out
                  rw [← hqq] at hO2
                  replace hqq := Lib.hid hqq
                  replace hO2 := Lib.hid hO2
                  replace ht := Lib.hid ht
                  go_wp2
                  go_roundw
                  case rel => exact ⟨k + 1, by go_num, by omega, hO2.out, hB.out⟩
                  case measure => simp [intOf]; omega
              · obtain rfl : k = ak.length := by omega
                have hfin : placeL L R hl ak.length = markL L R hl := by
                  rw [← hhl.out]
                  exact placeL_end L R hl
                have hml : (markL L R hl).length = ak.length := by
                  rw [← hfin, placeL, List.length_mapIdx]
                  exact hhl.out
                rw [hfin] at hO
                replace hO := Lib.hid hO
                replace hB := Lib.hid hB
                replace hfin := Lib.hid hfin
                replace hml := Lib.hid hml
                go_wp2
                go_ret2
                refine ⟨⟨.slice oA4 ak.length oc4, by rw [hpe2.out]; rfl, ?_⟩, hB.out⟩
                rw [hpe2.out]
                dsimp only
                rw [hml.out]
                exact hO.out

end Go.Proofs.Ytcjlfkklpghjbaa

namespace Go.Proofs.Ytcjlfkklpghjbaa
open Go.RowKit

theorem under_states : Try.prog.underlying 54 = some (.map 9 59) := by kernel_rfl
theorem under_wishes : Try.prog.underlying 56 = some (.map 9 3) := by kernel_rfl
theorem zero_pent (w : World) : (zeroValue 59).run Try.prog w = .ok (.pointer none) w := by kernel_rfl
theorem zero_int0 (w : World) : (zeroValue 3).run Try.prog w = .ok (.int .i64 0) w := by kernel_rfl

def entB (x : Ent) : Obj := .cells (entCells x).toArray 35 (0, 0)
/-- v points to an entry; nil: to none. -/
def PtrE (W : World) (v : Value) (o : Option Ent) : Prop :=
  match o with
  | none => v = .pointer none
  | some x => ∃ g, v = ptr g ∧ W.heap[g]? = some (entB x)

theorem PtrE.below {W W' : World} {v : Value} {o : Option Ent} (h : PtrE W v o) (hb : Below W.heap.size W W') : PtrE W' v o := by
  cases o with
  | none => exact h
  | some x =>
    obtain ⟨g, h1, h2⟩ := h
    exact ⟨g, h1, (hb.block g (Array.getElem?_eq_some_iff.1 h2).1).trans h2⟩

def stE (A : Bytes → Nat) (l : List Ent) : List (Value × Value) := l.map fun x => (.string (mkS x.path), ptr (A x.path))
/-- Block b is the map of a list's entries by their paths. -/
def States (W : World) (b : Nat) (l : List Ent) : Prop := ∃ A : Bytes → Nat, MapIs W b (stE A l) ∧ ∀ x ∈ l, W.heap[A x.path]? = some (entB x)

theorem States.below {W W' : World} {b : Nat} {l : List Ent} (h : States W b l) (hb : Below W.heap.size W W') : States W' b l := by
  obtain ⟨A, h1, h2⟩ := h
  exact ⟨A, h1.of_block (hb.block _ h1.lt), fun x hx => (hb.block _ (Array.getElem?_eq_some_iff.1 (h2 x hx)).1).trans (h2 x hx)⟩
theorem States.lt {W : World} {b : Nat} {l : List Ent} (h : States W b l) : b < W.heap.size := by
  obtain ⟨A, h1, _⟩ := h
  exact h1.lt

theorem strings_key {α : Type} (W : World) (s : ByteArray) (l : List α) (f : α → Bytes) (g : α → Value) : Keyable Try.prog 9 W (.string s) ((l.map fun x => (Value.string (mkS (f x)), g x)).map (·.1)) :=
  keyable_string Try.underlying9 W s (fun v hv => by
    rw [List.map_map] at hv
    obtain ⟨p, _, rfl⟩ := List.mem_map.1 hv
    exact ⟨_, rfl⟩)

/-- A path looked for among states: in every world that only grew. -/
theorem st_look {W : World} {b : Nat} {l : List Ent} (h : States W b l) (p : Bytes) :
    ∃ v, PtrE W v (entAt l p) ∧ ∀ W', Below W.heap.size W W' → (Instr.lookup 54 (.map (some b)) (.string (mkS p)) false).run Try.prog W' = .ok v W' := by
  obtain ⟨A, h1, h2⟩ := h
  cases he : entAt l p with
  | none =>
    exact ⟨_, rfl, fun W' hb => (h1.of_block (hb.block _ h1.lt)).look_miss under_states (strings_key W' (mkS p) l (·.path) _) (fun q hq e => by
      obtain ⟨x, hx, rfl⟩ := List.mem_map.1 hq
      simp only [Value.string.injEq] at e
      exact entAt_none he x hx (mkS_inj e)) (zero_pent W') false⟩
  | some x =>
    obtain ⟨hx, rfl⟩ := entAt_some he
    exact ⟨_, ⟨A x.path, rfl, h2 x hx⟩, fun W' hb => (h1.of_block (hb.block _ h1.lt)).look_hit under_states (strings_key W' (mkS x.path) l (·.path) _) (v := ptr (A x.path)) (List.mem_map.2 ⟨x, hx, rfl⟩) false⟩

/-- A look-up of a quiet region. -/
theorem quiet_lookup {P : Program} {C : World → Prop} {a : Act} {o : Oper} {K : Act → Prop} (m x : Operand) (t : TypeId) (c : Bool) (hop : o.op = Op.lookup t m x c) (mv key v : Value) (hm : a.eval m = mv) (hx : a.eval x = key)
    (hrun : ∀ W, C W → (Instr.lookup t mv key c).run P W = .ok v W) (hk : K (a.put o.dst v)) : o.quiet P a C K :=
  ⟨v, fun W hW => by
    unfold Oper.quietAt
    have : (execOp a.eval o).run P W = .ok (.value v) W := by simp [execOp, hop, hm, hx, hrun W hW, Result.andThen]
    rw [this]
    exact ⟨rfl, rfl⟩, hk⟩

/-- One entry more, its path new. -/
theorem st_store {W : World} {b g : Nat} {l : List Ent} {x : Ent} (h : States W b l) (hg : W.heap[g]? = some (entB x)) (hx : ∀ y ∈ l, y.path ≠ x.path) :
    ∃ W', (Instr.mapUpdate 54 (.map (some b)) (.string (mkS x.path)) (ptr g)).run Try.prog W = .ok () W' ∧ States W' b (x :: l) ∧ W.grownBy W' (some b) := by
  obtain ⟨A, h1, h2⟩ := h
  obtain ⟨W', r1, r2, r3⟩ := h1.store_new under_states (v := ptr g) (strings_key W (mkS x.path) l (·.path) _) (fun q hq e => by
    obtain ⟨y, hy, rfl⟩ := List.mem_map.1 hq
    simp only [Value.string.injEq] at e
    exact hx y hy (mkS_inj e))
  obtain ⟨es, clock, hb, _⟩ := h1
  have hne : ∀ c y, W.heap[c]? = some (entB y) → some c ≠ some b := fun c y hc e => by
    cases e
    rw [hb] at hc
    cases hc
  refine ⟨W', r1, ⟨fun q => if q = x.path then g else A q, r2.perm (List.Perm.of_eq ?_), fun y hy => ?_⟩, r3.grown⟩
  · unfold stE
    rw [List.map_cons]
    dsimp only
    rw [if_pos rfl]
    congr 1
    refine List.map_congr_left fun y hy => ?_
    rw [if_neg (hx y hy)]
  · dsimp only
    rcases List.mem_cons.1 hy with rfl | hy
    · rw [if_pos rfl]
      exact (r3.grown.block g (Array.getElem?_eq_some_iff.1 hg).1 (hne _ _ hg)).trans hg
    · rw [if_neg (hx y hy)]
      exact (r3.grown.block _ (Array.getElem?_eq_some_iff.1 (h2 y hy)).1 (hne _ _ (h2 y hy))).trans (h2 y hy)

/-! ### paths to ints -/

def intE (l : Acts44) : List (Value × Value) := l.map fun y => (.string (mkS y.1), .int .i64 y.2)
/-- The first act of a path. -/
def actAt (l : Acts44) (p : Bytes) : Option Int := (l.find? fun y => decide (y.1 = p)).map (·.2)
theorem actAt_some {l : Acts44} {p : Bytes} {t : Int} (h : actAt l p = some t) : (p, t) ∈ l := by
  unfold actAt at h
  obtain ⟨y, hy, rfl⟩ := Option.map_eq_some_iff.1 h
  have h1 := List.mem_of_find?_eq_some hy
  have h2 : y.1 = p := by simpa using List.find?_some hy
  rw [← h2]
  exact h1
theorem actAt_none {l : Acts44} {p : Bytes} (h : actAt l p = none) : ∀ y ∈ l, y.1 ≠ p := by
  unfold actAt at h
  rw [Option.map_eq_none_iff, List.find?_eq_none] at h
  intro y hy
  simpa using h y hy
theorem actAt_of {l : Acts44} (hn : (l.map (·.1)).Nodup) {y : Bytes × Int} (hy : y ∈ l) : actAt l y.1 = some y.2 := by
  cases h : actAt l y.1 with
  | none => exact absurd rfl (actAt_none h y hy)
  | some t =>
    have hm := actAt_some h
    induction l with
    | nil => cases hy
    | cons z l ih =>
      obtain ⟨h1, h2⟩ := List.nodup_cons.1 hn
      rcases List.mem_cons.1 hy with rfl | hy'
      · rcases List.mem_cons.1 hm with e | hm'
        · rw [← e]
        · exact absurd (List.mem_map.2 ⟨_, hm', rfl⟩) h1
      · rcases List.mem_cons.1 hm with e | hm'
        · rw [← e] at h1
          exact absurd (List.mem_map.2 ⟨_, hy', rfl⟩) h1
        · have hne : z.1 ≠ y.1 := fun e => h1 (by dsimp only; rw [e]; exact List.mem_map.2 ⟨_, hy', rfl⟩)
          refine ih h2 hy' ?_ hm'
          unfold actAt at h ⊢
          rw [List.find?_cons_of_neg (by simpa using hne)] at h
          exact h

theorem int_look {W : World} {b : Nat} {l : Acts44} (h : MapIs W b (intE l)) (p : Bytes) :
    (Instr.lookup 56 (.map (some b)) (.string (mkS p)) false).run Try.prog W = .ok (.int .i64 ((actAt l p).getD 0)) W := by
  cases he : actAt l p with
  | none =>
    exact h.look_miss under_wishes (strings_key W (mkS p) l (·.1) _) (fun q hq e => by
      obtain ⟨x, hx, rfl⟩ := List.mem_map.1 hq
      simp only [Value.string.injEq] at e
      exact actAt_none he x hx (mkS_inj e)) (zero_int0 W) false
  | some t =>
    exact h.look_hit under_wishes (strings_key W (mkS p) l (·.1) _) (v := .int .i64 t) (List.mem_map.2 ⟨(p, t), actAt_some he, rfl⟩) false
theorem int_look2 {W : World} {b : Nat} {l : Acts44} (h : MapIs W b (intE l)) (p : Bytes) :
    (Instr.lookup 56 (.map (some b)) (.string (mkS p)) true).run Try.prog W = .ok (.tuple #[.int .i64 ((actAt l p).getD 0), .bool (actAt l p).isSome]) W := by
  cases he : actAt l p with
  | none =>
    exact h.look_miss under_wishes (strings_key W (mkS p) l (·.1) _) (fun q hq e => by
      obtain ⟨x, hx, rfl⟩ := List.mem_map.1 hq
      simp only [Value.string.injEq] at e
      exact actAt_none he x hx (mkS_inj e)) (zero_int0 W) true
  | some t =>
    exact h.look_hit under_wishes (strings_key W (mkS p) l (·.1) _) (v := .int .i64 t) (List.mem_map.2 ⟨(p, t), actAt_some he, rfl⟩) true
theorem int_new {W : World} {b : Nat} {l : Acts44} (h : MapIs W b (intE l)) (p : Bytes) (t : Int) (hp : ∀ y ∈ l, y.1 ≠ p) :
    ∃ W', (Instr.mapUpdate 56 (.map (some b)) (.string (mkS p)) (.int .i64 t)).run Try.prog W = .ok () W' ∧ MapIs W' b (intE (l ++ [(p, t)])) ∧ W.grownBy W' (some b) := by
  obtain ⟨W', r1, r2, r3⟩ := h.store_new under_wishes (v := .int .i64 t) (strings_key W (mkS p) l (·.1) _) (fun q hq e => by
    obtain ⟨y, hy, rfl⟩ := List.mem_map.1 hq
    simp only [Value.string.injEq] at e
    exact hp y hy (mkS_inj e))
  refine ⟨W', r1, r2.perm ?_, r3.grown⟩
  unfold intE
  rw [List.map_append]
  exact List.perm_append_singleton _ _
/-- The last one's number is written anew. -/
theorem int_last {W : World} {b : Nat} {l : Acts44} {p : Bytes} {t : Int} (h : MapIs W b (intE (l ++ [(p, t)]))) (t2 : Int) :
    ∃ W', (Instr.mapUpdate 56 (.map (some b)) (.string (mkS p)) (.int .i64 t2)).run Try.prog W = .ok () W' ∧ MapIs W' b (intE (l ++ [(p, t2)])) ∧ W.grownBy W' (some b) := by
  have hp : ∀ t, (intE (l ++ [(p, t)])).Perm ((.string (mkS p), .int .i64 t) :: intE l) := fun t => by
    unfold intE
    rw [List.map_append]
    exact List.perm_append_singleton _ _
  obtain ⟨W', r1, r2, r3⟩ := h.store_old under_wishes (v := .int .i64 t2) (strings_key W (mkS p) (l ++ [(p, t)]) (·.1) _) (hp t)
  exact ⟨W', r1, r2.perm (hp t2), r3.grown⟩

end Go.Proofs.Ytcjlfkklpghjbaa

namespace Go.Proofs.Ytcjlfkklpghjbaa
open Go.RowKit

theorem rise_drop {l : List Ent} (h : Rise l) {m : Nat} (hm : m < l.length) : ∀ y ∈ l.drop (m + 1), y.path ≠ l[m].path := by
  have h2 : Rise (l.drop m) := List.Pairwise.sublist (List.drop_sublist m l) h
  rw [List.drop_eq_getElem_cons hm] at h2
  intro y hy e
  exact lessP_ne ((List.pairwise_cons.1 h2).1 y hy) e.symm

set_option maxHeartbeats 4000000 in
set_option maxRecDepth 100000 in
theorem of_calls (v : Value) (l : List Ent) (w : World) (hv : Ents w v l) (hr : Rise l) (hl : l.length ≤ 1000000) :
    Calls Try.prog 16 #[v] w fun e w' => (∃ b, e = .returned (.map (some b)) ∧ w.heap.size ≤ b ∧ States w' b l) ∧ Below w.heap.size w w' := by
  obtain ⟨A, c, rfl, h2, h3⟩ := hv.shape
  unfold maxLen at h3
  have hmk := @run_makeMap Try.prog
  have hm0 : States (w.alloc (.map #[] 0)) w.heap.size (l.drop l.length) := by
    rw [List.drop_length]
    exact ⟨fun _ => 0, mapIs_made w, by simp⟩
  have hB0 : Below w.heap.size w (w.alloc (.map #[] 0)) := below_alloc (Below.refl _ _) _
  replace hv := Lib.hid hv
  replace hm0 := Lib.hid hm0
  replace hB0 := Lib.hid hB0
  go_enter Try.func16, Try.ntmps16
  go_wp2_with fail
  go_loopw [4] (fun i wr => ∃ (k : Nat) (j : Int), i = .int .i64 j ∧ j = (k : Int) - 1 ∧ k ≤ l.length ∧ States wr w.heap.size (l.drop k) ∧ Below w.heap.size w wr) (fun i _ => (intOf i + 1).toNat)
  case atStart => exact ⟨l.length, _, rfl, by first | rfl | (rw [IntWalk.i64_in _ (by omega)]), Nat.le_refl _, hm0.out, hB0.out⟩
  case round =>
    clear hm0 hB0 hmk
    obtain ⟨k, j, rfl, hj, hk, hS, hB⟩ := hrel
    by_cases h0 : k = 0
    · have hjn : ¬ (0 ≤ j) := by omega
      subst h0
      rw [List.drop_zero] at hS
      replace hj := Lib.hid hj
      replace hS := Lib.hid hS
      replace hB := Lib.hid hB
      go_wp2
      go_ret
      exact ⟨⟨_, rfl, Nat.le_refl _, hS.out⟩, hB.out⟩
    · obtain ⟨m, rfl⟩ : ∃ m, k = m + 1 := ⟨k - 1, by omega⟩
      obtain rfl : j = (m : Int) := by omega
      have hlt : m < l.length := by omega
      obtain ⟨g, o, rfl, c0, c1, c2, c3, c4, c5, c6, c7, c8, c9, c10⟩ := (hv.out.below hB).at hlt
      have hdr := List.drop_eq_getElem_cons hlt
      have hne := rise_drop hr hlt
      generalize l[m] = x at *
      obtain ⟨p, kd, sz, ⟨m1, m2, m3, m4, m5⟩, tg, sm, gr⟩ := x
      dsimp only at *
      have hki : (m : Int) < (l.length : Int) := by omega
      have hB2 := below_alloc hB (.cells #[.string (mkS p), .int .i64 kd, .int .i64 sz, .int .i64 m1, .int .i64 m2, .int .i64 m3, .int .i64 m4, .int .i64 m5, .string (mkS tg), .string (mkS sm), .int .i64 gr] 35)
      have hBr := below_alloc (Below.refl wr.heap.size wr) (.cells #[.string (mkS p), .int .i64 kd, .int .i64 sz, .int .i64 m1, .int .i64 m2, .int .i64 m3, .int .i64 m4, .int .i64 m5, .string (mkS tg), .string (mkS sm), .int .i64 gr] 35)
      have hblk := (MapKept.heap_alloc wr (.cells #[.string (mkS p), .int .i64 kd, .int .i64 sz, .int .i64 m1, .int .i64 m2, .int .i64 m3, .int .i64 m4, .int .i64 m5, .string (mkS tg), .string (mkS sm), .int .i64 gr] 35)).1
      obtain ⟨w5, hsto, hS5, hg5⟩ := st_store (x := ⟨p, kd, sz, ⟨m1, m2, m3, m4, m5⟩, tg, sm, gr⟩) (hS.below hBr) hblk hne
      have hB5 := hB2.grown hg5 hB2.size (fun j hj => by cases hj; exact Nat.le_refl _)
      rw [← hdr] at hS5
      unfold ptr at hsto
      dsimp only at hsto
      have d0 := cell_of (j := 0) hblk rfl
      replace hj := Lib.hid hj
      replace hB := Lib.hid hB
      replace hS := Lib.hid hS
      replace hdr := Lib.hid hdr
      replace hne := Lib.hid hne
      replace hB2 := Lib.hid hB2
      replace hBr := Lib.hid hBr
      replace hblk := Lib.hid hblk
      replace hsto := Lib.hid hsto
      replace hS5 := Lib.hid hS5
      replace hB5 := Lib.hid hB5
      clear hg5
      go_wp2_with (at_mapUpdate; refine wp_store _ rfl _ _ _ 54 rfl (.map (some w.heap.size)) (.string (mkS p)) (.pointer (some ⟨wr.heap.size, 0, none⟩)) rfl rfl rfl w5 hsto.out ?_)
      go_roundw
      case rel => exact ⟨m, _, rfl, by first | rfl | omega | (rw [IntWalk.i64_in _ (by omega)]), by omega, hS5.out, hB5.out⟩
      case measure => simp [intOf] <;> omega

end Go.Proofs.Ytcjlfkklpghjbaa

namespace Go.Proofs.Ytcjlfkklpghjbaa
open Go.RowKit


theorem met_look {W : World} {db : Nat} {o : List Bytes} (p : Bytes) (h : MapIs W db (dirsE o)) :
    (Instr.lookup 72 (.map (some db)) (.string (mkS p)) false).run Try.prog W = .ok (.bool (decide (p ∈ o))) W := by
  by_cases hd : p ∈ o
  · have := h.look_hit under_dirs (string_key W (mkS p) _) (v := .bool true) (List.mem_map.2 ⟨p, hd, rfl⟩) false
    rw [decide_eq_true hd]
    exact this
  · have := h.look_miss under_dirs (string_key W (mkS p) _) (fun q hq e => by
      obtain ⟨p', hp, rfl⟩ := List.mem_map.1 hq
      simp only [Value.string.injEq] at e
      rw [mkS_inj e] at hp
      exact hd hp) (zero_bool W) false
    rw [decide_eq_false hd]
    exact this

/-- An own row's block is no map's, and no iterator's. -/
theorem own_ne_map {W : World} {B : Nat} {t : TypeId} {sz n : Nat} {v : Value} {xs : List Value} {mb : Nat} {l : List (Value × Value)} (h : W.ownsRow B t sz v n xs) (hm : MapIs W mb l) : ∀ b, v.ownBlock = some b → some b ≠ some mb := by
  intro b hb e
  cases e
  obtain ⟨_, cur, hc⟩ := own_cells h hb
  obtain ⟨es, clock, h1, _⟩ := hm
  rw [h1] at hc
  cases hc
theorem own_ne_iter {W : World} {B : Nat} {t : TypeId} {sz n : Nat} {v : Value} {xs : List Value} {mb r : Nat} {l left : List (Value × Value)} (h : W.ownsRow B t sz v n xs) (hm : Ranges W mb r l left) : ∀ b, v.ownBlock = some b → some b ≠ some r := by
  intro b hb e
  cases e
  obtain ⟨_, cur, hc⟩ := own_cells h hb
  obtain ⟨es, clock, since, seen, c0, _, _, _, h1, _⟩ := hm
  rw [h1] at hc
  cases hc

theorem stE_pick {A : Bytes → Nat} {L : List Ent} {left left' : List (Value × Value)} {x v : Value} (h : left.Perm (stE A L)) (k : left.Perm ((x, v) :: left')) :
    ∃ y L', L.Perm (y :: L') ∧ x = .string (mkS y.path) ∧ v = ptr (A y.path) ∧ left'.Perm (stE A L') := by
  have hm : (x, v) ∈ stE A L := (k.symm.trans h).mem_iff.1 (List.mem_cons_self ..)
  obtain ⟨y, hy, he⟩ := List.mem_map.1 hm
  simp only [Prod.mk.injEq] at he
  obtain ⟨s, t, rfl⟩ := List.append_of_mem hy
  refine ⟨y, s ++ t, List.perm_middle, he.1.symm, he.2.symm, ?_⟩
  have h1 : (stE A (s ++ y :: t)).Perm ((x, v) :: stE A (s ++ t)) := by
    have : stE A (s ++ y :: t) = stE A s ++ (x, v) :: stE A t := by simp [stE, he.1, he.2]
    rw [this]
    refine List.perm_middle.trans ?_
    simp [stE]
  exact (List.perm_cons _).1 (k.symm.trans (h.trans h1))
theorem stE_nil {A : Bytes → Nat} {L : List Ent} (h : ([] : List (Value × Value)).Perm (stE A L)) : L = [] := by
  have := h.symm.eq_nil
  simpa [stE] using this

/-- The paths met: of the first lists, and of some entries. -/
structure Met (Ls : List (List Ent)) (k : Nat) (done : List Ent) (o : List Bytes) : Prop where
  nodup : o.Nodup
  mem : ∀ x, x ∈ o ↔ (∃ L ∈ Ls.take k, x ∈ entPaths L) ∨ x ∈ entPaths done
theorem met_nil (Ls : List (List Ent)) : Met Ls 0 [] [] := ⟨List.nodup_nil, by simp [entPaths]⟩
theorem Met.old {Ls : List (List Ent)} {k : Nat} {done : List Ent} {o : List Bytes} (h : Met Ls k done o) {y : Ent} (hy : y.path ∈ o) : Met Ls k (done ++ [y]) o := ⟨h.nodup, fun x => by
  rw [h.mem]
  unfold entPaths
  rw [List.map_append, List.mem_append]
  constructor
  · rintro (h1 | h1)
    · exact Or.inl h1
    · exact Or.inr (Or.inl h1)
  · rintro (h1 | h1 | h1)
    · exact Or.inl h1
    · exact Or.inr h1
    · simp only [List.map_cons, List.map_nil, List.mem_singleton] at h1
      subst h1
      exact (h.mem _).1 hy⟩
theorem Met.new {Ls : List (List Ent)} {k : Nat} {done : List Ent} {o : List Bytes} (h : Met Ls k done o) {y : Ent} (hy : y.path ∉ o) : Met Ls k (done ++ [y]) (o ++ [y.path]) := ⟨by
  rw [List.nodup_append]
  exact ⟨h.nodup, by simp, fun a ha b hb => by simp only [List.mem_singleton] at hb; rintro rfl; exact hy (hb ▸ ha)⟩, fun x => by
  rw [List.mem_append, h.mem]
  unfold entPaths
  rw [List.map_append, List.mem_append]
  simp only [List.map_cons, List.map_nil, List.mem_singleton]
  exact or_assoc⟩
theorem Met.next {Ls : List (List Ent)} {k : Nat} {L done : List Ent} {o : List Bytes} (h : Met Ls k done o) (hk : Ls[k]? = some L) (hd : L.Perm done) : Met Ls (k + 1) [] o := ⟨h.nodup, fun x => by
  rw [h.mem]
  obtain ⟨hlt, rfl⟩ := List.getElem?_eq_some_iff.1 hk
  rw [List.take_succ_eq_append_getElem hlt]
  have : x ∈ entPaths done ↔ x ∈ entPaths Ls[k] := (hd.map (·.path)).mem_iff.symm
  simp only [List.mem_append, List.mem_singleton, entPaths, List.map_nil, List.not_mem_nil, or_false] at this ⊢
  rw [this]
  constructor
  · rintro (⟨L, h1, h2⟩ | h1)
    · exact ⟨L, Or.inl h1, h2⟩
    · exact ⟨_, Or.inr rfl, h1⟩
  · rintro ⟨L, h1 | rfl, h2⟩
    · exact Or.inl ⟨L, h1, h2⟩
    · exact Or.inr h2⟩
theorem Met.from {Ls : List (List Ent)} {k : Nat} {done : List Ent} {o : List Bytes} (h : Met Ls k done o) (hd : ∀ y ∈ done, y ∈ Ls.flatten) : ∀ x ∈ o, x ∈ entPaths Ls.flatten := fun x hx => by
  rcases (h.mem x).1 hx with ⟨L, h1, h2⟩ | h1
  · obtain ⟨y, hy, rfl⟩ := List.mem_map.1 h2
    exact List.mem_map.2 ⟨y, List.mem_flatten.2 ⟨L, List.mem_of_mem_take h1, hy⟩, rfl⟩
  · obtain ⟨y, hy, rfl⟩ := List.mem_map.1 h1
    exact List.mem_map.2 ⟨y, hd y hy, rfl⟩
theorem Met.few {Ls : List (List Ent)} {k : Nat} {done : List Ent} {o : List Bytes} (h : Met Ls k done o) (hd : ∀ y ∈ done, y ∈ Ls.flatten) : o.length ≤ Ls.flatten.length := by
  have := List.Nodup.length_le_of_subset h.nodup (fun x hx => h.from hd x hx)
  unfold entPaths at this
  rwa [List.length_map] at this

set_option maxHeartbeats 8000000 in
set_option maxRecDepth 100000 in
theorem rsorted_calls (g0 : Nat) (Bs : List Nat) (Ls : List (List Ent)) (w : World) (hn : Bs.length = Ls.length) (hl2 : Bs.length ≤ 1000) (hb : ∀ k B L, Bs[k]? = some B → Ls[k]? = some L → w.cell? ⟨g0, k, none⟩ = some (.map (some B)) ∧ States w B L) (hlen : Ls.flatten.length ≤ 1000000) (hp : ∀ y ∈ Ls.flatten, y.path.length ≤ 16777216) :
    Calls Try.prog 17 #[.slice (some ⟨g0, 0, none⟩) Bs.length Bs.length] w fun e w' => (∃ v' o, e = .returned v' ∧ Met Ls Ls.length [] o ∧ Strs w.heap.size w' v' (sortP o)) ∧ Below w.heap.size w w' := by
  have hmk := @run_makeMap Try.prog
  have hm0 : MapIs (w.alloc (.map #[] 0)) w.heap.size (dirsE []) := mapIs_made w
  have hB0 : Below w.heap.size w (w.alloc (.map #[] 0)) := below_alloc (Below.refl _ _) _
  have hnil : (w.alloc (.map #[] 0)).ownsRow w.heap.size 9 1 (.slice none 0 0) 0 [] := ⟨rfl, Or.inl ⟨rfl, rfl⟩⟩
  replace hm0 := Lib.hid hm0
  replace hB0 := Lib.hid hB0
  replace hnil := Lib.hid hnil
  replace hb := Lib.hid hb
  replace hp := Lib.hid hp
  replace hn := Lib.hid hn
  go_enter Try.func17, Try.ntmps17
  go_wp2_with fail
  go_loopw [4, 11] (fun out i wr => ∃ (k : Nat) (o : List Bytes), i = .int .i64 k ∧ k ≤ Bs.length ∧ Met Ls k [] o ∧ MapIs wr w.heap.size (dirsE o) ∧ Strs w.heap.size wr out o ∧ Below w.heap.size w wr) (fun _ i _ => Bs.length - (intOf i).toNat)
  case atStart => exact ⟨0, [], rfl, Nat.zero_le _, met_nil Ls, hm0.out, hnil.out, hB0.out⟩
  case round =>
    clear hm0 hB0 hnil hmk
    obtain ⟨k, o, rfl, hk, hMt, hM, hS, hB⟩ := hrel
    obtain ⟨oA, oc, ho, hc1, hc2⟩ := own_shape hS.own
    subst ho
    unfold maxLen at hc2
    by_cases hlt : k < Bs.length
    · have hkl : k < Ls.length := by rw [← hn.out]; exact hlt
      obtain ⟨b0, hSt⟩ := hb.out k Bs[k] Ls[k] (List.getElem?_eq_getElem hlt) (List.getElem?_eq_getElem hkl)
      have hLk : Ls[k]? = some Ls[k] := List.getElem?_eq_getElem hkl
      have hLf : ∀ y ∈ Ls[k], y ∈ Ls.flatten := fun y hy => List.mem_flatten.2 ⟨_, List.getElem_mem hkl, hy⟩
      have bx := (hB.cell (cell_lt b0)).trans b0
      have hblt := hSt.lt
      have hSt' := hSt.below hB
      generalize Bs[k] = bb at *
      generalize Ls[k] = L at *
      obtain ⟨A, hMA, _⟩ := hSt'
      have hki : (k : Int) < (Bs.length : Int) := by omega
      have hmbr := hM.lt
      replace hLk := Lib.hid hLk
      replace hLf := Lib.hid hLf
      replace hMA := Lib.hid hMA
      replace hMt := Lib.hid hMt
      replace hM := Lib.hid hM
      replace hS := Lib.hid hS
      replace hB := Lib.hid hB
      replace hSt := Lib.hid hSt
      replace hblt := Lib.hid hblt
      replace hmbr := Lib.hid hmbr
      clear b0
      go_wp2_with (at_range; refine wp_range _ rfl _ 54 rfl 9 59 under_states bb _ rfl hMA.out ?_)
      intro w1 hrg1 hg1 hs1
      have hM1 := hM.out.kept hg1 (by simp)
      have hS1 : Strs w.heap.size w1 (.slice oA o.length oc) o := own_kept hS.out hg1 (fun b hb => by simp)
      have hB1 : Below w.heap.size w w1 := hB.out.grown hg1 hB.out.size (fun j hj => by cases hj)
      generalize wr.heap.size = r at *
      replace hM1 := Lib.hid hM1
      replace hS1 := Lib.hid hS1
      replace hB1 := Lib.hid hB1
      replace hrg1 := Lib.hid hrg1
      clear hM hS hB hg1 hs1 hMA bx
      go_wp2_with fail
      try go_frame
      go_loopw [4, 7] (fun out x wr => ∃ (o : List Bytes) (done leftK : List Ent) (left : List (Value × Value)), Met Ls k done o ∧ MapIs wr w.heap.size (dirsE o) ∧ Strs w.heap.size wr out o ∧ Below w.heap.size w wr ∧ Ranges wr bb r (stE A L) left ∧ left.Perm (stE A leftK) ∧ L.Perm (done ++ leftK)) (fun _ _ wr => wr.rangeLeft bb r)
      case atStart => exact ⟨o, [], L, _, hMt.out, hM1.out, hS1.out, hB1.out, hrg1.out, .refl _, .refl _⟩
      case round =>
        clear hM1 hS1 hB1 hrg1 hMt hc1 hc2
        obtain ⟨o, done, leftK, left, hMt, hM, hS, hB, hrg, hL, hK⟩ := hrel
        obtain ⟨oA, oc, ho, hc1, hc2⟩ := own_shape hS.own
        subst ho
        unfold maxLen at hc2
        replace hMt := Lib.hid hMt
        replace hM := Lib.hid hM
        replace hS := Lib.hid hS
        replace hB := Lib.hid hB
        replace hL := Lib.hid hL
        replace hK := Lib.hid hK
        go_wp2_with (at_next; refine wp_next _ rfl _ rfl bb r _ _ rfl hrg ?_ ?_)
        · intro hl0
          have hLK : leftK = [] := stE_nil (A := A) (by have := hL.out; rwa [hl0] at this)
          have hLd : L.Perm done := by
            have := hK.out
            rwa [hLK, List.append_nil] at this
          have hMt2 := hMt.out.next hLk.out hLd
          replace hMt2 := Lib.hid hMt2
          clear hrg hl0 hLK hLd
          go_wp2
          go_roundw
          case rel => exact ⟨k + 1, o, by go_num, by omega, hMt2.out, hM.out, hS.out, hB.out⟩
          case measure => simp [intOf]; omega
        · intro x v left' w2 hp2 hmem hrg2 hg2 hs2 hen
          obtain ⟨y, L', hL1, rfl, rfl, hL2⟩ := stE_pick hL.out hp2
          have hK2 : L.Perm ((done ++ [y]) ++ L') := hK.out.trans (by simpa using hL1.append_left done)
          have hyL : y ∈ L := hK2.mem_iff.2 (by simp)
          have hS2 : Strs w.heap.size w2 (.slice oA o.length oc) o := own_kept hS.out hg2 (own_ne_iter hS.out hrg)
          have hM2 := hM.out.kept hg2 (by intro e; cases e; have := hmbr.out; omega)
          have hB2 : Below w.heap.size w w2 := hB.out.grown hg2 hB.out.size (fun b hb => by cases hb; have := hmbr.out; omega)
          have hmeas : wr.rangeLeft bb r = left.length := hrg.left_eq
          have hllt : left'.length < left.length := by have := hp2.length_eq; simp at this; omega
          have hlk := met_look y.path hM2
          have hfew := hMt.out.few (fun z hz => hLf.out z (hK2.mem_iff.2 (by simp [hz])))
          unfold ptr at hen
          replace hK2 := Lib.hid hK2
          replace hL2 := Lib.hid hL2
          replace hmeas := Lib.hid hmeas
          replace hyL := Lib.hid hyL
          replace hS2 := Lib.hid hS2
          replace hM2 := Lib.hid hM2
          replace hB2 := Lib.hid hB2
          clear hK hL hL1 hp2 hmem hrg hS hM hB hg2 hs2
          by_cases hin : y.path ∈ o
          · have hMt2 := hMt.out.old hin
            rw [decide_eq_true hin] at hlk
            generalize y.path = q at *
            replace hMt2 := Lib.hid hMt2
            replace hlk := Lib.hid hlk
            replace hin := Lib.hid hin
            replace hrg2 := Lib.hid hrg2
            go_wp2_with (at_lookup; refine wp_look _ rfl _ _ 72 false rfl (.map (some w.heap.size)) (.string (mkS q)) _ rfl rfl hlk.out ?_)
            go_roundw
            case rel => exact ⟨o, done ++ [y], L', left', hMt2.out, hM2.out, hS2.out, hB2.out, hrg2.out, hL2.out, hK2.out⟩
            case measure => rw [hrg2.out.left_eq, hmeas.out]; exact hllt
          · have hMt2 := hMt.out.new hin
            rw [decide_eq_false hin] at hlk
            obtain ⟨w3, hsto, hM3, hg3⟩ := dirs_store hM2.out hin
            have hS3 : Strs w.heap.size w3 (.slice oA o.length oc) o := own_kept hS2.out hg3 (own_ne_map hS2.out hM2.out)
            have hrg3 := hrg2.kept hg3 (by intro e; cases e; have := hblt.out; omega) (by intro e; cases e; have := hmbr.out; omega)
            have hB3 := hB2.out.grown hg3 hB2.out.size (fun b hb => by cases hb; exact Nat.le_refl _)
            generalize y.path = q at *
            replace hMt2 := Lib.hid hMt2
            replace hlk := Lib.hid hlk
            replace hin := Lib.hid hin
            replace hsto := Lib.hid hsto
            replace hM3 := Lib.hid hM3
            replace hS3 := Lib.hid hS3
            replace hrg3 := Lib.hid hrg3
            replace hB3 := Lib.hid hB3
            clear hg3 hrg2
            go_wp2_with (first | (at_lookup; refine wp_look _ rfl _ _ 72 false rfl (.map (some w.heap.size)) (.string (mkS q)) _ rfl rfl hlk.out ?_) | (at_mapUpdate; refine wp_store _ rfl _ _ _ 72 rfl (.map (some w.heap.size)) (.string (mkS q)) (.bool true) rfl rfl rfl w3 hsto.out ?_) | (at_builtin; refine wp_append1 w.heap.size rfl (.tmp 27) (.tmp 29) 46 9 rfl Try.underlying46 (.string ⟨#[]⟩) 1 16 info_string rfl (by decide) (.slice oA o.length oc) _ _ rfl [.string (mkS q)] rfl hS3.out rfl ?_ ?_ ?_ hB3.out.size ?_))
            · simp [Value.oneCell']
            · simp only [maxLen]; omega
            · omega
            · intro v1 w4 g1 hg hat
              have hM4 := hM3.out.kept hg (fun e => own_ne_map hS3.out hM3.out _ e.symm rfl)
              have hrg4 := hrg3.out.kept hg (fun e => own_ne_map hS3.out hrg3.out.is _ e.symm rfl) (fun e => own_ne_iter hS3.out hrg3.out _ e.symm rfl)
              have hB4 := hB3.out.grown hg hB3.out.size (own_base hS3.out)
              have hS4 : Strs w.heap.size w4 v1 (o ++ [q]) := Strs.snoc g1
              replace hM4 := Lib.hid hM4
              replace hrg4 := Lib.hid hrg4
              replace hB4 := Lib.hid hB4
              replace hS4 := Lib.hid hS4
              clear g1 hg hat
              go_wp2
              go_roundw
              case rel => exact ⟨o ++ [q], done ++ [y], L', left', hMt2.out, hM4.out, hS4.out, hB4.out, hrg4.out, hL2.out, hK2.out⟩
              case measure => rw [hrg4.out.left_eq, hmeas.out]; exact hllt
    · obtain rfl : k = Bs.length := by omega
      rw [hn.out] at hMt
      have hfew := hMt.few (by simp)
      have hfrom := hMt.from (by simp)
      have hso := sort_calls (.slice oA o.length oc) o wr hS.rd (by omega) (fun y hy => by
        obtain ⟨z, hz, rfl⟩ := List.mem_map.1 (hfrom y hy)
        exact hp.out z hz)
      replace hMt := Lib.hid hMt
      replace hM := Lib.hid hM
      replace hS := Lib.hid hS
      replace hB := Lib.hid hB
      replace hso := Lib.hid hso
      replace hfrom := Lib.hid hfrom
      go_wp2_with fail
      (with_reducible refine (hso.out).mono ?_)
      rintro e w1 ⟨⟨v2, rfl, hS2⟩, hB2⟩
      go_wp2
      go_ret
      exact ⟨⟨_, o, rfl, hMt.out, own_low hS2 hB.out.size⟩, below_step hB.out hB2⟩

end Go.Proofs.Ytcjlfkklpghjbaa

namespace Go.Proofs.Ytcjlfkklpghjbaa
open Go.RowKit

theorem eql_nil_ptr (W : World) (h : Nat) : (binOp .eql 59 (.pointer none) (.pointer (some ⟨h, 0, none⟩))).run Try.prog W = .ok (.bool false) W := by kernel_rfl
set_option maxHeartbeats 4000000 in
set_option maxRecDepth 100000 in
theorem ralike_some (g h : Nat) (x y : Ent) (w : World) (q1 : w.heap[g]? = some (entB x)) (q2 : w.heap[h]? = some (entB y)) :
    Calls Try.prog 18 #[ptr g, ptr h] w fun e w' => e = .returned (.bool (alikeE (some x) (some y))) ∧ Below w.heap.size w w' := by
  have hal : alikeE (some x) (some y) = (decide (x.kind = y.kind) && decide (x.mt = y.mt) && decide (x.target = y.target) && (decide (x.kind ≠ 1) || (decide (x.size = y.size) && decide (x.sum = y.sum)))) := rfl
  have hmtq := @mt_eq x.mt y.mt
  generalize alikeE (some x) (some y) = r at *
  obtain ⟨p1, kd1, sz1, ⟨a1, a2, a3, a4, a5⟩, tg1, sm1, gr1⟩ := x
  obtain ⟨p2, kd2, sz2, ⟨b1, b2, b3, b4, b5⟩, tg2, sm2, gr2⟩ := y
  unfold entB entCells at q1 q2
  dsimp only at *
  unfold ptr
  have x0 := cell_of (j := 0) q1 rfl
  have x1 := cell_of (j := 1) q1 rfl
  have x2 := cell_of (j := 2) q1 rfl
  have x3 := cell_of (j := 3) q1 rfl
  have x4 := cell_of (j := 4) q1 rfl
  have x5 := cell_of (j := 5) q1 rfl
  have x6 := cell_of (j := 6) q1 rfl
  have x7 := cell_of (j := 7) q1 rfl
  have x8 := cell_of (j := 8) q1 rfl
  have x9 := cell_of (j := 9) q1 rfl
  have y0 := cell_of (j := 0) q2 rfl
  have y1 := cell_of (j := 1) q2 rfl
  have y2 := cell_of (j := 2) q2 rfl
  have y3 := cell_of (j := 3) q2 rfl
  have y4 := cell_of (j := 4) q2 rfl
  have y5 := cell_of (j := 5) q2 rfl
  have y6 := cell_of (j := 6) q2 rfl
  have y7 := cell_of (j := 7) q2 rfl
  have y8 := cell_of (j := 8) q2 rfl
  have y9 := cell_of (j := 9) q2 rfl
  have hem := fun W => eql_mt W a1 a2 a3 a4 a5 b1 b2 b3 b4 b5
  have hnm := fun W => neq_mt W a1 a2 a3 a4 a5 b1 b2 b3 b4 b5
  obtain ⟨mq, hmq⟩ : ∃ b : Bool, b = decide (a1 = b1 ∧ a2 = b2 ∧ a3 = b3 ∧ a4 = b4 ∧ a5 = b5) := ⟨_, rfl⟩
  rw [← hmq] at hem hnm
  have hmd : decide ((⟨a1, a2, a3, a4, a5⟩ : Mt) = ⟨b1, b2, b3, b4, b5⟩) = mq := by
    rw [hmq, Bool.eq_iff_iff, decide_eq_true_eq, decide_eq_true_eq]
    exact hmtq.symm
  rw [hmd] at hal
  have ht : ((mkS tg1).toList == (mkS tg2).toList) = decide (tg1 = tg2) := by rw [mkS_toList, mkS_toList, Bool.eq_iff_iff]; simp
  have hs : ((mkS sm1).toList == (mkS sm2).toList) = decide (sm1 = sm2) := by rw [mkS_toList, mkS_toList, Bool.eq_iff_iff]; simp
  have hk : (kd1 == kd2) = decide (kd1 = kd2) := by rw [Bool.eq_iff_iff]; simp
  have hk2 : (kd1 != kd2) = !decide (kd1 = kd2) := by rw [Bool.eq_iff_iff]; simp
  have hz : (sz1 == sz2) = decide (sz1 = sz2) := by rw [Bool.eq_iff_iff]; simp
  have ho : (kd1 != 1) = decide (kd1 ≠ 1) := by rw [Bool.eq_iff_iff]; simp
  generalize decide (tg1 = tg2) = tq at *
  generalize decide (sm1 = sm2) = sq at *
  generalize decide (kd1 = kd2) = kq at *
  generalize decide (sz1 = sz2) = zq at *
  generalize decide (kd1 ≠ 1) = oq at *
  replace hal := Lib.hid hal
  replace q1 := Lib.hid q1
  replace q2 := Lib.hid q2
  replace hmq := Lib.hid hmq
  replace hmd := Lib.hid hmd
  replace hmtq := Lib.hid hmtq
  have hB0 := fun n => below_drewN (Below.refl w.heap.size w) n
  replace hB0 := Lib.hid hB0
  cases kq with
  | false =>
    go_enter Try.func18, Try.ntmps18
    go_upto_region 3 with fail
    go_quiet (fail)
    go_wp2
    go_ret
    exact ⟨ret_bool (by rw [hal.out]; rfl), hB0.out _⟩
  | true =>
    cases mq with
    | false =>
      go_enter Try.func18, Try.ntmps18
      go_upto_region 3 with fail
      go_quiet (fail)
      go_wp2
      go_ret
      exact ⟨ret_bool (by rw [hal.out]; rfl), hB0.out _⟩
    | true =>
      cases tq with
      | false =>
        go_enter Try.func18, Try.ntmps18
        go_upto_region 3 with fail
        go_quiet (fail)
        go_wp2
        go_ret
        exact ⟨ret_bool (by rw [hal.out]; rfl), hB0.out _⟩
      | true =>
        cases oq with
        | true =>
          go_enter Try.func18, Try.ntmps18
          go_upto_region 3 with fail
          go_quiet (fail)
          go_upto_region 5 with fail
          go_quiet (fail)
          go_wp2
          go_ret
          exact ⟨ret_bool (by rw [hal.out]; rfl), below_drewN (hB0.out _) _⟩
        | false =>
          cases zq <;> cases sq <;>
          · go_enter Try.func18, Try.ntmps18
            go_upto_region 3 with fail
            go_quiet (fail)
            go_upto_region 5 with fail
            go_quiet (fail)
            go_wp2
            go_ret
            exact ⟨ret_bool (by rw [hal.out]; rfl), below_drewN (hB0.out _) _⟩

set_option maxHeartbeats 2000000 in
set_option maxRecDepth 100000 in
theorem ralike_calls (va vb : Value) (a b : Option Ent) (w : World) (ha : PtrE w va a) (hb : PtrE w vb b) :
    Calls Try.prog 18 #[va, vb] w fun e w' => e = .returned (.bool (alikeE a b)) ∧ Below w.heap.size w w' := by
  cases a with
  | none =>
    cases (show va = .pointer none from ha)
    cases b with
    | none =>
      cases (show vb = .pointer none from hb)
      clear ha hb
      go_enter Try.func18, Try.ntmps18
      go_wp2
      go_ret
      exact ⟨rfl, Below.refl _ _⟩
    | some y =>
      obtain ⟨h, rfl, q2⟩ := hb
      unfold ptr
      clear ha
      replace q2 := Lib.hid q2
      have hne := fun W => eql_nil_ptr W h
      go_enter Try.func18, Try.ntmps18
      go_wp2
      go_ret
      exact ⟨rfl, Below.refl _ _⟩
  | some x =>
    obtain ⟨g, rfl, q1⟩ := ha
    cases b with
    | none =>
      cases (show vb = .pointer none from hb)
      unfold ptr
      clear hb
      replace q1 := Lib.hid q1
      go_enter Try.func18, Try.ntmps18
      go_wp2
      go_ret
      exact ⟨rfl, Below.refl _ _⟩
    | some y =>
      obtain ⟨h, rfl, q2⟩ := hb
      exact ralike_some g h x y w q1 q2

set_option maxHeartbeats 2000000 in
set_option maxRecDepth 100000 in
theorem rdir_calls (va : Value) (a : Option Ent) (w : World) (ha : PtrE w va a) :
    Calls Try.prog 22 #[va] w fun e w' => e = .returned (.bool (isDirE a)) ∧ w = w' := by
  cases a with
  | none =>
    cases (show va = .pointer none from ha)
    clear ha
    go_enter Try.func22, Try.ntmps22
    go_wp2
    go_ret
    exact ⟨rfl, rfl⟩
  | some x =>
    obtain ⟨g, rfl, q1⟩ := ha
    have hd : isDirE (some x) = decide (x.kind = 2) := rfl
    rw [hd]
    clear hd
    unfold ptr
    unfold entB entCells at q1
    have x1 := cell_of (j := 1) q1 rfl
    replace q1 := Lib.hid q1
    have hk : (x.kind == 2) = decide (x.kind = 2) := by rw [Bool.eq_iff_iff]; simp
    generalize x.kind = kd at *
    generalize decide (kd = 2) = kq at *
    cases kq <;>
    · go_enter Try.func22, Try.ntmps22
      go_wp2
      go_ret
      exact ⟨rfl, rfl⟩

def laterE (a b : Option Ent) : Bool :=
  match b with
  | none => true
  | some y => match a with
    | none => false
    | some x => laterM x.mt y.mt
theorem wishE_eq (w a b : Option Ent) (po : Int) : wishE w a b po = if alikeE w b = true then 1 else if alikeE w a = true then 2 else if po ≠ 3 then po else if laterE b a = true then 2 else 1 := by
  unfold wishE laterE
  rw [alikeE_comm w b, alikeE_comm w a]
  cases a <;> cases b <;> rfl

set_option maxHeartbeats 2000000 in
set_option maxRecDepth 100000 in
theorem rlater_calls (va vb : Value) (a b : Option Ent) (w : World) (ha : PtrE w va a) (hb : PtrE w vb b) :
    Calls Try.prog 35 #[va, vb] w fun e w' => e = .returned (.bool (laterE a b)) ∧ Below w.heap.size w w' := by
  cases a with
  | none =>
    cases (show va = .pointer none from ha)
    cases b with
    | none =>
      cases (show vb = .pointer none from hb)
      clear ha hb
      go_enter Try.func35, Try.ntmps35
      go_wp2
      go_ret
      exact ⟨rfl, Below.refl _ _⟩
    | some y =>
      obtain ⟨h, rfl, q2⟩ := hb
      unfold ptr
      clear ha
      replace q2 := Lib.hid q2
      go_enter Try.func35, Try.ntmps35
      go_wp2
      go_ret
      exact ⟨rfl, Below.refl _ _⟩
  | some x =>
    obtain ⟨g, rfl, q1⟩ := ha
    cases b with
    | none =>
      cases (show vb = .pointer none from hb)
      unfold ptr
      clear hb
      replace q1 := Lib.hid q1
      go_enter Try.func35, Try.ntmps35
      go_wp2
      go_ret
      exact ⟨rfl, Below.refl _ _⟩
    | some y =>
      obtain ⟨h, rfl, q2⟩ := hb
      have hl : laterE (some x) (some y) = (decide (y.mt.sec < x.mt.sec) || (decide (x.mt.sec = y.mt.sec) && decide (y.mt.nano < x.mt.nano))) := rfl
      generalize laterE (some x) (some y) = r at *
      obtain ⟨p1, kd1, sz1, ⟨a1, a2, a3, a4, a5⟩, tg1, sm1, gr1⟩ := x
      obtain ⟨p2, kd2, sz2, ⟨b1, b2, b3, b4, b5⟩, tg2, sm2, gr2⟩ := y
      unfold entB entCells at q1 q2
      dsimp only at *
      unfold ptr
      have x1 := cell_of (j := 4) q1 rfl
      have x2 := cell_of (j := 5) q1 rfl
      have y1 := cell_of (j := 4) q2 rfl
      have y2 := cell_of (j := 5) q2 rfl
      have hB0 := fun n => below_drewN (Below.refl w.heap.size w) n
      replace q1 := Lib.hid q1
      replace q2 := Lib.hid q2
      replace hB0 := Lib.hid hB0
      by_cases h1 : b2 < a2
      · rw [decide_eq_true h1] at hl
        replace hl := Lib.hid hl
        go_enter Try.func35, Try.ntmps35
        go_upto_region 3 with fail
        go_quiet (fail)
        go_wp2
        go_ret
        exact ⟨ret_bool (by (rw [hl.out]; rfl)), hB0.out _⟩
      · have h2 : decide (b2 < a2) = false := by simpa using h1
        rw [h2] at hl
        by_cases h3 : a2 = b2
        · have h4 : (a2 == b2) = true := by simpa using h3
          rw [decide_eq_true h3] at hl
          by_cases h5 : b3 < a3
          · rw [decide_eq_true h5] at hl
            replace hl := Lib.hid hl
            replace h1 := Lib.hid h1
            replace h3 := Lib.hid h3
            go_enter Try.func35, Try.ntmps35
            go_upto_region 3 with fail
            go_quiet (fail)
            go_wp2
            go_ret
            exact ⟨ret_bool (by (rw [hl.out]; rfl)), hB0.out _⟩
          · have h6 : decide (b3 < a3) = false := by simpa using h5
            rw [h6] at hl
            replace hl := Lib.hid hl
            replace h1 := Lib.hid h1
            replace h3 := Lib.hid h3
            replace h5 := Lib.hid h5
            go_enter Try.func35, Try.ntmps35
            go_upto_region 3 with fail
            go_quiet (fail)
            go_wp2
            go_ret
            exact ⟨ret_bool (by first | (rw [hl.out]; rfl) | (rw [h6, hl.out]; rfl)), hB0.out _⟩
        · have h4 : (a2 == b2) = false := by simpa using h3
          rw [decide_eq_false h3] at hl
          replace hl := Lib.hid hl
          replace h1 := Lib.hid h1
          replace h3 := Lib.hid h3
          go_enter Try.func35, Try.ntmps35
          go_upto_region 3 with fail
          go_quiet (fail)
          go_wp2
          go_ret
          exact ⟨ret_bool (by (rw [hl.out]; rfl)), hB0.out _⟩

theorem PtrE.shape {W : World} {v : Value} {o : Option Ent} (h : PtrE W v o) : ∃ g, v = .pointer g := by
  cases o with
  | none => exact ⟨_, h⟩
  | some x => obtain ⟨g, h1, _⟩ := h; exact ⟨_, h1⟩

set_option maxHeartbeats 2000000 in
set_option maxRecDepth 100000 in
theorem rwish_calls (vw va vb : Value) (ow a b : Option Ent) (po : Int) (w : World) (hw : PtrE w vw ow) (ha : PtrE w va a) (hb' : PtrE w vb b) :
    Calls Try.prog 19 #[vw, va, vb, .int .i64 po] w fun e w' => e = .returned (.int .i64 (wishE ow a b po)) ∧ Below w.heap.size w w' := by
  have h1 := fun W (hb : Below w.heap.size w W) => ralike_calls vw vb ow b W (hw.below hb) (hb'.below hb)
  have h2 := fun W (hb : Below w.heap.size w W) => ralike_calls vw va ow a W (hw.below hb) (ha.below hb)
  have h3 := fun W (hb : Below w.heap.size w W) => rlater_calls vb va b a W (hb'.below hb) (ha.below hb)
  rw [wishE_eq]
  obtain ⟨g1, rfl⟩ := hw.shape
  obtain ⟨g2, rfl⟩ := ha.shape
  obtain ⟨g3, rfl⟩ := hb'.shape
  generalize alikeE ow b = q1 at *
  generalize alikeE ow a = q2 at *
  generalize laterE b a = q3 at *
  replace h1 := Lib.hid h1
  replace h2 := Lib.hid h2
  replace h3 := Lib.hid h3
  replace hw := Lib.hid hw
  replace ha := Lib.hid ha
  replace hb' := Lib.hid hb'
  go_enter Try.func19, Try.ntmps19
  go_wp2_with fail
  (with_reducible refine (h1.out _ (Below.refl _ _)).mono ?_)
  rintro e w1 ⟨rfl, hB1⟩
  replace hB1 := Lib.hid hB1
  cases q1 with
  | true =>
    go_wp2
    go_ret
    exact ⟨rfl, hB1.out⟩
  | false =>
    go_wp2_with fail
    (with_reducible refine (h2.out _ hB1.out).mono ?_)
    rintro e w2 ⟨rfl, hB2⟩
    have hB02 := below_step hB1.out hB2
    replace hB02 := Lib.hid hB02
    clear hB2
    cases q2 with
    | true =>
      go_wp2
      go_ret
      exact ⟨rfl, hB02.out⟩
    | false =>
      by_cases hp : po = 3
      · subst hp
        go_wp2_with fail
        (with_reducible refine (h3.out _ hB02.out).mono ?_)
        rintro e w3 ⟨rfl, hB3⟩
        have hB03 := below_step hB02.out hB3
        replace hB03 := Lib.hid hB03
        clear hB3
        cases q3 <;>
        · go_wp2
          go_ret
          exact ⟨rfl, hB03.out⟩
      · have t1 : (po != 3) = true := by simpa using hp
        have hq : (if false = true then (1 : Int) else if false = true then 2 else if po ≠ 3 then po else if q3 = true then 2 else 1) = po := by rw [if_neg (by simp), if_neg (by simp), if_pos hp]
        replace hp := Lib.hid hp
        replace hq := Lib.hid hq
        go_wp2
        go_ret
        exact ⟨ret_int (by first | rfl | exact hq.out.symm), hB02.out⟩

end Go.Proofs.Ytcjlfkklpghjbaa
