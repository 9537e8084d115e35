/-
  recon.held: which way a path goes that is held.
  What stays where one map of a call's own turns.
  recon.Plan.
  remoralaw44.awake: the chapter's example.
  The walk of remoralaw44.ReconPlans.
-/
import Derived.Test.YtcjlfkklpghjbaaB4
import Derived.Test.YtcjlfkklpghjbaaB1
import Derived.Test.YtcjlfkklpghjbaaB2
import Derived.Test.YtcjlfkklpghjbaaB3
set_option linter.unusedVariables false
set_option linter.unusedSimpArgs false

namespace Go.Proofs.Ytcjlfkklpghjbaa
open Go.RowKit

def heldK (l : Acts44) (L R : List Ent) (p : Bytes) : Int × Bool :=
  let b := isDirE (entAt R p)
  let own := if b = true then R else L
  let other := if b = true then L else R
  let away : Int := if b = true then 1 else 2
  if isDirE (entAt L p) = b ∨ (actAt l p).getD 0 ≠ away then (0, false)
  else if belowA l own p away = true then ((if (entAt other p).isSome = true then 0 else 3 - away), true) else (0, false)

theorem heldK_is {l : Acts44} {L R : List Ent} (hn : (l.map (·.1)).Nodup) {y : Bytes × Int} (hy : y ∈ l) : heldA l L R y = if (heldK l L R y.1).2 = true then (heldK l L R y.1).1 else y.2 := by
  obtain ⟨p, t⟩ := y
  have hat := actAt_of hn hy
  dsimp only at hat ⊢
  unfold heldA heldK
  dsimp only
  rw [hat]
  cases isDirE (entAt R p) with
  | true =>
    cases isDirE (entAt L p) with
    | true => simp
    | false =>
      by_cases ht : t = 1
      · subst ht
        by_cases hb : belowA l R p 1 = true
        · cases h9 : entAt L p <;> simp [hb, h9]
        · simp [hb]
      · simp [ht]
  | false =>
    cases isDirE (entAt L p) with
    | false => simp
    | true =>
      by_cases ht : t = 2
      · subst ht
        by_cases hb : belowA l L p 2 = true
        · cases h9 : entAt R p <;> simp [hb, h9]
        · simp [hb]
      · simp [ht]

def condQ (l : Acts44) (p : Bytes) (away : Int) (q : Bytes) : Bool := decide (q ≠ p) && under q p && (actAt l q).isSome && decide ((actAt l q).getD 0 ≠ away)
theorem belowA_own {l : Acts44} {own : List Ent} {p : Bytes} {away : Int} (hn : (l.map (·.1)).Nodup) : belowA l own p away = own.any fun x => condQ l p away x.path := by
  rw [Bool.eq_iff_iff]
  unfold belowA condQ
  simp only [List.any_eq_true, Bool.and_eq_true, decide_eq_true_eq]
  constructor
  · rintro ⟨y, hy, ⟨⟨h1, h2⟩, h3⟩, h4⟩
    obtain ⟨x, hx⟩ := Option.isSome_iff_exists.1 h4
    obtain ⟨h5, h6⟩ := entAt_some hx
    have h7 := actAt_of hn hy
    refine ⟨x, h5, ?_⟩
    rw [h6, h7]
    exact ⟨⟨⟨h1, h2⟩, rfl⟩, h3⟩
  · rintro ⟨x, hx, ⟨⟨h1, h2⟩, h3⟩, h4⟩
    obtain ⟨t, ht⟩ := Option.isSome_iff_exists.1 h3
    rw [ht] at h4
    refine ⟨(x.path, t), actAt_some ht, ⟨⟨h1, h2⟩, h4⟩, ?_⟩
    cases he : entAt own x.path with
    | none => exact absurd rfl (entAt_none he x hx)
    | some z => rfl

set_option maxHeartbeats 8000000 in
set_option maxRecDepth 100000 in
theorem rheld_calls (p : Bytes) (lb rb wb : Nat) (l : Acts44) (L R : List Ent) (w : World) (hL : States w lb L) (hR : States w rb R) (hW : MapIs w wb (intE l)) (hn : (l.map (·.1)).Nodup) (hp : p.length ≤ 1000000) (hLp : ∀ x ∈ L, x.path.length ≤ 1000000) (hRp : ∀ x ∈ R, x.path.length ≤ 1000000) :
    Calls Try.prog 20 #[.string (mkS p), .map (some lb), .map (some rb), .map (some wb)] w fun e w' => e = .returned (.tuple #[.int .i64 (heldK l L R p).1, .bool (heldK l L R p).2]) ∧ Below w.heap.size w w' := by
  obtain ⟨v1, hv1, hlk1⟩ := st_look hL p
  obtain ⟨v2, hv2, hlk2⟩ := st_look hR p
  have hlw : ∀ W', Below w.heap.size w W' → (Instr.lookup 56 (.map (some wb)) (.string (mkS p)) false).run Try.prog W' = .ok (.int .i64 ((actAt l p).getD 0)) W' := fun W' hb => int_look (hW.of_block (hb.block _ hW.lt)) p
  have hlq : ∀ q W', Below w.heap.size w W' → (Instr.lookup 56 (.map (some wb)) (.string (mkS q)) true).run Try.prog W' = .ok (.tuple #[.int .i64 ((actAt l q).getD 0), .bool (actAt l q).isSome]) W' := fun q W' hb => int_look2 (hW.of_block (hb.block _ hW.lt)) q
  have hd1 := fun W' (hb : Below w.heap.size w W') => rdir_calls v1 (entAt L p) W' (hv1.below hb)
  have hd2 := fun W' (hb : Below w.heap.size w W') => rdir_calls v2 (entAt R p) W' (hv2.below hb)
  have hn1 : v1 = .pointer none ↔ (entAt L p).isSome = false := by
    cases h : entAt L p with
    | none => rw [h] at hv1; exact ⟨fun _ => rfl, fun _ => hv1⟩
    | some x => rw [h] at hv1; obtain ⟨g, rfl, _⟩ := hv1; simp [ptr]
  have hn2 : v2 = .pointer none ↔ (entAt R p).isSome = false := by
    cases h : entAt R p with
    | none => rw [h] at hv2; exact ⟨fun _ => rfl, fun _ => hv2⟩
    | some x => rw [h] at hv2; obtain ⟨g, rfl, _⟩ := hv2; simp [ptr]
  obtain ⟨g1, rfl⟩ := hv1.shape
  obtain ⟨g2, rfl⟩ := hv2.shape
  have hps := mkS_size p
  have hbL := @belowA_own l L p 2 hn
  have hbR := @belowA_own l R p 1 hn
  obtain ⟨A1, hM1, _⟩ := id hL
  obtain ⟨A2, hM2, _⟩ := id hR
  have hK : heldK l L R p = if isDirE (entAt L p) = isDirE (entAt R p) ∨ (actAt l p).getD 0 ≠ (if isDirE (entAt R p) = true then 1 else 2) then (0, false) else if belowA l (if isDirE (entAt R p) = true then R else L) p (if isDirE (entAt R p) = true then 1 else 2) = true then ((if (if isDirE (entAt R p) = true then (entAt L p).isSome else (entAt R p).isSome) = true then 0 else 3 - (if isDirE (entAt R p) = true then 1 else 2)), true) else (0, false) := by
    unfold heldK
    cases isDirE (entAt R p) <;> rfl
  generalize heldK l L R p = hk at *
  generalize (entAt L p).isSome = s1 at *
  generalize (entAt R p).isSome = s2 at *
  generalize isDirE (entAt L p) = a at *
  generalize isDirE (entAt R p) = b at *
  generalize (actAt l p).getD 0 = t at *
  have hdx1 := fun x : Gr w => (hd1 x.1 x.2).mono (R' := fun e w' => e = .returned (.bool a) ∧ Below x.1.heap.size x.1 w') (fun _ _ h => ⟨h.1, h.2 ▸ Below.refl _ _⟩)
  have hdx2 := fun x : Gr w => (hd2 x.1 x.2).mono (R' := fun e w' => e = .returned (.bool b) ∧ Below x.1.heap.size x.1 w') (fun _ _ h => ⟨h.1, h.2 ▸ Below.refl _ _⟩)
  have lk1 := fun x : Gr w => hlk1 x.1 x.2
  have lk2 := fun x : Gr w => hlk2 x.1 x.2
  have lkw := fun x : Gr w => hlw x.1 x.2
  replace hL := Lib.hid hL
  replace hR := Lib.hid hR
  replace hW := Lib.hid hW
  replace hn := Lib.hid hn
  replace hlk1 := Lib.hid hlk1
  replace hlk2 := Lib.hid hlk2
  replace hlw := Lib.hid hlw
  replace hlq := Lib.hid hlq
  replace hd1 := Lib.hid hd1
  replace hd2 := Lib.hid hd2
  replace hn1 := Lib.hid hn1
  replace hn2 := Lib.hid hn2
  replace hM1 := Lib.hid hM1
  replace hM2 := Lib.hid hM2
  replace hbL := Lib.hid hbL
  replace hbR := Lib.hid hbR
  replace hLp := Lib.hid hLp
  replace hRp := Lib.hid hRp
  replace hv1 := Lib.hid hv1
  replace hv2 := Lib.hid hv2
  replace hdx1 := Lib.hid hdx1
  replace hdx2 := Lib.hid hdx2
  replace hK := Lib.hid hK
  replace lk1 := Lib.hid lk1
  replace lk2 := Lib.hid lk2
  replace lkw := Lib.hid lkw
  cases b with
  | true =>
    cases a with
    | true =>
      have hz : hk = (0, false) := by rw [hK.out]; simp
      replace hz := Lib.hid hz
      go_enter Try.func20, Try.ntmps20
      go_wp2_with (at_lookup; refine wp_look _ rfl _ _ 54 false rfl (.map (some rb)) (.string (mkS p)) _ rfl rfl (hlk2.out _ (Below.refl _ _)) ?_)
      (with_reducible refine (hd2.out _ (Below.refl _ _)).mono ?_)
      rintro e w0 ⟨rfl, rfl⟩
      go_upto_region 4 with fail
      refine wp_region_grow (by kernel_rfl) (by kernel_rfl) ?_
      repeat (any_goals (first
        | go_big_quiet_step ((go_at_call 22; first | with_reducible exact grow_of _ (hdx1.out _) | with_reducible exact grow_of _ (hdx2.out _)))
        | (refine BigFrame.wpQuiet_want rfl (fun K hK => ?_); refine quiet_lookup _ _ _ _ rfl _ _ _ rfl rfl (by rintro W ⟨x, rfl⟩; first | exact lk1.out x | exact lk2.out x | exact lkw.out x) ?_; refine hK _ ?_; clear hK K; simp only [Act.put, List.setIfInBounds_toArray, List.set_cons_zero, List.set_cons_succ])))
      refine wpQuiet_nil ?_
      rintro w1 ⟨⟨W1, hB1⟩, hW1⟩
      obtain rfl : w1 = W1 := hW1
      go_wp2
      go_ret2
      exact ⟨by rw [hz.out]; rfl, hB1⟩
    | false =>
      by_cases ht : t = 1
      · subst ht
        have hoth : ∃ q, g1 = q ∧ ((q = none ∧ s1 = false) ∨ (∃ ad, q = some ad) ∧ s1 = true) := by
          refine ⟨_, rfl, ?_⟩
          cases hS : s1 with
          | false => exact Or.inl ⟨by simpa using hn1.out.2 hS, rfl⟩
          | true =>
            cases hG : g1 with
            | none => exact absurd (hn1.out.1 (by rw [hG])) (by rw [hS]; simp)
            | some ad => exact Or.inr ⟨⟨ad, rfl⟩, rfl⟩
        replace hoth := Lib.hid hoth
        have hoff : belowA l R p 1 = false → hk = (0, false) := fun h => by rw [hK.out]; simp [h]
        have hon : belowA l R p 1 = true → hk = (if s1 = true then 0 else 2, true) := fun h => by rw [hK.out]; simp [h]
        replace hoff := Lib.hid hoff
        replace hon := Lib.hid hon
        go_enter Try.func20, Try.ntmps20
        go_wp2_with (at_lookup; refine wp_look _ rfl _ _ 54 false rfl (.map (some rb)) (.string (mkS p)) _ rfl rfl (hlk2.out _ (Below.refl _ _)) ?_)
        (with_reducible refine (hd2.out _ (Below.refl _ _)).mono ?_)
        rintro e w0 ⟨rfl, rfl⟩
        go_upto_region 4 with fail
        refine wp_region_grow (by kernel_rfl) (by kernel_rfl) ?_
        repeat (any_goals (first
          | go_big_quiet_step ((go_at_call 22; first | with_reducible exact grow_of _ (hdx1.out _) | with_reducible exact grow_of _ (hdx2.out _)))
          | (refine BigFrame.wpQuiet_want rfl (fun K hK => ?_); refine quiet_lookup _ _ _ _ rfl _ _ _ rfl rfl (by rintro W ⟨x, rfl⟩; first | exact lk1.out x | exact lk2.out x | exact lkw.out x) ?_; refine hK _ ?_; clear hK K; simp only [Act.put, List.setIfInBounds_toArray, List.set_cons_zero, List.set_cons_succ])))
        refine wpQuiet_nil ?_
        rintro w1 ⟨⟨W1, hB1⟩, hW1⟩
        obtain rfl : w1 = W1 := hW1
        have hM1' := hM2.out.of_block (hB1.block _ hM2.out.lt)
        replace hM1' := Lib.hid hM1'
        replace hB1 := Lib.hid hB1
        go_wp2_with (at_range; refine wp_range _ rfl _ 54 rfl 9 59 under_states rb _ rfl hM1'.out ?_)
        intro w2 hrg2 hg2 hs2
        have hB2 : Below w.heap.size w w2 := hB1.out.grown hg2 hB1.out.size (fun j hj => by cases hj)
        have hrlt : w.heap.size ≤ w1.heap.size := hB1.out.size
        generalize w1.heap.size = r at *
        replace hrg2 := Lib.hid hrg2
        replace hB2 := Lib.hid hB2
        replace hrlt := Lib.hid hrlt
        clear hg2 hs2 hM1' hB1
        go_wp2_with fail
        try go_frame
        go_loopw [13, 14, 15] (fun q ww dd wr => ∃ (done leftK : List Ent) (left : List (Value × Value)), (∀ x ∈ done, condQ l p 1 x.path = false) ∧ Ranges wr rb r (stE A2 R) left ∧ left.Perm (stE A2 leftK) ∧ (R).Perm (done ++ leftK) ∧ Below w.heap.size w wr) (fun _ _ _ wr => wr.rangeLeft rb r)
        case atStart => exact ⟨[], R, _, by simp, hrg2.out, .refl _, .refl _, hB2.out⟩
        case round =>
          clear hrg2 hB2
          obtain ⟨done, leftK, left, hno, hrg, hLp2, hKp, hB⟩ := hrel
          replace hno := Lib.hid hno
          replace hLp2 := Lib.hid hLp2
          replace hKp := Lib.hid hKp
          replace hB := Lib.hid hB
          go_wp2_with (at_next; refine wp_next _ rfl _ rfl rb r _ _ rfl hrg ?_ ?_)
          · intro hl0
            have hLK : leftK = [] := stE_nil (A := A2) (by have := hLp2.out; rwa [hl0] at this)
            have hLd : (R).Perm done := by
              have := hKp.out
              rwa [hLK, List.append_nil] at this
            have hz := hoff.out (by
              rw [hbR.out, List.any_eq_false]
              intro x hx
              rw [hno.out x (hLd.mem_iff.1 hx)]
              simp)
            replace hz := Lib.hid hz
            clear hrg hl0 hLK hLd
            go_wp2
            go_ret2
            exact ⟨by rw [hz.out]; rfl, hB.out⟩
          · intro x v left' w2 hp2 hmem hrg2 hg2 hs2 hen
            obtain ⟨y, L', hL1, rfl, rfl, hL2⟩ := stE_pick hLp2.out hp2
            have hK2 : (R).Perm ((done ++ [y]) ++ L') := hKp.out.trans (by simpa using hL1.append_left done)
            have hyL : y ∈ R := hK2.mem_iff.2 (by simp)
            have hB2 : Below w.heap.size w w2 := hB.out.grown hg2 hB.out.size (fun b hb => by cases hb; exact hrlt.out)
            have hmeas : wr.rangeLeft rb r = left.length := hrg.left_eq
            have hllt : left'.length < left.length := by have := hp2.length_eq; simp at this; omega
            have hlkq := hlq.out y.path w2 hB2
            have hyp := hRp.out y hyL
            have hcq : condQ l p 1 y.path = (decide (y.path ≠ p) && under y.path p && (actAt l y.path).isSome && decide ((actAt l y.path).getD 0 ≠ 1)) := rfl
            have hyes : condQ l p 1 y.path = true → hk = (if s1 = true then 0 else 2, true) := fun h => hon.out (by
              rw [hbR.out, List.any_eq_true]
              exact ⟨y, hyL, h⟩)
            have hnn : condQ l p 1 y.path = false → ∀ x ∈ done ++ [y], condQ l p 1 x.path = false := fun h x hx => by
              rcases List.mem_append.1 hx with hx | hx
              · exact hno.out x hx
              · rw [List.mem_singleton.1 hx]
                exact h
            generalize condQ l p 1 y.path = cq at *
            generalize y.path = q at *
            generalize (actAt l q).getD 0 = tq at *
            generalize (actAt l q).isSome = sq at *
            generalize hu : under q p = u at *
            have hqs := mkS_size q
            have hun := fun W => under_calls (mkS q) (mkS p) W (by omega) (by omega)
            rw [bl_mkS, bl_mkS, hu] at hun
            have hlko := fun W hW => hlk1.out W hW
            unfold ptr at hen
            replace hK2 := Lib.hid hK2
            replace hL2 := Lib.hid hL2
            replace hmeas := Lib.hid hmeas
            replace hyL := Lib.hid hyL
            replace hB2 := Lib.hid hB2
            replace hllt := Lib.hid hllt
            replace hlkq := Lib.hid hlkq
            replace hcq := Lib.hid hcq
            replace hyes := Lib.hid hyes
            replace hnn := Lib.hid hnn
            replace hun := Lib.hid hun
            replace hlko := Lib.hid hlko
            replace hrg2 := Lib.hid hrg2
            clear hKp hLp2 hL1 hp2 hmem hrg hB hg2 hs2 hno hu
            by_cases hqp : q = p
            · have t1 : ((mkS q).toList == (mkS p).toList) = true := strs_alike (by rw [hqp])
              replace hqp := Lib.hid hqp
              have hn2' := hnn.out (by rw [hcq.out]; first | rfl | simp [hqp.out] | simp [htq.out] | simp)
              replace hn2' := Lib.hid hn2'
              go_wp2_with (at_lookup; refine wp_look _ rfl _ _ 56 true rfl (.map (some wb)) (.string (mkS q)) _ rfl rfl hlkq.out ?_)
              go_roundw
              case rel => exact ⟨done ++ [y], L', left', hn2'.out, hrg2.out, hL2.out, hK2.out, hB2.out⟩
              case measure => rw [hrg2.out.left_eq, hmeas.out]; exact hllt.out
            · have t1 : ((mkS q).toList == (mkS p).toList) = false := strs_diff (fun e => hqp (mkS_inj e))
              replace hqp := Lib.hid hqp
              cases u with
              | false =>
                go_wp2_with (at_lookup; refine wp_look _ rfl _ _ 56 true rfl (.map (some wb)) (.string (mkS q)) _ rfl rfl hlkq.out ?_)
                (with_reducible refine (hun.out _).mono ?_)
                rintro e w3 ⟨rfl, hB3⟩
                have hrg3 := hrg2.out.of_blocks (hB3.block _ hrg2.out.is.lt) (hB3.block _ hrg2.out.lt)
                have hB03 := below_step hB2.out hB3
                replace hrg3 := Lib.hid hrg3
                replace hB03 := Lib.hid hB03
                clear hB3
                have hn2' := hnn.out (by rw [hcq.out]; first | rfl | simp [htq.out] | simp)
                replace hn2' := Lib.hid hn2'
                go_wp2
                go_roundw
                case rel => exact ⟨done ++ [y], L', left', hn2'.out, hrg3.out, hL2.out, hK2.out, hB03.out⟩
                case measure => rw [hrg3.out.left_eq, hmeas.out]; exact hllt.out
              | true =>
                cases sq with
                | false =>
                  go_wp2_with (at_lookup; refine wp_look _ rfl _ _ 56 true rfl (.map (some wb)) (.string (mkS q)) _ rfl rfl hlkq.out ?_)
                  (with_reducible refine (hun.out _).mono ?_)
                  rintro e w3 ⟨rfl, hB3⟩
                  have hrg3 := hrg2.out.of_blocks (hB3.block _ hrg2.out.is.lt) (hB3.block _ hrg2.out.lt)
                  have hB03 := below_step hB2.out hB3
                  replace hrg3 := Lib.hid hrg3
                  replace hB03 := Lib.hid hB03
                  clear hB3
                  have hn2' := hnn.out (by rw [hcq.out]; first | rfl | simp [htq.out] | simp)
                  replace hn2' := Lib.hid hn2'
                  go_wp2
                  go_roundw
                  case rel => exact ⟨done ++ [y], L', left', hn2'.out, hrg3.out, hL2.out, hK2.out, hB03.out⟩
                  case measure => rw [hrg3.out.left_eq, hmeas.out]; exact hllt.out
                | true =>
                  by_cases htq : tq = 1
                  · have t2 : (tq != 1) = false := by simpa using htq
                    replace htq := Lib.hid htq
                    go_wp2_with (at_lookup; refine wp_look _ rfl _ _ 56 true rfl (.map (some wb)) (.string (mkS q)) _ rfl rfl hlkq.out ?_)
                    (with_reducible refine (hun.out _).mono ?_)
                    rintro e w3 ⟨rfl, hB3⟩
                    have hrg3 := hrg2.out.of_blocks (hB3.block _ hrg2.out.is.lt) (hB3.block _ hrg2.out.lt)
                    have hB03 := below_step hB2.out hB3
                    replace hrg3 := Lib.hid hrg3
                    replace hB03 := Lib.hid hB03
                    clear hB3
                    have hn2' := hnn.out (by rw [hcq.out]; first | rfl | simp [htq.out] | simp)
                    replace hn2' := Lib.hid hn2'
                    go_wp2
                    go_roundw
                    case rel => exact ⟨done ++ [y], L', left', hn2'.out, hrg3.out, hL2.out, hK2.out, hB03.out⟩
                    case measure => rw [hrg3.out.left_eq, hmeas.out]; exact hllt.out
                  · have t2 : (tq != 1) = true := by simpa using htq
                    have hz := hyes.out (by rw [hcq.out]; simp [hqp.out, htq])
                    replace htq := Lib.hid htq
                    replace hz := Lib.hid hz
                    go_wp2_with (at_lookup; refine wp_look _ rfl _ _ 56 true rfl (.map (some wb)) (.string (mkS q)) _ rfl rfl hlkq.out ?_)
                    (with_reducible refine (hun.out _).mono ?_)
                    rintro e w3 ⟨rfl, hB3⟩
                    have hrg3 := hrg2.out.of_blocks (hB3.block _ hrg2.out.is.lt) (hB3.block _ hrg2.out.lt)
                    have hB03 := below_step hB2.out hB3
                    replace hrg3 := Lib.hid hrg3
                    replace hB03 := Lib.hid hB03
                    clear hB3
                    obtain ⟨qo, hqo, hqo2⟩ := hoth.out
                    subst hqo
                    have hlk9 := hlko.out _ hB03.out
                    rcases hqo2 with ⟨rfl, hs⟩ | ⟨⟨ad, rfl⟩, hs⟩
                    · have hz2 := hz.out
                      rw [hs] at hz2
                      replace hz2 := Lib.hid hz2
                      replace hs := Lib.hid hs
                      go_wp2_with (at_lookup; refine wp_look _ rfl _ _ 54 false rfl (.map (some lb)) (.string (mkS p)) _ rfl rfl hlk9 ?_)
                      go_ret2
                      exact ⟨by rw [hz2.out]; rfl, hB03.out⟩
                    · have hz2 := hz.out
                      rw [hs] at hz2
                      replace hz2 := Lib.hid hz2
                      replace hs := Lib.hid hs
                      go_wp2_with (at_lookup; refine wp_look _ rfl _ _ 54 false rfl (.map (some lb)) (.string (mkS p)) _ rfl rfl hlk9 ?_)
                      go_ret2
                      exact ⟨by rw [hz2.out]; rfl, hB03.out⟩
      · have hz : hk = (0, false) := by rw [hK.out]; simp [ht]
        have t1 : (t != 1) = true := by simpa using ht
        replace hz := Lib.hid hz
        replace ht := Lib.hid ht
        go_enter Try.func20, Try.ntmps20
        go_wp2_with (at_lookup; refine wp_look _ rfl _ _ 54 false rfl (.map (some rb)) (.string (mkS p)) _ rfl rfl (hlk2.out _ (Below.refl _ _)) ?_)
        (with_reducible refine (hd2.out _ (Below.refl _ _)).mono ?_)
        rintro e w0 ⟨rfl, rfl⟩
        go_upto_region 4 with fail
        refine wp_region_grow (by kernel_rfl) (by kernel_rfl) ?_
        repeat (any_goals (first
          | go_big_quiet_step ((go_at_call 22; first | with_reducible exact grow_of _ (hdx1.out _) | with_reducible exact grow_of _ (hdx2.out _)))
          | (refine BigFrame.wpQuiet_want rfl (fun K hK => ?_); refine quiet_lookup _ _ _ _ rfl _ _ _ rfl rfl (by rintro W ⟨x, rfl⟩; first | exact lk1.out x | exact lk2.out x | exact lkw.out x) ?_; refine hK _ ?_; clear hK K; simp only [Act.put, List.setIfInBounds_toArray, List.set_cons_zero, List.set_cons_succ])))
        refine wpQuiet_nil ?_
        rintro w1 ⟨⟨W1, hB1⟩, hW1⟩
        obtain rfl : w1 = W1 := hW1
        go_wp2
        go_ret2
        exact ⟨by rw [hz.out]; rfl, hB1⟩
  | false =>
    cases a with
    | false =>
      have hz : hk = (0, false) := by rw [hK.out]; simp
      replace hz := Lib.hid hz
      go_enter Try.func20, Try.ntmps20
      go_wp2_with (at_lookup; refine wp_look _ rfl _ _ 54 false rfl (.map (some rb)) (.string (mkS p)) _ rfl rfl (hlk2.out _ (Below.refl _ _)) ?_)
      (with_reducible refine (hd2.out _ (Below.refl _ _)).mono ?_)
      rintro e w0 ⟨rfl, rfl⟩
      go_upto_region 4 with fail
      refine wp_region_grow (by kernel_rfl) (by kernel_rfl) ?_
      repeat (any_goals (first
        | go_big_quiet_step ((go_at_call 22; first | with_reducible exact grow_of _ (hdx1.out _) | with_reducible exact grow_of _ (hdx2.out _)))
        | (refine BigFrame.wpQuiet_want rfl (fun K hK => ?_); refine quiet_lookup _ _ _ _ rfl _ _ _ rfl rfl (by rintro W ⟨x, rfl⟩; first | exact lk1.out x | exact lk2.out x | exact lkw.out x) ?_; refine hK _ ?_; clear hK K; simp only [Act.put, List.setIfInBounds_toArray, List.set_cons_zero, List.set_cons_succ])))
      refine wpQuiet_nil ?_
      rintro w1 ⟨⟨W1, hB1⟩, hW1⟩
      obtain rfl : w1 = W1 := hW1
      go_wp2
      go_ret2
      exact ⟨by rw [hz.out]; rfl, hB1⟩
    | true =>
      by_cases ht : t = 2
      · subst ht
        have hoth : ∃ q, g2 = q ∧ ((q = none ∧ s2 = false) ∨ (∃ ad, q = some ad) ∧ s2 = true) := by
          refine ⟨_, rfl, ?_⟩
          cases hS : s2 with
          | false => exact Or.inl ⟨by simpa using hn2.out.2 hS, rfl⟩
          | true =>
            cases hG : g2 with
            | none => exact absurd (hn2.out.1 (by rw [hG])) (by rw [hS]; simp)
            | some ad => exact Or.inr ⟨⟨ad, rfl⟩, rfl⟩
        replace hoth := Lib.hid hoth
        have hoff : belowA l L p 2 = false → hk = (0, false) := fun h => by rw [hK.out]; simp [h]
        have hon : belowA l L p 2 = true → hk = (if s2 = true then 0 else 1, true) := fun h => by rw [hK.out]; simp [h]
        replace hoff := Lib.hid hoff
        replace hon := Lib.hid hon
        go_enter Try.func20, Try.ntmps20
        go_wp2_with (at_lookup; refine wp_look _ rfl _ _ 54 false rfl (.map (some rb)) (.string (mkS p)) _ rfl rfl (hlk2.out _ (Below.refl _ _)) ?_)
        (with_reducible refine (hd2.out _ (Below.refl _ _)).mono ?_)
        rintro e w0 ⟨rfl, rfl⟩
        go_upto_region 4 with fail
        refine wp_region_grow (by kernel_rfl) (by kernel_rfl) ?_
        repeat (any_goals (first
          | go_big_quiet_step ((go_at_call 22; first | with_reducible exact grow_of _ (hdx1.out _) | with_reducible exact grow_of _ (hdx2.out _)))
          | (refine BigFrame.wpQuiet_want rfl (fun K hK => ?_); refine quiet_lookup _ _ _ _ rfl _ _ _ rfl rfl (by rintro W ⟨x, rfl⟩; first | exact lk1.out x | exact lk2.out x | exact lkw.out x) ?_; refine hK _ ?_; clear hK K; simp only [Act.put, List.setIfInBounds_toArray, List.set_cons_zero, List.set_cons_succ])))
        refine wpQuiet_nil ?_
        rintro w1 ⟨⟨W1, hB1⟩, hW1⟩
        obtain rfl : w1 = W1 := hW1
        have hM1' := hM1.out.of_block (hB1.block _ hM1.out.lt)
        replace hM1' := Lib.hid hM1'
        replace hB1 := Lib.hid hB1
        go_wp2_with (at_range; refine wp_range _ rfl _ 54 rfl 9 59 under_states lb _ rfl hM1'.out ?_)
        intro w2 hrg2 hg2 hs2
        have hB2 : Below w.heap.size w w2 := hB1.out.grown hg2 hB1.out.size (fun j hj => by cases hj)
        have hrlt : w.heap.size ≤ w1.heap.size := hB1.out.size
        generalize w1.heap.size = r at *
        replace hrg2 := Lib.hid hrg2
        replace hB2 := Lib.hid hB2
        replace hrlt := Lib.hid hrlt
        clear hg2 hs2 hM1' hB1
        go_wp2_with fail
        try go_frame
        go_loopw [13, 14, 15] (fun q ww dd wr => ∃ (done leftK : List Ent) (left : List (Value × Value)), (∀ x ∈ done, condQ l p 2 x.path = false) ∧ Ranges wr lb r (stE A1 L) left ∧ left.Perm (stE A1 leftK) ∧ (L).Perm (done ++ leftK) ∧ Below w.heap.size w wr) (fun _ _ _ wr => wr.rangeLeft lb r)
        case atStart => exact ⟨[], L, _, by simp, hrg2.out, .refl _, .refl _, hB2.out⟩
        case round =>
          clear hrg2 hB2
          obtain ⟨done, leftK, left, hno, hrg, hLp2, hKp, hB⟩ := hrel
          replace hno := Lib.hid hno
          replace hLp2 := Lib.hid hLp2
          replace hKp := Lib.hid hKp
          replace hB := Lib.hid hB
          go_wp2_with (at_next; refine wp_next _ rfl _ rfl lb r _ _ rfl hrg ?_ ?_)
          · intro hl0
            have hLK : leftK = [] := stE_nil (A := A1) (by have := hLp2.out; rwa [hl0] at this)
            have hLd : (L).Perm done := by
              have := hKp.out
              rwa [hLK, List.append_nil] at this
            have hz := hoff.out (by
              rw [hbL.out, List.any_eq_false]
              intro x hx
              rw [hno.out x (hLd.mem_iff.1 hx)]
              simp)
            replace hz := Lib.hid hz
            clear hrg hl0 hLK hLd
            go_wp2
            go_ret2
            exact ⟨by rw [hz.out]; rfl, hB.out⟩
          · intro x v left' w2 hp2 hmem hrg2 hg2 hs2 hen
            obtain ⟨y, L', hL1, rfl, rfl, hL2⟩ := stE_pick hLp2.out hp2
            have hK2 : (L).Perm ((done ++ [y]) ++ L') := hKp.out.trans (by simpa using hL1.append_left done)
            have hyL : y ∈ L := hK2.mem_iff.2 (by simp)
            have hB2 : Below w.heap.size w w2 := hB.out.grown hg2 hB.out.size (fun b hb => by cases hb; exact hrlt.out)
            have hmeas : wr.rangeLeft lb r = left.length := hrg.left_eq
            have hllt : left'.length < left.length := by have := hp2.length_eq; simp at this; omega
            have hlkq := hlq.out y.path w2 hB2
            have hyp := hLp.out y hyL
            have hcq : condQ l p 2 y.path = (decide (y.path ≠ p) && under y.path p && (actAt l y.path).isSome && decide ((actAt l y.path).getD 0 ≠ 2)) := rfl
            have hyes : condQ l p 2 y.path = true → hk = (if s2 = true then 0 else 1, true) := fun h => hon.out (by
              rw [hbL.out, List.any_eq_true]
              exact ⟨y, hyL, h⟩)
            have hnn : condQ l p 2 y.path = false → ∀ x ∈ done ++ [y], condQ l p 2 x.path = false := fun h x hx => by
              rcases List.mem_append.1 hx with hx | hx
              · exact hno.out x hx
              · rw [List.mem_singleton.1 hx]
                exact h
            generalize condQ l p 2 y.path = cq at *
            generalize y.path = q at *
            generalize (actAt l q).getD 0 = tq at *
            generalize (actAt l q).isSome = sq at *
            generalize hu : under q p = u at *
            have hqs := mkS_size q
            have hun := fun W => under_calls (mkS q) (mkS p) W (by omega) (by omega)
            rw [bl_mkS, bl_mkS, hu] at hun
            have hlko := fun W hW => hlk2.out W hW
            unfold ptr at hen
            replace hK2 := Lib.hid hK2
            replace hL2 := Lib.hid hL2
            replace hmeas := Lib.hid hmeas
            replace hyL := Lib.hid hyL
            replace hB2 := Lib.hid hB2
            replace hllt := Lib.hid hllt
            replace hlkq := Lib.hid hlkq
            replace hcq := Lib.hid hcq
            replace hyes := Lib.hid hyes
            replace hnn := Lib.hid hnn
            replace hun := Lib.hid hun
            replace hlko := Lib.hid hlko
            replace hrg2 := Lib.hid hrg2
            clear hKp hLp2 hL1 hp2 hmem hrg hB hg2 hs2 hno hu
            by_cases hqp : q = p
            · have t1 : ((mkS q).toList == (mkS p).toList) = true := strs_alike (by rw [hqp])
              replace hqp := Lib.hid hqp
              have hn2' := hnn.out (by rw [hcq.out]; first | rfl | simp [hqp.out] | simp [htq.out] | simp)
              replace hn2' := Lib.hid hn2'
              go_wp2_with (at_lookup; refine wp_look _ rfl _ _ 56 true rfl (.map (some wb)) (.string (mkS q)) _ rfl rfl hlkq.out ?_)
              go_roundw
              case rel => exact ⟨done ++ [y], L', left', hn2'.out, hrg2.out, hL2.out, hK2.out, hB2.out⟩
              case measure => rw [hrg2.out.left_eq, hmeas.out]; exact hllt.out
            · have t1 : ((mkS q).toList == (mkS p).toList) = false := strs_diff (fun e => hqp (mkS_inj e))
              replace hqp := Lib.hid hqp
              cases u with
              | false =>
                go_wp2_with (at_lookup; refine wp_look _ rfl _ _ 56 true rfl (.map (some wb)) (.string (mkS q)) _ rfl rfl hlkq.out ?_)
                (with_reducible refine (hun.out _).mono ?_)
                rintro e w3 ⟨rfl, hB3⟩
                have hrg3 := hrg2.out.of_blocks (hB3.block _ hrg2.out.is.lt) (hB3.block _ hrg2.out.lt)
                have hB03 := below_step hB2.out hB3
                replace hrg3 := Lib.hid hrg3
                replace hB03 := Lib.hid hB03
                clear hB3
                have hn2' := hnn.out (by rw [hcq.out]; first | rfl | simp [htq.out] | simp)
                replace hn2' := Lib.hid hn2'
                go_wp2
                go_roundw
                case rel => exact ⟨done ++ [y], L', left', hn2'.out, hrg3.out, hL2.out, hK2.out, hB03.out⟩
                case measure => rw [hrg3.out.left_eq, hmeas.out]; exact hllt.out
              | true =>
                cases sq with
                | false =>
                  go_wp2_with (at_lookup; refine wp_look _ rfl _ _ 56 true rfl (.map (some wb)) (.string (mkS q)) _ rfl rfl hlkq.out ?_)
                  (with_reducible refine (hun.out _).mono ?_)
                  rintro e w3 ⟨rfl, hB3⟩
                  have hrg3 := hrg2.out.of_blocks (hB3.block _ hrg2.out.is.lt) (hB3.block _ hrg2.out.lt)
                  have hB03 := below_step hB2.out hB3
                  replace hrg3 := Lib.hid hrg3
                  replace hB03 := Lib.hid hB03
                  clear hB3
                  have hn2' := hnn.out (by rw [hcq.out]; first | rfl | simp [htq.out] | simp)
                  replace hn2' := Lib.hid hn2'
                  go_wp2
                  go_roundw
                  case rel => exact ⟨done ++ [y], L', left', hn2'.out, hrg3.out, hL2.out, hK2.out, hB03.out⟩
                  case measure => rw [hrg3.out.left_eq, hmeas.out]; exact hllt.out
                | true =>
                  by_cases htq : tq = 2
                  · have t2 : (tq != 2) = false := by simpa using htq
                    replace htq := Lib.hid htq
                    go_wp2_with (at_lookup; refine wp_look _ rfl _ _ 56 true rfl (.map (some wb)) (.string (mkS q)) _ rfl rfl hlkq.out ?_)
                    (with_reducible refine (hun.out _).mono ?_)
                    rintro e w3 ⟨rfl, hB3⟩
                    have hrg3 := hrg2.out.of_blocks (hB3.block _ hrg2.out.is.lt) (hB3.block _ hrg2.out.lt)
                    have hB03 := below_step hB2.out hB3
                    replace hrg3 := Lib.hid hrg3
                    replace hB03 := Lib.hid hB03
                    clear hB3
                    have hn2' := hnn.out (by rw [hcq.out]; first | rfl | simp [htq.out] | simp)
                    replace hn2' := Lib.hid hn2'
                    go_wp2
                    go_roundw
                    case rel => exact ⟨done ++ [y], L', left', hn2'.out, hrg3.out, hL2.out, hK2.out, hB03.out⟩
                    case measure => rw [hrg3.out.left_eq, hmeas.out]; exact hllt.out
                  · have t2 : (tq != 2) = true := by simpa using htq
                    have hz := hyes.out (by rw [hcq.out]; simp [hqp.out, htq])
                    replace htq := Lib.hid htq
                    replace hz := Lib.hid hz
                    go_wp2_with (at_lookup; refine wp_look _ rfl _ _ 56 true rfl (.map (some wb)) (.string (mkS q)) _ rfl rfl hlkq.out ?_)
                    (with_reducible refine (hun.out _).mono ?_)
                    rintro e w3 ⟨rfl, hB3⟩
                    have hrg3 := hrg2.out.of_blocks (hB3.block _ hrg2.out.is.lt) (hB3.block _ hrg2.out.lt)
                    have hB03 := below_step hB2.out hB3
                    replace hrg3 := Lib.hid hrg3
                    replace hB03 := Lib.hid hB03
                    clear hB3
                    obtain ⟨qo, hqo, hqo2⟩ := hoth.out
                    subst hqo
                    have hlk9 := hlko.out _ hB03.out
                    rcases hqo2 with ⟨rfl, hs⟩ | ⟨⟨ad, rfl⟩, hs⟩
                    · have hz2 := hz.out
                      rw [hs] at hz2
                      replace hz2 := Lib.hid hz2
                      replace hs := Lib.hid hs
                      go_wp2_with (at_lookup; refine wp_look _ rfl _ _ 54 false rfl (.map (some rb)) (.string (mkS p)) _ rfl rfl hlk9 ?_)
                      go_ret2
                      exact ⟨by rw [hz2.out]; rfl, hB03.out⟩
                    · have hz2 := hz.out
                      rw [hs] at hz2
                      replace hz2 := Lib.hid hz2
                      replace hs := Lib.hid hs
                      go_wp2_with (at_lookup; refine wp_look _ rfl _ _ 54 false rfl (.map (some rb)) (.string (mkS p)) _ rfl rfl hlk9 ?_)
                      go_ret2
                      exact ⟨by rw [hz2.out]; rfl, hB03.out⟩
      · have hz : hk = (0, false) := by rw [hK.out]; simp [ht]
        have t1 : (t != 2) = true := by simpa using ht
        replace hz := Lib.hid hz
        replace ht := Lib.hid ht
        go_enter Try.func20, Try.ntmps20
        go_wp2_with (at_lookup; refine wp_look _ rfl _ _ 54 false rfl (.map (some rb)) (.string (mkS p)) _ rfl rfl (hlk2.out _ (Below.refl _ _)) ?_)
        (with_reducible refine (hd2.out _ (Below.refl _ _)).mono ?_)
        rintro e w0 ⟨rfl, rfl⟩
        go_upto_region 4 with fail
        refine wp_region_grow (by kernel_rfl) (by kernel_rfl) ?_
        repeat (any_goals (first
          | go_big_quiet_step ((go_at_call 22; first | with_reducible exact grow_of _ (hdx1.out _) | with_reducible exact grow_of _ (hdx2.out _)))
          | (refine BigFrame.wpQuiet_want rfl (fun K hK => ?_); refine quiet_lookup _ _ _ _ rfl _ _ _ rfl rfl (by rintro W ⟨x, rfl⟩; first | exact lk1.out x | exact lk2.out x | exact lkw.out x) ?_; refine hK _ ?_; clear hK K; simp only [Act.put, List.setIfInBounds_toArray, List.set_cons_zero, List.set_cons_succ])))
        refine wpQuiet_nil ?_
        rintro w1 ⟨⟨W1, hB1⟩, hW1⟩
        obtain rfl : w1 = W1 := hW1
        go_wp2
        go_ret2
        exact ⟨by rw [hz.out]; rfl, hB1⟩

end Go.Proofs.Ytcjlfkklpghjbaa

namespace Go.Proofs.Ytcjlfkklpghjbaa
open Go.RowKit

theorem cell_kept {W W' : World} {m : Nat} {lm : List (Value × Value)} {a : Addr} {v : Value} (hm : MapIs W m lm) (hg : W.grownBy W' (some m)) (h : W.cell? a = some v) : W'.cell? a = some v := by
  have hlt := ent_cell_lt h
  have hne : a.block ≠ m := fun e => by
    obtain ⟨es, clock, hb, _⟩ := hm
    simp [World.cell?, e, hb] at h
  rw [← h]
  simp only [World.cell?, hg.block a.block hlt (fun e => hne (by cases e; rfl))]
theorem Rd.kept {W W' : World} {m : Nat} {lm : List (Value × Value)} {v : Value} {l : List Bytes} (h : Rd W v l) (hm : MapIs W m lm) (hg : W.grownBy W' (some m)) : Rd W' v l := by
  obtain ⟨A, c, h1, h2, h3, hc⟩ := h
  refine ⟨A, c, h1, h2, h3, fun j u hj => ?_⟩
  obtain ⟨g, o, e, hcell⟩ := hc j u hj
  exact ⟨g, o, e, cell_kept hm hg hcell⟩
theorem States.kept {W W' : World} {m b : Nat} {lm : List (Value × Value)} {l : List Ent} (h : States W b l) (hm : MapIs W m lm) (hg : W.grownBy W' (some m)) (hb : b ≠ m) : States W' b l := by
  obtain ⟨A, h1, h2⟩ := h
  refine ⟨A, h1.kept hg (fun e => hb (by cases e; rfl)), fun x hx => ?_⟩
  refine (hg.block _ (Array.getElem?_eq_some_iff.1 (h2 x hx)).1 (fun e => ?_)).trans (h2 x hx)
  cases e
  obtain ⟨es, clock, hb', _⟩ := hm
  have := h2 x hx
  rw [hb'] at this
  cases this
theorem grown_low {w a b : World} {m : Option Nat} {row : Option Nat} (h : w.grownBy a m) (h2 : a.grownBy b row) (hr : ∀ j, row = some j → some j = m ∨ w.heap.size ≤ j) : w.grownBy b m :=
  ⟨h2.os.trans h.os, h2.tape.trans h.tape, h2.output.trans h.output, Nat.le_trans h.size h2.size, fun i hi hne => by
    refine (h2.block i (Nat.lt_of_lt_of_le hi h.size) (fun e => ?_)).trans (h.block i hi hne)
    rcases hr i e.symm with e2 | e2
    · exact hne e2
    · omega⟩
theorem below_of_grown {w a b : World} {m : Nat} (h : Below w.heap.size w a) (h2 : a.grownBy b (some m)) (hm : w.heap.size ≤ m) : Below w.heap.size w b := h.grown h2 h.size (fun j hj => by cases hj; exact hm)
/-- Two own rows of other elements lie apart. -/
theorem own_apart {W : World} {B B' : Nat} {t u : TypeId} {s s' n n' : Nat} {v v' : Value} {xs ys : List Value} (h : W.ownsRow B t s v n xs) (h' : W.ownsRow B' u s' v' n' ys) (hne : t ≠ u) : ∀ b, v.ownBlock = some b → some b ≠ v'.ownBlock := by
  intro b hb e
  obtain ⟨_, c1, h1⟩ := own_cells h hb
  obtain ⟨_, c2, h2⟩ := own_cells h' e.symm
  rw [h1] at h2
  simp only [Option.some.injEq, Obj.cells.injEq] at h2
  exact hne h2.2.1

theorem actsOf_nodup {W L R : List Ent} {po : Int} {u : List Bytes} (h : u.Nodup) : ((actsOf W L R po u).map (·.1)).Nodup := by
  unfold actsOf
  rw [List.map_map]
  have : (fun y : Bytes × Int => y.1) ∘ (fun p => (p, wishAt W L R po p)) = id := rfl
  rw [this, List.map_id]
  exact h.sublist List.filter_sublist
theorem heldL_fst (l : Acts44) (L R : List Ent) : (heldL l L R).map (·.1) = l.map (·.1) := by
  unfold heldL
  rw [List.map_map]
  rfl
theorem heldL_take (l : Acts44) (L R : List Ent) {k : Nat} (hk : k < l.length) : (heldL l L R).take (k + 1) = (heldL l L R).take k ++ [(l[k].1, heldA l L R l[k])] := by
  have hh : k < (heldL l L R).length := by rw [heldL, List.length_map]; exact hk
  rw [List.take_succ_eq_append_getElem hh]
  congr 1
  simp [heldL]
theorem fst_new {l : Acts44} (h : (l.map (·.1)).Nodup) {k : Nat} (hk : k < l.length) {r : Acts44} (hr : r.map (·.1) = l.map (·.1)) : ∀ y ∈ r.take k, y.1 ≠ l[k].1 := by
  intro y hy e
  obtain ⟨i, hi, rfl⟩ := List.mem_iff_getElem.1 hy
  rw [List.length_take] at hi
  have hil : i < r.length := by omega
  have h1 : (r.map (·.1))[i]'(by rw [List.length_map]; exact hil) = r[i].1 := by rw [List.getElem_map]
  rw [List.getElem_take] at e
  have hlr : r.length = l.length := by have := congrArg List.length hr; simpa using this
  have h2 : (l.map (·.1))[i]'(by rw [List.length_map]; omega) = (l.map (·.1))[k]'(by rw [List.length_map]; omega) := by
    have h4 : (l.map (·.1))[k]'(by rw [List.length_map]; omega) = l[k].1 := List.getElem_map ..
    rw [h4, ← e, ← h1]
    simp only [hr]
  have h3 := (List.getElem_inj h).1 h2
  omega

end Go.Proofs.Ytcjlfkklpghjbaa

namespace Go.Proofs.Ytcjlfkklpghjbaa
open Go.RowKit

theorem info_ract : (Try.prog.info? 38).map (fun i => (i.zero, i.size, i.bytes)) = some (some (.agg #[.string ⟨#[]⟩, .int .i64 0]), 2, 24) := by kernel_rfl
set_option maxHeartbeats 8000000 in
set_option maxRecDepth 100000 in
theorem plan_calls (vw vl vr : Value) (W L R : List Ent) (po : Int) (w : World) (hW : Ents w vw W) (hL : Ents w vl L) (hR : Ents w vr R) (sW : smallEs W = true) (sL : smallEs L = true) (sR : smallEs R = true) :
    Calls Try.prog 7 #[vw, vl, vr, .int .i64 po] w fun e w' => (∃ v', e = .returned (.tuple #[v', .int .i64 (planE W L R po).2]) ∧ w'.ownsRow w.heap.size 38 2 v' (planE W L R po).1.length (actRow (planE W L R po).1)) ∧ Below w.heap.size w w' := by
  obtain ⟨Z0, z0, rfl, _, hz0⟩ := hW.shape
  obtain ⟨Z1, z1, rfl, _, hz1⟩ := hL.shape
  obtain ⟨Z2, z2, rfl, _, hz2⟩ := hR.shape
  unfold maxLen at hz0 hz1 hz2
  have hW60 := (smallEs_at sW).1
  have hL60 := (smallEs_at sL).1
  have hR60 := (smallEs_at sR).1
  have hrows : ∀ k, k < 3 → ∃ (X : List Ent) (Zx : Option Addr) (zx : Nat), row3 W L R k = X ∧ (∀ wr : World, wr.heap[w.heap.size]? = some (.cells #[.slice Z0 W.length z0, .slice Z1 L.length z1, .slice Z2 R.length z2] 22 (0, 0)) → wr.cell? ⟨w.heap.size, k, none⟩ = some (.slice Zx X.length zx)) ∧ Ents w (.slice Zx X.length zx) X ∧ smallEs X = true := fun k hk => by
    have hk3 : k = 0 ∨ k = 1 ∨ k = 2 := by omega
    rcases hk3 with rfl | rfl | rfl
    · exact ⟨W, Z0, z0, rfl, fun wr h => cell_of (j := 0) h rfl, hW, sW⟩
    · exact ⟨L, Z1, z1, rfl, fun wr h => cell_of (j := 1) h rfl, hL, sL⟩
    · exact ⟨R, Z2, z2, rfl, fun wr h => cell_of (j := 2) h rfl, hR, sR⟩
  have hfail := fun k (hk : k < 3) => @planE_fail W L R po k hk
  have hon := @planE_on W L R po
  have hB1 := below_alloc (Below.refl w.heap.size w) (.cells #[.slice Z0 W.length z0, .slice Z1 L.length z1, .slice Z2 R.length z2] 22)
  have hblk := heap_alloc_new w (.cells #[.slice Z0 W.length z0, .slice Z1 L.length z1, .slice Z2 R.length z2] 22)
  have hLp : ∀ x ∈ L, x.path.length ≤ 1000000 := fun x hx => by
    have := ((smallEs_at sL).2 x hx).1
    omega
  have hRp : ∀ x ∈ R, x.path.length ≤ 1000000 := fun x hx => by
    have := ((smallEs_at sR).2 x hx).1
    omega
  obtain ⟨u0, hu0⟩ : ∃ u0, upaths L R = u0 := ⟨_, rfl⟩
  have hu2 : u0.Pairwise (fun a b => lessP a b = true) ∧ ∀ x, x ∈ u0 ↔ x ∈ entPaths L ∨ x ∈ entPaths R := by rw [← hu0]; exact upaths_is L R
  have hup : u0.length ≤ 120 := by
    have h := List.Nodup.length_le_of_subset (rise_nodup hu2.1) (l₂ := entPaths L ++ entPaths R) (fun x hx => List.mem_append.2 ((hu2.2 x).1 hx))
    rw [List.length_append] at h
    unfold entPaths at h
    simp only [List.length_map] at h
    omega
  have hupl : ∀ x ∈ u0, x.length ≤ 1000000 := fun x hx => by
    rcases (hu2.2 x).1 hx with h | h
    · obtain ⟨y, hy, rfl⟩ := List.mem_map.1 h
      exact hLp y hy
    · obtain ⟨y, hy, rfl⟩ := List.mem_map.1 h
      exact hRp y hy
  replace hu0 := Lib.hid hu0
  replace hup := Lib.hid hup
  replace hu2 := Lib.hid hu2
  replace hupl := Lib.hid hupl
  replace hW := Lib.hid hW
  replace hL := Lib.hid hL
  replace hR := Lib.hid hR
  replace sW := Lib.hid sW
  replace sL := Lib.hid sL
  replace sR := Lib.hid sR
  replace hrows := Lib.hid hrows
  replace hfail := Lib.hid hfail
  replace hon := Lib.hid hon
  replace hB1 := Lib.hid hB1
  replace hblk := Lib.hid hblk
  replace hLp := Lib.hid hLp
  replace hRp := Lib.hid hRp
  have hmk := @run_makeMap Try.prog
  go_enter Try.func7, Try.ntmps7
  go_wp2_with fail
  go_loopw [37] (fun i wr => ∃ k : Nat, i = .int .i64 k ∧ k ≤ 3 ∧ (∀ j, j < k → chk (row3 W L R j) = 0) ∧ wr.heap[w.heap.size]? = some (.cells #[.slice Z0 W.length z0, .slice Z1 L.length z1, .slice Z2 R.length z2] 22 (0, 0)) ∧ Below w.heap.size w wr) (fun i _ => 3 - (intOf i).toNat)
  case atStart => exact ⟨0, rfl, Nat.zero_le _, fun j hj => absurd hj (Nat.not_lt_zero _), hblk.out, hB1.out⟩
  case round =>
    clear hB1 hblk
    obtain ⟨k, rfl, hk, hz, hbk, hB⟩ := hrel
    by_cases hlt : k < 3
    · obtain ⟨X, Zx, zx, hX, hcell, hEX, sX⟩ := hrows.out k hlt
      have hfk := hfail.out k hlt hz
      have bx := hcell wr hbk
      have hck := fun V hV => fcheck_calls (.slice Zx X.length zx) X V hV sX
      have hz2 : chk X = 0 → ∀ j, j < k + 1 → chk (row3 W L R j) = 0 := fun e j hj => by
        rcases Nat.lt_succ_iff_lt_or_eq.1 hj with h | rfl
        · exact hz j h
        · rw [hX]; exact e
      rw [hX] at hfk
      have hki : (k : Int) < 3 := by omega
      generalize chk X = c at *
      have hlb := (Array.getElem?_eq_some_iff.1 hbk).1
      replace hX := Lib.hid hX
      replace hcell := Lib.hid hcell
      replace hEX := Lib.hid hEX
      replace sX := Lib.hid sX
      replace hfk := Lib.hid hfk
      replace hck := Lib.hid hck
      replace hz2 := Lib.hid hz2
      replace hz := Lib.hid hz
      replace hbk := Lib.hid hbk
      replace hB := Lib.hid hB
      go_wp2_with fail
      (with_reducible refine (hck.out _ (hEX.out.below hB.out)).mono ?_)
      rintro e w3 ⟨rfl, hB3⟩
      have hb3 := (hB3.block _ hlb).trans hbk.out
      have hB03 := below_step hB.out hB3
      clear hB3
      by_cases hc : c = 0
      · have t0 : (c != 0) = false := by simpa using hc
        have hzz := hz2.out hc
        replace hzz := Lib.hid hzz
        replace hb3 := Lib.hid hb3
        replace hB03 := Lib.hid hB03
        replace hc := Lib.hid hc
        go_wp2
        go_roundw
        case rel => exact ⟨k + 1, by go_num, by omega, hzz.out, hb3.out, hB03.out⟩
        case measure => simp [intOf]; omega
      · have t0 : (c != 0) = true := by simpa using hc
        have hpe := hfk.out hc
        replace hb3 := Lib.hid hb3
        replace hB03 := Lib.hid hB03
        replace hc := Lib.hid hc
        replace hpe := Lib.hid hpe
        go_wp2
        go_ret2
        refine ⟨⟨.slice none 0 0, by rw [hpe.out]; rfl, ?_⟩, hB03.out⟩
        rw [hpe.out]
        exact World.ownsRow_nil _ _ _ _
    · obtain rfl : k = 3 := by omega
      have hpe := hon.out hz
      have rW : Rise W := (chk_ok (hz 0 (by omega))).rise
      have rL : Rise L := (chk_ok (hz 1 (by omega))).rise
      have rR : Rise R := (chk_ok (hz 2 (by omega))).rise
      by_cases hpo : po < 0 ∨ 3 < po
      · rw [if_pos hpo] at hpe
        replace hpe := Lib.hid hpe
        replace hz := Lib.hid hz
        replace hbk := Lib.hid hbk
        replace hB := Lib.hid hB
        by_cases hp1 : po < 0
        · go_wp2
          go_ret2
          refine ⟨⟨.slice none 0 0, by rw [hpe.out]; rfl, ?_⟩, hB.out⟩
          rw [hpe.out]
          exact World.ownsRow_nil _ _ _ _
        · have hp2 : 3 < po := by omega
          go_wp2
          go_ret2
          refine ⟨⟨.slice none 0 0, by rw [hpe.out]; rfl, ?_⟩, hB.out⟩
          rw [hpe.out]
          exact World.ownsRow_nil _ _ _ _
      · rw [if_neg hpo] at hpe
        have hp1 : ¬ po < 0 := by omega
        have hp2 : ¬ 3 < po := by omega
        have o0 := of_calls (.slice Z0 W.length z0) W wr (hW.out.below hB) rW (by omega)
        have o1 := fun V hV => of_calls (.slice Z1 L.length z1) L V hV rL (by omega)
        have o2 := fun V hV => of_calls (.slice Z2 R.length z2) R V hV rR (by omega)
        replace hpe := Lib.hid hpe
        replace hz := Lib.hid hz
        replace hbk := Lib.hid hbk
        replace hB := Lib.hid hB
        replace o0 := Lib.hid o0
        replace o1 := Lib.hid o1
        replace o2 := Lib.hid o2
        replace rW := Lib.hid rW
        replace rL := Lib.hid rL
        replace rR := Lib.hid rR
        go_wp2_with fail
        (with_reducible refine (o0.out).mono ?_)
        rintro e w1 ⟨⟨bw, rfl, hbw, hSw⟩, hB1⟩
        have hB01 := below_step hB.out hB1
        replace hbw := Lib.hid hbw
        replace hSw := Lib.hid hSw
        replace hB01 := Lib.hid hB01
        clear hB1 o0
        go_wp2_with fail
        (with_reducible refine (o1.out _ (hL.out.below hB01.out)).mono ?_)
        rintro e w2 ⟨⟨ba, rfl, hba, hSa⟩, hB2⟩
        have hB02 := below_step hB01.out hB2
        have hSw2 := hSw.out.below hB2
        replace hba := Lib.hid hba
        replace hSa := Lib.hid hSa
        replace hB02 := Lib.hid hB02
        replace hSw2 := Lib.hid hSw2
        clear hB2 o1 hSw
        go_wp2_with fail
        (with_reducible refine (o2.out _ (hR.out.below hB02.out)).mono ?_)
        rintro e w3 ⟨⟨bb, rfl, hbb, hSb⟩, hB3⟩
        have hB03 := below_step hB02.out hB3
        have hSw3 := hSw2.out.below hB3
        have hSa3 := hSa.out.below hB3
        have hl1 := hSw3.lt
        have hl2 := hSa3.lt
        have hl3 := hSb.lt
        clear hB3 o2 hSw2 hSa hB01 hB02 hbw hba hbb
        -- the two maps, the row of two
        have m1 := mapIs_made w3
        have hBa := below_alloc (Below.refl w3.heap.size w3) (.map #[] 0)
        have m2 := mapIs_made (w3.alloc (.map #[] 0))
        have hBb := below_alloc hBa (.map #[] 0)
        have m1' := m1.of_block ((below_alloc (Below.refl _ _) (.map #[] 0)).block _ m1.lt)
        have hs1 : (w3.alloc (.map #[] 0)).heap.size = w3.heap.size + 1 := by simp
        rw [hs1] at m2
        have hs2 : ((w3.alloc (.map #[] 0)).alloc (.map #[] 0)).heap.size = w3.heap.size + 1 + 1 := by simp
        have hg := heap_alloc_new ((w3.alloc (.map #[] 0)).alloc (.map #[] 0)) (.cells #[.map (some ba), .map (some bb)] 54)
        rw [hs2] at hg
        have hBc := below_alloc hBb (.cells #[.map (some ba), .map (some bb)] 54)
        have hso := rsorted_calls (w3.heap.size + 1 + 1) [ba, bb] [L, R] (((w3.alloc (.map #[] 0)).alloc (.map #[] 0)).alloc (.cells #[.map (some ba), .map (some bb)] 54)) rfl (by simp) (fun k B X hk hx => by
          match k, hk, hx with
          | 0, hk, hx =>
            simp only [List.getElem?_cons_zero, Option.some.injEq] at hk hx
            subst hk hx
            exact ⟨cell_of (j := 0) hg rfl, hSa3.below hBc⟩
          | 1, hk, hx =>
            simp only [List.getElem?_cons_succ, List.getElem?_cons_zero, Option.some.injEq] at hk hx
            subst hk hx
            exact ⟨cell_of (j := 1) hg rfl, hSb.below hBc⟩
          | k + 2, hk, hx => simp at hk) (by simp; omega) (fun y hy => by
          simp only [List.flatten_cons, List.flatten_nil, List.append_nil, List.mem_append] at hy
          rcases hy with hy | hy
          · exact Nat.le_trans (hLp.out y hy) (by omega)
          · exact Nat.le_trans (hRp.out y hy) (by omega))
        rw [show ([ba, bb] : List Nat).length = 2 from rfl] at hso
        have hm1c := m1'.of_block ((below_alloc (Below.refl _ _) (.cells #[.map (some ba), .map (some bb)] 54)).block _ m1'.lt)
        have hm2c := m2.of_block ((below_alloc (Below.refl _ _) (.cells #[.map (some ba), .map (some bb)] 54)).block _ m2.lt)
        have hlow := hB03.size
        replace m1 := Lib.hid m1
        replace m2 := Lib.hid m2
        replace hBa := Lib.hid hBa
        replace hBb := Lib.hid hBb
        replace m1' := Lib.hid m1'
        replace hs1 := Lib.hid hs1
        replace hs2 := Lib.hid hs2
        replace hg := Lib.hid hg
        replace hSw3 := Lib.hid hSw3
        replace hSa3 := Lib.hid hSa3
        replace hSb := Lib.hid hSb
        replace hl1 := Lib.hid hl1
        replace hl2 := Lib.hid hl2
        replace hl3 := Lib.hid hl3
        replace hB03 := Lib.hid hB03
        replace hBc := Lib.hid hBc
        replace hso := Lib.hid hso
        replace hm1c := Lib.hid hm1c
        replace hm2c := Lib.hid hm2c
        replace hlow := Lib.hid hlow
        go_wp2_with fail
        (with_reducible refine (hso.out).mono ?_)
        rintro e w4 ⟨⟨v4, o4, rfl, hMet, hS4⟩, hB4⟩
        have hso4 : sortP o4 = u0 := by
          rw [← hu0.out]
          refine sort_upaths hMet.nodup (fun x => ?_)
          rw [hMet.mem]
          simp [entPaths]
        rw [hso4] at hS4
        have hrd := hS4.rd
        have hB34 := hBc.out.trans (hB4.mono hBc.out.size)
        have hm1d := hm1c.out.of_block (hB4.block _ hm1c.out.lt)
        have hm2d := hm2c.out.of_block (hB4.block _ hm2c.out.lt)
        have hSw4 := hSw3.out.below hB34
        have hSa4 := hSa3.out.below hB34
        have hSb4 := hSb.out.below hB34
        have hB04 := below_step hB03.out hB34
        obtain ⟨A4, c4, rfl, hc41, hc42⟩ := hrd.shape
        unfold maxLen at hc42
        have hl1' := hl1.out
        have hl2' := hl2.out
        have hl3' := hl3.out
        have hm2lt := hm2d.lt
        clear hS4 hMet hB4 hso4 hBc hso hB34 hm1c hm2c m1 m2 hBa hBb m1' hs1 hs2 hg hSw3 hSa3 hSb hl1 hl2 hl3 hB03 hB
        generalize w3.heap.size = mb1 at *
        obtain ⟨mb2, hmb2⟩ : ∃ mb2, mb2 = mb1 + 1 := ⟨_, rfl⟩
        rw [← hmb2] at hm2d hm2lt
        try rw [← hmb2]
        have hn12 : mb2 ≠ mb1 := by omega
        have hSt : ∀ X, w4.grownBy X (some mb1) → States X bw W ∧ States X ba L ∧ States X bb R ∧ Rd X (.slice A4 u0.length c4) u0 ∧ MapIs X mb2 (intE []) := fun X hX => ⟨hSw4.kept hm1d hX (by omega), hSa4.kept hm1d hX (by omega), hSb4.kept hm1d hX (by omega), hrd.kept hm1d hX, hm2d.kept hX (fun e => hn12 (by cases e; rfl))⟩
        replace hSt := Lib.hid hSt
        replace hSw4 := Lib.hid hSw4
        replace hSa4 := Lib.hid hSa4
        replace hSb4 := Lib.hid hSb4
        replace hm1d := Lib.hid hm1d
        replace hm2d := Lib.hid hm2d
        replace hrd := Lib.hid hrd
        replace hB04 := Lib.hid hB04
        replace hl1' := Lib.hid hl1'
        replace hl2' := Lib.hid hl2'
        replace hl3' := Lib.hid hl3'
        replace hm2lt := Lib.hid hm2lt
        replace hmb2 := Lib.hid hmb2
        replace hn12 := Lib.hid hn12
        go_wp2_with fail
        go_loopw [18, 66] (fun d i wr => ∃ k : Nat, i = .int .i64 k ∧ k ≤ u0.length ∧ w4.grownBy wr (some mb1) ∧ MapIs wr mb1 (intE (actsOf W L R po (u0.take k))) ∧ Strs w4.heap.size wr d ((actsOf W L R po (u0.take k)).map (·.1))) (fun _ i _ => u0.length - (intOf i).toNat)
        case atStart => exact ⟨0, rfl, Nat.zero_le _, World.grownBy.refl _ _, hm1d.out, World.ownsRow_nil _ _ _ _⟩
        case round =>
          obtain ⟨k, rfl, hk', hG, hM, hS⟩ := hrel
          by_cases hlt' : k < u0.length
          · obtain ⟨hSw5, hSa5, hSb5, hrd5, _⟩ := hSt.out wr hG
            obtain ⟨g, o, hgo, c1⟩ := hrd5.cell hlt'
            cases hgo
            have hsn := actsOf_snoc W L R po (u0.take k) u0[k]
            rw [← List.take_succ_eq_append_getElem hlt'] at hsn
            have hak : (actsOf W L R po (u0.take k)).length ≤ 120 := by
              have h1 := actsOf_len W L R po (u0.take k)
              rw [List.length_take] at h1
              have := hup.out
              omega
            have hnew : ∀ y ∈ actsOf W L R po (u0.take k), y.1 ≠ u0[k] := fun y hy e => by
              obtain ⟨z, hz, rfl⟩ := List.mem_map.1 hy
              have hz2 := (List.mem_filter.1 hz).1
              obtain ⟨i, hi, hie⟩ := List.mem_iff_getElem.1 hz2
              rw [List.length_take] at hi
              rw [List.getElem_take] at hie
              dsimp only at e
              rw [← hie] at e
              have := (List.getElem_inj (rise_nodup hu2.out.1)).1 e
              omega
            have hql : u0[k].length ≤ 1000000 := hupl.out _ (List.getElem_mem hlt')
            have hdf : differs L R u0[k] = !alikeE (entAt L u0[k]) (entAt R u0[k]) := rfl
            have hwq : wishAt W L R po u0[k] = wishE (entAt W u0[k]) (entAt L u0[k]) (entAt R u0[k]) po := rfl
            rw [hdf, hwq] at hsn
            clear hdf hwq
            generalize u0[k] = q at *
            obtain ⟨va, hva, lka⟩ := st_look hSa5 q
            obtain ⟨vb, hvb, lkb⟩ := st_look hSb5 q
            have k1 := ralike_calls va vb (entAt L q) (entAt R q) wr hva hvb
            replace lka := lka wr (Below.refl _ _)
            replace lkb := lkb wr (Below.refl _ _)
            have lkw := lka
            obtain ⟨ga, rfl⟩ := hva.shape
            obtain ⟨gb, rfl⟩ := hvb.shape
            generalize alikeE (entAt L q) (entAt R q) = al at *
            generalize hak2 : actsOf W L R po (u0.take k) = ak at *
            have hki : (k : Int) < (u0.length : Int) := by omega
            have hdl : (ak.map (·.1)).length = ak.length := List.length_map ..
            generalize hds : ak.map (·.1) = ds at *
            obtain ⟨oA, oc, ho, ho1, ho2⟩ := own_shape hS.own
            subst ho
            unfold maxLen at ho2
            replace hG := Lib.hid hG
            replace hM := Lib.hid hM
            replace hS := Lib.hid hS
            replace hSw5 := Lib.hid hSw5
            replace hSa5 := Lib.hid hSa5
            replace hSb5 := Lib.hid hSb5
            replace hrd5 := Lib.hid hrd5
            replace hsn := Lib.hid hsn
            replace hnew := Lib.hid hnew
            replace hva := Lib.hid hva
            replace hvb := Lib.hid hvb
            replace k1 := Lib.hid k1
            replace hak2 := Lib.hid hak2
            replace hak := Lib.hid hak
            replace hdl := Lib.hid hdl
            replace hds := Lib.hid hds
            replace hql := Lib.hid hql
            go_wp2_with (at_lookup; first | (refine wp_look _ rfl _ _ 54 false rfl (.map (some bw)) (.string (mkS q)) _ rfl rfl lkw ?_) | (refine wp_look _ rfl _ _ 54 false rfl (.map (some ba)) (.string (mkS q)) _ rfl rfl lka ?_) | (refine wp_look _ rfl _ _ 54 false rfl (.map (some bb)) (.string (mkS q)) _ rfl rfl lkb ?_))
            (with_reducible refine (k1.out).mono ?_)
            rintro e w5 ⟨rfl, hB5⟩
            have G5 := grown_low hG.out (grown_below hB5 none) (fun j e => by cases e)
            have M5 := hM.out.of_block (hB5.block _ hM.out.lt)
            have S5 : Strs w4.heap.size w5 (.slice oA ds.length oc) ds := own_below hS.out hB5
            have c2 := (hB5.cell (cell_lt c1)).trans c1
            replace G5 := Lib.hid G5
            replace M5 := Lib.hid M5
            replace S5 := Lib.hid S5
            clear hG hM hS hB5 hSw5 hSa5 hSb5 hrd5 lka lkb lkw c1
            cases al with
            | true =>
              have hs2 := hsn.out
              rw [Bool.not_true, if_neg (by simp), List.append_nil] at hs2
              replace hs2 := Lib.hid hs2
              go_wp2
              go_roundw
              case rel => exact ⟨k + 1, by go_num, by omega, G5.out, by rw [hs2.out]; exact M5.out, by rw [hs2.out, hds.out]; exact S5.out⟩
              case measure => simp [intOf]; omega
            | false =>
              have hs2 := hsn.out
              rw [Bool.not_false, if_pos rfl] at hs2
              replace hs2 := Lib.hid hs2
              go_wp2_with (at_builtin; refine wp_append1 w4.heap.size rfl (.tmp 78) (.tmp 80) 46 9 rfl Try.underlying46 (.string ⟨#[]⟩) 1 16 info_string rfl (by decide) (.slice oA ds.length oc) _ _ rfl [.string (mkS q)] rfl S5.out rfl ?_ ?_ ?_ G5.out.size ?_)
              · simp [Value.oneCell']
              · have := hak.out; have := hdl.out; simp only [maxLen]; omega
              · have := hak.out; have := hdl.out; omega
              · intro v1 w6 g1 hg6 hat
                have G6 := grown_low G5.out hg6 (fun j e => Or.inr (own_base S5.out j e))
                have M6 := M5.out.kept hg6 (fun e => own_ne_map S5.out M5.out _ e.symm rfl)
                have S6 : Strs w4.heap.size w6 v1 (ds ++ [q]) := Strs.snoc g1
                obtain ⟨hSw6, hSa6, hSb6, _, _⟩ := hSt.out w6 G6
                obtain ⟨xw, hxw, lkw⟩ := st_look hSw6 q
                obtain ⟨xa, hxa, lka⟩ := st_look hSa6 q
                obtain ⟨xb, hxb, lkb⟩ := st_look hSb6 q
                have k2 := rwish_calls xw xa xb (entAt W q) (entAt L q) (entAt R q) po w6 hxw hxa hxb
                replace lkw := lkw w6 (Below.refl _ _)
                replace lka := lka w6 (Below.refl _ _)
                replace lkb := lkb w6 (Below.refl _ _)
                obtain ⟨gw, rfl⟩ := hxw.shape
                obtain ⟨ga2, rfl⟩ := hxa.shape
                obtain ⟨gb2, rfl⟩ := hxb.shape
                generalize wishE (entAt W q) (entAt L q) (entAt R q) po = wq at *
                obtain ⟨oA, oc, ho, ho1, ho2⟩ := own_shape S6.own
                subst ho
                unfold maxLen at ho2
                have hdl2 : (ds ++ [q]).length = ds.length + 1 := by simp
                generalize hds2 : ds ++ [q] = ds2 at *
                replace G6 := Lib.hid G6
                replace M6 := Lib.hid M6
                replace S6 := Lib.hid S6
                replace hxw := Lib.hid hxw
                replace hxa := Lib.hid hxa
                replace hxb := Lib.hid hxb
                replace k2 := Lib.hid k2
                replace hdl2 := Lib.hid hdl2
                replace hds2 := Lib.hid hds2
                clear g1 hg6 hat G5 M5 S5 hSw6 hSa6 hSb6
                go_wp2_with (at_lookup; first | (refine wp_look _ rfl _ _ 54 false rfl (.map (some bw)) (.string (mkS q)) _ rfl rfl lkw ?_) | (refine wp_look _ rfl _ _ 54 false rfl (.map (some ba)) (.string (mkS q)) _ rfl rfl lka ?_) | (refine wp_look _ rfl _ _ 54 false rfl (.map (some bb)) (.string (mkS q)) _ rfl rfl lkb ?_))
                (with_reducible refine (k2.out).mono ?_)
                rintro e w7 ⟨rfl, hB7⟩
                have G7 := grown_low G6.out (grown_below hB7 none) (fun j e => by cases e)
                have M7 := M6.out.of_block (hB7.block _ M6.out.lt)
                have S7 : Strs w4.heap.size w7 (.slice oA ds2.length oc) ds2 := own_below S6.out hB7
                obtain ⟨w8, hst, M8, hg8⟩ := int_new M7 q wq hnew.out
                have G8 := grown_low G7 hg8 (fun j e => Or.inl e.symm)
                have S8 : Strs w4.heap.size w8 (.slice oA ds2.length oc) ds2 := own_kept S7 hg8 (own_ne_map S7 M7)
                replace G8 := Lib.hid G8
                replace M8 := Lib.hid M8
                replace S8 := Lib.hid S8
                replace hst := Lib.hid hst
                clear hB7 hg8 G7 M7 S7 G6 M6 S6 lkw lka lkb
                go_wp2_with (at_mapUpdate; refine wp_store _ rfl _ _ _ 56 rfl (.map (some mb1)) (.string (mkS q)) (.int .i64 wq) rfl rfl rfl w8 hst.out ?_)
                go_roundw
                case rel => exact ⟨k + 1, by go_num, by omega, G8.out, by rw [hs2.out]; exact M8.out, by rw [hs2.out, show List.map (·.1) (ak ++ [(q, wq)]) = ds2 by rw [List.map_append, hds.out]; exact hds2.out]; exact S8.out⟩
                case measure => simp [intOf]; omega
          · obtain rfl : k = u0.length := by omega
            rw [List.take_length] at hM hS
            have hal := actsOf_len W L R po u0
            have hnd := actsOf_nodup (W := W) (L := L) (R := R) (po := po) (rise_nodup hu2.out.1)
            have hpe2 : planE W L R po = (markL L R (heldL (actsOf W L R po u0) L R), 0) := by rw [hpe.out, planL, hu0.out]
            have hap : ∀ y ∈ actsOf W L R po u0, y.1.length ≤ 1000000 := fun y hy => by
              obtain ⟨z, hz, rfl⟩ := List.mem_map.1 hy
              exact hupl.out z (List.mem_filter.1 hz).1
            generalize actsOf W L R po u0 = ak at *
            obtain ⟨hSw5, hSa5, hSb5, _, hm25⟩ := hSt.out wr hG
            have hrd5 := hS.rd
            have hdl : (ak.map (·.1)).length = ak.length := List.length_map ..
            have hdk : ∀ k (h : k < ak.length) (h2 : k < (ak.map (·.1)).length), (ak.map (·.1))[k] = ak[k].1 := fun k h h2 => List.getElem_map ..
            have hdsf : ∀ hl : Acts44, hl.map (·.1) = ak.map (·.1) → ∀ k (h : k < hl.length) (h2 : k < (ak.map (·.1)).length), (ak.map (·.1))[k] = hl[k].1 := fun hl e k h h2 => by
              have : (hl.map (·.1))[k]'(by rw [List.length_map]; exact h) = hl[k].1 := List.getElem_map ..
              rw [← this]
              simp only [e]
            have hhf := heldL_fst ak L R
            generalize hds : ak.map (·.1) = ds at *
            obtain ⟨oA, oc, ho, ho1, ho2⟩ := own_shape hS.own
            subst ho
            unfold maxLen at ho2
            have hB05 := hB04.out.trans ((show Below w4.heap.size w4 w4 from Below.refl _ _).mono (Nat.le_refl _) |>.mono hB04.out.size)
            have hBr : Below w.heap.size w wr := below_of_grown hB04.out hG hlow.out
            obtain ⟨wa, rfl⟩ : ∃ wa : World, wa = wr := ⟨_, rfl⟩
            have hSt2 : ∀ X, wa.grownBy X (some mb2) → States X bw W ∧ States X ba L ∧ States X bb R ∧ Rd X (.slice oA ds.length oc) ds ∧ MapIs X mb1 (intE ak) := fun X hX => ⟨hSw5.kept hm25 hX (by have := hmb2.out; have := hl1'.out; omega), hSa5.kept hm25 hX (by have := hmb2.out; have := hl2'.out; omega), hSb5.kept hm25 hX (by have := hmb2.out; have := hl3'.out; omega), hrd5.kept hm25 hX, hM.kept hX (fun e => hn12.out (by cases e; rfl))⟩
            have hm2lo : w.heap.size ≤ mb2 := by have := hmb2.out; have := hlow.out; omega
            clear hB05 hSw5 hSa5 hSb5 hrd5 hG hM hS hSt hSw4 hSa4 hSb4 hm1d hm2d hrd hB04
            replace hal := Lib.hid hal
            replace hnd := Lib.hid hnd
            replace hpe2 := Lib.hid hpe2
            replace hap := Lib.hid hap
            replace hm25 := Lib.hid hm25
            replace hdl := Lib.hid hdl
            replace hdk := Lib.hid hdk
            replace hdsf := Lib.hid hdsf
            replace hhf := Lib.hid hhf
            replace hds := Lib.hid hds
            replace hBr := Lib.hid hBr
            replace hSt2 := Lib.hid hSt2
            replace hm2lo := Lib.hid hm2lo
            go_wp2_with fail
            go_loopw [98] (fun i wr => ∃ k : Nat, i = .int .i64 k ∧ k ≤ ds.length ∧ wa.grownBy wr (some mb2) ∧ MapIs wr mb2 (intE ((heldL ak L R).take k))) (fun i _ => ds.length - (intOf i).toNat)
            case atStart => exact ⟨0, rfl, Nat.zero_le _, World.grownBy.refl _ _, hm25.out⟩
            case round =>
              clear hm25
              obtain ⟨k, rfl, hk', hG, hM⟩ := hrel
              by_cases hlt3 : k < ds.length
              · have hka : k < ak.length := by rw [← hdl.out]; exact hlt3
                obtain ⟨_, _, _, hrd6, hm16⟩ := hSt2.out wr hG
                obtain ⟨g, o, hgo, c1⟩ := hrd6.cell hlt3
                cases hgo
                rw [hdk.out k hka hlt3] at c1
                have hnd' : (ak.map (·.1)).Nodup := by rw [hds.out]; exact hnd.out
                have hsn := heldL_take ak L R hka
                have hnew := fst_new hnd' hka (heldL_fst ak L R)
                have hat := actAt_of hnd' (List.getElem_mem hka)
                have hki' := heldK_is (L := L) (R := R) hnd' (List.getElem_mem hka)
                have hqp := hap.out _ (List.getElem_mem hka)
                generalize heldA ak L R ak[k] = hd at *
                generalize ak[k] = y at *
                obtain ⟨q, t⟩ := y
                dsimp only at *
                have lk := int_look hm16 q
                rw [hat] at lk
                obtain ⟨w5, hst, M5, hg5⟩ := int_new hM q t hnew
                have G5 := grown_low hG hg5 (fun j e => Or.inl e.symm)
                obtain ⟨_, hSa7, hSb7, _, hm17⟩ := hSt2.out w5 G5
                have hcl := rheld_calls q ba bb mb1 ak L R w5 hSa7 hSb7 hm17 hnd' hqp hLp.out hRp.out
                generalize heldK ak L R q = hk at *
                obtain ⟨kv, kb⟩ := hk
                dsimp only at *
                have hki : (k : Int) < (ds.length : Int) := by omega
                replace hG := Lib.hid hG
                replace hM := Lib.hid hM
                replace hrd6 := Lib.hid hrd6
                replace hm16 := Lib.hid hm16
                replace hnd' := Lib.hid hnd'
                replace hsn := Lib.hid hsn
                replace hnew := Lib.hid hnew
                replace hat := Lib.hid hat
                replace hki' := Lib.hid hki'
                replace hqp := Lib.hid hqp
                replace hst := Lib.hid hst
                replace M5 := Lib.hid M5
                replace G5 := Lib.hid G5
                replace hcl := Lib.hid hcl
                replace hka := Lib.hid hka
                clear hg5 hSa7 hSb7 hm17
                try simp only [Option.getD_some] at lk
                go_wp2_with (first | (at_lookup; refine wp_look _ rfl _ _ 56 false rfl (.map (some mb1)) (.string (mkS q)) _ rfl rfl lk ?_) | (at_mapUpdate; refine wp_store _ rfl _ _ _ 56 rfl (.map (some mb2)) (.string (mkS q)) (.int .i64 t) rfl rfl rfl w5 hst.out ?_))
                (with_reducible refine (hcl.out).mono ?_)
                rintro e w6 ⟨rfl, hB6⟩
                have G6 := grown_low G5.out (grown_below hB6 none) (fun j e => by cases e)
                have M6 := M5.out.of_block (hB6.block _ M5.out.lt)
                replace G6 := Lib.hid G6
                replace M6 := Lib.hid M6
                clear hB6 G5 M5 hG hM hrd6 hm16 lk c1
                cases kb with
                | false =>
                  have hs2 := hsn.out
                  rw [hki'.out, if_neg (by simp)] at hs2
                  replace hs2 := Lib.hid hs2
                  go_wp2
                  go_roundw
                  case rel => exact ⟨k + 1, by go_num, by omega, G6.out, by rw [hs2.out]; exact M6.out⟩
                  case measure => simp [intOf]; omega
                | true =>
                  have hs2 := hsn.out
                  rw [hki'.out, if_pos rfl] at hs2
                  obtain ⟨w7, hst7, M7, hg7⟩ := int_last M6.out kv
                  have G7 := grown_low G6.out hg7 (fun j e => Or.inl e.symm)
                  replace hs2 := Lib.hid hs2
                  replace hst7 := Lib.hid hst7
                  replace M7 := Lib.hid M7
                  replace G7 := Lib.hid G7
                  clear hg7 hst
                  go_wp2_with (at_mapUpdate; refine wp_store _ rfl _ _ _ 56 rfl (.map (some mb2)) (.string (mkS q)) (.int .i64 kv) rfl rfl rfl w7 hst7.out ?_)
                  go_roundw
                  case rel => exact ⟨k + 1, by go_num, by omega, G7.out, by rw [hs2.out]; exact M7.out⟩
                  case measure => simp [intOf]; omega
              · obtain rfl : k = ds.length := by omega
                have hhl : (heldL ak L R).length = ak.length := by rw [heldL, List.length_map]
                rw [List.take_of_length_le (by rw [hhl, ← hdl.out]; exact Nat.le_refl _)] at hM
                obtain ⟨_, hSa6, hSb6, hrd6, _⟩ := hSt2.out wr hG
                have hnh : ((heldL ak L R).map (·.1)).Nodup := by rw [hhf.out]; exact hnd.out
                have hmd := hdsf.out _ hhf.out
                have hhp : ∀ y ∈ heldL ak L R, y.1.length ≤ 1000000 := fun y hy => by
                  obtain ⟨z, hz, rfl⟩ := List.mem_map.1 hy
                  exact hap.out z hz
                have hpe3 := hpe2.out
                have hBw : Below w.heap.size w wr := below_of_grown hBr.out hG hm2lo.out
                have hhd : (heldL ak L R).length = ds.length := by rw [hhl, ← hdl.out]
                generalize heldL ak L R = hl at *
                obtain ⟨wb, rfl⟩ : ∃ wb : World, wb = wr := ⟨_, rfl⟩
                have hSt3 : ∀ X, Below wb.heap.size wb X → States X ba L ∧ States X bb R ∧ Rd X (.slice oA ds.length oc) ds ∧ MapIs X mb2 (intE hl) := fun X hX => ⟨hSa6.below hX, hSb6.below hX, hrd6.below hX, hM.of_block (hX.block _ hM.lt)⟩
                have hn1 : wb.ownsRow wb.heap.size 38 2 (.slice none 0 0) 0 [] := World.ownsRow_nil _ _ _ _
                have hn2 : wb.ownsRow wb.heap.size 9 1 (.slice none 0 0) 0 [] := World.ownsRow_nil _ _ _ _
                replace hnh := Lib.hid hnh
                replace hmd := Lib.hid hmd
                replace hhp := Lib.hid hhp
                replace hpe3 := Lib.hid hpe3
                replace hBw := Lib.hid hBw
                replace hhd := Lib.hid hhd
                replace hSt3 := Lib.hid hSt3
                replace hn1 := Lib.hid hn1
                replace hn2 := Lib.hid hn2
                clear hSa6 hSb6 hrd6 hG hM hSt2 hBr hpe2 hhl
                go_wp2_with fail
                go_loopw [25, 26, 122] (fun out sk i wr => ∃ k : Nat, i = .int .i64 k ∧ k ≤ ds.length ∧ Below wb.heap.size wb wr ∧ wr.ownsRow wb.heap.size 38 2 out k (actRow (markTo L R hl k)) ∧ Strs wb.heap.size wr sk (stuckL L R (hl.take k))) (fun _ _ i _ => ds.length - (intOf i).toNat)
                case atStart => exact ⟨0, rfl, Nat.zero_le _, Below.refl _ _, hn1.out, hn2.out⟩
                case round =>
                  clear hn1 hn2
                  obtain ⟨k, rfl, hk', hB, hO, hS⟩ := hrel
                  by_cases hlt4 : k < ds.length
                  · have hkh : k < hl.length := by rw [hhd.out]; exact hlt4
                    obtain ⟨hSa7, hSb7, hrd7, hm7⟩ := hSt3.out wr hB
                    obtain ⟨g, o, hgo, c1⟩ := hrd7.cell hlt4
                    cases hgo
                    rw [hmd.out k hkh hlt4] at c1
                    have hmk' := markTo_step (L := L) (R := R) hkh
                    have hsk' := stuckL_snoc L R (hl.take k) hl[k]
                    rw [← List.take_succ_eq_append_getElem hkh] at hsk'
                    have hat := actAt_of hnh.out (List.getElem_mem hkh)
                    have hqp := hhp.out _ (List.getElem_mem hkh)
                    have hsl : (stuckL L R (hl.take k)).length ≤ k := by
                      unfold stuckL
                      rw [List.length_map]
                      refine Nat.le_trans (List.length_filter_le _ _) ?_
                      rw [List.length_take]
                      omega
                    have hsp : ∀ x ∈ stuckL L R (hl.take k), x.length ≤ 1000000 := fun x hx => by
                      obtain ⟨z, hz, rfl⟩ := List.mem_map.1 hx
                      exact hhp.out z (List.mem_of_mem_take (List.mem_filter.1 hz).1)
                    have hstk : sticks L R hl[k] = (decide (hl[k].2 = 0) && !(isDirE (entAt L hl[k].1) && isDirE (entAt R hl[k].1))) := rfl
                    generalize sticks L R hl[k] = st at *
                    generalize hl[k] = y at *
                    obtain ⟨q, t⟩ := y
                    dsimp only at *
                    generalize hss : stuckL L R (hl.take k) = ss at *
                    generalize hmr : markTo L R hl k = mr at *
                    have lk := fun X hX => int_look (hSt3.out X hX).2.2.2 q
                    rw [hat] at lk
                    simp only [Option.getD_some] at lk
                    have hqs := mkS_size q
                    have lkr := lk wr hB
                    have hrs := hS.rd
                    obtain ⟨oA1, oc1, ho1, ho11, ho12⟩ := own_shape hO
                    obtain ⟨oA2, oc2, ho2', ho21, ho22⟩ := own_shape hS.own
                    subst ho1 ho2'
                    unfold maxLen at ho12 ho22
                    obtain ⟨wc, rfl⟩ : ∃ wc : World, wc = wr := ⟨_, rfl⟩
                    have hki : (k : Int) < (ds.length : Int) := by omega
                    have hkb : k ≤ 120 := by have := hal; have h1 := hup.out; have h2 := hdl.out; have h3 := hal.out; omega
                    replace hB := Lib.hid hB
                    replace hO := Lib.hid hO
                    replace hS := Lib.hid hS
                    replace hSa7 := Lib.hid hSa7
                    replace hSb7 := Lib.hid hSb7
                    replace hrd7 := Lib.hid hrd7
                    replace hm7 := Lib.hid hm7
                    replace hmk' := Lib.hid hmk'
                    replace hsk' := Lib.hid hsk'
                    replace hat := Lib.hid hat
                    replace hqp := Lib.hid hqp
                    replace hsl := Lib.hid hsl
                    replace hsp := Lib.hid hsp
                    replace hstk := Lib.hid hstk
                    replace hss := Lib.hid hss
                    replace hmr := Lib.hid hmr
                    replace lk := Lib.hid lk
                    replace hrs := Lib.hid hrs
                    replace hkh := Lib.hid hkh
                    go_wp2_with (at_lookup; refine wp_look _ rfl _ _ 56 false rfl (.map (some mb2)) (.string (mkS q)) _ rfl rfl lkr ?_)
                    go_loopw [29, 131] (fun tv j wr => ∃ (m : Nat) (tv0 : Int), j = .int .i64 m ∧ m ≤ ss.length ∧ tv = .int .i64 tv0 ∧ tv0 = (if (ss.take m).any (fun x => under q x) = true then 0 else t) ∧ Below wc.heap.size wc wr) (fun _ j _ => ss.length - (intOf j).toNat)
                    case atStart => exact ⟨0, t, rfl, Nat.zero_le _, rfl, by simp, Below.refl _ _⟩
                    case round =>
                      obtain ⟨m, tv0, rfl, hm, rfl, htv, hBi⟩ := hrel
                      by_cases hlt5 : m < ss.length
                      · obtain ⟨g', o', hgo', d1⟩ := (hrs.out.below hBi).cell hlt5
                        cases hgo'
                        have htk : ss.take (m + 1) = ss.take m ++ [ss[m]] := List.take_succ_eq_append_getElem hlt5
                        have hxp := hsp.out _ (List.getElem_mem hlt5)
                        have han : (ss.take (m + 1)).any (fun x => under q x) = ((ss.take m).any (fun x => under q x) || under q ss[m]) := by rw [htk, List.any_append]; simp
                        clear htk
                        generalize ss[m] = x at *
                        have hxs := mkS_size x
                        have hun := fun W => under_calls (mkS q) (mkS x) W (by have := hqp.out; omega) (by omega)
                        rw [bl_mkS, bl_mkS] at hun
                        generalize under q x = u at *
                        have hmi : (m : Int) < (ss.length : Int) := by omega
                        replace hBi := Lib.hid hBi
                        replace hxp := Lib.hid hxp
                        replace hun := Lib.hid hun
                        replace han := Lib.hid han
                        replace htv := Lib.hid htv
                        go_wp2_with fail
                        (with_reducible refine (hun.out _).mono ?_)
                        rintro e w5 ⟨rfl, hB5⟩
                        have hBi5 := below_step hBi.out hB5
                        replace hBi5 := Lib.hid hBi5
                        clear hB5
                        cases u with
                        | true =>
                          go_wp2
                          go_roundw
                          case rel => exact ⟨m + 1, 0, by go_num, by omega, rfl, by rw [han.out]; simp, hBi5.out⟩
                          case measure => simp [intOf]; omega
                        | false =>
                          go_wp2
                          go_roundw
                          case rel => exact ⟨m + 1, tv0, by go_num, by omega, rfl, by rw [han.out, Bool.or_false]; exact htv.out, hBi5.out⟩
                          case measure => simp [intOf]; omega
                      · obtain rfl : m = ss.length := by omega
                        rw [List.take_length] at htv
                        have hmk2 := hmk'.out
                        rw [← htv] at hmk2
                        have hB6 := below_step hB.out hBi
                        obtain ⟨hSa8, hSb8, _, _⟩ := hSt3.out wr hB6
                        obtain ⟨va, hva, lka⟩ := st_look hSa8 q
                        obtain ⟨vb, hvb, lkb⟩ := st_look hSb8 q
                        have k1 := rdir_calls va (entAt L q) wr hva
                        have k2 := rdir_calls vb (entAt R q) wr hvb
                        replace lka := lka wr (Below.refl _ _)
                        replace lkb := lkb wr (Below.refl _ _)
                        have lkn := lk.out wr hB6
                        obtain ⟨ga, rfl⟩ := hva.shape
                        obtain ⟨gb, rfl⟩ := hvb.shape
                        have O6 := own_below hO.out hBi
                        have S6 : Strs wb.heap.size wr (.slice oA2 ss.length oc2) ss := own_below hS.out hBi
                        have hstk2 := hstk.out
                        generalize isDirE (entAt L q) = a at *
                        generalize isDirE (entAt R q) = b at *
                        have hsl' := hsl.out
                        replace htv := Lib.hid htv
                        replace hmk2 := Lib.hid hmk2
                        replace hB6 := Lib.hid hB6
                        replace hSa8 := Lib.hid hSa8
                        replace hSb8 := Lib.hid hSb8
                        replace hva := Lib.hid hva
                        replace hvb := Lib.hid hvb
                        replace k1 := Lib.hid k1
                        replace k2 := Lib.hid k2
                        replace O6 := Lib.hid O6
                        replace S6 := Lib.hid S6
                        replace hstk2 := Lib.hid hstk2
                        clear hB hO hS hSa7 hSb7 hrd7 hm7 hBi lkr c1 hstk hmk' hrs hsp
                        by_cases ht : t = 0
                        · subst ht
                          cases a with
                          | false =>
                            go_wp2_with (at_lookup; first | (refine wp_look _ rfl _ _ 56 false rfl (.map (some mb2)) (.string (mkS q)) _ rfl rfl lkn ?_) | (refine wp_look _ rfl _ _ 54 false rfl (.map (some ba)) (.string (mkS q)) _ rfl rfl lka ?_) | (refine wp_look _ rfl _ _ 54 false rfl (.map (some bb)) (.string (mkS q)) _ rfl rfl lkb ?_))
                            (with_reducible refine (k1.out).mono ?_)
                            rintro e w9 ⟨rfl, rfl⟩
                            have hs2 := hsk'.out
                            have hst0 : st = true := by rw [hstk2.out]; first | rfl | simp
                            rw [hst0, if_pos rfl] at hs2
                            replace hs2 := Lib.hid hs2
                            replace hst0 := Lib.hid hst0
                            go_wp2_with (at_builtin; refine wp_append1 wb.heap.size rfl (.tmp 156) (.tmp 158) 46 9 rfl Try.underlying46 (.string ⟨#[]⟩) 1 16 info_string rfl (by decide) (.slice oA2 ss.length oc2) _ _ rfl [.string (mkS q)] rfl S6.out rfl ?_ ?_ ?_ hB6.out.size ?_)
                            · simp [Value.oneCell']
                            · simp only [maxLen]; omega
                            · omega
                            · intro v2 wy g2 hg2 hat2
                              have By := hB6.out.grown hg2 hB6.out.size (own_base S6.out)
                              have SX : Strs wb.heap.size wy v2 (ss ++ [q]) := Strs.snoc g2
                              have OX := own_kept O6.out hg2 (own_apart O6.out S6.out (by decide))
                              obtain ⟨oA3, oc3, ho3', ho31, ho32⟩ := own_shape SX.own
                              subst ho3'
                              have hsn3 : (ss ++ [q]).length = ss.length + 1 := by simp
                              rw [hsn3] at ho31
                              unfold maxLen at ho32
                              generalize ss ++ [q] = ss3 at *
                              replace SX := Lib.hid SX
                              replace OX := Lib.hid OX
                              replace By := Lib.hid By
                              replace hsn3 := Lib.hid hsn3
                              clear g2 hg2 hat2 lka lkb lkn
                              go_wp2_with (at_builtin; refine wp_append1 wb.heap.size rfl (.tmp 160) (.tmp 164) 28 38 rfl Try.underlying28 (.agg #[.string ⟨#[]⟩, .int .i64 0]) 2 24 info_ract rfl (by decide) (.slice oA1 k oc1) _ _ rfl [.string (mkS q), .int .i64 tv0] rfl OX.out rfl ?_ ?_ ?_ By.out.size ?_)
                              · simp [Value.oneCell']
                              · simp only [maxLen]; omega
                              · omega
                              · intro v1 wz g1 hg hat
                                have Bz := By.out.grown hg By.out.size (own_base OX.out)
                                have Oz : wz.ownsRow wb.heap.size 38 2 v1 (k + 1) (actRow (markTo L R hl (k + 1))) := by
                                  rw [hmk2.out, actRow_append]
                                  exact g1
                                have Sz : Strs wb.heap.size wz (.slice oA3 ss3.length oc3) (stuckL L R (hl.take (k + 1))) := by
                                  rw [hs2.out]
                                  exact own_kept SX.out hg (own_apart SX.out OX.out (by decide))
                                replace Bz := Lib.hid Bz
                                replace Oz := Lib.hid Oz
                                replace Sz := Lib.hid Sz
                                clear g1 hg hat
                                go_wp2
                                go_roundw
                                case rel => exact ⟨k + 1, by go_num, by omega, Bz.out, Oz.out, Sz.out⟩
                                case measure => simp [intOf]; omega
                          | true =>
                            cases b with
                            | false =>
                              go_wp2_with (at_lookup; first | (refine wp_look _ rfl _ _ 56 false rfl (.map (some mb2)) (.string (mkS q)) _ rfl rfl lkn ?_) | (refine wp_look _ rfl _ _ 54 false rfl (.map (some ba)) (.string (mkS q)) _ rfl rfl lka ?_) | (refine wp_look _ rfl _ _ 54 false rfl (.map (some bb)) (.string (mkS q)) _ rfl rfl lkb ?_))
                              (with_reducible refine (k1.out).mono ?_)
                              rintro e w9 ⟨rfl, rfl⟩
                              go_wp2_with (at_lookup; first | (refine wp_look _ rfl _ _ 56 false rfl (.map (some mb2)) (.string (mkS q)) _ rfl rfl lkn ?_) | (refine wp_look _ rfl _ _ 54 false rfl (.map (some ba)) (.string (mkS q)) _ rfl rfl lka ?_) | (refine wp_look _ rfl _ _ 54 false rfl (.map (some bb)) (.string (mkS q)) _ rfl rfl lkb ?_))
                              (with_reducible refine (k2.out).mono ?_)
                              rintro e w9 ⟨rfl, rfl⟩
                              have hs2 := hsk'.out
                              have hst0 : st = true := by rw [hstk2.out]; first | rfl | simp
                              rw [hst0, if_pos rfl] at hs2
                              replace hs2 := Lib.hid hs2
                              replace hst0 := Lib.hid hst0
                              go_wp2_with (at_builtin; refine wp_append1 wb.heap.size rfl (.tmp 156) (.tmp 158) 46 9 rfl Try.underlying46 (.string ⟨#[]⟩) 1 16 info_string rfl (by decide) (.slice oA2 ss.length oc2) _ _ rfl [.string (mkS q)] rfl S6.out rfl ?_ ?_ ?_ hB6.out.size ?_)
                              · simp [Value.oneCell']
                              · simp only [maxLen]; omega
                              · omega
                              · intro v2 wy g2 hg2 hat2
                                have By := hB6.out.grown hg2 hB6.out.size (own_base S6.out)
                                have SX : Strs wb.heap.size wy v2 (ss ++ [q]) := Strs.snoc g2
                                have OX := own_kept O6.out hg2 (own_apart O6.out S6.out (by decide))
                                obtain ⟨oA3, oc3, ho3', ho31, ho32⟩ := own_shape SX.own
                                subst ho3'
                                have hsn3 : (ss ++ [q]).length = ss.length + 1 := by simp
                                rw [hsn3] at ho31
                                unfold maxLen at ho32
                                generalize ss ++ [q] = ss3 at *
                                replace SX := Lib.hid SX
                                replace OX := Lib.hid OX
                                replace By := Lib.hid By
                                replace hsn3 := Lib.hid hsn3
                                clear g2 hg2 hat2 lka lkb lkn
                                go_wp2_with (at_builtin; refine wp_append1 wb.heap.size rfl (.tmp 160) (.tmp 164) 28 38 rfl Try.underlying28 (.agg #[.string ⟨#[]⟩, .int .i64 0]) 2 24 info_ract rfl (by decide) (.slice oA1 k oc1) _ _ rfl [.string (mkS q), .int .i64 tv0] rfl OX.out rfl ?_ ?_ ?_ By.out.size ?_)
                                · simp [Value.oneCell']
                                · simp only [maxLen]; omega
                                · omega
                                · intro v1 wz g1 hg hat
                                  have Bz := By.out.grown hg By.out.size (own_base OX.out)
                                  have Oz : wz.ownsRow wb.heap.size 38 2 v1 (k + 1) (actRow (markTo L R hl (k + 1))) := by
                                    rw [hmk2.out, actRow_append]
                                    exact g1
                                  have Sz : Strs wb.heap.size wz (.slice oA3 ss3.length oc3) (stuckL L R (hl.take (k + 1))) := by
                                    rw [hs2.out]
                                    exact own_kept SX.out hg (own_apart SX.out OX.out (by decide))
                                  replace Bz := Lib.hid Bz
                                  replace Oz := Lib.hid Oz
                                  replace Sz := Lib.hid Sz
                                  clear g1 hg hat
                                  go_wp2
                                  go_roundw
                                  case rel => exact ⟨k + 1, by go_num, by omega, Bz.out, Oz.out, Sz.out⟩
                                  case measure => simp [intOf]; omega
                            | true =>
                              have hs2 := hsk'.out
                              have hst0 : st = false := by rw [hstk2.out]; first | rfl | simp [ht.out] | simp
                              rw [hst0, if_neg (by simp), List.append_nil] at hs2
                              have OX := O6
                              have SX := S6
                              replace hs2 := Lib.hid hs2
                              replace hst0 := Lib.hid hst0
                              go_wp2_with (at_lookup; first | (refine wp_look _ rfl _ _ 56 false rfl (.map (some mb2)) (.string (mkS q)) _ rfl rfl lkn ?_) | (refine wp_look _ rfl _ _ 54 false rfl (.map (some ba)) (.string (mkS q)) _ rfl rfl lka ?_) | (refine wp_look _ rfl _ _ 54 false rfl (.map (some bb)) (.string (mkS q)) _ rfl rfl lkb ?_))
                              (with_reducible refine (k1.out).mono ?_)
                              rintro e w9 ⟨rfl, rfl⟩
                              go_wp2_with (at_lookup; first | (refine wp_look _ rfl _ _ 56 false rfl (.map (some mb2)) (.string (mkS q)) _ rfl rfl lkn ?_) | (refine wp_look _ rfl _ _ 54 false rfl (.map (some ba)) (.string (mkS q)) _ rfl rfl lka ?_) | (refine wp_look _ rfl _ _ 54 false rfl (.map (some bb)) (.string (mkS q)) _ rfl rfl lkb ?_))
                              (with_reducible refine (k2.out).mono ?_)
                              rintro e w9 ⟨rfl, rfl⟩
                              go_wp2_with (at_builtin; refine wp_append1 wb.heap.size rfl (.tmp 160) (.tmp 164) 28 38 rfl Try.underlying28 (.agg #[.string ⟨#[]⟩, .int .i64 0]) 2 24 info_ract rfl (by decide) (.slice oA1 k oc1) _ _ rfl [.string (mkS q), .int .i64 tv0] rfl OX.out rfl ?_ ?_ ?_ hB6.out.size ?_)
                              · simp [Value.oneCell']
                              · simp only [maxLen]; omega
                              · omega
                              · intro v1 wz g1 hg hat
                                have Bz := hB6.out.grown hg hB6.out.size (own_base OX.out)
                                have Oz : wz.ownsRow wb.heap.size 38 2 v1 (k + 1) (actRow (markTo L R hl (k + 1))) := by
                                  rw [hmk2.out, actRow_append]
                                  exact g1
                                have Sz : Strs wb.heap.size wz (.slice oA2 ss.length oc2) (stuckL L R (hl.take (k + 1))) := by
                                  rw [hs2.out]
                                  exact own_kept SX.out hg (own_apart SX.out OX.out (by decide))
                                replace Bz := Lib.hid Bz
                                replace Oz := Lib.hid Oz
                                replace Sz := Lib.hid Sz
                                clear g1 hg hat
                                go_wp2
                                go_roundw
                                case rel => exact ⟨k + 1, by go_num, by omega, Bz.out, Oz.out, Sz.out⟩
                                case measure => simp [intOf]; omega
                        · have t1 : (t == 0) = false := by simpa using ht
                          replace ht := Lib.hid ht
                          have hs2 := hsk'.out
                          have hst0 : st = false := by rw [hstk2.out]; first | rfl | simp [ht.out] | simp
                          rw [hst0, if_neg (by simp), List.append_nil] at hs2
                          have OX := O6
                          have SX := S6
                          replace hs2 := Lib.hid hs2
                          replace hst0 := Lib.hid hst0
                          go_wp2_with (first | (at_lookup; first | (refine wp_look _ rfl _ _ 56 false rfl (.map (some mb2)) (.string (mkS q)) _ rfl rfl lkn ?_) | (refine wp_look _ rfl _ _ 54 false rfl (.map (some ba)) (.string (mkS q)) _ rfl rfl lka ?_) | (refine wp_look _ rfl _ _ 54 false rfl (.map (some bb)) (.string (mkS q)) _ rfl rfl lkb ?_)) | (at_builtin; refine wp_append1 wb.heap.size rfl (.tmp 160) (.tmp 164) 28 38 rfl Try.underlying28 (.agg #[.string ⟨#[]⟩, .int .i64 0]) 2 24 info_ract rfl (by decide) (.slice oA1 k oc1) _ _ rfl [.string (mkS q), .int .i64 tv0] rfl OX.out rfl ?_ ?_ ?_ hB6.out.size ?_))
                          · simp [Value.oneCell']
                          · simp only [maxLen]; omega
                          · omega
                          · intro v1 wz g1 hg hat
                            have Bz := hB6.out.grown hg hB6.out.size (own_base OX.out)
                            have Oz : wz.ownsRow wb.heap.size 38 2 v1 (k + 1) (actRow (markTo L R hl (k + 1))) := by
                              rw [hmk2.out, actRow_append]
                              exact g1
                            have Sz : Strs wb.heap.size wz (.slice oA2 ss.length oc2) (stuckL L R (hl.take (k + 1))) := by
                              rw [hs2.out]
                              exact own_kept SX.out hg (own_apart SX.out OX.out (by decide))
                            replace Bz := Lib.hid Bz
                            replace Oz := Lib.hid Oz
                            replace Sz := Lib.hid Sz
                            clear g1 hg hat
                            go_wp2
                            go_roundw
                            case rel => exact ⟨k + 1, by go_num, by omega, Bz.out, Oz.out, Sz.out⟩
                            case measure => simp [intOf]; omega
                  · obtain rfl : k = ds.length := by omega
                    have hfin : markTo L R hl ds.length = markL L R hl := by rw [← hhd.out]; rfl
                    have hml : (markL L R hl).length = ds.length := by
                      rw [← hfin]
                      exact markTo_len _ (by rw [hhd.out]; exact Nat.le_refl _)
                    rw [hfin] at hO
                    obtain ⟨oA1, oc1, ho1', _, ho12⟩ := own_shape hO
                    subst ho1'
                    unfold maxLen at ho12
                    replace hO := Lib.hid hO
                    replace hB := Lib.hid hB
                    replace hS := Lib.hid hS
                    replace hfin := Lib.hid hfin
                    replace hml := Lib.hid hml
                    go_wp2
                    go_ret2
                    refine ⟨⟨.slice oA1 ds.length oc1, by rw [hpe3.out]; rfl, ?_⟩, below_step hBw.out hB.out⟩
                    rw [hpe3.out]
                    dsimp only
                    rw [hml.out]
                    exact own_low hO.out hBw.out.size

end Go.Proofs.Ytcjlfkklpghjbaa

namespace Go.Proofs.Ytcjlfkklpghjbaa
open Go.RowKit

def dE : Ent := ⟨[100], 2, 0, ⟨0, 0, 0, 0, 0⟩, [], [], 0⟩
def nE : Ent := ⟨[100, 47, 110, 101, 119], 1, 0, ⟨0, 0, 0, 0, 0⟩, [], [], 0⟩
theorem upaths_by {L R : List Ent} {o : List Bytes} (h1 : o.Pairwise fun a b => lessP a b = true) (h2 : ∀ x, x ∈ o ↔ x ∈ entPaths L ∨ x ∈ entPaths R) : upaths L R = o := by
  rw [← sort_upaths (rise_nodup h1) h2]
  exact (sortP_eq (List.Perm.refl o) (rise_sorted h1)).symm
theorem aw44_1 : planE [dE] [] [dE, nE] 0 = ([([100], 2), ([100, 47, 110, 101, 119], 2)], 0) := by
  have hu : upaths [] [dE, nE] = [[100], [100, 47, 110, 101, 119]] := upaths_by (by decide +kernel) (fun x => by simp [entPaths, dE, nE])
  have hm : markL [] [dE, nE] (heldL (actsOf [dE] [] [dE, nE] 0 [[100], [100, 47, 110, 101, 119]]) [] [dE, nE]) = [([100], 2), ([100, 47, 110, 101, 119], 2)] := by decide +kernel
  unfold planE planL
  rw [hu, hm, if_neg (by decide +kernel), if_neg (by decide +kernel), if_neg (by decide +kernel), if_neg (by decide)]
theorem aw44_2 : planE [dE] [] [dE] 0 = ([([100], 1)], 0) := by
  have hu : upaths [] [dE] = [[100]] := upaths_by (by decide +kernel) (fun x => by simp [entPaths, dE])
  have hm : markL [] [dE] (heldL (actsOf [dE] [] [dE] 0 [[100]]) [] [dE]) = [([100], 1)] := by decide +kernel
  unfold planE planL
  rw [hu, hm, if_neg (by decide +kernel), if_neg (by decide +kernel), if_neg (by decide +kernel), if_neg (by decide)]

theorem ents_made {W : World} {g : Nat} {cs : Array Value} (l : List Ent) (h : W.heap[g]? = some (.cells cs 35 (0, 0))) (hc : cs = (l.flatMap entCells).toArray) (hm : l.length ≤ 1000) : Ents W (.slice (some ⟨g, 0, none⟩) l.length l.length) l := by
  refine ⟨_, _, rfl, Nat.le_refl _, by unfold maxLen; omega, fun k hk => ⟨g, 0, rfl, fun j hj => ?_⟩⟩
  subst hc
  have hcell : W.cell? ⟨g, 0 + k * 11 + j, none⟩ = (l.flatMap entCells)[0 + k * 11 + j]? := by
    simp [World.cell?, h]
  rw [hcell, Nat.zero_add]
  clear h hcell hm
  induction l generalizing k with
  | nil => cases hk
  | cons x l ih =>
    rw [List.flatMap_cons]
    have hx : (entCells x).length = 11 := rfl
    cases k with
    | zero =>
      rw [List.getElem?_append_left (by rw [hx]; omega)]
      simp
    | succ k =>
      rw [List.getElem?_append_right (by rw [hx]; omega), hx, show (k + 1) * 11 + j - 11 = k * 11 + j by omega]
      exact ih k (by simpa using hk)
theorem ents_none (W : World) : Ents W (.slice none 0 0) [] := ⟨none, 0, rfl, Nat.le_refl _, Nat.zero_le _, fun k hk => by cases hk⟩
theorem acts_made {W : World} {g : Nat} {t : TypeId} {cs : Array Value} (l : Acts44) (h : W.heap[g]? = some (.cells cs t (0, 0))) (hc : cs = (actRow l).toArray) (hm : l.length ≤ 1000) : RdA W (.slice (some ⟨g, 0, none⟩) l.length l.length) l := by
  refine ⟨_, _, rfl, Nat.le_refl _, by unfold maxLen; omega, fun k hk => ⟨g, 0, rfl, ?_⟩⟩
  subst hc
  obtain ⟨r1, r2⟩ := actRow_at l k _ (List.getElem?_eq_getElem hk)
  constructor
  · rw [Nat.zero_add]
    exact cell_of h (by simpa using r1)
  · rw [Nat.zero_add]
    exact cell_of h (by simpa using r2)

set_option maxHeartbeats 4000000 in
set_option maxRecDepth 100000 in
theorem awake44_calls (w : World) : Calls Try.prog 6 #[] w fun e w' => e = .returned (.bool true) ∧ Below w.heap.size w w' := by
  have s1 : (w.alloc (.cells #[.string ⟨#[100]⟩, .int .i64 2, .int .i64 0, .int .i64 0, .int .i64 0, .int .i64 0, .int .i64 0, .int .i64 0, .string ⟨#[]⟩, .string ⟨#[]⟩, .int .i64 0] 35)).heap.size = w.heap.size + 1 := by simp
  have s2 : ((w.alloc (.cells #[.string ⟨#[100]⟩, .int .i64 2, .int .i64 0, .int .i64 0, .int .i64 0, .int .i64 0, .int .i64 0, .int .i64 0, .string ⟨#[]⟩, .string ⟨#[]⟩, .int .i64 0] 35)).alloc (.cells #[.string ⟨#[100, 47, 110, 101, 119]⟩, .int .i64 1, .int .i64 0, .int .i64 0, .int .i64 0, .int .i64 0, .int .i64 0, .int .i64 0, .string ⟨#[]⟩, .string ⟨#[]⟩, .int .i64 0] 35)).heap.size = w.heap.size + 1 + 1 := by simp
  have s3 : (((w.alloc (.cells #[.string ⟨#[100]⟩, .int .i64 2, .int .i64 0, .int .i64 0, .int .i64 0, .int .i64 0, .int .i64 0, .int .i64 0, .string ⟨#[]⟩, .string ⟨#[]⟩, .int .i64 0] 35)).alloc (.cells #[.string ⟨#[100, 47, 110, 101, 119]⟩, .int .i64 1, .int .i64 0, .int .i64 0, .int .i64 0, .int .i64 0, .int .i64 0, .int .i64 0, .string ⟨#[]⟩, .string ⟨#[]⟩, .int .i64 0] 35)).alloc (.cells #[.string ⟨#[100]⟩, .int .i64 2, .int .i64 0, .int .i64 0, .int .i64 0, .int .i64 0, .int .i64 0, .int .i64 0, .string ⟨#[]⟩, .string ⟨#[]⟩, .int .i64 0] 35)).heap.size = w.heap.size + 1 + 1 + 1 := by simp
  have h1 := heap_alloc_new w (.cells #[.string ⟨#[100]⟩, .int .i64 2, .int .i64 0, .int .i64 0, .int .i64 0, .int .i64 0, .int .i64 0, .int .i64 0, .string ⟨#[]⟩, .string ⟨#[]⟩, .int .i64 0] 35)
  have h2 := heap_alloc_new (w.alloc (.cells #[.string ⟨#[100]⟩, .int .i64 2, .int .i64 0, .int .i64 0, .int .i64 0, .int .i64 0, .int .i64 0, .int .i64 0, .string ⟨#[]⟩, .string ⟨#[]⟩, .int .i64 0] 35)) (.cells #[.string ⟨#[100, 47, 110, 101, 119]⟩, .int .i64 1, .int .i64 0, .int .i64 0, .int .i64 0, .int .i64 0, .int .i64 0, .int .i64 0, .string ⟨#[]⟩, .string ⟨#[]⟩, .int .i64 0] 35)
  have h3 := heap_alloc_new ((w.alloc (.cells #[.string ⟨#[100]⟩, .int .i64 2, .int .i64 0, .int .i64 0, .int .i64 0, .int .i64 0, .int .i64 0, .int .i64 0, .string ⟨#[]⟩, .string ⟨#[]⟩, .int .i64 0] 35)).alloc (.cells #[.string ⟨#[100, 47, 110, 101, 119]⟩, .int .i64 1, .int .i64 0, .int .i64 0, .int .i64 0, .int .i64 0, .int .i64 0, .int .i64 0, .string ⟨#[]⟩, .string ⟨#[]⟩, .int .i64 0] 35)) (.cells #[.string ⟨#[100]⟩, .int .i64 2, .int .i64 0, .int .i64 0, .int .i64 0, .int .i64 0, .int .i64 0, .int .i64 0, .string ⟨#[]⟩, .string ⟨#[]⟩, .int .i64 0] 35)
  have h4 := heap_alloc_new (((w.alloc (.cells #[.string ⟨#[100]⟩, .int .i64 2, .int .i64 0, .int .i64 0, .int .i64 0, .int .i64 0, .int .i64 0, .int .i64 0, .string ⟨#[]⟩, .string ⟨#[]⟩, .int .i64 0] 35)).alloc (.cells #[.string ⟨#[100, 47, 110, 101, 119]⟩, .int .i64 1, .int .i64 0, .int .i64 0, .int .i64 0, .int .i64 0, .int .i64 0, .int .i64 0, .string ⟨#[]⟩, .string ⟨#[]⟩, .int .i64 0] 35)).alloc (.cells #[.string ⟨#[100]⟩, .int .i64 2, .int .i64 0, .int .i64 0, .int .i64 0, .int .i64 0, .int .i64 0, .int .i64 0, .string ⟨#[]⟩, .string ⟨#[]⟩, .int .i64 0] 35)) (.cells #[.string ⟨#[100]⟩, .int .i64 2, .int .i64 0, .int .i64 0, .int .i64 0, .int .i64 0, .int .i64 0, .int .i64 0, .string ⟨#[]⟩, .string ⟨#[]⟩, .int .i64 0, .string ⟨#[100, 47, 110, 101, 119]⟩, .int .i64 1, .int .i64 0, .int .i64 0, .int .i64 0, .int .i64 0, .int .i64 0, .int .i64 0, .string ⟨#[]⟩, .string ⟨#[]⟩, .int .i64 0] 35)
  rw [s1] at h2
  rw [s2] at h3
  rw [s3] at h4
  have hB2 := below_alloc (below_alloc (Below.refl w.heap.size w) (.cells #[.string ⟨#[100]⟩, .int .i64 2, .int .i64 0, .int .i64 0, .int .i64 0, .int .i64 0, .int .i64 0, .int .i64 0, .string ⟨#[]⟩, .string ⟨#[]⟩, .int .i64 0] 35)) (.cells #[.string ⟨#[100, 47, 110, 101, 119]⟩, .int .i64 1, .int .i64 0, .int .i64 0, .int .i64 0, .int .i64 0, .int .i64 0, .int .i64 0, .string ⟨#[]⟩, .string ⟨#[]⟩, .int .i64 0] 35)
  have ha3 := below_alloc (Below.refl _ ((w.alloc (.cells #[.string ⟨#[100]⟩, .int .i64 2, .int .i64 0, .int .i64 0, .int .i64 0, .int .i64 0, .int .i64 0, .int .i64 0, .string ⟨#[]⟩, .string ⟨#[]⟩, .int .i64 0] 35)).alloc (.cells #[.string ⟨#[100, 47, 110, 101, 119]⟩, .int .i64 1, .int .i64 0, .int .i64 0, .int .i64 0, .int .i64 0, .int .i64 0, .int .i64 0, .string ⟨#[]⟩, .string ⟨#[]⟩, .int .i64 0] 35))) (.cells #[.string ⟨#[100]⟩, .int .i64 2, .int .i64 0, .int .i64 0, .int .i64 0, .int .i64 0, .int .i64 0, .int .i64 0, .string ⟨#[]⟩, .string ⟨#[]⟩, .int .i64 0] 35)
  have ha4 := below_alloc (Below.refl _ (((w.alloc (.cells #[.string ⟨#[100]⟩, .int .i64 2, .int .i64 0, .int .i64 0, .int .i64 0, .int .i64 0, .int .i64 0, .int .i64 0, .string ⟨#[]⟩, .string ⟨#[]⟩, .int .i64 0] 35)).alloc (.cells #[.string ⟨#[100, 47, 110, 101, 119]⟩, .int .i64 1, .int .i64 0, .int .i64 0, .int .i64 0, .int .i64 0, .int .i64 0, .int .i64 0, .string ⟨#[]⟩, .string ⟨#[]⟩, .int .i64 0] 35)).alloc (.cells #[.string ⟨#[100]⟩, .int .i64 2, .int .i64 0, .int .i64 0, .int .i64 0, .int .i64 0, .int .i64 0, .int .i64 0, .string ⟨#[]⟩, .string ⟨#[]⟩, .int .i64 0] 35))) (.cells #[.string ⟨#[100]⟩, .int .i64 2, .int .i64 0, .int .i64 0, .int .i64 0, .int .i64 0, .int .i64 0, .int .i64 0, .string ⟨#[]⟩, .string ⟨#[]⟩, .int .i64 0, .string ⟨#[100, 47, 110, 101, 119]⟩, .int .i64 1, .int .i64 0, .int .i64 0, .int .i64 0, .int .i64 0, .int .i64 0, .int .i64 0, .string ⟨#[]⟩, .string ⟨#[]⟩, .int .i64 0] 35)
  have hB4 := below_step (below_step hB2 ha3) ha4
  have h3' := (ha4.block _ (Array.getElem?_eq_some_iff.1 h3).1).trans h3
  have h1' := ((ha4.block _ (by rw [s3]; omega)).trans (ha3.block _ (by rw [s2]; omega))).trans (((below_alloc (Below.refl _ (w.alloc (.cells #[.string ⟨#[100]⟩, .int .i64 2, .int .i64 0, .int .i64 0, .int .i64 0, .int .i64 0, .int .i64 0, .int .i64 0, .string ⟨#[]⟩, .string ⟨#[]⟩, .int .i64 0] 35))) (.cells #[.string ⟨#[100, 47, 110, 101, 119]⟩, .int .i64 1, .int .i64 0, .int .i64 0, .int .i64 0, .int .i64 0, .int .i64 0, .int .i64 0, .string ⟨#[]⟩, .string ⟨#[]⟩, .int .i64 0] 35)).block _ (by rw [s1]; omega)).trans h1)
  have p1 := plan_calls _ _ _ [dE] [] [dE, nE] 0 _ (ents_made [dE] h3' rfl (by simp)) (ents_none _) (ents_made [dE, nE] h4 rfl (by simp)) (by decide +kernel) (by decide +kernel) (by decide +kernel)
  rw [aw44_1, show ([dE] : List Ent).length = 1 from rfl, show ([dE, nE] : List Ent).length = 2 from rfl] at p1
  replace h1 := Lib.hid h1
  replace h2 := Lib.hid h2
  replace h3 := Lib.hid h3
  replace h4 := Lib.hid h4
  replace hB2 := Lib.hid hB2
  replace ha3 := Lib.hid ha3
  replace ha4 := Lib.hid ha4
  replace hB4 := Lib.hid hB4
  replace h3' := Lib.hid h3'
  replace h1' := Lib.hid h1'
  replace p1 := Lib.hid p1
  replace s1 := Lib.hid s1
  replace s2 := Lib.hid s2
  replace s3 := Lib.hid s3
  go_enter Try.func6, Try.ntmps6
  go_wp2_with fail
  (with_reducible refine (p1.out).mono ?_)
  rintro e w5 ⟨⟨v5, rfl, hO5⟩, hB5⟩
  have hB05 := below_step hB4.out hB5
  have h15 := (hB5.block _ (Array.getElem?_eq_some_iff.1 h1'.out).1).trans h1'.out
  clear h1 h2 h3 h4 hB2 ha3 ha4 hB4 h3' h1' p1 s1 s2 s3
  generalize (((w.alloc (.cells #[.string ⟨#[100]⟩, .int .i64 2, .int .i64 0, .int .i64 0, .int .i64 0, .int .i64 0, .int .i64 0, .int .i64 0, .string ⟨#[]⟩, .string ⟨#[]⟩, .int .i64 0] 35)).alloc (.cells #[.string ⟨#[100, 47, 110, 101, 119]⟩, .int .i64 1, .int .i64 0, .int .i64 0, .int .i64 0, .int .i64 0, .int .i64 0, .int .i64 0, .string ⟨#[]⟩, .string ⟨#[]⟩, .int .i64 0] 35)).alloc (.cells #[.string ⟨#[100]⟩, .int .i64 2, .int .i64 0, .int .i64 0, .int .i64 0, .int .i64 0, .int .i64 0, .int .i64 0, .string ⟨#[]⟩, .string ⟨#[]⟩, .int .i64 0] 35)).alloc (.cells #[.string ⟨#[100]⟩, .int .i64 2, .int .i64 0, .int .i64 0, .int .i64 0, .int .i64 0, .int .i64 0, .int .i64 0, .string ⟨#[]⟩, .string ⟨#[]⟩, .int .i64 0, .string ⟨#[100, 47, 110, 101, 119]⟩, .int .i64 1, .int .i64 0, .int .i64 0, .int .i64 0, .int .i64 0, .int .i64 0, .int .i64 0, .string ⟨#[]⟩, .string ⟨#[]⟩, .int .i64 0] 35) = W4 at *
  have hlow4 := hB5.size
  have hlt5 : w.heap.size < w5.heap.size := (Array.getElem?_eq_some_iff.1 h15).1
  have hR5 := rda_own hO5
  obtain ⟨A5, c5, rfl, hc51, hc52⟩ := hR5.shape
  unfold maxLen at hc52
  dsimp only [List.length_cons, List.length_nil] at hc51 hR5 hO5
  have c0 := cell_of (j := 0) h15 rfl
  have c1 := cell_of (j := 1) h15 rfl
  have c2 := cell_of (j := 2) h15 rfl
  have c3 := cell_of (j := 3) h15 rfl
  have c4 := cell_of (j := 4) h15 rfl
  have c5 := cell_of (j := 5) h15 rfl
  have c6 := cell_of (j := 6) h15 rfl
  have c7 := cell_of (j := 7) h15 rfl
  have c8 := cell_of (j := 8) h15 rfl
  have c9 := cell_of (j := 9) h15 rfl
  have c10 := cell_of (j := 10) h15 rfl
  have s1 : (w5.alloc (.cells #[.string ⟨#[100]⟩, .int .i64 2, .int .i64 0, .int .i64 0, .int .i64 0, .int .i64 0, .int .i64 0, .int .i64 0, .string ⟨#[]⟩, .string ⟨#[]⟩, .int .i64 0] 35)).heap.size = w5.heap.size + 1 := by simp
  have k1 := heap_alloc_new w5 (.cells #[.string ⟨#[100]⟩, .int .i64 2, .int .i64 0, .int .i64 0, .int .i64 0, .int .i64 0, .int .i64 0, .int .i64 0, .string ⟨#[]⟩, .string ⟨#[]⟩, .int .i64 0] 35)
  have k2 := heap_alloc_new (w5.alloc (.cells #[.string ⟨#[100]⟩, .int .i64 2, .int .i64 0, .int .i64 0, .int .i64 0, .int .i64 0, .int .i64 0, .int .i64 0, .string ⟨#[]⟩, .string ⟨#[]⟩, .int .i64 0] 35)) (.cells #[.string ⟨#[100]⟩, .int .i64 2, .int .i64 0, .int .i64 0, .int .i64 0, .int .i64 0, .int .i64 0, .int .i64 0, .string ⟨#[]⟩, .string ⟨#[]⟩, .int .i64 0] 35)
  rw [s1] at k2
  have ka1 := below_alloc (Below.refl _ w5) (.cells #[.string ⟨#[100]⟩, .int .i64 2, .int .i64 0, .int .i64 0, .int .i64 0, .int .i64 0, .int .i64 0, .int .i64 0, .string ⟨#[]⟩, .string ⟨#[]⟩, .int .i64 0] 35)
  have ka2 := below_alloc (Below.refl _ (w5.alloc (.cells #[.string ⟨#[100]⟩, .int .i64 2, .int .i64 0, .int .i64 0, .int .i64 0, .int .i64 0, .int .i64 0, .int .i64 0, .string ⟨#[]⟩, .string ⟨#[]⟩, .int .i64 0] 35))) (.cells #[.string ⟨#[100]⟩, .int .i64 2, .int .i64 0, .int .i64 0, .int .i64 0, .int .i64 0, .int .i64 0, .int .i64 0, .string ⟨#[]⟩, .string ⟨#[]⟩, .int .i64 0] 35)
  have k1' := (ka2.block _ (Array.getElem?_eq_some_iff.1 k1).1).trans k1
  have hB57 := below_step ka1 ka2
  have p2 := plan_calls _ _ _ [dE] [] [dE] 0 _ (ents_made [dE] k1' rfl (by simp)) (ents_none _) (ents_made [dE] k2 rfl (by simp)) (by decide +kernel) (by decide +kernel) (by decide +kernel)
  rw [aw44_2, show ([dE] : List Ent).length = 1 from rfl] at p2
  replace hO5 := Lib.hid hO5
  replace hB5 := Lib.hid hB5
  replace hB05 := Lib.hid hB05
  replace h15 := Lib.hid h15
  replace hR5 := Lib.hid hR5
  replace s1 := Lib.hid s1
  replace k1 := Lib.hid k1
  replace k2 := Lib.hid k2
  replace ka1 := Lib.hid ka1
  replace ka2 := Lib.hid ka2
  replace k1' := Lib.hid k1'
  replace hB57 := Lib.hid hB57
  replace p2 := Lib.hid p2
  replace hlow4 := Lib.hid hlow4
  go_wp2_with fail
  (with_reducible refine (p2.out).mono ?_)
  rintro e w8 ⟨⟨v8, rfl, hO8⟩, hB8⟩
  have hB58 := below_step hB57.out hB8
  have hB08 := below_step hB05.out hB58
  have hR58 := hR5.out.below hB58
  have hR8 := rda_own hO8
  obtain ⟨A8, d8, rfl, hd81, hd82⟩ := hR8.shape
  unfold maxLen at hd82
  dsimp only [List.length_cons, List.length_nil] at hd81 hR8
  clear hO8 hB8 hB58 p2 hB57 k1' ka2 ka1 k2 k1 s1 hO5 c0 c1 c2 c3 c4 c5 c6 c7 c8 c9 c10 h15 hB05 hB5
  generalize (w5.alloc (.cells #[.string ⟨#[100]⟩, .int .i64 2, .int .i64 0, .int .i64 0, .int .i64 0, .int .i64 0, .int .i64 0, .int .i64 0, .string ⟨#[]⟩, .string ⟨#[]⟩, .int .i64 0] 35)).alloc (.cells #[.string ⟨#[100]⟩, .int .i64 2, .int .i64 0, .int .i64 0, .int .i64 0, .int .i64 0, .int .i64 0, .int .i64 0, .string ⟨#[]⟩, .string ⟨#[]⟩, .int .i64 0] 35) = W7 at *
  have q1 := heap_alloc_new w8 (.cells #[.string ⟨#[100]⟩, .int .i64 2, .string ⟨#[100, 47, 110, 101, 119]⟩, .int .i64 2] 39)
  have hq1 := below_alloc (Below.refl _ w8) (.cells #[.string ⟨#[100]⟩, .int .i64 2, .string ⟨#[100, 47, 110, 101, 119]⟩, .int .i64 2] 39)
  have e1 := same44_calls _ _ [([100], 2), ([100, 47, 110, 101, 119], 2)] [([100], 2), ([100, 47, 110, 101, 119], 2)] _ (hR58.below hq1) (acts_made [([100], 2), ([100, 47, 110, 101, 119], 2)] q1 rfl (by simp)) (by simp)
  rw [decide_eq_true rfl, show ([([100], 2), ([100, 47, 110, 101, 119], 2)] : Acts44).length = 2 from rfl] at e1
  replace hB08 := Lib.hid hB08
  replace hR58 := Lib.hid hR58
  replace hR8 := Lib.hid hR8
  replace q1 := Lib.hid q1
  replace hq1 := Lib.hid hq1
  replace e1 := Lib.hid e1
  go_wp2_with fail
  (with_reducible refine (e1.out).mono ?_)
  rintro e w9 ⟨rfl, hB9⟩
  have hB89 := below_step hq1.out hB9
  have hB09 := below_step hB08.out hB89
  have hR9 := hR8.out.below hB89
  clear hB9 hB89 e1 hq1 q1
  have q2 := heap_alloc_new w9 (.cells #[.string ⟨#[100]⟩, .int .i64 1] 39)
  have hq2 := below_alloc (Below.refl _ w9) (.cells #[.string ⟨#[100]⟩, .int .i64 1] 39)
  have e2 := same44_calls _ _ [([100], 1)] [([100], 1)] _ (hR9.below hq2) (acts_made [([100], 1)] q2 rfl (by simp)) (by simp)
  rw [decide_eq_true rfl, show ([([100], 1)] : Acts44).length = 1 from rfl] at e2
  replace hB09 := Lib.hid hB09
  replace hR9 := Lib.hid hR9
  replace q2 := Lib.hid q2
  replace hq2 := Lib.hid hq2
  replace e2 := Lib.hid e2
  go_wp2_with fail
  (with_reducible refine (e2.out).mono ?_)
  rintro e w10 ⟨rfl, hB10⟩
  have hB := below_step (below_step hB09.out hq2.out) hB10
  replace hB := Lib.hid hB
  go_wp2
  go_ret
  exact ⟨rfl, hB.out⟩

end Go.Proofs.Ytcjlfkklpghjbaa

namespace Go.Proofs.Ytcjlfkklpghjbaa
open Go.RowKit

theorem planE_len {W L R : List Ent} {po : Int} (sL : smallEs L = true) (sR : smallEs R = true) : (planE W L R po).1.length ≤ 120 := by
  have hL60 := (smallEs_at sL).1
  have hR60 := (smallEs_at sR).1
  have hup : (upaths L R).length ≤ 120 := by
    have h := List.Nodup.length_le_of_subset (rise_nodup (upaths_is L R).1) (l₂ := entPaths L ++ entPaths R) (fun x hx => List.mem_append.2 (((upaths_is L R).2 x).1 hx))
    rw [List.length_append] at h
    unfold entPaths at h
    simp only [List.length_map] at h
    omega
  unfold planE
  split
  · simp
  · split
    · simp
    · split
      · simp
      · split
        · simp
        · dsimp only
          unfold planL markL
          rw [markTo_len _ (Nat.le_refl _), heldL, List.length_map]
          have := actsOf_len W L R po (upaths L R)
          omega

set_option maxHeartbeats 4000000 in
set_option maxRecDepth 100000 in
theorem reconPlans_walk (v : Value) (a b c : List Ent) (po : Int) (w : World) (hv : Lists3 w v a b c) (_hpo : (Lit.int IntKind.i64 po).wf = true) :
    Calls Try.prog 4 #[v, .int .i64 po] w fun e w' => e = .returned (.bool true) ∧ Below w.heap.size w w' := by
  obtain ⟨x, y, z, rfl, hx, hy, hz⟩ := hv
  have hB := below_alloc (Below.refl w.heap.size w) (.cells #[x, y, z] 24)
  have hblk := heap_alloc_new w (.cells #[x, y, z] 24)
  have hx1 := hx.below (below_alloc (Below.refl _ w) (.cells #[x, y, z] 24))
  have hy1 := hy.below (below_alloc (Below.refl _ w) (.cells #[x, y, z] 24))
  have hz1 := hz.below (below_alloc (Below.refl _ w) (.cells #[x, y, z] 24))
  have hsm := small44_calls x y z a b c _ hx1 hy1 hz1
  have haw := fun W => awake44_calls W
  obtain ⟨A1, c1, rfl, _, _⟩ := hx.shape
  obtain ⟨A2, c2, rfl, _, _⟩ := hy.shape
  obtain ⟨A3, c3, rfl, _, _⟩ := hz.shape
  have d0 := cell_of (j := 0) hblk rfl
  have d1 := cell_of (j := 1) hblk rfl
  have d2 := cell_of (j := 2) hblk rfl
  cases hq : (smallEs a && smallEs b && smallEs c) with
  | false =>
    rw [hq] at hsm
    replace hB := Lib.hid hB
    replace hblk := Lib.hid hblk
    replace hx1 := Lib.hid hx1
    replace hy1 := Lib.hid hy1
    replace hz1 := Lib.hid hz1
    replace hsm := Lib.hid hsm
    replace haw := Lib.hid haw
    replace hx := Lib.hid hx
    replace hy := Lib.hid hy
    replace hz := Lib.hid hz
    replace hq := Lib.hid hq
    go_enter Try.func4, Try.ntmps4
    go_wp2_with fail
    (with_reducible refine (hsm.out).mono ?_)
    rintro e w1 ⟨rfl, hB1⟩
    have hB01 := below_step hB.out hB1
    replace hB01 := Lib.hid hB01
    clear hB1
    go_wp2_with fail
    (with_reducible refine (haw.out _).mono ?_)
    rintro e w2 ⟨rfl, hB2⟩
    have hB02 := below_step hB01.out hB2
    replace hB02 := Lib.hid hB02
    go_wp2
    go_ret
    exact ⟨rfl, hB02.out⟩
  | true =>
    rw [hq] at hsm
    simp only [Bool.and_eq_true] at hq
    obtain ⟨⟨sa, sb⟩, sc⟩ := hq
    have hlen := planE_len (W := a) (po := po) sb sc
    have hp1 := fun W hx hy hz => plan_calls (.slice A1 a.length c1) (.slice A2 b.length c2) (.slice A3 c.length c3) a b c po W hx hy hz sa sb sc
    have hp2 := fun W hx hy hz => plan44_calls (.slice A1 a.length c1) (.slice A2 b.length c2) (.slice A3 c.length c3) a b c po W hx hy hz sa sb sc
    generalize planE a b c po = r at *
    obtain ⟨acts, code⟩ := r
    dsimp only at *
    replace hB := Lib.hid hB
    replace hblk := Lib.hid hblk
    replace hx1 := Lib.hid hx1
    replace hy1 := Lib.hid hy1
    replace hz1 := Lib.hid hz1
    replace hsm := Lib.hid hsm
    replace haw := Lib.hid haw
    replace hx := Lib.hid hx
    replace hy := Lib.hid hy
    replace hz := Lib.hid hz
    replace hlen := Lib.hid hlen
    replace hp1 := Lib.hid hp1
    replace hp2 := Lib.hid hp2
    go_enter Try.func4, Try.ntmps4
    go_wp2_with fail
    (with_reducible refine (hsm.out).mono ?_)
    rintro e w1 ⟨rfl, hB1⟩
    have hB01 := below_step hB.out hB1
    have e0 := (hB1.cell (cell_lt d0)).trans d0
    have e1 := (hB1.cell (cell_lt d1)).trans d1
    have e2 := (hB1.cell (cell_lt d2)).trans d2
    have hx2 := hx1.out.below hB1
    have hy2 := hy1.out.below hB1
    have hz2 := hz1.out.below hB1
    replace hB01 := Lib.hid hB01
    replace hx2 := Lib.hid hx2
    replace hy2 := Lib.hid hy2
    replace hz2 := Lib.hid hz2
    clear hB1 d0 d1 d2
    go_wp2_with fail
    (with_reducible refine (hp1.out _ hx2.out hy2.out hz2.out).mono ?_)
    rintro e w2 ⟨⟨v2, rfl, hO2⟩, hB2⟩
    have hB02 := below_step hB01.out hB2
    have f0 := (hB2.cell (cell_lt e0)).trans e0
    have f1 := (hB2.cell (cell_lt e1)).trans e1
    have f2 := (hB2.cell (cell_lt e2)).trans e2
    have hx3 := hx2.out.below hB2
    have hy3 := hy2.out.below hB2
    have hz3 := hz2.out.below hB2
    have hR2 := rda_own hO2
    obtain ⟨A4, c4, rfl, _, hc4⟩ := hR2.shape
    unfold maxLen at hc4
    replace hB02 := Lib.hid hB02
    replace hx3 := Lib.hid hx3
    replace hy3 := Lib.hid hy3
    replace hz3 := Lib.hid hz3
    replace hR2 := Lib.hid hR2
    clear hB2 hO2 e0 e1 e2
    go_wp2_with fail
    (with_reducible refine (hp2.out _ hx3.out hy3.out hz3.out).mono ?_)
    rintro e w3 ⟨⟨v3, rfl, hO3⟩, hB3⟩
    have hB03 := below_step hB02.out hB3
    have hR23 := hR2.out.below hB3
    have hR3 := rda_own hO3
    obtain ⟨A5, c5, rfl, _, hc5⟩ := hR3.shape
    unfold maxLen at hc5
    clear f0 f1 f2 hO3 hB3
    have hsa := same44_calls _ _ acts acts w3 hR23 hR3 (by have := hlen.out; omega)
    rw [decide_eq_true rfl] at hsa
    replace hB03 := Lib.hid hB03
    replace hR23 := Lib.hid hR23
    replace hR3 := Lib.hid hR3
    replace hsa := Lib.hid hsa
    go_wp2_with fail
    (with_reducible refine (hsa.out).mono ?_)
    rintro e w4 ⟨rfl, hB4⟩
    have hB04 := below_step hB03.out hB4
    have hR24 := hR23.out.below hB4
    have hR34 := hR3.out.below hB4
    have hcl := clash_calls _ acts w4 hR24 (by have := hlen.out; omega)
    have hcl2 := fun W hW => clash44_calls (.slice A5 acts.length c5) acts W hW (by have := hlen.out; omega)
    replace hB04 := Lib.hid hB04
    replace hR24 := Lib.hid hR24
    replace hR34 := Lib.hid hR34
    replace hcl := Lib.hid hcl
    replace hcl2 := Lib.hid hcl2
    clear hB4
    go_wp2_with fail
    (with_reducible refine (hcl.out).mono ?_)
    rintro e w5 ⟨⟨v5, rfl, hS5⟩, hB5⟩
    have hB05 := below_step hB04.out hB5
    have hR35 := hR34.out.below hB5
    have hd5 := hS5.rd
    obtain ⟨A6, c6, rfl, _, hc6⟩ := hd5.shape
    unfold maxLen at hc6
    replace hB05 := Lib.hid hB05
    replace hR35 := Lib.hid hR35
    replace hd5 := Lib.hid hd5
    clear hB5 hS5
    go_wp2_with fail
    (with_reducible refine (hcl2.out _ hR35.out).mono ?_)
    rintro e w6 ⟨⟨v6, rfl, hS6⟩, hB6⟩
    have hB06 := below_step hB05.out hB6
    have hd56 := hd5.out.below hB6
    have hd6 := hS6.rd
    obtain ⟨A7, c7, rfl, _, hc7⟩ := hd6.shape
    unfold maxLen at hc7
    have hte := rtexts_calls _ _ _ _ w6 hd56 hd6
    rw [decide_eq_true rfl] at hte
    replace hB06 := Lib.hid hB06
    replace hd56 := Lib.hid hd56
    replace hd6 := Lib.hid hd6
    replace hte := Lib.hid hte
    clear hB6 hS6
    go_wp2_with fail
    (with_reducible refine (hte.out).mono ?_)
    rintro e w7 ⟨rfl, hB7⟩
    have hB07 := below_step hB06.out hB7
    replace hB07 := Lib.hid hB07
    clear hB7
    go_wp2_with fail
    (with_reducible refine (haw.out _).mono ?_)
    rintro e w8 ⟨rfl, hB8⟩
    have hB08 := below_step hB07.out hB8
    replace hB08 := Lib.hid hB08
    go_wp2
    go_ret
    exact ⟨rfl, hB08.out⟩

end Go.Proofs.Ytcjlfkklpghjbaa
