/-
  recon.do: all acts, on two trees.
  recon.Do.
  remoraref17.Copy.
  With both sides changed for one another all acts go the other way: the plain law.
  Lists of entries in memory, and as an argument.
  flist.alone and remoraref20.May: what is wrong with an entry by itself.
  remoraref20.Small, Find; remoralaw44.small.
  flist.Check.
  remoraref20.May: what is wrong with an entry by itself.
  remoraref20.Check.
  remoraref44: at, Alike, later, dir, wish.
  remoraref44: Alike, later, dir, wish.
  remoraref44: dir, wish.
  Rows of acts in memory; remoraref44: below, Clash, Swap; recon.Clash; remoralaw44.same.
  remoraref44.Do.
  Two rows of calls as one argument; acts as an argument.
-/
import Derived.Test.YtcjlfkklpghjbaaGreatB5
import Derived.Laws.EntriesVeiled
import Derived.Test.YtcjlfkklpghjbaaGreatB3
import Derived.Deep.Slices
import Derived.Deep.Fields
import Derived.ChangeSame
import Derived.ChangeSlices
import Derived.Carry
import Derived.Test.YtcjlfkklpghjbaaGreatB1
import Derived.Test.YtcjlfkklpghjbaaGreatB4
import Derived.Test.YtcjlfkklpghjbaaGreatB2
set_option linter.unusedVariables false
set_option linter.unusedSimpArgs false
open Go.Lib (hid)

namespace Go.Proofs.YtcjlfkklpghjbaaGreat
open Go.RowKit
set_option linter.unusedSimpArgs false
set_option linter.unusedVariables false
def lenV : Value → Nat
  | .slice _ n _ => n
  | _ => 0
theorem runF_zero {f : Fs → Fs → Bytes → Fs × Int} {y : Bytes × Int} {l : Acts44} {S : Fs × Fs} (h : (onHalf f S y).2 = 0) : runF f (y :: l) S = runF f l (onHalf f S y).1 := by
 rw [runF, if_neg (by simp [h])]
theorem runF_err {f : Fs → Fs → Bytes → Fs × Int} {y : Bytes × Int} {l : Acts44} {S : Fs × Fs} (h : (onHalf f S y).2 ≠ 0) : runF f (y :: l) S = onHalf f S y := by
 rw [runF, if_pos h]
theorem doF_err {S : Fs × Fs} {l : Acts44} (h : (runF outF l.reverse S).2 ≠ 0) : doF S l = runF outF l.reverse S := if_pos h
theorem doF_on {S S1 : Fs × Fs} {l : Acts44} (h : runF outF l.reverse S = (S1, 0)) : doF S l = runF overF l S1 := by
 unfold doF
 rw [h]
 exact if_neg (by simp)
set_option maxHeartbeats 8000000 in
set_option maxRecDepth 100000 in
theorem redo_calls (tb ub : Nat) (A M B N : Nat → Nat) (S : Fs × Fs) (v : Value) (l : Acts44) (w : World) (hP : Pair w tb ub A M B N S) (hv : ActsT w v l) (hpl : ∀ y ∈ l, y.1.length ≤ 16777216) (hll : l.length ≤ 1000) (hsm : Small2 (2 * l.length) S) :
  Calls Tryz.prog 18 #[ptr tb, ptr ub, v] w fun e w' => e = .returned (.int .i64 (doF S l).2) ∧ Stp2 w w' tb ub A M B N S (doF S l).1 := by
 have hv0 := hv
 obtain ⟨Ad, c, rfl, hc1, hc2, _⟩ := hv0
 unfold maxLen at hc2
 unfold ptr
 have hix0 : ∀ W : World, (Instr.index 100 (.agg #[.func (.func 53) #[] #[], .func (.func 54) #[] #[]]) (.int .i64 0)).run Tryz.prog W = .ok (.func (.func 53) #[] #[]) W := fun W => by kernel_rfl
 have hix1 : ∀ W : World, (Instr.index 100 (.agg #[.func (.func 53) #[] #[], .func (.func 54) #[] #[]]) (.int .i64 1)).run Tryz.prog W = .ok (.func (.func 54) #[] #[]) W := fun W => by kernel_rfl
 have hB0 := below_alloc (Below.refl w.heap.size w) (.cells #[.func (.func 53) #[] #[], .func (.func 54) #[] #[]] 100)
 replace hP := hid hP
 replace hv := hid hv
 replace hpl := hid hpl
 replace hsm := hid hsm
 replace hB0 := hid hB0
 go_enter Tryz.func18, Tryz.ntmps18
 go_wp2_with fail
 go_loopw [18] (fun i wr => ∃ (j : Int) (S1 : Fs × Fs), i = .int .i64 j ∧ Stp2 w wr tb ub A M B N S S1 ∧ ((j = 0 ∧ S1 = S) ∨ (j = 1 ∧ runF outF l.reverse S = (S1, 0) ∧ Small2 l.length S1) ∨ (j = 2 ∧ doF S l = (S1, 0)))) (fun i _ => 2 - (intOf i).toNat)
 case atStart => exact ⟨0, S, rfl, Stp2.same hP.out hB0.out, Or.inl ⟨rfl, rfl⟩⟩
 case round =>
  clear hB0
  obtain ⟨j, S1, rfl, hS1, hj⟩ := hrel
  rcases hj with ⟨rfl, hSe⟩ | ⟨rfl, hrun, hsm1⟩ | ⟨rfl, hdo⟩
  ·rw [hSe] at hS1
   clear hSe
   replace hS1 := hid hS1
   go_wp2_with fail
   go_loopw [10] (fun r wr => ∃ (m : Nat) (S2 : Fs × Fs), r = .slice Ad m m ∧ m ≤ l.length ∧ Stp2 w wr tb ub A M B N S S2 ∧ runF outF l.reverse S = runF outF (l.take m).reverse S2 ∧ Small2 (l.length + m) S2) (fun r _ => lenV r)
   case atStart => exact ⟨l.length, S, rfl, Nat.le_refl _, hS1.out, by rw [List.take_length], by have := hsm.out; unfold Small2 at this ⊢; omega⟩
   case round =>
    clear hS1
    obtain ⟨m, S2, rfl, hm, hS2, hrun2, hsm2⟩ := hrel
    cases m with
    | zero =>
     have hr : runF outF l.reverse S = (S2, 0) := hrun2
     have hs3 : Small2 l.length S2 := hsm2
     replace hS2 := hid hS2
     replace hr := hid hr
     replace hs3 := hid hs3
     replace hrun2 := hid hrun2
     replace hsm2 := hid hsm2
     go_wp2
     go_roundw
     case rel => exact ⟨1, S2, by first | rfl | go_num, hS2.out, Or.inr (Or.inl ⟨rfl, hr.out, hs3.out⟩)⟩
     case measure => simp [intOf]
    | succ k =>
     have hlt : k < l.length := hm
     rw [take_reverse hlt] at hrun2
     have hS2' := hS2
     obtain ⟨A2, M2, B2, N2, hP2, hT2, hO2⟩ := hS2'
     obtain ⟨g, o, rfl, c1, c2⟩ := (hv.out.turn hP.out hT2).at hlt
     have hql := hpl.out _ (List.getElem_mem hlt)
     have hsm4 : Small2 (l.length + k + 1) S2 := hsm2
     generalize l[k] = y at *
     obtain ⟨q, t⟩ := y
     dsimp only at *
     have hBa := below_alloc (Below.refl wr.heap.size wr) (.cells #[.string (mkS q), .int .i64 t] 56)
     have hnm : S2.1.names.length ≤ 1000000 ∧ S2.2.names.length ≤ 1000000 := by unfold Small2 at hsm4; omega
     clear hsm2
     have hsm2 := hsm4
     clear hsm4
     replace hS2 := hid hS2
     replace hrun2 := hid hrun2
     replace hsm2 := hid hsm2
     replace hP2 := hid hP2
     replace hT2 := hid hT2
     replace hO2 := hid hO2
     replace hql := hid hql
     replace hBa := hid hBa
     replace hnm := hid hnm
     have hPa := hP2.out.below hBa.out
     have ha := heap_alloc_new wr (.cells #[.string (mkS q), .int .i64 t] 56)
     have a0 := cell_of (j := 0) ha rfl
     have a1 := cell_of (j := 1) ha rfl
     by_cases ht0 : t = 0
     ·have t1 : (t == 0) = true := by simpa using ht0
      have t2 : (t == 2) = false := by rw [ht0]; rfl
      have he : onHalf outF S2 (q, t) = (S2, 0) := by unfold onHalf; exact if_pos ht0
      have hr2 := hrun2.out
      rw [runF_zero (by rw [he]), he] at hr2
      have hS5 := Stp2.then hS2.out hBa.out
      replace ht0 := hid ht0
      replace he := hid he
      replace hr2 := hid hr2
      replace hS5 := hid hS5
      replace ha := hid ha
      replace hPa := hid hPa
      go_wp2
      go_roundw
      case rel => exact ⟨k, _, rfl, by omega, hS5.out, hr2.out, (by first | exact hhalf.out | (have := hsm2.out; unfold Small2 at this ⊢; omega))⟩
      case measure => simp [lenV]
     ·have t1 : (t == 0) = false := by simpa using ht0
      by_cases ht2 : t = 2
      ·have t2 : (t == 2) = true := by simpa using ht2
       have he : onHalf outF S2 (q, t) = (((outF S2.2 S2.1 q).1, S2.2), (outF S2.2 S2.1 q).2) := by unfold onHalf; rw [if_neg ht0, if_pos ht2]
       have hC := reout_calls ub tb B2 N2 A2 M2 S2.2 S2.1 q (wr.alloc (.cells #[.string (mkS q), .int .i64 t] 56)) hPa.r hPa.l hql.out hnm.out.1
       have hof := fun W T' (h : Stp (wr.alloc (.cells #[.string (mkS q), .int .i64 t] 56)) W tb A2 M2 S2.1 T') => Stp2.trans hT2.out hO2.out (Stp2.after hBa.out (Stp2.ofLeft hPa h))
       have hhalf := Small2.half grow_outF (hsm2.out) (q, t)
       generalize hee : (onHalf outF S2 (q, t)) = ho at *
       obtain ⟨S3, ee⟩ := ho
       have he1 := congrArg Prod.fst he
       have he2 := congrArg Prod.snd he
       dsimp only at he1 he2 hhalf
       rw [← he2] at hC
       clear he
       unfold ptr at hC
       replace ht0 := hid ht0
       replace ht2 := hid ht2
       replace hee := hid hee
       replace he1 := hid he1
       replace he2 := hid he2
       replace hhalf := hid hhalf
       replace hC := hid hC
       replace hof := hid hof
       replace ha := hid ha
       replace hPa := hid hPa
       go_wp2_with fail
       (with_reducible refine hC.out.mono ?_)
       rintro e w5 ⟨rfl, hS5'⟩
       have hS5 := hof.out _ _ hS5'
       rw [← he1.out] at hS5
       by_cases h0 : ee = 0
       ·subst h0
        have hr2 := hrun2.out
        rw [runF_zero (by rw [hee.out]), hee.out] at hr2
        replace hr2 := hid hr2
        replace hS5 := hid hS5
        clear hS5' hof hC
        go_wp2
        go_roundw
        case rel => exact ⟨k, _, rfl, by omega, hS5.out, hr2.out, (by first | exact hhalf.out | (have := hsm2.out; unfold Small2 at this ⊢; omega))⟩
        case measure => simp [lenV]
       ·have t3 : (ee != 0) = true := by simpa using h0
        have hr2 := hrun2.out
        rw [runF_err (by rw [hee.out]; exact h0), hee.out] at hr2
        have hfin : doF S l = (S3, ee) := (by rw [doF_err (by rw [hr2]; exact h0), hr2])
        replace hr2 := hid hr2
        replace hS5 := hid hS5
        replace h0 := hid h0
        replace hfin := hid hfin
        clear hS5' hof hC
        go_wp2
        go_ret
        exact ⟨by rw [hfin.out]; rfl, by rw [hfin.out]; exact hS5.out⟩
      ·have t2 : (t == 2) = false := by simpa using ht2
       have he : onHalf outF S2 (q, t) = ((S2.1, (outF S2.1 S2.2 q).1), (outF S2.1 S2.2 q).2) := by unfold onHalf; rw [if_neg ht0, if_neg ht2]
       have hC := reout_calls tb ub A2 M2 B2 N2 S2.1 S2.2 q (wr.alloc (.cells #[.string (mkS q), .int .i64 t] 56)) hPa.l hPa.r hql.out hnm.out.2
       have hof := fun W T' (h : Stp (wr.alloc (.cells #[.string (mkS q), .int .i64 t] 56)) W ub B2 N2 S2.2 T') => Stp2.trans hT2.out hO2.out (Stp2.after hBa.out (Stp2.ofRight hPa h))
       have hhalf := Small2.half grow_outF (hsm2.out) (q, t)
       generalize hee : (onHalf outF S2 (q, t)) = ho at *
       obtain ⟨S3, ee⟩ := ho
       have he1 := congrArg Prod.fst he
       have he2 := congrArg Prod.snd he
       dsimp only at he1 he2 hhalf
       rw [← he2] at hC
       clear he
       unfold ptr at hC
       replace ht0 := hid ht0
       replace ht2 := hid ht2
       replace hee := hid hee
       replace he1 := hid he1
       replace he2 := hid he2
       replace hhalf := hid hhalf
       replace hC := hid hC
       replace hof := hid hof
       replace ha := hid ha
       replace hPa := hid hPa
       go_wp2_with fail
       (with_reducible refine hC.out.mono ?_)
       rintro e w5 ⟨rfl, hS5'⟩
       have hS5 := hof.out _ _ hS5'
       rw [← he1.out] at hS5
       by_cases h0 : ee = 0
       ·subst h0
        have hr2 := hrun2.out
        rw [runF_zero (by rw [hee.out]), hee.out] at hr2
        replace hr2 := hid hr2
        replace hS5 := hid hS5
        clear hS5' hof hC
        go_wp2
        go_roundw
        case rel => exact ⟨k, _, rfl, by omega, hS5.out, hr2.out, (by first | exact hhalf.out | (have := hsm2.out; unfold Small2 at this ⊢; omega))⟩
        case measure => simp [lenV]
       ·have t3 : (ee != 0) = true := by simpa using h0
        have hr2 := hrun2.out
        rw [runF_err (by rw [hee.out]; exact h0), hee.out] at hr2
        have hfin : doF S l = (S3, ee) := (by rw [doF_err (by rw [hr2]; exact h0), hr2])
        replace hr2 := hid hr2
        replace hS5 := hid hS5
        replace h0 := hid h0
        replace hfin := hid hfin
        clear hS5' hof hC
        go_wp2
        go_ret
        exact ⟨by rw [hfin.out]; rfl, by rw [hfin.out]; exact hS5.out⟩
  ·replace hS1 := hid hS1
   have hAd0 : 0 < l.length → ∃ g o, Ad = some ⟨g, o, none⟩ ∧ Ad = some ⟨g, o + 0 * 2, none⟩ := fun h => by
    obtain ⟨g, o, e, _⟩ := hv.out.at h
    exact ⟨g, o, e, by rw [e]; simp⟩
   replace hrun := hid hrun
   replace hsm1 := hid hsm1
   replace hAd0 := hid hAd0
   go_wp2_with fail
   go_loopw [10] (fun r wr => ∃ (m d : Nat) (Am : Option Addr) (S2 : Fs × Fs), r = .slice Am d d ∧ m + d = l.length ∧ (0 < d → ∃ g o, Ad = some ⟨g, o, none⟩ ∧ Am = some ⟨g, o + m * 2, none⟩) ∧ Stp2 w wr tb ub A M B N S S2 ∧ runF overF l S1 = runF overF (l.drop m) S2 ∧ Small2 d S2) (fun r _ => lenV r)
   case atStart => exact ⟨0, l.length, Ad, S1, rfl, Nat.zero_add _, hAd0.out, hS1.out, rfl, hsm1.out⟩
   case round =>
    clear hS1
    obtain ⟨m, d, Am, S2, rfl, hmd, hAm, hS2, hr1, hsm2⟩ := hrel
    cases d with
    | zero =>
     have hr : doF S l = (S2, 0) := by
      rw [doF_on hrun.out, hr1, List.drop_of_length_le (by omega)]
      rfl
     replace hS2 := hid hS2
     replace hr := hid hr
     replace hr1 := hid hr1
     replace hsm2 := hid hsm2
     replace hmd := hid hmd
     go_wp2
     go_roundw
     case rel => exact ⟨2, S2, by first | rfl | go_num, hS2.out, Or.inr (Or.inr ⟨rfl, hr.out⟩)⟩
     case measure => simp [intOf]
    | succ e =>
     have hlt : m < l.length := by omega
     rw [List.drop_eq_getElem_cons hlt] at hr1
     obtain ⟨g, o, hAd, rfl⟩ := hAm (by omega)
     clear hAm
     have hS2' := hS2
     obtain ⟨A2, M2, B2, N2, hP2, hT2, hO2⟩ := hS2'
     obtain ⟨g', o', hAd', c1, c2⟩ := (hv.out.turn hP.out hT2).at hlt
     rw [hAd] at hAd'
     cases hAd'
     have hql := hpl.out _ (List.getElem_mem hlt)
     generalize l[m] = y at *
     obtain ⟨q, t⟩ := y
     dsimp only at *
     have hrun2 := hr1
     have hBa := below_alloc (Below.refl wr.heap.size wr) (.cells #[.string (mkS q), .int .i64 t] 56)
     have hnm : (S2.1.names.length ≤ 1000000 ∧ S2.1.next < 4611686018427387904) ∧ (S2.2.names.length ≤ 1000000 ∧ S2.2.next < 4611686018427387904) := by unfold Small2 at hsm2; omega
     replace hS2 := hid hS2
     replace hr1 := hid hr1
     replace hrun2 := hid hrun2
     replace hsm2 := hid hsm2
     replace hP2 := hid hP2
     replace hT2 := hid hT2
     replace hO2 := hid hO2
     replace hql := hid hql
     replace hBa := hid hBa
     replace hnm := hid hnm
     replace hmd := hid hmd
     replace hAd := hid hAd
     cases e with
     | zero =>
      have hPa := hP2.out.below hBa.out
      have ha := heap_alloc_new wr (.cells #[.string (mkS q), .int .i64 t] 56)
      have a0 := cell_of (j := 0) ha rfl
      have a1 := cell_of (j := 1) ha rfl
      by_cases ht0 : t = 0
      ·have t1 : (t == 0) = true := by simpa using ht0
       have t2 : (t == 2) = false := by rw [ht0]; rfl
       have he : onHalf overF S2 (q, t) = (S2, 0) := by unfold onHalf; exact if_pos ht0
       have hr2 := hrun2.out
       rw [runF_zero (by rw [he]), he] at hr2
       have hS5 := Stp2.then hS2.out hBa.out
       replace ht0 := hid ht0
       replace he := hid he
       replace hr2 := hid hr2
       replace hS5 := hid hS5
       replace ha := hid ha
       replace hPa := hid hPa
       go_wp2
       go_roundw
       case rel => exact ⟨m + 1, _, _, _, rfl, by have := hmd.out; omega, (fun h => absurd h (by omega)), hS5.out, hr2.out, (by first | exact hhalf.out | (have := hsm2.out; unfold Small2 at this ⊢; omega))⟩
       case measure => simp [lenV]
      ·have t1 : (t == 0) = false := by simpa using ht0
       by_cases ht2 : t = 2
       ·have t2 : (t == 2) = true := by simpa using ht2
        have he : onHalf overF S2 (q, t) = (((overF S2.2 S2.1 q).1, S2.2), (overF S2.2 S2.1 q).2) := by unfold onHalf; rw [if_neg ht0, if_pos ht2]
        have hC := reover_calls ub tb B2 N2 A2 M2 S2.2 S2.1 q (wr.alloc (.cells #[.string (mkS q), .int .i64 t] 56)) hPa.r hPa.l (fun b hb ho => hPa.apart b ho hb) hql.out hnm.out.1.1 hnm.out.1.2
        have hof := fun W T' (h : Stp (wr.alloc (.cells #[.string (mkS q), .int .i64 t] 56)) W tb A2 M2 S2.1 T') => Stp2.trans hT2.out hO2.out (Stp2.after hBa.out (Stp2.ofLeft hPa h))
        have hhalf := Small2.half grow_overF (hsm2.out) (q, t)
        generalize hee : (onHalf overF S2 (q, t)) = ho at *
        obtain ⟨S3, ee⟩ := ho
        have he1 := congrArg Prod.fst he
        have he2 := congrArg Prod.snd he
        dsimp only at he1 he2 hhalf
        rw [← he2] at hC
        clear he
        unfold ptr at hC
        replace ht0 := hid ht0
        replace ht2 := hid ht2
        replace hee := hid hee
        replace he1 := hid he1
        replace he2 := hid he2
        replace hhalf := hid hhalf
        replace hC := hid hC
        replace hof := hid hof
        replace ha := hid ha
        replace hPa := hid hPa
        go_wp2_with fail
        (with_reducible refine hC.out.mono ?_)
        rintro e w5 ⟨rfl, hS5'⟩
        have hS5 := hof.out _ _ hS5'
        rw [← he1.out] at hS5
        by_cases h0 : ee = 0
        ·subst h0
         have hr2 := hrun2.out
         rw [runF_zero (by rw [hee.out]), hee.out] at hr2
         replace hr2 := hid hr2
         replace hS5 := hid hS5
         clear hS5' hof hC
         go_wp2
         go_roundw
         case rel => exact ⟨m + 1, _, _, _, rfl, by have := hmd.out; omega, (fun h => absurd h (by omega)), hS5.out, hr2.out, (by first | exact hhalf.out | (have := hsm2.out; unfold Small2 at this ⊢; omega))⟩
         case measure => simp [lenV]
        ·have t3 : (ee != 0) = true := by simpa using h0
         have hr2 := hrun2.out
         rw [runF_err (by rw [hee.out]; exact h0), hee.out] at hr2
         have hfin : doF S l = (S3, ee) := (by rw [doF_on hrun.out]; exact hr2)
         replace hr2 := hid hr2
         replace hS5 := hid hS5
         replace h0 := hid h0
         replace hfin := hid hfin
         clear hS5' hof hC
         go_wp2
         go_ret
         exact ⟨by rw [hfin.out]; rfl, by rw [hfin.out]; exact hS5.out⟩
       ·have t2 : (t == 2) = false := by simpa using ht2
        have he : onHalf overF S2 (q, t) = ((S2.1, (overF S2.1 S2.2 q).1), (overF S2.1 S2.2 q).2) := by unfold onHalf; rw [if_neg ht0, if_neg ht2]
        have hC := reover_calls tb ub A2 M2 B2 N2 S2.1 S2.2 q (wr.alloc (.cells #[.string (mkS q), .int .i64 t] 56)) hPa.l hPa.r hPa.apart hql.out hnm.out.2.1 hnm.out.2.2
        have hof := fun W T' (h : Stp (wr.alloc (.cells #[.string (mkS q), .int .i64 t] 56)) W ub B2 N2 S2.2 T') => Stp2.trans hT2.out hO2.out (Stp2.after hBa.out (Stp2.ofRight hPa h))
        have hhalf := Small2.half grow_overF (hsm2.out) (q, t)
        generalize hee : (onHalf overF S2 (q, t)) = ho at *
        obtain ⟨S3, ee⟩ := ho
        have he1 := congrArg Prod.fst he
        have he2 := congrArg Prod.snd he
        dsimp only at he1 he2 hhalf
        rw [← he2] at hC
        clear he
        unfold ptr at hC
        replace ht0 := hid ht0
        replace ht2 := hid ht2
        replace hee := hid hee
        replace he1 := hid he1
        replace he2 := hid he2
        replace hhalf := hid hhalf
        replace hC := hid hC
        replace hof := hid hof
        replace ha := hid ha
        replace hPa := hid hPa
        go_wp2_with fail
        (with_reducible refine hC.out.mono ?_)
        rintro e w5 ⟨rfl, hS5'⟩
        have hS5 := hof.out _ _ hS5'
        rw [← he1.out] at hS5
        by_cases h0 : ee = 0
        ·subst h0
         have hr2 := hrun2.out
         rw [runF_zero (by rw [hee.out]), hee.out] at hr2
         replace hr2 := hid hr2
         replace hS5 := hid hS5
         clear hS5' hof hC
         go_wp2
         go_roundw
         case rel => exact ⟨m + 1, _, _, _, rfl, by have := hmd.out; omega, (fun h => absurd h (by omega)), hS5.out, hr2.out, (by first | exact hhalf.out | (have := hsm2.out; unfold Small2 at this ⊢; omega))⟩
         case measure => simp [lenV]
        ·have t3 : (ee != 0) = true := by simpa using h0
         have hr2 := hrun2.out
         rw [runF_err (by rw [hee.out]; exact h0), hee.out] at hr2
         have hfin : doF S l = (S3, ee) := (by rw [doF_on hrun.out]; exact hr2)
         replace hr2 := hid hr2
         replace hS5 := hid hS5
         replace h0 := hid h0
         replace hfin := hid hfin
         clear hS5' hof hC
         go_wp2
         go_ret
         exact ⟨by rw [hfin.out]; rfl, by rw [hfin.out]; exact hS5.out⟩
     | succ e =>
      have hPa := hP2.out.below hBa.out
      have ha := heap_alloc_new wr (.cells #[.string (mkS q), .int .i64 t] 56)
      have a0 := cell_of (j := 0) ha rfl
      have a1 := cell_of (j := 1) ha rfl
      by_cases ht0 : t = 0
      ·have t1 : (t == 0) = true := by simpa using ht0
       have t2 : (t == 2) = false := by rw [ht0]; rfl
       have he : onHalf overF S2 (q, t) = (S2, 0) := by unfold onHalf; exact if_pos ht0
       have hr2 := hrun2.out
       rw [runF_zero (by rw [he]), he] at hr2
       have hS5 := Stp2.then hS2.out hBa.out
       replace ht0 := hid ht0
       replace he := hid he
       replace hr2 := hid hr2
       replace hS5 := hid hS5
       replace ha := hid ha
       replace hPa := hid hPa
       go_wp2
       go_roundw
       case rel => exact ⟨m + 1, _, _, _, rfl, by have := hmd.out; omega, (fun _ => ⟨g, o, hAd.out, by first | rfl | (congr 2; omega) | (simp [Addr.add]; omega)⟩), hS5.out, hr2.out, (by first | exact hhalf.out | (have := hsm2.out; unfold Small2 at this ⊢; omega))⟩
       case measure => simp [lenV]
      ·have t1 : (t == 0) = false := by simpa using ht0
       by_cases ht2 : t = 2
       ·have t2 : (t == 2) = true := by simpa using ht2
        have he : onHalf overF S2 (q, t) = (((overF S2.2 S2.1 q).1, S2.2), (overF S2.2 S2.1 q).2) := by unfold onHalf; rw [if_neg ht0, if_pos ht2]
        have hC := reover_calls ub tb B2 N2 A2 M2 S2.2 S2.1 q (wr.alloc (.cells #[.string (mkS q), .int .i64 t] 56)) hPa.r hPa.l (fun b hb ho => hPa.apart b ho hb) hql.out hnm.out.1.1 hnm.out.1.2
        have hof := fun W T' (h : Stp (wr.alloc (.cells #[.string (mkS q), .int .i64 t] 56)) W tb A2 M2 S2.1 T') => Stp2.trans hT2.out hO2.out (Stp2.after hBa.out (Stp2.ofLeft hPa h))
        have hhalf := Small2.half grow_overF (hsm2.out) (q, t)
        generalize hee : (onHalf overF S2 (q, t)) = ho at *
        obtain ⟨S3, ee⟩ := ho
        have he1 := congrArg Prod.fst he
        have he2 := congrArg Prod.snd he
        dsimp only at he1 he2 hhalf
        rw [← he2] at hC
        clear he
        unfold ptr at hC
        replace ht0 := hid ht0
        replace ht2 := hid ht2
        replace hee := hid hee
        replace he1 := hid he1
        replace he2 := hid he2
        replace hhalf := hid hhalf
        replace hC := hid hC
        replace hof := hid hof
        replace ha := hid ha
        replace hPa := hid hPa
        go_wp2_with fail
        (with_reducible refine hC.out.mono ?_)
        rintro e w5 ⟨rfl, hS5'⟩
        have hS5 := hof.out _ _ hS5'
        rw [← he1.out] at hS5
        by_cases h0 : ee = 0
        ·subst h0
         have hr2 := hrun2.out
         rw [runF_zero (by rw [hee.out]), hee.out] at hr2
         replace hr2 := hid hr2
         replace hS5 := hid hS5
         clear hS5' hof hC
         go_wp2
         go_roundw
         case rel => exact ⟨m + 1, _, _, _, rfl, by have := hmd.out; omega, (fun _ => ⟨g, o, hAd.out, by first | rfl | (congr 2; omega) | (simp [Addr.add]; omega)⟩), hS5.out, hr2.out, (by first | exact hhalf.out | (have := hsm2.out; unfold Small2 at this ⊢; omega))⟩
         case measure => simp [lenV]
        ·have t3 : (ee != 0) = true := by simpa using h0
         have hr2 := hrun2.out
         rw [runF_err (by rw [hee.out]; exact h0), hee.out] at hr2
         have hfin : doF S l = (S3, ee) := (by rw [doF_on hrun.out]; exact hr2)
         replace hr2 := hid hr2
         replace hS5 := hid hS5
         replace h0 := hid h0
         replace hfin := hid hfin
         clear hS5' hof hC
         go_wp2
         go_ret
         exact ⟨by rw [hfin.out]; rfl, by rw [hfin.out]; exact hS5.out⟩
       ·have t2 : (t == 2) = false := by simpa using ht2
        have he : onHalf overF S2 (q, t) = ((S2.1, (overF S2.1 S2.2 q).1), (overF S2.1 S2.2 q).2) := by unfold onHalf; rw [if_neg ht0, if_neg ht2]
        have hC := reover_calls tb ub A2 M2 B2 N2 S2.1 S2.2 q (wr.alloc (.cells #[.string (mkS q), .int .i64 t] 56)) hPa.l hPa.r hPa.apart hql.out hnm.out.2.1 hnm.out.2.2
        have hof := fun W T' (h : Stp (wr.alloc (.cells #[.string (mkS q), .int .i64 t] 56)) W ub B2 N2 S2.2 T') => Stp2.trans hT2.out hO2.out (Stp2.after hBa.out (Stp2.ofRight hPa h))
        have hhalf := Small2.half grow_overF (hsm2.out) (q, t)
        generalize hee : (onHalf overF S2 (q, t)) = ho at *
        obtain ⟨S3, ee⟩ := ho
        have he1 := congrArg Prod.fst he
        have he2 := congrArg Prod.snd he
        dsimp only at he1 he2 hhalf
        rw [← he2] at hC
        clear he
        unfold ptr at hC
        replace ht0 := hid ht0
        replace ht2 := hid ht2
        replace hee := hid hee
        replace he1 := hid he1
        replace he2 := hid he2
        replace hhalf := hid hhalf
        replace hC := hid hC
        replace hof := hid hof
        replace ha := hid ha
        replace hPa := hid hPa
        go_wp2_with fail
        (with_reducible refine hC.out.mono ?_)
        rintro e w5 ⟨rfl, hS5'⟩
        have hS5 := hof.out _ _ hS5'
        rw [← he1.out] at hS5
        by_cases h0 : ee = 0
        ·subst h0
         have hr2 := hrun2.out
         rw [runF_zero (by rw [hee.out]), hee.out] at hr2
         replace hr2 := hid hr2
         replace hS5 := hid hS5
         clear hS5' hof hC
         go_wp2
         go_roundw
         case rel => exact ⟨m + 1, _, _, _, rfl, by have := hmd.out; omega, (fun _ => ⟨g, o, hAd.out, by first | rfl | (congr 2; omega) | (simp [Addr.add]; omega)⟩), hS5.out, hr2.out, (by first | exact hhalf.out | (have := hsm2.out; unfold Small2 at this ⊢; omega))⟩
         case measure => simp [lenV]
        ·have t3 : (ee != 0) = true := by simpa using h0
         have hr2 := hrun2.out
         rw [runF_err (by rw [hee.out]; exact h0), hee.out] at hr2
         have hfin : doF S l = (S3, ee) := (by rw [doF_on hrun.out]; exact hr2)
         replace hr2 := hid hr2
         replace hS5 := hid hS5
         replace h0 := hid h0
         replace hfin := hid hfin
         clear hS5' hof hC
         go_wp2
         go_ret
         exact ⟨by rw [hfin.out]; rfl, by rw [hfin.out]; exact hS5.out⟩
  ·replace hS1 := hid hS1
   replace hdo := hid hdo
   go_wp2
   go_ret
   exact ⟨by rw [hdo.out]; rfl, by rw [hdo.out]; exact hS1.out⟩
end Go.Proofs.YtcjlfkklpghjbaaGreat

namespace Go.Proofs.YtcjlfkklpghjbaaGreat
open Go.RowKit
set_option linter.unusedSimpArgs false
set_option linter.unusedVariables false
def badTo (y : Bytes × Int) : Bool := decide (y.2 < 0) || decide (2 < y.2)
/-- All acts, or nothing. -/
def doE (S : Fs × Fs) (l : Acts44) : (Fs × Fs) × Int := if l.any badTo = true then (S, 2) else if (doF S l).2 ≠ 0 then (S, (doF S l).2) else doF S l
theorem reDo_nil1 (x v : Value) (w : World) : Calls Tryz.prog 8 #[.pointer none, x, v] w fun e w' => e = .returned (.int .i64 1) ∧ w = w' := by
 go_enter Tryz.func8, Tryz.ntmps8
 go_wp2
 go_ret
 exact ⟨rfl, rfl⟩
theorem reDo_nil2 (tb : Nat) (v : Value) (w : World) : Calls Tryz.prog 8 #[ptr tb, .pointer none, v] w fun e w' => e = .returned (.int .i64 1) ∧ w = w' := by
 unfold ptr
 go_enter Tryz.func8, Tryz.ntmps8
 go_wp2
 go_ret
 exact ⟨rfl, rfl⟩
theorem Turn.low {w w1 w' : World} {P : Nat → Prop} (hb : Below w.heap.size w w1) (ht : Turn w1 w' P) (hl : ∀ b, P b → w.heap.size ≤ b) : Below w.heap.size w w' :=
 hb.trans ⟨ht.os, ht.tape, ht.output, ht.size, fun k hk => ht.block k (Nat.lt_of_lt_of_le hk hb.size) (fun h => by have := hl k h; omega)⟩
set_option maxHeartbeats 8000000 in
set_option maxRecDepth 100000 in
theorem reDo_calls (tb ub : Nat) (A M B N : Nat → Nat) (S : Fs × Fs) (v : Value) (l : Acts44) (w : World) (hP : Pair w tb ub A M B N S) (hv : ActsT w v l) (hpl : ∀ y ∈ l, y.1.length ≤ 16777216) (hll : l.length ≤ 1000) (hsm : Small2 (2 * l.length) S) :
  Calls Tryz.prog 8 #[ptr tb, ptr ub, v] w fun e w' => e = .returned (.int .i64 (doE S l).2) ∧ Stp2 w w' tb ub A M B N S (doE S l).1 := by
 have hv0 := hv
 obtain ⟨Ad, c, rfl, hc1, hc2, _⟩ := hv0
 unfold maxLen at hc2
 have hc1' := fun V hV => copy_calls tb A M S.1 V hV
 have hc2' := fun V hV => copy_calls ub B N S.2 V hV
 have hrun := fun tb ub A M B N W hP hv => redo_calls tb ub A M B N S (.slice Ad l.length c) l W hP hv hpl hll hsm
 have hbad : ∀ k (hk : k < l.length), badTo l[k] = true → doE S l = (S, 2) := fun k hk h => by
  unfold doE
  rw [if_pos (List.any_eq_true.2 ⟨_, List.getElem_mem hk, h⟩)]
 have hgood : (∀ k (hk : k < l.length), badTo l[k] = false) → doE S l = if (doF S l).2 ≠ 0 then (S, (doF S l).2) else doF S l := fun h => by
  unfold doE
  rw [if_neg]
  intro hh
  obtain ⟨y, hy, hb⟩ := List.any_eq_true.1 hh
  obtain ⟨k, hk, rfl⟩ := List.mem_iff_getElem.1 hy
  rw [h k hk] at hb
  cases hb
 unfold ptr at *
 replace hP := hid hP
 replace hv := hid hv
 replace hpl := hid hpl
 replace hsm := hid hsm
 replace hc1' := hid hc1'
 replace hc2' := hid hc2'
 replace hrun := hid hrun
 replace hbad := hid hbad
 replace hgood := hid hgood
 go_enter Tryz.func8, Tryz.ntmps8
 go_wp2_with fail
 go_loopw [18] (fun i wr => ∃ k : Nat, i = .int .i64 k ∧ k ≤ l.length ∧ (∀ j (hj : j < l.length), j < k → badTo l[j] = false) ∧ Below w.heap.size w wr) (fun i _ => l.length - (intOf i).toNat)
 case atStart => exact ⟨0, rfl, Nat.zero_le _, fun _ _ h => absurd h (Nat.not_lt_zero _), Below.refl _ _⟩
 case round =>
  obtain ⟨k, rfl, hk, hok, hB⟩ := hrel
  by_cases hlt : k < l.length
  ·obtain ⟨g, o, rfl, c1, c2⟩ := (hv.out.below hB).at hlt
   have hb1 := hbad.out k hlt
   have hstep : badTo l[k] = false → ∀ j (hj : j < l.length), j < k + 1 → badTo l[j] = false := fun h j hj hjk => by
    by_cases e : j = k
    ·subst e
     exact h
    ·exact hok j hj (by omega)
   generalize l[k] = y at *
   obtain ⟨q, t⟩ := y
   dsimp only at *
   have hbt : badTo (q, t) = (decide (t < 0) || decide (2 < t)) := rfl
   generalize badTo (q, t) = bt at *
   have hki : (k : Int) < (l.length : Int) := by omega
   have hB2 := below_alloc hB (.cells #[.string (mkS q), .int .i64 t] 56)
   have ha := heap_alloc_new wr (.cells #[.string (mkS q), .int .i64 t] 56)
   have a0 := cell_of (j := 0) ha rfl
   have a1 := cell_of (j := 1) ha rfl
   replace hB := hid hB
   replace hb1 := hid hb1
   replace hstep := hid hstep
   replace hbt := hid hbt
   replace hB2 := hid hB2
   replace ha := hid ha
   replace hok := hid hok
   by_cases h1 : t < 0
   ·have hz := hb1.out (by rw [hbt.out]; simp [h1])
    replace hz := hid hz
    go_wp2
    go_ret
    exact ⟨by rw [hz.out]; rfl, by rw [hz.out]; exact Stp2.same hP.out hB2.out⟩
   ·by_cases h2 : 2 < t
    ·have hz := hb1.out (by rw [hbt.out]; simp [h2])
     replace hz := hid hz
     go_wp2
     go_ret
     exact ⟨by rw [hz.out]; rfl, by rw [hz.out]; exact Stp2.same hP.out hB2.out⟩
    ·have hn := hstep.out (by rw [hbt.out]; simp [h1, h2])
     replace hn := hid hn
     go_wp2
     go_roundw
     case rel => exact ⟨k + 1, by go_num, by omega, hn.out, hB2.out⟩
     case measure => simp [intOf]; omega
  ·obtain rfl : k = l.length := by omega
   have hg := hgood.out (fun j hj => hok j hj hj)
   generalize doF S l = r at *
   obtain ⟨S', ee⟩ := r
   dsimp only at *
   clear hok
   replace hg := hid hg
   replace hB := hid hB
   go_wp2_with fail
   (with_reducible refine (hc1'.out _ (hP.out.l.below hB.out)).mono ?_)
   rintro e w1 hn1
   obtain ⟨t1, C1, M1, rfl, hR1, hO1, hB1⟩ := hn1
   have hB01 := below_step hB.out hB1
   replace hR1 := hid hR1
   replace hO1 := hid hO1
   replace hB01 := hid hB01
   go_wp2_with fail
   (with_reducible refine (hc2'.out _ (hP.out.r.below hB01.out)).mono ?_)
   rintro e w2 hn2
   obtain ⟨t2, C2, M2, rfl, hR2, hO2, hB2⟩ := hn2
   have hB02 := below_step hB01.out hB2
   have hP2 : Pair w2 t1 t2 C1 M1 C2 M2 S := ⟨hR1.out.below hB2, hR2, fun b hb ho => by
    have h1 := hR1.out.lt hb
    have h2 := hO2 b ho
    omega⟩
   have hlow : ∀ b, Own2 t1 t2 C1 M1 C2 M2 S b → w.heap.size ≤ b := fun b hb => by
    rcases hb with hb | hb
    ·exact Nat.le_trans hB.out.size (hO1.out b hb)
    ·exact Nat.le_trans hB01.out.size (hO2 b hb)
   unfold ptr at *
   replace hB02 := hid hB02
   replace hP2 := hid hP2
   replace hlow := hid hlow
   clear hB2 hR2 hO2
   go_wp2_with fail
   (with_reducible refine (hrun.out _ _ _ _ _ _ _ hP2.out (hv.out.below hB02.out)).mono ?_)
   rintro e w3 ⟨rfl, hS3⟩
   have hB03 : Below w.heap.size w w3 := by
    obtain ⟨_, _, _, _, _, ht, _⟩ := hS3
    exact Turn.low hB02.out ht hlow.out
   replace hB03 := hid hB03
   clear hS3
   by_cases h0 : ee = 0
   ·subst h0
    have hg2 := hg.out
    rw [if_neg (by simp)] at hg2
    replace hg2 := hid hg2
    go_wp2_with fail
    (with_reducible refine (hrun.out _ _ _ _ _ _ _ (hP.out.below hB03.out) (hv.out.below hB03.out)).mono ?_)
    rintro e w4 ⟨rfl, hS4⟩
    have hS := Stp2.after hB03.out hS4
    replace hS := hid hS
    go_wp2
    go_ret
    exact ⟨by rw [hg2.out]; rfl, by rw [hg2.out]; exact hS.out⟩
   ·have t0 : (ee != 0) = true := by simpa using h0
    have hg2 := hg.out
    rw [if_pos h0] at hg2
    replace hg2 := hid hg2
    replace h0 := hid h0
    go_wp2
    go_ret
    exact ⟨by rw [hg2.out]; rfl, by rw [hg2.out]; exact Stp2.same hP.out hB03.out⟩
end Go.Proofs.YtcjlfkklpghjbaaGreat

namespace Go.Proofs.YtcjlfkklpghjbaaGreat
open Go.RowKit
/-- What stands of a copy: its row has k names, its things are those of the names l. -/
structure RCp (w W : World) (cb : Nat) (v : Value) (B : Nat → Nat) (T : Fs) (k : Nat) (l : List (Pt × Nat)) : Prop where
  lo : w.heap.size ≤ cb
  tree : W.heap[cb]? = some (.cells #[v, .int .i64 T.next] 60 (0, 0))
  row : W.ownsRow w.heap.size 98 2 v k (rrow B (T.names.take k))
  node : ∀ x ∈ l, w.heap.size ≤ B x.2 ∧ ∃ dv, Dat W dv (T.nd x.2).data ∧ W.heap[B x.2]? = some (.cells (rnode (T.nd x.2) x.2 dv) 96 (0, 0))
  inj : ∀ x ∈ l, ∀ y ∈ l, B x.2 = B y.2 → x.2 = y.2
section
variable {w W W' : World} {cb : Nat} {v : Value} {B : Nat → Nat} {T : Fs} {k : Nat} {l : List (Pt × Nat)}
theorem RCp.below (h : RCp w W cb v B T k l) (hb : Below W.heap.size W W') : RCp w W' cb v B T k l := by
 have hk : ∀ b, b < W.heap.size → W'.heap[b]? = W.heap[b]? := fun b hlt => hb.block b hlt
 refine ⟨h.lo, (hk _ (Array.getElem?_eq_some_iff.1 h.tree).1).trans h.tree, own_below h.row hb, fun x hx => ?_, h.inj⟩
 obtain ⟨h1, dv, h2, h3⟩ := h.node x hx
 exact ⟨h1, dv, h2.kept fun g ⟨cs, hc⟩ => hk g (Array.getElem?_eq_some_iff.1 hc).1, (hk _ (Array.getElem?_eq_some_iff.1 h3).1).trans h3⟩
/-- A thing whose number stands already. -/
theorem RCp.old (h : RCp w W cb v B T k l) {x : Pt × Nat} (hx : ∃ y ∈ l, y.2 = x.2) : RCp w W cb v B T k (l ++ [x]) := by
 obtain ⟨y, hy, hyx⟩ := hx
 have key : ∀ z ∈ l ++ [x], ∃ u ∈ l, u.2 = z.2 := fun z hz => by
  rcases List.mem_append.1 hz with hz | hz
  ·exact ⟨z, hz, rfl⟩
  ·rw [List.mem_singleton.1 hz]
   exact ⟨y, hy, hyx⟩
 refine ⟨h.lo, h.tree, h.row, fun z hz => ?_, fun z hz z' hz' e => ?_⟩
 ·obtain ⟨u, hu, e⟩ := key z hz
  rw [← e]
  exact h.node u hu
 ·obtain ⟨u, hu, e1⟩ := key z hz
  obtain ⟨u', hu', e2⟩ := key z' hz'
  rw [← e1, ← e2] at e ⊢
  exact h.inj u hu u' hu' e
/-- A thing that is new. -/
theorem RCp.new (h : RCp w W cb v B T k l) (hl : l = T.names.take k) {x : Pt × Nat} (hx : ∀ y ∈ l, y.2 ≠ x.2) {nb : Nat} (hnb : ∀ y ∈ l, B y.2 ≠ nb) (hlo : w.heap.size ≤ nb) {dv : Value} (hd : Dat W dv (T.nd x.2).data)
  (hn : W.heap[nb]? = some (.cells (rnode (T.nd x.2) x.2 dv) 96 (0, 0))) : RCp w W cb v (upd B x.2 nb) T k (l ++ [x]) := by
 have hu : ∀ y ∈ l, upd B x.2 nb y.2 = B y.2 := fun y hy => if_neg (hx y hy)
 have hx2 : upd B x.2 nb x.2 = nb := if_pos rfl
 refine ⟨h.lo, h.tree, ?_, fun z hz => ?_, fun z hz z' hz' e => ?_⟩
 ·rw [rrow_congr (A := B) (A' := upd B x.2 nb) fun y hy => hu y (by rw [hl]; exact hy)]
  exact h.row
 ·rcases List.mem_append.1 hz with hz | hz
  ·rw [hu z hz]
   exact h.node z hz
  ·rw [List.mem_singleton.1 hz, hx2]
   exact ⟨hlo, dv, hd, hn⟩
 ·rcases List.mem_append.1 hz with hz | hz <;> rcases List.mem_append.1 hz' with hz' | hz'
  ·rw [hu z hz, hu z' hz'] at e
   exact h.inj z hz z' hz' e
  ·rw [List.mem_singleton.1 hz', hx2, hu z hz] at e
   exact absurd e (hnb z hz)
  ·rw [List.mem_singleton.1 hz, hx2, hu z' hz'] at e
   exact absurd e.symm (hnb z' hz')
  ·rw [List.mem_singleton.1 hz, List.mem_singleton.1 hz']
/-- A name more. -/
theorem RCp.name (h : RCp w W cb v B T k l) (hlk : l = T.names.take (k + 1)) {Wd W3 : World} (hB : Below W.heap.size W Wd) (hg : Wd.grownBy W3 v.ownBlock) {v1 : Value} {x : Pt × Nat} (hx : T.names[k]? = some x)
  (hv1 : W3.ownsRow w.heap.size 98 2 v1 (k + 1) (rrow B (T.names.take k) ++ [.string (mkS (glue x.1)), ptr (B x.2)])) : RCp w (W3.setCell ⟨cb, 0, none⟩ v1) cb v1 B T (k + 1) (T.names.take (k + 1)) := by
 have h2 := h.below hB
 have hrt : ∀ b, v.ownBlock = some b → ∃ cs, Wd.heap[b]? = some (.cells cs 98 (0, 0)) := fun b hb => (own_cells h2.row hb).2
 have hkeep : ∀ (b : Nat) (cs : Array Value) (t : TypeId) (f : Nat × Nat), Wd.heap[b]? = some (.cells cs t f) → t ≠ 98 → W3.heap[b]? = some (.cells cs t f) := fun b cs t f hb ht => by
  refine (hg.block b (Array.getElem?_eq_some_iff.1 hb).1 fun e => ?_).trans hb
  obtain ⟨ds, hd⟩ := hrt b e.symm
  exact types_apart hb hd ht rfl
 have ht3 := hkeep _ _ _ _ h2.tree (by decide)
 have hoth : ∀ (b : Nat) (cs : Array Value) (t : TypeId) (f : Nat × Nat), W3.heap[b]? = some (.cells cs t f) → t ≠ 60 → (W3.setCell ⟨cb, 0, none⟩ v1).heap[b]? = some (.cells cs t f) := fun b cs t f hb ht =>
  (heap_set_other W3 (types_apart hb ht3 ht) 0 v1).trans hb
 have hxk : T.names.take (k + 1) = T.names.take k ++ [x] := by
  obtain ⟨h1, h2⟩ := List.getElem?_eq_some_iff.1 hx
  rw [← h2]
  exact List.take_succ_eq_append_getElem h1
 refine ⟨h.lo, ?_, ?_, fun z hz => ?_, fun z hz z' hz' => h.inj z (by rw [hlk]; exact hz) z' (by rw [hlk]; exact hz')⟩
 ·have := heap_set_same ht3 0 v1
  simpa using this
 ·rw [hxk, rrow_append]
  refine own_blocks hv1 fun b hb => heap_set_other W3 (fun e => ?_) 0 v1
  obtain ⟨_, cur, hc⟩ := own_cells hv1 hb
  exact types_apart hc ht3 (by decide) e
 ·obtain ⟨h4, dv, h5, h6⟩ := h2.node z (by rw [hlk]; exact hz)
  refine ⟨h4, dv, h5.kept fun g ⟨cs, hc⟩ => ?_, hoth _ _ _ _ (hkeep _ _ _ _ h6 (by decide)) (by decide)⟩
  rw [hoth _ _ _ _ (hkeep _ _ _ _ hc (by decide)) (by decide), hc]
/-- All names are there. -/
theorem RCp.fin (h : RCp w W cb v B T k (T.names.take k)) (hI : T.Inv) (hk : k = T.names.length) : RRep W cb v B T ∧ ∀ b, ROwn cb v B T b → w.heap.size ≤ b := by
 subst hk
 have hr := h.row
 have hn := h.node
 have hi := h.inj
 rw [List.take_length] at hr hn hi
 refine ⟨⟨hI, h.tree, own_low hr (Nat.zero_le _), fun i ⟨p, hp⟩ => (hn _ hp).2, fun i j ⟨p, hp⟩ ⟨q, hq⟩ e => hi _ hp _ hq e⟩, fun b hb => ?_⟩
 rcases hb with rfl | e | ⟨i, ⟨p, hp⟩, rfl⟩
 ·exact h.lo
 ·exact own_base hr b e
 ·exact (hn _ hp).1
end
section
variable (rb : Nat) (v : Value) (A : Nat → Nat) (T : Fs)
set_option maxHeartbeats 4000000 in
set_option maxRecDepth 100000 in
theorem rcopy_calls (w : World) (hR : RRep w rb v A T) (hf : T.names.length ≤ 1000000) : Calls Tryz.prog 20 #[ptr rb] w (RNewTree w T) := by
 have hI := hR.inv
 have hB0 := below_alloc (Below.refl w.heap.size w) (.cells #[.slice none 0 0, .int .i64 T.next] 60)
 have hblk := (MapKept.heap_alloc w (.cells #[.slice none 0 0, .int .i64 T.next] 60)).1
 have hc0 : RCp w (w.alloc (.cells #[.slice none 0 0, .int .i64 T.next] 60)) w.heap.size (.slice none 0 0) A T 0 (T.names.take 0) := ⟨Nat.le_refl _, hblk, ⟨rfl, Or.inl ⟨rfl, rfl⟩⟩, fun x hx => by simp at hx, fun x hx => by simp at hx⟩
 have hn1 : w.cell? ⟨rb, 1, none⟩ = some (.int .i64 T.next) := cell_of hR.tree rfl
 obtain ⟨g, c, hv, hc1, hc2, hp, t0, hcs⟩ := hR.at_
 subst hv
 unfold maxLen at hc2
 unfold ptr at *
 replace hR := hid hR
 replace hB0 := hid hB0
 replace hc0 := hid hc0
 replace hblk := hid hblk
 replace hI := hid hI
 replace hcs := hid hcs
 go_enter Tryz.func20, Tryz.ntmps20
 go_wp2_with fail
 go_loopw [4] (fun i wr => ∃ (k : Nat) (u : Value) (B : Nat → Nat), i = .int .i64 k ∧ k ≤ T.names.length ∧ RCp w wr w.heap.size u B T k (T.names.take k) ∧ Below w.heap.size w wr) (fun i _ => T.names.length - (intOf i).toNat)
 case atStart => exact ⟨0, _, A, rfl, Nat.zero_le _, hc0.out, hB0.out⟩
 case round =>
  clear hc0 hB0 hblk hn1
  obtain ⟨k, u, B, rfl, hk, hc, hB⟩ := hrel
  have t0r := (hB.cell (cell_lt t0)).trans t0
  by_cases hlt : k < T.names.length
  ·have hx := List.getElem?_eq_getElem hlt
   have htk : T.names.take (k + 1) = T.names.take k ++ [T.names[k]] := List.take_succ_eq_append_getElem hlt
   have hxm : T.names[k] ∈ T.names := List.getElem_mem hlt
   generalize T.names[k] = x at *
   obtain ⟨q, i⟩ := x
   obtain ⟨ca, cb⟩ := hcs.out k _ hx
   have hnode := hR.out.node i ⟨q, hxm⟩
   obtain ⟨dv, hdv, hnd⟩ := hnode
   have n1 : w.cell? ⟨A i, 1, none⟩ = some (.int .i64 i) := cell_of hnd rfl
   obtain ⟨uA, uc, hue, hu1, hu2⟩ := own_shape hc.row
   subst hue
   unfold maxLen at hu2
   have hkn : (k : Int) < (T.names.length : Int) := by omega
   dsimp only at *
   unfold ptr at *
   have hcx : k < k + 1 := Nat.lt_succ_self k
   replace hc := hid hc
   replace hB := hid hB
   replace hx := hid hx
   replace htk := hid htk
   replace hxm := hid hxm
   replace hdv := hid hdv
   replace hnd := hid hnd
   go_wp2_with fail
   obtain ⟨wo, rfl⟩ : ∃ wo : World, wo = wr := ⟨_, rfl⟩
   go_loopw [5, 6] (fun n m wr => ∃ j : Nat, m = .int .i64 j ∧ j ≤ k ∧ ((n = .pointer none ∧ ∀ y ∈ T.names.take j, y.2 ≠ i) ∨ (n = .pointer (some ⟨B i, 0, none⟩) ∧ ∃ y ∈ T.names.take k, y.2 = i)) ∧ Below wo.heap.size wo wr) (fun _ m _ => k - (intOf m).toNat)
   case atStart => exact ⟨0, rfl, Nat.zero_le _, Or.inl ⟨rfl, by simp⟩, Below.refl _ _⟩
   case round =>
    obtain ⟨j, rfl, hj, hn, hBq⟩ := hrel
    have hBw := below_step hB.out hBq
    have t0q := (hBw.cell (cell_lt t0)).trans t0
    have caq := (hBw.cell (cell_lt ca)).trans ca
    have cbq := (hBw.cell (cell_lt cb)).trans cb
    rcases hn with ⟨rfl, hno⟩ | ⟨rfl, hyes⟩
    ·by_cases hjk : j < k
     ·have hjl : j < T.names.length := by omega
      have hy := List.getElem?_eq_getElem hjl
      have hty : T.names.take (j + 1) = T.names.take j ++ [T.names[j]] := List.take_succ_eq_append_getElem hjl
      have hym : T.names[j] ∈ T.names := List.getElem_mem hjl
      have hyk : T.names[j] ∈ T.names.take k := by
       rw [List.mem_take_iff_getElem]
       exact ⟨j, by omega, rfl⟩
      generalize T.names[j] = y at *
      obtain ⟨qy, jj⟩ := y
      obtain ⟨_, cy⟩ := hcs.out j _ hy
      obtain ⟨_, _, _, m1, _⟩ := hR.out.cells ⟨qy, hym⟩
      obtain ⟨ug, uc', hue, _, _, _, _, hug⟩ := own_at hc.out.row (by omega)
      simp only [Value.slice.injEq, true_and] at hue
      obtain ⟨rfl, rfl⟩ := hue
      have hyt : (T.names.take k)[j]? = some (qy, jj) := by rw [List.getElem?_take, if_pos hjk, hy]
      have cu0 := hug _ _ (rrow_at B _ _ _ hyt).2
      have cyq := (hBw.cell (cell_lt cy)).trans cy
      have m1q := (hBw.cell (cell_lt m1)).trans m1
      have n1q := (hBw.cell (cell_lt n1)).trans n1
      have ct : wo.cell? ⟨w.heap.size, 0, none⟩ = some (.slice (some ⟨ug, 0, none⟩) k uc) := cell_of hc.out.tree rfl
      have ctq := (hBq.cell (cell_lt ct)).trans ct
      have cuq := (hBq.cell (cell_lt cu0)).trans cu0
      have hjn : (j : Int) < (T.names.length : Int) := by omega
      have hjk2 : (j : Int) < (k : Int) := by omega
      have hjk3 : decide (j < k) = true := by simpa using hjk
      have ctn := fun n : Nat => show (wr.drewN n).cell? ⟨w.heap.size, 0, none⟩ = _ from ctq
      have cun := fun n : Nat => show (wr.drewN n).cell? ⟨ug, j * 2 + 1, none⟩ = _ from cuq
      dsimp only at *
      unfold ptr at *
      clear t0 t0r ca cb cy m1 n1 ct cu0 ctq cuq
      replace hBq := hid hBq
      replace hBw := hid hBw
      replace hno := hid hno
      replace hy := hid hy
      replace hty := hid hty
      replace hym := hid hym
      replace hyk := hid hyk
      replace hug := hid hug
      replace hyt := hid hyt
      by_cases hji : jj = i
      ·subst hji
       go_upto_region 9 with fail
       go_quiet (fail)
       go_wp2
       go_roundw
       case rel => exact ⟨j + 1, by go_num, by omega, Or.inr ⟨rfl, _, hyk.out, rfl⟩, below_drewN hBq.out _⟩
       case measure => simp [intOf]; omega
      ·have hji2 : ((jj : Int) == (i : Int)) = false := by
        simp only [beq_eq_false_iff_ne, ne_eq]
        omega
       replace hji := hid hji
       go_upto_region 9 with fail
       go_quiet (fail)
       go_wp2
       go_roundw
       case rel =>
        refine ⟨j + 1, by go_num, by omega, Or.inl ⟨rfl, fun z hz => ?_⟩, below_drewN hBq.out _⟩
        rw [hty.out] at hz
        rcases List.mem_append.1 hz with hz | hz
        ·exact hno.out z hz
        ·rw [List.mem_singleton.1 hz]
         exact hji.out
       case measure => simp [intOf]; omega
     ·obtain rfl : k = j := by omega
      have hnew0 : ∀ y ∈ T.names.take k, y.2 ≠ i := hno
      obtain ⟨dv, hdv, n0, n1', n2, n3, n4, n5, n6, n7, n8⟩ := (hR.out.below hBw).cells ⟨q, hxm.out⟩
      have hdl := (hI.out.data _ _ hxm.out)
      generalize hnd2 : T.nd i = nd at *
      obtain ⟨nk, nl, ⟨m1, m2, m3, m4, m5⟩, nt, ndt⟩ := nd
      dsimp only at *
      obtain ⟨dA, dc, hdve, hd1, hd2⟩ := hdv.shape
      subst hdve
      unfold maxLen at hd2
      clear n1 t0r
      replace hno := hid hno
      replace hnew0 := hid hnew0
      replace hBq := hid hBq
      replace hBw := hid hBw
      replace hdv := hid hdv
      replace hnd2 := hid hnd2
      go_upto_region 13 with fail
      have hlt1 : wr.heap.size < (wr.alloc (.cells #[.int .i64 nk, .int .i64 i, .slice dA ndt.length dc, .string (mkS nt), .int .i64 m1, .int .i64 m2, .int .i64 m3, .int .i64 m4, .int .i64 m5] 96)).heap.size := by simp
      have hB10 := below_alloc (Below.refl wr.heap.size wr) (.cells #[.int .i64 nk, .int .i64 i, .slice dA ndt.length dc, .string (mkS nt), .int .i64 m1, .int .i64 m2, .int .i64 m3, .int .i64 m4, .int .i64 m5] 96)
      have hnd1 := (MapKept.heap_alloc wr (.cells #[.int .i64 nk, .int .i64 i, .slice dA ndt.length dc, .string (mkS nt), .int .i64 m1, .int .i64 m2, .int .i64 m3, .int .i64 m4, .int .i64 m5] 96)).1
      generalize wr.alloc (.cells #[.int .i64 nk, .int .i64 i, .slice dA ndt.length dc, .string (mkS nt), .int .i64 m1, .int .i64 m2, .int .i64 m3, .int .i64 m4, .int .i64 m5] 96) = W1 at *
      generalize hnx : wr.heap.size = nx at *
      have hB20 := below_alloc (Below.refl W1.heap.size W1) (.cells #[] 5)
      have hown := own_made W1 W1.heap.size 5 1 0 [] (Nat.le_refl _) rfl (by simp [maxLen])
      have hB10' : Below wr.heap.size wr W1 := by rw [hnx]; exact hB10
      have hB12 := below_step hB10' hB20
      have hsrc1 := ((hdv.out.rdb.below hB12)).src
      have hnd2' := (hB20.block _ hlt1).trans hnd1
      have e2x : (W1.alloc (.cells #[] 5)).cell? ⟨nx, 2, none⟩ = some (.slice dA ndt.length dc) := cell_of hnd2' rfl
      replace hlt1 := hid hlt1
      replace hB10 := hid hB10
      replace hnd1 := hid hnd1
      replace hnx := hid hnx
      replace hB20 := hid hB20
      replace hown := hid hown
      replace hB10' := hid hB10'
      replace hB12 := hid hB12
      replace hsrc1 := hid hsrc1
      replace hnd2' := hid hnd2'
      clear n0 n1' n2 n3 n4 n5 n6 n7 n8 caq cbq t0q
      go_wp2_with (at_builtin; refine wp_append_any W1.heap.size rfl (.tmp 75) (.tmp 77) 39 5 rfl Tryz.underlying39 (.int .u8 0) 1 1 info_u8 rfl (by decide) (.slice (some ⟨W1.heap.size, 0, none⟩) 0 0) 0 [] rfl (.slice dA ndt.length dc) ndt.length (byteCells ndt) rfl hsrc1.out hown.out ?_ ?_ ?_ (by simp) ?_)
      ·simp [byteCells, Value.oneCell']
      ·simp only [maxLen]; omega
      ·omega
      ·intro v1 w3 g1 hg hat
       obtain ⟨vA, vc, hv1, _, _⟩ := own_shape g1
       subst hv1
       try simp only [Nat.zero_add, List.nil_append] at g1
       have hB13 : Below W1.heap.size W1 w3 := hB20.out.grown hg hB20.out.size (own_base hown.out)
       have hB03 : Below wr.heap.size wr w3 := below_step hB10'.out hB13
       have hnd3 := (hB13.block _ hlt1.out).trans hnd1.out
       have f3 : w3.frozen? ⟨nx, 2, none⟩ = false := by simp [World.frozen?, hnd3]
       have e3 : w3.cell? ⟨nx, 2, none⟩ = some (.slice dA ndt.length dc) := cell_of hnd3 rfl
       have hB04 : Below wr.heap.size wr (w3.setCell ⟨nx, 2, none⟩ (.slice vA ndt.length vc)) := hB03.setCell (p := ⟨nx, 2, none⟩) (by rw [hnx.out]; exact Nat.le_refl nx) _
       have hnd4 := heap_set_same hnd3 2 (.slice vA ndt.length vc)
       have hown4 : (w3.setCell ⟨nx, 2, none⟩ (.slice vA ndt.length vc)).ownsRow W1.heap.size 5 1 (.slice vA ndt.length vc) ndt.length (byteCells ndt) := own_blocks g1 fun b hb => heap_set_other w3 (fun e => by
        obtain ⟨_, cur, hcr⟩ := own_cells g1 hb
        exact types_apart hcr hnd3 (by decide) e) 2 _
       have hdat : Dat (w3.setCell ⟨nx, 2, none⟩ (.slice vA ndt.length vc)) (.slice vA ndt.length vc) ndt := Byts.dat hown4
       have hBx := below_step hBw.out hB04
       clear hg hat e2x g1 hown4
       replace hB13 := hid hB13
       replace hB03 := hid hB03
       replace hnd3 := hid hnd3
       replace hB04 := hid hB04
       replace hnd4 := hid hnd4
       replace hdat := hid hdat
       replace hBx := hid hBx
       go_upto_region 15 with fail
       generalize w3.setCell ⟨nx, 2, none⟩ (.slice vA ndt.length vc) = wx at *
       have hcr := hc.out.below (below_step hBq.out hB04.out)
       have hcq := hc.out.below hBq.out
       have hch := hcr.new rfl (x := (q, i)) hnew0.out (nb := nx) (fun y hy e => by
        obtain ⟨_, _, _, hb⟩ := hcq.node y hy
        have := (Array.getElem?_eq_some_iff.1 hb).1
        rw [hnx.out, e] at this
        exact Nat.lt_irrefl _ this) (by rw [← hnx.out]; exact hBw.out.size) (dv := .slice vA ndt.length vc) (by dsimp only; rw [hnd2.out]; exact hdat.out) (by dsimp only; rw [hnd2.out]; simpa [rnode] using hnd4.out)
       rw [← htk.out] at hch
       have hbi : upd B i nx i = nx := if_pos rfl
       clear hcr hcq e3 f3
       replace hch := hid hch
       replace hbi := hid hbi
       have hB1 : Below wx.heap.size wx (wx.drew.alloc (.cells #[.string (mkS (glue q)), .pointer (some ⟨nx, 0, none⟩)] 98)) := below_alloc (below_drewN (Below.refl _ _) 1) _
       have hown1 := own_below hch.out.row hB1
       have hn1 := (MapKept.heap_alloc wx.drew (.cells #[.string (mkS (glue q)), .pointer (some ⟨nx, 0, none⟩)] 98)).1
       have hsrc : Src (wx.drew.alloc (.cells #[.string (mkS (glue q)), .pointer (some ⟨nx, 0, none⟩)] 98)) (.slice (some ⟨wx.drew.heap.size, 0, none⟩) 1 1) 2 1 [.string (mkS (glue q)), .pointer (some ⟨nx, 0, none⟩)] := Or.inr ⟨⟨wx.drew.heap.size, 0, none⟩, 1, rfl, rfl, fun j u hj => by
        rw [add_at, Nat.zero_add]
        refine cell_of hn1 ?_
        rw [← hj]
        simp⟩
       have hB01 := below_step hBx.out hB1
       obtain ⟨v1, w2, hrun, ho, hg, _⟩ := run_append_any w.heap.size 58 98 58 Tryz.underlying58 (.agg #[.string ⟨#[]⟩, .pointer none]) 2 24 info_name rfl (by decide) (.slice uA k uc) k (rrow (upd B i nx) (T.names.take k)) (.slice (some ⟨wx.drew.heap.size, 0, none⟩) 1 1) 1 _ hsrc hown1 (by simp [Value.oneCell']) (by simp only [maxLen]; omega) (by omega) hB01.size
       have hB02 : Below w.heap.size w w2 := hB01.grown hg hB01.size (own_base hown1)
       obtain ⟨vA, vc, hv1, _, _⟩ := own_shape ho
       subst hv1
       have hnew := hch.out.name rfl hB1 hg hx.out (show w2.ownsRow w.heap.size 98 2 (.slice vA (k + 1) vc) (k + 1) (rrow (upd B i nx) (T.names.take k) ++ [.string (mkS (glue q)), ptr ((upd B i nx) i)]) by rw [hbi.out]; exact ho)
       have ht1 := (hB1.block _ (Array.getElem?_eq_some_iff.1 hch.out.tree).1).trans hch.out.tree
       have ht2 : w2.heap[w.heap.size]? = some (.cells #[.slice uA k uc, .int .i64 T.next] 60 (0, 0)) := (hg.block _ (Array.getElem?_eq_some_iff.1 ht1).1 (fun e => by
        obtain ⟨_, cur, hcr⟩ := own_cells hown1 e.symm
        exact types_apart ht1 hcr (by decide) rfl)).trans ht1
       have hSk : ∀ W : World, W.heap[w.heap.size]? = some (.cells #[.slice uA k uc, .int .i64 T.next] 60 (0, 0)) → Below w.heap.size w W → (fun W : World => W.cell? ⟨w.heap.size, 0, none⟩ = some (.slice uA k uc) ∧ W.cell? ⟨rb, 0, none⟩ = some (.slice (some ⟨g, 0, none⟩) T.names.length c) ∧ W.cell? ⟨g, k * 2, none⟩ = some (.string (mkS (glue q)))) W := fun W h1 h2 => ⟨cell_of h1 rfl, (h2.cell (cell_lt t0)).trans t0, (h2.cell (cell_lt ca)).trans ca⟩
       have e0 : (fun W : World => W.cell? ⟨w.heap.size, 0, none⟩ = some (.slice uA k uc) ∧ W.cell? ⟨rb, 0, none⟩ = some (.slice (some ⟨g, 0, none⟩) T.names.length c) ∧ W.cell? ⟨g, k * 2, none⟩ = some (.string (mkS (glue q)))) wx.drew := hSk wx.drew hch.out.tree (below_drewN hBx.out 1)
       have e1 : (fun W : World => W.cell? ⟨w.heap.size, 0, none⟩ = some (.slice uA k uc) ∧ W.cell? ⟨rb, 0, none⟩ = some (.slice (some ⟨g, 0, none⟩) T.names.length c) ∧ W.cell? ⟨g, k * 2, none⟩ = some (.string (mkS (glue q)))) (wx.drew.alloc (.cells #[.string (mkS (glue q)), .pointer (some ⟨nx, 0, none⟩)] 98)) := hSk _ ht1 hB01
       have e2 : (fun W : World => W.cell? ⟨w.heap.size, 0, none⟩ = some (.slice uA k uc) ∧ W.cell? ⟨rb, 0, none⟩ = some (.slice (some ⟨g, 0, none⟩) T.names.length c) ∧ W.cell? ⟨g, k * 2, none⟩ = some (.string (mkS (glue q)))) w2 := hSk _ ht2 hB02
       have f2 : w2.frozen? ⟨w.heap.size, 0, none⟩ = false := by simp [World.frozen?, ht2]
       have e5 : w2.cell? ⟨w.heap.size, 0, none⟩ = some (.slice uA k uc) := cell_of ht2 rfl
       have hB3 := hB02.setCell (p := ⟨w.heap.size, 0, none⟩) (Nat.le_refl _) (.slice vA (k + 1) vc)
       dsimp only at e0 e1 e2
       replace hB1 := hid hB1
       replace hown1 := hid hown1
       replace hn1 := hid hn1
       replace hsrc := hid hsrc
       replace hB01 := hid hB01
       replace ho := hid ho
       replace hB02 := hid hB02
       replace hnew := hid hnew
       replace ht1 := hid ht1
       replace ht2 := hid ht2
       replace hSk := hid hSk
       replace e1 := hid e1
       replace e2 := hid e2
       replace hB3 := hid hB3
       replace hrun := hid hrun
       clear hg
       refine wp_region_held_tail (S := fun W : World => W.cell? ⟨w.heap.size, 0, none⟩ = some (.slice uA k uc) ∧ W.cell? ⟨rb, 0, none⟩ = some (.slice (some ⟨g, 0, none⟩) T.names.length c) ∧ W.cell? ⟨g, k * 2, none⟩ = some (.string (mkS (glue q)))) 17 (by kernel_rfl) (by kernel_rfl) e0 (fun hHeld => ?_)
       simp only [List.take_succ_cons, List.take_zero, List.drop_succ_cons, List.drop_zero]
       simp only [Array.replicate, List.replicate]
       clear e0
       try dsimp only at hHeld
       refine wpAnyH_take (i := 0) (v := ?_) rfl (by kernel_rfl) (by kernel_rfl) (by kernel_rfl) (fun _ _ _ h => h) (Or.inl ⟨by rfl, ?_⟩) (by assumption) ?_
       rotate_left 1
       ·intro W hSw
        (try dsimp only at hSw)
        go_simp
        try with_reducible rfl
       simp only [Act.put, List.setIfInBounds_toArray, List.set_cons_zero, List.set_cons_succ]
       refine wpAnyH_take (i := 1) (v := ?_) rfl (by kernel_rfl) (by kernel_rfl) (by kernel_rfl) (fun _ _ _ h => h) (Or.inl ⟨by rfl, ?_⟩) (by assumption) ?_
       rotate_left 1
       ·intro W hSw
        (try dsimp only at hSw)
        go_simp
        try with_reducible rfl
       simp only [Act.put, List.setIfInBounds_toArray, List.set_cons_zero, List.set_cons_succ]
       refine wpAnyH_take (i := 2) (v := ?_) rfl (by kernel_rfl) (by kernel_rfl) (by kernel_rfl) (fun _ _ _ h => h) (Or.inl ⟨by rfl, ?_⟩) (by assumption) ?_
       rotate_left 1
       ·intro W hSw
        (try dsimp only at hSw)
        go_simp
        try with_reducible rfl
       simp only [Act.put, List.setIfInBounds_toArray, List.set_cons_zero, List.set_cons_succ]
       refine wpAnyH_take (i := 3) (v := ?_) rfl (by kernel_rfl) (by kernel_rfl) (by kernel_rfl) (fun _ _ _ h => h) (Or.inl ⟨by rfl, ?_⟩) (by assumption) ?_
       rotate_left 1
       ·intro W hSw
        (try dsimp only at hSw)
        go_simp
        try with_reducible rfl
       simp only [Act.put, List.setIfInBounds_toArray, List.set_cons_zero, List.set_cons_succ]
       refine wpAnyH_take (i := 4) (v := ?_) rfl (by kernel_rfl) (by kernel_rfl) (by kernel_rfl) (fun _ _ _ h => h) (Or.inl ⟨by rfl, ?_⟩) (by assumption) ?_
       rotate_left 1
       ·intro W hSw
        (try dsimp only at hSw)
        go_simp
        try with_reducible rfl
       simp only [Act.put, List.setIfInBounds_toArray, List.set_cons_zero, List.set_cons_succ]
       refine wpAnyH_take (i := 5) (v := ?_) rfl (by kernel_rfl) (by kernel_rfl) (by kernel_rfl) (fun _ _ _ h => h) (Or.inl ⟨by rfl, ?_⟩) (by assumption) ?_
       rotate_left 1
       ·intro W hSw
        (try dsimp only at hSw)
        go_simp
        try with_reducible rfl
       simp only [Act.put, List.setIfInBounds_toArray, List.set_cons_zero, List.set_cons_succ]
       refine wpAnyH_take (i := 6) (v := ?_) rfl (by kernel_rfl) (by kernel_rfl) (by kernel_rfl) (fun _ _ _ h => h) (Or.inl ⟨by rfl, ?_⟩) (by assumption) ?_
       rotate_left 1
       ·intro W hSw
        (try dsimp only at hSw)
        go_simp
        try with_reducible rfl
       simp only [Act.put, List.setIfInBounds_toArray, List.set_cons_zero, List.set_cons_succ]
       refine wpAnyH_take (i := 7) (v := ?_) rfl (by kernel_rfl) (by kernel_rfl) (by kernel_rfl) (fun _ _ _ h => h) (Or.inl ⟨by rfl, ?_⟩) (by assumption) ?_
       rotate_left 1
       ·intro W hSw
        (try dsimp only at hSw)
        go_simp
        try with_reducible rfl
       simp only [Act.put, List.setIfInBounds_toArray, List.set_cons_zero, List.set_cons_succ]
       refine wpAnyH_take (i := 8) (v := ?_) rfl (by kernel_rfl) (by kernel_rfl) (by kernel_rfl) (fun _ _ _ h => h) (Or.inl ⟨by rfl, ?_⟩) (by assumption) ?_
       rotate_left 1
       ·intro W hSw
        (try dsimp only at hSw)
        go_simp
        try with_reducible rfl
       simp only [Act.put, List.setIfInBounds_toArray, List.set_cons_zero, List.set_cons_succ]
       refine wpAnyH_take (i := 9) (v := ?_) rfl (by kernel_rfl) (by kernel_rfl) (by kernel_rfl) (fun _ _ _ h => h) (Or.inl ⟨by rfl, ?_⟩) (by assumption) ?_
       rotate_left 1
       ·intro W hSw
        (try dsimp only at hSw)
        go_simp
        try with_reducible rfl
       simp only [Act.put, List.setIfInBounds_toArray, List.set_cons_zero, List.set_cons_succ]
       refine wpAnyH_take (i := 10) (v := ?_) rfl (by kernel_rfl) (by kernel_rfl) (by kernel_rfl) (fun _ _ _ h => h) (Or.inl ⟨by rfl, ?_⟩) (by assumption) ?_
       rotate_left 1
       ·intro W hSw
        (try dsimp only at hSw)
        go_simp
        try with_reducible rfl
       simp only [Act.put, List.setIfInBounds_toArray, List.set_cons_zero, List.set_cons_succ]
       refine wpAnyH_take (i := 11) (v := ?_) rfl (by kernel_rfl) (by kernel_rfl) (by kernel_rfl) (fun _ _ _ h => h) (Or.inl ⟨by rfl, ?_⟩) (by assumption) ?_
       rotate_left 1
       ·intro W hSw
        (try dsimp only at hSw)
        go_simp
        try with_reducible rfl
       simp only [Act.put, List.setIfInBounds_toArray, List.set_cons_zero, List.set_cons_succ]
       refine wpAnyH_take (i := 12) (v := ?_) rfl (by kernel_rfl) (by kernel_rfl) (by kernel_rfl) (fun _ _ _ h => h) (Or.inl ⟨by rfl, ?_⟩) (by assumption) ?_
       rotate_left 1
       ·intro W hSw
        (try dsimp only at hSw)
        go_simp
        try with_reducible rfl
       simp only [Act.put, List.setIfInBounds_toArray, List.set_cons_zero, List.set_cons_succ]
       refine wpAnyH_take (i := 13) (v := ?_) rfl (by kernel_rfl) (by kernel_rfl) (by kernel_rfl) (fun _ _ _ h => h) (Or.inl ⟨by rfl, ?_⟩) (by assumption) ?_
       rotate_left 1
       ·intro W hSw
        (try dsimp only at hSw)
        go_simp
        try with_reducible rfl
       simp only [Act.put, List.setIfInBounds_toArray, List.set_cons_zero, List.set_cons_succ]
       refine wpAnyH_take (i := 14) (v := ?_) rfl (by kernel_rfl) (by kernel_rfl) (by kernel_rfl) (fun _ _ _ h => h) (Or.inl ⟨by rfl, ?_⟩) (by assumption) ?_
       rotate_left 1
       ·intro W hSw
        (try dsimp only at hSw)
        go_simp
        try with_reducible rfl
       simp only [Act.put, List.setIfInBounds_toArray, List.set_cons_zero, List.set_cons_succ]
       refine wpAnyH_ready (rs := [15]) (by kernel_rfl) (by simp) ?_
       refine AllReadyH.cons rfl (fun K hK => ?_) AllReadyH.nil
       go_simp
       refine hK.out _ _ e1.out (fun hHeld => ?_)
       clear hK K
       simp only [Act.put, List.setIfInBounds_toArray, List.set_cons_zero, List.set_cons_succ]
       refine wpAnyH_ready (rs := [16]) (by kernel_rfl) (by simp) ?_
       refine AllReadyH.cons rfl (fun K hK => ?_) AllReadyH.nil
       refine step_append_by rfl _ _ 58 rfl _ _ rfl rfl _ w2 hrun.out ?_
       refine hK.out _ _ e2.out (fun hHeld => ?_)
       clear hK K
       simp only [Act.put, List.setIfInBounds_toArray, List.set_cons_zero, List.set_cons_succ]
       refine wpAnyH_done (by kernel_rfl) ?_ _
       change wpList _ _ _ _ _ w2
       clear hHeld
       go_wp2
       go_roundw
       case rel => exact ⟨k + 1, .slice vA (k + 1) vc, (upd B i nx), by go_num, by omega, hnew.out, hB3.out⟩
       case measure => simp [intOf]; omega
    ·have hch := (hc.out.below hBq).old (x := (q, i)) hyes
     rw [← htk.out] at hch
     have hbi : B i = B i := rfl
     generalize hwx : wr = wx at *
     have hBx := hBw
     clear t0r caq cbq t0q n1
     replace hch := hid hch
     replace hbi := hid hbi
     replace hBq := hid hBq
     replace hBw := hid hBw
     replace hyes := hid hyes
     replace hBx := hid hBx
     replace hwx := hid hwx
     by_cases hjk : j < k
     ·have hjk3 : decide (j < k) = true := by simpa using hjk
      go_upto_region 15 with fail
      have hB1 : Below wx.heap.size wx (wx.drew.alloc (.cells #[.string (mkS (glue q)), .pointer (some ⟨B i, 0, none⟩)] 98)) := below_alloc (below_drewN (Below.refl _ _) 1) _
      have hown1 := own_below hch.out.row hB1
      have hn1 := (MapKept.heap_alloc wx.drew (.cells #[.string (mkS (glue q)), .pointer (some ⟨B i, 0, none⟩)] 98)).1
      have hsrc : Src (wx.drew.alloc (.cells #[.string (mkS (glue q)), .pointer (some ⟨B i, 0, none⟩)] 98)) (.slice (some ⟨wx.drew.heap.size, 0, none⟩) 1 1) 2 1 [.string (mkS (glue q)), .pointer (some ⟨B i, 0, none⟩)] := Or.inr ⟨⟨wx.drew.heap.size, 0, none⟩, 1, rfl, rfl, fun j u hj => by
       rw [add_at, Nat.zero_add]
       refine cell_of hn1 ?_
       rw [← hj]
       simp⟩
      have hB01 := below_step hBx.out hB1
      obtain ⟨v1, w2, hrun, ho, hg, _⟩ := run_append_any w.heap.size 58 98 58 Tryz.underlying58 (.agg #[.string ⟨#[]⟩, .pointer none]) 2 24 info_name rfl (by decide) (.slice uA k uc) k (rrow B (T.names.take k)) (.slice (some ⟨wx.drew.heap.size, 0, none⟩) 1 1) 1 _ hsrc hown1 (by simp [Value.oneCell']) (by simp only [maxLen]; omega) (by omega) hB01.size
      have hB02 : Below w.heap.size w w2 := hB01.grown hg hB01.size (own_base hown1)
      obtain ⟨vA, vc, hv1, _, _⟩ := own_shape ho
      subst hv1
      have hnew := hch.out.name rfl hB1 hg hx.out (show w2.ownsRow w.heap.size 98 2 (.slice vA (k + 1) vc) (k + 1) (rrow B (T.names.take k) ++ [.string (mkS (glue q)), ptr (B i)]) by rw [hbi.out]; exact ho)
      have ht1 := (hB1.block _ (Array.getElem?_eq_some_iff.1 hch.out.tree).1).trans hch.out.tree
      have ht2 : w2.heap[w.heap.size]? = some (.cells #[.slice uA k uc, .int .i64 T.next] 60 (0, 0)) := (hg.block _ (Array.getElem?_eq_some_iff.1 ht1).1 (fun e => by
       obtain ⟨_, cur, hcr⟩ := own_cells hown1 e.symm
       exact types_apart ht1 hcr (by decide) rfl)).trans ht1
      have hSk : ∀ W : World, W.heap[w.heap.size]? = some (.cells #[.slice uA k uc, .int .i64 T.next] 60 (0, 0)) → Below w.heap.size w W → (fun W : World => W.cell? ⟨w.heap.size, 0, none⟩ = some (.slice uA k uc) ∧ W.cell? ⟨rb, 0, none⟩ = some (.slice (some ⟨g, 0, none⟩) T.names.length c) ∧ W.cell? ⟨g, k * 2, none⟩ = some (.string (mkS (glue q)))) W := fun W h1 h2 => ⟨cell_of h1 rfl, (h2.cell (cell_lt t0)).trans t0, (h2.cell (cell_lt ca)).trans ca⟩
      have e0 : (fun W : World => W.cell? ⟨w.heap.size, 0, none⟩ = some (.slice uA k uc) ∧ W.cell? ⟨rb, 0, none⟩ = some (.slice (some ⟨g, 0, none⟩) T.names.length c) ∧ W.cell? ⟨g, k * 2, none⟩ = some (.string (mkS (glue q)))) wx.drew := hSk wx.drew hch.out.tree (below_drewN hBx.out 1)
      have e1 : (fun W : World => W.cell? ⟨w.heap.size, 0, none⟩ = some (.slice uA k uc) ∧ W.cell? ⟨rb, 0, none⟩ = some (.slice (some ⟨g, 0, none⟩) T.names.length c) ∧ W.cell? ⟨g, k * 2, none⟩ = some (.string (mkS (glue q)))) (wx.drew.alloc (.cells #[.string (mkS (glue q)), .pointer (some ⟨B i, 0, none⟩)] 98)) := hSk _ ht1 hB01
      have e2 : (fun W : World => W.cell? ⟨w.heap.size, 0, none⟩ = some (.slice uA k uc) ∧ W.cell? ⟨rb, 0, none⟩ = some (.slice (some ⟨g, 0, none⟩) T.names.length c) ∧ W.cell? ⟨g, k * 2, none⟩ = some (.string (mkS (glue q)))) w2 := hSk _ ht2 hB02
      have f2 : w2.frozen? ⟨w.heap.size, 0, none⟩ = false := by simp [World.frozen?, ht2]
      have e5 : w2.cell? ⟨w.heap.size, 0, none⟩ = some (.slice uA k uc) := cell_of ht2 rfl
      have hB3 := hB02.setCell (p := ⟨w.heap.size, 0, none⟩) (Nat.le_refl _) (.slice vA (k + 1) vc)
      dsimp only at e0 e1 e2
      replace hB1 := hid hB1
      replace hown1 := hid hown1
      replace hn1 := hid hn1
      replace hsrc := hid hsrc
      replace hB01 := hid hB01
      replace ho := hid ho
      replace hB02 := hid hB02
      replace hnew := hid hnew
      replace ht1 := hid ht1
      replace ht2 := hid ht2
      replace hSk := hid hSk
      replace e1 := hid e1
      replace e2 := hid e2
      replace hB3 := hid hB3
      replace hrun := hid hrun
      clear hg
      refine wp_region_held_tail (S := fun W : World => W.cell? ⟨w.heap.size, 0, none⟩ = some (.slice uA k uc) ∧ W.cell? ⟨rb, 0, none⟩ = some (.slice (some ⟨g, 0, none⟩) T.names.length c) ∧ W.cell? ⟨g, k * 2, none⟩ = some (.string (mkS (glue q)))) 17 (by kernel_rfl) (by kernel_rfl) e0 (fun hHeld => ?_)
      simp only [List.take_succ_cons, List.take_zero, List.drop_succ_cons, List.drop_zero]
      simp only [Array.replicate, List.replicate]
      clear e0
      try dsimp only at hHeld
      refine wpAnyH_take (i := 0) (v := ?_) rfl (by kernel_rfl) (by kernel_rfl) (by kernel_rfl) (fun _ _ _ h => h) (Or.inl ⟨by rfl, ?_⟩) (by assumption) ?_
      rotate_left 1
      ·intro W hSw
       (try dsimp only at hSw)
       go_simp
       try with_reducible rfl
      simp only [Act.put, List.setIfInBounds_toArray, List.set_cons_zero, List.set_cons_succ]
      refine wpAnyH_take (i := 1) (v := ?_) rfl (by kernel_rfl) (by kernel_rfl) (by kernel_rfl) (fun _ _ _ h => h) (Or.inl ⟨by rfl, ?_⟩) (by assumption) ?_
      rotate_left 1
      ·intro W hSw
       (try dsimp only at hSw)
       go_simp
       try with_reducible rfl
      simp only [Act.put, List.setIfInBounds_toArray, List.set_cons_zero, List.set_cons_succ]
      refine wpAnyH_take (i := 2) (v := ?_) rfl (by kernel_rfl) (by kernel_rfl) (by kernel_rfl) (fun _ _ _ h => h) (Or.inl ⟨by rfl, ?_⟩) (by assumption) ?_
      rotate_left 1
      ·intro W hSw
       (try dsimp only at hSw)
       go_simp
       try with_reducible rfl
      simp only [Act.put, List.setIfInBounds_toArray, List.set_cons_zero, List.set_cons_succ]
      refine wpAnyH_take (i := 3) (v := ?_) rfl (by kernel_rfl) (by kernel_rfl) (by kernel_rfl) (fun _ _ _ h => h) (Or.inl ⟨by rfl, ?_⟩) (by assumption) ?_
      rotate_left 1
      ·intro W hSw
       (try dsimp only at hSw)
       go_simp
       try with_reducible rfl
      simp only [Act.put, List.setIfInBounds_toArray, List.set_cons_zero, List.set_cons_succ]
      refine wpAnyH_take (i := 4) (v := ?_) rfl (by kernel_rfl) (by kernel_rfl) (by kernel_rfl) (fun _ _ _ h => h) (Or.inl ⟨by rfl, ?_⟩) (by assumption) ?_
      rotate_left 1
      ·intro W hSw
       (try dsimp only at hSw)
       go_simp
       try with_reducible rfl
      simp only [Act.put, List.setIfInBounds_toArray, List.set_cons_zero, List.set_cons_succ]
      refine wpAnyH_take (i := 5) (v := ?_) rfl (by kernel_rfl) (by kernel_rfl) (by kernel_rfl) (fun _ _ _ h => h) (Or.inl ⟨by rfl, ?_⟩) (by assumption) ?_
      rotate_left 1
      ·intro W hSw
       (try dsimp only at hSw)
       go_simp
       try with_reducible rfl
      simp only [Act.put, List.setIfInBounds_toArray, List.set_cons_zero, List.set_cons_succ]
      refine wpAnyH_take (i := 6) (v := ?_) rfl (by kernel_rfl) (by kernel_rfl) (by kernel_rfl) (fun _ _ _ h => h) (Or.inl ⟨by rfl, ?_⟩) (by assumption) ?_
      rotate_left 1
      ·intro W hSw
       (try dsimp only at hSw)
       go_simp
       try with_reducible rfl
      simp only [Act.put, List.setIfInBounds_toArray, List.set_cons_zero, List.set_cons_succ]
      refine wpAnyH_take (i := 7) (v := ?_) rfl (by kernel_rfl) (by kernel_rfl) (by kernel_rfl) (fun _ _ _ h => h) (Or.inl ⟨by rfl, ?_⟩) (by assumption) ?_
      rotate_left 1
      ·intro W hSw
       (try dsimp only at hSw)
       go_simp
       try with_reducible rfl
      simp only [Act.put, List.setIfInBounds_toArray, List.set_cons_zero, List.set_cons_succ]
      refine wpAnyH_take (i := 8) (v := ?_) rfl (by kernel_rfl) (by kernel_rfl) (by kernel_rfl) (fun _ _ _ h => h) (Or.inl ⟨by rfl, ?_⟩) (by assumption) ?_
      rotate_left 1
      ·intro W hSw
       (try dsimp only at hSw)
       go_simp
       try with_reducible rfl
      simp only [Act.put, List.setIfInBounds_toArray, List.set_cons_zero, List.set_cons_succ]
      refine wpAnyH_take (i := 9) (v := ?_) rfl (by kernel_rfl) (by kernel_rfl) (by kernel_rfl) (fun _ _ _ h => h) (Or.inl ⟨by rfl, ?_⟩) (by assumption) ?_
      rotate_left 1
      ·intro W hSw
       (try dsimp only at hSw)
       go_simp
       try with_reducible rfl
      simp only [Act.put, List.setIfInBounds_toArray, List.set_cons_zero, List.set_cons_succ]
      refine wpAnyH_take (i := 10) (v := ?_) rfl (by kernel_rfl) (by kernel_rfl) (by kernel_rfl) (fun _ _ _ h => h) (Or.inl ⟨by rfl, ?_⟩) (by assumption) ?_
      rotate_left 1
      ·intro W hSw
       (try dsimp only at hSw)
       go_simp
       try with_reducible rfl
      simp only [Act.put, List.setIfInBounds_toArray, List.set_cons_zero, List.set_cons_succ]
      refine wpAnyH_take (i := 11) (v := ?_) rfl (by kernel_rfl) (by kernel_rfl) (by kernel_rfl) (fun _ _ _ h => h) (Or.inl ⟨by rfl, ?_⟩) (by assumption) ?_
      rotate_left 1
      ·intro W hSw
       (try dsimp only at hSw)
       go_simp
       try with_reducible rfl
      simp only [Act.put, List.setIfInBounds_toArray, List.set_cons_zero, List.set_cons_succ]
      refine wpAnyH_take (i := 12) (v := ?_) rfl (by kernel_rfl) (by kernel_rfl) (by kernel_rfl) (fun _ _ _ h => h) (Or.inl ⟨by rfl, ?_⟩) (by assumption) ?_
      rotate_left 1
      ·intro W hSw
       (try dsimp only at hSw)
       go_simp
       try with_reducible rfl
      simp only [Act.put, List.setIfInBounds_toArray, List.set_cons_zero, List.set_cons_succ]
      refine wpAnyH_take (i := 13) (v := ?_) rfl (by kernel_rfl) (by kernel_rfl) (by kernel_rfl) (fun _ _ _ h => h) (Or.inl ⟨by rfl, ?_⟩) (by assumption) ?_
      rotate_left 1
      ·intro W hSw
       (try dsimp only at hSw)
       go_simp
       try with_reducible rfl
      simp only [Act.put, List.setIfInBounds_toArray, List.set_cons_zero, List.set_cons_succ]
      refine wpAnyH_take (i := 14) (v := ?_) rfl (by kernel_rfl) (by kernel_rfl) (by kernel_rfl) (fun _ _ _ h => h) (Or.inl ⟨by rfl, ?_⟩) (by assumption) ?_
      rotate_left 1
      ·intro W hSw
       (try dsimp only at hSw)
       go_simp
       try with_reducible rfl
      simp only [Act.put, List.setIfInBounds_toArray, List.set_cons_zero, List.set_cons_succ]
      refine wpAnyH_ready (rs := [15]) (by kernel_rfl) (by simp) ?_
      refine AllReadyH.cons rfl (fun K hK => ?_) AllReadyH.nil
      go_simp
      refine hK.out _ _ e1.out (fun hHeld => ?_)
      clear hK K
      simp only [Act.put, List.setIfInBounds_toArray, List.set_cons_zero, List.set_cons_succ]
      refine wpAnyH_ready (rs := [16]) (by kernel_rfl) (by simp) ?_
      refine AllReadyH.cons rfl (fun K hK => ?_) AllReadyH.nil
      refine step_append_by rfl _ _ 58 rfl _ _ rfl rfl _ w2 hrun.out ?_
      refine hK.out _ _ e2.out (fun hHeld => ?_)
      clear hK K
      simp only [Act.put, List.setIfInBounds_toArray, List.set_cons_zero, List.set_cons_succ]
      refine wpAnyH_done (by kernel_rfl) ?_ _
      change wpList _ _ _ _ _ w2
      clear hHeld
      go_wp2
      go_roundw
      case rel => exact ⟨k + 1, .slice vA (k + 1) vc, B, by go_num, by omega, hnew.out, hB3.out⟩
      case measure => simp [intOf]; omega
     ·obtain rfl : k = j := by omega
      go_upto_region 15 with fail
      have hB1 : Below wx.heap.size wx (wx.drew.alloc (.cells #[.string (mkS (glue q)), .pointer (some ⟨B i, 0, none⟩)] 98)) := below_alloc (below_drewN (Below.refl _ _) 1) _
      have hown1 := own_below hch.out.row hB1
      have hn1 := (MapKept.heap_alloc wx.drew (.cells #[.string (mkS (glue q)), .pointer (some ⟨B i, 0, none⟩)] 98)).1
      have hsrc : Src (wx.drew.alloc (.cells #[.string (mkS (glue q)), .pointer (some ⟨B i, 0, none⟩)] 98)) (.slice (some ⟨wx.drew.heap.size, 0, none⟩) 1 1) 2 1 [.string (mkS (glue q)), .pointer (some ⟨B i, 0, none⟩)] := Or.inr ⟨⟨wx.drew.heap.size, 0, none⟩, 1, rfl, rfl, fun j u hj => by
       rw [add_at, Nat.zero_add]
       refine cell_of hn1 ?_
       rw [← hj]
       simp⟩
      have hB01 := below_step hBx.out hB1
      obtain ⟨v1, w2, hrun, ho, hg, _⟩ := run_append_any w.heap.size 58 98 58 Tryz.underlying58 (.agg #[.string ⟨#[]⟩, .pointer none]) 2 24 info_name rfl (by decide) (.slice uA k uc) k (rrow B (T.names.take k)) (.slice (some ⟨wx.drew.heap.size, 0, none⟩) 1 1) 1 _ hsrc hown1 (by simp [Value.oneCell']) (by simp only [maxLen]; omega) (by omega) hB01.size
      have hB02 : Below w.heap.size w w2 := hB01.grown hg hB01.size (own_base hown1)
      obtain ⟨vA, vc, hv1, _, _⟩ := own_shape ho
      subst hv1
      have hnew := hch.out.name rfl hB1 hg hx.out (show w2.ownsRow w.heap.size 98 2 (.slice vA (k + 1) vc) (k + 1) (rrow B (T.names.take k) ++ [.string (mkS (glue q)), ptr (B i)]) by rw [hbi.out]; exact ho)
      have ht1 := (hB1.block _ (Array.getElem?_eq_some_iff.1 hch.out.tree).1).trans hch.out.tree
      have ht2 : w2.heap[w.heap.size]? = some (.cells #[.slice uA k uc, .int .i64 T.next] 60 (0, 0)) := (hg.block _ (Array.getElem?_eq_some_iff.1 ht1).1 (fun e => by
       obtain ⟨_, cur, hcr⟩ := own_cells hown1 e.symm
       exact types_apart ht1 hcr (by decide) rfl)).trans ht1
      have hSk : ∀ W : World, W.heap[w.heap.size]? = some (.cells #[.slice uA k uc, .int .i64 T.next] 60 (0, 0)) → Below w.heap.size w W → (fun W : World => W.cell? ⟨w.heap.size, 0, none⟩ = some (.slice uA k uc) ∧ W.cell? ⟨rb, 0, none⟩ = some (.slice (some ⟨g, 0, none⟩) T.names.length c) ∧ W.cell? ⟨g, k * 2, none⟩ = some (.string (mkS (glue q)))) W := fun W h1 h2 => ⟨cell_of h1 rfl, (h2.cell (cell_lt t0)).trans t0, (h2.cell (cell_lt ca)).trans ca⟩
      have e0 : (fun W : World => W.cell? ⟨w.heap.size, 0, none⟩ = some (.slice uA k uc) ∧ W.cell? ⟨rb, 0, none⟩ = some (.slice (some ⟨g, 0, none⟩) T.names.length c) ∧ W.cell? ⟨g, k * 2, none⟩ = some (.string (mkS (glue q)))) wx.drew := hSk wx.drew hch.out.tree (below_drewN hBx.out 1)
      have e1 : (fun W : World => W.cell? ⟨w.heap.size, 0, none⟩ = some (.slice uA k uc) ∧ W.cell? ⟨rb, 0, none⟩ = some (.slice (some ⟨g, 0, none⟩) T.names.length c) ∧ W.cell? ⟨g, k * 2, none⟩ = some (.string (mkS (glue q)))) (wx.drew.alloc (.cells #[.string (mkS (glue q)), .pointer (some ⟨B i, 0, none⟩)] 98)) := hSk _ ht1 hB01
      have e2 : (fun W : World => W.cell? ⟨w.heap.size, 0, none⟩ = some (.slice uA k uc) ∧ W.cell? ⟨rb, 0, none⟩ = some (.slice (some ⟨g, 0, none⟩) T.names.length c) ∧ W.cell? ⟨g, k * 2, none⟩ = some (.string (mkS (glue q)))) w2 := hSk _ ht2 hB02
      have f2 : w2.frozen? ⟨w.heap.size, 0, none⟩ = false := by simp [World.frozen?, ht2]
      have e5 : w2.cell? ⟨w.heap.size, 0, none⟩ = some (.slice uA k uc) := cell_of ht2 rfl
      have hB3 := hB02.setCell (p := ⟨w.heap.size, 0, none⟩) (Nat.le_refl _) (.slice vA (k + 1) vc)
      dsimp only at e0 e1 e2
      replace hB1 := hid hB1
      replace hown1 := hid hown1
      replace hn1 := hid hn1
      replace hsrc := hid hsrc
      replace hB01 := hid hB01
      replace ho := hid ho
      replace hB02 := hid hB02
      replace hnew := hid hnew
      replace ht1 := hid ht1
      replace ht2 := hid ht2
      replace hSk := hid hSk
      replace e1 := hid e1
      replace e2 := hid e2
      replace hB3 := hid hB3
      replace hrun := hid hrun
      clear hg
      refine wp_region_held_tail (S := fun W : World => W.cell? ⟨w.heap.size, 0, none⟩ = some (.slice uA k uc) ∧ W.cell? ⟨rb, 0, none⟩ = some (.slice (some ⟨g, 0, none⟩) T.names.length c) ∧ W.cell? ⟨g, k * 2, none⟩ = some (.string (mkS (glue q)))) 17 (by kernel_rfl) (by kernel_rfl) e0 (fun hHeld => ?_)
      simp only [List.take_succ_cons, List.take_zero, List.drop_succ_cons, List.drop_zero]
      simp only [Array.replicate, List.replicate]
      clear e0
      try dsimp only at hHeld
      refine wpAnyH_take (i := 0) (v := ?_) rfl (by kernel_rfl) (by kernel_rfl) (by kernel_rfl) (fun _ _ _ h => h) (Or.inl ⟨by rfl, ?_⟩) (by assumption) ?_
      rotate_left 1
      ·intro W hSw
       (try dsimp only at hSw)
       go_simp
       try with_reducible rfl
      simp only [Act.put, List.setIfInBounds_toArray, List.set_cons_zero, List.set_cons_succ]
      refine wpAnyH_take (i := 1) (v := ?_) rfl (by kernel_rfl) (by kernel_rfl) (by kernel_rfl) (fun _ _ _ h => h) (Or.inl ⟨by rfl, ?_⟩) (by assumption) ?_
      rotate_left 1
      ·intro W hSw
       (try dsimp only at hSw)
       go_simp
       try with_reducible rfl
      simp only [Act.put, List.setIfInBounds_toArray, List.set_cons_zero, List.set_cons_succ]
      refine wpAnyH_take (i := 2) (v := ?_) rfl (by kernel_rfl) (by kernel_rfl) (by kernel_rfl) (fun _ _ _ h => h) (Or.inl ⟨by rfl, ?_⟩) (by assumption) ?_
      rotate_left 1
      ·intro W hSw
       (try dsimp only at hSw)
       go_simp
       try with_reducible rfl
      simp only [Act.put, List.setIfInBounds_toArray, List.set_cons_zero, List.set_cons_succ]
      refine wpAnyH_take (i := 3) (v := ?_) rfl (by kernel_rfl) (by kernel_rfl) (by kernel_rfl) (fun _ _ _ h => h) (Or.inl ⟨by rfl, ?_⟩) (by assumption) ?_
      rotate_left 1
      ·intro W hSw
       (try dsimp only at hSw)
       go_simp
       try with_reducible rfl
      simp only [Act.put, List.setIfInBounds_toArray, List.set_cons_zero, List.set_cons_succ]
      refine wpAnyH_take (i := 4) (v := ?_) rfl (by kernel_rfl) (by kernel_rfl) (by kernel_rfl) (fun _ _ _ h => h) (Or.inl ⟨by rfl, ?_⟩) (by assumption) ?_
      rotate_left 1
      ·intro W hSw
       (try dsimp only at hSw)
       go_simp
       try with_reducible rfl
      simp only [Act.put, List.setIfInBounds_toArray, List.set_cons_zero, List.set_cons_succ]
      refine wpAnyH_take (i := 5) (v := ?_) rfl (by kernel_rfl) (by kernel_rfl) (by kernel_rfl) (fun _ _ _ h => h) (Or.inl ⟨by rfl, ?_⟩) (by assumption) ?_
      rotate_left 1
      ·intro W hSw
       (try dsimp only at hSw)
       go_simp
       try with_reducible rfl
      simp only [Act.put, List.setIfInBounds_toArray, List.set_cons_zero, List.set_cons_succ]
      refine wpAnyH_take (i := 6) (v := ?_) rfl (by kernel_rfl) (by kernel_rfl) (by kernel_rfl) (fun _ _ _ h => h) (Or.inl ⟨by rfl, ?_⟩) (by assumption) ?_
      rotate_left 1
      ·intro W hSw
       (try dsimp only at hSw)
       go_simp
       try with_reducible rfl
      simp only [Act.put, List.setIfInBounds_toArray, List.set_cons_zero, List.set_cons_succ]
      refine wpAnyH_take (i := 7) (v := ?_) rfl (by kernel_rfl) (by kernel_rfl) (by kernel_rfl) (fun _ _ _ h => h) (Or.inl ⟨by rfl, ?_⟩) (by assumption) ?_
      rotate_left 1
      ·intro W hSw
       (try dsimp only at hSw)
       go_simp
       try with_reducible rfl
      simp only [Act.put, List.setIfInBounds_toArray, List.set_cons_zero, List.set_cons_succ]
      refine wpAnyH_take (i := 8) (v := ?_) rfl (by kernel_rfl) (by kernel_rfl) (by kernel_rfl) (fun _ _ _ h => h) (Or.inl ⟨by rfl, ?_⟩) (by assumption) ?_
      rotate_left 1
      ·intro W hSw
       (try dsimp only at hSw)
       go_simp
       try with_reducible rfl
      simp only [Act.put, List.setIfInBounds_toArray, List.set_cons_zero, List.set_cons_succ]
      refine wpAnyH_take (i := 9) (v := ?_) rfl (by kernel_rfl) (by kernel_rfl) (by kernel_rfl) (fun _ _ _ h => h) (Or.inl ⟨by rfl, ?_⟩) (by assumption) ?_
      rotate_left 1
      ·intro W hSw
       (try dsimp only at hSw)
       go_simp
       try with_reducible rfl
      simp only [Act.put, List.setIfInBounds_toArray, List.set_cons_zero, List.set_cons_succ]
      refine wpAnyH_take (i := 10) (v := ?_) rfl (by kernel_rfl) (by kernel_rfl) (by kernel_rfl) (fun _ _ _ h => h) (Or.inl ⟨by rfl, ?_⟩) (by assumption) ?_
      rotate_left 1
      ·intro W hSw
       (try dsimp only at hSw)
       go_simp
       try with_reducible rfl
      simp only [Act.put, List.setIfInBounds_toArray, List.set_cons_zero, List.set_cons_succ]
      refine wpAnyH_take (i := 11) (v := ?_) rfl (by kernel_rfl) (by kernel_rfl) (by kernel_rfl) (fun _ _ _ h => h) (Or.inl ⟨by rfl, ?_⟩) (by assumption) ?_
      rotate_left 1
      ·intro W hSw
       (try dsimp only at hSw)
       go_simp
       try with_reducible rfl
      simp only [Act.put, List.setIfInBounds_toArray, List.set_cons_zero, List.set_cons_succ]
      refine wpAnyH_take (i := 12) (v := ?_) rfl (by kernel_rfl) (by kernel_rfl) (by kernel_rfl) (fun _ _ _ h => h) (Or.inl ⟨by rfl, ?_⟩) (by assumption) ?_
      rotate_left 1
      ·intro W hSw
       (try dsimp only at hSw)
       go_simp
       try with_reducible rfl
      simp only [Act.put, List.setIfInBounds_toArray, List.set_cons_zero, List.set_cons_succ]
      refine wpAnyH_take (i := 13) (v := ?_) rfl (by kernel_rfl) (by kernel_rfl) (by kernel_rfl) (fun _ _ _ h => h) (Or.inl ⟨by rfl, ?_⟩) (by assumption) ?_
      rotate_left 1
      ·intro W hSw
       (try dsimp only at hSw)
       go_simp
       try with_reducible rfl
      simp only [Act.put, List.setIfInBounds_toArray, List.set_cons_zero, List.set_cons_succ]
      refine wpAnyH_take (i := 14) (v := ?_) rfl (by kernel_rfl) (by kernel_rfl) (by kernel_rfl) (fun _ _ _ h => h) (Or.inl ⟨by rfl, ?_⟩) (by assumption) ?_
      rotate_left 1
      ·intro W hSw
       (try dsimp only at hSw)
       go_simp
       try with_reducible rfl
      simp only [Act.put, List.setIfInBounds_toArray, List.set_cons_zero, List.set_cons_succ]
      refine wpAnyH_ready (rs := [15]) (by kernel_rfl) (by simp) ?_
      refine AllReadyH.cons rfl (fun K hK => ?_) AllReadyH.nil
      go_simp
      refine hK.out _ _ e1.out (fun hHeld => ?_)
      clear hK K
      simp only [Act.put, List.setIfInBounds_toArray, List.set_cons_zero, List.set_cons_succ]
      refine wpAnyH_ready (rs := [16]) (by kernel_rfl) (by simp) ?_
      refine AllReadyH.cons rfl (fun K hK => ?_) AllReadyH.nil
      refine step_append_by rfl _ _ 58 rfl _ _ rfl rfl _ w2 hrun.out ?_
      refine hK.out _ _ e2.out (fun hHeld => ?_)
      clear hK K
      simp only [Act.put, List.setIfInBounds_toArray, List.set_cons_zero, List.set_cons_succ]
      refine wpAnyH_done (by kernel_rfl) ?_ _
      change wpList _ _ _ _ _ w2
      clear hHeld
      go_wp2
      go_roundw
      case rel => exact ⟨k + 1, .slice vA (k + 1) vc, B, by go_num, by omega, hnew.out, hB3.out⟩
      case measure => simp [intOf]; omega
  ·obtain rfl : k = T.names.length := by omega
   obtain ⟨g1, g2⟩ := hc.fin hI.out rfl
   clear t0
   replace g1 := hid g1
   replace g2 := hid g2
   replace hB := hid hB
   replace hc := hid hc
   replace hcs := hid hcs
   go_wp2
   go_ret
   exact ⟨w.heap.size, u, B, rfl, g1.out, g2.out, hB.out⟩
end
end Go.Proofs.YtcjlfkklpghjbaaGreat

namespace Go.Proofs.YtcjlfkklpghjbaaGreat
def swapT (t : Int) : Int := if t = 1 ∨ t = 2 then 3 - t else t
def swapA (l : Acts44) : Acts44 := l.map fun y => (y.1, swapT y.2)
def otherP (n : Int) : Int := if n = 1 then 2 else if n = 2 then 1 else n
section
variable {W L R : List Ent}
/-- No two times of one path are the same. -/
def ApartT (L R : List Ent) : Prop := ∀ x ∈ L, ∀ y ∈ R, x.path = y.path → ¬ (x.mt.sec = y.mt.sec ∧ x.mt.nano = y.mt.nano)
end
end Go.Proofs.YtcjlfkklpghjbaaGreat

namespace Go.Proofs.YtcjlfkklpghjbaaGreat
open Go.RowKit Go.ChangeShapes Go.WideShapes Go.Deep
def entCells (x : Ent) : List Value := [.string (mkS x.path), .int .i64 x.kind, .int .i64 x.size, .int .i64 x.mt.mode, .int .i64 x.mt.sec, .int .i64 x.mt.nano, .int .i64 x.mt.uid, .int .i64 x.mt.gid, .string (mkS x.target), .string (mkS x.sum), .int .i64 x.group]
def entV (x : Ent) : Value := .agg (entCells x).toArray
/-- v reads as the entries l. -/
def Ents (W : World) (v : Value) (l : List Ent) : Prop :=
  ∃ A c, v = .slice A l.length c ∧ l.length ≤ c ∧ c ≤ maxLen ∧ ∀ k (h : k < l.length), ∃ g o, A = some ⟨g, o, none⟩ ∧ ∀ j, j < 11 → W.cell? ⟨g, o + k * 11 + j, none⟩ = (entCells l[k])[j]?
theorem ent_cell_lt {W : World} {a : Addr} {v : Value} (h : W.cell? a = some v) : a.block < W.heap.size := by
 rcases Nat.lt_or_ge a.block W.heap.size with h1 | h1
 ·exact h1
 ·simp [World.cell?, Array.getElem?_eq_none h1] at h
theorem Ents.below {W W' : World} {v : Value} {l : List Ent} (h : Ents W v l) (hb : Below W.heap.size W W') : Ents W' v l := by
 obtain ⟨A, c, h1, h2, h3, h4⟩ := h
 refine ⟨A, c, h1, h2, h3, fun k hk => ?_⟩
 obtain ⟨g, o, e, h6⟩ := h4 k hk
 refine ⟨g, o, e, fun j hj => ?_⟩
 have h7 := h6 0 (by omega)
 have hlt : g < W.heap.size := ent_cell_lt (a := ⟨g, o + k * 11 + 0, none⟩) h7
 rw [← h6 j hj]
 simp only [World.cell?, hb.block g hlt]
section
variable {H : Type} {enc : TypeId × Value → H} {W : World} {spare : Nat → Bool} {held : Bool}
/-- Three lists, as one argument. -/
def Lists3 (W : World) (v : Value) (a b c : List Ent) : Prop := ∃ x y z, v = .agg #[x, y, z] ∧ Ents W x a ∧ Ents W y b ∧ Ents W z c
end
end Go.Proofs.YtcjlfkklpghjbaaGreat

namespace Go.Proofs.YtcjlfkklpghjbaaGreat
open Go.RowKit
theorem ite_two {P Q : Prop} [Decidable P] [Decidable Q] (h : P ↔ Q) : (if P then (2 : Int) else 0) = if Q then 2 else 0 := by
 by_cases hP : P
 ·rw [if_pos hP, if_pos (h.1 hP)]
 ·rw [if_neg hP, if_neg fun hQ => hP (h.2 hQ)]
theorem len_nil {l : Bytes} : l = [] ↔ l.length = 0 := List.length_eq_zero_iff.symm
theorem entE_1 {x : Ent} (hr : right x.path = true) (hp : x.path ≠ []) (hk : x.kind = 1) :
  entE x = if metaOk x.mt = false ∨ x.size < 0 ∨ 65536 < x.size ∨ x.target.length ≠ 0 ∨ (x.sum.length ≠ 0 ∧ x.sum.length ≠ 32) ∨ x.group < 0 then 2 else 0 := by
 unfold entE
 rw [if_neg (by simp [hr, hp]), if_neg (by simp [hk])]
 refine ite_two ?_
 cases hm : metaOk x.mt
 ·simp [entBad, hm]
 ·simp only [entBad, hm, hk, Bool.not_true, Bool.false_or, Bool.or_eq_true, decide_eq_true_eq, len_nil, ne_eq, Bool.true_eq_false, false_or, Int.reduceEq, true_and, false_and, not_true_eq_false, not_false_eq_true, or_false, and_false, and_true, true_or, or_true]
  omega
theorem entE_2 {x : Ent} (hr : right x.path = true) (hp : x.path ≠ []) (hk : x.kind = 2) :
  entE x = if metaOk x.mt = false ∨ x.size < 0 ∨ 2147483647 < x.size ∨ x.target.length ≠ 0 ∨ x.sum.length ≠ 0 ∨ x.group ≠ 0 then 2 else 0 := by
 unfold entE
 rw [if_neg (by simp [hr, hp]), if_neg (by simp [hk])]
 refine ite_two ?_
 cases hm : metaOk x.mt
 ·simp [entBad, hm]
 ·simp only [entBad, hm, hk, Bool.not_true, Bool.false_or, Bool.or_eq_true, decide_eq_true_eq, len_nil, ne_eq, Bool.true_eq_false, false_or, Int.reduceEq, true_and, false_and, not_true_eq_false, not_false_eq_true, or_false, and_false, and_true, true_or, or_true]
  omega
theorem entE_3 {x : Ent} (hr : right x.path = true) (hp : x.path ≠ []) (hk : x.kind = 3) :
  entE x = if metaOk x.mt = false ∨ x.size < 0 ∨ x.target.length = 0 ∨ 200 < x.target.length ∨ x.size ≠ (x.target.length : Int) ∨ x.sum.length ≠ 0 ∨ x.group ≠ 0 then 2 else 0 := by
 unfold entE
 rw [if_neg (by simp [hr, hp]), if_neg (by simp [hk])]
 refine ite_two ?_
 cases hm : metaOk x.mt
 ·simp [entBad, hm]
 ·simp only [entBad, hm, hk, Bool.not_true, Bool.false_or, Bool.or_eq_true, decide_eq_true_eq, len_nil, ne_eq, Bool.true_eq_false, false_or, Int.reduceEq, true_and, false_and, not_true_eq_false, not_false_eq_true, or_false, and_false, and_true, true_or, or_true]
  omega
theorem entE_name {x : Ent} (h : right x.path = false ∨ x.path = []) : entE x = 9 := if_pos h
theorem entE_kind {x : Ent} (hr : right x.path = true) (hp : x.path ≠ []) (h1 : x.kind ≠ 1) (h2 : x.kind ≠ 2) (h3 : x.kind ≠ 3) : entE x = 17 := by
 unfold entE
 rw [if_neg (by simp [hr, hp]), if_pos ⟨h1, h2, h3⟩]
set_option maxHeartbeats 8000000 in
set_option maxRecDepth 100000 in
theorem alone_calls (x : Ent) (w : World) (hp : x.path.length ≤ 1000000) (ht : x.target.length ≤ 1000000) (hs : x.sum.length ≤ 1000000) :
  Calls Tryz.prog 70 #[entV x] w fun e w' => e = .returned (.int .i64 (entE x)) ∧ Below w.heap.size w w' := by
 have k1 := @entE_1 x
 have k2 := @entE_2 x
 have k3 := @entE_3 x
 have kn := @entE_name x
 have kk := @entE_kind x
 generalize entE x = r at *
 obtain ⟨p, kd, sz, m, tg, sm, gr⟩ := x
 have hm := fun W => check_calls m W
 generalize metaOk m = mk at *
 obtain ⟨m1, m2, m3, m4, m5⟩ := m
 unfold entV entCells
 unfold mtV mtCells at hm
 dsimp only at *
 have hps := mkS_size p
 have hts := mkS_size tg
 have hss := mkS_size sm
 have h1 := fun W => right_calls (mkS p) W (by omega)
 rw [bl_mkS] at h1
 have hB := (Below.refl w.heap.size w).alloc (Nat.le_refl _) (.cells #[.string (mkS p), .int .i64 kd, .int .i64 sz, .int .i64 m1, .int .i64 m2, .int .i64 m3, .int .i64 m4, .int .i64 m5, .string (mkS tg), .string (mkS sm), .int .i64 gr] 45)
 have hblk := (MapKept.heap_alloc w (.cells #[.string (mkS p), .int .i64 kd, .int .i64 sz, .int .i64 m1, .int .i64 m2, .int .i64 m3, .int .i64 m4, .int .i64 m5, .string (mkS tg), .string (mkS sm), .int .i64 gr] 45)).1
 have d0 := cell_of (j := 0) hblk (v := .string (mkS p)) rfl
 have hpe : (mkS p).toList.isEmpty = decide (p = []) := by rw [str_nil, bl_mkS]
 have hte : (mkS tg).toList.isEmpty = decide (tg = []) := by rw [str_nil, bl_mkS]
 have hse : (mkS sm).toList.isEmpty = decide (sm = []) := by rw [str_nil, bl_mkS]
 generalize right p = rp at *
 replace hm := hid hm
 replace h1 := hid h1
 replace hB := hid hB
 replace hblk := hid hblk
 replace k1 := hid k1
 replace k2 := hid k2
 replace k3 := hid k3
 replace kn := hid kn
 replace kk := hid kk
 cases rp with
 | false =>
  replace hpe := hid hpe
  replace hte := hid hte
  replace hse := hid hse
  go_enter Tryz.func70, Tryz.ntmps70
  go_wp2_with fail
  (with_reducible refine (h1.out _).mono ?_)
  rintro e w1 ⟨rfl, hB1⟩
  go_wp2
  go_ret
  exact ⟨ret_int (kn.out (by simp)).symm, below_step hB.out hB1⟩
 | true =>
  by_cases hp0 : p = []
  ·rw [decide_eq_true hp0] at hpe
   replace hp0 := hid hp0
   replace hte := hid hte
   replace hse := hid hse
   go_enter Tryz.func70, Tryz.ntmps70
   go_wp2_with fail
   (with_reducible refine (h1.out _).mono ?_)
   rintro e w1 ⟨rfl, hB1⟩
   have e0 := (hB1.cell (cell_lt d0)).trans d0
   clear d0
   go_wp2
   go_ret
   exact ⟨ret_int (kn.out (by simp [hp0.out])).symm, below_step hB.out hB1⟩
  ·rw [decide_eq_false hp0] at hpe
   by_cases hk1 : kd = 1
   ·subst hk1
    have hE := k1.out rfl hp0 rfl
    replace hE := hid hE
    replace hp0 := hid hp0
    cases mk with
    | false =>
     replace hte := hid hte
     replace hse := hid hse
     go_enter Tryz.func70, Tryz.ntmps70
     go_wp2_with fail
     (with_reducible refine (h1.out _).mono ?_)
     rintro e w1 ⟨rfl, hB1⟩
     have hblk1 := (hB1.block _ (Array.getElem?_eq_some_iff.1 hblk.out).1).trans hblk.out
     have e0 := cell_of (j := 0) hblk1 (v := .string (mkS p)) rfl
     have d1 := cell_of (j := 1) hblk1 rfl
     have d2 := cell_of (j := 2) hblk1 (v := .int .i64 sz) rfl
     have d3 := cell_of (j := 3) hblk1 (v := .int .i64 m1) rfl
     have d4 := cell_of (j := 4) hblk1 (v := .int .i64 m2) rfl
     have d5 := cell_of (j := 5) hblk1 (v := .int .i64 m3) rfl
     have d6 := cell_of (j := 6) hblk1 (v := .int .i64 m4) rfl
     have d7 := cell_of (j := 7) hblk1 (v := .int .i64 m5) rfl
     have d8 := cell_of (j := 8) hblk1 (v := .string (mkS tg)) rfl
     have d9 := cell_of (j := 9) hblk1 (v := .string (mkS sm)) rfl
     have d10 := cell_of (j := 10) hblk1 (v := .int .i64 gr) rfl
     have hB01 := below_step hB.out hB1
     replace hblk1 := hid hblk1
     replace hB01 := hid hB01
     clear hB1 d0
     go_upto_region 3 with fail
     go_quiet (fail)
     go_wp2_with fail
     (with_reducible refine (hm.out _).mono ?_)
     rintro e w2 ⟨rfl, hB2⟩
     have hB02 := below_step (below_drewN hB01.out _) hB2
     replace hB02 := hid hB02
     replace hB2 := hid hB2
     clear e0 d1 d2 d3 d4 d5 d6 d7 d8 d9 d10
     go_wp2
     go_ret
     exact ⟨ret_int (by rw [hE.out, if_pos (by simp)]), hB02.out⟩
    | true =>
     have hE := hE.out
     simp only [Bool.true_eq_false, false_or] at hE
     replace hE := hid hE
     by_cases ht0 : tg = []
     ·rw [decide_eq_true ht0] at hte
      have hl1 : tg.length = 0 := by rw [ht0]; rfl
      replace ht0 := hid ht0
      replace hl1 := hid hl1
      by_cases hs0 : sm = []
      ·rw [decide_eq_true hs0] at hse
       have hl2 : sm.length = 0 := by rw [hs0]; rfl
       replace hs0 := hid hs0
       replace hl2 := hid hl2
       go_enter Tryz.func70, Tryz.ntmps70
       go_wp2_with fail
       (with_reducible refine (h1.out _).mono ?_)
       rintro e w1 ⟨rfl, hB1⟩
       have hblk1 := (hB1.block _ (Array.getElem?_eq_some_iff.1 hblk.out).1).trans hblk.out
       have e0 := cell_of (j := 0) hblk1 (v := .string (mkS p)) rfl
       have d1 := cell_of (j := 1) hblk1 rfl
       have d2 := cell_of (j := 2) hblk1 (v := .int .i64 sz) rfl
       have d3 := cell_of (j := 3) hblk1 (v := .int .i64 m1) rfl
       have d4 := cell_of (j := 4) hblk1 (v := .int .i64 m2) rfl
       have d5 := cell_of (j := 5) hblk1 (v := .int .i64 m3) rfl
       have d6 := cell_of (j := 6) hblk1 (v := .int .i64 m4) rfl
       have d7 := cell_of (j := 7) hblk1 (v := .int .i64 m5) rfl
       have d8 := cell_of (j := 8) hblk1 (v := .string (mkS tg)) rfl
       have d9 := cell_of (j := 9) hblk1 (v := .string (mkS sm)) rfl
       have d10 := cell_of (j := 10) hblk1 (v := .int .i64 gr) rfl
       have hB01 := below_step hB.out hB1
       replace hblk1 := hid hblk1
       replace hB01 := hid hB01
       clear hB1 d0
       go_upto_region 3 with fail
       go_quiet (fail)
       go_wp2_with fail
       (with_reducible refine (hm.out _).mono ?_)
       rintro e w2 ⟨rfl, hB2⟩
       have hblk2 := (hB2.block _ (Array.getElem?_eq_some_iff.1 hblk1.out).1).trans hblk1.out
       have hB02 := below_step (below_drewN hB01.out _) hB2
       clear e0 d1 d2 d3 d4 d5 d6 d7 d8 d9 d10 hB2
       have d1 := cell_of (j := 1) hblk2 rfl
       have d2 := cell_of (j := 2) hblk2 (v := .int .i64 sz) rfl
       have d3 := cell_of (j := 3) hblk2 (v := .int .i64 m1) rfl
       have d4 := cell_of (j := 4) hblk2 (v := .int .i64 m2) rfl
       have d5 := cell_of (j := 5) hblk2 (v := .int .i64 m3) rfl
       have d6 := cell_of (j := 6) hblk2 (v := .int .i64 m4) rfl
       have d7 := cell_of (j := 7) hblk2 (v := .int .i64 m5) rfl
       have d8 := cell_of (j := 8) hblk2 (v := .string (mkS tg)) rfl
       have d9 := cell_of (j := 9) hblk2 (v := .string (mkS sm)) rfl
       have d10 := cell_of (j := 10) hblk2 (v := .int .i64 gr) rfl
       replace hblk2 := hid hblk2
       replace hB02 := hid hB02
       go_wp2
       all_goals
        go_ret
        refine ⟨ret_int ?_, hB02.out⟩
        have q1 := hl1.out
        have q2 := hl2.out
        rw [hE.out]
        (try simp only [bne_iff_ne, ne_eq, bne_eq_false_iff_eq] at *)
        first | (rw [if_pos (by omega)]; done) | (rw [if_neg (by omega)]; done)
      ·rw [decide_eq_false hs0] at hse
       have hl2 : sm.length ≠ 0 := fun h => hs0 (len_nil.2 h)
       replace hs0 := hid hs0
       replace hl2 := hid hl2
       go_enter Tryz.func70, Tryz.ntmps70
       go_wp2_with fail
       (with_reducible refine (h1.out _).mono ?_)
       rintro e w1 ⟨rfl, hB1⟩
       have hblk1 := (hB1.block _ (Array.getElem?_eq_some_iff.1 hblk.out).1).trans hblk.out
       have e0 := cell_of (j := 0) hblk1 (v := .string (mkS p)) rfl
       have d1 := cell_of (j := 1) hblk1 rfl
       have d2 := cell_of (j := 2) hblk1 (v := .int .i64 sz) rfl
       have d3 := cell_of (j := 3) hblk1 (v := .int .i64 m1) rfl
       have d4 := cell_of (j := 4) hblk1 (v := .int .i64 m2) rfl
       have d5 := cell_of (j := 5) hblk1 (v := .int .i64 m3) rfl
       have d6 := cell_of (j := 6) hblk1 (v := .int .i64 m4) rfl
       have d7 := cell_of (j := 7) hblk1 (v := .int .i64 m5) rfl
       have d8 := cell_of (j := 8) hblk1 (v := .string (mkS tg)) rfl
       have d9 := cell_of (j := 9) hblk1 (v := .string (mkS sm)) rfl
       have d10 := cell_of (j := 10) hblk1 (v := .int .i64 gr) rfl
       have hB01 := below_step hB.out hB1
       replace hblk1 := hid hblk1
       replace hB01 := hid hB01
       clear hB1 d0
       go_upto_region 3 with fail
       go_quiet (fail)
       go_wp2_with fail
       (with_reducible refine (hm.out _).mono ?_)
       rintro e w2 ⟨rfl, hB2⟩
       have hblk2 := (hB2.block _ (Array.getElem?_eq_some_iff.1 hblk1.out).1).trans hblk1.out
       have hB02 := below_step (below_drewN hB01.out _) hB2
       clear e0 d1 d2 d3 d4 d5 d6 d7 d8 d9 d10 hB2
       have d1 := cell_of (j := 1) hblk2 rfl
       have d2 := cell_of (j := 2) hblk2 (v := .int .i64 sz) rfl
       have d3 := cell_of (j := 3) hblk2 (v := .int .i64 m1) rfl
       have d4 := cell_of (j := 4) hblk2 (v := .int .i64 m2) rfl
       have d5 := cell_of (j := 5) hblk2 (v := .int .i64 m3) rfl
       have d6 := cell_of (j := 6) hblk2 (v := .int .i64 m4) rfl
       have d7 := cell_of (j := 7) hblk2 (v := .int .i64 m5) rfl
       have d8 := cell_of (j := 8) hblk2 (v := .string (mkS tg)) rfl
       have d9 := cell_of (j := 9) hblk2 (v := .string (mkS sm)) rfl
       have d10 := cell_of (j := 10) hblk2 (v := .int .i64 gr) rfl
       replace hblk2 := hid hblk2
       replace hB02 := hid hB02
       go_wp2
       all_goals
        go_ret
        refine ⟨ret_int ?_, hB02.out⟩
        have q1 := hl1.out
        have q2 := hl2.out
        rw [hE.out]
        (try simp only [bne_iff_ne, ne_eq, bne_eq_false_iff_eq] at *)
        first | (rw [if_pos (by omega)]; done) | (rw [if_neg (by omega)]; done)
     ·rw [decide_eq_false ht0] at hte
      have hl1 : tg.length ≠ 0 := fun h => ht0 (len_nil.2 h)
      replace ht0 := hid ht0
      replace hl1 := hid hl1
      by_cases hs0 : sm = []
      ·rw [decide_eq_true hs0] at hse
       have hl2 : sm.length = 0 := by rw [hs0]; rfl
       replace hs0 := hid hs0
       replace hl2 := hid hl2
       go_enter Tryz.func70, Tryz.ntmps70
       go_wp2_with fail
       (with_reducible refine (h1.out _).mono ?_)
       rintro e w1 ⟨rfl, hB1⟩
       have hblk1 := (hB1.block _ (Array.getElem?_eq_some_iff.1 hblk.out).1).trans hblk.out
       have e0 := cell_of (j := 0) hblk1 (v := .string (mkS p)) rfl
       have d1 := cell_of (j := 1) hblk1 rfl
       have d2 := cell_of (j := 2) hblk1 (v := .int .i64 sz) rfl
       have d3 := cell_of (j := 3) hblk1 (v := .int .i64 m1) rfl
       have d4 := cell_of (j := 4) hblk1 (v := .int .i64 m2) rfl
       have d5 := cell_of (j := 5) hblk1 (v := .int .i64 m3) rfl
       have d6 := cell_of (j := 6) hblk1 (v := .int .i64 m4) rfl
       have d7 := cell_of (j := 7) hblk1 (v := .int .i64 m5) rfl
       have d8 := cell_of (j := 8) hblk1 (v := .string (mkS tg)) rfl
       have d9 := cell_of (j := 9) hblk1 (v := .string (mkS sm)) rfl
       have d10 := cell_of (j := 10) hblk1 (v := .int .i64 gr) rfl
       have hB01 := below_step hB.out hB1
       replace hblk1 := hid hblk1
       replace hB01 := hid hB01
       clear hB1 d0
       go_upto_region 3 with fail
       go_quiet (fail)
       go_wp2_with fail
       (with_reducible refine (hm.out _).mono ?_)
       rintro e w2 ⟨rfl, hB2⟩
       have hblk2 := (hB2.block _ (Array.getElem?_eq_some_iff.1 hblk1.out).1).trans hblk1.out
       have hB02 := below_step (below_drewN hB01.out _) hB2
       clear e0 d1 d2 d3 d4 d5 d6 d7 d8 d9 d10 hB2
       have d1 := cell_of (j := 1) hblk2 rfl
       have d2 := cell_of (j := 2) hblk2 (v := .int .i64 sz) rfl
       have d3 := cell_of (j := 3) hblk2 (v := .int .i64 m1) rfl
       have d4 := cell_of (j := 4) hblk2 (v := .int .i64 m2) rfl
       have d5 := cell_of (j := 5) hblk2 (v := .int .i64 m3) rfl
       have d6 := cell_of (j := 6) hblk2 (v := .int .i64 m4) rfl
       have d7 := cell_of (j := 7) hblk2 (v := .int .i64 m5) rfl
       have d8 := cell_of (j := 8) hblk2 (v := .string (mkS tg)) rfl
       have d9 := cell_of (j := 9) hblk2 (v := .string (mkS sm)) rfl
       have d10 := cell_of (j := 10) hblk2 (v := .int .i64 gr) rfl
       replace hblk2 := hid hblk2
       replace hB02 := hid hB02
       go_wp2
       all_goals
        go_ret
        refine ⟨ret_int ?_, hB02.out⟩
        have q1 := hl1.out
        have q2 := hl2.out
        rw [hE.out]
        (try simp only [bne_iff_ne, ne_eq, bne_eq_false_iff_eq] at *)
        first | (rw [if_pos (by omega)]; done) | (rw [if_neg (by omega)]; done)
      ·rw [decide_eq_false hs0] at hse
       have hl2 : sm.length ≠ 0 := fun h => hs0 (len_nil.2 h)
       replace hs0 := hid hs0
       replace hl2 := hid hl2
       go_enter Tryz.func70, Tryz.ntmps70
       go_wp2_with fail
       (with_reducible refine (h1.out _).mono ?_)
       rintro e w1 ⟨rfl, hB1⟩
       have hblk1 := (hB1.block _ (Array.getElem?_eq_some_iff.1 hblk.out).1).trans hblk.out
       have e0 := cell_of (j := 0) hblk1 (v := .string (mkS p)) rfl
       have d1 := cell_of (j := 1) hblk1 rfl
       have d2 := cell_of (j := 2) hblk1 (v := .int .i64 sz) rfl
       have d3 := cell_of (j := 3) hblk1 (v := .int .i64 m1) rfl
       have d4 := cell_of (j := 4) hblk1 (v := .int .i64 m2) rfl
       have d5 := cell_of (j := 5) hblk1 (v := .int .i64 m3) rfl
       have d6 := cell_of (j := 6) hblk1 (v := .int .i64 m4) rfl
       have d7 := cell_of (j := 7) hblk1 (v := .int .i64 m5) rfl
       have d8 := cell_of (j := 8) hblk1 (v := .string (mkS tg)) rfl
       have d9 := cell_of (j := 9) hblk1 (v := .string (mkS sm)) rfl
       have d10 := cell_of (j := 10) hblk1 (v := .int .i64 gr) rfl
       have hB01 := below_step hB.out hB1
       replace hblk1 := hid hblk1
       replace hB01 := hid hB01
       clear hB1 d0
       go_upto_region 3 with fail
       go_quiet (fail)
       go_wp2_with fail
       (with_reducible refine (hm.out _).mono ?_)
       rintro e w2 ⟨rfl, hB2⟩
       have hblk2 := (hB2.block _ (Array.getElem?_eq_some_iff.1 hblk1.out).1).trans hblk1.out
       have hB02 := below_step (below_drewN hB01.out _) hB2
       clear e0 d1 d2 d3 d4 d5 d6 d7 d8 d9 d10 hB2
       have d1 := cell_of (j := 1) hblk2 rfl
       have d2 := cell_of (j := 2) hblk2 (v := .int .i64 sz) rfl
       have d3 := cell_of (j := 3) hblk2 (v := .int .i64 m1) rfl
       have d4 := cell_of (j := 4) hblk2 (v := .int .i64 m2) rfl
       have d5 := cell_of (j := 5) hblk2 (v := .int .i64 m3) rfl
       have d6 := cell_of (j := 6) hblk2 (v := .int .i64 m4) rfl
       have d7 := cell_of (j := 7) hblk2 (v := .int .i64 m5) rfl
       have d8 := cell_of (j := 8) hblk2 (v := .string (mkS tg)) rfl
       have d9 := cell_of (j := 9) hblk2 (v := .string (mkS sm)) rfl
       have d10 := cell_of (j := 10) hblk2 (v := .int .i64 gr) rfl
       replace hblk2 := hid hblk2
       replace hB02 := hid hB02
       go_wp2
       all_goals
        go_ret
        refine ⟨ret_int ?_, hB02.out⟩
        have q1 := hl1.out
        have q2 := hl2.out
        rw [hE.out]
        (try simp only [bne_iff_ne, ne_eq, bne_eq_false_iff_eq] at *)
        first | (rw [if_pos (by omega)]; done) | (rw [if_neg (by omega)]; done)
   ·by_cases hk2 : kd = 2
    ·subst hk2
     have hE := k2.out rfl hp0 rfl
     replace hE := hid hE
     replace hp0 := hid hp0
     clear hk1
     cases mk with
     | false =>
      replace hte := hid hte
      replace hse := hid hse
      go_enter Tryz.func70, Tryz.ntmps70
      go_wp2_with fail
      (with_reducible refine (h1.out _).mono ?_)
      rintro e w1 ⟨rfl, hB1⟩
      have hblk1 := (hB1.block _ (Array.getElem?_eq_some_iff.1 hblk.out).1).trans hblk.out
      have e0 := cell_of (j := 0) hblk1 (v := .string (mkS p)) rfl
      have d1 := cell_of (j := 1) hblk1 rfl
      have d2 := cell_of (j := 2) hblk1 (v := .int .i64 sz) rfl
      have d3 := cell_of (j := 3) hblk1 (v := .int .i64 m1) rfl
      have d4 := cell_of (j := 4) hblk1 (v := .int .i64 m2) rfl
      have d5 := cell_of (j := 5) hblk1 (v := .int .i64 m3) rfl
      have d6 := cell_of (j := 6) hblk1 (v := .int .i64 m4) rfl
      have d7 := cell_of (j := 7) hblk1 (v := .int .i64 m5) rfl
      have d8 := cell_of (j := 8) hblk1 (v := .string (mkS tg)) rfl
      have d9 := cell_of (j := 9) hblk1 (v := .string (mkS sm)) rfl
      have d10 := cell_of (j := 10) hblk1 (v := .int .i64 gr) rfl
      have hB01 := below_step hB.out hB1
      replace hblk1 := hid hblk1
      replace hB01 := hid hB01
      clear hB1 d0
      go_upto_region 3 with fail
      go_quiet (fail)
      go_wp2_with fail
      (with_reducible refine (hm.out _).mono ?_)
      rintro e w2 ⟨rfl, hB2⟩
      have hB02 := below_step (below_drewN hB01.out _) hB2
      replace hB02 := hid hB02
      replace hB2 := hid hB2
      clear e0 d1 d2 d3 d4 d5 d6 d7 d8 d9 d10
      go_wp2
      go_ret
      exact ⟨ret_int (by rw [hE.out, if_pos (by simp)]), hB02.out⟩
     | true =>
      have hE := hE.out
      simp only [Bool.true_eq_false, false_or] at hE
      replace hE := hid hE
      by_cases ht0 : tg = []
      ·rw [decide_eq_true ht0] at hte
       have hl1 : tg.length = 0 := by rw [ht0]; rfl
       replace ht0 := hid ht0
       replace hl1 := hid hl1
       by_cases hs0 : sm = []
       ·rw [decide_eq_true hs0] at hse
        have hl2 : sm.length = 0 := by rw [hs0]; rfl
        replace hs0 := hid hs0
        replace hl2 := hid hl2
        go_enter Tryz.func70, Tryz.ntmps70
        go_wp2_with fail
        (with_reducible refine (h1.out _).mono ?_)
        rintro e w1 ⟨rfl, hB1⟩
        have hblk1 := (hB1.block _ (Array.getElem?_eq_some_iff.1 hblk.out).1).trans hblk.out
        have e0 := cell_of (j := 0) hblk1 (v := .string (mkS p)) rfl
        have d1 := cell_of (j := 1) hblk1 rfl
        have d2 := cell_of (j := 2) hblk1 (v := .int .i64 sz) rfl
        have d3 := cell_of (j := 3) hblk1 (v := .int .i64 m1) rfl
        have d4 := cell_of (j := 4) hblk1 (v := .int .i64 m2) rfl
        have d5 := cell_of (j := 5) hblk1 (v := .int .i64 m3) rfl
        have d6 := cell_of (j := 6) hblk1 (v := .int .i64 m4) rfl
        have d7 := cell_of (j := 7) hblk1 (v := .int .i64 m5) rfl
        have d8 := cell_of (j := 8) hblk1 (v := .string (mkS tg)) rfl
        have d9 := cell_of (j := 9) hblk1 (v := .string (mkS sm)) rfl
        have d10 := cell_of (j := 10) hblk1 (v := .int .i64 gr) rfl
        have hB01 := below_step hB.out hB1
        replace hblk1 := hid hblk1
        replace hB01 := hid hB01
        clear hB1 d0
        go_upto_region 3 with fail
        go_quiet (fail)
        go_wp2_with fail
        (with_reducible refine (hm.out _).mono ?_)
        rintro e w2 ⟨rfl, hB2⟩
        have hblk2 := (hB2.block _ (Array.getElem?_eq_some_iff.1 hblk1.out).1).trans hblk1.out
        have hB02 := below_step (below_drewN hB01.out _) hB2
        clear e0 d1 d2 d3 d4 d5 d6 d7 d8 d9 d10 hB2
        have d1 := cell_of (j := 1) hblk2 rfl
        have d2 := cell_of (j := 2) hblk2 (v := .int .i64 sz) rfl
        have d3 := cell_of (j := 3) hblk2 (v := .int .i64 m1) rfl
        have d4 := cell_of (j := 4) hblk2 (v := .int .i64 m2) rfl
        have d5 := cell_of (j := 5) hblk2 (v := .int .i64 m3) rfl
        have d6 := cell_of (j := 6) hblk2 (v := .int .i64 m4) rfl
        have d7 := cell_of (j := 7) hblk2 (v := .int .i64 m5) rfl
        have d8 := cell_of (j := 8) hblk2 (v := .string (mkS tg)) rfl
        have d9 := cell_of (j := 9) hblk2 (v := .string (mkS sm)) rfl
        have d10 := cell_of (j := 10) hblk2 (v := .int .i64 gr) rfl
        replace hblk2 := hid hblk2
        replace hB02 := hid hB02
        go_wp2
        all_goals
         go_ret
         refine ⟨ret_int ?_, hB02.out⟩
         have q1 := hl1.out
         have q2 := hl2.out
         rw [hE.out]
         (try simp only [bne_iff_ne, ne_eq, bne_eq_false_iff_eq] at *)
         first | (rw [if_pos (by omega)]; done) | (rw [if_neg (by omega)]; done)
       ·rw [decide_eq_false hs0] at hse
        have hl2 : sm.length ≠ 0 := fun h => hs0 (len_nil.2 h)
        replace hs0 := hid hs0
        replace hl2 := hid hl2
        go_enter Tryz.func70, Tryz.ntmps70
        go_wp2_with fail
        (with_reducible refine (h1.out _).mono ?_)
        rintro e w1 ⟨rfl, hB1⟩
        have hblk1 := (hB1.block _ (Array.getElem?_eq_some_iff.1 hblk.out).1).trans hblk.out
        have e0 := cell_of (j := 0) hblk1 (v := .string (mkS p)) rfl
        have d1 := cell_of (j := 1) hblk1 rfl
        have d2 := cell_of (j := 2) hblk1 (v := .int .i64 sz) rfl
        have d3 := cell_of (j := 3) hblk1 (v := .int .i64 m1) rfl
        have d4 := cell_of (j := 4) hblk1 (v := .int .i64 m2) rfl
        have d5 := cell_of (j := 5) hblk1 (v := .int .i64 m3) rfl
        have d6 := cell_of (j := 6) hblk1 (v := .int .i64 m4) rfl
        have d7 := cell_of (j := 7) hblk1 (v := .int .i64 m5) rfl
        have d8 := cell_of (j := 8) hblk1 (v := .string (mkS tg)) rfl
        have d9 := cell_of (j := 9) hblk1 (v := .string (mkS sm)) rfl
        have d10 := cell_of (j := 10) hblk1 (v := .int .i64 gr) rfl
        have hB01 := below_step hB.out hB1
        replace hblk1 := hid hblk1
        replace hB01 := hid hB01
        clear hB1 d0
        go_upto_region 3 with fail
        go_quiet (fail)
        go_wp2_with fail
        (with_reducible refine (hm.out _).mono ?_)
        rintro e w2 ⟨rfl, hB2⟩
        have hblk2 := (hB2.block _ (Array.getElem?_eq_some_iff.1 hblk1.out).1).trans hblk1.out
        have hB02 := below_step (below_drewN hB01.out _) hB2
        clear e0 d1 d2 d3 d4 d5 d6 d7 d8 d9 d10 hB2
        have d1 := cell_of (j := 1) hblk2 rfl
        have d2 := cell_of (j := 2) hblk2 (v := .int .i64 sz) rfl
        have d3 := cell_of (j := 3) hblk2 (v := .int .i64 m1) rfl
        have d4 := cell_of (j := 4) hblk2 (v := .int .i64 m2) rfl
        have d5 := cell_of (j := 5) hblk2 (v := .int .i64 m3) rfl
        have d6 := cell_of (j := 6) hblk2 (v := .int .i64 m4) rfl
        have d7 := cell_of (j := 7) hblk2 (v := .int .i64 m5) rfl
        have d8 := cell_of (j := 8) hblk2 (v := .string (mkS tg)) rfl
        have d9 := cell_of (j := 9) hblk2 (v := .string (mkS sm)) rfl
        have d10 := cell_of (j := 10) hblk2 (v := .int .i64 gr) rfl
        replace hblk2 := hid hblk2
        replace hB02 := hid hB02
        go_wp2
        all_goals
         go_ret
         refine ⟨ret_int ?_, hB02.out⟩
         have q1 := hl1.out
         have q2 := hl2.out
         rw [hE.out]
         (try simp only [bne_iff_ne, ne_eq, bne_eq_false_iff_eq] at *)
         first | (rw [if_pos (by omega)]; done) | (rw [if_neg (by omega)]; done)
      ·rw [decide_eq_false ht0] at hte
       have hl1 : tg.length ≠ 0 := fun h => ht0 (len_nil.2 h)
       replace ht0 := hid ht0
       replace hl1 := hid hl1
       by_cases hs0 : sm = []
       ·rw [decide_eq_true hs0] at hse
        have hl2 : sm.length = 0 := by rw [hs0]; rfl
        replace hs0 := hid hs0
        replace hl2 := hid hl2
        go_enter Tryz.func70, Tryz.ntmps70
        go_wp2_with fail
        (with_reducible refine (h1.out _).mono ?_)
        rintro e w1 ⟨rfl, hB1⟩
        have hblk1 := (hB1.block _ (Array.getElem?_eq_some_iff.1 hblk.out).1).trans hblk.out
        have e0 := cell_of (j := 0) hblk1 (v := .string (mkS p)) rfl
        have d1 := cell_of (j := 1) hblk1 rfl
        have d2 := cell_of (j := 2) hblk1 (v := .int .i64 sz) rfl
        have d3 := cell_of (j := 3) hblk1 (v := .int .i64 m1) rfl
        have d4 := cell_of (j := 4) hblk1 (v := .int .i64 m2) rfl
        have d5 := cell_of (j := 5) hblk1 (v := .int .i64 m3) rfl
        have d6 := cell_of (j := 6) hblk1 (v := .int .i64 m4) rfl
        have d7 := cell_of (j := 7) hblk1 (v := .int .i64 m5) rfl
        have d8 := cell_of (j := 8) hblk1 (v := .string (mkS tg)) rfl
        have d9 := cell_of (j := 9) hblk1 (v := .string (mkS sm)) rfl
        have d10 := cell_of (j := 10) hblk1 (v := .int .i64 gr) rfl
        have hB01 := below_step hB.out hB1
        replace hblk1 := hid hblk1
        replace hB01 := hid hB01
        clear hB1 d0
        go_upto_region 3 with fail
        go_quiet (fail)
        go_wp2_with fail
        (with_reducible refine (hm.out _).mono ?_)
        rintro e w2 ⟨rfl, hB2⟩
        have hblk2 := (hB2.block _ (Array.getElem?_eq_some_iff.1 hblk1.out).1).trans hblk1.out
        have hB02 := below_step (below_drewN hB01.out _) hB2
        clear e0 d1 d2 d3 d4 d5 d6 d7 d8 d9 d10 hB2
        have d1 := cell_of (j := 1) hblk2 rfl
        have d2 := cell_of (j := 2) hblk2 (v := .int .i64 sz) rfl
        have d3 := cell_of (j := 3) hblk2 (v := .int .i64 m1) rfl
        have d4 := cell_of (j := 4) hblk2 (v := .int .i64 m2) rfl
        have d5 := cell_of (j := 5) hblk2 (v := .int .i64 m3) rfl
        have d6 := cell_of (j := 6) hblk2 (v := .int .i64 m4) rfl
        have d7 := cell_of (j := 7) hblk2 (v := .int .i64 m5) rfl
        have d8 := cell_of (j := 8) hblk2 (v := .string (mkS tg)) rfl
        have d9 := cell_of (j := 9) hblk2 (v := .string (mkS sm)) rfl
        have d10 := cell_of (j := 10) hblk2 (v := .int .i64 gr) rfl
        replace hblk2 := hid hblk2
        replace hB02 := hid hB02
        go_wp2
        all_goals
         go_ret
         refine ⟨ret_int ?_, hB02.out⟩
         have q1 := hl1.out
         have q2 := hl2.out
         rw [hE.out]
         (try simp only [bne_iff_ne, ne_eq, bne_eq_false_iff_eq] at *)
         first | (rw [if_pos (by omega)]; done) | (rw [if_neg (by omega)]; done)
       ·rw [decide_eq_false hs0] at hse
        have hl2 : sm.length ≠ 0 := fun h => hs0 (len_nil.2 h)
        replace hs0 := hid hs0
        replace hl2 := hid hl2
        go_enter Tryz.func70, Tryz.ntmps70
        go_wp2_with fail
        (with_reducible refine (h1.out _).mono ?_)
        rintro e w1 ⟨rfl, hB1⟩
        have hblk1 := (hB1.block _ (Array.getElem?_eq_some_iff.1 hblk.out).1).trans hblk.out
        have e0 := cell_of (j := 0) hblk1 (v := .string (mkS p)) rfl
        have d1 := cell_of (j := 1) hblk1 rfl
        have d2 := cell_of (j := 2) hblk1 (v := .int .i64 sz) rfl
        have d3 := cell_of (j := 3) hblk1 (v := .int .i64 m1) rfl
        have d4 := cell_of (j := 4) hblk1 (v := .int .i64 m2) rfl
        have d5 := cell_of (j := 5) hblk1 (v := .int .i64 m3) rfl
        have d6 := cell_of (j := 6) hblk1 (v := .int .i64 m4) rfl
        have d7 := cell_of (j := 7) hblk1 (v := .int .i64 m5) rfl
        have d8 := cell_of (j := 8) hblk1 (v := .string (mkS tg)) rfl
        have d9 := cell_of (j := 9) hblk1 (v := .string (mkS sm)) rfl
        have d10 := cell_of (j := 10) hblk1 (v := .int .i64 gr) rfl
        have hB01 := below_step hB.out hB1
        replace hblk1 := hid hblk1
        replace hB01 := hid hB01
        clear hB1 d0
        go_upto_region 3 with fail
        go_quiet (fail)
        go_wp2_with fail
        (with_reducible refine (hm.out _).mono ?_)
        rintro e w2 ⟨rfl, hB2⟩
        have hblk2 := (hB2.block _ (Array.getElem?_eq_some_iff.1 hblk1.out).1).trans hblk1.out
        have hB02 := below_step (below_drewN hB01.out _) hB2
        clear e0 d1 d2 d3 d4 d5 d6 d7 d8 d9 d10 hB2
        have d1 := cell_of (j := 1) hblk2 rfl
        have d2 := cell_of (j := 2) hblk2 (v := .int .i64 sz) rfl
        have d3 := cell_of (j := 3) hblk2 (v := .int .i64 m1) rfl
        have d4 := cell_of (j := 4) hblk2 (v := .int .i64 m2) rfl
        have d5 := cell_of (j := 5) hblk2 (v := .int .i64 m3) rfl
        have d6 := cell_of (j := 6) hblk2 (v := .int .i64 m4) rfl
        have d7 := cell_of (j := 7) hblk2 (v := .int .i64 m5) rfl
        have d8 := cell_of (j := 8) hblk2 (v := .string (mkS tg)) rfl
        have d9 := cell_of (j := 9) hblk2 (v := .string (mkS sm)) rfl
        have d10 := cell_of (j := 10) hblk2 (v := .int .i64 gr) rfl
        replace hblk2 := hid hblk2
        replace hB02 := hid hB02
        go_wp2
        all_goals
         go_ret
         refine ⟨ret_int ?_, hB02.out⟩
         have q1 := hl1.out
         have q2 := hl2.out
         rw [hE.out]
         (try simp only [bne_iff_ne, ne_eq, bne_eq_false_iff_eq] at *)
         first | (rw [if_pos (by omega)]; done) | (rw [if_neg (by omega)]; done)
    ·by_cases hk3 : kd = 3
     ·subst hk3
      have hE := k3.out rfl hp0 rfl
      replace hE := hid hE
      replace hp0 := hid hp0
      clear hk1 hk2
      cases mk with
      | false =>
       replace hte := hid hte
       replace hse := hid hse
       go_enter Tryz.func70, Tryz.ntmps70
       go_wp2_with fail
       (with_reducible refine (h1.out _).mono ?_)
       rintro e w1 ⟨rfl, hB1⟩
       have hblk1 := (hB1.block _ (Array.getElem?_eq_some_iff.1 hblk.out).1).trans hblk.out
       have e0 := cell_of (j := 0) hblk1 (v := .string (mkS p)) rfl
       have d1 := cell_of (j := 1) hblk1 rfl
       have d2 := cell_of (j := 2) hblk1 (v := .int .i64 sz) rfl
       have d3 := cell_of (j := 3) hblk1 (v := .int .i64 m1) rfl
       have d4 := cell_of (j := 4) hblk1 (v := .int .i64 m2) rfl
       have d5 := cell_of (j := 5) hblk1 (v := .int .i64 m3) rfl
       have d6 := cell_of (j := 6) hblk1 (v := .int .i64 m4) rfl
       have d7 := cell_of (j := 7) hblk1 (v := .int .i64 m5) rfl
       have d8 := cell_of (j := 8) hblk1 (v := .string (mkS tg)) rfl
       have d9 := cell_of (j := 9) hblk1 (v := .string (mkS sm)) rfl
       have d10 := cell_of (j := 10) hblk1 (v := .int .i64 gr) rfl
       have hB01 := below_step hB.out hB1
       replace hblk1 := hid hblk1
       replace hB01 := hid hB01
       clear hB1 d0
       go_upto_region 3 with fail
       go_quiet (fail)
       go_wp2_with fail
       (with_reducible refine (hm.out _).mono ?_)
       rintro e w2 ⟨rfl, hB2⟩
       have hB02 := below_step (below_drewN hB01.out _) hB2
       replace hB02 := hid hB02
       replace hB2 := hid hB2
       clear e0 d1 d2 d3 d4 d5 d6 d7 d8 d9 d10
       go_wp2
       go_ret
       exact ⟨ret_int (by rw [hE.out, if_pos (by simp)]), hB02.out⟩
      | true =>
       have hE := hE.out
       simp only [Bool.true_eq_false, false_or] at hE
       replace hE := hid hE
       by_cases ht0 : tg = []
       ·rw [decide_eq_true ht0] at hte
        have hl1 : tg.length = 0 := by rw [ht0]; rfl
        replace ht0 := hid ht0
        replace hl1 := hid hl1
        by_cases hs0 : sm = []
        ·rw [decide_eq_true hs0] at hse
         have hl2 : sm.length = 0 := by rw [hs0]; rfl
         replace hs0 := hid hs0
         replace hl2 := hid hl2
         go_enter Tryz.func70, Tryz.ntmps70
         go_wp2_with fail
         (with_reducible refine (h1.out _).mono ?_)
         rintro e w1 ⟨rfl, hB1⟩
         have hblk1 := (hB1.block _ (Array.getElem?_eq_some_iff.1 hblk.out).1).trans hblk.out
         have e0 := cell_of (j := 0) hblk1 (v := .string (mkS p)) rfl
         have d1 := cell_of (j := 1) hblk1 rfl
         have d2 := cell_of (j := 2) hblk1 (v := .int .i64 sz) rfl
         have d3 := cell_of (j := 3) hblk1 (v := .int .i64 m1) rfl
         have d4 := cell_of (j := 4) hblk1 (v := .int .i64 m2) rfl
         have d5 := cell_of (j := 5) hblk1 (v := .int .i64 m3) rfl
         have d6 := cell_of (j := 6) hblk1 (v := .int .i64 m4) rfl
         have d7 := cell_of (j := 7) hblk1 (v := .int .i64 m5) rfl
         have d8 := cell_of (j := 8) hblk1 (v := .string (mkS tg)) rfl
         have d9 := cell_of (j := 9) hblk1 (v := .string (mkS sm)) rfl
         have d10 := cell_of (j := 10) hblk1 (v := .int .i64 gr) rfl
         have hB01 := below_step hB.out hB1
         replace hblk1 := hid hblk1
         replace hB01 := hid hB01
         clear hB1 d0
         go_upto_region 3 with fail
         go_quiet (fail)
         go_wp2_with fail
         (with_reducible refine (hm.out _).mono ?_)
         rintro e w2 ⟨rfl, hB2⟩
         have hblk2 := (hB2.block _ (Array.getElem?_eq_some_iff.1 hblk1.out).1).trans hblk1.out
         have hB02 := below_step (below_drewN hB01.out _) hB2
         clear e0 d1 d2 d3 d4 d5 d6 d7 d8 d9 d10 hB2
         have d1 := cell_of (j := 1) hblk2 rfl
         have d2 := cell_of (j := 2) hblk2 (v := .int .i64 sz) rfl
         have d3 := cell_of (j := 3) hblk2 (v := .int .i64 m1) rfl
         have d4 := cell_of (j := 4) hblk2 (v := .int .i64 m2) rfl
         have d5 := cell_of (j := 5) hblk2 (v := .int .i64 m3) rfl
         have d6 := cell_of (j := 6) hblk2 (v := .int .i64 m4) rfl
         have d7 := cell_of (j := 7) hblk2 (v := .int .i64 m5) rfl
         have d8 := cell_of (j := 8) hblk2 (v := .string (mkS tg)) rfl
         have d9 := cell_of (j := 9) hblk2 (v := .string (mkS sm)) rfl
         have d10 := cell_of (j := 10) hblk2 (v := .int .i64 gr) rfl
         replace hblk2 := hid hblk2
         replace hB02 := hid hB02
         go_wp2
         all_goals
          go_ret
          refine ⟨ret_int ?_, hB02.out⟩
          have q1 := hl1.out
          have q2 := hl2.out
          rw [hE.out]
          (try simp only [bne_iff_ne, ne_eq, bne_eq_false_iff_eq] at *)
          first | (rw [if_pos (by omega)]; done) | (rw [if_neg (by omega)]; done)
        ·rw [decide_eq_false hs0] at hse
         have hl2 : sm.length ≠ 0 := fun h => hs0 (len_nil.2 h)
         replace hs0 := hid hs0
         replace hl2 := hid hl2
         go_enter Tryz.func70, Tryz.ntmps70
         go_wp2_with fail
         (with_reducible refine (h1.out _).mono ?_)
         rintro e w1 ⟨rfl, hB1⟩
         have hblk1 := (hB1.block _ (Array.getElem?_eq_some_iff.1 hblk.out).1).trans hblk.out
         have e0 := cell_of (j := 0) hblk1 (v := .string (mkS p)) rfl
         have d1 := cell_of (j := 1) hblk1 rfl
         have d2 := cell_of (j := 2) hblk1 (v := .int .i64 sz) rfl
         have d3 := cell_of (j := 3) hblk1 (v := .int .i64 m1) rfl
         have d4 := cell_of (j := 4) hblk1 (v := .int .i64 m2) rfl
         have d5 := cell_of (j := 5) hblk1 (v := .int .i64 m3) rfl
         have d6 := cell_of (j := 6) hblk1 (v := .int .i64 m4) rfl
         have d7 := cell_of (j := 7) hblk1 (v := .int .i64 m5) rfl
         have d8 := cell_of (j := 8) hblk1 (v := .string (mkS tg)) rfl
         have d9 := cell_of (j := 9) hblk1 (v := .string (mkS sm)) rfl
         have d10 := cell_of (j := 10) hblk1 (v := .int .i64 gr) rfl
         have hB01 := below_step hB.out hB1
         replace hblk1 := hid hblk1
         replace hB01 := hid hB01
         clear hB1 d0
         go_upto_region 3 with fail
         go_quiet (fail)
         go_wp2_with fail
         (with_reducible refine (hm.out _).mono ?_)
         rintro e w2 ⟨rfl, hB2⟩
         have hblk2 := (hB2.block _ (Array.getElem?_eq_some_iff.1 hblk1.out).1).trans hblk1.out
         have hB02 := below_step (below_drewN hB01.out _) hB2
         clear e0 d1 d2 d3 d4 d5 d6 d7 d8 d9 d10 hB2
         have d1 := cell_of (j := 1) hblk2 rfl
         have d2 := cell_of (j := 2) hblk2 (v := .int .i64 sz) rfl
         have d3 := cell_of (j := 3) hblk2 (v := .int .i64 m1) rfl
         have d4 := cell_of (j := 4) hblk2 (v := .int .i64 m2) rfl
         have d5 := cell_of (j := 5) hblk2 (v := .int .i64 m3) rfl
         have d6 := cell_of (j := 6) hblk2 (v := .int .i64 m4) rfl
         have d7 := cell_of (j := 7) hblk2 (v := .int .i64 m5) rfl
         have d8 := cell_of (j := 8) hblk2 (v := .string (mkS tg)) rfl
         have d9 := cell_of (j := 9) hblk2 (v := .string (mkS sm)) rfl
         have d10 := cell_of (j := 10) hblk2 (v := .int .i64 gr) rfl
         replace hblk2 := hid hblk2
         replace hB02 := hid hB02
         go_wp2
         all_goals
          go_ret
          refine ⟨ret_int ?_, hB02.out⟩
          have q1 := hl1.out
          have q2 := hl2.out
          rw [hE.out]
          (try simp only [bne_iff_ne, ne_eq, bne_eq_false_iff_eq] at *)
          first | (rw [if_pos (by omega)]; done) | (rw [if_neg (by omega)]; done)
       ·rw [decide_eq_false ht0] at hte
        have hl1 : tg.length ≠ 0 := fun h => ht0 (len_nil.2 h)
        replace ht0 := hid ht0
        replace hl1 := hid hl1
        by_cases hs0 : sm = []
        ·rw [decide_eq_true hs0] at hse
         have hl2 : sm.length = 0 := by rw [hs0]; rfl
         replace hs0 := hid hs0
         replace hl2 := hid hl2
         go_enter Tryz.func70, Tryz.ntmps70
         go_wp2_with fail
         (with_reducible refine (h1.out _).mono ?_)
         rintro e w1 ⟨rfl, hB1⟩
         have hblk1 := (hB1.block _ (Array.getElem?_eq_some_iff.1 hblk.out).1).trans hblk.out
         have e0 := cell_of (j := 0) hblk1 (v := .string (mkS p)) rfl
         have d1 := cell_of (j := 1) hblk1 rfl
         have d2 := cell_of (j := 2) hblk1 (v := .int .i64 sz) rfl
         have d3 := cell_of (j := 3) hblk1 (v := .int .i64 m1) rfl
         have d4 := cell_of (j := 4) hblk1 (v := .int .i64 m2) rfl
         have d5 := cell_of (j := 5) hblk1 (v := .int .i64 m3) rfl
         have d6 := cell_of (j := 6) hblk1 (v := .int .i64 m4) rfl
         have d7 := cell_of (j := 7) hblk1 (v := .int .i64 m5) rfl
         have d8 := cell_of (j := 8) hblk1 (v := .string (mkS tg)) rfl
         have d9 := cell_of (j := 9) hblk1 (v := .string (mkS sm)) rfl
         have d10 := cell_of (j := 10) hblk1 (v := .int .i64 gr) rfl
         have hB01 := below_step hB.out hB1
         replace hblk1 := hid hblk1
         replace hB01 := hid hB01
         clear hB1 d0
         go_upto_region 3 with fail
         go_quiet (fail)
         go_wp2_with fail
         (with_reducible refine (hm.out _).mono ?_)
         rintro e w2 ⟨rfl, hB2⟩
         have hblk2 := (hB2.block _ (Array.getElem?_eq_some_iff.1 hblk1.out).1).trans hblk1.out
         have hB02 := below_step (below_drewN hB01.out _) hB2
         clear e0 d1 d2 d3 d4 d5 d6 d7 d8 d9 d10 hB2
         have d1 := cell_of (j := 1) hblk2 rfl
         have d2 := cell_of (j := 2) hblk2 (v := .int .i64 sz) rfl
         have d3 := cell_of (j := 3) hblk2 (v := .int .i64 m1) rfl
         have d4 := cell_of (j := 4) hblk2 (v := .int .i64 m2) rfl
         have d5 := cell_of (j := 5) hblk2 (v := .int .i64 m3) rfl
         have d6 := cell_of (j := 6) hblk2 (v := .int .i64 m4) rfl
         have d7 := cell_of (j := 7) hblk2 (v := .int .i64 m5) rfl
         have d8 := cell_of (j := 8) hblk2 (v := .string (mkS tg)) rfl
         have d9 := cell_of (j := 9) hblk2 (v := .string (mkS sm)) rfl
         have d10 := cell_of (j := 10) hblk2 (v := .int .i64 gr) rfl
         replace hblk2 := hid hblk2
         replace hB02 := hid hB02
         go_wp2
         all_goals
          go_ret
          refine ⟨ret_int ?_, hB02.out⟩
          have q1 := hl1.out
          have q2 := hl2.out
          rw [hE.out]
          (try simp only [bne_iff_ne, ne_eq, bne_eq_false_iff_eq] at *)
          first | (rw [if_pos (by omega)]; done) | (rw [if_neg (by omega)]; done)
        ·rw [decide_eq_false hs0] at hse
         have hl2 : sm.length ≠ 0 := fun h => hs0 (len_nil.2 h)
         replace hs0 := hid hs0
         replace hl2 := hid hl2
         go_enter Tryz.func70, Tryz.ntmps70
         go_wp2_with fail
         (with_reducible refine (h1.out _).mono ?_)
         rintro e w1 ⟨rfl, hB1⟩
         have hblk1 := (hB1.block _ (Array.getElem?_eq_some_iff.1 hblk.out).1).trans hblk.out
         have e0 := cell_of (j := 0) hblk1 (v := .string (mkS p)) rfl
         have d1 := cell_of (j := 1) hblk1 rfl
         have d2 := cell_of (j := 2) hblk1 (v := .int .i64 sz) rfl
         have d3 := cell_of (j := 3) hblk1 (v := .int .i64 m1) rfl
         have d4 := cell_of (j := 4) hblk1 (v := .int .i64 m2) rfl
         have d5 := cell_of (j := 5) hblk1 (v := .int .i64 m3) rfl
         have d6 := cell_of (j := 6) hblk1 (v := .int .i64 m4) rfl
         have d7 := cell_of (j := 7) hblk1 (v := .int .i64 m5) rfl
         have d8 := cell_of (j := 8) hblk1 (v := .string (mkS tg)) rfl
         have d9 := cell_of (j := 9) hblk1 (v := .string (mkS sm)) rfl
         have d10 := cell_of (j := 10) hblk1 (v := .int .i64 gr) rfl
         have hB01 := below_step hB.out hB1
         replace hblk1 := hid hblk1
         replace hB01 := hid hB01
         clear hB1 d0
         go_upto_region 3 with fail
         go_quiet (fail)
         go_wp2_with fail
         (with_reducible refine (hm.out _).mono ?_)
         rintro e w2 ⟨rfl, hB2⟩
         have hblk2 := (hB2.block _ (Array.getElem?_eq_some_iff.1 hblk1.out).1).trans hblk1.out
         have hB02 := below_step (below_drewN hB01.out _) hB2
         clear e0 d1 d2 d3 d4 d5 d6 d7 d8 d9 d10 hB2
         have d1 := cell_of (j := 1) hblk2 rfl
         have d2 := cell_of (j := 2) hblk2 (v := .int .i64 sz) rfl
         have d3 := cell_of (j := 3) hblk2 (v := .int .i64 m1) rfl
         have d4 := cell_of (j := 4) hblk2 (v := .int .i64 m2) rfl
         have d5 := cell_of (j := 5) hblk2 (v := .int .i64 m3) rfl
         have d6 := cell_of (j := 6) hblk2 (v := .int .i64 m4) rfl
         have d7 := cell_of (j := 7) hblk2 (v := .int .i64 m5) rfl
         have d8 := cell_of (j := 8) hblk2 (v := .string (mkS tg)) rfl
         have d9 := cell_of (j := 9) hblk2 (v := .string (mkS sm)) rfl
         have d10 := cell_of (j := 10) hblk2 (v := .int .i64 gr) rfl
         replace hblk2 := hid hblk2
         replace hB02 := hid hB02
         go_wp2
         all_goals
          go_ret
          refine ⟨ret_int ?_, hB02.out⟩
          have q1 := hl1.out
          have q2 := hl2.out
          rw [hE.out]
          (try simp only [bne_iff_ne, ne_eq, bne_eq_false_iff_eq] at *)
          first | (rw [if_pos (by omega)]; done) | (rw [if_neg (by omega)]; done)
     ·have hE := kk.out rfl hp0 hk1 hk2 hk3
      have z1 : (kd == 1) = false := by simpa using hk1
      have z3 : (kd == 3) = false := by simpa using hk3
      have z2 : (kd != 2) = true := by simpa using hk2
      replace hE := hid hE
      replace hp0 := hid hp0
      replace hk1 := hid hk1
      replace hk2 := hid hk2
      replace hk3 := hid hk3
      replace hte := hid hte
      replace hse := hid hse
      go_enter Tryz.func70, Tryz.ntmps70
      go_wp2_with fail
      (with_reducible refine (h1.out _).mono ?_)
      rintro e w1 ⟨rfl, hB1⟩
      have hblk1 := (hB1.block _ (Array.getElem?_eq_some_iff.1 hblk.out).1).trans hblk.out
      have e0 := cell_of (j := 0) hblk1 (v := .string (mkS p)) rfl
      have d1 := cell_of (j := 1) hblk1 rfl
      have d2 := cell_of (j := 2) hblk1 (v := .int .i64 sz) rfl
      have d3 := cell_of (j := 3) hblk1 (v := .int .i64 m1) rfl
      have d4 := cell_of (j := 4) hblk1 (v := .int .i64 m2) rfl
      have d5 := cell_of (j := 5) hblk1 (v := .int .i64 m3) rfl
      have d6 := cell_of (j := 6) hblk1 (v := .int .i64 m4) rfl
      have d7 := cell_of (j := 7) hblk1 (v := .int .i64 m5) rfl
      have d8 := cell_of (j := 8) hblk1 (v := .string (mkS tg)) rfl
      have d9 := cell_of (j := 9) hblk1 (v := .string (mkS sm)) rfl
      have d10 := cell_of (j := 10) hblk1 (v := .int .i64 gr) rfl
      have hB01 := below_step hB.out hB1
      replace hblk1 := hid hblk1
      replace hB01 := hid hB01
      clear hB1 d0
      go_upto_region 3 with fail
      go_quiet (fail)
      go_wp2
      go_ret
      exact ⟨ret_int hE.out.symm, below_drewN hB01.out _⟩
end Go.Proofs.YtcjlfkklpghjbaaGreat

namespace Go.Proofs.YtcjlfkklpghjbaaGreat
open Go.RowKit
def entOk (x : Ent) : Bool := decide (x.path.length ≤ 600) && decide (x.target.length ≤ 600) && decide (x.sum.length ≤ 100)
def smallEs (l : List Ent) : Bool := l.all entOk && decide (l.length ≤ 60)
theorem smallEs_at {l : List Ent} (h : smallEs l = true) : l.length ≤ 60 ∧ ∀ x ∈ l, x.path.length ≤ 600 ∧ x.target.length ≤ 600 ∧ x.sum.length ≤ 100 := by
 unfold smallEs at h
 simp only [Bool.and_eq_true, decide_eq_true_eq, List.all_eq_true] at h
 refine ⟨h.2, fun a ha => ?_⟩
 have := h.1 a ha
 unfold entOk at this
 simp only [Bool.and_eq_true, decide_eq_true_eq] at this
 exact ⟨this.1.1, this.1.2, this.2⟩
theorem Ents.shape {W : World} {v : Value} {l : List Ent} (h : Ents W v l) : ∃ A c, v = .slice A l.length c ∧ l.length ≤ c ∧ c ≤ maxLen := by
 obtain ⟨A, c, h1, h2, h3, _⟩ := h
 exact ⟨A, c, h1, h2, h3⟩
/-- An entry's cells. -/
theorem Ents.at {W : World} {A : Option Addr} {n c : Nat} {l : List Ent} (h : Ents W (.slice A n c) l) {k : Nat} (hk : k < l.length) :
  ∃ g o, A = some ⟨g, o, none⟩ ∧ W.cell? ⟨g, o + k * 11, none⟩ = some (.string (mkS l[k].path)) ∧ W.cell? ⟨g, o + k * 11 + 1, none⟩ = some (.int .i64 l[k].kind) ∧ W.cell? ⟨g, o + k * 11 + 2, none⟩ = some (.int .i64 l[k].size) ∧ W.cell? ⟨g, o + k * 11 + 3, none⟩ = some (.int .i64 l[k].mt.mode) ∧ W.cell? ⟨g, o + k * 11 + 4, none⟩ = some (.int .i64 l[k].mt.sec) ∧ W.cell? ⟨g, o + k * 11 + 5, none⟩ = some (.int .i64 l[k].mt.nano) ∧ W.cell? ⟨g, o + k * 11 + 6, none⟩ = some (.int .i64 l[k].mt.uid) ∧ W.cell? ⟨g, o + k * 11 + 7, none⟩ = some (.int .i64 l[k].mt.gid) ∧ W.cell? ⟨g, o + k * 11 + 8, none⟩ = some (.string (mkS l[k].target)) ∧ W.cell? ⟨g, o + k * 11 + 9, none⟩ = some (.string (mkS l[k].sum)) ∧ W.cell? ⟨g, o + k * 11 + 10, none⟩ = some (.int .i64 l[k].group) := by
 obtain ⟨A', c', h1, h2, h3, h4⟩ := h
 cases h1
 obtain ⟨g, o, e, hc⟩ := h4 k hk
 exact ⟨g, o, e, hc 0 (by decide), hc 1 (by decide), hc 2 (by decide), hc 3 (by decide), hc 4 (by decide), hc 5 (by decide), hc 6 (by decide), hc 7 (by decide), hc 8 (by decide), hc 9 (by decide), hc 10 (by decide)⟩
/-- Where a path stands first. -/
def Found20 (l : List Ent) (p : Bytes) (w : World) (e : Ending) (w' : World) : Prop :=
  ((∃ (k : Nat) (hk : k < l.length), l[k].path = p ∧ e = .returned (.tuple #[.int .i64 k, .bool true])) ∨ ((∀ x ∈ l, x.path ≠ p) ∧ e = .returned (.tuple #[.int .i64 0, .bool false]))) ∧ w = w'
end Go.Proofs.YtcjlfkklpghjbaaGreat

namespace Go.Proofs.YtcjlfkklpghjbaaGreat
open Go.RowKit
/-- An entry of a map's literal at the operation. -/
theorem wp_insert {P : Program} (w : World) {ops : Array Oper} {rest : List Oper} {o : Oper} {a : Act} {Q : Exit → Act → World → Prop} (hg : o.guard = none) (m x v : Operand) (t : TypeId) (hop : o.op = Op.insert t m x v) (mv : Value) (key val : Value) (hm : a.eval m = mv) (hx : a.eval x = key) (hv : a.eval v = val) (w' : World)
  (hrun : (Instr.mapUpdate t mv key val).run P w = .ok () w') (hK : wpList P ops Q rest (a.put o.dst undef) w') : wpList P ops Q (o :: rest) a w := by
 refine wpList_plain hg fun K' hK' => ?_
 unfold Oper.wp
 simp [execOp, hop, hm, hx, hv, hrun, Result.andThen]
 exact hK' _ _ hK
set_option maxHeartbeats 1000000 in
set_option maxRecDepth 100000 in
theorem pless_calls (a b : ByteArray) (w : World) (ha : a.size ≤ 16777216) (hb : b.size ≤ 16777216) :
  Calls Tryz.prog 71 #[.string a, .string b] w fun e w' => e = .returned (.bool (lessP (bl a) (bl b))) ∧ Below w.heap.size w w' := by
 have h1 := fun W => split_calls a W ha
 have h2 := fun W => split_calls b W hb
 have hu : cmpP (bl a) (bl b) = cmpL (split (bl a)) (split (bl b)) := rfl
 have hl : lessP (bl a) (bl b) = decide (cmpP (bl a) (bl b) < 0) := rfl
 rw [hl]
 generalize cmpP (bl a) (bl b) = r at *
 generalize split (bl a) = x at *
 generalize split (bl b) = y at *
 replace h1 := hid h1
 replace h2 := hid h2
 replace hu := hid hu
 replace hl := hid hl
 go_enter Tryz.func71, Tryz.ntmps71
 go_wp2_with fail
 (with_reducible refine (h1.out _).mono ?_)
 rintro e w1 ⟨⟨v1, rfl, hO1⟩, hB1⟩
 go_wp2_with fail
 (with_reducible refine (h2.out _).mono ?_)
 rintro e w2 ⟨⟨v2, rfl, hO2⟩, hB2⟩
 have hc := slcompare_calls v1 v2 x y w2 (hO1.rd.below hB2) hO2.rd
 rw [← hu.out] at hc
 replace hc := hid hc
 clear hO1 hO2 h1 h2 hu
 go_wp2_with fail
 (with_reducible refine (hc.out).mono ?_)
 rintro e w3 ⟨rfl, rfl⟩
 go_wp2
 go_ret
 exact ⟨rfl, below_step hB1 hB2⟩
theorem under_dirs : Tryz.prog.underlying 115 = some (.map 9 4) := by kernel_rfl
theorem zero_bool (w : World) : (zeroValue 4).run Tryz.prog w = .ok (.bool false) w := by kernel_rfl
def dirsB (done : List Ent) : List Bytes := [] :: (done.filter fun y => decide (y.kind = 2)).map (·.path)
def dirsE (l : List Bytes) : List (Value × Value) := l.map fun p => (.string (mkS p), .bool true)
theorem dirsB_mem {done : List Ent} {up : Bytes} : up ∈ dirsB done ↔ dirIn done up = true := by
 unfold dirsB dirIn
 rw [List.mem_cons, Bool.or_eq_true, decide_eq_true_eq, List.any_eq_true]
 refine or_congr Iff.rfl ?_
 rw [List.mem_map]
 constructor
 ·rintro ⟨y, hy, rfl⟩
  obtain ⟨h1, h2⟩ := List.mem_filter.1 hy
  exact ⟨y, h1, by simpa using h2⟩
 ·rintro ⟨y, hy, h⟩
  simp only [Bool.and_eq_true, decide_eq_true_eq] at h
  exact ⟨y, List.mem_filter.2 ⟨hy, by simpa using h.2⟩, h.1⟩
theorem dirsB_dir {done : List Ent} {x : Ent} (h : x.kind = 2) : dirsB (done ++ [x]) = dirsB done ++ [x.path] := by
 unfold dirsB
 rw [List.filter_append, List.map_append, List.filter_cons_of_pos (by simpa using h)]
 rfl
theorem dirsB_other {done : List Ent} {x : Ent} (h : x.kind ≠ 2) : dirsB (done ++ [x]) = dirsB done := by
 unfold dirsB
 rw [List.filter_append, List.filter_cons_of_neg (by simpa using h)]
 simp
theorem string_key (W : World) (s : ByteArray) (l : List Bytes) : Keyable Tryz.prog 9 W (.string s) ((dirsE l).map (·.1)) :=
 keyable_string Tryz.underlying9 W s (fun v hv => by
  unfold dirsE at hv
  rw [List.map_map] at hv
  obtain ⟨p, _, rfl⟩ := List.mem_map.1 hv
  exact ⟨_, rfl⟩)
theorem dirs_look {W : World} {db : Nat} {done : List Ent} (up : Bytes) (h : MapIs W db (dirsE (dirsB done))) :
  (Instr.lookup 115 (.map (some db)) (.string (mkS up)) false).run Tryz.prog W = .ok (.bool (dirIn done up)) W := by
 by_cases hd : dirIn done up = true
 ·have := h.look_hit under_dirs (string_key W (mkS up) _) (v := .bool true) (List.mem_map.2 ⟨up, dirsB_mem.2 hd, rfl⟩) false
  rw [hd]
  exact this
 ·have := h.look_miss under_dirs (string_key W (mkS up) _) (fun q hq e => by
   obtain ⟨p, hp, rfl⟩ := List.mem_map.1 hq
   simp only [Value.string.injEq] at e
   rw [mkS_inj e] at hp
   exact hd (dirsB_mem.1 hp)) (zero_bool W) false
  rw [show dirIn done up = false by simpa using hd]
  exact this
theorem dirs_store {W : World} {db : Nat} {l : List Bytes} {p : Bytes} (h : MapIs W db (dirsE l)) (hp : p ∉ l) :
  ∃ W', (Instr.mapUpdate 115 (.map (some db)) (.string (mkS p)) (.bool true)).run Tryz.prog W = .ok () W' ∧ MapIs W' db (dirsE (l ++ [p])) ∧ W.grownBy W' (some db) := by
 obtain ⟨W', h1, h2, h3⟩ := h.store_new under_dirs (v := .bool true) (string_key W (mkS p) _) (fun q hq e => by
  obtain ⟨p', hp', rfl⟩ := List.mem_map.1 hq
  simp only [Value.string.injEq] at e
  rw [mkS_inj e] at hp'
  exact hp hp')
 refine ⟨W', h1, h2.perm ?_, h3.grown⟩
 unfold dirsE
 rw [List.map_append]
 exact List.perm_append_singleton _ _
theorem stepE_ent {done : List Ent} {x : Ent} (h : entE x ≠ 0) : stepE done x = entE x := if_pos h
theorem stepE_same {done : List Ent} {x y : Ent} (h : entE x = 0) (hl : done.getLast? = some y) (he : x.path = y.path) : stepE done x = 11 := by
 unfold stepE
 rw [if_neg (by simp [h]), hl]
 exact if_pos he
theorem stepE_less {done : List Ent} {x y : Ent} (h : entE x = 0) (hl : done.getLast? = some y) (he : x.path ≠ y.path) (hk : lessP x.path y.path = true) : stepE done x = 3 := by
 unfold stepE
 rw [if_neg (by simp [h]), hl]
 dsimp only
 rw [if_neg he, if_pos hk]
theorem stepE_rest {done : List Ent} {x : Ent} (h : entE x = 0) (H : ∀ y, done.getLast? = some y → x.path ≠ y.path ∧ lessP x.path y.path = false) : stepE done x = if dirIn done (parent x.path) = false then 12 else if mostG done + 1 < x.group then 5 else 0 := by
 unfold stepE
 rw [if_neg (by simp [h])]
 cases hl : done.getLast? with
 | none => rfl
 | some y =>
  obtain ⟨h1, h2⟩ := H y hl
  dsimp only
  rw [if_neg h1, if_neg (by simp [h2])]
theorem take_last {l : List Ent} {k : Nat} (hk : k ≤ l.length) (h0 : 0 < k) : (l.take k).getLast? = some (l[k - 1]'(by omega)) := by
 have h1 : l.take k = l.take (k - 1) ++ [l[k - 1]'(by omega)] := by
  have := List.take_succ_eq_append_getElem (l := l) (i := k - 1) (by omega)
  rwa [Nat.sub_add_cancel h0] at this
 rw [h1]
 exact List.getLast?_concat ..
theorem mx_is (a b : Int) : mx a b = max a b := by unfold mx; split <;> omega
theorem mostG_pos (l : List Ent) : 0 ≤ mostG l := by
 refine snoc_rec (C := fun l => 0 ≤ mostG l) (by simp [mostG]) (fun l x h => ?_) l
 rw [mostG_snoc]
 omega
set_option maxHeartbeats 8000000 in
set_option maxRecDepth 100000 in
theorem fcheck_calls (v : Value) (l : List Ent) (w : World) (hv : Ents w v l) (hs : smallEs l = true) :
  Calls Tryz.prog 29 #[v] w fun e w' => e = .returned (.int .i64 (chk l)) ∧ Below w.heap.size w w' := by
 obtain ⟨A, c, rfl, h2, h3⟩ := hv.shape
 obtain ⟨hl60, hsm⟩ := smallEs_at hs
 unfold maxLen at h3
 have hmk := @run_makeMap Tryz.prog
 have hm0 := mapIs_made w
 have hB0 : Below w.heap.size w (w.alloc (.map #[] 0)) := below_alloc (Below.refl _ _) _
 obtain ⟨w1, hst, hm1, hg1⟩ := dirs_store (l := []) (p := []) hm0 (by simp)
 have hB1 : Below w.heap.size w w1 := hB0.grown hg1 hB0.size (fun k hk => by cases hk; exact Nat.le_refl _)
 rw [show mkS [] = ⟨#[]⟩ from rfl] at hst
 replace hv := hid hv
 replace hm0 := hid hm0
 replace hB0 := hid hB0
 replace hst := hid hst
 replace hm1 := hid hm1
 replace hB1 := hid hB1
 replace hsm := hid hsm
 replace hs := hid hs
 clear hg1
 go_enter Tryz.func29, Tryz.ntmps29
 go_wp2_with (refine wp_insert _ rfl _ _ _ 115 rfl (.map (some w.heap.size)) (.string ⟨#[]⟩) (.bool true) rfl rfl rfl w1 hst.out ?_)
 go_loopw [4, 12] (fun last i wr => ∃ k : Nat, i = .int .i64 k ∧ k ≤ l.length ∧ last = .int .i64 (mostG (l.take k)) ∧ mostG (l.take k) ≤ k ∧ chk l = chkFrom (l.take k) (l.drop k) ∧ ChkOk (l.take k) ∧ MapIs wr w.heap.size (dirsE (dirsB (l.take k))) ∧ Below w.heap.size w wr) (fun _ i _ => l.length - (intOf i).toNat)
 case atStart => exact ⟨0, rfl, Nat.zero_le _, rfl, by simp [mostG], chk_start l, chkOk_nil, hm1.out, hB1.out⟩
 case round =>
  clear hm1 hB1 hst hm0 hB0 hmk
  obtain ⟨k, rfl, hk, rfl, hmg, hck, hok, hM, hB⟩ := hrel
  have hmp := mostG_pos (l.take k)
  by_cases hlt : k < l.length
  ·obtain ⟨g, o, rfl, c0, c1, c2, c3, c4, c5, c6, c7, c8, c9, c10⟩ := (hv.out.below hB).at hlt
   have hstep := @chk_step l k hlt hck
   have hstop := @chk_stop l k hlt hck
   have htk : l.take (k + 1) = l.take k ++ [l[k]] := List.take_succ_eq_append_getElem hlt
   have hrest := @stepE_rest (l.take k) l[k]
   have hent := @stepE_ent (l.take k) l[k]
   have hsam := fun y => @stepE_same (l.take k) l[k] y
   have hles := fun y => @stepE_less (l.take k) l[k] y
   have hoks := @ChkOk.snoc (l.take k) l[k] hok
   have hnot : ∀ q ∈ dirsB (l.take k), l[k].path ≠ [] → (∀ z, (l.take k).getLast? = some z → l[k].path ≠ z.path ∧ lessP l[k].path z.path = false) → l[k].path ≠ q := fun q hq h0 hH e => by
    subst e
    rcases List.mem_cons.1 hq with h | h
    ·exact h0 h
    ·obtain ⟨z, hz, hze⟩ := List.mem_map.1 h
     have hz2 := (List.mem_filter.1 hz).1
     have hne : l.take k ≠ [] := List.ne_nil_of_mem hz2
     have hH2 := hH _ (List.getLast?_eq_some_getLast hne)
     have hr := hok.rise
     rw [← List.dropLast_concat_getLast hne] at hz2
     unfold Rise at hr
     rw [← List.dropLast_concat_getLast hne, List.pairwise_append] at hr
     rcases List.mem_append.1 hz2 with h3 | h3
     ·have h4 := hr.2.2 z h3 _ (List.mem_singleton_self _)
      rw [hze, hH2.2] at h4
      cases h4
     ·rw [List.mem_singleton.1 h3] at hze
      exact hH2.1 hze.symm
   have hpne : entE l[k] = 0 → right l[k].path = true ∧ l[k].path ≠ [] := entE_path
   obtain ⟨hp1, hp2, hp3⟩ := hsm.out _ (List.getElem_mem hlt)
   have hal := fun W => alone_calls l[k] W (by omega) (by omega) (by omega)
   generalize l[k] = x at *
   obtain ⟨p, kd, sz, ⟨m1, m2, m3, m4, m5⟩, tg, sm, gr⟩ := x
   unfold entV entCells at hal
   dsimp only at *
   generalize entE ⟨p, kd, sz, ⟨m1, m2, m3, m4, m5⟩, tg, sm, gr⟩ = ee at *
   have hB2 := below_alloc hB (.cells #[.string (mkS p), .int .i64 kd, .int .i64 sz, .int .i64 m1, .int .i64 m2, .int .i64 m3, .int .i64 m4, .int .i64 m5, .string (mkS tg), .string (mkS sm), .int .i64 gr] 45)
   have hBr := below_alloc (Below.refl wr.heap.size wr) (.cells #[.string (mkS p), .int .i64 kd, .int .i64 sz, .int .i64 m1, .int .i64 m2, .int .i64 m3, .int .i64 m4, .int .i64 m5, .string (mkS tg), .string (mkS sm), .int .i64 gr] 45)
   have hblk := (MapKept.heap_alloc wr (.cells #[.string (mkS p), .int .i64 kd, .int .i64 sz, .int .i64 m1, .int .i64 m2, .int .i64 m3, .int .i64 m4, .int .i64 m5, .string (mkS tg), .string (mkS sm), .int .i64 gr] 45)).1
   have hM2 := hM.of_block (hBr.block _ hM.lt)
   have hki : (k : Int) < (l.length : Int) := by omega
   generalize hdn : l.take k = done at *
   replace hM := hid hM
   replace hB := hid hB
   replace hstep := hid hstep
   replace hstop := hid hstop
   replace htk := hid htk
   replace hrest := hid hrest
   replace hent := hid hent
   replace hsam := hid hsam
   replace hles := hid hles
   replace hoks := hid hoks
   replace hnot := hid hnot
   replace hpne := hid hpne
   replace hal := hid hal
   replace hB2 := hid hB2
   replace hBr := hid hBr
   replace hblk := hid hblk
   replace hM2 := hid hM2
   replace hck := hid hck
   replace hok := hid hok
   replace hdn := hid hdn
   go_upto_region 6 with fail
   generalize wr.alloc (.cells #[.string (mkS p), .int .i64 kd, .int .i64 sz, .int .i64 m1, .int .i64 m2, .int .i64 m3, .int .i64 m4, .int .i64 m5, .string (mkS tg), .string (mkS sm), .int .i64 gr] 45) = W1 at *
   generalize hn1 : wr.heap.size = n1 at *
   replace hn1 := hid hn1
   have d0 := cell_of (j := 0) hblk.out rfl
   have d1 := cell_of (j := 1) hblk.out rfl
   have d2 := cell_of (j := 2) hblk.out rfl
   have d3 := cell_of (j := 3) hblk.out rfl
   have d4 := cell_of (j := 4) hblk.out rfl
   have d5 := cell_of (j := 5) hblk.out rfl
   have d6 := cell_of (j := 6) hblk.out rfl
   have d7 := cell_of (j := 7) hblk.out rfl
   have d8 := cell_of (j := 8) hblk.out rfl
   have d9 := cell_of (j := 9) hblk.out rfl
   have d10 := cell_of (j := 10) hblk.out rfl
   clear c0 c1 c2 c3 c4 c5 c6 c7 c8 c9 c10
   go_wp2_with fail
   (with_reducible refine (hal.out _).mono ?_)
   rintro e w2 ⟨rfl, hB12⟩
   have hblk2 := (hB12.block _ (Array.getElem?_eq_some_iff.1 hblk.out).1).trans hblk.out
   have hM3 := hM2.out.of_block (hB12.block _ hM2.out.lt)
   have hB02 := below_step hB2.out hB12
   clear d0 d1 d2 d3 d4 d5 d6 d7 d8 d9 d10
   replace hblk2 := hid hblk2
   replace hM3 := hid hM3
   replace hB02 := hid hB02
   clear hB12 hblk hM2 hB2
   by_cases he0 : ee = 0
   ·subst he0
    obtain ⟨hpr, hpn⟩ := hpne.out rfl
    have hpl := right_len hpr
    have hpz := mkS_size p
    have hpar := fun W => parent_calls (mkS p) W (by unfold maxLen; omega)
    rw [bl_mkS] at hpar
    replace hpr := hid hpr
    replace hpn := hid hpn
    replace hpar := hid hpar
    by_cases hk0 : k = 0
    ·have hz0 : decide (0 < k) = false := by simp; omega
     have hH : ∀ z, done.getLast? = some z → p ≠ z.path ∧ lessP p z.path = false := fun z hz => by
      rw [← hdn.out, hk0, List.take_zero] at hz
      cases hz
     replace hk0 := hid hk0
     replace hH := hid hH
     clear hsam hles
     go_upto_region 9 with fail
     go_quiet (fail)
     have hBa := below_drewN (Below.refl w2.heap.size w2) nq
     generalize w2.drewN nq = wa at *
     replace hBa := hid hBa
     go_upto_region 11 with fail
     go_quiet (fail)
     have hBz := below_step hBa.out (below_drewN (Below.refl wa.heap.size wa) nq)
     generalize wa.drewN nq = wz at *
     replace hBz := hid hBz
     clear hBa
     have hblkz := (hBz.out.block _ (Array.getElem?_eq_some_iff.1 hblk2.out).1).trans hblk2.out
     have hMz := hM3.out.of_block (hBz.out.block _ hM3.out.lt)
     have hB0z := below_step hB02.out hBz.out
     have hst := hrest.out (by simp) hH.out
     have hne := fun q hq => hnot.out q hq hpn.out hH.out
     have d0 := cell_of (j := 0) hblkz rfl
     have d1 := cell_of (j := 1) hblkz rfl
     have d10 := cell_of (j := 10) hblkz rfl
     have hlk := dirs_look (parent p) hMz
     cases hdi : dirIn done (parent p) with
     | false =>
      rw [hdi] at hlk
      rw [hdi, if_pos rfl] at hst
      have hfin := hstop.out (by rw [hst]; decide)
      rw [hst] at hfin
      replace hblkz := hid hblkz
      replace hMz := hid hMz
      replace hB0z := hid hB0z
      replace hst := hid hst
      replace hne := hid hne
      replace hlk := hid hlk
      replace hdi := hid hdi
      replace hfin := hid hfin
      go_wp2_with (first | (go_at_call 72; (with_reducible refine (hpar.out _).mono ?_); rintro e wx ⟨rfl, rfl⟩) | (at_lookup; refine wp_look _ rfl _ _ 115 false rfl (.map (some w.heap.size)) (.string (mkS (parent p))) _ rfl rfl hlk.out ?_))
      go_ret
      exact ⟨ret_int hfin.out.symm, hB0z.out⟩
     | true =>
      rw [hdi] at hlk
      rw [hdi, if_neg (by simp)] at hst
      have hw1 : IntKind.i64.wrap (mostG done + 1) = mostG done + 1 := IntWalk.i64_in _ (by omega)
      by_cases hgr : mostG done + 1 < gr
      ·rw [if_pos hgr] at hst
       have hfin := hstop.out (by rw [hst]; decide)
       rw [hst] at hfin
       replace hblkz := hid hblkz
       replace hMz := hid hMz
       replace hB0z := hid hB0z
       replace hst := hid hst
       replace hne := hid hne
       replace hlk := hid hlk
       replace hdi := hid hdi
       replace hfin := hid hfin
       go_wp2_with (first | (go_at_call 72; (with_reducible refine (hpar.out _).mono ?_); rintro e wx ⟨rfl, rfl⟩) | (at_lookup; refine wp_look _ rfl _ _ 115 false rfl (.map (some w.heap.size)) (.string (mkS (parent p))) _ rfl rfl hlk.out ?_))
       go_ret
       exact ⟨ret_int hfin.out.symm, hB0z.out⟩
      ·rw [if_neg hgr] at hst
       have hcn := hstep.out hst
       have hokn := hoks.out hst
       have hmn := mostG_snoc done ⟨p, kd, sz, ⟨m1, m2, m3, m4, m5⟩, tg, sm, gr⟩
       have hng : decide (mostG done + 1 < gr) = false := by simpa using hgr
       by_cases hk2 : kd = 2
       ·obtain ⟨w5, hsto, hM5, hg5⟩ := dirs_store hMz (p := p) (fun hq => hne p hq rfl)
        have hB5 := hB0z.grown hg5 hB0z.size (fun j hj => by cases hj; exact Nat.le_refl _)
        have hd2 := dirsB_dir (done := done) (x := ⟨p, kd, sz, ⟨m1, m2, m3, m4, m5⟩, tg, sm, gr⟩) hk2
        subst hk2
        replace hblkz := hid hblkz
        replace hMz := hid hMz
        replace hB0z := hid hB0z
        replace hst := hid hst
        replace hne := hid hne
        replace hlk := hid hlk
        replace hdi := hid hdi
        replace hcn := hid hcn
        replace hokn := hid hokn
        replace hmn := hid hmn
        replace hsto := hid hsto
        replace hM5 := hid hM5
        replace hB5 := hid hB5
        replace hd2 := hid hd2
        clear hg5
        go_wp2_with (first | (first | (go_at_call 72; (with_reducible refine (hpar.out _).mono ?_); rintro e wx ⟨rfl, rfl⟩) | (at_lookup; refine wp_look _ rfl _ _ 115 false rfl (.map (some w.heap.size)) (.string (mkS (parent p))) _ rfl rfl hlk.out ?_)) | (at_mapUpdate; refine wp_store _ rfl _ _ _ 115 rfl (.map (some w.heap.size)) (.string (mkS p)) (.bool true) rfl rfl rfl w5 hsto.out ?_))
        go_roundw
        case rel =>
         refine ⟨k + 1, by go_num, by omega, ?_, ?_, hcn.out, ?_, ?_, hB5.out⟩
         ·rw [htk.out, hmn.out]
          exact congrArg (Value.int .i64) (mx_is _ _)
         ·rw [htk.out, hmn.out]
          (try dsimp only)
          omega
         ·rw [htk.out]
          exact hokn.out
         ·rw [htk.out, hd2.out]
          exact hM5.out
        case measure => simp [intOf]; omega
       ·have hd2 := dirsB_other (done := done) (x := ⟨p, kd, sz, ⟨m1, m2, m3, m4, m5⟩, tg, sm, gr⟩) hk2
        have hk3 : (kd == 2) = false := by simpa using hk2
        replace hblkz := hid hblkz
        replace hMz := hid hMz
        replace hB0z := hid hB0z
        replace hst := hid hst
        replace hne := hid hne
        replace hlk := hid hlk
        replace hdi := hid hdi
        replace hcn := hid hcn
        replace hokn := hid hokn
        replace hmn := hid hmn
        replace hd2 := hid hd2
        replace hk2 := hid hk2
        go_wp2_with (first | (go_at_call 72; (with_reducible refine (hpar.out _).mono ?_); rintro e wx ⟨rfl, rfl⟩) | (at_lookup; refine wp_look _ rfl _ _ 115 false rfl (.map (some w.heap.size)) (.string (mkS (parent p))) _ rfl rfl hlk.out ?_))
        go_roundw
        case rel =>
         refine ⟨k + 1, by go_num, by omega, ?_, ?_, hcn.out, ?_, ?_, hB0z.out⟩
         ·rw [htk.out, hmn.out]
          exact congrArg (Value.int .i64) (mx_is _ _)
         ·rw [htk.out, hmn.out]
          (try dsimp only)
          omega
         ·rw [htk.out]
          exact hokn.out
         ·rw [htk.out, hd2.out]
          exact hMz.out
        case measure => simp [intOf]; omega
    ·have hz0 : decide (0 < k) = true := by simp; omega
     have hk1 : k - 1 < l.length := by omega
     have hlast := take_last (l := l) (k := k) (by omega) (by omega)
     rw [hdn.out] at hlast
     obtain ⟨g2, o2, hgo, cy, hcy2⟩ := hv.out.at hk1
     clear hcy2
     obtain ⟨hy1, _, _⟩ := hsm.out _ (List.getElem_mem hk1)
     cases hgo
     generalize l[k - 1] = y at *
     have hyz := mkS_size y.path
     have hz1 : IntKind.i64.wrap ((k : Int) - 1) = ((k - 1 : Nat) : Int) := by rw [IntWalk.i64_in _ (by omega)]; omega
     obtain ⟨km, hkm⟩ : ∃ x, x = k - 1 := ⟨_, rfl⟩
     rw [← hkm] at hz1 cy
     have hkm1 : km < l.length := by omega
     have hkm2 : (0 : Int) ≤ (km : Int) := by omega
     have hkm3 : (km : Int) < (l.length : Int) := by omega
     have hbw : ∀ W, Below w2.heap.size w2 W → W.cell? ⟨g, o + km * 11, none⟩ = some (.string (mkS y.path)) ∧ W.cell? ⟨n1, 0, none⟩ = some (.string (mkS p)) := fun W hW =>
      ⟨((below_step hB02.out hW).cell (cell_lt cy)).trans cy, cell_of ((hW.block _ (Array.getElem?_eq_some_iff.1 hblk2.out).1).trans hblk2.out) rfl⟩
     have hls := fun W => pless_calls (mkS p) (mkS y.path) W (by omega) (by omega)
     rw [bl_mkS, bl_mkS] at hls
     have cn1 := fun n : Nat => (hbw (w2.drewN n) (below_drewN (Below.refl _ _) n)).1
     have cn2 := fun n : Nat => (hbw (w2.drewN n) (below_drewN (Below.refl _ _) n)).2
     replace hk0 := hid hk0
     replace hkm := hid hkm
     replace hlast := hid hlast
     replace hls := hid hls
     replace hbw := hid hbw
     clear cy
     by_cases hpy : p = y.path
     ·have t1 : ((mkS p).toList == (mkS y.path).toList) = true := strs_alike (by rw [hpy])
      have hst := hsam.out y (by simp) hlast.out hpy
      have hfin := hstop.out (by rw [hst]; decide)
      rw [hst] at hfin
      replace hpy := hid hpy
      replace hst := hid hst
      replace hfin := hid hfin
      go_upto_region 9 with fail
      go_quiet (fail)
      go_wp2
      go_ret
      exact ⟨ret_int hfin.out.symm, below_drewN hB02.out _⟩
     ·have t1 : ((mkS p).toList == (mkS y.path).toList) = false := strs_diff (fun e => hpy (mkS_inj e))
      replace hpy := hid hpy
      go_upto_region 9 with fail
      go_quiet (fail)
      have hBa := below_drewN (Below.refl w2.heap.size w2) nq
      have hga := fun x : Gr (w2.drewN nq) => (hbw.out x.1 (below_step hBa x.2)).1
      have hgb := fun x : Gr (w2.drewN nq) => (hbw.out x.1 (below_step hBa x.2)).2
      clear cn1 cn2
      generalize w2.drewN nq = wa at *
      replace hBa := hid hBa
      cases hlx : lessP p y.path with
      | true =>
       have hst := hles.out y (by simp) hlast.out hpy.out hlx
       have hfin := hstop.out (by rw [hst]; decide)
       rw [hst] at hfin
       rw [hlx] at hls
       replace hst := hid hst
       replace hfin := hid hfin
       replace hlx := hid hlx
       replace hls := hid hls
       go_upto_region 11 with fail
       refine wp_region_grow (by kernel_rfl) (by kernel_rfl) ?_
       repeat (any_goals (first | go_big_quiet_step ((go_at_call 71; exact grow_of _ (hls.out.out _))) | quiet_step ((go_at_call 71; exact grow_of _ (hls.out.out _)))))
       refine wpQuiet_nil ?_
       rintro w6 ⟨⟨_, hB6⟩, rfl⟩
       have hB06 := below_step hB02.out (below_step hBa.out hB6)
       replace hB06 := hid hB06
       clear hB6
       go_wp2
       go_ret
       exact ⟨ret_int hfin.out.symm, hB06.out⟩
      | false =>
       rw [hlx] at hls
       have hH : ∀ z, done.getLast? = some z → p ≠ z.path ∧ lessP p z.path = false := fun z hz => by
        rw [hlast.out] at hz
        cases hz
        exact ⟨hpy.out, hlx⟩
       replace hlx := hid hlx
       replace hls := hid hls
       replace hH := hid hH
       go_upto_region 11 with fail
       refine wp_region_grow (by kernel_rfl) (by kernel_rfl) ?_
       repeat (any_goals (first | go_big_quiet_step ((go_at_call 71; exact grow_of _ (hls.out.out _))) | quiet_step ((go_at_call 71; exact grow_of _ (hls.out.out _)))))
       refine wpQuiet_nil ?_
       rintro wz ⟨⟨_, hB6⟩, rfl⟩
       have hBz := below_step hBa.out hB6
       replace hBz := hid hBz
       clear hB6 hga hgb hz1 t1
       have hblkz := (hBz.out.block _ (Array.getElem?_eq_some_iff.1 hblk2.out).1).trans hblk2.out
       have hMz := hM3.out.of_block (hBz.out.block _ hM3.out.lt)
       have hB0z := below_step hB02.out hBz.out
       have hst := hrest.out (by simp) hH.out
       have hne := fun q hq => hnot.out q hq hpn.out hH.out
       have d0 := cell_of (j := 0) hblkz rfl
       have d1 := cell_of (j := 1) hblkz rfl
       have d10 := cell_of (j := 10) hblkz rfl
       have hlk := dirs_look (parent p) hMz
       cases hdi : dirIn done (parent p) with
       | false =>
        rw [hdi] at hlk
        rw [hdi, if_pos rfl] at hst
        have hfin := hstop.out (by rw [hst]; decide)
        rw [hst] at hfin
        replace hblkz := hid hblkz
        replace hMz := hid hMz
        replace hB0z := hid hB0z
        replace hst := hid hst
        replace hne := hid hne
        replace hlk := hid hlk
        replace hdi := hid hdi
        replace hfin := hid hfin
        go_wp2_with (first | (go_at_call 72; (with_reducible refine (hpar.out _).mono ?_); rintro e wx ⟨rfl, rfl⟩) | (at_lookup; refine wp_look _ rfl _ _ 115 false rfl (.map (some w.heap.size)) (.string (mkS (parent p))) _ rfl rfl hlk.out ?_))
        go_ret
        exact ⟨ret_int hfin.out.symm, hB0z.out⟩
       | true =>
        rw [hdi] at hlk
        rw [hdi, if_neg (by simp)] at hst
        have hw1 : IntKind.i64.wrap (mostG done + 1) = mostG done + 1 := IntWalk.i64_in _ (by omega)
        by_cases hgr : mostG done + 1 < gr
        ·rw [if_pos hgr] at hst
         have hfin := hstop.out (by rw [hst]; decide)
         rw [hst] at hfin
         replace hblkz := hid hblkz
         replace hMz := hid hMz
         replace hB0z := hid hB0z
         replace hst := hid hst
         replace hne := hid hne
         replace hlk := hid hlk
         replace hdi := hid hdi
         replace hfin := hid hfin
         go_wp2_with (first | (go_at_call 72; (with_reducible refine (hpar.out _).mono ?_); rintro e wx ⟨rfl, rfl⟩) | (at_lookup; refine wp_look _ rfl _ _ 115 false rfl (.map (some w.heap.size)) (.string (mkS (parent p))) _ rfl rfl hlk.out ?_))
         go_ret
         exact ⟨ret_int hfin.out.symm, hB0z.out⟩
        ·rw [if_neg hgr] at hst
         have hcn := hstep.out hst
         have hokn := hoks.out hst
         have hmn := mostG_snoc done ⟨p, kd, sz, ⟨m1, m2, m3, m4, m5⟩, tg, sm, gr⟩
         have hng : decide (mostG done + 1 < gr) = false := by simpa using hgr
         by_cases hk2 : kd = 2
         ·obtain ⟨w5, hsto, hM5, hg5⟩ := dirs_store hMz (p := p) (fun hq => hne p hq rfl)
          have hB5 := hB0z.grown hg5 hB0z.size (fun j hj => by cases hj; exact Nat.le_refl _)
          have hd2 := dirsB_dir (done := done) (x := ⟨p, kd, sz, ⟨m1, m2, m3, m4, m5⟩, tg, sm, gr⟩) hk2
          subst hk2
          replace hblkz := hid hblkz
          replace hMz := hid hMz
          replace hB0z := hid hB0z
          replace hst := hid hst
          replace hne := hid hne
          replace hlk := hid hlk
          replace hdi := hid hdi
          replace hcn := hid hcn
          replace hokn := hid hokn
          replace hmn := hid hmn
          replace hsto := hid hsto
          replace hM5 := hid hM5
          replace hB5 := hid hB5
          replace hd2 := hid hd2
          clear hg5
          go_wp2_with (first | (first | (go_at_call 72; (with_reducible refine (hpar.out _).mono ?_); rintro e wx ⟨rfl, rfl⟩) | (at_lookup; refine wp_look _ rfl _ _ 115 false rfl (.map (some w.heap.size)) (.string (mkS (parent p))) _ rfl rfl hlk.out ?_)) | (at_mapUpdate; refine wp_store _ rfl _ _ _ 115 rfl (.map (some w.heap.size)) (.string (mkS p)) (.bool true) rfl rfl rfl w5 hsto.out ?_))
          go_roundw
          case rel =>
           refine ⟨k + 1, by go_num, by omega, ?_, ?_, hcn.out, ?_, ?_, hB5.out⟩
           ·rw [htk.out, hmn.out]
            exact congrArg (Value.int .i64) (mx_is _ _)
           ·rw [htk.out, hmn.out]
            (try dsimp only)
            omega
           ·rw [htk.out]
            exact hokn.out
           ·rw [htk.out, hd2.out]
            exact hM5.out
          case measure => simp [intOf]; omega
         ·have hd2 := dirsB_other (done := done) (x := ⟨p, kd, sz, ⟨m1, m2, m3, m4, m5⟩, tg, sm, gr⟩) hk2
          have hk3 : (kd == 2) = false := by simpa using hk2
          replace hblkz := hid hblkz
          replace hMz := hid hMz
          replace hB0z := hid hB0z
          replace hst := hid hst
          replace hne := hid hne
          replace hlk := hid hlk
          replace hdi := hid hdi
          replace hcn := hid hcn
          replace hokn := hid hokn
          replace hmn := hid hmn
          replace hd2 := hid hd2
          replace hk2 := hid hk2
          go_wp2_with (first | (go_at_call 72; (with_reducible refine (hpar.out _).mono ?_); rintro e wx ⟨rfl, rfl⟩) | (at_lookup; refine wp_look _ rfl _ _ 115 false rfl (.map (some w.heap.size)) (.string (mkS (parent p))) _ rfl rfl hlk.out ?_))
          go_roundw
          case rel =>
           refine ⟨k + 1, by go_num, by omega, ?_, ?_, hcn.out, ?_, ?_, hB0z.out⟩
           ·rw [htk.out, hmn.out]
            exact congrArg (Value.int .i64) (mx_is _ _)
           ·rw [htk.out, hmn.out]
            (try dsimp only)
            omega
           ·rw [htk.out]
            exact hokn.out
           ·rw [htk.out, hd2.out]
            exact hMz.out
          case measure => simp [intOf]; omega
   ·have hee : (ee != 0) = true := by simpa using he0
    have hfin := hstop.out (by rw [hent.out he0]; exact he0)
    rw [hent.out he0] at hfin
    replace he0 := hid he0
    replace hfin := hid hfin
    go_wp2
    go_ret
    exact ⟨ret_int hfin.out.symm, hB02.out⟩
  ·obtain rfl : k = l.length := by omega
   have hz := chk_end hck
   replace hM := hid hM
   replace hok := hid hok
   replace hck := hid hck
   replace hz := hid hz
   replace hB := hid hB
   go_wp2
   go_ret
   exact ⟨ret_int hz.out.symm, hB.out⟩
end Go.Proofs.YtcjlfkklpghjbaaGreat

namespace Go.Proofs.YtcjlfkklpghjbaaGreat
open Go.RowKit
end Go.Proofs.YtcjlfkklpghjbaaGreat

namespace Go.Proofs.YtcjlfkklpghjbaaGreat
open Go.RowKit
end Go.Proofs.YtcjlfkklpghjbaaGreat

namespace Go.Proofs.YtcjlfkklpghjbaaGreat
open Go.RowKit
def zeroEnt : Ent := ⟨[], 0, 0, ⟨0, 0, 0, 0, 0⟩, [], [], 0⟩
def entOr (o : Option Ent) : Ent := o.getD zeroEnt
end Go.Proofs.YtcjlfkklpghjbaaGreat

namespace Go.Proofs.YtcjlfkklpghjbaaGreat
open Go.RowKit
theorem eql_mt (W : World) (a1 a2 a3 a4 a5 b1 b2 b3 b4 b5 : Int) :
  (binOp .eql 41 (.agg #[.int .i64 a1, .int .i64 a2, .int .i64 a3, .int .i64 a4, .int .i64 a5]) (.agg #[.int .i64 b1, .int .i64 b2, .int .i64 b3, .int .i64 b4, .int .i64 b5])).run Tryz.prog W = .ok (.bool (decide (a1 = b1 ∧ a2 = b2 ∧ a3 = b3 ∧ a4 = b4 ∧ a5 = b5))) W := by
 go_simp
 by_cases h1 : a1 = b1 <;> by_cases h2 : a2 = b2 <;> by_cases h3 : a3 = b3 <;> by_cases h4 : a4 = b4 <;> by_cases h5 : a5 = b5 <;> simp [h1, h2, h3, h4, h5]
end Go.Proofs.YtcjlfkklpghjbaaGreat

namespace Go.Proofs.YtcjlfkklpghjbaaGreat
open Go.RowKit
end Go.Proofs.YtcjlfkklpghjbaaGreat

namespace Go.Proofs.YtcjlfkklpghjbaaGreat
open Go.RowKit
def actRow (l : Acts44) : List Value := l.flatMap fun y => [.string (mkS y.1), .int .i64 y.2]
theorem actRow_append (l r : Acts44) : actRow (l ++ r) = actRow l ++ actRow r := by simp [actRow]
theorem actRow_at : ∀ (l : Acts44) (k : Nat) (y : Bytes × Int), l[k]? = some y → (actRow l)[k * 2]? = some (.string (mkS y.1)) ∧ (actRow l)[k * 2 + 1]? = some (.int .i64 y.2)
 | [], k, y, h => by simp at h
 | z :: l, 0, y, h => by
  simp only [List.getElem?_cons_zero, Option.some.injEq] at h
  subst h
  exact ⟨rfl, rfl⟩
 | z :: l, k + 1, y, h => by
  rw [List.getElem?_cons_succ] at h
  obtain ⟨h1, h2⟩ := actRow_at l k y h
  have e : actRow (z :: l) = [.string (mkS z.1), .int .i64 z.2] ++ actRow l := rfl
  rw [e, show (k + 1) * 2 = k * 2 + 2 by omega, show k * 2 + 2 + 1 = k * 2 + 1 + 2 by omega]
  exact ⟨by simpa using h1, by simpa using h2⟩
/-- v reads as the acts l. -/
def RdA (W : World) (v : Value) (l : Acts44) : Prop :=
  ∃ A c, v = .slice A l.length c ∧ l.length ≤ c ∧ c ≤ maxLen ∧ ∀ k (hk : k < l.length), ∃ g o, A = some ⟨g, o, none⟩ ∧ W.cell? ⟨g, o + k * 2, none⟩ = some (.string (mkS l[k].1)) ∧ W.cell? ⟨g, o + k * 2 + 1, none⟩ = some (.int .i64 l[k].2)
theorem RdA.shape {W : World} {v : Value} {l : Acts44} (h : RdA W v l) : ∃ A c, v = .slice A l.length c ∧ l.length ≤ c ∧ c ≤ maxLen := by
 obtain ⟨A, c, h1, h2, h3, _⟩ := h
 exact ⟨A, c, h1, h2, h3⟩
theorem RdA.at {W : World} {A : Option Addr} {n c : Nat} {l : Acts44} (h : RdA W (.slice A n c) l) {k : Nat} (hk : k < l.length) : ∃ g o, A = some ⟨g, o, none⟩ ∧ W.cell? ⟨g, o + k * 2, none⟩ = some (.string (mkS l[k].1)) ∧ W.cell? ⟨g, o + k * 2 + 1, none⟩ = some (.int .i64 l[k].2) := by
 obtain ⟨A', c', h1, _, _, h4⟩ := h
 cases h1
 exact h4 k hk
theorem RdA.below {W W' : World} {v : Value} {l : Acts44} (h : RdA W v l) (hb : Below W.heap.size W W') : RdA W' v l := by
 obtain ⟨A, c, h1, h2, h3, h4⟩ := h
 refine ⟨A, c, h1, h2, h3, fun k hk => ?_⟩
 obtain ⟨g, o, e, c1, c2⟩ := h4 k hk
 exact ⟨g, o, e, (hb.cell (cell_lt c1)).trans c1, (hb.cell (cell_lt c2)).trans c2⟩
theorem rda_own {W : World} {B : Nat} {t : TypeId} {v : Value} {l : Acts44} (h : W.ownsRow B t 2 v l.length (actRow l)) : RdA W v l := by
 obtain ⟨A, c, h1, h2, h3⟩ := own_shape h
 refine ⟨A, c, h1, h2, h3, fun k hk => ?_⟩
 obtain ⟨g, c', e, _, _, _, _, hc⟩ := own_at h (by omega)
 rw [h1] at e
 simp only [Value.slice.injEq] at e
 obtain ⟨e1, _⟩ := e
 obtain ⟨r1, r2⟩ := actRow_at l k _ (List.getElem?_eq_getElem hk)
 exact ⟨g, 0, e1, by rw [Nat.zero_add]; exact hc _ _ r1, by rw [Nat.zero_add]; exact hc _ _ r2⟩
end Go.Proofs.YtcjlfkklpghjbaaGreat

namespace Go.Proofs.YtcjlfkklpghjbaaGreat
open Go.RowKit
set_option linter.unusedSimpArgs false
set_option linter.unusedVariables false
theorem onHalf_one {f : Fs → Fs → Bytes → Fs × Int} {S : Fs × Fs} {q : Bytes} : onHalf f S (q, 1) = ((S.1, (f S.1 S.2 q).1), (f S.1 S.2 q).2) := rfl
theorem onHalf_two {f : Fs → Fs → Bytes → Fs × Int} {S : Fs × Fs} {q : Bytes} : onHalf f S (q, 2) = (((f S.2 S.1 q).1, S.2), (f S.2 S.1 q).2) := rfl
theorem onHalf_nil {f : Fs → Fs → Bytes → Fs × Int} {S : Fs × Fs} {q : Bytes} : onHalf f S (q, 0) = (S, 0) := rfl
theorem RRep.moved {w : World} {rb cb : Nat} {v : Value} {A : Nat → Nat} {T : Fs} {x : Value} {n : Int} (h : RRep w cb v A T) (hr : w.heap[rb]? = some (.cells #[x, .int .i64 n] 60 (0, 0))) (hne : ¬ ROwn cb v A T rb) :
  RRep ((w.setCell ⟨rb, 0, none⟩ v).setCell ⟨rb, 1, none⟩ (.int .i64 T.next)) rb v A T := by
 have h1 := heap_set_same hr 0 v
 have h2 := heap_set_same h1 1 (.int .i64 T.next)
 have hoth : ∀ b, b ≠ rb → ((w.setCell ⟨rb, 0, none⟩ v).setCell ⟨rb, 1, none⟩ (.int .i64 T.next)).heap[b]? = w.heap[b]? := fun b hb => (heap_set_other _ hb 1 _).trans (heap_set_other _ hb 0 _)
 refine ⟨h.inv, h2, own_blocks h.row fun g hg => hoth g ?_, fun i hi => ?_, h.injA⟩
 ·rintro rfl
  exact hne (Or.inr (Or.inl hg))
 ·obtain ⟨dv, hd, hn⟩ := h.node i hi
  refine ⟨dv, hd.kept fun g ⟨cs, hg⟩ => hoth g ?_, (hoth _ ?_).trans hn⟩
  ·rintro rfl
   rw [hr] at hg
   cases hg
  ·intro e
   exact hne (Or.inr (Or.inr ⟨i, hi, e.symm⟩))
theorem RRep.set_other {w : World} {cb x : Nat} {v : Value} {A : Nat → Nat} {T : Fs} {cs : Array Value} {t : TypeId} {f : Nat × Nat} (h : RRep w cb v A T) (hx : w.heap[x]? = some (.cells cs t f)) (ht : t ≠ 5) (hno : ¬ ROwn cb v A T x) (k : Nat) (u : Value) : RRep (w.setCell ⟨x, k, none⟩ u) cb v A T :=
 h.kept (fun b hb => heap_set_other w (by rintro rfl; exact hno hb) k u) (fun _ _ _ hd _ => hd.kept fun g ⟨cs', hg⟩ => heap_set_other w (fun e => by
  subst e
  rw [hx] at hg
  cases hg
  exact ht rfl) k u)
/-- Two structs moved over two others. -/
theorem RPair.moved {w : World} {lb rb ca cb B0 : Nat} {v u : Value} {A B : Nat → Nat} {S : Fs × Fs} {x y : Value} {n m : Int} (h : RPair w ca cb v u A B S) (hl : w.heap[lb]? = some (.cells #[x, .int .i64 n] 60 (0, 0))) (hr : w.heap[rb]? = some (.cells #[y, .int .i64 m] 60 (0, 0)))
  (hne : lb ≠ rb) (h1 : lb < B0) (h2 : rb < B0) (hlo : ∀ b, ROwn2 ca cb v u A B S b → B0 ≤ b) :
  RPair ((((w.setCell ⟨lb, 0, none⟩ v).setCell ⟨lb, 1, none⟩ (.int .i64 S.1.next)).setCell ⟨rb, 0, none⟩ u).setCell ⟨rb, 1, none⟩ (.int .i64 S.2.next)) lb rb v u A B S ∧ ∀ b, ROwn2 lb rb v u A B S b → b = lb ∨ b = rb ∨ B0 ≤ b := by
 have n1 : ¬ ROwn ca v A S.1 lb := fun k => by have := hlo lb (Or.inl k); omega
 have n2 : ¬ ROwn cb u B S.2 lb := fun k => by have := hlo lb (Or.inr k); omega
 have n3 : ¬ ROwn cb u B S.2 rb := fun k => by have := hlo rb (Or.inr k); omega
 have l1 := h.l.moved hl n1
 have e1 := heap_set_same hl 0 v
 have r1 := (h.r.set_other hl (by decide) n2 0 v).set_other e1 (by decide) n2 1 (.int .i64 S.1.next)
 have e2 := heap_set_same e1 1 (.int .i64 S.1.next)
 have q1 : ((w.setCell ⟨lb, 0, none⟩ v).setCell ⟨lb, 1, none⟩ (.int .i64 S.1.next)).heap[rb]? = some (.cells #[y, .int .i64 m] 60 (0, 0)) := ((heap_set_other _ (fun e => hne e.symm) 1 _).trans (heap_set_other _ (fun e => hne e.symm) 0 _)).trans hr
 have hol : ∀ b, ROwn lb v A S.1 b → b = lb ∨ ROwn ca v A S.1 b := fun b hb => by
  rcases hb with rfl | hb | hb
  ·exact Or.inl rfl
  ·exact Or.inr (Or.inr (Or.inl hb))
  ·exact Or.inr (Or.inr (Or.inr hb))
 have hor : ∀ b, ROwn rb u B S.2 b → b = rb ∨ ROwn cb u B S.2 b := fun b hb => by
  rcases hb with rfl | hb | hb
  ·exact Or.inl rfl
  ·exact Or.inr (Or.inr (Or.inl hb))
  ·exact Or.inr (Or.inr (Or.inr hb))
 have n4 : ¬ ROwn lb v A S.1 rb := fun k => by
  rcases hol rb k with e | k
  ·exact hne e.symm
  ·have := hlo rb (Or.inl k); omega
 have q2 := heap_set_same q1 0 u
 have l2 := (l1.set_other q1 (by decide) n4 0 u).set_other q2 (by decide) n4 1 (.int .i64 S.2.next)
 have r2 := r1.moved q1 n3
 refine ⟨⟨l2, r2, fun b hb ho => ?_⟩, fun b hb => ?_⟩
 ·rcases hol b hb with rfl | k1
  ·rcases hor b ho with e | k2
   ·exact hne e
   ·have := hlo b (Or.inr k2); omega
  ·rcases hor b ho with rfl | k2
   ·have := hlo b (Or.inl k1); omega
   ·exact h.apart b k1 k2
 ·rcases hb with hb | hb
  ·rcases hol b hb with e | k
   ·exact Or.inl e
   ·exact Or.inr (Or.inr (hlo b (Or.inl k)))
  ·rcases hor b hb with e | k
   ·exact Or.inr (Or.inl e)
   ·exact Or.inr (Or.inr (hlo b (Or.inr k)))
theorem turn_moved {w wr : World} (h : Below w.heap.size w wr) (lb rb : Nat) (a b c d : Value) : Turn w ((((wr.setCell ⟨lb, 0, none⟩ a).setCell ⟨lb, 1, none⟩ b).setCell ⟨rb, 0, none⟩ c).setCell ⟨rb, 1, none⟩ d) (fun x => x = lb ∨ x = rb) :=
 ⟨h.os, h.tape, h.output, by simp only [heap_set_size]; exact h.size, fun i hi hn => by
  have h1 : i ≠ lb := fun e => hn (Or.inl e)
  have h2 : i ≠ rb := fun e => hn (Or.inr e)
  exact (heap_set_other _ h2 1 d).trans ((heap_set_other _ h2 0 c).trans ((heap_set_other _ h1 1 b).trans ((heap_set_other _ h1 0 a).trans (h.block i hi))))⟩
theorem doF_end {S S2 : Fs × Fs} {l : Acts44} {ee : Int} {m : Nat} (hrun : runF outF l.reverse S = if ee ≠ 0 then (S2, ee) else runF outF (l.take m).reverse S2) (h : m = 0 ∨ ee ≠ 0) : doF S l = if ee ≠ 0 then (S2, ee) else runF overF (l.drop 0) S2 := by
 by_cases he : ee = 0
 ·subst he
  rw [if_neg (by simp)] at hrun ⊢
  have hm := h.resolve_right (fun h => h rfl)
  subst hm
  exact doF_on hrun
 ·rw [if_pos he] at hrun ⊢
  rw [doF_err (by rw [hrun]; exact he), hrun]
set_option maxHeartbeats 8000000 in
set_option maxRecDepth 100000 in
theorem refDo_calls (lb rb : Nat) (lv rv : Value) (A B : Nat → Nat) (S : Fs × Fs) (v : Value) (l : Acts44) (w0 w : World) (hw0 : Below w0.heap.size w0 w) (hP : RPair w lb rb lv rv A B S) (hlo : ∀ b, ROwn2 lb rb lv rv A B S b → w0.heap.size ≤ b) (hv : RdA w0 v l) (hpl : ∀ y ∈ l, y.1.length ≤ 16777216) (hll : l.length ≤ 1000) (hsm : Small2 (2 * l.length) S) :
  Calls Tryz.prog 10 #[ptr lb, ptr rb, v] w fun e w' => e = .returned (.int .i64 (doE S l).2) ∧ Below w0.heap.size w0 w' ∧ Turn w w' (fun b => b = lb ∨ b = rb) ∧ ∃ lv' rv' A' B', RPair w' lb rb lv' rv' A' B' (doE S l).1 ∧ ∀ b, ROwn2 lb rb lv' rv' A' B' (doE S l).1 b → w0.heap.size ≤ b := by
 obtain ⟨Ad, c, rfl, hc1, hc2⟩ := hv.shape
 unfold maxLen at hc2
 have hbad : ∀ k (hk : k < l.length), badTo l[k] = true → doE S l = (S, 2) := fun k hk h => by
  unfold doE
  rw [if_pos (List.any_eq_true.2 ⟨_, List.getElem_mem hk, h⟩)]
 have hgood : (∀ k (hk : k < l.length), badTo l[k] = false) → doE S l = if (doF S l).2 ≠ 0 then (S, (doF S l).2) else doF S l := fun h => by
  unfold doE
  rw [if_neg]
  intro hh
  obtain ⟨y, hy, hb⟩ := List.any_eq_true.1 hh
  obtain ⟨k, hk, rfl⟩ := List.mem_iff_getElem.1 hy
  rw [h k hk] at hb
  cases hb
 have hn1 : S.1.names.length ≤ 1000000 ∧ S.2.names.length ≤ 1000000 := by
  have h := hsm
  unfold Small2 at h
  omega
 have hcl := fun V hV => rcopy_calls lb lv A S.1 V hV hn1.1
 have hcr := fun V hV => rcopy_calls rb rv B S.2 V hV hn1.2
 unfold ptr at *
 replace hw0 := hid hw0
 replace hP := hid hP
 replace hlo := hid hlo
 replace hv := hid hv
 replace hpl := hid hpl
 replace hsm := hid hsm
 replace hbad := hid hbad
 replace hgood := hid hgood
 replace hcl := hid hcl
 replace hcr := hid hcr
 replace hn1 := hid hn1
 go_enter Tryz.func10, Tryz.ntmps10
 go_wp2_with fail
 go_loopw [7] (fun i wr => ∃ k : Nat, i = .int .i64 k ∧ k ≤ l.length ∧ (∀ j (hj : j < l.length), j < k → badTo l[j] = false) ∧ Below w.heap.size w wr) (fun i _ => l.length - (intOf i).toNat)
 case atStart => exact ⟨0, rfl, Nat.zero_le _, fun _ _ h => absurd h (Nat.not_lt_zero _), Below.refl _ _⟩
 case round =>
  obtain ⟨k, rfl, hk, hok, hB⟩ := hrel
  have hB0 : Below w0.heap.size w0 wr := below_step hw0.out hB
  by_cases hlt : k < l.length
  ·obtain ⟨g, o, rfl, c1, c2⟩ := (hv.out.below hB0).at hlt
   have hb1 := hbad.out k hlt
   have hstep : badTo l[k] = false → ∀ j (hj : j < l.length), j < k + 1 → badTo l[j] = false := fun h j hj hjk => by
    by_cases e : j = k
    ·subst e
     exact h
    ·exact hok j hj (by omega)
   generalize l[k] = y at *
   obtain ⟨q, t⟩ := y
   dsimp only at *
   have hbt : badTo (q, t) = (decide (t < 0) || decide (2 < t)) := rfl
   generalize badTo (q, t) = bt at *
   have hki : (k : Int) < (l.length : Int) := by omega
   replace hB := hid hB
   replace hB0 := hid hB0
   replace hb1 := hid hb1
   replace hstep := hid hstep
   replace hbt := hid hbt
   replace hok := hid hok
   by_cases h1 : t < 0
   ·have hz := hb1.out (by rw [hbt.out]; simp [h1])
    replace hz := hid hz
    go_wp2
    go_ret
    exact ⟨by rw [hz.out]; rfl, hB0.out, Turn.of_below hB.out _, by rw [hz.out]; exact ⟨_, _, _, _, hP.out.below hB.out, hlo.out⟩⟩
   ·by_cases h2 : 2 < t
    ·have hz := hb1.out (by rw [hbt.out]; simp [h2])
     replace hz := hid hz
     go_wp2
     go_ret
     exact ⟨by rw [hz.out]; rfl, hB0.out, Turn.of_below hB.out _, by rw [hz.out]; exact ⟨_, _, _, _, hP.out.below hB.out, hlo.out⟩⟩
    ·have hn := hstep.out (by rw [hbt.out]; simp [h1, h2])
     replace hn := hid hn
     go_wp2
     go_roundw
     case rel => exact ⟨k + 1, by go_num, by omega, hn.out, hB.out⟩
     case measure => simp [intOf]; omega
  ·obtain rfl : k = l.length := by omega
   have hto : ∀ k (hk : k < l.length), l[k].2 = 0 ∨ l[k].2 = 1 ∨ l[k].2 = 2 := fun k hk => by
    have := hok k hk hk
    unfold badTo at this
    simp only [Bool.or_eq_false_iff, decide_eq_false_iff_not] at this
    omega
   have hg := hgood.out (fun j hj => hok j hj hj)
   have hPc := hP.out.below hB
   obtain ⟨wc, rfl⟩ : ∃ wc : World, wc = wr := ⟨_, rfl⟩
   clear hok
   replace hg := hid hg
   replace hB := hid hB
   replace hB0 := hid hB0
   replace hto := hid hto
   replace hPc := hid hPc
   go_wp2_with fail
   (with_reducible refine (hcl.out _ hPc.out.l).mono ?_)
   rintro e w1 hn1
   obtain ⟨t1, v1, C1, rfl, hR1, hO1, hB1⟩ := hn1
   replace hR1 := hid hR1
   replace hO1 := hid hO1
   replace hB1 := hid hB1
   go_wp2_with fail
   (with_reducible refine (hcr.out _ (hPc.out.r.below hB1.out)).mono ?_)
   rintro e w2 hn2
   obtain ⟨t2, v2, C2, rfl, hR2, hO2, hB2⟩ := hn2
   have hBc : Below wc.heap.size wc w2 := below_step hB1.out hB2
   have hP2 : RPair w2 t1 t2 v1 v2 C1 C2 S := ⟨hR1.out.below hB2, hR2, fun b hb ho => by
    have h1 := hR1.out.lt hb
    have h2 := hO2 b ho
    omega⟩
   have hlow : ∀ b, ROwn2 t1 t2 v1 v2 C1 C2 S b → wc.heap.size ≤ b := fun b hb => by
    rcases hb with hb | hb
    ·exact hO1.out b hb
    ·exact Nat.le_trans hB1.out.size (hO2 b hb)
   unfold ptr at *
   replace hBc := hid hBc
   replace hP2 := hid hP2
   replace hlow := hid hlow
   clear hB2 hR2 hO2
   go_wp2_with fail
   go_loopw [10, 11] (fun ev i wr => ∃ (m : Nat) (j ee : Int) (S2 : Fs × Fs), ev = .int .i64 ee ∧ i = .int .i64 j ∧ j = (m : Int) - 1 ∧ m ≤ l.length ∧ (runF outF l.reverse S = if ee ≠ 0 then (S2, ee) else runF outF (l.take m).reverse S2) ∧ Small2 (l.length + m) S2 ∧ Below wc.heap.size wc wr ∧ ∃ v1 v2 C1 C2, RPair wr t1 t2 v1 v2 C1 C2 S2 ∧ ∀ b, ROwn2 t1 t2 v1 v2 C1 C2 S2 b → wc.heap.size ≤ b) (fun _ i _ => (intOf i + 1).toNat)
   case atStart => exact ⟨l.length, _, 0, S, rfl, rfl, by first | rfl | (rw [IntWalk.i64_in _ (by omega)]), Nat.le_refl _, by rw [if_neg (by simp), List.take_length], by have := hsm.out; unfold Small2 at this ⊢; omega, hBc.out, _, _, _, _, hP2.out, hlow.out⟩
   case round =>
    clear hBc hP2 hlow hR1 hO1 hB1
    obtain ⟨m, j, ee, S2, rfl, rfl, hj, hm, hrun, hs2, hBr, v1, v2, C1, C2, hPr, hlow⟩ := hrel
    have hB0r := below_step hB0.out hBr
    replace hrun := hid hrun
    replace hs2 := hid hs2
    replace hBr := hid hBr
    replace hPr := hid hPr
    replace hlow := hid hlow
    replace hB0r := hid hB0r
    replace hj := hid hj
    by_cases h0 : m = 0
    ·have hjn : ¬ (0 ≤ j) := by have := hj.out; omega
     replace h0 := hid h0
     have hend := doF_end hrun.out (Or.inl h0.out)
     have hs3 : Small2 l.length S2 ∨ ee ≠ 0 := Or.inl (by have := hs2.out; unfold Small2 at this ⊢; omega)
     replace hend := hid hend
     replace hs3 := hid hs3
     clear hB0r hs2 hrun
     go_wp2_with fail
     go_loopw [10, 12] (fun ev i wr => ∃ (m : Nat) (ee : Int) (S3 : Fs × Fs), ev = .int .i64 ee ∧ i = .int .i64 m ∧ m ≤ l.length ∧ (doF S l = if ee ≠ 0 then (S3, ee) else runF overF (l.drop m) S3) ∧ (Small2 (l.length - m) S3 ∨ ee ≠ 0) ∧ Below wc.heap.size wc wr ∧ ∃ v1 v2 C1 C2, RPair wr t1 t2 v1 v2 C1 C2 S3 ∧ ∀ b, ROwn2 t1 t2 v1 v2 C1 C2 S3 b → wc.heap.size ≤ b) (fun _ i _ => l.length - (intOf i).toNat)
     case atStart => exact ⟨0, ee, S2, rfl, rfl, Nat.zero_le _, hend.out, by rw [Nat.sub_zero]; exact hs3.out, hBr.out, _, _, _, _, hPr.out, hlow.out⟩
     case round =>
      clear hBr hPr hlow hend hs3
      obtain ⟨k, ee, S2, rfl, rfl, hk3, hrun3, hs3, hBr, v1, v2, C1, C2, hPr, hlow⟩ := hrel
      have hB0r := below_step hB0.out hBr
      replace hrun3 := hid hrun3
      replace hs3 := hid hs3
      replace hBr := hid hBr
      replace hPr := hid hPr
      replace hlow := hid hlow
      replace hB0r := hid hB0r
      by_cases hlt : k < l.length
      ·by_cases he0 : ee = 0
       ·subst he0
        have hrun2 := hrun3.out
        rw [if_neg (by simp), List.drop_eq_getElem_cons hlt] at hrun2
        have hsm5 : Small2 (l.length - (k + 1) + 1) S2 := by
         have h := hs3.out.resolve_right (fun h => h rfl)
         unfold Small2 at h ⊢
         omega
        have hs2 := hsm5
        replace hrun2 := hid hrun2
        replace hsm5 := hid hsm5
        replace hs2 := hid hs2
        clear hrun3 hs3
        obtain ⟨g, o, rfl, c1, c2⟩ := (hv.out.below hB0r.out).at hlt
        have htc := hto.out _ hlt
        have hql := hpl.out _ (List.getElem_mem hlt)
        generalize hyl : l[k] = y at *
        obtain ⟨q, t⟩ := y
        dsimp only at *
        have hnm : (S2.1.names.length ≤ 1000000 ∧ S2.1.next < 4611686018427387904) ∧ (S2.2.names.length ≤ 1000000 ∧ S2.2.next < 4611686018427387904) := by have h := hs2.out; unfold Small2 at h; omega
        have hki : (k : Int) < (l.length : Int) := by omega
        have hhalf := fun y => Small2.half grow_overF (hsm5.out) y
        replace hyl := hid hyl
        replace hql := hid hql
        replace hnm := hid hnm
        replace hhalf := hid hhalf
        rcases htc with rfl | rfl | rfl
        ·have hr2 := hrun2.out
         rw [runF_zero rfl, onHalf_nil] at hr2
         have hh := hhalf.out (q, 0)
         rw [onHalf_nil] at hh
         replace hr2 := hid hr2
         replace hh := hid hh
         go_wp2
         go_roundw
         case rel => exact ⟨k + 1, 0, _, rfl, by go_num, by omega, (by rw [if_neg (by simp)]; exact hr2.out), Or.inl hh.out, hBr.out, _, _, _, _, hPr.out, hlow.out⟩
         case measure => simp [intOf]; omega
        ·have hC := refone_calls t1 t2 v1 v2 C1 C2 S2.1 S2.2 q wr hPr.out.l hPr.out.r hPr.out.apart hql.out hnm.out.2.1 hnm.out.1.1 hnm.out.2.2
         have hr2 := hrun2.out
         rw [runF, onHalf_one] at hr2
         have hh := hhalf.out (q, 1)
         rw [onHalf_one] at hh
         generalize hfo : overF S2.1 S2.2 q = fo at *
         obtain ⟨T5, e5⟩ := fo
         dsimp only at hC hr2 hh
         unfold ptr at hC
         replace hr2 := hid hr2
         replace hC := hid hC
         replace hh := hid hh
         replace hfo := hid hfo
         go_wp2_with fail
         (with_reducible refine hC.out.mono ?_)
         rintro e w5 ⟨rfl, hS5'⟩
         obtain ⟨v5, u5, A5, B5, hP5, hT5, hO5⟩ := RStp2.ofRight hPr.out hS5'
         have hB5 := Turn.low hBr.out hT5 hlow.out
         have hlow5 : ∀ b, ROwn2 t1 t2 v5 u5 A5 B5 _ b → wc.heap.size ≤ b := fun b hb => (hO5 b hb).elim (hlow.out b) (fun h => Nat.le_trans hBr.out.size h)
         have hB05 := below_step hB0.out hB5
         replace hP5 := hid hP5
         replace hB5 := hid hB5
         replace hlow5 := hid hlow5
         replace hB05 := hid hB05
         clear hT5 hO5 hS5'
         obtain ⟨g', o', e', d1, d2⟩ := (hv.out.below hB05.out).at hlt
         cases e'
         rw [hyl.out] at d1 d2
         dsimp only at d1 d2
         clear c1 c2
         go_wp2
         go_roundw
         case rel => exact ⟨k + 1, e5, _, rfl, by go_num, by omega, hr2.out, Or.inl hh.out, hB5.out, _, _, _, _, hP5.out, hlow5.out⟩
         case measure => simp [intOf]; omega
        ·have hC := refone_calls t2 t1 v2 v1 C2 C1 S2.2 S2.1 q wr hPr.out.r hPr.out.l (fun b hb ho => hPr.out.apart b ho hb) hql.out hnm.out.1.1 hnm.out.2.1 hnm.out.1.2
         have hr2 := hrun2.out
         rw [runF, onHalf_two] at hr2
         have hh := hhalf.out (q, 2)
         rw [onHalf_two] at hh
         generalize hfo : overF S2.2 S2.1 q = fo at *
         obtain ⟨T5, e5⟩ := fo
         dsimp only at hC hr2 hh
         unfold ptr at hC
         replace hr2 := hid hr2
         replace hC := hid hC
         replace hh := hid hh
         replace hfo := hid hfo
         go_wp2_with fail
         (with_reducible refine hC.out.mono ?_)
         rintro e w5 ⟨rfl, hS5'⟩
         obtain ⟨v5, u5, A5, B5, hP5, hT5, hO5⟩ := RStp2.ofLeft hPr.out hS5'
         have hB5 := Turn.low hBr.out hT5 hlow.out
         have hlow5 : ∀ b, ROwn2 t1 t2 v5 u5 A5 B5 _ b → wc.heap.size ≤ b := fun b hb => (hO5 b hb).elim (hlow.out b) (fun h => Nat.le_trans hBr.out.size h)
         have hB05 := below_step hB0.out hB5
         replace hP5 := hid hP5
         replace hB5 := hid hB5
         replace hlow5 := hid hlow5
         replace hB05 := hid hB05
         clear hT5 hO5 hS5'
         go_wp2
         go_roundw
         case rel => exact ⟨k + 1, e5, _, rfl, by go_num, by omega, hr2.out, Or.inl hh.out, hB5.out, _, _, _, _, hP5.out, hlow5.out⟩
         case measure => simp [intOf]; omega
       ·have te0 : (ee == 0) = false := by simpa using he0
        have hki : (k : Int) < (l.length : Int) := by omega
        have hkn : ee = 0 → l.length ≤ k := fun h => absurd h he0
        replace he0 := hid he0
        replace hkn := hid hkn
        have te1 : (ee != 0) = true := by simpa using he0.out
        have hd : doF S l = (S2, ee) := by
         have h := hrun3.out
         rwa [if_pos he0.out] at h
        have hg2 := hg.out
        rw [hd, if_pos he0.out] at hg2
        replace hd := hid hd
        replace hg2 := hid hg2
        go_wp2
        go_ret
        exact ⟨by rw [hg2.out]; rfl, hB0r.out, Turn.of_below (below_step hB.out hBr.out) _, by rw [hg2.out]; exact ⟨_, _, _, _, hPc.out.below hBr.out, hlo.out⟩⟩
      ·have hkn : l.length ≤ k := by omega
       obtain rfl : k = l.length := by omega
       replace hkn := hid hkn
       by_cases he1 : ee = 0
       ·subst he1
        have hd : doF S l = (S2, 0) := by
         have h := hrun3.out
         rw [if_neg (by simp), List.drop_of_length_le hkn.out] at h
         exact h
        have hg2 := hg.out
        rw [hd, if_neg (by simp)] at hg2
        have hPo := hPc.out.below hBr.out
        have hltl := hPc.out.l.lt (Or.inl rfl)
        have hltr := hPc.out.r.lt (Or.inl rfl)
        have hlr : lb ≠ rb := fun e => hPc.out.apart lb (Or.inl rfl) (by rw [e]; exact Or.inl rfl)
        have hc1 := hlow.out t1 (Or.inl (Or.inl rfl))
        have hc2 := hlow.out t2 (Or.inr (Or.inl rfl))
        obtain ⟨hmv, hmo⟩ := RPair.moved hPr.out hPo.l.tree hPo.r.tree hlr hltl hltr hlow.out
        have hB1s := ((((hB0r.out.setCell (p := ⟨lb, 0, none⟩) (hlo.out lb (Or.inl (Or.inl rfl))) v1).setCell (p := ⟨lb, 1, none⟩) (hlo.out lb (Or.inl (Or.inl rfl))) (.int .i64 S2.1.next)).setCell (p := ⟨rb, 0, none⟩) (hlo.out rb (Or.inr (Or.inl rfl))) v2).setCell (p := ⟨rb, 1, none⟩) (hlo.out rb (Or.inr (Or.inl rfl))) (.int .i64 S2.2.next))
        have htu : Turn w ((((wr.setCell ⟨lb, 0, none⟩ v1).setCell ⟨lb, 1, none⟩ (.int .i64 S2.1.next)).setCell ⟨rb, 0, none⟩ v2).setCell ⟨rb, 1, none⟩ (.int .i64 S2.2.next)) (fun b => b = lb ∨ b = rb) := turn_moved (below_step hB.out hBr.out) lb rb v1 (.int .i64 S2.1.next) v2 (.int .i64 S2.2.next)
        have hmlo : ∀ b, ROwn2 lb rb v1 v2 C1 C2 S2 b → w0.heap.size ≤ b := fun b hb => by
         rcases hmo b hb with rfl | rfl | h
         ·exact hlo.out b (Or.inl (Or.inl rfl))
         ·exact hlo.out b (Or.inr (Or.inl rfl))
         ·exact Nat.le_trans hB0.out.size h
        have x0 := cell_of (j := 0) hPr.out.l.tree rfl
        have x1 := cell_of (j := 1) hPr.out.l.tree rfl
        have y0 := cell_of (j := 0) hPr.out.r.tree rfl
        have y1 := cell_of (j := 1) hPr.out.r.tree rfl
        have z0 := cell_of (j := 0) hPo.l.tree rfl
        have z1 := cell_of (j := 1) hPo.l.tree rfl
        have u0 := cell_of (j := 0) hPo.r.tree rfl
        have u1 := cell_of (j := 1) hPo.r.tree rfl
        have fl : ∀ j : Nat, wr.frozen? ⟨lb, j, none⟩ = false := fun j => by simp [World.frozen?, hPo.l.tree]
        have fr : ∀ j : Nat, wr.frozen? ⟨rb, j, none⟩ = false := fun j => by simp [World.frozen?, hPo.r.tree]
        obtain ⟨vA, vc, hve, hv1, hv2⟩ := own_shape hPr.out.l.row
        obtain ⟨uA, uc, hue, hu1, hu2⟩ := own_shape hPr.out.r.row
        subst hve hue
        have n1 : t1 ≠ lb := by omega
        have n2 : t2 ≠ lb := by omega
        have n3 : t2 ≠ rb := by omega
        have n4 : rb ≠ lb := fun e => hlr e.symm
        have hw1 : ∀ b, b ≠ lb → (((wr.setCell ⟨lb, 0, none⟩ (.slice vA S2.1.names.length vc)).setCell ⟨lb, 1, none⟩ (.int .i64 S2.1.next))).heap[b]? = wr.heap[b]? := fun b hb => (heap_set_other _ hb 1 _).trans (heap_set_other _ hb 0 _)
        have y0' := cell_of (j := 0) ((hw1 t2 n2).trans hPr.out.r.tree) rfl
        have y1' := cell_of (j := 1) ((hw1 t2 n2).trans hPr.out.r.tree) rfl
        have u0' := cell_of (j := 0) ((hw1 rb n4).trans hPo.r.tree) rfl
        have u1' := cell_of (j := 1) ((hw1 rb n4).trans hPo.r.tree) rfl
        have fr' : ∀ j : Nat, (((wr.setCell ⟨lb, 0, none⟩ (.slice vA S2.1.names.length vc)).setCell ⟨lb, 1, none⟩ (.int .i64 S2.1.next))).frozen? ⟨rb, j, none⟩ = false := fun j => by simp [World.frozen?, (hw1 rb n4).trans hPo.r.tree]
        replace hd := hid hd
        replace hg2 := hid hg2
        replace hPo := hid hPo
        replace hmv := hid hmv
        replace hmo := hid hmo
        replace hB1s := hid hB1s
        replace hmlo := hid hmlo
        replace hw1 := hid hw1
        replace hlr := hid hlr
        replace hrun3 := hid hrun3
        replace hs3 := hid hs3
        replace htu := hid htu
        go_upto_region 27 with fail
        clear x0 x1 y0 y1 z0 z1 u0 u1 fl fr
        obtain ⟨w9, hw9⟩ : ∃ w9, ((wr.setCell ⟨lb, 0, none⟩ (.slice vA S2.1.names.length vc)).setCell ⟨lb, 1, none⟩ (.int .i64 S2.1.next)) = w9 := ⟨_, rfl⟩
        replace hmv := hmv.out
        replace hB1s := hB1s.out
        replace htu := htu.out
        rw [hw9] at y0' y1' u0' u1' fr' hmv hB1s htu
        try rw [hw9]
        replace hmv := hid hmv
        replace hB1s := hid hB1s
        replace hw9 := hid hw9
        replace htu := hid htu
        go_wp2
        go_ret
        exact ⟨by rw [hg2.out]; rfl, hB1s.out, htu.out, by rw [hg2.out]; exact ⟨_, _, _, _, hmv.out, hmlo.out⟩⟩
       ·have te1 : (ee != 0) = true := by simpa using he1
        have hd : doF S l = (S2, ee) := by
         have h := hrun3.out
         rwa [if_pos he1] at h
        have hg2 := hg.out
        rw [hd, if_pos he1] at hg2
        replace hd := hid hd
        replace hg2 := hid hg2
        replace he1 := hid he1
        go_wp2
        go_ret
        exact ⟨by rw [hg2.out]; rfl, hB0r.out, Turn.of_below (below_step hB.out hBr.out) _, by rw [hg2.out]; exact ⟨_, _, _, _, hPc.out.below hBr.out, hlo.out⟩⟩
    ·obtain ⟨k, rfl⟩ : ∃ k, m = k + 1 := ⟨m - 1, by omega⟩
     obtain rfl : j = (k : Int) := by have := hj.out; omega
     by_cases he0 : ee = 0
     ·subst he0
      have hlt : k < l.length := hm
      have hrun2 := hrun.out
      rw [if_neg (by simp), take_reverse hlt] at hrun2
      have hsm5 : Small2 (l.length + k + 1) S2 := hs2.out
      replace hrun2 := hid hrun2
      replace hsm5 := hid hsm5
      obtain ⟨g, o, rfl, c1, c2⟩ := (hv.out.below hB0r.out).at hlt
      have htc := hto.out _ hlt
      have hql := hpl.out _ (List.getElem_mem hlt)
      generalize hyl : l[k] = y at *
      obtain ⟨q, t⟩ := y
      dsimp only at *
      have hnm : (S2.1.names.length ≤ 1000000 ∧ S2.1.next < 4611686018427387904) ∧ (S2.2.names.length ≤ 1000000 ∧ S2.2.next < 4611686018427387904) := by have h := hs2.out; unfold Small2 at h; omega
      have hki : (k : Int) < (l.length : Int) := by omega
      have hhalf := fun y => Small2.half grow_outF (hsm5.out) y
      replace hyl := hid hyl
      replace hql := hid hql
      replace hnm := hid hnm
      replace hhalf := hid hhalf
      rcases htc with rfl | rfl | rfl
      ·have hr2 := hrun2.out
       rw [runF_zero rfl, onHalf_nil] at hr2
       have hh := hhalf.out (q, 0)
       rw [onHalf_nil] at hh
       replace hr2 := hid hr2
       replace hh := hid hh
       go_wp2
       go_roundw
       case rel => exact ⟨k, _, 0, _, rfl, rfl, by first | rfl | omega | (rw [IntWalk.i64_in _ (by omega)]), by omega, (by rw [if_neg (by simp)]; exact hr2.out), hh.out, hBr.out, _, _, _, _, hPr.out, hlow.out⟩
       case measure => simp [intOf] <;> omega
      ·have hC := refaway_calls t1 t2 v1 v2 C1 C2 S2.1 S2.2 q wr hPr.out.l hPr.out.r hql.out hnm.out.2.1 hnm.out.1.1
       have hr2 := hrun2.out
       rw [runF, onHalf_one] at hr2
       have hh := hhalf.out (q, 1)
       rw [onHalf_one] at hh
       generalize hfo : outF S2.1 S2.2 q = fo at *
       obtain ⟨T5, e5⟩ := fo
       dsimp only at hC hr2 hh
       unfold ptr at hC
       replace hr2 := hid hr2
       replace hC := hid hC
       replace hh := hid hh
       replace hfo := hid hfo
       go_wp2_with fail
       (with_reducible refine hC.out.mono ?_)
       rintro e w5 ⟨rfl, hS5'⟩
       obtain ⟨v5, u5, A5, B5, hP5, hT5, hO5⟩ := RStp2.ofRight hPr.out hS5'
       have hB5 := Turn.low hBr.out hT5 hlow.out
       have hlow5 : ∀ b, ROwn2 t1 t2 v5 u5 A5 B5 _ b → wc.heap.size ≤ b := fun b hb => (hO5 b hb).elim (hlow.out b) (fun h => Nat.le_trans hBr.out.size h)
       have hB05 := below_step hB0.out hB5
       replace hP5 := hid hP5
       replace hB5 := hid hB5
       replace hlow5 := hid hlow5
       replace hB05 := hid hB05
       clear hT5 hO5 hS5'
       obtain ⟨g', o', e', d1, d2⟩ := (hv.out.below hB05.out).at hlt
       cases e'
       rw [hyl.out] at d1 d2
       dsimp only at d1 d2
       clear c1 c2
       go_wp2
       go_roundw
       case rel => exact ⟨k, _, e5, _, rfl, rfl, by first | rfl | omega | (rw [IntWalk.i64_in _ (by omega)]), by omega, hr2.out, hh.out, hB5.out, _, _, _, _, hP5.out, hlow5.out⟩
       case measure => simp [intOf] <;> omega
      ·have hC := refaway_calls t2 t1 v2 v1 C2 C1 S2.2 S2.1 q wr hPr.out.r hPr.out.l hql.out hnm.out.1.1 hnm.out.2.1
       have hr2 := hrun2.out
       rw [runF, onHalf_two] at hr2
       have hh := hhalf.out (q, 2)
       rw [onHalf_two] at hh
       generalize hfo : outF S2.2 S2.1 q = fo at *
       obtain ⟨T5, e5⟩ := fo
       dsimp only at hC hr2 hh
       unfold ptr at hC
       replace hr2 := hid hr2
       replace hC := hid hC
       replace hh := hid hh
       replace hfo := hid hfo
       go_wp2_with fail
       (with_reducible refine hC.out.mono ?_)
       rintro e w5 ⟨rfl, hS5'⟩
       obtain ⟨v5, u5, A5, B5, hP5, hT5, hO5⟩ := RStp2.ofLeft hPr.out hS5'
       have hB5 := Turn.low hBr.out hT5 hlow.out
       have hlow5 : ∀ b, ROwn2 t1 t2 v5 u5 A5 B5 _ b → wc.heap.size ≤ b := fun b hb => (hO5 b hb).elim (hlow.out b) (fun h => Nat.le_trans hBr.out.size h)
       have hB05 := below_step hB0.out hB5
       replace hP5 := hid hP5
       replace hB5 := hid hB5
       replace hlow5 := hid hlow5
       replace hB05 := hid hB05
       clear hT5 hO5 hS5'
       go_wp2
       go_roundw
       case rel => exact ⟨k, _, e5, _, rfl, rfl, by first | rfl | omega | (rw [IntWalk.i64_in _ (by omega)]), by omega, hr2.out, hh.out, hB5.out, _, _, _, _, hP5.out, hlow5.out⟩
       case measure => simp [intOf] <;> omega
     ·have te : (ee == 0) = false := by simpa using he0
      replace he0 := hid he0
      have hend := doF_end hrun.out (Or.inr he0.out)
      have hs3 : Small2 l.length S2 ∨ ee ≠ 0 := Or.inl (by have := hs2.out; unfold Small2 at this ⊢; omega)
      replace hend := hid hend
      replace hs3 := hid hs3
      clear hB0r hs2 hrun
      go_wp2_with fail
      go_loopw [10, 12] (fun ev i wr => ∃ (m : Nat) (ee : Int) (S3 : Fs × Fs), ev = .int .i64 ee ∧ i = .int .i64 m ∧ m ≤ l.length ∧ (doF S l = if ee ≠ 0 then (S3, ee) else runF overF (l.drop m) S3) ∧ (Small2 (l.length - m) S3 ∨ ee ≠ 0) ∧ Below wc.heap.size wc wr ∧ ∃ v1 v2 C1 C2, RPair wr t1 t2 v1 v2 C1 C2 S3 ∧ ∀ b, ROwn2 t1 t2 v1 v2 C1 C2 S3 b → wc.heap.size ≤ b) (fun _ i _ => l.length - (intOf i).toNat)
      case atStart => exact ⟨0, ee, S2, rfl, rfl, Nat.zero_le _, hend.out, by rw [Nat.sub_zero]; exact hs3.out, hBr.out, _, _, _, _, hPr.out, hlow.out⟩
      case round =>
       clear hBr hPr hlow hend hs3
       obtain ⟨k, ee, S2, rfl, rfl, hk3, hrun3, hs3, hBr, v1, v2, C1, C2, hPr, hlow⟩ := hrel
       have hB0r := below_step hB0.out hBr
       replace hrun3 := hid hrun3
       replace hs3 := hid hs3
       replace hBr := hid hBr
       replace hPr := hid hPr
       replace hlow := hid hlow
       replace hB0r := hid hB0r
       by_cases hlt : k < l.length
       ·by_cases he0 : ee = 0
        ·subst he0
         have hrun2 := hrun3.out
         rw [if_neg (by simp), List.drop_eq_getElem_cons hlt] at hrun2
         have hsm5 : Small2 (l.length - (k + 1) + 1) S2 := by
          have h := hs3.out.resolve_right (fun h => h rfl)
          unfold Small2 at h ⊢
          omega
         have hs2 := hsm5
         replace hrun2 := hid hrun2
         replace hsm5 := hid hsm5
         replace hs2 := hid hs2
         clear hrun3 hs3
         obtain ⟨g, o, rfl, c1, c2⟩ := (hv.out.below hB0r.out).at hlt
         have htc := hto.out _ hlt
         have hql := hpl.out _ (List.getElem_mem hlt)
         generalize hyl : l[k] = y at *
         obtain ⟨q, t⟩ := y
         dsimp only at *
         have hnm : (S2.1.names.length ≤ 1000000 ∧ S2.1.next < 4611686018427387904) ∧ (S2.2.names.length ≤ 1000000 ∧ S2.2.next < 4611686018427387904) := by have h := hs2.out; unfold Small2 at h; omega
         have hki : (k : Int) < (l.length : Int) := by omega
         have hhalf := fun y => Small2.half grow_overF (hsm5.out) y
         replace hyl := hid hyl
         replace hql := hid hql
         replace hnm := hid hnm
         replace hhalf := hid hhalf
         rcases htc with rfl | rfl | rfl
         ·have hr2 := hrun2.out
          rw [runF_zero rfl, onHalf_nil] at hr2
          have hh := hhalf.out (q, 0)
          rw [onHalf_nil] at hh
          replace hr2 := hid hr2
          replace hh := hid hh
          go_wp2
          go_roundw
          case rel => exact ⟨k + 1, 0, _, rfl, by go_num, by omega, (by rw [if_neg (by simp)]; exact hr2.out), Or.inl hh.out, hBr.out, _, _, _, _, hPr.out, hlow.out⟩
          case measure => simp [intOf]; omega
         ·have hC := refone_calls t1 t2 v1 v2 C1 C2 S2.1 S2.2 q wr hPr.out.l hPr.out.r hPr.out.apart hql.out hnm.out.2.1 hnm.out.1.1 hnm.out.2.2
          have hr2 := hrun2.out
          rw [runF, onHalf_one] at hr2
          have hh := hhalf.out (q, 1)
          rw [onHalf_one] at hh
          generalize hfo : overF S2.1 S2.2 q = fo at *
          obtain ⟨T5, e5⟩ := fo
          dsimp only at hC hr2 hh
          unfold ptr at hC
          replace hr2 := hid hr2
          replace hC := hid hC
          replace hh := hid hh
          replace hfo := hid hfo
          go_wp2_with fail
          (with_reducible refine hC.out.mono ?_)
          rintro e w5 ⟨rfl, hS5'⟩
          obtain ⟨v5, u5, A5, B5, hP5, hT5, hO5⟩ := RStp2.ofRight hPr.out hS5'
          have hB5 := Turn.low hBr.out hT5 hlow.out
          have hlow5 : ∀ b, ROwn2 t1 t2 v5 u5 A5 B5 _ b → wc.heap.size ≤ b := fun b hb => (hO5 b hb).elim (hlow.out b) (fun h => Nat.le_trans hBr.out.size h)
          have hB05 := below_step hB0.out hB5
          replace hP5 := hid hP5
          replace hB5 := hid hB5
          replace hlow5 := hid hlow5
          replace hB05 := hid hB05
          clear hT5 hO5 hS5'
          obtain ⟨g', o', e', d1, d2⟩ := (hv.out.below hB05.out).at hlt
          cases e'
          rw [hyl.out] at d1 d2
          dsimp only at d1 d2
          clear c1 c2
          go_wp2
          go_roundw
          case rel => exact ⟨k + 1, e5, _, rfl, by go_num, by omega, hr2.out, Or.inl hh.out, hB5.out, _, _, _, _, hP5.out, hlow5.out⟩
          case measure => simp [intOf]; omega
         ·have hC := refone_calls t2 t1 v2 v1 C2 C1 S2.2 S2.1 q wr hPr.out.r hPr.out.l (fun b hb ho => hPr.out.apart b ho hb) hql.out hnm.out.1.1 hnm.out.2.1 hnm.out.1.2
          have hr2 := hrun2.out
          rw [runF, onHalf_two] at hr2
          have hh := hhalf.out (q, 2)
          rw [onHalf_two] at hh
          generalize hfo : overF S2.2 S2.1 q = fo at *
          obtain ⟨T5, e5⟩ := fo
          dsimp only at hC hr2 hh
          unfold ptr at hC
          replace hr2 := hid hr2
          replace hC := hid hC
          replace hh := hid hh
          replace hfo := hid hfo
          go_wp2_with fail
          (with_reducible refine hC.out.mono ?_)
          rintro e w5 ⟨rfl, hS5'⟩
          obtain ⟨v5, u5, A5, B5, hP5, hT5, hO5⟩ := RStp2.ofLeft hPr.out hS5'
          have hB5 := Turn.low hBr.out hT5 hlow.out
          have hlow5 : ∀ b, ROwn2 t1 t2 v5 u5 A5 B5 _ b → wc.heap.size ≤ b := fun b hb => (hO5 b hb).elim (hlow.out b) (fun h => Nat.le_trans hBr.out.size h)
          have hB05 := below_step hB0.out hB5
          replace hP5 := hid hP5
          replace hB5 := hid hB5
          replace hlow5 := hid hlow5
          replace hB05 := hid hB05
          clear hT5 hO5 hS5'
          go_wp2
          go_roundw
          case rel => exact ⟨k + 1, e5, _, rfl, by go_num, by omega, hr2.out, Or.inl hh.out, hB5.out, _, _, _, _, hP5.out, hlow5.out⟩
          case measure => simp [intOf]; omega
        ·have te0 : (ee == 0) = false := by simpa using he0
         have hki : (k : Int) < (l.length : Int) := by omega
         have hkn : ee = 0 → l.length ≤ k := fun h => absurd h he0
         replace he0 := hid he0
         replace hkn := hid hkn
         have te1 : (ee != 0) = true := by simpa using he0.out
         have hd : doF S l = (S2, ee) := by
          have h := hrun3.out
          rwa [if_pos he0.out] at h
         have hg2 := hg.out
         rw [hd, if_pos he0.out] at hg2
         replace hd := hid hd
         replace hg2 := hid hg2
         go_wp2
         go_ret
         exact ⟨by rw [hg2.out]; rfl, hB0r.out, Turn.of_below (below_step hB.out hBr.out) _, by rw [hg2.out]; exact ⟨_, _, _, _, hPc.out.below hBr.out, hlo.out⟩⟩
       ·have hkn : l.length ≤ k := by omega
        obtain rfl : k = l.length := by omega
        replace hkn := hid hkn
        by_cases he1 : ee = 0
        ·subst he1
         have hd : doF S l = (S2, 0) := by
          have h := hrun3.out
          rw [if_neg (by simp), List.drop_of_length_le hkn.out] at h
          exact h
         have hg2 := hg.out
         rw [hd, if_neg (by simp)] at hg2
         have hPo := hPc.out.below hBr.out
         have hltl := hPc.out.l.lt (Or.inl rfl)
         have hltr := hPc.out.r.lt (Or.inl rfl)
         have hlr : lb ≠ rb := fun e => hPc.out.apart lb (Or.inl rfl) (by rw [e]; exact Or.inl rfl)
         have hc1 := hlow.out t1 (Or.inl (Or.inl rfl))
         have hc2 := hlow.out t2 (Or.inr (Or.inl rfl))
         obtain ⟨hmv, hmo⟩ := RPair.moved hPr.out hPo.l.tree hPo.r.tree hlr hltl hltr hlow.out
         have hB1s := ((((hB0r.out.setCell (p := ⟨lb, 0, none⟩) (hlo.out lb (Or.inl (Or.inl rfl))) v1).setCell (p := ⟨lb, 1, none⟩) (hlo.out lb (Or.inl (Or.inl rfl))) (.int .i64 S2.1.next)).setCell (p := ⟨rb, 0, none⟩) (hlo.out rb (Or.inr (Or.inl rfl))) v2).setCell (p := ⟨rb, 1, none⟩) (hlo.out rb (Or.inr (Or.inl rfl))) (.int .i64 S2.2.next))
         have htu : Turn w ((((wr.setCell ⟨lb, 0, none⟩ v1).setCell ⟨lb, 1, none⟩ (.int .i64 S2.1.next)).setCell ⟨rb, 0, none⟩ v2).setCell ⟨rb, 1, none⟩ (.int .i64 S2.2.next)) (fun b => b = lb ∨ b = rb) := turn_moved (below_step hB.out hBr.out) lb rb v1 (.int .i64 S2.1.next) v2 (.int .i64 S2.2.next)
         have hmlo : ∀ b, ROwn2 lb rb v1 v2 C1 C2 S2 b → w0.heap.size ≤ b := fun b hb => by
          rcases hmo b hb with rfl | rfl | h
          ·exact hlo.out b (Or.inl (Or.inl rfl))
          ·exact hlo.out b (Or.inr (Or.inl rfl))
          ·exact Nat.le_trans hB0.out.size h
         have x0 := cell_of (j := 0) hPr.out.l.tree rfl
         have x1 := cell_of (j := 1) hPr.out.l.tree rfl
         have y0 := cell_of (j := 0) hPr.out.r.tree rfl
         have y1 := cell_of (j := 1) hPr.out.r.tree rfl
         have z0 := cell_of (j := 0) hPo.l.tree rfl
         have z1 := cell_of (j := 1) hPo.l.tree rfl
         have u0 := cell_of (j := 0) hPo.r.tree rfl
         have u1 := cell_of (j := 1) hPo.r.tree rfl
         have fl : ∀ j : Nat, wr.frozen? ⟨lb, j, none⟩ = false := fun j => by simp [World.frozen?, hPo.l.tree]
         have fr : ∀ j : Nat, wr.frozen? ⟨rb, j, none⟩ = false := fun j => by simp [World.frozen?, hPo.r.tree]
         obtain ⟨vA, vc, hve, hv1, hv2⟩ := own_shape hPr.out.l.row
         obtain ⟨uA, uc, hue, hu1, hu2⟩ := own_shape hPr.out.r.row
         subst hve hue
         have n1 : t1 ≠ lb := by omega
         have n2 : t2 ≠ lb := by omega
         have n3 : t2 ≠ rb := by omega
         have n4 : rb ≠ lb := fun e => hlr e.symm
         have hw1 : ∀ b, b ≠ lb → (((wr.setCell ⟨lb, 0, none⟩ (.slice vA S2.1.names.length vc)).setCell ⟨lb, 1, none⟩ (.int .i64 S2.1.next))).heap[b]? = wr.heap[b]? := fun b hb => (heap_set_other _ hb 1 _).trans (heap_set_other _ hb 0 _)
         have y0' := cell_of (j := 0) ((hw1 t2 n2).trans hPr.out.r.tree) rfl
         have y1' := cell_of (j := 1) ((hw1 t2 n2).trans hPr.out.r.tree) rfl
         have u0' := cell_of (j := 0) ((hw1 rb n4).trans hPo.r.tree) rfl
         have u1' := cell_of (j := 1) ((hw1 rb n4).trans hPo.r.tree) rfl
         have fr' : ∀ j : Nat, (((wr.setCell ⟨lb, 0, none⟩ (.slice vA S2.1.names.length vc)).setCell ⟨lb, 1, none⟩ (.int .i64 S2.1.next))).frozen? ⟨rb, j, none⟩ = false := fun j => by simp [World.frozen?, (hw1 rb n4).trans hPo.r.tree]
         replace hd := hid hd
         replace hg2 := hid hg2
         replace hPo := hid hPo
         replace hmv := hid hmv
         replace hmo := hid hmo
         replace hB1s := hid hB1s
         replace hmlo := hid hmlo
         replace hw1 := hid hw1
         replace hlr := hid hlr
         replace hrun3 := hid hrun3
         replace hs3 := hid hs3
         replace htu := hid htu
         go_upto_region 27 with fail
         clear x0 x1 y0 y1 z0 z1 u0 u1 fl fr
         obtain ⟨w9, hw9⟩ : ∃ w9, ((wr.setCell ⟨lb, 0, none⟩ (.slice vA S2.1.names.length vc)).setCell ⟨lb, 1, none⟩ (.int .i64 S2.1.next)) = w9 := ⟨_, rfl⟩
         replace hmv := hmv.out
         replace hB1s := hB1s.out
         replace htu := htu.out
         rw [hw9] at y0' y1' u0' u1' fr' hmv hB1s htu
         try rw [hw9]
         replace hmv := hid hmv
         replace hB1s := hid hB1s
         replace hw9 := hid hw9
         replace htu := hid htu
         go_wp2
         go_ret
         exact ⟨by rw [hg2.out]; rfl, hB1s.out, htu.out, by rw [hg2.out]; exact ⟨_, _, _, _, hmv.out, hmlo.out⟩⟩
        ·have te1 : (ee != 0) = true := by simpa using he1
         have hd : doF S l = (S2, ee) := by
          have h := hrun3.out
          rwa [if_pos he1] at h
         have hg2 := hg.out
         rw [hd, if_pos he1] at hg2
         replace hd := hid hd
         replace hg2 := hid hg2
         replace he1 := hid he1
         go_wp2
         go_ret
         exact ⟨by rw [hg2.out]; rfl, hB0r.out, Turn.of_below (below_step hB.out hBr.out) _, by rw [hg2.out]; exact ⟨_, _, _, _, hPc.out.below hBr.out, hlo.out⟩⟩
end Go.Proofs.YtcjlfkklpghjbaaGreat

namespace Go.Proofs.YtcjlfkklpghjbaaGreat
open Go.RowKit Go.ChangeShapes Go.WideShapes Go.Deep
section
variable {H : Type} {enc : TypeId × Value → H} {W : World} {spare : Nat → Bool} {held : Bool}
set_option maxRecDepth 100000 in
theorem acts_of_cells {fuel : Nat} {cs : List Value} {x : DataW H × List MemPlace} (hf : DataW.trod enc Tryz.prog W 0 spare held fuel 22 cs = some x) : ∃ v l, cs = [v] ∧ Acts W v l := by
 rcases open_slice Tryz.underlying22 hf with ⟨e, _⟩ | ⟨a, len, cap, m, n, D, Pl, e, _, h1, h2, hm, _, hel⟩
 ·exact ⟨_, [], e, none, 0, rfl, Nat.le_refl _, Nat.zero_le _, fun k hk => by simp at hk⟩
 ·have hlm : len ≤ m := by rw [hm]; split <;> omega
  have k9 : Tryz.prog.cellsOf 43 = 9 := by kernel_rfl
  rw [k9] at hel
  have hspot : ∀ i, i < len → a.spot = none := fun i hi => by
   obtain ⟨cs, hc, ht⟩ := hel 0 (by omega)
   obtain ⟨a', dv, rfl, hrd⟩ := act_of_cells ht
   obtain ⟨_, _, hat⟩ := World.cells?_some hc
   have := World.cell?_spot ((hat 0 (by decide)).trans rfl)
   simpa [Addr.add] using this
  obtain ⟨l, hl1, hl2⟩ := choose_acts (m := len) (p := fun i a' dv => RdB W dv a'.data ∧ ∃ g o, a = ⟨g, o, none⟩ ∧ ∀ j, j < 9 → W.cell? ⟨g, o + i * 9 + j, none⟩ = (actCells a' dv)[j]?) (fun i hi => by
   obtain ⟨cs, hc, ht⟩ := hel i (by omega)
   obtain ⟨a', dv, rfl, hrd⟩ := act_of_cells ht
   obtain ⟨_, _, hat⟩ := World.cells?_some hc
   refine ⟨a', dv, hrd, ?_⟩
   obtain ⟨g, o, s⟩ := a
   have hs : s = none := hspot i hi
   subst hs
   refine ⟨g, o, rfl, fun j hj => ?_⟩
   have := hat j hj
   rw [add_plain, add_plain] at this
   exact this)
  refine ⟨_, l, e, some a, cap, by rw [hl1], by omega, h2, fun k hk => ?_⟩
  obtain ⟨dv, hrd, g, o, rfl, hc⟩ := hl2 k hk
  exact ⟨g, o, dv, rfl, hrd, hc⟩
/-- Two rows of calls. -/
def Sides2 (W : World) (v : Value) (a b : List Act17) : Prop := ∃ x y, v = .agg #[x, y] ∧ Acts W x a ∧ Acts W y b
set_option maxRecDepth 100000 in
theorem open_sides {v : Value} {d : DataW H} {ps : List MemPlace} {r : Reach} {b0 : Nat} (hv : Value.okWide Tryz.prog W r b0 24 v) (h : DataW.Trod enc Tryz.prog W 0 spare held 24 v d ps) : ∃ a b, Sides2 W v a b := by
 obtain ⟨cs, rfl, hsz⟩ := okWide_struct Tryz.underlying24 hv
 obtain ⟨fuel, hf⟩ := h
 have hf' : DataW.trod enc Tryz.prog W 0 spare held fuel 24 cs.toList = some (d, ps) := hf
 obtain ⟨xs, n, _, _, hl, hxl, hg⟩ := DataW.trod_struct Tryz.underlying24 hf'
 have hl2 : cs.toList.length = 2 := hl.trans (by kernel_rfl)
 obtain ⟨ct⟩ := cs
 match ct, hl2 with
 | [c0, c1], _ =>
  have hx : ∀ i, i < 2 → ∃ y, xs[i]? = some y := fun i hi => ⟨_, List.getElem?_eq_getElem (by rw [hxl]; exact hi)⟩
  obtain ⟨y0, e0⟩ := hx 0 (by decide)
  obtain ⟨y1, e1⟩ := hx 1 (by decide)
  have f0 : DataW.trod enc Tryz.prog W 0 spare held n 22 (([c0, c1].drop 0).take (Tryz.prog.cellsOf 22)) = some y0 := (hg 0 _ rfl).trans e0
  have f1 : DataW.trod enc Tryz.prog W 0 spare held n 22 (([c0, c1].drop 1).take (Tryz.prog.cellsOf 22)) = some y1 := (hg 1 _ rfl).trans e1
  have k1 : Tryz.prog.cellsOf 22 = 1 := by kernel_rfl
  rw [k1] at f0 f1
  simp only [List.drop_zero, List.drop_succ_cons, List.take_succ_cons, List.take_zero] at f0 f1
  obtain ⟨v0, l0, q0, g0⟩ := acts_of_cells f0
  obtain ⟨v1, l1, q1, g1⟩ := acts_of_cells f1
  simp only [List.cons.injEq, and_true] at q0 q1
  subst q0 q1
  exact ⟨l0, l1, _, _, rfl, g0, g1⟩
theorem choose_44 {m : Nat} {p : Nat → Bytes × Int → Prop} (h : ∀ i, i < m → ∃ a, p i a) : ∃ l : Acts44, l.length = m ∧ ∀ i (hi : i < l.length), p i l[i] := by
 induction m with
 | zero => exact ⟨[], rfl, fun i hi => by simp at hi⟩
 | succ m ih =>
  obtain ⟨l, h1, h2⟩ := ih (fun i hi => h i (by omega))
  obtain ⟨a, hav⟩ := h m (by omega)
  refine ⟨l ++ [a], by simp [h1], fun i hi => ?_⟩
  by_cases hl : i < l.length
  ·rw [List.getElem_append_left hl]
   exact h2 i hl
  ·have : i = l.length := by simp at hi; omega
   subst this
   rw [List.getElem_append_right (Nat.le_refl _)]
   simp only [Nat.sub_self, List.getElem_cons_zero]
   rw [h1]
   exact hav
set_option maxRecDepth 100000 in
theorem act44_of_cells {fuel : Nat} {cs : List Value} {x : DataW H × List MemPlace} (h : DataW.trod enc Tryz.prog W 0 spare held fuel 51 cs = some x) : ∃ (y : Bytes × Int) (rest : List (DataW H)), cs = [.string (mkS y.1), .int .i64 y.2] ∧ x.1 = .agg (.lit (.string y.1) :: rest) := by
 obtain ⟨xs, n, _, hx1, hl, hxl, hf⟩ := DataW.trod_struct Tryz.underlying51 h
 have hl2 : cs.length = 2 := hl.trans (by kernel_rfl)
 match cs, hl2 with
 | [c0, c1], _ =>
  match xs, hxl with
  | [y0, y1], _ =>
   have f0 : DataW.trod enc Tryz.prog W 0 spare held n 9 (([c0, c1].drop 0).take (Tryz.prog.cellsOf 9)) = some y0 := hf 0 _ rfl
   have f1 : DataW.trod enc Tryz.prog W 0 spare held n 3 (([c0, c1].drop 1).take (Tryz.prog.cellsOf 3)) = some y1 := hf 1 _ rfl
   have k1 : Tryz.prog.cellsOf 3 = 1 := by kernel_rfl
   have k2 : Tryz.prog.cellsOf 9 = 1 := by kernel_rfl
   rw [k2] at f0
   rw [k1] at f1
   simp only [List.drop_zero, List.drop_succ_cons, List.take_succ_cons, List.take_zero] at f0 f1
   obtain ⟨p, q0, e0, _⟩ := DataW.trod_string Tryz.underlying9 f0
   obtain ⟨t, q1, _⟩ := DataW.trod_int Tryz.underlying3 f1
   simp only [List.cons.injEq, and_true] at q0 q1
   subst q0 q1
   refine ⟨(bl p, t), [y1.1], by simp [mkS_bl], ?_⟩
   rw [hx1, e0]
   rfl
end
end Go.Proofs.YtcjlfkklpghjbaaGreat
