/-
  slices.symMergeCmpFunc where the first half has one element.
  slices.symMergeCmpFunc where the second half has one element.
  slices.symMergeCmpFunc: two halves in order become one, by halving.
  slices.stableCmpFunc: blocks of 20 in order, merged two by two; then path.Sort.
  path.Sort: the paths in order, in a row of its own.
  tree.names: the names in a directory, rising; sort.Strings.
  tree.names and List.
  The tree in memory behind each change.
  tree.put: a new thing is put into its directory.
  tree.Mkdir and Symlink.
  tree.Symlink.
  The tree in memory behind another record, another name, a name that went.
  tree.Set.
  tree.out and Remove: a name goes.
  tree.Remove.
  tree.Link.
  The tree in memory behind a move.
  All that is below a directory.
  Bytes that can be read, wherever they lie; a file's bytes and Meta are set.
  tree.Write.
  tree.Append.
-/
import Derived.Test.YtcjlfkklpghjbaaGreatB1
import Derived.Maps.RangeWalk
import Derived.StillTailTactics
import Derived.Maps.OwnSet
import Derived.ArgAppend
import Derived.Deep.RegionLaw
set_option linter.unusedVariables false
set_option linter.unusedSimpArgs false
open Go.Lib (hid)

namespace Go.Proofs.YtcjlfkklpghjbaaGreat
open Go.RowKit Go.Lib
set_option linter.unusedVariables false
set_option linter.unusedSimpArgs false
theorem sorted_get {V : List Bytes} (hV : Sorted V) {i j : Nat} (h : i ≤ j) {x y : Bytes} (hx : V[i]? = some x) (hy : V[j]? = some y) : leP x y := by
 obtain ⟨hi, rfl⟩ := List.getElem?_eq_some_iff.1 hx
 obtain ⟨hj, rfl⟩ := List.getElem?_eq_some_iff.1 hy
 rcases Nat.lt_or_eq_of_le h with h1 | h1
 ·exact List.pairwise_iff_getElem.1 hV i j hi hj h1
 ·subst h1; unfold leP; rw [cmpP_self]; exact Int.le_refl _
theorem lt_of_le_lt {a b c : Bytes} (h : leP a b) (k : cmpP b c < 0) : cmpP a c < 0 := by
 unfold leP at h
 rcases Int.lt_or_eq_of_le h with h1 | h1
 ·exact cmpP_trans h1 k
 ·rw [cmpP_eq h1]; exact k
set_option maxHeartbeats 8000000 in
set_option maxRecDepth 100000 in
theorem sym1_calls (g c : Nat) (x : Bytes) (p V s : List Bytes) (pad : List Value) (a m b N : Nat) (w W : World) (hR : Row w W g (p ++ [x] ++ V ++ s) pad) (hc : N ≤ c) (hm : N ≤ 4611686018427387) (hN : N = (p ++ [x] ++ V ++ s).length)
  (ha : a = p.length) (hmm : m = p.length + 1) (hb : b = p.length + 1 + V.length) (hsz : ∀ y ∈ x :: V, y.length ≤ 16777216) (hV : Sorted V) :
  Calls Tryz.prog 128 #[.slice (some ⟨g, 0, none⟩) N c, .int .i64 a, .int .i64 m, .int .i64 b, .func (.func 103) #[] #[]] W fun e w' => e = .returned (.tuple #[]) ∧ ∃ M' : List Bytes, (M'.Perm (x :: V) ∧ Sorted M') ∧ Row w w' g (p ++ M' ++ s) pad := by
 have hbN : b ≤ N := by subst hb hN; simp; omega
 have hma : m = a + 1 := by omega
 have e1 : ((m : Int) - (a : Int)) = 1 := by omega
 have hmb : m ≤ b := by omega
 replace hb := hid hb
 replace ha := hid ha
 replace hN := hid hN
 replace hmm := hid hmm
 replace hma := hid hma
 go_enter Tryz.func128, Tryz.ntmps128
 go_wp2
 clear e1
 go_loopw [10, 11] (fun i j W' => ∃ i' j' r q : Nat, i = .int .i64 i' ∧ j = .int .i64 j' ∧ m ≤ i' ∧ i' ≤ j' ∧ j' ≤ b ∧ Hid (i' = m + r) ∧ Hid (j' = m + q) ∧ Hid (∀ (t : Nat) (v : Bytes), t < r → V[t]? = some v → cmpP v x < 0) ∧ Hid (∀ (t : Nat) (v : Bytes), q ≤ t → V[t]? = some v → 0 ≤ cmpP v x) ∧ Row w W' g (p ++ [x] ++ V ++ s) pad) (fun i j _ => (intOf j).toNat - (intOf i).toNat)
 case atStart => exact ⟨m, b, 0, V.length, rfl, rfl, Nat.le_refl _, hmb, Nat.le_refl _, rfl, by unfold Hid; rw [hb.out, hmm.out], fun t v h => by omega, (fun t v h1 h2 => by rw [List.getElem?_eq_none h1] at h2; cases h2), hR⟩
 case round =>
  clear hR
  obtain ⟨i, j, r, q, rfl, rfl, hmi, hij, hjb, hi, hj, hlo, hhi, hR⟩ := hrel
  by_cases hlt : i < j
  ·obtain ⟨h, hh⟩ : ∃ h : Nat, ((i : Int) + (j : Int)) / 2 = (h : Int) := ⟨(i + j) / 2, by omega⟩
   have hih : i ≤ h := by omega
   have hhj : h < j := by omega
   obtain ⟨t, ht⟩ : ∃ t, h = m + t := ⟨h - m, by omega⟩
   have htV : t < V.length := by have := hb.out; have := hmm.out; omega
   have hx1 : (p ++ [x] ++ V ++ s)[h]? = some V[t] := by
    rw [ht, hmm.out]
    simp only [List.append_assoc]
    rw [get_right p _ _ (by omega), get_right [x] _ _ (by simp; omega), List.getElem?_append_left (by simp; omega), ← List.getElem?_eq_getElem htV]
    congr 1; simp; omega
   have hx2 : (p ++ [x] ++ V ++ s)[a]? = some x := by
    rw [ha.out]
    simp only [List.append_assoc]
    rw [get_right p _ _ (by omega), Nat.sub_self]; rfl
   have hc1 := hR.cell hx1
   have hc2 := hR.cell hx2
   have hcmp := fun W' => cmp_mk V[t] x W' (hsz _ (List.mem_cons_of_mem _ (List.getElem_mem htV))) (hsz _ (by simp))
   have hlo2 : Hid (cmpP V[t] x < 0 → ∀ (t' : Nat) (v : Bytes), t' < t + 1 → V[t']? = some v → cmpP v x < 0) := fun hc t' v h1 h2 =>
    lt_of_le_lt (sorted_get hV (show t' ≤ t by omega) h2 (List.getElem?_eq_getElem htV)) hc
   have hhi2 : Hid (¬ cmpP V[t] x < 0 → ∀ (t' : Nat) (v : Bytes), t ≤ t' → V[t']? = some v → 0 ≤ cmpP v x) := fun hc t' v h1 h2 => Int.not_lt.1 fun hc2 =>
    hc (lt_of_le_lt (sorted_get hV h1 (List.getElem?_eq_getElem htV) h2) hc2)
   have haN : (a : Int) < (N : Int) := by have := hma.out; omega
   have hhN : (h : Int) < (N : Int) := by omega
   generalize V[t] = y at *
   replace hcmp := hid hcmp
   replace ht := hid ht
   clear hx1 hx2 hsz
   go_upto_region 5 with fail
   go_still_tail 9, (by kernel_rfl)
   change wpList _ _ _ _ _ wr.drew
   have hR1 := hR.drewN 1
   change Row w wr.drew g _ pad at hR1
   generalize wr.drew = w2 at *
   go_wp2_with fail
   refine (hcmp.out _).mono ?_
   rintro e w3 ⟨rfl, hB3⟩
   have hR3 := hR1.below hB3
   clear hcmp hc1 hc2 hR hR1
   by_cases hcx : cmpP y x < 0
   ·go_wp2
    go_roundw
    case measure => simp [intOf]; omega
    case rel => exact ⟨h + 1, j, t + 1, q, by go_num, rfl, by omega, by omega, by omega, by have := ht.out; unfold Hid; omega, hj, hlo2.out hcx, hhi, hR3⟩
   ·go_wp2
    go_roundw
    case measure => simp [intOf]; omega
    case rel => exact ⟨i, h, r, t, rfl, rfl, by omega, by omega, by omega, hi, ht, hlo, hhi2.out hcx, hR3⟩
  ·obtain rfl : i = j := by omega
   have hrq : r = q := by have := hi.out; have := hj.out; omega
   subst hrq
   have hrV : r ≤ V.length := by have := hi.out; have := hb.out; have := hmm.out; omega
   obtain ⟨V1, V2, hV12, hV1, hV2⟩ := take_drop_len V r hrV
   have hsorted : Hid (Sorted (V1 ++ x :: V2)) := by
    unfold Hid Sorted
    rw [hV12] at hV
    unfold Sorted at hV
    rw [List.pairwise_append] at hV ⊢
    have hlow : ∀ v ∈ V1, cmpP v x < 0 := fun v hv => by
     obtain ⟨t, ht, rfl⟩ := List.getElem_of_mem hv
     refine hlo.out t V1[t] (by omega) ?_
     rw [hV12, List.getElem?_append_left ht]; exact List.getElem?_eq_getElem ht
    refine ⟨hV.1, List.Pairwise.cons (fun v hv => ?_) hV.2.1, fun u hu v hv => ?_⟩
    ·obtain ⟨t, ht, rfl⟩ := List.getElem_of_mem hv
     refine leP_of_not (Int.not_lt.2 (hhi.out (r + t) V2[t] (by omega) ?_))
     rw [hV12, List.getElem?_append_right (by omega), show r + t - V1.length = t by omega]; exact List.getElem?_eq_getElem ht
    ·rcases List.mem_cons.1 hv with h | h
     ·rw [h]; exact leP_of_lt (hlow u hu)
     ·exact hV.2.2 u hu v h
   have hia : (i : Int) - 1 = ((a + V1.length : Nat) : Int) := by have := hi.out; have := hma.out; omega
   have hperm : Hid ((V1 ++ x :: V2).Perm (x :: V)) := by rw [hV12]; exact List.perm_middle
   have hN2 : Hid (N = (p ++ [x] ++ (V1 ++ V2) ++ s).length) := by rw [← hV12]; exact hN
   rw [hV12] at hR
   clear hlo hhi hsz hV
   replace hV1 := hid hV1
   replace hV2 := hid hV2
   obtain ⟨e, he⟩ : ∃ e, e = a + V1.length := ⟨_, rfl⟩
   rw [← he] at hia
   have hae : a ≤ e := by omega
   have heN : e + 1 ≤ N := by omega
   replace he := hid he
   replace hV12 := hid hV12
   have hlt' : ¬ (i : Int) < (i : Int) := by omega
   go_wp2
   go_loopw [13] (fun k W' => ∃ (k' : Nat) (A B : List Bytes), k = .int .i64 k' ∧ a ≤ k' ∧ k' ≤ e ∧ Hid (k' = a + A.length) ∧ Hid (A ++ B = V1) ∧ Row w W' g (p ++ (A ++ x :: B ++ V2) ++ s) pad) (fun k _ => e - (intOf k).toNat)
   case atStart => exact ⟨a, [], V1, rfl, Nat.le_refl _, hae, rfl, rfl, by simpa using hR⟩
   case round =>
    clear hR
    obtain ⟨k, A, B, rfl, hak, hke, hk, hAB, hR⟩ := hrel
    by_cases hlt2 : k < e
    ·obtain ⟨y, B', rfl⟩ : ∃ y B', B = y :: B' := by
      cases B with
      | nil => have h1 := hk.out; have h2 := he.out; have h3 := congrArg List.length hAB.out; simp at h3; omega
      | cons y ys => exact ⟨y, ys, rfl⟩
     have hk2 : k = p.length + A.length := by have := hk.out; have := ha.out; omega
     have hx1 : (p ++ (A ++ x :: (y :: B') ++ V2) ++ s)[k]? = some x := by
      rw [hk2]
      simp only [List.append_assoc]
      rw [get_right p _ _ (by omega), get_right A _ _ (by omega), show p.length + A.length - p.length - A.length = 0 by omega]; rfl
     have hx2 : (p ++ (A ++ x :: (y :: B') ++ V2) ++ s)[k + 1]? = some y := by
      rw [hk2]
      simp only [List.append_assoc]
      rw [get_right p _ _ (by omega), get_right A _ _ (by omega), show p.length + A.length + 1 - p.length - A.length = 1 by omega]; rfl
     have hl1 : k + 1 < (p ++ (A ++ x :: (y :: B') ++ V2) ++ s).length := (List.getElem?_eq_some_iff.1 hx2).1
     have hc1 := hR.cell hx1
     have hc2 := hR.cell hx2
     have hf1 := hR.free k
     have hf2 := hR.free (k + 1)
     have hc3 := (hR.set k (by omega) y).cell (i := k + 1) (x := y) (by rw [List.getElem?_set_ne (by omega)]; exact hx2)
     have hR4 := (hR.set k (by omega) y).set (k + 1) (by simpa using hl1) x
     have hset : Hid (((p ++ (A ++ x :: (y :: B') ++ V2) ++ s).set k y).set (k + 1) x = p ++ ((A ++ [y]) ++ x :: B' ++ V2) ++ s) := by
      unfold Hid
      rw [hk2]
      simp only [List.append_assoc]
      rw [List.set_append_right _ _ (by omega), List.set_append_right _ _ (by omega), List.set_append_right _ _ (by omega), List.set_append_right _ _ (by omega)]
      rw [show p.length + A.length + 1 - p.length - A.length = 1 by omega, show p.length + A.length - p.length - A.length = 0 by omega]
      simp
     rw [hset.out] at hR4
     have hAB2 : Hid ((A ++ [y]) ++ B' = V1) := by rw [← hAB.out]; simp [Hid]
     have hk3 : Hid (k + 1 = a + (A ++ [y]).length) := by have := hk.out; unfold Hid; simp; omega
     have hkN : (k : Int) + 1 < (N : Int) := by omega
     clear hx1 hx2 hl1 hset hR hAB
     replace hk2 := hid hk2
     go_wp2
     go_region
     all_goals go_wp2
     all_goals go_roundw
     case measure => simp [intOf]; omega
     case rel => exact ⟨k + 1, A ++ [y], B', by go_num, by omega, by omega, hk3, hAB2, hR4.drewN 1⟩
    ·have hB : B = [] := by
      have h1 := hk.out
      have h2 := he.out
      have h3 := congrArg List.length hAB.out
      simp at h3
      exact List.eq_nil_of_length_eq_zero (by omega)
     subst hB
     have hA : A = V1 := by have := hAB.out; simpa using this
     subst hA
     have hR2 : Row w wr g (p ++ (A ++ x :: V2) ++ s) pad := by simpa using hR
     clear hAB hR
     go_wp2
     refine bodyPost_ret (results_none rfl _ _ _) rfl ?_
     exact ⟨rfl, _, ⟨hperm.out, hsorted.out⟩, hR2⟩
end Go.Proofs.YtcjlfkklpghjbaaGreat

namespace Go.Proofs.YtcjlfkklpghjbaaGreat
open Go.RowKit Go.Lib
set_option linter.unusedVariables false
set_option linter.unusedSimpArgs false
theorem lt_of_lt_le {a b c : Bytes} (h : cmpP a b < 0) (k : leP b c) : cmpP a c < 0 := by
 unfold leP at k
 rcases Int.lt_or_eq_of_le k with k1 | k1
 ·exact cmpP_trans h k1
 ·rw [← cmpP_eq k1]; exact h
set_option maxHeartbeats 8000000 in
set_option maxRecDepth 100000 in
theorem sym2_calls (g c : Nat) (y : Bytes) (p U s : List Bytes) (pad : List Value) (a m b N : Nat) (w W : World) (hR : Row w W g (p ++ U ++ [y] ++ s) pad) (hc : N ≤ c) (hm : N ≤ 4611686018427387) (hN : N = (p ++ U ++ [y] ++ s).length)
  (ha : a = p.length) (hmm : m = p.length + U.length) (hb : b = p.length + U.length + 1) (hU1 : U.length ≠ 1) (hsz : ∀ u ∈ y :: U, u.length ≤ 16777216) (hU : Sorted U) :
  Calls Tryz.prog 128 #[.slice (some ⟨g, 0, none⟩) N c, .int .i64 a, .int .i64 m, .int .i64 b, .func (.func 103) #[] #[]] W fun e w' => e = .returned (.tuple #[]) ∧ ∃ M' : List Bytes, (M'.Perm (U ++ [y]) ∧ Sorted M') ∧ Row w w' g (p ++ M' ++ s) pad := by
 have hbN : b ≤ N := by subst hb hN; simp; omega
 have hbm : b = m + 1 := by omega
 have e1 : (((m : Int) - (a : Int)) == 1) = false := by rw [beq_eq_false_iff_ne]; omega
 have e2 : ((b : Int) - (m : Int)) = 1 := by omega
 have ham : a ≤ m := by omega
 have hmN : m < N := by omega
 replace hb := hid hb
 replace ha := hid ha
 replace hN := hid hN
 replace hmm := hid hmm
 replace hbm := hid hbm
 go_enter Tryz.func128, Tryz.ntmps128
 go_wp2
 clear e2
 go_loopw [14, 15] (fun i j W' => ∃ i' j' r q : Nat, i = .int .i64 i' ∧ j = .int .i64 j' ∧ a ≤ i' ∧ i' ≤ j' ∧ j' ≤ m ∧ Hid (i' = a + r) ∧ Hid (j' = a + q) ∧ Hid (∀ (t : Nat) (u : Bytes), t < r → U[t]? = some u → 0 ≤ cmpP y u) ∧ Hid (∀ (t : Nat) (u : Bytes), q ≤ t → U[t]? = some u → cmpP y u < 0) ∧ Row w W' g (p ++ U ++ [y] ++ s) pad) (fun i j _ => (intOf j).toNat - (intOf i).toNat)
 case atStart => exact ⟨a, m, 0, U.length, rfl, rfl, Nat.le_refl _, ham, Nat.le_refl _, rfl, by unfold Hid; rw [hmm.out, ha.out], fun t u h => by omega, (fun t u h1 h2 => by rw [List.getElem?_eq_none h1] at h2; cases h2), hR⟩
 case round =>
  clear hR
  obtain ⟨i, j, r, q, rfl, rfl, hai, hij, hjm, hi, hj, hlo, hhi, hR⟩ := hrel
  by_cases hlt : i < j
  ·obtain ⟨h, hh⟩ : ∃ h : Nat, ((i : Int) + (j : Int)) / 2 = (h : Int) := ⟨(i + j) / 2, by omega⟩
   have hih : i ≤ h := by omega
   have hhj : h < j := by omega
   obtain ⟨t, ht⟩ : ∃ t, h = a + t := ⟨h - a, by omega⟩
   have htU : t < U.length := by have := ha.out; have := hmm.out; omega
   have hx1 : (p ++ U ++ [y] ++ s)[h]? = some U[t] := by
    rw [ht, ha.out]
    simp only [List.append_assoc]
    rw [get_right p _ _ (by omega), List.getElem?_append_left (by omega), ← List.getElem?_eq_getElem htU]
    congr 1; omega
   have hx2 : (p ++ U ++ [y] ++ s)[m]? = some y := by
    rw [hmm.out]
    simp only [List.append_assoc]
    rw [get_right p _ _ (by omega), get_right U _ _ (by omega), show p.length + U.length - p.length - U.length = 0 by omega]; rfl
   have hc1 := hR.cell hx1
   have hc2 := hR.cell hx2
   have hcmp := fun W' => cmp_mk y U[t] W' (hsz _ (by simp)) (hsz _ (List.mem_cons_of_mem _ (List.getElem_mem htU)))
   have hlo2 : Hid (¬ cmpP y U[t] < 0 → ∀ (t' : Nat) (u : Bytes), t' < t + 1 → U[t']? = some u → 0 ≤ cmpP y u) := fun hc t' u h1 h2 => Int.not_lt.1 fun hc2 =>
    hc (lt_of_lt_le hc2 (sorted_get hU (show t' ≤ t by omega) h2 (List.getElem?_eq_getElem htU)))
   have hhi2 : Hid (cmpP y U[t] < 0 → ∀ (t' : Nat) (u : Bytes), t ≤ t' → U[t']? = some u → cmpP y u < 0) := fun hc t' u h1 h2 =>
    lt_of_lt_le hc (sorted_get hU h1 (List.getElem?_eq_getElem htU) h2)
   have hmN' : (m : Int) < (N : Int) := by omega
   have hhN : (h : Int) < (N : Int) := by omega
   generalize U[t] = x at *
   replace hcmp := hid hcmp
   replace ht := hid ht
   clear hx1 hx2 hsz
   go_upto_region 17 with fail
   go_still_tail 9, (by kernel_rfl)
   change wpList _ _ _ _ _ wr.drew
   have hR1 := hR.drewN 1
   change Row w wr.drew g _ pad at hR1
   generalize wr.drew = w2 at *
   go_wp2_with fail
   refine (hcmp.out _).mono ?_
   rintro e w3 ⟨rfl, hB3⟩
   have hR3 := hR1.below hB3
   clear hcmp hc1 hc2 hR hR1
   by_cases hcx : cmpP y x < 0
   ·have hdb : decide (cmpP y x < 0) = true := decide_eq_true hcx
    go_wp2
    go_roundw
    case measure => simp [intOf]; omega
    case rel => exact ⟨i, h, r, t, rfl, rfl, by omega, by omega, by omega, hi, ht, hlo, hhi2.out hcx, hR3⟩
   ·have hdb : decide (cmpP y x < 0) = false := decide_eq_false hcx
    go_wp2
    go_roundw
    case measure => simp [intOf]; omega
    case rel => exact ⟨h + 1, j, t + 1, q, by go_num, rfl, by omega, by omega, by omega, by have := ht.out; unfold Hid; omega, hj, hlo2.out hcx, hhi, hR3⟩
  ·obtain rfl : i = j := by omega
   have hrq : r = q := by have := hi.out; have := hj.out; omega
   subst hrq
   have hrU : r ≤ U.length := by have := hi.out; have := ha.out; have := hmm.out; omega
   obtain ⟨U1, U2, hU12, hV1, hV2⟩ := take_drop_len U r hrU
   have hsorted : Hid (Sorted (U1 ++ y :: U2)) := by
    unfold Hid Sorted
    rw [hU12] at hU
    unfold Sorted at hU
    rw [List.pairwise_append] at hU ⊢
    have hlow : ∀ v ∈ U1, leP v y := fun v hv => by
     obtain ⟨t, ht, rfl⟩ := List.getElem_of_mem hv
     refine leP_of_not (Int.not_lt.2 (hlo.out t U1[t] (by omega) ?_))
     rw [hU12, List.getElem?_append_left ht]; exact List.getElem?_eq_getElem ht
    refine ⟨hU.1, List.Pairwise.cons (fun v hv => ?_) hU.2.1, fun u hu v hv => ?_⟩
    ·obtain ⟨t, ht, rfl⟩ := List.getElem_of_mem hv
     refine leP_of_lt (hhi.out (r + t) U2[t] (by omega) ?_)
     rw [hU12, List.getElem?_append_right (by omega), show r + t - U1.length = t by omega]; exact List.getElem?_eq_getElem ht
    ·rcases List.mem_cons.1 hv with h | h
     ·rw [h]; exact hlow u hu
     ·exact hU.2.2 u hu v h
   have hperm : Hid ((U1 ++ y :: U2).Perm (U ++ [y])) := by
    rw [hU12]
    have : (U1 ++ U2 ++ [y]) = U1 ++ (U2 ++ [y]) := by simp
    unfold Hid
    rw [this]
    exact List.Perm.append_left _ (List.perm_append_comm (l₁ := [y]) (l₂ := U2))
   rw [hU12] at hR
   have hN2 : Hid (N = (p ++ (U1 ++ U2) ++ [y] ++ s).length) := by rw [← hU12]; exact hN
   have hmU : Hid (m = i + U2.length) := by
    have := hi.out; have := ha.out; have := hmm.out; unfold Hid; omega
   clear hlo hhi hsz hU
   replace hV1 := hid hV1
   replace hV2 := hid hV2
   replace hU12 := hid hU12
   have hlt' : ¬ (i : Int) < (i : Int) := by omega
   go_wp2
   go_loopw [17] (fun k W' => ∃ (k' : Nat) (A B : List Bytes), k = .int .i64 k' ∧ i ≤ k' ∧ k' ≤ m ∧ Hid (k' = i + A.length) ∧ Hid (A ++ B = U2) ∧ Row w W' g (p ++ (U1 ++ A ++ y :: B) ++ s) pad) (fun k _ => (intOf k).toNat)
   case atStart => exact ⟨m, U2, [], rfl, hjm, Nat.le_refl _, hmU, by simp [Hid], by simpa using hR⟩
   case round =>
    clear hR
    obtain ⟨k, A, B, rfl, hik, hkm, hk, hAB, hR⟩ := hrel
    by_cases hlt2 : i < k
    ·obtain ⟨A', z, rfl⟩ : ∃ A' z, A = A' ++ [z] := by
      have : A ≠ [] := fun h => by have := hk.out; rw [h] at this; simp at this; omega
      exact ⟨A.dropLast, A.getLast this, (List.dropLast_concat_getLast this).symm⟩
     obtain ⟨k', hk'⟩ : ∃ k', k = k' + 1 := ⟨k - 1, by omega⟩
     have hk2 : k' = p.length + (U1 ++ A').length := by
      have := hk.out; have := hi.out; have := ha.out; have := hV1.out; simp at *; omega
     have hx1 : (p ++ (U1 ++ (A' ++ [z]) ++ y :: B) ++ s)[k']? = some z := by
      rw [hk2, show p ++ (U1 ++ (A' ++ [z]) ++ y :: B) ++ s = p ++ ((U1 ++ A') ++ (z :: y :: B ++ s)) by simp]
      rw [get_right p _ _ (by omega), get_right (U1 ++ A') _ _ (by omega), show p.length + (U1 ++ A').length - p.length - (U1 ++ A').length = 0 by omega]; rfl
     have hx2 : (p ++ (U1 ++ (A' ++ [z]) ++ y :: B) ++ s)[k]? = some y := by
      rw [hk', hk2, show p ++ (U1 ++ (A' ++ [z]) ++ y :: B) ++ s = p ++ ((U1 ++ A') ++ (z :: y :: B ++ s)) by simp]
      rw [get_right p _ _ (by omega), get_right (U1 ++ A') _ _ (by omega), show p.length + (U1 ++ A').length + 1 - p.length - (U1 ++ A').length = 1 by omega]; rfl
     have hl1 : k < (p ++ (U1 ++ (A' ++ [z]) ++ y :: B) ++ s).length := (List.getElem?_eq_some_iff.1 hx2).1
     have hc1 := hR.cell hx1
     have hc2 := hR.cell hx2
     have hf1 := hR.free k
     have hf2 := hR.free k'
     have hc3 := (hR.set k hl1 z).cell (i := k') (x := z) (by rw [List.getElem?_set_ne (by omega)]; exact hx1)
     have hR4 := (hR.set k hl1 z).set k' (by simp only [List.length_set]; omega) y
     have hset : Hid (((p ++ (U1 ++ (A' ++ [z]) ++ y :: B) ++ s).set k z).set k' y = p ++ (U1 ++ A' ++ y :: (z :: B)) ++ s) := by
      unfold Hid
      rw [hk', hk2, show p ++ (U1 ++ (A' ++ [z]) ++ y :: B) ++ s = p ++ ((U1 ++ A') ++ (z :: y :: B ++ s)) by simp]
      rw [List.set_append_right _ _ (by omega), List.set_append_right _ _ (by omega), List.set_append_right _ _ (by omega), List.set_append_right _ _ (by omega)]
      rw [show p.length + (U1 ++ A').length + 1 - p.length - (U1 ++ A').length = 1 by omega, show p.length + (U1 ++ A').length - p.length - (U1 ++ A').length = 0 by omega]
      simp
     rw [hset.out] at hR4
     have hAB2 : Hid (A' ++ (z :: B) = U2) := by rw [← hAB.out]; simp [Hid]
     have hk3 : Hid (k' = i + A'.length) := by have := hk.out; unfold Hid; simp at this; omega
     have hik' : i ≤ k' := by omega
     have hkm' : k' ≤ m := by omega
     have hkN : (k : Int) < (N : Int) := by omega
     have hkN' : (k' : Int) < (N : Int) := by omega
     have hw1 : IntKind.i64.wrap ((k : Int) - 1) = (k' : Int) := by rw [IntWalk.i64_in _ (by omega)]; omega
     have hw2 : (k : Int) - 1 = (k' : Int) := by omega
     clear hx1 hx2 hl1 hset hR hAB
     replace hk2 := hid hk2
     replace hk' := hid hk'
     go_wp2
     go_region
     all_goals go_wp2
     all_goals go_roundw
     case measure => have := hk'.out; simp [intOf]; omega
     case rel => exact ⟨k', A', z :: B, rfl, hik', hkm', hk3, hAB2, hR4.drewN 1⟩
    ·have hA : A = [] := by
      have h1 := hk.out
      exact List.eq_nil_of_length_eq_zero (by omega)
     subst hA
     have hB : B = U2 := by have := hAB.out; simpa using this
     subst hB
     have hR2 : Row w wr g (p ++ (U1 ++ y :: B) ++ s) pad := by simpa using hR
     clear hAB hR
     go_wp2
     refine bodyPost_ret (results_none rfl _ _ _) rfl ?_
     exact ⟨rfl, _, ⟨hperm.out, hsorted.out⟩, hR2⟩
end Go.Proofs.YtcjlfkklpghjbaaGreat

namespace Go.Proofs.YtcjlfkklpghjbaaGreat
open Go.RowKit Go.Lib
set_option linter.unusedVariables false
set_option linter.unusedSimpArgs false
def SymOk (n : Nat) : Prop := ∀ (g c : Nat) (p U V s : List Bytes) (pad : List Value) (a m b N : Nat) (w W : World), Row w W g (p ++ U ++ V ++ s) pad → N ≤ c → N ≤ 4611686018427387 → N = (p ++ U ++ V ++ s).length →
    a = p.length → m = p.length + U.length → b = p.length + U.length + V.length → U ≠ [] → V ≠ [] → U.length + V.length ≤ n → (∀ y ∈ U ++ V, y.length ≤ 16777216) → Sorted U → Sorted V →
    Calls Tryz.prog 128 #[.slice (some ⟨g, 0, none⟩) N c, .int .i64 a, .int .i64 m, .int .i64 b, .func (.func 103) #[] #[]] W fun e w' => e = .returned (.tuple #[]) ∧ ∃ M' : List Bytes, (M'.Perm (U ++ V) ∧ Sorted M') ∧ Row w w' g (p ++ M' ++ s) pad
/-- What stands left of the cut is not above what stands right of it. -/
theorem sym_parts {U1 U2 V1 V2 M1 M2 : List Bytes} (hU : Sorted (U1 ++ U2)) (hV : Sorted (V1 ++ V2)) (h1 : ∀ u ∈ U1, ∀ v ∈ V2, leP u v) (h2 : ∀ v ∈ V1, ∀ u ∈ U2, leP v u)
  (p1 : M1.Perm (U1 ++ V1)) (p2 : M2.Perm (U2 ++ V2)) (s1 : Sorted M1) (s2 : Sorted M2) : (M1 ++ M2).Perm (U1 ++ U2 ++ (V1 ++ V2)) ∧ Sorted (M1 ++ M2) := by
 unfold Sorted at *
 rw [List.pairwise_append] at hU hV
 refine ⟨?_, List.pairwise_append.2 ⟨s1, s2, fun x hx y hy => ?_⟩⟩
 ·refine (List.Perm.append p1 p2).trans ?_
  have e1 : U1 ++ V1 ++ (U2 ++ V2) = U1 ++ (V1 ++ U2) ++ V2 := by simp
  have e2 : U1 ++ U2 ++ (V1 ++ V2) = U1 ++ (U2 ++ V1) ++ V2 := by simp
  rw [e1, e2]
  exact List.Perm.append_right _ (List.Perm.append_left _ List.perm_append_comm)
 ·have hx' := (p1.mem_iff).1 hx
  have hy' := (p2.mem_iff).1 hy
  rcases List.mem_append.1 hx' with a | a <;> rcases List.mem_append.1 hy' with b | b
  ·exact hU.2.2 x a y b
  ·exact h1 x a y b
  ·exact h2 x a y b
  ·exact hV.2.2 x a y b
/-- What the halving search has found out: t0 of the first half go left, h - t0 of the second. -/
theorem sym_cut {U V : List Bytes} (hU : Sorted U) (hV : Sorted V) (h t0 : Nat) (ht : t0 ≤ h) (htU : t0 ≤ U.length) (htV : h - t0 ≤ V.length)
  (lo : t0 = 0 ∨ h - t0 = V.length ∨ ∀ u v, U[t0 - 1]? = some u → V[h - t0]? = some v → leP u v)
  (hi : t0 = U.length ∨ h = t0 ∨ ∀ u v, U[t0]? = some u → V[h - t0 - 1]? = some v → leP v u) :
  (∀ u ∈ U.take t0, ∀ v ∈ V.drop (h - t0), leP u v) ∧ (∀ v ∈ V.take (h - t0), ∀ u ∈ U.drop t0, leP v u) := by
 constructor
 ·intro u hu v hv
  obtain ⟨i, hi', rfl⟩ := List.getElem_of_mem hu
  obtain ⟨j, hj', rfl⟩ := List.getElem_of_mem hv
  simp only [List.length_take, List.length_drop] at hi' hj'
  simp only [List.getElem_take, List.getElem_drop]
  rcases lo with h0 | h0 | h0
  ·omega
  ·omega
  ·refine leP_trans (sorted_get hU (show i ≤ t0 - 1 by omega) (List.getElem?_eq_getElem (by omega)) (List.getElem?_eq_getElem (by omega))) (leP_trans (h0 _ _ (List.getElem?_eq_getElem (by omega)) (List.getElem?_eq_getElem (by omega))) (sorted_get hV (show h - t0 ≤ h - t0 + j by omega) (List.getElem?_eq_getElem (by omega)) (List.getElem?_eq_getElem (by omega))))
 ·intro v hv u hu
  obtain ⟨i, hi', rfl⟩ := List.getElem_of_mem hv
  obtain ⟨j, hj', rfl⟩ := List.getElem_of_mem hu
  simp only [List.length_take, List.length_drop] at hi' hj'
  simp only [List.getElem_take, List.getElem_drop]
  rcases hi with h0 | h0 | h0
  ·omega
  ·omega
  ·refine leP_trans (sorted_get hV (show i ≤ h - t0 - 1 by omega) (List.getElem?_eq_getElem (by omega)) (List.getElem?_eq_getElem (by omega))) (leP_trans (h0 _ _ (List.getElem?_eq_getElem (by omega)) (List.getElem?_eq_getElem (by omega))) (sorted_get hU (show t0 ≤ t0 + j by omega) (List.getElem?_eq_getElem (by omega)) (List.getElem?_eq_getElem (by omega))))
set_option maxHeartbeats 16000000 in
set_option maxRecDepth 100000 in
theorem sym_step (n : Nat) (ih : SymOk n) (g c : Nat) (p U V s : List Bytes) (pad : List Value) (a m b N : Nat) (w W : World) (hR : Row w W g (p ++ U ++ V ++ s) pad) (hc : N ≤ c) (hm : N ≤ 4611686018427387) (hN : N = (p ++ U ++ V ++ s).length)
  (ha : a = p.length) (hmm : m = p.length + U.length) (hb : b = p.length + U.length + V.length) (hU1 : 2 ≤ U.length) (hV1 : 2 ≤ V.length) (hn : U.length + V.length ≤ n + 1) (hsz : ∀ y ∈ U ++ V, y.length ≤ 16777216) (hU : Sorted U) (hV : Sorted V) :
  Calls Tryz.prog 128 #[.slice (some ⟨g, 0, none⟩) N c, .int .i64 a, .int .i64 m, .int .i64 b, .func (.func 103) #[] #[]] W fun e w' => e = .returned (.tuple #[]) ∧ ∃ M' : List Bytes, (M'.Perm (U ++ V) ∧ Sorted M') ∧ Row w w' g (p ++ M' ++ s) pad := by
 have hbN : b ≤ N := by subst hb hN; simp; omega
 have e1 : (((m : Int) - (a : Int)) == 1) = false := by rw [beq_eq_false_iff_ne]; omega
 have e2 : (((b : Int) - (m : Int)) == 1) = false := by rw [beq_eq_false_iff_ne]; omega
 have ham : a ≤ m := by omega
 have hmb : m ≤ b := by omega
 obtain ⟨mid, hmid⟩ : ∃ mid : Nat, ((a : Int) + (b : Int)) / 2 = (mid : Int) := ⟨(a + b) / 2, by omega⟩
 obtain ⟨h, hh⟩ : ∃ h, mid = a + h := ⟨mid - a, by omega⟩
 have hmid2 : mid < b := by omega
 have hmid1 : a < mid := by omega
 obtain ⟨nn, hnn⟩ : ∃ nn, nn = mid + m := ⟨_, rfl⟩
 have ennI : (mid : Int) + (m : Int) = (nn : Int) := by omega
 obtain ⟨pp, hpp⟩ : ∃ pp, nn = pp + 1 := ⟨nn - 1, by omega⟩
 have eppI : (nn : Int) - 1 = (pp : Int) := by omega
 -- the search's bounds, as places
 obtain ⟨st0, r0, hst0, hstr, hr0m, hr0mid, hast, hlobd, hhibd⟩ : ∃ st0 r0 : Nat, ((m > mid ∧ (nn : Int) - (b : Int) = (st0 : Int) ∧ r0 = mid) ∨ (¬ m > mid ∧ st0 = a ∧ r0 = m)) ∧ st0 ≤ r0 ∧ r0 ≤ m ∧ r0 ≤ mid ∧ a ≤ st0 ∧ (st0 = a ∨ st0 + b = nn) ∧ (r0 = m ∨ r0 = mid) := by
  by_cases hgt : m > mid
  ·exact ⟨nn - b, mid, .inl ⟨hgt, by omega, rfl⟩, by omega, by omega, by omega, by omega, by omega, .inr rfl⟩
  ·exact ⟨a, m, .inr ⟨hgt, rfl, rfl⟩, by omega, by omega, by omega, by omega, .inl rfl, .inl rfl⟩
 have hst0n : nn ≤ st0 + b := by omega
 have hnnN : nn ≤ N + N := by omega
 replace hb := hid hb
 replace ha := hid ha
 replace hN := hid hN
 replace hmm := hid hmm
 replace hh := hid hh
 replace hnn := hid hnn
 replace hpp := hid hpp
 replace hlobd := hid hlobd
 replace hhibd := hid hhibd
 replace ih := hid ih
 replace hst0n := hid hst0n
 replace hst0 := hid hst0
 go_enter Tryz.func128, Tryz.ntmps128
 go_upto_if 140 with fail
 go_cut [20, 21] (fun x y W' => x = .int .i64 st0 ∧ y = .int .i64 r0 ∧ W = W')
 case first =>
  rcases hst0.out with ⟨hgt, hstI, hr0e⟩ | ⟨hgt, hste, hr0e⟩
  ·have hgt' : (mid : Int) < (m : Int) := by omega
   subst hr0e
   go_wp2
   go_meet
   exact ⟨rfl, rfl, rfl⟩
  ·have hgt' : ¬ ((mid : Int) < (m : Int)) := by omega
   subst hste
   subst hr0e
   go_wp2
   go_meet
   exact ⟨rfl, rfl, rfl⟩
 case rest =>
  obtain ⟨rfl, rfl, rfl⟩ := hcut
  clear hst0 hmid
  go_wp2
  go_loopw [20, 21] (fun x y W' => ∃ i j : Nat, x = .int .i64 i ∧ y = .int .i64 j ∧ st0 ≤ i ∧ i ≤ j ∧ j ≤ r0 ∧
    Hid (∀ (cc : Nat) (u v : Bytes), st0 ≤ cc → cc < i → U[cc - a]? = some u → V[pp - cc - m]? = some v → leP u v) ∧ Hid (∀ (cc : Nat) (u v : Bytes), j ≤ cc → cc < r0 → U[cc - a]? = some u → V[pp - cc - m]? = some v → leP v u) ∧ Row w W' g (p ++ U ++ V ++ s) pad) (fun x y _ => (intOf y).toNat - (intOf x).toNat)
  case atStart => exact ⟨st0, r0, rfl, rfl, Nat.le_refl _, hstr, Nat.le_refl _, (fun cc u v h1 h2 => by omega), (fun cc u v h1 h2 => by omega), hR⟩
  case round =>
   clear hR
   obtain ⟨i, j, rfl, rfl, hsti, hij, hjr, hlo, hhi, hR⟩ := hrel
   by_cases hlt : i < j
   ·obtain ⟨cc, hcc⟩ : ∃ cc : Nat, ((i : Int) + (j : Int)) / 2 = (cc : Int) := ⟨(i + j) / 2, by omega⟩
    have hic : i ≤ cc := by omega
    have hcj : cc < j := by omega
    have hppc : cc ≤ pp := by have := hpp.out; have := hnn.out; omega
    obtain ⟨d, hd⟩ : ∃ d, pp = cc + d := ⟨pp - cc, by omega⟩
    have edI : (pp : Int) - (cc : Int) = (d : Int) := by omega
    have ewI : IntKind.i64.wrap ((pp : Int) - (cc : Int)) = (d : Int) := by rw [edI]; exact IntWalk.i64_in _ (by have := hpp.out; omega)
    have hmd : m ≤ d := by have := hpp.out; have := hnn.out; omega
    have hdb : d < b := by have := hpp.out; have := hst0n.out; omega
    have htU : cc - a < U.length := by have := ha.out; have := hmm.out; omega
    have htV : d - m < V.length := by have := hmm.out; have := hb.out; omega
    have hx1 : (p ++ U ++ V ++ s)[d]? = some V[d - m] := by
     have h1 := hmm.out
     simp only [List.append_assoc]
     rw [get_right p _ _ (by omega), get_right U _ _ (by omega), List.getElem?_append_left (by omega), ← List.getElem?_eq_getElem htV]
     congr 1; omega
    have hx2 : (p ++ U ++ V ++ s)[cc]? = some U[cc - a] := by
     have h1 := ha.out
     simp only [List.append_assoc]
     rw [get_right p _ _ (by omega), List.getElem?_append_left (by omega), ← List.getElem?_eq_getElem htU]
     congr 1; omega
    have hc1 := hR.cell hx1
    have hc2 := hR.cell hx2
    have hcmp := fun W' => cmp_mk V[d - m] U[cc - a] W' (hsz _ (List.mem_append_right _ (List.getElem_mem htV))) (hsz _ (List.mem_append_left _ (List.getElem_mem htU)))
    have hlo2 : Hid (¬ cmpP V[d - m] U[cc - a] < 0 → ∀ (c' : Nat) (u v : Bytes), st0 ≤ c' → c' < cc + 1 → U[c' - a]? = some u → V[pp - c' - m]? = some v → leP u v) := fun hcx c' u v h1 h2 h3 h4 =>
     leP_trans (sorted_get hU (show c' - a ≤ cc - a by omega) h3 (List.getElem?_eq_getElem htU)) (leP_trans (leP_of_not hcx) (sorted_get hV (show d - m ≤ pp - c' - m by omega) (List.getElem?_eq_getElem htV) h4))
    have hhi2 : Hid (cmpP V[d - m] U[cc - a] < 0 → ∀ (c' : Nat) (u v : Bytes), cc ≤ c' → c' < r0 → U[c' - a]? = some u → V[pp - c' - m]? = some v → leP v u) := fun hcx c' u v h1 h2 h3 h4 =>
     leP_trans (sorted_get hV (show pp - c' - m ≤ d - m by omega) h4 (List.getElem?_eq_getElem htV)) (leP_trans (leP_of_lt hcx) (sorted_get hU (show cc - a ≤ c' - a by omega) (List.getElem?_eq_getElem htU) h3))
    clear edI
    have hdN : (d : Int) < (N : Int) := by omega
    have hcN : (cc : Int) < (N : Int) := by omega
    generalize V[d - m] = y at *
    generalize U[cc - a] = x at *
    replace hcmp := hid hcmp
    replace hd := hid hd
    clear hx1 hx2 hsz
    go_upto_region 35 with fail
    go_still_tail 11, (by kernel_rfl)
    change wpList _ _ _ _ _ wr.drew
    have hR1 := hR.drewN 1
    change Row w wr.drew g _ pad at hR1
    generalize wr.drew = w2 at *
    go_wp2_with fail
    refine (hcmp.out _).mono ?_
    rintro e w3 ⟨rfl, hB3⟩
    have hR3 := hR1.below hB3
    clear hcmp hc1 hc2 hR hR1
    by_cases hcx : cmpP y x < 0
    ·have hdb' : decide (cmpP y x < 0) = true := decide_eq_true hcx
     go_wp2
     go_roundw
     case measure => simp [intOf]; omega
     case rel => exact ⟨i, cc, rfl, rfl, by omega, by omega, by omega, hlo, hhi2.out hcx, hR3⟩
    ·have hdb' : decide (cmpP y x < 0) = false := decide_eq_false hcx
     go_wp2
     go_roundw
     case measure => simp [intOf]; omega
     case rel => exact ⟨cc + 1, j, by go_num, rfl, by omega, by omega, by omega, hlo2.out hcx, hhi, hR3⟩
   ·obtain rfl : i = j := by omega
    obtain ⟨t0, ht0⟩ : ∃ t0, i = a + t0 := ⟨i - a, by omega⟩
    have ht0h : t0 ≤ h := by have := hh.out; omega
    have ht0U : t0 ≤ U.length := by have := ha.out; have := hmm.out; omega
    have hhV : h - t0 ≤ V.length := by have := hh.out; have := hst0n.out; have := hnn.out; have := hmm.out; have := hb.out; omega
    have hcut := sym_cut hU hV h t0 ht0h ht0U hhV (by
      by_cases h1 : i = st0
      ·rcases hlobd.out with h2 | h2
       ·left; omega
       ·right; left; have := hh.out; have := hnn.out; have := hmm.out; have := hb.out; omega
      ·right; right
       intro u v h2 h3
       refine hlo.out (i - 1) u v (by omega) (by omega) (by rw [← h2]; congr 1; omega) ?_
       rw [← h3]; congr 1; have := hpp.out; have := hnn.out; have := hh.out; omega) (by
      by_cases h1 : i = r0
      ·rcases hhibd.out with h2 | h2
       ·left; have := hmm.out; have := ha.out; omega
       ·right; left; have := hh.out; omega
      ·right; right
       intro u v h2 h3
       refine hhi.out i u v (by omega) (by omega) (by rw [← h2]; congr 1; omega) ?_
       rw [← h3]; congr 1; have := hpp.out; have := hnn.out; have := hh.out; omega)
    obtain ⟨U1, U2, hU12, hlU1, hlU2⟩ := take_drop_len U t0 ht0U
    obtain ⟨V1, V2, hV12, hlV1, hlV2⟩ := take_drop_len V (h - t0) hhV
    have ht1 : U.take t0 = U1 := by rw [hU12, List.take_left' hlU1]
    have ht2 : U.drop t0 = U2 := by rw [hU12, List.drop_left' hlU1]
    have ht3 : V.take (h - t0) = V1 := by rw [hV12, List.take_left' hlV1]
    have ht4 : V.drop (h - t0) = V2 := by rw [hV12, List.drop_left' hlV1]
    rw [ht1, ht2, ht3, ht4] at hcut
    have hparts := fun (M1 M2 : List Bytes) => sym_parts (U1 := U1) (U2 := U2) (V1 := V1) (V2 := V2) (M1 := M1) (M2 := M2) (by rw [← hU12]; exact hU) (by rw [← hV12]; exact hV) hcut.1 hcut.2
    rw [← hU12, ← hV12] at hparts
    have hsU : Sorted U1 ∧ Sorted U2 := by
     rw [hU12] at hU; unfold Sorted at hU ⊢; rw [List.pairwise_append] at hU; exact ⟨hU.1, hU.2.1⟩
    have hsV : Sorted V1 ∧ Sorted V2 := by
     rw [hV12] at hV; unfold Sorted at hV ⊢; rw [List.pairwise_append] at hV; exact ⟨hV.1, hV.2.1⟩
    obtain ⟨e, hend⟩ : ∃ e : Nat, (nn : Int) - (i : Int) = (e : Int) := ⟨nn - i, by have := hnn.out; omega⟩
    have hem : Hid (e = m + V1.length) := by have := hnn.out; have := hh.out; unfold Hid; omega
    have him : Hid (m = i + U2.length) := by have := hmm.out; have := ha.out; unfold Hid; omega
    have hia : Hid (i = a + U1.length) := by unfold Hid; omega
    have hmi : Hid (mid = i + V1.length) := by have := hh.out; unfold Hid; omega
    have hme : Hid (e = mid + U2.length) := by have := hnn.out; have := hh.out; have := hmm.out; have := ha.out; unfold Hid; omega
    have heb : Hid (b = e + V2.length) := by have := hem.out; have := hb.out; have := hmm.out; unfold Hid; omega
    have hiN : i ≤ N := by omega
    have heN : e ≤ N := by have := heb.out; omega
    have hszU : Hid (∀ y ∈ U1 ++ V1, y.length ≤ 16777216) := fun y hy => hsz y (by
     rw [hU12, hV12]; simp only [List.mem_append] at hy ⊢; rcases hy with h | h
     ·exact .inl (.inl h)
     ·exact .inr (.inl h))
    have hszV : Hid (∀ y ∈ U2 ++ V2, y.length ≤ 16777216) := fun y hy => hsz y (by
     rw [hU12, hV12]; simp only [List.mem_append] at hy ⊢; rcases hy with h | h
     ·exact .inl (.inr h)
     ·exact .inr (.inr h))
    have hlen1 : Hid (U1.length + V1.length ≤ n) := by have := ha.out; have := hmi.out; have := hia.out; have := hh.out; have := hmm.out; have := hb.out; unfold Hid; omega
    have hlen2 : Hid (U2.length + V2.length ≤ n) := by have := hme.out; have := heb.out; have := hh.out; have := hmm.out; have := hb.out; have := ha.out; unfold Hid; omega
    have hNe : Hid (N = (p ++ U1 ++ U2 ++ V1 ++ V2 ++ s).length) := by
     have := hN.out; rw [hU12, hV12] at this; unfold Hid; rw [this]; simp
    have hR0 : Row w wr g (p ++ U1 ++ U2 ++ V1 ++ (V2 ++ s)) pad := by rw [hU12, hV12] at hR; simpa using hR
    replace hparts := hid hparts
    replace hsU := hid hsU
    replace hsV := hid hsV
    have hi1 : Hid (a = p.length) := ha
    have hgi := hlt
    clear hR hlo hhi hsz hcut ht1 ht2 ht3 ht4 hU hV hlU1 hlU2 hlV1 hlV2 ht0 ht0h ht0U hhV
    replace hU12 := hid hU12
    replace hV12 := hid hV12
    clear hU1 hV1 hn hsti hij hjr hlt
    have cmb : Hid (∀ M1 M2 : List Bytes, M1.Perm (U1 ++ V1) → M2.Perm (U2 ++ V2) → Sorted M1 → Sorted M2 → (M1 ++ M2).Perm (U ++ V) ∧ Sorted (M1 ++ M2)) := hparts.out
    clear hparts
    have hia' := hia.out
    have him' := him.out
    have hem' := hem.out
    have hmi' := hmi.out
    have hme' := hme.out
    have heb' := heb.out
    have hNe' := hNe.out
    have hi1' := hi1.out
    by_cases hzU1 : 0 < U1.length
    ·by_cases hzU2 : 0 < U2.length
     ·by_cases hzV1 : 0 < V1.length
      ·by_cases hzV2 : 0 < V2.length
       ·have t1 : ((i : Int) < (m : Int)) := by omega
        have t2 : ((m : Int) < (e : Int)) := by omega
        have t3 : ((a : Int) < (i : Int)) := by omega
        have t4 : ((i : Int) < (mid : Int)) := by omega
        have t5 : ((mid : Int) < (e : Int)) := by omega
        have t6 : ((e : Int) < (b : Int)) := by omega
        have hcall := rotate_calls g c (p ++ U1) U2 V1 (V2 ++ s) pad i m e N (.func (.func 103) #[] #[]) w wr hR0 hc (by omega) (by rw [hNe']; simp) (by simp; omega) (by simp; omega) (by simp; omega) (by omega) (by omega)
        replace hcall := hid hcall
        clear hia' him' hem' hmi' hme' heb' hNe' hi1'
        go_wp2_with fail
        refine hcall.out.mono ?_
        rintro e' w2 ⟨rfl, hRA⟩
        have hRA2 : Row w w2 g (p ++ U1 ++ V1 ++ (U2 ++ V2) ++ s) pad := by simpa using hRA
        clear hR0 hRA hcall
        have hcallB := ih.out g c p U1 V1 ((U2 ++ V2) ++ s) pad a i mid N w w2 (by simpa using hRA2) hc hm (by have := hNe.out; rw [this]; simp; omega) hi1.out (by have := hia.out; have := hi1.out; omega) (by have := hmi.out; have := hia.out; have := hi1.out; omega) (List.length_pos_iff.1 (by omega)) (List.length_pos_iff.1 (by omega)) hlen1.out hszU.out hsU.out.1 hsV.out.1
        replace hcallB := hid hcallB
        go_wp2_with fail
        refine hcallB.out.mono ?_
        rintro e' w3 ⟨rfl, M1, hM1, hRB⟩
        have hRB2 : Row w w3 g (p ++ M1 ++ (U2 ++ V2) ++ s) pad := by simpa using hRB
        clear hRA2 hRB hcallB
        have hM1p : Hid (M1.Perm (U1 ++ V1)) := hM1.1
        have hM1s : Hid (Sorted M1) := hM1.2
        clear hM1
        have hlM : Hid (M1.length = U1.length + V1.length) := by have := hM1p.out.length_eq; simpa [Hid] using this
        have hcallC := ih.out g c (p ++ M1) U2 V2 s pad mid e b N w w3 (by simpa using hRB2) hc hm (by have := hlM.out; rw [hNe.out]; simp; omega) (by have := hlM.out; have := hmi.out; have := hia.out; have := hi1.out; simp; omega) (by have := hlM.out; have := hme.out; have := hmi.out; have := hia.out; have := hi1.out; simp; omega) (by have := hlM.out; have := heb.out; have := hme.out; have := hmi.out; have := hia.out; have := hi1.out; simp; omega) (List.length_pos_iff.1 (by omega)) (List.length_pos_iff.1 (by omega)) hlen2.out hszV.out hsU.out.2 hsV.out.2
        replace hcallC := hid hcallC
        go_wp2_with fail
        refine hcallC.out.mono ?_
        rintro e' w4 ⟨rfl, M2, hM2, hRC⟩
        have hfin := cmb.out M1 M2 hM1p.out hM2.1 hM1s.out hM2.2
        replace hfin := hid hfin
        clear hM2 hcallC
        go_wp2
        go_end0
        exact ⟨rfl, M1 ++ M2, hfin.out, by simpa using hRC⟩
       ·have hV2 : Hid (V2 = []) := List.eq_nil_of_length_eq_zero (by omega)
        have t1 : ((i : Int) < (m : Int)) := by omega
        have t2 : ((m : Int) < (e : Int)) := by omega
        have t3 : ((a : Int) < (i : Int)) := by omega
        have t4 : ((i : Int) < (mid : Int)) := by omega
        have t5 : ((mid : Int) < (e : Int)) := by omega
        have t6 : ¬ ((e : Int) < (b : Int)) := by omega
        have hcall := rotate_calls g c (p ++ U1) U2 V1 (V2 ++ s) pad i m e N (.func (.func 103) #[] #[]) w wr hR0 hc (by omega) (by rw [hNe']; simp) (by simp; omega) (by simp; omega) (by simp; omega) (by omega) (by omega)
        replace hcall := hid hcall
        clear hia' him' hem' hmi' hme' heb' hNe' hi1'
        go_wp2_with fail
        refine hcall.out.mono ?_
        rintro e' w2 ⟨rfl, hRA⟩
        have hRA2 : Row w w2 g (p ++ U1 ++ V1 ++ (U2 ++ V2) ++ s) pad := by simpa using hRA
        clear hR0 hRA hcall
        have hcallB := ih.out g c p U1 V1 ((U2 ++ V2) ++ s) pad a i mid N w w2 (by simpa using hRA2) hc hm (by have := hNe.out; rw [this]; simp; omega) hi1.out (by have := hia.out; have := hi1.out; omega) (by have := hmi.out; have := hia.out; have := hi1.out; omega) (List.length_pos_iff.1 (by omega)) (List.length_pos_iff.1 (by omega)) hlen1.out hszU.out hsU.out.1 hsV.out.1
        replace hcallB := hid hcallB
        go_wp2_with fail
        refine hcallB.out.mono ?_
        rintro e' w3 ⟨rfl, M1, hM1, hRB⟩
        have hRB2 : Row w w3 g (p ++ M1 ++ (U2 ++ V2) ++ s) pad := by simpa using hRB
        clear hRA2 hRB hcallB
        have hM1p : Hid (M1.Perm (U1 ++ V1)) := hM1.1
        have hM1s : Hid (Sorted M1) := hM1.2
        clear hM1
        have hlM : Hid (M1.length = U1.length + V1.length) := by have := hM1p.out.length_eq; simpa [Hid] using this
        have hfin := cmb.out M1 (U2 ++ V2) hM1p.out (List.Perm.refl _) hM1s.out (by rw [hV2.out]; simpa using hsU.out.2)
        replace hfin := hid hfin
        go_wp2
        go_end0
        exact ⟨rfl, M1 ++ (U2 ++ V2), hfin.out, by simpa using hRB2⟩
      ·have hV1 : Hid (V1 = []) := List.eq_nil_of_length_eq_zero (by omega)
       by_cases hzV2 : 0 < V2.length
       ·have t1 : ((i : Int) < (m : Int)) := by omega
        have t2 : ¬ ((m : Int) < (e : Int)) := by omega
        have t3 : ((a : Int) < (i : Int)) := by omega
        have t4 : ¬ ((i : Int) < (mid : Int)) := by omega
        have t5 : ((mid : Int) < (e : Int)) := by omega
        have t6 : ((e : Int) < (b : Int)) := by omega
        clear hia' him' hem' hmi' hme' heb' hNe' hi1'
        have hRA2 : Row w wr g (p ++ U1 ++ V1 ++ (U2 ++ V2) ++ s) pad := by have := hR0; rw [hV1.out] at this ⊢; simpa using this
        clear hR0
        obtain ⟨M1, hM1e⟩ : ∃ M1 : List Bytes, M1 = U1 ++ V1 := ⟨_, rfl⟩
        have hM1p : Hid (M1.Perm (U1 ++ V1)) := by unfold Hid; rw [hM1e]
        have hM1s : Hid (Sorted M1) := by unfold Hid; rw [hM1e, hV1.out]; simpa using hsU.out.1
        have hRB2 : Row w wr g (p ++ M1 ++ (U2 ++ V2) ++ s) pad := by rw [hM1e]; simpa using hRA2
        clear hRA2 hM1e
        have hlM : Hid (M1.length = U1.length + V1.length) := by have := hM1p.out.length_eq; simpa [Hid] using this
        have hcallC := ih.out g c (p ++ M1) U2 V2 s pad mid e b N w wr (by simpa using hRB2) hc hm (by have := hlM.out; rw [hNe.out]; simp; omega) (by have := hlM.out; have := hmi.out; have := hia.out; have := hi1.out; simp; omega) (by have := hlM.out; have := hme.out; have := hmi.out; have := hia.out; have := hi1.out; simp; omega) (by have := hlM.out; have := heb.out; have := hme.out; have := hmi.out; have := hia.out; have := hi1.out; simp; omega) (List.length_pos_iff.1 (by omega)) (List.length_pos_iff.1 (by omega)) hlen2.out hszV.out hsU.out.2 hsV.out.2
        replace hcallC := hid hcallC
        go_wp2_with fail
        refine hcallC.out.mono ?_
        rintro e' w4 ⟨rfl, M2, hM2, hRC⟩
        have hfin := cmb.out M1 M2 hM1p.out hM2.1 hM1s.out hM2.2
        replace hfin := hid hfin
        clear hM2 hcallC
        go_wp2
        go_end0
        exact ⟨rfl, M1 ++ M2, hfin.out, by simpa using hRC⟩
       ·have hV2 : Hid (V2 = []) := List.eq_nil_of_length_eq_zero (by omega)
        have t1 : ((i : Int) < (m : Int)) := by omega
        have t2 : ¬ ((m : Int) < (e : Int)) := by omega
        have t3 : ((a : Int) < (i : Int)) := by omega
        have t4 : ¬ ((i : Int) < (mid : Int)) := by omega
        have t5 : ((mid : Int) < (e : Int)) := by omega
        have t6 : ¬ ((e : Int) < (b : Int)) := by omega
        clear hia' him' hem' hmi' hme' heb' hNe' hi1'
        have hRA2 : Row w wr g (p ++ U1 ++ V1 ++ (U2 ++ V2) ++ s) pad := by have := hR0; rw [hV1.out] at this ⊢; simpa using this
        clear hR0
        obtain ⟨M1, hM1e⟩ : ∃ M1 : List Bytes, M1 = U1 ++ V1 := ⟨_, rfl⟩
        have hM1p : Hid (M1.Perm (U1 ++ V1)) := by unfold Hid; rw [hM1e]
        have hM1s : Hid (Sorted M1) := by unfold Hid; rw [hM1e, hV1.out]; simpa using hsU.out.1
        have hRB2 : Row w wr g (p ++ M1 ++ (U2 ++ V2) ++ s) pad := by rw [hM1e]; simpa using hRA2
        clear hRA2 hM1e
        have hlM : Hid (M1.length = U1.length + V1.length) := by have := hM1p.out.length_eq; simpa [Hid] using this
        have hfin := cmb.out M1 (U2 ++ V2) hM1p.out (List.Perm.refl _) hM1s.out (by rw [hV2.out]; simpa using hsU.out.2)
        replace hfin := hid hfin
        go_wp2
        go_end0
        exact ⟨rfl, M1 ++ (U2 ++ V2), hfin.out, by simpa using hRB2⟩
     ·have hU2 : Hid (U2 = []) := List.eq_nil_of_length_eq_zero (by omega)
      by_cases hzV1 : 0 < V1.length
      ·by_cases hzV2 : 0 < V2.length
       ·have t1 : ¬ ((i : Int) < (m : Int)) := by omega
        have t3 : ((a : Int) < (i : Int)) := by omega
        have t4 : ((i : Int) < (mid : Int)) := by omega
        have t5 : ¬ ((mid : Int) < (e : Int)) := by omega
        clear hia' him' hem' hmi' hme' heb' hNe' hi1'
        have hRA2 : Row w wr g (p ++ U1 ++ V1 ++ (U2 ++ V2) ++ s) pad := by have := hR0; rw [hU2.out] at this ⊢; simpa using this
        clear hR0
        have hcallB := ih.out g c p U1 V1 ((U2 ++ V2) ++ s) pad a i mid N w wr (by simpa using hRA2) hc hm (by have := hNe.out; rw [this]; simp; omega) hi1.out (by have := hia.out; have := hi1.out; omega) (by have := hmi.out; have := hia.out; have := hi1.out; omega) (List.length_pos_iff.1 (by omega)) (List.length_pos_iff.1 (by omega)) hlen1.out hszU.out hsU.out.1 hsV.out.1
        replace hcallB := hid hcallB
        go_wp2_with fail
        refine hcallB.out.mono ?_
        rintro e' w3 ⟨rfl, M1, hM1, hRB⟩
        have hRB2 : Row w w3 g (p ++ M1 ++ (U2 ++ V2) ++ s) pad := by simpa using hRB
        clear hRA2 hRB hcallB
        have hM1p : Hid (M1.Perm (U1 ++ V1)) := hM1.1
        have hM1s : Hid (Sorted M1) := hM1.2
        clear hM1
        have hlM : Hid (M1.length = U1.length + V1.length) := by have := hM1p.out.length_eq; simpa [Hid] using this
        have hfin := cmb.out M1 (U2 ++ V2) hM1p.out (List.Perm.refl _) hM1s.out (by rw [hU2.out]; simpa using hsV.out.2)
        replace hfin := hid hfin
        go_wp2
        go_end0
        exact ⟨rfl, M1 ++ (U2 ++ V2), hfin.out, by simpa using hRB2⟩
       ·have hV2 : Hid (V2 = []) := List.eq_nil_of_length_eq_zero (by omega)
        have t1 : ¬ ((i : Int) < (m : Int)) := by omega
        have t3 : ((a : Int) < (i : Int)) := by omega
        have t4 : ((i : Int) < (mid : Int)) := by omega
        have t5 : ¬ ((mid : Int) < (e : Int)) := by omega
        clear hia' him' hem' hmi' hme' heb' hNe' hi1'
        have hRA2 : Row w wr g (p ++ U1 ++ V1 ++ (U2 ++ V2) ++ s) pad := by have := hR0; rw [hU2.out] at this ⊢; simpa using this
        clear hR0
        have hcallB := ih.out g c p U1 V1 ((U2 ++ V2) ++ s) pad a i mid N w wr (by simpa using hRA2) hc hm (by have := hNe.out; rw [this]; simp; omega) hi1.out (by have := hia.out; have := hi1.out; omega) (by have := hmi.out; have := hia.out; have := hi1.out; omega) (List.length_pos_iff.1 (by omega)) (List.length_pos_iff.1 (by omega)) hlen1.out hszU.out hsU.out.1 hsV.out.1
        replace hcallB := hid hcallB
        go_wp2_with fail
        refine hcallB.out.mono ?_
        rintro e' w3 ⟨rfl, M1, hM1, hRB⟩
        have hRB2 : Row w w3 g (p ++ M1 ++ (U2 ++ V2) ++ s) pad := by simpa using hRB
        clear hRA2 hRB hcallB
        have hM1p : Hid (M1.Perm (U1 ++ V1)) := hM1.1
        have hM1s : Hid (Sorted M1) := hM1.2
        clear hM1
        have hlM : Hid (M1.length = U1.length + V1.length) := by have := hM1p.out.length_eq; simpa [Hid] using this
        have hfin := cmb.out M1 (U2 ++ V2) hM1p.out (List.Perm.refl _) hM1s.out (by rw [hU2.out]; simpa using hsV.out.2)
        replace hfin := hid hfin
        go_wp2
        go_end0
        exact ⟨rfl, M1 ++ (U2 ++ V2), hfin.out, by simpa using hRB2⟩
      ·have hV1 : Hid (V1 = []) := List.eq_nil_of_length_eq_zero (by omega)
       by_cases hzV2 : 0 < V2.length
       ·have t1 : ¬ ((i : Int) < (m : Int)) := by omega
        have t3 : ((a : Int) < (i : Int)) := by omega
        have t4 : ¬ ((i : Int) < (mid : Int)) := by omega
        have t5 : ¬ ((mid : Int) < (e : Int)) := by omega
        clear hia' him' hem' hmi' hme' heb' hNe' hi1'
        have hRA2 : Row w wr g (p ++ U1 ++ V1 ++ (U2 ++ V2) ++ s) pad := by have := hR0; rw [hU2.out] at this ⊢; simpa using this
        clear hR0
        obtain ⟨M1, hM1e⟩ : ∃ M1 : List Bytes, M1 = U1 ++ V1 := ⟨_, rfl⟩
        have hM1p : Hid (M1.Perm (U1 ++ V1)) := by unfold Hid; rw [hM1e]
        have hM1s : Hid (Sorted M1) := by unfold Hid; rw [hM1e, hV1.out]; simpa using hsU.out.1
        have hRB2 : Row w wr g (p ++ M1 ++ (U2 ++ V2) ++ s) pad := by rw [hM1e]; simpa using hRA2
        clear hRA2 hM1e
        have hlM : Hid (M1.length = U1.length + V1.length) := by have := hM1p.out.length_eq; simpa [Hid] using this
        have hfin := cmb.out M1 (U2 ++ V2) hM1p.out (List.Perm.refl _) hM1s.out (by rw [hU2.out]; simpa using hsV.out.2)
        replace hfin := hid hfin
        go_wp2
        go_end0
        exact ⟨rfl, M1 ++ (U2 ++ V2), hfin.out, by simpa using hRB2⟩
       ·have hV2 : Hid (V2 = []) := List.eq_nil_of_length_eq_zero (by omega)
        have t1 : ¬ ((i : Int) < (m : Int)) := by omega
        have t3 : ((a : Int) < (i : Int)) := by omega
        have t4 : ¬ ((i : Int) < (mid : Int)) := by omega
        have t5 : ¬ ((mid : Int) < (e : Int)) := by omega
        clear hia' him' hem' hmi' hme' heb' hNe' hi1'
        have hRA2 : Row w wr g (p ++ U1 ++ V1 ++ (U2 ++ V2) ++ s) pad := by have := hR0; rw [hU2.out] at this ⊢; simpa using this
        clear hR0
        obtain ⟨M1, hM1e⟩ : ∃ M1 : List Bytes, M1 = U1 ++ V1 := ⟨_, rfl⟩
        have hM1p : Hid (M1.Perm (U1 ++ V1)) := by unfold Hid; rw [hM1e]
        have hM1s : Hid (Sorted M1) := by unfold Hid; rw [hM1e, hV1.out]; simpa using hsU.out.1
        have hRB2 : Row w wr g (p ++ M1 ++ (U2 ++ V2) ++ s) pad := by rw [hM1e]; simpa using hRA2
        clear hRA2 hM1e
        have hlM : Hid (M1.length = U1.length + V1.length) := by have := hM1p.out.length_eq; simpa [Hid] using this
        have hfin := cmb.out M1 (U2 ++ V2) hM1p.out (List.Perm.refl _) hM1s.out (by rw [hU2.out]; simpa using hsV.out.2)
        replace hfin := hid hfin
        go_wp2
        go_end0
        exact ⟨rfl, M1 ++ (U2 ++ V2), hfin.out, by simpa using hRB2⟩
    ·have hU1 : Hid (U1 = []) := List.eq_nil_of_length_eq_zero (by omega)
     by_cases hzU2 : 0 < U2.length
     ·by_cases hzV1 : 0 < V1.length
      ·by_cases hzV2 : 0 < V2.length
       ·have t1 : ((i : Int) < (m : Int)) := by omega
        have t2 : ((m : Int) < (e : Int)) := by omega
        have t3 : ¬ ((a : Int) < (i : Int)) := by omega
        have t5 : ((mid : Int) < (e : Int)) := by omega
        have t6 : ((e : Int) < (b : Int)) := by omega
        have hcall := rotate_calls g c (p ++ U1) U2 V1 (V2 ++ s) pad i m e N (.func (.func 103) #[] #[]) w wr hR0 hc (by omega) (by rw [hNe']; simp) (by simp; omega) (by simp; omega) (by simp; omega) (by omega) (by omega)
        replace hcall := hid hcall
        clear hia' him' hem' hmi' hme' heb' hNe' hi1'
        go_wp2_with fail
        refine hcall.out.mono ?_
        rintro e' w2 ⟨rfl, hRA⟩
        have hRA2 : Row w w2 g (p ++ U1 ++ V1 ++ (U2 ++ V2) ++ s) pad := by simpa using hRA
        clear hR0 hRA hcall
        obtain ⟨M1, hM1e⟩ : ∃ M1 : List Bytes, M1 = U1 ++ V1 := ⟨_, rfl⟩
        have hM1p : Hid (M1.Perm (U1 ++ V1)) := by unfold Hid; rw [hM1e]
        have hM1s : Hid (Sorted M1) := by unfold Hid; rw [hM1e, hU1.out]; simpa using hsV.out.1
        have hRB2 : Row w w2 g (p ++ M1 ++ (U2 ++ V2) ++ s) pad := by rw [hM1e]; simpa using hRA2
        clear hRA2 hM1e
        have hlM : Hid (M1.length = U1.length + V1.length) := by have := hM1p.out.length_eq; simpa [Hid] using this
        have hcallC := ih.out g c (p ++ M1) U2 V2 s pad mid e b N w w2 (by simpa using hRB2) hc hm (by have := hlM.out; rw [hNe.out]; simp; omega) (by have := hlM.out; have := hmi.out; have := hia.out; have := hi1.out; simp; omega) (by have := hlM.out; have := hme.out; have := hmi.out; have := hia.out; have := hi1.out; simp; omega) (by have := hlM.out; have := heb.out; have := hme.out; have := hmi.out; have := hia.out; have := hi1.out; simp; omega) (List.length_pos_iff.1 (by omega)) (List.length_pos_iff.1 (by omega)) hlen2.out hszV.out hsU.out.2 hsV.out.2
        replace hcallC := hid hcallC
        go_wp2_with fail
        refine hcallC.out.mono ?_
        rintro e' w4 ⟨rfl, M2, hM2, hRC⟩
        have hfin := cmb.out M1 M2 hM1p.out hM2.1 hM1s.out hM2.2
        replace hfin := hid hfin
        clear hM2 hcallC
        go_wp2
        go_end0
        exact ⟨rfl, M1 ++ M2, hfin.out, by simpa using hRC⟩
       ·have hV2 : Hid (V2 = []) := List.eq_nil_of_length_eq_zero (by omega)
        have t1 : ((i : Int) < (m : Int)) := by omega
        have t2 : ((m : Int) < (e : Int)) := by omega
        have t3 : ¬ ((a : Int) < (i : Int)) := by omega
        have t5 : ((mid : Int) < (e : Int)) := by omega
        have t6 : ¬ ((e : Int) < (b : Int)) := by omega
        have hcall := rotate_calls g c (p ++ U1) U2 V1 (V2 ++ s) pad i m e N (.func (.func 103) #[] #[]) w wr hR0 hc (by omega) (by rw [hNe']; simp) (by simp; omega) (by simp; omega) (by simp; omega) (by omega) (by omega)
        replace hcall := hid hcall
        clear hia' him' hem' hmi' hme' heb' hNe' hi1'
        go_wp2_with fail
        refine hcall.out.mono ?_
        rintro e' w2 ⟨rfl, hRA⟩
        have hRA2 : Row w w2 g (p ++ U1 ++ V1 ++ (U2 ++ V2) ++ s) pad := by simpa using hRA
        clear hR0 hRA hcall
        obtain ⟨M1, hM1e⟩ : ∃ M1 : List Bytes, M1 = U1 ++ V1 := ⟨_, rfl⟩
        have hM1p : Hid (M1.Perm (U1 ++ V1)) := by unfold Hid; rw [hM1e]
        have hM1s : Hid (Sorted M1) := by unfold Hid; rw [hM1e, hU1.out]; simpa using hsV.out.1
        have hRB2 : Row w w2 g (p ++ M1 ++ (U2 ++ V2) ++ s) pad := by rw [hM1e]; simpa using hRA2
        clear hRA2 hM1e
        have hlM : Hid (M1.length = U1.length + V1.length) := by have := hM1p.out.length_eq; simpa [Hid] using this
        have hfin := cmb.out M1 (U2 ++ V2) hM1p.out (List.Perm.refl _) hM1s.out (by rw [hV2.out]; simpa using hsU.out.2)
        replace hfin := hid hfin
        go_wp2
        go_end0
        exact ⟨rfl, M1 ++ (U2 ++ V2), hfin.out, by simpa using hRB2⟩
      ·have hV1 : Hid (V1 = []) := List.eq_nil_of_length_eq_zero (by omega)
       by_cases hzV2 : 0 < V2.length
       ·have t1 : ((i : Int) < (m : Int)) := by omega
        have t2 : ¬ ((m : Int) < (e : Int)) := by omega
        have t3 : ¬ ((a : Int) < (i : Int)) := by omega
        have t5 : ((mid : Int) < (e : Int)) := by omega
        have t6 : ((e : Int) < (b : Int)) := by omega
        clear hia' him' hem' hmi' hme' heb' hNe' hi1'
        have hRA2 : Row w wr g (p ++ U1 ++ V1 ++ (U2 ++ V2) ++ s) pad := by have := hR0; rw [hV1.out] at this ⊢; simpa using this
        clear hR0
        obtain ⟨M1, hM1e⟩ : ∃ M1 : List Bytes, M1 = U1 ++ V1 := ⟨_, rfl⟩
        have hM1p : Hid (M1.Perm (U1 ++ V1)) := by unfold Hid; rw [hM1e]
        have hM1s : Hid (Sorted M1) := by unfold Hid; rw [hM1e, hU1.out]; simpa using hsV.out.1
        have hRB2 : Row w wr g (p ++ M1 ++ (U2 ++ V2) ++ s) pad := by rw [hM1e]; simpa using hRA2
        clear hRA2 hM1e
        have hlM : Hid (M1.length = U1.length + V1.length) := by have := hM1p.out.length_eq; simpa [Hid] using this
        have hcallC := ih.out g c (p ++ M1) U2 V2 s pad mid e b N w wr (by simpa using hRB2) hc hm (by have := hlM.out; rw [hNe.out]; simp; omega) (by have := hlM.out; have := hmi.out; have := hia.out; have := hi1.out; simp; omega) (by have := hlM.out; have := hme.out; have := hmi.out; have := hia.out; have := hi1.out; simp; omega) (by have := hlM.out; have := heb.out; have := hme.out; have := hmi.out; have := hia.out; have := hi1.out; simp; omega) (List.length_pos_iff.1 (by omega)) (List.length_pos_iff.1 (by omega)) hlen2.out hszV.out hsU.out.2 hsV.out.2
        replace hcallC := hid hcallC
        go_wp2_with fail
        refine hcallC.out.mono ?_
        rintro e' w4 ⟨rfl, M2, hM2, hRC⟩
        have hfin := cmb.out M1 M2 hM1p.out hM2.1 hM1s.out hM2.2
        replace hfin := hid hfin
        clear hM2 hcallC
        go_wp2
        go_end0
        exact ⟨rfl, M1 ++ M2, hfin.out, by simpa using hRC⟩
       ·have hV2 : Hid (V2 = []) := List.eq_nil_of_length_eq_zero (by omega)
        have t1 : ((i : Int) < (m : Int)) := by omega
        have t2 : ¬ ((m : Int) < (e : Int)) := by omega
        have t3 : ¬ ((a : Int) < (i : Int)) := by omega
        have t5 : ((mid : Int) < (e : Int)) := by omega
        have t6 : ¬ ((e : Int) < (b : Int)) := by omega
        clear hia' him' hem' hmi' hme' heb' hNe' hi1'
        have hRA2 : Row w wr g (p ++ U1 ++ V1 ++ (U2 ++ V2) ++ s) pad := by have := hR0; rw [hV1.out] at this ⊢; simpa using this
        clear hR0
        obtain ⟨M1, hM1e⟩ : ∃ M1 : List Bytes, M1 = U1 ++ V1 := ⟨_, rfl⟩
        have hM1p : Hid (M1.Perm (U1 ++ V1)) := by unfold Hid; rw [hM1e]
        have hM1s : Hid (Sorted M1) := by unfold Hid; rw [hM1e, hU1.out]; simpa using hsV.out.1
        have hRB2 : Row w wr g (p ++ M1 ++ (U2 ++ V2) ++ s) pad := by rw [hM1e]; simpa using hRA2
        clear hRA2 hM1e
        have hlM : Hid (M1.length = U1.length + V1.length) := by have := hM1p.out.length_eq; simpa [Hid] using this
        have hfin := cmb.out M1 (U2 ++ V2) hM1p.out (List.Perm.refl _) hM1s.out (by rw [hV2.out]; simpa using hsU.out.2)
        replace hfin := hid hfin
        go_wp2
        go_end0
        exact ⟨rfl, M1 ++ (U2 ++ V2), hfin.out, by simpa using hRB2⟩
     ·have hU2 : Hid (U2 = []) := List.eq_nil_of_length_eq_zero (by omega)
      by_cases hzV1 : 0 < V1.length
      ·by_cases hzV2 : 0 < V2.length
       ·have t1 : ¬ ((i : Int) < (m : Int)) := by omega
        have t3 : ¬ ((a : Int) < (i : Int)) := by omega
        have t5 : ¬ ((mid : Int) < (e : Int)) := by omega
        clear hia' him' hem' hmi' hme' heb' hNe' hi1'
        have hRA2 : Row w wr g (p ++ U1 ++ V1 ++ (U2 ++ V2) ++ s) pad := by have := hR0; rw [hU2.out] at this ⊢; simpa using this
        clear hR0
        obtain ⟨M1, hM1e⟩ : ∃ M1 : List Bytes, M1 = U1 ++ V1 := ⟨_, rfl⟩
        have hM1p : Hid (M1.Perm (U1 ++ V1)) := by unfold Hid; rw [hM1e]
        have hM1s : Hid (Sorted M1) := by unfold Hid; rw [hM1e, hU1.out]; simpa using hsV.out.1
        have hRB2 : Row w wr g (p ++ M1 ++ (U2 ++ V2) ++ s) pad := by rw [hM1e]; simpa using hRA2
        clear hRA2 hM1e
        have hlM : Hid (M1.length = U1.length + V1.length) := by have := hM1p.out.length_eq; simpa [Hid] using this
        have hfin := cmb.out M1 (U2 ++ V2) hM1p.out (List.Perm.refl _) hM1s.out (by rw [hU2.out]; simpa using hsV.out.2)
        replace hfin := hid hfin
        go_wp2
        go_end0
        exact ⟨rfl, M1 ++ (U2 ++ V2), hfin.out, by simpa using hRB2⟩
       ·have hV2 : Hid (V2 = []) := List.eq_nil_of_length_eq_zero (by omega)
        have t1 : ¬ ((i : Int) < (m : Int)) := by omega
        have t3 : ¬ ((a : Int) < (i : Int)) := by omega
        have t5 : ¬ ((mid : Int) < (e : Int)) := by omega
        clear hia' him' hem' hmi' hme' heb' hNe' hi1'
        have hRA2 : Row w wr g (p ++ U1 ++ V1 ++ (U2 ++ V2) ++ s) pad := by have := hR0; rw [hU2.out] at this ⊢; simpa using this
        clear hR0
        obtain ⟨M1, hM1e⟩ : ∃ M1 : List Bytes, M1 = U1 ++ V1 := ⟨_, rfl⟩
        have hM1p : Hid (M1.Perm (U1 ++ V1)) := by unfold Hid; rw [hM1e]
        have hM1s : Hid (Sorted M1) := by unfold Hid; rw [hM1e, hU1.out]; simpa using hsV.out.1
        have hRB2 : Row w wr g (p ++ M1 ++ (U2 ++ V2) ++ s) pad := by rw [hM1e]; simpa using hRA2
        clear hRA2 hM1e
        have hlM : Hid (M1.length = U1.length + V1.length) := by have := hM1p.out.length_eq; simpa [Hid] using this
        have hfin := cmb.out M1 (U2 ++ V2) hM1p.out (List.Perm.refl _) hM1s.out (by rw [hU2.out]; simpa using hsV.out.2)
        replace hfin := hid hfin
        go_wp2
        go_end0
        exact ⟨rfl, M1 ++ (U2 ++ V2), hfin.out, by simpa using hRB2⟩
      ·have hV1 : Hid (V1 = []) := List.eq_nil_of_length_eq_zero (by omega)
       by_cases hzV2 : 0 < V2.length
       ·have t1 : ¬ ((i : Int) < (m : Int)) := by omega
        have t3 : ¬ ((a : Int) < (i : Int)) := by omega
        have t5 : ¬ ((mid : Int) < (e : Int)) := by omega
        clear hia' him' hem' hmi' hme' heb' hNe' hi1'
        have hRA2 : Row w wr g (p ++ U1 ++ V1 ++ (U2 ++ V2) ++ s) pad := by have := hR0; rw [hU2.out] at this ⊢; simpa using this
        clear hR0
        obtain ⟨M1, hM1e⟩ : ∃ M1 : List Bytes, M1 = U1 ++ V1 := ⟨_, rfl⟩
        have hM1p : Hid (M1.Perm (U1 ++ V1)) := by unfold Hid; rw [hM1e]
        have hM1s : Hid (Sorted M1) := by unfold Hid; rw [hM1e, hU1.out]; simpa using hsV.out.1
        have hRB2 : Row w wr g (p ++ M1 ++ (U2 ++ V2) ++ s) pad := by rw [hM1e]; simpa using hRA2
        clear hRA2 hM1e
        have hlM : Hid (M1.length = U1.length + V1.length) := by have := hM1p.out.length_eq; simpa [Hid] using this
        have hfin := cmb.out M1 (U2 ++ V2) hM1p.out (List.Perm.refl _) hM1s.out (by rw [hU2.out]; simpa using hsV.out.2)
        replace hfin := hid hfin
        go_wp2
        go_end0
        exact ⟨rfl, M1 ++ (U2 ++ V2), hfin.out, by simpa using hRB2⟩
       ·have hV2 : Hid (V2 = []) := List.eq_nil_of_length_eq_zero (by omega)
        have t1 : ¬ ((i : Int) < (m : Int)) := by omega
        have t3 : ¬ ((a : Int) < (i : Int)) := by omega
        have t5 : ¬ ((mid : Int) < (e : Int)) := by omega
        clear hia' him' hem' hmi' hme' heb' hNe' hi1'
        have hRA2 : Row w wr g (p ++ U1 ++ V1 ++ (U2 ++ V2) ++ s) pad := by have := hR0; rw [hU2.out] at this ⊢; simpa using this
        clear hR0
        obtain ⟨M1, hM1e⟩ : ∃ M1 : List Bytes, M1 = U1 ++ V1 := ⟨_, rfl⟩
        have hM1p : Hid (M1.Perm (U1 ++ V1)) := by unfold Hid; rw [hM1e]
        have hM1s : Hid (Sorted M1) := by unfold Hid; rw [hM1e, hU1.out]; simpa using hsV.out.1
        have hRB2 : Row w wr g (p ++ M1 ++ (U2 ++ V2) ++ s) pad := by rw [hM1e]; simpa using hRA2
        clear hRA2 hM1e
        have hlM : Hid (M1.length = U1.length + V1.length) := by have := hM1p.out.length_eq; simpa [Hid] using this
        have hfin := cmb.out M1 (U2 ++ V2) hM1p.out (List.Perm.refl _) hM1s.out (by rw [hU2.out]; simpa using hsV.out.2)
        replace hfin := hid hfin
        go_wp2
        go_end0
        exact ⟨rfl, M1 ++ (U2 ++ V2), hfin.out, by simpa using hRB2⟩
theorem sym_ok : ∀ n, SymOk n
 | 0 => fun g c p U V s pad a m b N w W _ _ _ _ _ _ _ hU _ hn _ _ _ => by
  exfalso; exact hU (List.eq_nil_of_length_eq_zero (by omega))
 | n + 1 => fun g c p U V s pad a m b N w W hR hc hm hN ha hmm hb hU hV hn hsz sU sV => by
  have hu : 0 < U.length := List.length_pos_iff.2 hU
  have hv : 0 < V.length := List.length_pos_iff.2 hV
  by_cases h1 : U.length = 1
  ·obtain ⟨x, rfl⟩ := List.length_eq_one_iff.1 h1
   exact sym1_calls g c x p V s pad a m b N w W hR hc hm hN ha (by simpa using hmm) (by simpa using hb) (by simpa using hsz) sV
  ·by_cases h2 : V.length = 1
   ·obtain ⟨y, rfl⟩ := List.length_eq_one_iff.1 h2
    exact sym2_calls g c y p U s pad a m b N w W hR hc hm hN ha hmm (by simpa using hb) h1 (fun u hu => hsz u (by simp at hu ⊢; rcases hu with h | h; exact .inr h; exact .inl h)) sU
   ·exact sym_step n (sym_ok n) g c p U V s pad a m b N w W hR hc hm hN ha hmm hb (by omega) (by omega) hn hsz sU sV
end Go.Proofs.YtcjlfkklpghjbaaGreat

namespace Go.Proofs.YtcjlfkklpghjbaaGreat
open Go.RowKit Go.Lib
set_option linter.unusedVariables false
set_option linter.unusedSimpArgs false
/-- Below 'lim' each block of bs elements is in order. -/
def PB (bs lim : Nat) (l : List Bytes) : Prop := ∀ i j x y, i ≤ j → j < lim → i / bs = j / bs → l[i]? = some x → l[j]? = some y → leP x y
/-- From 'fr' on each block of bs elements is in order. -/
def PC (bs fr : Nat) (l : List Bytes) : Prop := ∀ i j x y, fr ≤ i → i ≤ j → i / bs = j / bs → l[i]? = some x → l[j]? = some y → leP x y
theorem sorted_of {M : List Bytes} (h : ∀ (i j : Nat) (x y : Bytes), i < j → M[i]? = some x → M[j]? = some y → leP x y) : Sorted M :=
 List.pairwise_iff_getElem.2 fun i j hi hj hij => h i j _ _ hij (List.getElem?_eq_getElem hi) (List.getElem?_eq_getElem hj)
theorem PB.block {bs k a : Nat} {p M M' s : List Bytes} (hbs : 0 < bs) (hp : p.length = a) (ha : a = bs * k) (hl : M'.length ≤ bs) (h : PB bs a (p ++ M ++ s)) (hs : Sorted M') : PB bs (a + M'.length) (p ++ M' ++ s) := by
 intro i j x y hij hj hb hx hy
 simp only [List.append_assoc] at hx hy
 by_cases hja : j < a
 ·rw [List.getElem?_append_left (by omega)] at hx hy
  refine h i j x y hij hja hb ?_ ?_
  ·rw [List.append_assoc, List.getElem?_append_left (by omega)]; exact hx
  ·rw [List.append_assoc, List.getElem?_append_left (by omega)]; exact hy
 ·have hjk : j / bs = k := by
   rw [Nat.div_eq_iff hbs]
   rw [Nat.mul_comm] at ha
   omega
  have hia : a ≤ i := by
   rw [hjk] at hb
   have := (Nat.div_eq_iff hbs).1 hb
   rw [Nat.mul_comm] at ha
   omega
  rw [get_right p _ _ (by omega), List.getElem?_append_left (by omega)] at hx hy
  exact sorted_get hs (by omega) hx hy
theorem PC.block {bs a b : Nat} {p M M' s : List Bytes} (hp : p.length = a) (hM : M.length = M'.length) (hb : b = a + M.length) (h : PC bs a (p ++ M ++ s)) : PC bs b (p ++ M' ++ s) := by
 intro i j x y hi hij hbl hx hy
 have e : ∀ k, b ≤ k → (p ++ M' ++ s)[k]? = (p ++ M ++ s)[k]? := fun k hk => by
  rw [get_right (p ++ M') _ _ (by simp; omega), get_right (p ++ M) _ _ (by simp; omega)]
  congr 1; simp; omega
 rw [e i hi] at hx
 rw [e j (by omega)] at hy
 exact h i j x y (by omega) hij hbl hx hy
theorem PC.sorted {bs k a : Nat} {p U s : List Bytes} (hbs : 0 < bs) (hp : p.length = a) (ha : a = bs * k) (hl : U.length ≤ bs) (h : PC bs a (p ++ U ++ s)) : Sorted U := by
 refine sorted_of fun i j x y hij hx hy => ?_
 have hj : j < U.length := (List.getElem?_eq_some_iff.1 hy).1
 refine h (a + i) (a + j) x y (by omega) (by omega) ?_ ?_ ?_
 ·rw [ha, Nat.mul_add_div hbs, Nat.mul_add_div hbs, Nat.div_eq_of_lt (by omega), Nat.div_eq_of_lt (by omega)]
 ·rw [List.append_assoc, get_right p _ _ (by omega), List.getElem?_append_left (by omega)]; rw [← hx]; congr 1; omega
 ·rw [List.append_assoc, get_right p _ _ (by omega), List.getElem?_append_left (by omega)]; rw [← hy]; congr 1; omega
theorem seg_split (l : List Bytes) (a b : Nat) (hab : a ≤ b) (hb : b ≤ l.length) : ∃ p M s : List Bytes, l = p ++ M ++ s ∧ p.length = a ∧ M.length = b - a ∧ s.length = l.length - b := by
 refine ⟨l.take a, (l.drop a).take (b - a), l.drop b, ?_, by simp; omega, by simp; omega, by simp⟩
 have e1 : l.drop b = (l.drop a).drop (b - a) := by rw [List.drop_drop]; congr 1; omega
 rw [e1, List.append_assoc, List.take_append_drop, List.take_append_drop]
set_option maxHeartbeats 8000000 in
set_option maxRecDepth 100000 in
theorem stable_calls (g c : Nat) (l : List Bytes) (pad : List Value) (N : Nat) (w W : World) (hR : Row w W g l pad) (hc : N ≤ c) (hm : N ≤ 2305843009213) (hN : N = l.length) (hsz : ∀ y ∈ l, y.length ≤ 16777216) :
  Calls Tryz.prog 119 #[.slice (some ⟨g, 0, none⟩) N c, .int .i64 N, .func (.func 103) #[] #[]] W fun e w' => e = .returned (.tuple #[]) ∧ ∃ l' : List Bytes, (l'.Perm l ∧ Sorted l') ∧ Row w w' g l' pad := by
 replace hN := hid hN
 go_enter Tryz.func119, Tryz.ntmps119
 go_wp2
 go_loopw [7, 8] (fun x y W' => ∃ (a b k : Nat) (l' : List Bytes), x = .int .i64 a ∧ y = .int .i64 b ∧ Hid (a = 20 * k) ∧ Hid (b = a + 20) ∧ a ≤ N ∧ b ≤ N + 20 ∧ Hid (l'.Perm l) ∧ Hid (PB 20 a l') ∧ Row w W' g l' pad) (fun x _ _ => N - (intOf x).toNat)
 case atStart => exact ⟨0, 20, 0, l, rfl, rfl, rfl, rfl, Nat.zero_le _, by omega, List.Perm.refl _, fun i j x y _ h => by omega, hR⟩
 case round =>
  clear hR
  obtain ⟨a, b, k, l', rfl, rfl, hak, hba, haN, hbN, hperm, hPB, hR⟩ := hrel
  have hlen : Hid (N = l'.length) := by rw [hperm.out.length_eq]; exact hN
  by_cases hlt : b ≤ N
  ·obtain ⟨p, M, s, hl', hp, hM, hs⟩ := seg_split l' a b (by have := hba.out; omega) (by have := hlen.out; omega)
   have hcall := insort_calls g c p M s pad a b N w wr (by rw [← hl']; exact hR) hc (by omega) (by rw [hlen.out, hl']) hp.symm (by have := hba.out; omega) (fun x hx => hsz x (hperm.out.mem_iff.1 (by rw [hl']; simp [hx])))
   replace hcall := hid hcall
   replace hl' := hid hl'
   replace hp := hid hp
   replace hM := hid hM
   clear hsz hs
   go_wp2_with fail
   refine hcall.out.mono ?_
   rintro e w2 ⟨rfl, M', hM', hR2⟩
   have hlM : M'.length = 20 := by have := hM'.1.length_eq; have := hM.out; have := hba.out; omega
   have hPB2 : Hid (PB 20 b (p ++ M' ++ s)) := by
    have := PB.block (M := M) (by omega) hp.out hak.out (by omega) (by rw [← hl'.out]; exact hPB.out) hM'.2 (s := s)
    rw [hlM, ← hba.out] at this; exact this
   have hperm2 : Hid ((p ++ M' ++ s).Perm l) := by
    refine List.Perm.trans ?_ hperm.out
    rw [hl'.out]
    exact List.Perm.append_right _ (List.Perm.append_left _ hM'.1)
   have hbk : Hid (b = 20 * (k + 1)) := by have := hba.out; have := hak.out; unfold Hid; omega
   replace hlM := hid hlM
   clear hcall hM' hPB hperm
   go_wp2
   go_roundw
   case measure => have := hba.out; simp [intOf]; omega
   case rel => exact ⟨b, b + 20, k + 1, _, rfl, by go_num, hbk, rfl, hlt, by omega, hperm2, hPB2, hR2⟩
  ·obtain ⟨p, M, s, hl', hp, hM, hs⟩ := seg_split l' a N haN (by have := hlen.out; omega)
   have hcall := insort_calls g c p M s pad a N N w wr (by rw [← hl']; exact hR) hc (by omega) (by rw [hlen.out, hl']) hp.symm (by omega) (fun x hx => hsz x (hperm.out.mem_iff.1 (by rw [hl']; simp [hx])))
   replace hcall := hid hcall
   replace hl' := hid hl'
   replace hp := hid hp
   replace hM := hid hM
   replace hs := hid hs
   replace hsz := hid hsz
   go_wp2_with fail
   refine hcall.out.mono ?_
   rintro e w2 ⟨rfl, M', hM', hR2⟩
   have hlM : M'.length = N - a := by have := hM'.1.length_eq; have := hM.out; omega
   have hPB2 : Hid (PB 20 N (p ++ M' ++ s)) := by
    have := PB.block (M := M) (by omega) hp.out hak.out (by have := hba.out; omega) (by rw [← hl'.out]; exact hPB.out) hM'.2 (s := s)
    rw [hlM, show a + (N - a) = N by omega] at this; exact this
   have hperm2 : Hid ((p ++ M' ++ s).Perm l) := by
    refine List.Perm.trans ?_ hperm.out
    rw [hl'.out]
    exact List.Perm.append_right _ (List.Perm.append_left _ hM'.1)
   generalize p ++ M' ++ s = l2 at *
   clear hcall hM' hPB hperm hlM hl' hp hM hs hlen hR hba hbN hlt haN hak
   go_wp2
   go_loopw [6] (fun x W' => ∃ (bs : Nat) (l' : List Bytes), x = .int .i64 bs ∧ 20 ≤ bs ∧ bs ≤ 2 * N + 20 ∧ Hid (l'.Perm l) ∧ Hid (PB bs N l') ∧ Row w W' g l' pad) (fun x _ => 2 * N + 20 - (intOf x).toNat)
   case atStart => exact ⟨20, l2, rfl, Nat.le_refl _, by omega, hperm2, hPB2, hR2⟩
   case round =>
    clear hperm2 hPB2 hR2
    obtain ⟨bs, l2, rfl, hbs, hbsN, hperm, hPB, hR⟩ := hrel
    have hlen : Hid (N = l2.length) := by rw [hperm.out.length_eq]; exact hN
    by_cases hlt : bs < N
    ·have hPC : Hid (PC bs 0 l2) := fun i j x y _ hij hb hx hy => hPB.out i j x y hij (by have := (List.getElem?_eq_some_iff.1 hy).1; have := hlen.out; omega) hb hx hy
     go_wp2
     go_loopw [7, 8] (fun x y W' => ∃ (a b k : Nat) (l' : List Bytes), x = .int .i64 a ∧ y = .int .i64 b ∧ Hid (a = 2 * bs * k) ∧ Hid (b = a + 2 * bs) ∧ a ≤ N ∧ b ≤ N + 2 * bs ∧ Hid (l'.Perm l) ∧ Hid (PB (2 * bs) a l') ∧ Hid (PC bs a l') ∧ Row w W' g l' pad) (fun x _ _ => N - (intOf x).toNat)
     case atStart => exact ⟨0, 2 * bs, 0, l2, rfl, by go_num, rfl, by simp [Hid], Nat.zero_le _, by omega, hperm, fun i j x y _ h => by omega, hPC, hR⟩
     case round =>
      clear hR hPC hPB hperm hlen
      obtain ⟨a, b, k, l3, rfl, rfl, hak, hba, haN, hbN, hperm, hPB, hPC, hR⟩ := hrel
      have hlen : Hid (N = l3.length) := by rw [hperm.out.length_eq]; exact hN
      have hak2 : Hid (a = bs * (2 * k)) := by unfold Hid; rw [hak.out, Nat.mul_comm 2 bs, Nat.mul_assoc]
      by_cases hlt2 : b ≤ N
      ·obtain ⟨p, M, s, hl', hp, hM, hs⟩ := seg_split l3 a b (by have := hba.out; omega) (by have := hlen.out; omega)
       obtain ⟨U, V, hUV, hlU, hlV⟩ := take_drop_len M bs (by have := hba.out; omega)
       subst hUV
       rw [hM] at hlV
       have hsU : Sorted U := PC.sorted (s := V ++ s) (by omega) hp hak2.out (by omega) (by rw [hl'] at hPC; simpa using hPC.out)
       have hsV : Sorted V := by
        have h2 := PC.block (M := U) (M' := U) (s := V ++ s) (b := a + bs) hp rfl (by omega) (by rw [hl'] at hPC; simpa using hPC.out)
        refine PC.sorted (bs := bs) (a := a + bs) (p := p ++ U) (s := s) (k := 2 * k + 1) (by omega) (by simp; omega) (by have := hak2.out; rw [Nat.mul_add]; omega) (by have := hba.out; omega) (by simpa using h2)
       have hcall := sym_ok (U.length + V.length) g c p U V s pad a (a + bs) b N w wr (by rw [hl'] at hR; simpa using hR) hc (by omega) (by rw [hlen.out, hl']; simp) hp.symm (by omega) (by have := hba.out; omega) (List.length_pos_iff.1 (by omega)) (List.length_pos_iff.1 (by have := hba.out; omega)) (Nat.le_refl _) (fun x hx => hsz.out x (hperm.out.mem_iff.1 (by rw [hl']; simp at hx ⊢; rcases hx with h | h; exact .inr (.inl h); exact .inr (.inr (.inl h))))) hsU hsV
       obtain ⟨mm, hmm⟩ : ∃ mm, a + bs = mm := ⟨_, rfl⟩
       rw [hmm] at hcall
       have hmI : (a : Int) + (bs : Int) = (mm : Int) := by omega
       have hmN : mm ≤ N := by have := hba.out; omega
       replace hcall := hid hcall
       replace hl' := hid hl'
       replace hp := hid hp
       replace hlU := hid hlU
       replace hlV := hid hlV
       replace hM := hid hM
       replace hmm := hid hmm
       clear hs hsU hsV
       go_wp2_with fail
       refine hcall.out.mono ?_
       rintro e w3 ⟨rfl, M', hM', hR3⟩
       have hlM : M'.length = 2 * bs := by have := hM'.1.length_eq; have := hlU.out; have := hlV.out; have := hM.out; have := hba.out; simp at *; omega
       have hPB2 : Hid (PB (2 * bs) b (p ++ M' ++ s)) := by
        have := PB.block (M := U ++ V) (by omega) hp.out hak.out (by omega) (by rw [← hl'.out]; exact hPB.out) hM'.2 (s := s)
        rw [hlM, ← hba.out] at this; exact this
       have hPC2 : Hid (PC bs b (p ++ M' ++ s)) := PC.block (M := U ++ V) hp.out (hM'.1.length_eq.symm) (by have := hM.out; have := hba.out; omega) (by rw [← hl'.out]; exact hPC.out)
       have hperm2 : Hid ((p ++ M' ++ s).Perm l) := by
        refine List.Perm.trans ?_ hperm.out
        rw [hl'.out]
        exact List.Perm.append_right _ (List.Perm.append_left _ hM'.1)
       have hbk : Hid (b = 2 * bs * (k + 1)) := by have := hba.out; have := hak.out; unfold Hid; rw [Nat.mul_add]; omega
       replace hlM := hid hlM
       clear hcall hM' hPB hPC hperm hR hmI
       go_wp2
       go_roundw
       case measure => have := hba.out; simp [intOf]; omega
       case rel => exact ⟨b, b + 2 * bs, k + 1, _, rfl, by go_num, hbk, rfl, hlt2, by omega, hperm2, hPB2, hPC2, hR3⟩
      ·by_cases hlt3 : a + bs < N
       ·obtain ⟨p, M, s, hl', hp, hM, hs⟩ := seg_split l3 a N haN (by have := hlen.out; omega)
        obtain ⟨U, V, hUV, hlU, hlV⟩ := take_drop_len M bs (by omega)
        subst hUV
        rw [hM] at hlV
        have hsU : Sorted U := PC.sorted (s := V ++ s) (by omega) hp hak2.out (by omega) (by rw [hl'] at hPC; simpa using hPC.out)
        have hsV : Sorted V := by
         have h2 := PC.block (M := U) (M' := U) (s := V ++ s) (b := a + bs) hp rfl (by omega) (by rw [hl'] at hPC; simpa using hPC.out)
         refine PC.sorted (bs := bs) (a := a + bs) (p := p ++ U) (s := s) (k := 2 * k + 1) (by omega) (by simp; omega) (by have := hak2.out; rw [Nat.mul_add]; omega) (by have := hba.out; omega) (by simpa using h2)
        have hcall := sym_ok (U.length + V.length) g c p U V s pad a (a + bs) N N w wr (by rw [hl'] at hR; simpa using hR) hc (by omega) (by rw [hlen.out, hl']; simp) hp.symm (by omega) (by omega) (List.length_pos_iff.1 (by omega)) (List.length_pos_iff.1 (by omega)) (Nat.le_refl _) (fun x hx => hsz.out x (hperm.out.mem_iff.1 (by rw [hl']; simp at hx ⊢; rcases hx with h | h; exact .inr (.inl h); exact .inr (.inr (.inl h))))) hsU hsV
        obtain ⟨mm, hmm⟩ : ∃ mm, a + bs = mm := ⟨_, rfl⟩
        rw [hmm] at hcall
        have hmI : (a : Int) + (bs : Int) = (mm : Int) := by omega
        have hmN : mm < N := by omega
        replace hcall := hid hcall
        replace hl' := hid hl'
        replace hp := hid hp
        replace hlU := hid hlU
        replace hlV := hid hlV
        replace hM := hid hM
        replace hmm := hid hmm
        replace hs := hid hs
        clear hsU hsV
        go_wp2_with fail
        refine hcall.out.mono ?_
        rintro e w3 ⟨rfl, M', hM', hR3⟩
        have hlM : M'.length = N - a := by have := hM'.1.length_eq; have := hM.out; simp at *; omega
        have hPB2 : Hid (PB (2 * bs) N (p ++ M' ++ s)) := by
         have := PB.block (M := U ++ V) (by omega) hp.out hak.out (by have := hba.out; omega) (by rw [← hl'.out]; exact hPB.out) hM'.2 (s := s)
         rw [hlM, show a + (N - a) = N by omega] at this; exact this
        have hperm2 : Hid ((p ++ M' ++ s).Perm l) := by
         refine List.Perm.trans ?_ hperm.out
         rw [hl'.out]
         exact List.Perm.append_right _ (List.Perm.append_left _ hM'.1)
        replace hlM := hid hlM
        clear hcall hM' hPB hPC hperm hR hmI
        go_wp2
        go_roundw
        case measure => simp [intOf]; omega
        case rel => exact ⟨bs * 2, _, by go_num, by omega, by omega, hperm2, by rw [Nat.mul_comm bs 2]; exact hPB2, hR3⟩
       ·have hPB2 : Hid (PB (2 * bs) N l3) := by
         obtain ⟨p, M, s, hl', hp, hM, hs⟩ := seg_split l3 a N haN (by have := hlen.out; omega)
         have hsM : Sorted M := PC.sorted (s := s) (by omega) hp hak2.out (by omega) (by rw [← hl']; exact hPC.out)
         have := PB.block (M := M) (by omega) hp hak.out (by omega) (by rw [← hl']; exact hPB.out) hsM (s := s)
         rw [hM, show a + (N - a) = N by omega, ← hl'] at this; exact this
        have hmN : ¬ ((a : Int) + (bs : Int) < (N : Int)) := by omega
        clear hPB hPC
        go_wp2
        go_roundw
        case measure => simp [intOf]; omega
        case rel => exact ⟨bs * 2, _, by go_num, by omega, by omega, hperm, by rw [Nat.mul_comm bs 2]; exact hPB2, hR⟩
    ·have hfin : Hid (Sorted l2) := by
      refine sorted_of fun i j x y hij hx hy => hPB.out i j x y (by omega) ?_ ?_ hx hy
      ·have := (List.getElem?_eq_some_iff.1 hy).1; have := hlen.out; omega
      ·have := (List.getElem?_eq_some_iff.1 hy).1; have := hlen.out
       rw [Nat.div_eq_of_lt (by omega), Nat.div_eq_of_lt (by omega)]
     clear hPB
     go_wp2
     go_end0
     exact ⟨rfl, l2, ⟨hperm.out, hfin.out⟩, hR⟩
end Go.Proofs.YtcjlfkklpghjbaaGreat

namespace Go.Proofs.YtcjlfkklpghjbaaGreat
open Go.RowKit Go.Lib
set_option linter.unusedVariables false
set_option linter.unusedSimpArgs false
theorem leP_antisymm {a b : Bytes} (h : leP a b) (k : leP b a) : a = b := by
 unfold leP at *
 rw [cmpP_swap a b] at k
 exact cmpP_eq (by omega)
theorem sorted_unique : ∀ {l1 l2 : List Bytes}, l1.Perm l2 → Sorted l1 → Sorted l2 → l1 = l2
 | [], l2, h, _, _ => (List.Perm.nil_eq h)
 | a :: l1, [], h, _, _ => by have := h.length_eq; simp at this
 | a :: l1, b :: l2, h, h1, h2 => by
  have hab : a = b := by
   have ha : a ∈ b :: l2 := h.mem_iff.1 (by simp)
   have hb : b ∈ a :: l1 := h.mem_iff.2 (by simp)
   rcases List.mem_cons.1 ha with e | e
   ·exact e
   ·rcases List.mem_cons.1 hb with e' | e'
    ·exact e'.symm
    ·exact leP_antisymm ((List.pairwise_cons.1 h1).1 b e') ((List.pairwise_cons.1 h2).1 a e)
  subst hab
  rw [sorted_unique ((List.perm_cons a).1 h) (List.pairwise_cons.1 h1).2 (List.pairwise_cons.1 h2).2]
def sortP (l : List Bytes) : List Bytes := l.mergeSort fun a b => decide (cmpP a b ≤ 0)
theorem sortP_perm (l : List Bytes) : (sortP l).Perm l := List.mergeSort_perm _ _
theorem sortP_sorted (l : List Bytes) : Sorted (sortP l) := by
 have h := List.pairwise_mergeSort (le := fun a b => decide (cmpP a b ≤ 0)) (fun a b c h k => by
  simp only [decide_eq_true_eq] at *
  exact leP_trans (a := a) (b := b) (c := c) h k) (fun a b => by
  simp only [Bool.or_eq_true, decide_eq_true_eq]
  rw [cmpP_swap a b]; omega) l
 exact h.imp (fun h => by unfold leP; simpa using h)
theorem sortP_eq {l l' : List Bytes} (h : l'.Perm l) (hs : Sorted l') : l' = sortP l := sorted_unique (h.trans (sortP_perm l).symm) hs (sortP_sorted l)
/-- Shapes of a row of the call's own that holds strings. -/
theorem Strs.block {B : Nat} {W : World} {v : Value} {l : List Bytes} (h : Strs B W v l) : (∃ c, v = .slice none 0 0 ∧ l = [] ∧ c = 0) ∨
  (∃ g c pad, v = .slice (some ⟨g, 0, none⟩) l.length c ∧ B ≤ g ∧ W.heap[g]? = some (.cells (strs l ++ pad).toArray 9 (0, 0)) ∧ l.length ≤ c ∧ c ≤ maxLen ∧ l.length + pad.length = c) := by
 rcases h.2 with ⟨h1, h2⟩ | ⟨g, cap, cur, h1, h2, h3, h4, h5, h6, h7⟩
 ·exact .inl ⟨0, h1, List.eq_nil_of_length_eq_zero h2, rfl⟩
 ·have hl : (strs l).length = l.length := by simp [strs]
  refine .inr ⟨g, cap, cur.toList.drop l.length, h1, h2, ?_, h4, h5, ?_⟩
  ·rw [h3]
   congr 2
   rw [← h7, Nat.mul_one, List.take_append_drop]
  ·simp; omega
theorem Strs.of_block {B g c : Nat} {W : World} {l : List Bytes} {pad : List Value} (hg : B ≤ g) (h : W.heap[g]? = some (.cells (strs l ++ pad).toArray 9 (0, 0))) (hc : l.length ≤ c) (hm : c ≤ maxLen) (hp : l.length + pad.length = c) : Strs B W (.slice (some ⟨g, 0, none⟩) l.length c) l := by
 have hl : (strs l).length = l.length := by simp [strs]
 refine ⟨by simp [strs], .inr ⟨g, c, _, rfl, hg, h, hc, hm, by simp; omega, ?_⟩⟩
 rw [Nat.mul_one, ← hl]; simp
set_option maxHeartbeats 2000000 in
set_option maxRecDepth 100000 in
theorem sortstable_calls (g c : Nat) (l : List Bytes) (pad : List Value) (w W : World) (hR : Row w W g l pad) (hc : l.length ≤ c) (hm : l.length ≤ 2305843009213) (hsz : ∀ y ∈ l, y.length ≤ 16777216) :
  Calls Tryz.prog 102 #[.slice (some ⟨g, 0, none⟩) l.length c, .func (.func 103) #[] #[]] W fun e w' => e = .returned (.tuple #[]) ∧ Row w w' g (sortP l) pad := by
 have hcall := stable_calls g c l pad l.length w W hR hc hm rfl hsz
 replace hcall := hid hcall
 go_enter Tryz.func102, Tryz.ntmps102
 go_wp2_with fail
 refine hcall.out.mono ?_
 rintro e w2 ⟨rfl, l', ⟨h1, h2⟩, hR2⟩
 rw [sortP_eq h1 h2] at hR2
 clear h1 h2
 go_wp2
 go_end0
 exact ⟨rfl, hR2⟩
set_option maxHeartbeats 2000000 in
set_option maxRecDepth 100000 in
theorem insort_nil (f : Value) (W : World) :
  Calls Tryz.prog 127 #[.slice none 0 0, .int .i64 0, .int .i64 0, f] W fun e w' => e = .returned (.tuple #[]) ∧ W = w' := by
 go_enter Tryz.func127, Tryz.ntmps127
 go_wp2
 refine wp_loop_rounds 1 ?_
 rw [rounds_succ]
 go_wp2
 go_end0
 exact ⟨rfl, rfl⟩
set_option maxHeartbeats 2000000 in
set_option maxRecDepth 100000 in
theorem stable_nil (f : Value) (W : World) :
  Calls Tryz.prog 119 #[.slice none 0 0, .int .i64 0, f] W fun e w' => e = .returned (.tuple #[]) ∧ W = w' := by
 have hcall := fun W => insort_nil f W
 replace hcall := hid hcall
 go_enter Tryz.func119, Tryz.ntmps119
 go_wp2
 refine wp_loop_rounds 1 ?_
 rw [rounds_succ]
 go_wp2_with fail
 refine (hcall.out _).mono ?_
 rintro e w2 ⟨rfl, rfl⟩
 go_wp2
 refine wp_loop_rounds 1 ?_
 rw [rounds_succ]
 go_wp2
 go_end0
 exact ⟨rfl, rfl⟩
set_option maxHeartbeats 2000000 in
set_option maxRecDepth 100000 in
theorem sortstable_nil (W : World) :
  Calls Tryz.prog 102 #[.slice none 0 0, .func (.func 103) #[] #[]] W fun e w' => e = .returned (.tuple #[]) ∧ W = w' := by
 have hcall := fun W => stable_nil (.func (.func 103) #[] #[]) W
 replace hcall := hid hcall
 go_enter Tryz.func102, Tryz.ntmps102
 go_wp2_with fail
 refine (hcall.out _).mono ?_
 rintro e w2 ⟨rfl, rfl⟩
 go_wp2
 go_end0
 exact ⟨rfl, rfl⟩
theorem slice_is_nil (w : World) (A : Option Addr) (n c : Nat) : (binOp .eql 62 (.slice A n c) (.slice none 0 0)).run Tryz.prog w = .ok (.bool A.isNone) w := Lib.run_eql_slice_nil w 62 9 A n c 0 0 Tryz.underlying62
set_option maxHeartbeats 2000000 in
set_option maxRecDepth 100000 in
theorem clone_calls (v : Value) (l : List Bytes) (w : World) (hR : Rd w v l) (hm : l.length ≤ 2305843009213) :
  Calls Tryz.prog 101 #[v] w fun e w' => (∃ v', e = .returned v' ∧ Strs w.heap.size w' v' l) ∧ Below w.heap.size w w' := by
 obtain ⟨A, c, rfl, hc1, hc2⟩ := hR.shape
 have hnil := slice_is_nil w A l.length c
 cases A with
 | none =>
  have hl : l = [] := by
   cases l with
   | nil => rfl
   | cons x xs => obtain ⟨g, o, h1, _⟩ := hR.cell (j := 0) (by simp); cases h1
  subst hl
  have hnil' : (binOp .eql 62 (.slice none 0 c) (.slice none 0 0)).run Tryz.prog w = .ok (.bool true) w := hnil
  clear hnil
  go_enter Tryz.func101, Tryz.ntmps101
  go_wp2
  go_ret
  exact ⟨⟨_, rfl, World.ownsRow_nil _ _ _ _⟩, Below.refl _ _⟩
 | some ad =>
  have hnil' : (binOp .eql 62 (.slice (some ad) l.length c) (.slice none 0 0)).run Tryz.prog w = .ok (.bool false) w := hnil
  clear hnil
  have hown : (w.alloc (.cells #[] 9)).ownsRow w.heap.size 9 1 (.slice (some ⟨w.heap.size, 0, none⟩) 0 0) 0 [] := own_made w w.heap.size 9 1 0 [] (Nat.le_refl _) rfl (by simp [maxLen])
  have hnews : ∀ j u, (strs l)[j]? = some u → (w.alloc (.cells #[] 9)).cell? (ad.add j) = some u := by
   intro j u hj
   have hjl : j < l.length := by have := (List.getElem?_eq_some_iff.1 hj).1; simpa [strs] using this
   obtain ⟨g, o, h1, h2⟩ := hR.cell hjl
   injection h1 with h1
   subst h1
   have e : (⟨g, o, none⟩ : Addr).add j = ⟨g, o + j, none⟩ := by unfold Addr.add; split <;> simp_all
   rw [e]
   have e2 : u = .string (mkS l[j]) := by
    simp only [strs, List.getElem?_map, List.getElem?_eq_getElem hjl, Option.map_some, Option.some.injEq] at hj
    exact hj.symm
   rw [e2]
   exact Lib.cell?_alloc_some _ h2
  obtain ⟨i0, hi, hzz⟩ := Option.map_eq_some_iff.1 info_string
  simp only [Prod.mk.injEq] at hzz
  obtain ⟨hz0, hz1, hz2⟩ := hzz
  replace hown := hid hown
  replace hnews := hid hnews
  replace hi := hid hi
  replace hz0 := hid hz0
  replace hz1 := hid hz1
  replace hz2 := hid hz2
  clear hR
  go_enter Tryz.func101, Tryz.ntmps101
  go_wp2_with (at_builtin; refine wpList_append_own_at _ rfl (.tmp 5) (.tmp 6) 62 rfl w.heap.size 9 i0 (.string ⟨#[]⟩) 1 16 Tryz.underlying62 hi.out hz0.out hz1.out hz2.out rfl (by decide) (.slice (some ⟨w.heap.size, 0, none⟩) 0 0) 0 [] rfl hown.out ad l.length c (strs l) rfl ?_ hnews.out ?_ ?_ ?_ ?_ ?_)
  ·simp [strs]
  ·intro u hu
   simp only [strs, List.mem_map] at hu
   obtain ⟨x, _, rfl⟩ := hu
   rfl
  ·simp only [maxLen]; omega
  ·omega
  ·simp
  ·intro v1 w1 ho1 hg1 _ _
   have hO : Strs w.heap.size w1 v1 l := by
    unfold Strs
    simpa using ho1
   have hB : Below w.heap.size w w1 := (below_alloc (Below.refl _ _) _).grown hg1 (by simp) (fun b hb => by simp [Value.ownBlock] at hb; omega)
   clear ho1 hg1
   go_wp2
   go_ret
   exact ⟨⟨_, rfl, hO⟩, hB⟩
set_option maxHeartbeats 2000000 in
set_option maxRecDepth 100000 in
theorem sort_calls (v : Value) (l : List Bytes) (w : World) (hR : Rd w v l) (hm : l.length ≤ 2305843009213) (hsz : ∀ y ∈ l, y.length ≤ 16777216) :
  Calls Tryz.prog 60 #[v] w fun e w' => (∃ v', e = .returned v' ∧ Strs w.heap.size w' v' (sortP l)) ∧ Below w.heap.size w w' := by
 have h1 := clone_calls v l w hR hm
 replace h1 := hid h1
 go_enter Tryz.func60, Tryz.ntmps60
 go_wp2_with fail
 refine h1.out.mono ?_
 rintro e w1 ⟨⟨v1, rfl, hO1⟩, hB1⟩
 rcases hO1.block with ⟨_, rfl, hl, _⟩ | ⟨g, c, pad, rfl, hg, hh, hlc, hcm, hlp⟩
 ·subst hl
  have hcall : Calls Tryz.prog 102 #[.slice none 0 0, .func (.func 103) #[] #[]] w1 fun e w' => e = .returned (.tuple #[]) ∧ w1 = w' := sortstable_nil w1
  replace hcall := hid hcall
  clear h1
  go_wp2_with fail
  refine hcall.out.mono ?_
  rintro e w2 ⟨rfl, rfl⟩
  go_wp2
  go_ret
  exact ⟨⟨_, rfl, by simpa [sortP] using hO1⟩, hB1⟩
 ·have hcall := sortstable_calls g c l pad w1 w1 (Row.start hh) hlc hm hsz
  replace hcall := hid hcall
  replace hlp := hid hlp
  clear h1 hO1 hh
  go_wp2_with fail
  refine hcall.out.mono ?_
  rintro e w2 ⟨rfl, hR2⟩
  have hB2 : Below w.heap.size w w2 := hB1.grown hR2.kept hB1.size (fun b hb => by cases hb; exact hg)
  have hlen : (sortP l).length = l.length := (sortP_perm l).length_eq
  have hO2 : Strs w.heap.size w2 (.slice (some ⟨g, 0, none⟩) l.length c) (sortP l) := by
   have := Strs.of_block (B := w.heap.size) (c := c) hg hR2.h (by omega) hcm (by have := hlp.out; omega)
   rwa [hlen] at this
  replace hlen := hid hlen
  clear hcall hR2
  go_wp2
  go_ret
  exact ⟨⟨_, rfl, hO2⟩, hB2⟩
end Go.Proofs.YtcjlfkklpghjbaaGreat

namespace Go.Proofs.YtcjlfkklpghjbaaGreat
open Go.RowKit
theorem lexB_antisymm : ∀ {x y : Bytes}, x ≤ y → y ≤ x → x = y := fun h k => List.le_antisymm h k
theorem lexB_total (x y : Bytes) : x ≤ y ∨ y ≤ x := List.le_total x y
theorem lexB_trans {x y z : Bytes} (h : x ≤ y) (k : y ≤ z) : x ≤ z := List.le_trans h k
theorem sortB_perm (l : List Bytes) : (sortB l).Perm l := List.mergeSort_perm _ _
theorem sortB_sorted (l : List Bytes) : (sortB l).Pairwise (· ≤ ·) := by
 have := List.pairwise_mergeSort (le := fun a b : Bytes => decide (a ≤ b)) (fun a b c => by simpa using fun h k => lexB_trans h k) (fun a b => by simpa using lexB_total a b) l
 exact this.imp (by simp)
theorem risingB_unique : ∀ {l1 l2 : List Bytes}, l1.Perm l2 → l1.Pairwise (· ≤ ·) → l2.Pairwise (· ≤ ·) → l1 = l2
 | [], l2, h, _, _ => by simpa using h.symm.eq_nil.symm
 | a :: l1, [], h, _, _ => by simpa using h.eq_nil
 | a :: l1, b :: l2, h, h1, h2 => by
  obtain ⟨ha, h1'⟩ := List.pairwise_cons.1 h1
  obtain ⟨hb, h2'⟩ := List.pairwise_cons.1 h2
  have e : a = b := by
   have m1 : a ∈ b :: l2 := h.mem_iff.1 (List.mem_cons_self ..)
   have m2 : b ∈ a :: l1 := h.mem_iff.2 (List.mem_cons_self ..)
   rcases List.mem_cons.1 m1 with e | m1
   ·exact e
   ·rcases List.mem_cons.1 m2 with e | m2
    ·exact e.symm
    ·exact lexB_antisymm (ha b m2) (hb a m1)
  subst e
  rw [risingB_unique ((List.perm_cons a).1 h) h1' h2']
theorem sortB_of_perm {l l' : List Bytes} (h : l.Perm l') : sortB l = sortB l' := risingB_unique ((sortB_perm l).trans (h.trans (sortB_perm l').symm)) (sortB_sorted l) (sortB_sorted l')
/-- sort.Strings over a row of its own block. -/
theorem sortStrings_calls (g c : Nat) (l : List Bytes) (pad : List Value) (w : World) (hh : w.heap[g]? = some (.cells (strs l ++ pad).toArray 9 (0, 0))) (hl : l.length < 4611686018427387904) :
  Calls Tryz.prog 118 #[.slice (some ⟨g, 0, none⟩) l.length c] w fun e w' => e = .returned (.tuple #[]) ∧ Row w w' g (sortB l) pad := by
 have hlt : g < w.heap.size := (Array.getElem?_eq_some_iff.1 hh).1
 have hH : Sort.Holds encStr w g 0 l.toArray := by
  intro j hj
  have hj' : j < l.length := by simpa using hj
  refine ⟨?_, by simp [World.frozen?, hh]⟩
  rw [Nat.zero_add]
  refine cell_of hh ?_
  simp only [List.getElem?_toArray]
  rw [List.getElem?_append_left (by simpa [strs] using hj')]
  simp [strs, mkS, hj']
 refine (sh_sort_Strings g 0 c l w hH hlt hl).mono ?_
 rintro e w' ⟨rfl, n, os, rfl⟩
 refine ⟨rfl, hlt, ?_, ?_⟩
 ·rw [Sort.heap_grow_old _ _ (by simpa [Sort.putRow, Sort.mapBlock, Sort.ahead] using hlt)]
  simp only [Sort.putRow, Sort.mapBlock, Sort.ahead, Array.getElem?_modify, if_true, hh, Option.map_some, Sort.onCells]
  congr 2
  have hsl : (sortB l).length = l.length := (sortB_perm l).length_eq
  apply Array.ext_getElem?
  intro k
  simp only [Sort.putCells, Array.getElem?_mapIdx, List.getElem?_toArray, List.size_toArray]
  have e0 : (l.mergeSort fun x y => decide (x ≤ y)) = sortB l := rfl
  rw [e0]
  by_cases hk : k < l.length
  ·rw [List.getElem?_append_left (by simpa [strs] using hk), List.getElem?_append_left (by simpa [strs, hsl] using hk)]
   simp [strs, hk, hsl, mkS]
  ·rw [List.getElem?_append_right (by simpa [strs] using hk), List.getElem?_append_right (by simpa [strs, hsl] using hk)]
   simp only [strs, List.length_map, hsl]
   cases pad[k - l.length]? with
   | none => rfl
   | some x =>
    simp only [Option.map_some, Option.some.injEq]
    rw [if_neg (by omega)]
 ·refine ⟨rfl, rfl, rfl, by simp [Sort.putRow, Sort.mapBlock, Sort.ahead], fun i hi hne => ?_⟩
  rw [Sort.heap_grow_old _ _ (by simpa [Sort.putRow, Sort.mapBlock, Sort.ahead] using hi)]
  simp only [Sort.putRow, Sort.mapBlock, Sort.ahead, Array.getElem?_modify]
  rw [if_neg (fun e => hne (by rw [e]))]
end Go.Proofs.YtcjlfkklpghjbaaGreat

namespace Go.Proofs.YtcjlfkklpghjbaaGreat
open Go.RowKit
theorem kids_few (T : Fs) (p : Pt) : (T.kids p).length ≤ T.names.length := List.length_filterMap_le _ _
theorem entries_pick {A : Nat → Nat} {L : List (Bytes × Nat)} {left left' : List (Value × Value)} {x v : Value} (h : left.Perm (entries A L)) (k : left.Perm ((x, v) :: left')) :
  ∃ y j L', L.Perm ((y, j) :: L') ∧ x = .string (mkS y) ∧ v = ptr (A j) ∧ left'.Perm (entries A L') := by
 have hm : (x, v) ∈ entries A L := (k.symm.trans h).mem_iff.1 (List.mem_cons_self ..)
 obtain ⟨⟨y, j⟩, hy, he⟩ := List.mem_map.1 hm
 simp only [Prod.mk.injEq] at he
 obtain ⟨s, t, rfl⟩ := List.append_of_mem hy
 refine ⟨y, j, s ++ t, List.perm_middle, he.1.symm, he.2.symm, ?_⟩
 have h1 : (entries A (s ++ (y, j) :: t)).Perm ((x, v) :: entries A (s ++ t)) := by
  have : entries A (s ++ (y, j) :: t) = entries A s ++ (x, v) :: entries A t := by simp [entries, he.1, he.2]
  rw [this]
  refine List.perm_middle.trans ?_
  simp [entries]
 exact (List.perm_cons _).1 (k.symm.trans (h.trans h1))
theorem row_of_own {w : World} {base g n c : Nat} {l : List Bytes} (h : w.ownsRow base 9 1 (.slice (some ⟨g, 0, none⟩) n c) n (strs l)) :
  ∃ pad, w.heap[g]? = some (.cells (strs l ++ pad).toArray 9 (0, 0)) ∧ l.length = n ∧ n + pad.length = c ∧ c ≤ maxLen ∧ base ≤ g := by
 obtain ⟨h1, ⟨e, _⟩ | ⟨g', cap, cur, e, h2, h3, h4, h5, h6, h7⟩⟩ := h
 ·cases e
 ·simp only [Value.slice.injEq, Option.some.injEq, Addr.mk.injEq, and_true, true_and] at e
  obtain ⟨rfl, rfl⟩ := e
  have hl : l.length = n := by simpa [strs] using h1
  refine ⟨cur.toList.drop n, ?_, hl, ?_, h5, h2⟩
  ·rw [h3, ← h7, Nat.mul_one, List.take_append_drop]
  ·simp [h6]
   omega
theorem entries_nil {A : Nat → Nat} {L : List (Bytes × Nat)} (h : ([] : List (Value × Value)).Perm (entries A L)) : L = [] := by
 have := h.symm.eq_nil
 simpa [entries] using this
set_option maxHeartbeats 2000000 in
set_option maxRecDepth 100000 in
theorem names_calls (tb : Nat) (A M : Nat → Nat) (T : Fs) (p : Pt) (i : Nat) (w : World) (hR : Rep w tb A M T) (hp : (p, i) ∈ T.names) (h2 : (T.nd i).kind = 2) (hf : T.names.length ≤ 1000000) :
  Calls Tryz.prog 100 #[ptr (A i)] w fun e w' => (∃ v, e = .returned v ∧ Strs w.heap.size w' v (sortB ((T.kids p).map (·.1)))) ∧ Below w.heap.size w w' := by
 have hM := hR.kids p i hp h2
 have hKl := Nat.le_trans (kids_few T p) hf
 obtain ⟨dv, _, hnode⟩ := hR.node i ⟨p, hp⟩
 have c11 : w.cell? ⟨A i, 11, none⟩ = some (kidsV (T.nd i) (M i)) := cell_of hnode rfl
 rw [kidsV, if_pos h2] at c11
 have hAlt : A i < w.heap.size := hR.lt (Or.inr (Or.inl ⟨i, ⟨p, hp⟩, rfl⟩))
 have hMlt := hM.lt
 have hlen : ∀ ty, (Builtin.len_ #[85] ty #[.map (some (M i))]).run Tryz.prog w = .ok (.int .i64 (T.kids p).length) w := fun ty => by
  rw [hM.len under_kids ty]
  simp [entries]
 clear hR hnode
 generalize T.kids p = K at *
 obtain ⟨i0, hi, hzz⟩ := Option.map_eq_some_iff.1 info_string
 simp only [Prod.mk.injEq] at hzz
 obtain ⟨hz0, hz1, hz2⟩ := hzz
 replace hM := hid hM
 replace hi := hid hi
 replace hz0 := hid hz0
 replace hz1 := hid hz1
 replace hz2 := hid hz2
 unfold ptr
 go_enter Tryz.func100, Tryz.ntmps100
 go_wp2_with (at_make; refine wpList_make_own _ rfl _ _ 62 rfl w.heap.size 9 i0 (.string ⟨#[]⟩) 1 Tryz.underlying62 hi.out hz0.out hz1.out .i64 .i64 _ K.length rfl rfl rfl (by rw [hz2.out]; omega) (by unfold maxLen; omega) (Nat.le_refl _) ?_)
 intro w0 hO0 hg0
 have c11' : w0.cell? ⟨A i, 11, none⟩ = some (.map (some (M i))) := by
  have := hg0.block (A i) hAlt (by simp)
  simpa [World.cell?, this] using c11
 have hM0 : MapIs w0 (M i) (entries A K) := hM.out.kept hg0 (by simp)
 have hO0lt := hO0.lt w.heap.size rfl
 replace hM0 := hid hM0
 try go_frame
 go_wp2_with (at_range; refine wp_range _ rfl _ 85 rfl 9 80 under_kids (M i) _ rfl hM0.out ?_)
 intro w1 hrg1 hg1 hs1
 have hO1 : w1.ownsRow w.heap.size 9 1 (.slice (some ⟨w.heap.size, 0, none⟩) 0 K.length) 0 [] := own_kept hO0 hg1 (fun b hb => by simp)
 have hB1 : Below w.heap.size w w1 := ⟨hg1.os.trans hg0.os, hg1.tape.trans hg0.tape, hg1.output.trans hg0.output, Nat.le_trans hg0.size hg1.size, fun k hk => (hg1.block k (Nat.lt_of_lt_of_le hk hg0.size) (by simp)).trans (hg0.block k hk (by simp))⟩
 generalize w0.heap.size = r at *
 go_wp2
 try go_frame
 go_loopw [3, 4] (fun v x wr => ∃ (done leftK : List (Bytes × Nat)) (left : List (Value × Value)), v = .slice (some ⟨w.heap.size, 0, none⟩) done.length K.length ∧ wr.ownsRow w.heap.size 9 1 v done.length (strs (done.map (·.1))) ∧ Ranges wr (M i) r (entries A K) left ∧ left.Perm (entries A leftK) ∧ K.Perm (done ++ leftK) ∧ Below w.heap.size w wr) (fun _ _ wr => wr.rangeLeft (M i) r)
 case atStart => exact ⟨[], K, _, rfl, hO1, hrg1, .refl _, .refl _, hB1⟩
 case round =>
  clear hO1 hB1 hrg1 hg1 hs1 hM0 c11' hO0 hg0 hlen c11
  obtain ⟨done, leftK, left, rfl, hO, hrg, hL, hK, hB⟩ := hrel
  replace hK := hid hK
  replace hL := hid hL
  go_wp2_with (at_next; refine wp_next _ rfl _ rfl (M i) r _ _ rfl hrg ?_ ?_)
  ·intro hl0
   have hLK : leftK = [] := entries_nil (A := A) (by have := hL.out; rwa [hl0] at this)
   have hKd : ((done.map (·.1)) : List Bytes).Perm (K.map (·.1)) := by
    have := hK.out
    rw [hLK, List.append_nil] at this
    exact (this.map (·.1)).symm
   obtain ⟨pad, hblk, hdl, hpl, hcm, _⟩ := row_of_own hO
   have hcall := sortStrings_calls w.heap.size K.length (done.map (·.1)) pad wr hblk (by have := hKd.length_eq; simp at this ⊢; omega)
   rw [List.length_map] at hcall
   replace hcall := hid hcall
   replace hKd := hid hKd
   replace hblk := hid hblk
   replace hdl := hid hdl
   replace hpl := hid hpl
   clear hK hL hrg hO hl0 hLK
   go_wp2_with fail
   refine hcall.out.mono ?_
   rintro e w2 ⟨rfl, hR2⟩
   have hB2 : Below w.heap.size w w2 := hB.grown hR2.kept hB.size (fun b hb => by cases hb; exact Nat.le_refl _)
   have hO2 : Strs w.heap.size w2 (.slice (some ⟨w.heap.size, 0, none⟩) done.length K.length) (sortB (K.map (·.1))) := by
    have hs := sortB_of_perm hKd.out
    have hl2 : (sortB (done.map (·.1))).length = done.length := by rw [(sortB_perm _).length_eq, List.length_map]
    have := Strs.of_block (B := w.heap.size) (c := K.length) (Nat.le_refl _) hR2.h (by rw [hl2]; have := hpl.out; omega) hcm (by rw [hl2]; exact hpl.out)
    rw [hl2, hs] at this
    exact this
   clear hcall hR2 hB
   go_wp2
   go_ret
   exact ⟨⟨_, rfl, hO2⟩, hB2⟩
  ·intro x v left' w2 hp2 hmem hrg2 hg2 hs2 hen
   obtain ⟨y, j, L', hL1, rfl, rfl, hL2⟩ := entries_pick hL.out hp2
   have hK2 : K.Perm ((done ++ [(y, j)]) ++ L') := hK.out.trans (by simpa using hL1.append_left done)
   have hdl : done.length + 1 ≤ K.length := by have := hK2.length_eq; simp at this; omega
   have hO2 : w2.ownsRow w.heap.size 9 1 (.slice (some ⟨w.heap.size, 0, none⟩) done.length K.length) done.length (strs (done.map (·.1))) := own_kept hO hg2 (fun b hb e => by simp [Value.ownBlock] at hb; simp at e; omega)
   have hB2 : Below w.heap.size w w2 := hB.grown hg2 hB.size (fun b hb => by cases hb; omega)
   have hmeas : wr.rangeLeft (M i) r = left.length := hrg.left_eq
   have hlt : left'.length < left.length := by have := hp2.length_eq; simp at this; omega
   replace hK2 := hid hK2
   replace hL2 := hid hL2
   replace hmeas := hid hmeas
   clear hK hL hL1 hp2 hmem hrg hO hB hg2 hs2
   have hOa : ∀ o, (w2.alloc o).ownsRow w.heap.size 9 1 (.slice (some ⟨w.heap.size, 0, none⟩) done.length K.length) done.length (strs (done.map (·.1))) := fun o => hO2.alloc o
   replace hOa := hid hOa
   unfold ptr at hen
   go_wp2_with (at_builtin; refine wpList_append_fits _ rfl _ _ 62 rfl w.heap.size 9 i0 1 Tryz.underlying62 hi.out hz1.out w.heap.size done.length K.length _ rfl (hOa.out _) ⟨w2.heap.size, 0, none⟩ 1 1 [.string (mkS y)] rfl rfl (cell_one_new _ _ _) (by intro u hu; simp at hu; subst hu; rfl) hdl ?_)
   intro w3 hO3 hg3
   have hrg3 : Ranges w3 (M i) r (entries A K) left' := (hrg2.kept (World.grownBy_alloc w2 _ none) (by simp) (by simp)).kept hg3 (by simp; omega) (by simp; omega)
   have hB3 : Below w.heap.size w w3 := (below_alloc hB2 _).grown hg3 (by have := hB2.size; simp; omega) (fun b hb => by cases hb; exact Nat.le_refl _)
   go_wp2
   go_roundw
   case rel => exact ⟨done ++ [(y, j)], L', left', by simp, by simpa [strs] using hO3, hrg3, hL2.out, hK2.out, hB3⟩
   case measure => rw [hrg3.left_eq, hmeas.out]; exact hlt
set_option maxHeartbeats 1000000 in
set_option maxRecDepth 100000 in
theorem list_calls (tb : Nat) (A M : Nat → Nat) (T : Fs) (s : ByteArray) (w : World) (hR : Rep w tb A M T) (hs : s.size ≤ 16777216) (hf : T.names.length ≤ 1000000) :
  Calls Tryz.prog 66 #[ptr tb, .string s] w fun e w' => (∃ v, e = .returned (.tuple #[v, .int .i64 (T.list (bl s)).2]) ∧ Strs w.heap.size w' v (T.list (bl s)).1) ∧ Below w.heap.size w w' := by
 have h1 := fun W hW => there_calls tb A M T s W hW hs
 have hok := hR.inv.there_ok (s := bl s)
 unfold Fs.list
 generalize hth : T.there (bl s) = r at *
 obtain ⟨n, d, e⟩ := r
 dsimp only at *
 unfold ptr at h1 ⊢
 replace h1 := hid h1
 replace hR := hid hR
 replace hth := hid hth
 by_cases he : e = 0
 ·subst he
  obtain ⟨_, i, rfl, hm, _⟩ := hok rfl
  clear hok
  rw [if_pos rfl]
  dsimp only
  by_cases hk : (T.nd i).kind = 2
  ·rw [if_pos hk]
   dsimp only
   have h2 := fun W hW => names_calls tb A M T _ i W hW hm hk hf
   unfold ptr at h2
   replace h2 := hid h2
   go_enter Tryz.func66, Tryz.ntmps66
   go_wp2_with fail
   refine (h1.out _ hR.out).mono ?_
   rintro e w1 ⟨rfl, hB1⟩
   rw [optPtr_some]
   have hR1 := hR.out.below hB1
   obtain ⟨dv, _, hnode⟩ := hR1.node i ⟨_, hm⟩
   have c0 : w1.cell? ⟨A i, 0, none⟩ = some (.int .i64 (T.nd i).kind) := cell_of hnode rfl
   rw [hk] at c0
   clear hnode hk
   replace hR1 := hid hR1
   go_wp2_with fail
   refine (h2.out _ hR1.out).mono ?_
   rintro e w2 ⟨⟨v, rfl, hO⟩, hB2⟩
   go_wp2
   go_ret2
   exact ⟨⟨v, rfl, own_low hO hB1.size⟩, below_step hB1 hB2⟩
  ·rw [if_neg hk]
   dsimp only
   have hk2 : ((T.nd i).kind != 2) = true := by simpa using hk
   go_enter Tryz.func66, Tryz.ntmps66
   go_wp2_with fail
   refine (h1.out _ hR.out).mono ?_
   rintro e w1 ⟨rfl, hB1⟩
   rw [optPtr_some]
   have hR1 := hR.out.below hB1
   obtain ⟨dv, _, hnode⟩ := hR1.node i ⟨_, hm⟩
   have c0 : w1.cell? ⟨A i, 0, none⟩ = some (.int .i64 (T.nd i).kind) := cell_of hnode rfl
   clear hnode hk
   replace hR1 := hid hR1
   go_wp2
   go_ret2
   exact ⟨⟨_, rfl, World.ownsRow_nil _ _ _ _⟩, hB1⟩
 ·have he2 : (e == 0) = false := by simpa using he
  have he3 : (e != 0) = true := by simpa using he
  simp only [he, if_false]
  clear hok he
  go_enter Tryz.func66, Tryz.ntmps66
  go_wp2_with fail
  refine (h1.out _ hR.out).mono ?_
  rintro e w1 ⟨rfl, hB1⟩
  go_wp2
  go_ret2
  exact ⟨⟨_, rfl, World.ownsRow_nil _ _ _ _⟩, hB1⟩
end Go.Proofs.YtcjlfkklpghjbaaGreat

namespace Go.Proofs.YtcjlfkklpghjbaaGreat
open Go.RowKit
def upd (f : Nat → Nat) (a b : Nat) : Nat → Nat := fun i => if i = a then b else f i
theorem upd_same (f : Nat → Nat) (a b : Nat) : upd f a b a = b := if_pos rfl
theorem upd_other (f : Nat → Nat) (a b : Nat) {i : Nat} (h : i ≠ a) : upd f a b i = f i := if_neg h
section
variable {w : World} {tb : Nat} {A M : Nat → Nat} {T : Fs}
/-! ### the blocks of a tree are apart -/
theorem Rep.node_tree (h : Rep w tb A M T) {i : Nat} (hi : T.Live i) : A i ≠ tb := by
 intro e
 obtain ⟨dv, _, h2⟩ := h.node i hi
 rw [e, h.tree] at h2
 simp at h2
theorem Rep.map_tree (h : Rep w tb A M T) {p : Pt} {i : Nat} (hm : (p, i) ∈ T.names) (hk : (T.nd i).kind = 2) : M i ≠ tb := by
 intro e
 obtain ⟨es, c, h2, _⟩ := h.kids p i hm hk
 rw [e, h.tree] at h2
 cases h2
theorem Rep.map_node (h : Rep w tb A M T) {p : Pt} {i j : Nat} (hm : (p, i) ∈ T.names) (hk : (T.nd i).kind = 2) (hj : T.Live j) : M i ≠ A j := by
 intro e
 obtain ⟨es, c, h2, _⟩ := h.kids p i hm hk
 obtain ⟨dv, _, h3⟩ := h.node j hj
 rw [e, h3] at h2
 cases h2
/-- A block of another kind of cells is none of the tree's. -/
theorem Rep.not_own (h : Rep w tb A M T) {g : Nat} {cs : Array Value} {t : TypeId} {f : Nat × Nat} (hg : w.heap[g]? = some (.cells cs t f)) (h1 : t ≠ 82) (h2 : t ≠ 87) : ¬ Own tb A M T g := by
 rintro (rfl | ⟨i, hi, rfl⟩ | ⟨i, ⟨p, hp⟩, hk, rfl⟩)
 ·rw [h.tree] at hg
  cases hg
  exact h1 rfl
 ·obtain ⟨dv, _, h3⟩ := h.node i hi
  rw [h3] at hg
  cases hg
  exact h2 rfl
 ·obtain ⟨es, c, h3, _⟩ := h.kids p i hp hk
  rw [h3] at hg
  cases hg
theorem Rep.bytes_kept (h : Rep w tb A M T) {w' : World} {S : Nat → Prop} (ht : Turn w w' S) (hS : ∀ b, S b → Own tb A M T b ∨ w.heap.size ≤ b) :
  ∀ g : Nat, (∃ cs, w.heap[g]? = some (Obj.cells cs 5 (0, 0))) → w'.heap[g]? = w.heap[g]? := by
 rintro g ⟨cs, hg⟩
 have hlt := (Array.getElem?_eq_some_iff.1 hg).1
 refine ht.block g hlt (fun hs => ?_)
 rcases hS g hs with h1 | h1
 ·exact h.not_own hg (by decide) (by decide) h1
 ·omega
theorem entries_upd (hI : T.Inv) {p : Pt} {a : Nat} : entries (upd A T.next a) (T.kids p) = entries A (T.kids p) := by
 unfold entries
 refine List.map_congr_left fun x hx => ?_
 have : (p ++ [x.1], x.2) ∈ T.names := mem_kidsL.1 (show (x.1, x.2) ∈ kidsL T.names p from hx)
 rw [upd_other _ _ _ (fun e => hI.next_fresh _ (e ▸ this))]
theorem kids_none (hI : T.Inv) {p : Pt} (h : T.at p = none) : T.kids p = [] := by
 cases hc : T.kids p with
 | nil => rfl
 | cons x r =>
  have : (p ++ [x.1], x.2) ∈ T.names := mem_kidsL.1 (by show (x.1, x.2) ∈ T.kids p; rw [hc]; exact List.mem_cons_self ..)
  obtain ⟨j, hj, _⟩ := hI.up _ _ this (by simp)
  rw [List.dropLast_concat] at hj
  exact absurd hj (Fs.at_none.1 h j)
theorem dropLast_ne {p : Pt} (hp : p ≠ []) : p.dropLast ≠ p := by
 intro e
 have := congrArg List.length e
 rw [List.length_dropLast] at this
 have : p.length ≠ 0 := fun e => hp (List.eq_nil_of_length_eq_zero e)
 omega
/-- Two names of one directory are one. -/
theorem Fs.Inv.dir_one (h : T.Inv) {p q : Pt} {i : Nat} (hp : (p, i) ∈ T.names) (hq : (q, i) ∈ T.names) (hk : (T.nd i).kind = 2) : q = p := h.single p i hp (by rw [hk]; decide) q hq
theorem Fs.Inv.at_one (h : T.Inv) {p : Pt} {i j : Nat} (hp : (p, i) ∈ T.names) (hq : (p, j) ∈ T.names) : i = j := by
 have h1 := h.at_some.2 hp
 rw [h.at_some.2 hq] at h1
 exact (Option.some.inj h1).symm
/-- A new thing has come. -/
theorem rep_add {w' : World} {p : Pt} {d nb mb : Nat} {n : Nd} {dv : Value} (hR : Rep w tb A M T) (hI' : (T.add p n).Inv) (hp : p ≠ []) (hd : (p.dropLast, d) ∈ T.names) (hk : (T.nd d).kind = 2) (hn : T.at p = none)
  (hnb : ¬ Own tb A M T nb) (hmb : n.kind = 2 → ¬ Own tb A M T mb) (ht : Turn w w' (fun b => b = tb ∨ b = nb ∨ b = M d))
  (hnbw : ∃ cs, w.heap[nb]? = some (Obj.cells cs 87 (0, 0)))
  (h1 : w'.heap[tb]? = some (.cells #[ptr (A 1), .int .i64 ((T.next + 1 : Nat) : Int)] 82 (0, 0)))
  (h2 : w'.heap[nb]? = some (.cells (nodeCells n T.next dv (kidsV n mb)) 87 (0, 0))) (h3 : Dat w' dv n.data) (h4 : n.kind = 2 → MapIs w' mb [])
  (h5 : MapIs w' (M d) ((.string (mkS (p.getLastD [])), ptr nb) :: entries A (T.kids p.dropLast))) :
  Rep w' tb (upd A T.next nb) (upd M T.next mb) (T.add p n) := by
 have hI := hR.inv
 have hfr := hI.next_fresh
 have hmem : ∀ q i, (q, i) ∈ (T.add p n).names ↔ (q, i) ∈ T.names ∨ (q = p ∧ i = T.next) := fun q i => by simp [Fs.add]
 have hold : ∀ i, T.Live i → (T.add p n).nd i = T.nd i ∧ i ≠ T.next := fun i ⟨q, hm⟩ => by
  have : i ≠ T.next := fun e : i = T.next => hfr q (e ▸ hm)
  exact ⟨by unfold Fs.add; exact if_neg this, this⟩
 have hnew : (T.add p n).nd T.next = n := by simp [Fs.add]
 have hlv : ∀ i, (T.add p n).Live i → T.Live i ∨ i = T.next := fun i ⟨q, hm⟩ => by
  rcases (hmem q i).1 hm with hm | ⟨_, e⟩
  ·exact Or.inl ⟨q, hm⟩
  ·exact Or.inr e
 have hu8 : ∀ g : Nat, (∃ cs, w.heap[g]? = some (Obj.cells cs 5 (0, 0))) → w'.heap[g]? = w.heap[g]? := by
  rintro g ⟨cs, hg⟩
  refine ht.block g (Array.getElem?_eq_some_iff.1 hg).1 ?_
  rintro (rfl | rfl | rfl)
  ·exact hR.not_own hg (by decide) (by decide) (Or.inl rfl)
  ·obtain ⟨cs', hc⟩ := hnbw
   rw [hc] at hg
   simp at hg
  ·exact hR.not_own hg (by decide) (by decide) (Or.inr (Or.inr ⟨d, ⟨_, hd⟩, hk, rfl⟩))
 have hA1 : upd A T.next nb 1 = A 1 := upd_other _ _ _ (hold 1 ⟨_, hI.one⟩).2
 refine ⟨hI', ?_, ?_, ?_, ?_, ?_⟩
 ·rw [h1, hA1]; rfl
 ·intro i hi
  rcases hlv i hi with hl | rfl
  ·obtain ⟨e1, e2⟩ := hold i hl
   obtain ⟨dv', g1, g2⟩ := hR.node i hl
   rw [e1, upd_other _ _ _ e2, upd_other _ _ _ e2]
   refine ⟨dv', g1.kept hu8, (ht.block _ (Array.getElem?_eq_some_iff.1 g2).1 ?_).trans g2⟩
   rintro (e | e | e)
   ·exact hR.node_tree hl e
   ·exact hnb (Or.inr (Or.inl ⟨i, hl, e.symm⟩))
   ·exact hR.map_node hd hk hl e.symm
  ·rw [hnew, upd_same, upd_same]
   exact ⟨dv, h3, h2⟩
 ·intro q i hm hk2
  rcases (hmem q i).1 hm with hm | ⟨rfl, rfl⟩
  ·obtain ⟨e1, e2⟩ := hold i ⟨q, hm⟩
   rw [e1] at hk2
   rw [upd_other _ _ _ e2]
   by_cases hq : p.dropLast = q
   ·subst hq
    have : i = d := hI.at_one hm hd
    subst this
    have hkid : (T.add p n).kids p.dropLast = T.kids p.dropLast ++ [(p.getLastD [], T.next)] := by
     show kidsL (T.names ++ [(p, T.next)]) _ = _
     rw [kidsL_append, kidsL_same p _ hp]
     rfl
    rw [hkid]
    refine h5.perm ?_
    have e3 : entries (upd A T.next nb) (T.kids p.dropLast ++ [(p.getLastD [], T.next)]) = entries A (T.kids p.dropLast) ++ [(.string (mkS (p.getLastD [])), ptr nb)] := by
     have := entries_upd (A := A) hI (p := p.dropLast) (a := nb)
     unfold entries at this ⊢
     rw [List.map_append, this]
     simp [upd_same]
    rw [e3]
    exact List.perm_append_singleton _ _
   ·have hkid : (T.add p n).kids q = T.kids q := by
     show kidsL (T.names ++ [(p, T.next)]) _ = _
     rw [kidsL_append, kidsL_other p _ hq, List.append_nil]
     rfl
    rw [hkid, entries_upd hI]
    have hM := hR.kids q i hm hk2
    refine hM.of_block (ht.block _ hM.lt ?_)
    rintro (e | e | e)
    ·exact hR.map_tree hm hk2 e
    ·exact hnb (Or.inr (Or.inr ⟨i, ⟨q, hm⟩, hk2, e.symm⟩))
    ·have : i = d := hR.injM i d ⟨q, hm⟩ ⟨_, hd⟩ hk2 hk e
     subst this
     exact hq (hI.dir_one hm hd hk2)
  ·rw [hnew] at hk2
   rw [upd_same]
   have hkid : (T.add q n).kids q = [] := by
    show kidsL (T.names ++ [(q, T.next)]) _ = _
    rw [kidsL_append, kidsL_other q _ (dropLast_ne hp), List.append_nil]
    exact kids_none hI hn
   rw [hkid]
   exact h4 hk2
 ·intro i j hi hj e
  rcases hlv i hi with hl | rfl
  ·rw [upd_other _ _ _ (hold i hl).2] at e
   rcases hlv j hj with hl' | rfl
   ·rw [upd_other _ _ _ (hold j hl').2] at e
    exact hR.injA i j hl hl' e
   ·rw [upd_same] at e
    exact absurd (Or.inr (Or.inl ⟨i, hl, e.symm⟩)) hnb
  ·rw [upd_same] at e
   rcases hlv j hj with hl' | rfl
   ·rw [upd_other _ _ _ (hold j hl').2] at e
    exact absurd (Or.inr (Or.inl ⟨j, hl', e⟩)) hnb
   ·rfl
 ·intro i j hi hj hki hkj e
  rcases hlv i hi with hl | rfl
  ·rw [upd_other _ _ _ (hold i hl).2] at e
   rw [(hold i hl).1] at hki
   rcases hlv j hj with hl' | rfl
   ·rw [upd_other _ _ _ (hold j hl').2] at e
    rw [(hold j hl').1] at hkj
    exact hR.injM i j hl hl' hki hkj e
   ·rw [upd_same] at e
    rw [hnew] at hkj
    exact absurd (Or.inr (Or.inr ⟨i, hl, hki, e.symm⟩)) (hmb hkj)
  ·rw [upd_same] at e
   rw [hnew] at hki
   rcases hlv j hj with hl' | rfl
   ·rw [upd_other _ _ _ (hold j hl').2] at e
    rw [(hold j hl').1] at hkj
    exact absurd (Or.inr (Or.inr ⟨j, hl', hkj, e⟩)) (hmb hki)
   ·rfl
end
end Go.Proofs.YtcjlfkklpghjbaaGreat

namespace Go.Proofs.YtcjlfkklpghjbaaGreat
open Go.RowKit
theorem heap_set_same {w : World} {b : Nat} {cs : Array Value} {t : TypeId} {f : Nat × Nat} (h : w.heap[b]? = some (.cells cs t f)) (k : Nat) (v : Value) : (w.setCell ⟨b, k, none⟩ v).heap[b]? = some (.cells (cs.setIfInBounds k v) t f) := by
 rw [Sort.setCell_eq]
 unfold Sort.mapBlock
 simp only [Array.getElem?_modify, if_true, h, Option.map_some, Sort.onCells]
theorem heap_set_other (w : World) {b b' : Nat} (h : b' ≠ b) (k : Nat) (v : Value) : (w.setCell ⟨b, k, none⟩ v).heap[b']? = w.heap[b']? := RowKit.Below.heap_setCell _ _ _ _ h
theorem heap_set_size (w : World) (a : Addr) (v : Value) : (w.setCell a v).heap.size = w.heap.size := by simp [World.setCell]
theorem turn_set {w w' : World} {S : Nat → Prop} (h : Turn w w' S) {b : Nat} (hb : S b) (k : Nat) (v : Value) : Turn w (w'.setCell ⟨b, k, none⟩ v) S :=
 ⟨h.os, h.tape, h.output, by rw [heap_set_size]; exact h.size, fun i hi hn => (heap_set_other w' (fun e => hn (by rw [e]; exact hb)) k v).trans (h.block i hi hn)⟩
set_option maxHeartbeats 2000000 in
set_option maxRecDepth 100000 in
theorem put_calls (tb : Nat) (A M : Nat → Nat) (T : Fs) (s : ByteArray) (d nb mb : Nat) (n : Nd) (dv : Value) (w : World) (hR : Rep w tb A M T) (hs : s.size ≤ 16777216) (hr : right (bl s) = true) (hne : bl s ≠ [])
  (hd : ((split (bl s)).dropLast, d) ∈ T.names) (hk : (T.nd d).kind = 2) (hn : T.at (split (bl s)) = none) (hnb : ¬ Own tb A M T nb) (hmb : n.kind = 2 → ¬ Own tb A M T mb)
  (hnode : w.heap[nb]? = some (.cells (nodeCells { n with links := 0 } 0 dv (kidsV n mb)) 87 (0, 0))) (hdv : Dat w dv n.data) (hm0 : n.kind = 2 → MapIs w mb []) (hN : NdOk n) (hnx : T.next < 4611686018427387904) :
  Calls Tryz.prog 78 #[ptr tb, ptr (A d), .string s, ptr nb] w fun e w' => e = .returned (.tuple #[]) ∧ Rep w' tb (upd A T.next nb) (upd M T.next mb) (T.add (split (bl s)) { n with links := 1 }) ∧ Turn w w' (fun b => b = tb ∨ b = nb ∨ b = M d) := by
 have hb := fun W => base_calls s W (by unfold maxLen; omega)
 have hsb := split_base hne
 have hpne : split (bl s) ≠ [] := fun e => hne (split_eq_nil e)
 have hP : Pth (split (bl s)) := ⟨_, hr, rfl⟩
 have hbase : base (bl s) = (split (bl s)).getLastD [] := rfl
 have hI' : (T.add (split (bl s)) { n with links := 1 }).Inv := add_inv hR.inv hpne hP hd hk hn rfl ⟨hN.kind, hN.data, hN.plain⟩
 have hM := hR.kids _ d hd hk
 have hMd : M d ≠ tb := hR.map_tree hd hk
 have hMn : M d ≠ nb := fun e => hnb (Or.inr (Or.inr ⟨d, ⟨_, hd⟩, hk, e.symm⟩))
 have htn : nb ≠ tb := fun e => hnb (Or.inl e)
 obtain ⟨dvd, _, hnd⟩ := hR.node d ⟨_, hd⟩
 have hAd : A d ≠ nb := fun e => hnb (Or.inr (Or.inl ⟨d, ⟨_, hd⟩, e.symm⟩))
 have hAt : A d ≠ tb := hR.node_tree ⟨_, hd⟩
 -- the worlds
 obtain ⟨w1, hw1⟩ : ∃ x, x = w.setCell ⟨nb, 1, none⟩ (.int .i64 T.next) := ⟨_, rfl⟩
 obtain ⟨w2, hw2⟩ : ∃ x, x = w1.setCell ⟨nb, 3, none⟩ (.int .i64 1) := ⟨_, rfl⟩
 obtain ⟨w3, hw3⟩ : ∃ x, x = w2.setCell ⟨tb, 1, none⟩ (.int .i64 ((T.next + 1 : Nat) : Int)) := ⟨_, rfl⟩
 have t1 := (heap_set_other w htn.symm 1 (.int .i64 T.next)).trans hR.tree
 rw [← hw1] at t1
 have t2 := (heap_set_other w1 htn.symm 3 (.int .i64 1)).trans t1
 rw [← hw2] at t2
 have t3 : w3.heap[tb]? = some (.cells #[ptr (A 1), .int .i64 ((T.next + 1 : Nat) : Int)] 82 (0, 0)) := by rw [hw3]; exact heap_set_same t2 1 _
 have n1 := heap_set_same hnode 1 (.int .i64 T.next)
 rw [← hw1] at n1
 have n2 := heap_set_same n1 3 (.int .i64 1)
 rw [← hw2] at n2
 have n3 : w3.heap[nb]? = some (.cells (nodeCells { n with links := 1 } T.next dv (kidsV n mb)) 87 (0, 0)) := by
  rw [hw3]
  exact (heap_set_other w2 htn 1 _).trans n2
 have ht3 : Turn w w3 (fun b => b = tb ∨ b = nb ∨ b = M d) := by
  rw [hw3, hw2, hw1]
  exact turn_set (turn_set (turn_set (Turn.refl w _) (Or.inr (Or.inl rfl)) 1 _) (Or.inr (Or.inl rfl)) 3 _) (Or.inl rfl) 1 _
 have keep : ∀ b, b ≠ tb → b ≠ nb → w3.heap[b]? = w.heap[b]? := fun b h1 h2 => by
  rw [hw3, heap_set_other w2 h1, hw2, heap_set_other w1 h2, hw1, heap_set_other w h2]
 have m3 : MapIs w3 (M d) (entries A (T.kids (split (bl s)).dropLast)) := hM.of_block (keep _ hMd hMn)
 have d3 := (keep _ hAt hAd).trans hnd
 have c11 : w3.cell? ⟨A d, 11, none⟩ = some (kidsV (T.nd d) (M d)) := cell_of d3 rfl
 rw [kidsV, if_pos hk] at c11
 have hkey := keyable_string Tryz.underlying9 w3.drew (mkS (base (bl s))) (entries_keys A (T.kids (split (bl s)).dropLast))
 have hmiss : ∀ q ∈ entries A (T.kids (split (bl s)).dropLast), q.1 ≠ .string (mkS (base (bl s))) := by
  intro q hq e
  obtain ⟨⟨y, j⟩, hy, rfl⟩ := List.mem_map.1 hq
  simp only [Value.string.injEq] at e
  rw [mkS_inj e] at hy
  have := hR.inv.kids_at.1 hy
  rw [hsb, hn] at this
  cases this
 have m3d : MapIs w3.drew (M d) (entries A (T.kids (split (bl s)).dropLast)) := m3
 obtain ⟨w4, hrun, hm4, hturn⟩ := m3d.store_new under_kids (v := ptr nb) hkey hmiss
 have hg4 := hturn.grown
 have ht4 : Turn w w4 (fun b => b = tb ∨ b = nb ∨ b = M d) := (ht3.drewN 1).trans (Turn.of_grown hg4 (fun j e => by cases e; exact Or.inl (Or.inr (Or.inr rfl))))
 have hu8 : ∀ g : Nat, (∃ cs, w.heap[g]? = some (Obj.cells cs 5 (0, 0))) → w4.heap[g]? = w.heap[g]? := by
  rintro g ⟨cs, hg⟩
  refine ht4.block g (Array.getElem?_eq_some_iff.1 hg).1 ?_
  rintro (rfl | rfl | rfl)
  ·exact hR.not_own hg (by decide) (by decide) (Or.inl rfl)
  ·rw [hnode] at hg; simp at hg
  ·exact hR.not_own hg (by decide) (by decide) (Or.inr (Or.inr ⟨d, ⟨_, hd⟩, hk, rfl⟩))
 have hmb4 : n.kind = 2 → MapIs w4 mb [] := fun h2 => by
  have hm := hm0 h2
  refine hm.of_block (ht4.block _ hm.lt ?_)
  rintro (e | e | e)
  ·exact hmb h2 (Or.inl e)
  ·obtain ⟨es, c, hx, _⟩ := hm
   rw [e, hnode] at hx
   cases hx
  ·exact hmb h2 (Or.inr (Or.inr ⟨d, ⟨_, hd⟩, hk, e⟩))
 have hrep : Rep w4 tb (upd A T.next nb) (upd M T.next mb) (T.add (split (bl s)) { n with links := 1 }) := by
  refine rep_add hR hI' hpne hd hk hn hnb hmb ht4 ⟨_, hnode⟩ ?_ ?_ (hdv.kept hu8) hmb4 (by rw [← hbase]; exact hm4) (dv := dv)
  ·exact (hg4.block tb (Array.getElem?_eq_some_iff.1 t3).1 (by simpa using hMd.symm)).trans t3
  ·exact (hg4.block nb (Array.getElem?_eq_some_iff.1 n3).1 (by simpa using hMn.symm)).trans n3
 have e1 : w.cell? ⟨tb, 1, none⟩ = some (.int .i64 T.next) := cell_of hR.tree rfl
 have e2 : w.cell? ⟨nb, 1, none⟩ = some (.int .i64 0) := cell_of hnode rfl
 have f1 : ∀ k, w.frozen? ⟨tb, k, none⟩ = false := fun k => by simp [World.frozen?, hR.tree]
 have f2 : ∀ k, w.frozen? ⟨nb, k, none⟩ = false := fun k => by simp [World.frozen?, hnode]
 have e3 : w1.cell? ⟨nb, 3, none⟩ = some (.int .i64 0) := cell_of n1 rfl
 have e4 : w2.cell? ⟨tb, 1, none⟩ = some (.int .i64 T.next) := cell_of t2 rfl
 have f3 : w1.frozen? ⟨nb, 3, none⟩ = false := by simp [World.frozen?, n1]
 have f4 : w2.frozen? ⟨tb, 1, none⟩ = false := by simp [World.frozen?, t2]
 have hwr : IntKind.i64.wrap ((T.next : Int) + 1) = ((T.next + 1 : Nat) : Int) := by
  rw [IntWalk.i64_in _ (by omega)]
  omega
 have hfin : Hid (Rep w4 tb (upd A T.next nb) (upd M T.next mb) (T.add (split (bl s)) { n with links := 1 }) ∧ Turn w w4 (fun b => b = tb ∨ b = nb ∨ b = M d)) := ⟨hrep, ht4⟩
 replace hb := hid hb
 replace hrun := hid hrun
 replace hwr := hid hwr
 replace c11 := hid c11
 clear hrep ht4 hu8 hmb4 hg4 hturn hm4 m3d hmiss hkey m3 ht3 n3 n2 n1 t3 t2 t1 d3 hnd hM hI' hbase hP hpne hsb hm0 hdv hnode hR hN keep hd hk hn hnb hmb
 generalize T.next = nx at *
 generalize ((nx + 1 : Nat) : Int) = nx1 at *
 rw [hw2] at e4 f4
 rw [hw1] at e3 f3 e4 f4
 replace hw1 := hid hw1
 replace hw2 := hid hw2
 replace hw3 := hid hw3
 have hwr2 := hwr.out
 unfold ptr
 go_enter Tryz.func78, Tryz.ntmps78
 go_wp2_with fail
 rw [← hw1.out, ← hw2.out, ← hw3.out]
 have c11' := c11.out
 clear e1 e2 e3 e4 f1 f2 f3 f4 hw1 hw2 hw3 hwr hwr2
 refine wp_region_still_tail 7 (by kernel_rfl) (by kernel_rfl) ?_
 simp only [List.take_succ_cons, List.take_zero, List.drop_succ_cons, List.drop_zero]
 iterate 5 still_step
 still_call ((hb.out w3.drew).mono fun e w' hh => ⟨hh.1, hh.2.symm⟩)
 still_step
 refine wpStill_nil ?_
 change wpList _ _ _ _ _ w3.drew
 refine wp_store _ rfl _ _ _ 85 rfl (.map (some (M d))) (.string (mkS (base (bl s)))) (ptr nb) rfl rfl rfl w4 hrun.out ?_
 go_wp2
 go_end0
 exact ⟨rfl, hfin.out⟩
end Go.Proofs.YtcjlfkklpghjbaaGreat

namespace Go.Proofs.YtcjlfkklpghjbaaGreat
open Go.RowKit
/-- A call has turned the tree T into T', and written no block but the tree's own. -/
def Stp (w w' : World) (tb : Nat) (A M : Nat → Nat) (T T' : Fs) : Prop :=
  ∃ A' M', Rep w' tb A' M' T' ∧ Turn w w' (Own tb A M T) ∧ ∀ b, Own tb A' M' T' b → Own tb A M T b ∨ w.heap.size ≤ b
theorem Stp.same {w w' : World} {tb : Nat} {A M : Nat → Nat} {T : Fs} (h : Rep w tb A M T) (hb : Below w.heap.size w w') : Stp w w' tb A M T T :=
 ⟨A, M, h.below hb, Turn.of_below hb _, fun _ h => Or.inl h⟩
theorem Stp.after {w w1 w' : World} {tb : Nat} {A M : Nat → Nat} {T T' : Fs} (hb : Below w.heap.size w w1) (h : Stp w1 w' tb A M T T') : Stp w w' tb A M T T' := by
 obtain ⟨A', M', h1, h2, h3⟩ := h
 exact ⟨A', M', h1, (Turn.of_below hb _).trans (h2.mono fun i _ hi => Or.inl hi), fun b hb2 => (h3 b hb2).imp id (fun h => Nat.le_trans hb.size h)⟩
theorem own_add {tb nb mb : Nat} {A M : Nat → Nat} {T : Fs} (hI : T.Inv) {p : Pt} {n : Nd} {b : Nat} (h : Own tb (upd A T.next nb) (upd M T.next mb) (T.add p n) b) : Own tb A M T b ∨ b = nb ∨ (n.kind = 2 ∧ b = mb) := by
 have hfr := hI.next_fresh
 have hmem : ∀ q i, (q, i) ∈ (T.add p n).names ↔ (q, i) ∈ T.names ∨ (q = p ∧ i = T.next) := fun q i => by simp [Fs.add]
 have hold : ∀ q i, (q, i) ∈ T.names → i ≠ T.next := fun q i hm e => hfr q (e ▸ hm)
 have hnd : ∀ i, i ≠ T.next → (T.add p n).nd i = T.nd i := fun i hi => by unfold Fs.add; exact if_neg hi
 rcases h with rfl | ⟨i, ⟨q, hm⟩, rfl⟩ | ⟨i, ⟨q, hm⟩, hk, rfl⟩
 ·exact Or.inl (Or.inl rfl)
 ·rcases (hmem q i).1 hm with hm | ⟨rfl, rfl⟩
  ·rw [upd_other _ _ _ (hold q i hm)]
   exact Or.inl (Or.inr (Or.inl ⟨i, ⟨q, hm⟩, rfl⟩))
  ·rw [upd_same]
   exact Or.inr (Or.inl rfl)
 ·rcases (hmem q i).1 hm with hm | ⟨rfl, rfl⟩
  ·rw [upd_other _ _ _ (hold q i hm)]
   rw [hnd i (hold q i hm)] at hk
   exact Or.inl (Or.inr (Or.inr ⟨i, ⟨q, hm⟩, hk, rfl⟩))
  ·rw [upd_same]
   have : (T.add q n).nd T.next = n := by simp [Fs.add]
   rw [this] at hk
   exact Or.inr (Or.inr ⟨hk, rfl⟩)
theorem Fs.Inv.fresh_ok {T : Fs} (h : T.Inv) {s : Bytes} (h0 : (T.fresh s).2 = 0) : right s = true ∧ s ≠ [] ∧ T.at (split s) = none ∧ ∃ d, (T.fresh s).1 = some d ∧ ((split s).dropLast, d) ∈ T.names ∧ (T.nd d).kind = 2 := by
 unfold Fs.fresh at *
 dsimp only at *
 by_cases hc : (T.look s).2.2 = 0 ∧ (T.look s).1 ≠ none
 ·rw [if_pos hc] at h0
  cases h0
 ·rw [if_neg hc] at h0
  obtain ⟨h1, h2, h3⟩ := h.look_ok h0
  have hn : (T.look s).1 = none := by
   cases hx : (T.look s).1 with
   | none => rfl
   | some i => exact absurd ⟨h0, by rw [hx]; simp⟩ hc
  rcases h3 with ⟨_, e, _⟩ | ⟨e, d, h4, h5⟩
  ·rw [hn] at e; cases e
  ·exact ⟨h1, e, by rw [← h2, hn], d, h4, h5⟩
section
variable {w : World} {tb : Nat} {A M : Nat → Nat} {T : Fs} {s : ByteArray} {d : Nat}
theorem put_dir (hR : Rep w tb A M T) (hs : s.size ≤ 16777216) (hr : right (bl s) = true) (hne : bl s ≠ []) (hd : ((split (bl s)).dropLast, d) ∈ T.names) (hk : (T.nd d).kind = 2) (hn : T.at (split (bl s)) = none) (hnx : T.next < 4611686018427387904) (m : Mt) :
  Calls Tryz.prog 78 #[ptr tb, ptr (A d), .string s, ptr (w.heap.size + 1)] ((w.alloc (.map #[] 0)).alloc (.cells (nodeCells ⟨2, 0, m, [], []⟩ 0 (.slice none 0 0) (.map (some w.heap.size))) 87)) fun e w' =>
   e = .returned (.tuple #[]) ∧ Stp w w' tb A M T (T.add (split (bl s)) ⟨2, 1, m, [], []⟩) := by
 have hB : Below w.heap.size w ((w.alloc (.map #[] 0)).alloc (.cells (nodeCells ⟨2, 0, m, [], []⟩ 0 (.slice none 0 0) (.map (some w.heap.size))) 87)) := ((Below.refl _ _).alloc (Nat.le_refl _) _).alloc (by simp) _
 have hnb : ¬ Own tb A M T (w.heap.size + 1) := fun h => by have := hR.lt h; omega
 have hmb : ¬ Own tb A M T w.heap.size := fun h => by have := hR.lt h; omega
 have e1 : (w.alloc (.map #[] 0)).heap.size = w.heap.size + 1 := by simp
 have hnode := (MapKept.heap_alloc (w.alloc (.map #[] 0)) (.cells (nodeCells ⟨2, 0, m, [], []⟩ 0 (.slice none 0 0) (.map (some w.heap.size))) 87)).1
 rw [e1] at hnode
 have hmap : MapIs ((w.alloc (.map #[] 0)).alloc (.cells (nodeCells ⟨2, 0, m, [], []⟩ 0 (.slice none 0 0) (.map (some w.heap.size))) 87)) w.heap.size [] := (mapIs_made w).kept (World.grownBy_alloc _ _ none) (by simp)
 refine (put_calls tb A M T s d (w.heap.size + 1) w.heap.size ⟨2, 0, m, [], []⟩ (.slice none 0 0) _ (hR.below hB) hs hr hne hd hk hn hnb (fun _ => hmb) hnode (dat_nil _) (fun _ => hmap) ⟨Or.inr (Or.inl rfl), by simp, by simp⟩ hnx).mono ?_
 rintro e w' ⟨rfl, h1, h2⟩
 refine ⟨rfl, _, _, h1, (Turn.of_below hB _).trans (h2.mono ?_), ?_⟩
 ·rintro i hi (rfl | rfl | rfl)
  ·exact Or.inl (Or.inl rfl)
  ·exact Or.inr (Nat.le_succ _)
  ·exact Or.inl (Or.inr (Or.inr ⟨d, ⟨_, hd⟩, hk, rfl⟩))
 ·intro b hb
  rcases own_add hR.inv hb with h | rfl | ⟨_, rfl⟩
  ·exact Or.inl h
  ·exact Or.inr (Nat.le_succ _)
  ·exact Or.inr (Nat.le_refl _)
theorem put_plain (hR : Rep w tb A M T) (hs : s.size ≤ 16777216) (hr : right (bl s) = true) (hne : bl s ≠ []) (hd : ((split (bl s)).dropLast, d) ∈ T.names) (hk : (T.nd d).kind = 2) (hn : T.at (split (bl s)) = none) (hnx : T.next < 4611686018427387904)
  (k : Int) (m : Mt) (t : Bytes) (hN : NdOk ⟨k, 0, m, t, []⟩) (hk2 : k ≠ 2) :
  Calls Tryz.prog 78 #[ptr tb, ptr (A d), .string s, ptr w.heap.size] (w.alloc (.cells (nodeCells ⟨k, 0, m, t, []⟩ 0 (.slice none 0 0) (.map none)) 87)) fun e w' =>
   e = .returned (.tuple #[]) ∧ (∃ A' M', Rep w' tb A' M' (T.add (split (bl s)) ⟨k, 1, m, t, []⟩) ∧ A' T.next = w.heap.size ∧ Turn w w' (Own tb A M T) ∧ ∀ b, Own tb A' M' (T.add (split (bl s)) ⟨k, 1, m, t, []⟩) b → Own tb A M T b ∨ w.heap.size ≤ b) := by
 have hB : Below w.heap.size w (w.alloc (.cells (nodeCells ⟨k, 0, m, t, []⟩ 0 (.slice none 0 0) (.map none)) 87)) := (Below.refl _ _).alloc (Nat.le_refl _) _
 have hnb : ¬ Own tb A M T w.heap.size := fun h => by have := hR.lt h; omega
 have hnode := (MapKept.heap_alloc w (.cells (nodeCells ⟨k, 0, m, t, []⟩ 0 (.slice none 0 0) (.map none)) 87)).1
 have hkv : kidsV ⟨k, 0, m, t, []⟩ 0 = .map none := if_neg hk2
 rw [← hkv] at hnode
 refine (put_calls tb A M T s d w.heap.size 0 ⟨k, 0, m, t, []⟩ (.slice none 0 0) _ (hR.below hB) hs hr hne hd hk hn hnb (fun h => absurd h hk2) (by rw [hkv] at hnode ⊢; exact hnode) (dat_nil _) (fun h => absurd h hk2) hN hnx).mono ?_
 rintro e w' ⟨rfl, h1, h2⟩
 refine ⟨rfl, _, _, h1, upd_same _ _ _, (Turn.of_below hB _).trans (h2.mono ?_), ?_⟩
 ·rintro i hi (rfl | rfl | rfl)
  ·exact Or.inl (Or.inl rfl)
  ·exact Or.inr (Nat.le_refl _)
  ·exact Or.inl (Or.inr (Or.inr ⟨d, ⟨_, hd⟩, hk, rfl⟩))
 ·intro b hb
  rcases own_add hR.inv hb with h | rfl | ⟨h, _⟩
  ·exact Or.inl h
  ·exact Or.inr (Nat.le_refl _)
  ·exact absurd h hk2
end
/-- Why a new thing may not come to a path by its name and Meta. -/
def mayE (s : Bytes) (m : Mt) : Int := if right s then if metaOk m then 0 else 2 else 9
def Fs.mkdir (T : Fs) (s : Bytes) (m : Mt) : Fs × Int :=
  if mayE s m ≠ 0 then (T, mayE s m) else if (T.fresh s).2 ≠ 0 then (T, (T.fresh s).2) else (T.add (split s) ⟨2, 1, m, [], []⟩, 0)
def Fs.symlink (T : Fs) (s t : Bytes) (m : Mt) : Fs × Int :=
  if mayE s m ≠ 0 then (T, mayE s m) else if t = [] then (T, 2) else if 200 < t.length then (T, 7) else
  if (T.fresh s).2 ≠ 0 then (T, (T.fresh s).2) else (T.add (split s) ⟨3, 1, m, t, []⟩, 0)
set_option maxHeartbeats 2000000 in
set_option maxRecDepth 100000 in
theorem mkdir_calls (tb : Nat) (A M : Nat → Nat) (T : Fs) (s : ByteArray) (m : Mt) (w : World) (hR : Rep w tb A M T) (hs : s.size ≤ 16777216) (hnx : T.next < 4611686018427387904) :
  Calls Tryz.prog 37 #[ptr tb, .string s, mtV m] w fun e w' => e = .returned (.int .i64 (T.mkdir (bl s) m).2) ∧ Stp w w' tb A M T (T.mkdir (bl s) m).1 := by
 have h1 := fun W => may_calls tb s m W hs
 have h2 := fun W hW => fresh_calls tb A M T s W hW hs
 have hfo := hR.inv.fresh_ok (s := bl s)
 have hput : ∀ W d, Rep W tb A M T → right (bl s) = true → bl s ≠ [] → ((split (bl s)).dropLast, d) ∈ T.names → (T.nd d).kind = 2 → T.at (split (bl s)) = none → _ := fun W d hW h1 h2 h3 h4 h5 => put_dir (d := d) hW hs h1 h2 h3 h4 h5 hnx m
 unfold Fs.mkdir
 have hme : (if right (bl s) then if metaOk m then (0 : Int) else 2 else 9) = mayE (bl s) m := rfl
 rw [hme] at h1
 generalize mayE (bl s) m = me at *
 obtain ⟨a1, a2, a3, a4, a5⟩ := m
 unfold mtV mtCells nodeCells ptr at *
 dsimp only at *
 have hB0 : Below w.heap.size w (w.alloc (.cells #[.int .i64 a1, .int .i64 a2, .int .i64 a3, .int .i64 a4, .int .i64 a5] 41)) := (Below.refl _ _).alloc (Nat.le_refl _) _
 have hblk := (MapKept.heap_alloc w (.cells #[.int .i64 a1, .int .i64 a2, .int .i64 a3, .int .i64 a4, .int .i64 a5] 41)).1
 replace h1 := hid h1
 replace h2 := hid h2
 replace hput := hid hput
 replace hblk := hid hblk
 replace hB0 := hid hB0
 replace hR := hid hR
 clear hme
 by_cases he : me = 0
 ·subst he
  rw [if_neg (by simp)]
  by_cases hf : (T.fresh (bl s)).2 = 0
  ·rw [if_neg (by simp [hf])]
   obtain ⟨k1, k2, k3, d, k4, k5, k6⟩ := hfo hf
   rw [hf, k4, optPtr_some] at h2
   have hput2 := fun W hW => hput.out W d hW k1 k2 k5 k6 k3
   clear hput hfo hf k1 k2 k3 k4 k5 k6
   dsimp only
   generalize T.add (split (bl s)) _ = T' at *
   replace hput2 := hid hput2
   have hmm := @run_makeMap Tryz.prog
   go_enter Tryz.func37, Tryz.ntmps37
   go_wp2_with fail
   refine (h1.out _).mono ?_
   rintro e w1 ⟨rfl, hB1⟩
   have hB01 := below_step hB0.out hB1
   have hblk1 := (hB1.block _ (Array.getElem?_eq_some_iff.1 hblk.out).1).trans hblk.out
   have hR1 := hR.out.below hB01
   replace hR1 := hid hR1
   replace hblk1 := hid hblk1
   go_wp2_with fail
   refine (h2.out _ hR1.out).mono ?_
   rintro e w2 ⟨rfl, hB2⟩
   have hB02 := below_step hB01 hB2
   have hR2 := hR1.out.below hB2
   have hlt := (Array.getElem?_eq_some_iff.1 hblk1.out).1
   have hblk2 := (hB2.block _ hlt).trans hblk1.out
   replace hR2 := hid hR2
   have hp := hput2.out w2 hR2.out
   have d0 := cell_of (j := 0) hblk2 rfl
   have d1 := cell_of (j := 1) hblk2 rfl
   have d2 := cell_of (j := 2) hblk2 rfl
   have d3 := cell_of (j := 3) hblk2 rfl
   have d4 := cell_of (j := 4) hblk2 rfl
   clear hblk2 h1 h2 hput2
   replace hp := hid hp
   go_wp2_with fail
   refine hp.out.mono ?_
   rintro e w3 ⟨rfl, hst⟩
   go_wp2
   go_ret
   exact ⟨rfl, hst.after hB02⟩
  ·rw [if_pos hf]
   have hf2 : ((T.fresh (bl s)).2 != 0) = true := by simpa using hf
   generalize T.fresh (bl s) = fr at *
   obtain ⟨fd, fe⟩ := fr
   dsimp only at *
   clear hput hfo hf
   go_enter Tryz.func37, Tryz.ntmps37
   go_wp2_with fail
   refine (h1.out _).mono ?_
   rintro e w1 ⟨rfl, hB1⟩
   have hB01 := below_step hB0.out hB1
   have hblk1 := (hB1.block _ (Array.getElem?_eq_some_iff.1 hblk.out).1).trans hblk.out
   have hR1 := hR.out.below hB01
   replace hR1 := hid hR1
   replace hblk1 := hid hblk1
   go_wp2_with fail
   refine (h2.out _ hR1.out).mono ?_
   rintro e w2 ⟨rfl, hB2⟩
   have hB02 := below_step hB01 hB2
   have hR2 := hR1.out.below hB2
   have hlt := (Array.getElem?_eq_some_iff.1 hblk1.out).1
   have hblk2 := (hB2.block _ hlt).trans hblk1.out
   replace hR2 := hid hR2
   clear hblk2 h1 h2
   go_wp2
   go_ret
   exact ⟨rfl, Stp.same hR.out hB02⟩
 ·rw [if_pos he]
  have he2 : (me != 0) = true := by simpa using he
  clear he hput h2 hfo
  go_enter Tryz.func37, Tryz.ntmps37
  go_wp2_with fail
  refine (h1.out _).mono ?_
  rintro e w1 ⟨rfl, hB1⟩
  have hB01 := below_step hB0.out hB1
  go_wp2
  go_ret
  exact ⟨rfl, Stp.same hR.out hB01⟩
end Go.Proofs.YtcjlfkklpghjbaaGreat

namespace Go.Proofs.YtcjlfkklpghjbaaGreat
open Go.RowKit
set_option maxHeartbeats 2000000 in
set_option maxRecDepth 100000 in
theorem symlink_calls (tb : Nat) (A M : Nat → Nat) (T : Fs) (s tg : ByteArray) (m : Mt) (w : World) (hR : Rep w tb A M T) (hs : s.size ≤ 16777216) (hnx : T.next < 4611686018427387904) :
  Calls Tryz.prog 39 #[ptr tb, .string s, .string tg, mtV m] w fun e w' => e = .returned (.int .i64 (T.symlink (bl s) (bl tg) m).2) ∧ Stp w w' tb A M T (T.symlink (bl s) (bl tg) m).1 := by
 have h1 := fun W => may_calls tb s m W hs
 have h2 := fun W hW => fresh_calls tb A M T s W hW hs
 have hfo := hR.inv.fresh_ok (s := bl s)
 have hput : ∀ W d, Rep W tb A M T → right (bl s) = true → bl s ≠ [] → ((split (bl s)).dropLast, d) ∈ T.names → (T.nd d).kind = 2 → T.at (split (bl s)) = none → NdOk ⟨3, 0, m, bl tg, []⟩ → _ := fun W d hW h1 h2 h3 h4 h5 h6 => put_plain (d := d) hW hs h1 h2 h3 h4 h5 hnx 3 m (bl tg) h6 (by decide)
 have htn := str_nil tg
 have htl := bl_length tg
 unfold Fs.symlink
 have hme : (if right (bl s) then if metaOk m then (0 : Int) else 2 else 9) = mayE (bl s) m := rfl
 rw [hme] at h1
 generalize mayE (bl s) m = me at *
 obtain ⟨a1, a2, a3, a4, a5⟩ := m
 unfold mtV mtCells nodeCells ptr at *
 dsimp only at *
 simp only [mkS_bl] at hput
 have hB0 : Below w.heap.size w (w.alloc (.cells #[.int .i64 a1, .int .i64 a2, .int .i64 a3, .int .i64 a4, .int .i64 a5] 41)) := (Below.refl _ _).alloc (Nat.le_refl _) _
 have hblk := (MapKept.heap_alloc w (.cells #[.int .i64 a1, .int .i64 a2, .int .i64 a3, .int .i64 a4, .int .i64 a5] 41)).1
 replace h1 := hid h1
 replace h2 := hid h2
 replace hput := hid hput
 replace hblk := hid hblk
 replace hB0 := hid hB0
 replace hR := hid hR
 clear hme
 by_cases he : me = 0
 ·subst he
  rw [if_neg (by simp)]
  by_cases ht0 : bl tg = []
  ·rw [if_pos ht0]
   have ht1 : tg.toList.isEmpty = true := by rw [htn]; simpa using ht0
   dsimp only
   clear hput h2 hfo htn htl ht0
   go_enter Tryz.func39, Tryz.ntmps39
   go_wp2_with fail
   refine (h1.out _).mono ?_
   rintro e w1 ⟨rfl, hB1⟩
   have hB01 := below_step hB0.out hB1
   go_wp2
   go_ret
   exact ⟨rfl, Stp.same hR.out hB01⟩
  ·rw [if_neg ht0]
   have ht1 : tg.toList.isEmpty = false := by rw [htn]; simpa using ht0
   by_cases ht2 : 200 < (bl tg).length
   ·rw [if_pos ht2]
    have ht3 : (200 : Int) < (tg.size : Int) := by omega
    dsimp only
    clear hput h2 hfo htn htl ht0 ht2
    go_enter Tryz.func39, Tryz.ntmps39
    go_wp2_with fail
    refine (h1.out _).mono ?_
    rintro e w1 ⟨rfl, hB1⟩
    have hB01 := below_step hB0.out hB1
    go_wp2
    go_ret
    exact ⟨rfl, Stp.same hR.out hB01⟩
   ·rw [if_neg ht2]
    have ht3 : ¬ (200 : Int) < (tg.size : Int) := by omega
    have hN : NdOk ⟨3, 0, ⟨a1, a2, a3, a4, a5⟩, bl tg, []⟩ := ⟨Or.inr (Or.inr rfl), by simp, by simp, by simp, by dsimp only; omega⟩
    by_cases hf : (T.fresh (bl s)).2 = 0
    ·rw [if_neg (by simp [hf])]
     obtain ⟨k1, k2, k3, d, k4, k5, k6⟩ := hfo hf
     rw [hf, k4, optPtr_some] at h2
     have hput2 := fun W hW => hput.out W d hW k1 k2 k5 k6 k3 hN
     clear hput hfo hf k1 k2 k3 k4 k5 k6 htn htl ht0 ht2 hN
     dsimp only
     generalize T.add (split (bl s)) _ = T' at *
     replace hput2 := hid hput2
     go_enter Tryz.func39, Tryz.ntmps39
     go_wp2_with fail
     refine (h1.out _).mono ?_
     rintro e w1 ⟨rfl, hB1⟩
     have hB01 := below_step hB0.out hB1
     have hblk1 := (hB1.block _ (Array.getElem?_eq_some_iff.1 hblk.out).1).trans hblk.out
     have hR1 := hR.out.below hB01
     replace hR1 := hid hR1
     replace hblk1 := hid hblk1
     go_wp2_with fail
     refine (h2.out _ hR1.out).mono ?_
     rintro e w2 ⟨rfl, hB2⟩
     have hB02 := below_step hB01 hB2
     have hR2 := hR1.out.below hB2
     have hlt := (Array.getElem?_eq_some_iff.1 hblk1.out).1
     have hblk2 := (hB2.block _ hlt).trans hblk1.out
     replace hR2 := hid hR2
     have hp := hput2.out w2 hR2.out
     have d0 := cell_of (j := 0) hblk2 rfl
     have d1 := cell_of (j := 1) hblk2 rfl
     have d2 := cell_of (j := 2) hblk2 rfl
     have d3 := cell_of (j := 3) hblk2 rfl
     have d4 := cell_of (j := 4) hblk2 rfl
     clear hblk2 h1 h2 hput2
     replace hp := hid hp
     go_wp2_with fail
     refine hp.out.mono ?_
     rintro e w3 ⟨rfl, A', M', hst1, _, hst2, hst3⟩
     have hst : Stp w2 w3 tb A M T T' := ⟨A', M', hst1, hst2, hst3⟩
     replace hst := hid hst
     clear hst1 hst2 hst3
     go_wp2
     go_ret
     exact ⟨rfl, hst.out.after hB02⟩
    ·rw [if_pos hf]
     have hf2 : ((T.fresh (bl s)).2 != 0) = true := by simpa using hf
     generalize T.fresh (bl s) = fr at *
     obtain ⟨fd, fe⟩ := fr
     dsimp only at *
     clear hput hfo hf htn htl ht0 ht2 hN
     go_enter Tryz.func39, Tryz.ntmps39
     go_wp2_with fail
     refine (h1.out _).mono ?_
     rintro e w1 ⟨rfl, hB1⟩
     have hB01 := below_step hB0.out hB1
     have hblk1 := (hB1.block _ (Array.getElem?_eq_some_iff.1 hblk.out).1).trans hblk.out
     have hR1 := hR.out.below hB01
     replace hR1 := hid hR1
     replace hblk1 := hid hblk1
     go_wp2_with fail
     refine (h2.out _ hR1.out).mono ?_
     rintro e w2 ⟨rfl, hB2⟩
     have hB02 := below_step hB01 hB2
     have hR2 := hR1.out.below hB2
     have hlt := (Array.getElem?_eq_some_iff.1 hblk1.out).1
     have hblk2 := (hB2.block _ hlt).trans hblk1.out
     replace hR2 := hid hR2
     clear hblk2 h1 h2
     go_wp2
     go_ret
     exact ⟨rfl, Stp.same hR.out hB02⟩
 ·rw [if_pos he]
  have he2 : (me != 0) = true := by simpa using he
  clear he hput h2 hfo htn htl
  go_enter Tryz.func39, Tryz.ntmps39
  go_wp2_with fail
  refine (h1.out _).mono ?_
  rintro e w1 ⟨rfl, hB1⟩
  have hB01 := below_step hB0.out hB1
  go_wp2
  go_ret
  exact ⟨rfl, Stp.same hR.out hB01⟩
end Go.Proofs.YtcjlfkklpghjbaaGreat

namespace Go.Proofs.YtcjlfkklpghjbaaGreat
open Go.RowKit
section
variable {w : World} {tb : Nat} {A M : Nat → Nat} {T : Fs}
/-- No thing comes; thing i's block and directory d's map may have turned. -/
theorem rep_change {w' : World} {T' : Fs} {i d : Nat} {pd : Pt} {dv : Value} (hR : Rep w tb A M T) (hI' : T'.Inv) (hd : (pd, d) ∈ T.names) (hk : (T.nd d).kind = 2) (hi : T.Live i)
  (hlive : ∀ j, T'.Live j → T.Live j) (hkind : ∀ j, T.Live j → (T'.nd j).kind = (T.nd j).kind) (hsame : ∀ j, j ≠ i → T'.nd j = T.nd j) (hnext : T'.next = T.next)
  (ht : Turn w w' (fun b => b = A i ∨ b = M d))
  (h2 : T'.Live i → w'.heap[A i]? = some (.cells (nodeCells (T'.nd i) i dv (kidsV (T'.nd i) (M i))) 87 (0, 0)) ∧ Dat w' dv (T'.nd i).data)
  (hother : ∀ q j, (q, j) ∈ T'.names → (T.nd j).kind = 2 → j ≠ d → ∃ q', (q', j) ∈ T.names ∧ (entries A (T'.kids q)).Perm (entries A (T.kids q')))
  (h5 : ∀ q, (q, d) ∈ T'.names → MapIs w' (M d) (entries A (T'.kids q))) :
  Rep w' tb A M T' := by
 have hI := hR.inv
 have hu8 : ∀ g : Nat, (∃ cs, w.heap[g]? = some (Obj.cells cs 5 (0, 0))) → w'.heap[g]? = w.heap[g]? := by
  rintro g ⟨cs, hg⟩
  refine ht.block g (Array.getElem?_eq_some_iff.1 hg).1 ?_
  rintro (rfl | rfl)
  ·exact hR.not_own hg (by decide) (by decide) (Or.inr (Or.inl ⟨i, hi, rfl⟩))
  ·exact hR.not_own hg (by decide) (by decide) (Or.inr (Or.inr ⟨d, ⟨_, hd⟩, hk, rfl⟩))
 refine ⟨hI', ?_, ?_, ?_, fun a b ha hb e => hR.injA a b (hlive a ha) (hlive b hb) e, fun a b ha hb hka hkb e => hR.injM a b (hlive a ha) (hlive b hb) (by rw [← hkind a (hlive a ha)]; exact hka) (by rw [← hkind b (hlive b hb)]; exact hkb) e⟩
 ·rw [hnext]
  refine (ht.block tb (Array.getElem?_eq_some_iff.1 hR.tree).1 ?_).trans hR.tree
  rintro (e | e)
  ·exact hR.node_tree hi e.symm
  ·exact hR.map_tree hd hk e.symm
 ·intro j hj
  by_cases e : j = i
  ·subst e
   obtain ⟨h3, h4⟩ := h2 hj
   exact ⟨dv, h4, h3⟩
  ·obtain ⟨dv', g1, g2⟩ := hR.node j (hlive j hj)
   rw [hsame j e]
   refine ⟨dv', g1.kept hu8, (ht.block _ (Array.getElem?_eq_some_iff.1 g2).1 ?_).trans g2⟩
   rintro (e2 | e2)
   ·exact e (hR.injA j i (hlive j hj) hi e2)
   ·exact hR.map_node hd hk (hlive j hj) e2.symm
 ·intro q j hm hk2
  have hl := hlive j ⟨q, hm⟩
  rw [hkind j hl] at hk2
  by_cases e : j = d
  ·subst e
   exact h5 q hm
  ·obtain ⟨q', hq', hp⟩ := hother q j hm hk2 e
   have hM := hR.kids q' j hq' hk2
   refine (hM.of_block (ht.block _ hM.lt ?_)).perm hp
   rintro (e2 | e2)
   ·exact hR.map_node hq' hk2 hi e2
   ·exact e (hR.injM j d hl ⟨_, hd⟩ hk2 hk e2)
theorem own_change {T' : Fs} (hlive : ∀ j, T'.Live j → T.Live j) (hkind : ∀ j, T.Live j → (T'.nd j).kind = (T.nd j).kind) {b : Nat} (h : Own tb A M T' b) : Own tb A M T b := by
 rcases h with rfl | ⟨i, hi, rfl⟩ | ⟨i, hi, hk, rfl⟩
 ·exact Or.inl rfl
 ·exact Or.inr (Or.inl ⟨i, hlive i hi, rfl⟩)
 ·exact Or.inr (Or.inr ⟨i, hlive i hi, by rw [← hkind i (hlive i hi)]; exact hk, rfl⟩)
/-- Another record of a thing. -/
theorem rep_set {w' : World} {p : Pt} {i : Nat} {n : Nd} {dv : Value} (hR : Rep w tb A M T) (hi : (p, i) ∈ T.names) (hN : NdOk n) (hk : n.kind = (T.nd i).kind) (hl : n.links = (T.nd i).links) (ht : Turn w w' (fun b => b = A i))
  (h2 : w'.heap[A i]? = some (.cells (nodeCells n i dv (kidsV n (M i))) 87 (0, 0))) (h3 : Dat w' dv n.data) : Rep w' tb A M (T.set i n) := by
 have hI := hR.inv
 have hnd : (T.set i n).nd i = n := by simp [Fs.set]
 have hM := hR.kids [] 1 hI.one hI.topKind
 refine rep_change (dv := dv) hR (set_inv hI hN hk hl) hI.one hI.topKind ⟨p, hi⟩ (fun j hj => hj) (fun j hj => ?_) (fun j hj => if_neg hj) rfl (ht.mono fun b _ h => Or.inl h) (fun _ => ?_) (fun q j hm _ _ => ⟨q, hm, .refl _⟩) (fun q hm => ?_)
 ·by_cases e : j = i
  ·subst e; rw [hnd, hk]
  ·exact congrArg Nd.kind (if_neg e)
 ·rw [hnd]; exact ⟨h2, h3⟩
 ·have : q = [] := hI.dir_one hI.one hm hI.topKind
  subst this
  refine hM.of_block (ht.block _ hM.lt ?_)
  exact fun e => hR.map_node hI.one hI.topKind ⟨p, hi⟩ e
/-- Another name of a thing. -/
theorem rep_name {w' : World} {p q : Pt} {d i : Nat} {dv : Value} (hR : Rep w tb A M T) (hp : p ≠ []) (hP : Pth p) (hd : (p.dropLast, d) ∈ T.names) (hk : (T.nd d).kind = 2) (hn : T.at p = none) (hi : (q, i) ∈ T.names) (hf : (T.nd i).kind = 1)
  (ht : Turn w w' (fun b => b = A i ∨ b = M d)) (h2 : w'.heap[A i]? = some (.cells (nodeCells { T.nd i with links := (T.nd i).links + 1 } i dv (kidsV (T.nd i) (M i))) 87 (0, 0))) (h3 : Dat w' dv (T.nd i).data)
  (h5 : MapIs w' (M d) ((.string (mkS (p.getLastD [])), ptr (A i)) :: entries A (T.kids p.dropLast))) : Rep w' tb A M (T.name p i) := by
 have hI := hR.inv
 have hmem : ∀ r j, (r, j) ∈ (T.name p i).names ↔ (r, j) ∈ T.names ∨ (r = p ∧ j = i) := fun r j => by simp [Fs.name]
 have hnd : (T.name p i).nd i = { T.nd i with links := (T.nd i).links + 1 } := by simp [Fs.name]
 have hlive : ∀ j, (T.name p i).Live j → T.Live j := fun j ⟨r, hm⟩ => by
  rcases (hmem r j).1 hm with hm | ⟨_, rfl⟩
  ·exact ⟨r, hm⟩
  ·exact ⟨q, hi⟩
 have hold : ∀ r j, (r, j) ∈ (T.name p i).names → (T.nd j).kind = 2 → (r, j) ∈ T.names := fun r j hm hk2 => by
  rcases (hmem r j).1 hm with hm | ⟨_, rfl⟩
  ·exact hm
  ·rw [hf] at hk2; cases hk2
 refine rep_change (dv := dv) hR (name_inv hI hp hP hd hk hn hi hf) hd hk ⟨q, hi⟩ hlive (fun j hj => ?_) (fun j hj => if_neg hj) rfl ht (fun _ => ?_) (fun r j hm hk2 hjd => ?_) (fun r hm => ?_)
 ·by_cases e : j = i
  ·subst e; rw [hnd]
  ·exact congrArg Nd.kind (if_neg e)
 ·rw [hnd]; exact ⟨h2, h3⟩
 ·have hm' := hold r j hm hk2
  refine ⟨r, hm', List.Perm.of_eq ?_⟩
  have : (T.name p i).kids r = T.kids r := by
   show kidsL (T.names ++ [(p, i)]) r = _
   rw [kidsL_append, kidsL_other p i (fun e => hjd ?_), List.append_nil]
   ·rfl
   ·subst e; exact hI.at_one hm' hd
  rw [this]
 ·have hm' := hold r d hm hk
  have hr : r = p.dropLast := hI.dir_one hd hm' hk
  subst hr
  have hkid : (T.name p i).kids p.dropLast = T.kids p.dropLast ++ [(p.getLastD [], i)] := by
   show kidsL (T.names ++ [(p, i)]) _ = _
   rw [kidsL_append, kidsL_same p _ hp]
   rfl
  rw [hkid]
  refine h5.perm ?_
  unfold entries
  rw [List.map_append]
  exact List.perm_append_singleton _ _
/-- A name has gone. -/
theorem rep_gone {w' : World} {p : Pt} {d i : Nat} {dv : Value} {r : List (Value × Value)} (hR : Rep w tb A M T) (hp : p ≠ []) (hd : (p.dropLast, d) ∈ T.names) (hk : (T.nd d).kind = 2) (hi : (p, i) ∈ T.names) (h0 : T.kids p = [])
  (ht : Turn w w' (fun b => b = A i ∨ b = M d)) (h2 : w'.heap[A i]? = some (.cells (nodeCells { T.nd i with links := (T.nd i).links - 1 } i dv (kidsV (T.nd i) (M i))) 87 (0, 0))) (h3 : Dat w' dv (T.nd i).data)
  (hr : (entries A (T.kids p.dropLast)).Perm ((.string (mkS (p.getLastD [])), ptr (A i)) :: r)) (h5 : MapIs w' (M d) r) : Rep w' tb A M (T.gone p i) := by
 have hI := hR.inv
 have hnd : (T.gone p i).nd i = { T.nd i with links := (T.nd i).links - 1 } := by simp [Fs.gone]
 have hmem : ∀ q j, (q, j) ∈ (T.gone p i).names ↔ (q, j) ∈ T.names ∧ q ≠ p := mem_gone
 refine rep_change (dv := dv) hR (gone_inv hI hi hp h0) hd hk ⟨p, hi⟩ (fun j ⟨q, hm⟩ => ⟨q, ((hmem q j).1 hm).1⟩) (fun j hj => ?_) (fun j hj => if_neg hj) rfl ht (fun _ => ?_) (fun q j hm hk2 hjd => ?_) (fun q hm => ?_)
 ·by_cases e : j = i
  ·subst e; rw [hnd]
  ·exact congrArg Nd.kind (if_neg e)
 ·rw [hnd]; exact ⟨h2, h3⟩
 ·have hm' := ((hmem q j).1 hm).1
  refine ⟨q, hm', List.Perm.of_eq ?_⟩
  have : (T.gone p i).kids q = T.kids q := kidsL_gone_other hI.nodup hi (fun e => hjd (by subst e; exact hI.at_one hm' hd))
  rw [this]
 ·have hm' := ((hmem q d).1 hm).1
  have hq : q = p.dropLast := hI.dir_one hd hm' hk
  subst hq
  refine h5.perm ?_
  have h6 : (entries A (T.kids p.dropLast)).Perm ((.string (mkS (p.getLastD [])), ptr (A i)) :: entries A ((T.gone p i).kids p.dropLast)) := (kidsL_gone hI.nodup hi hp).map _
  exact (List.perm_cons _).1 (h6.symm.trans hr)
end
end Go.Proofs.YtcjlfkklpghjbaaGreat

namespace Go.Proofs.YtcjlfkklpghjbaaGreat
open Go.RowKit
def Fs.setM (T : Fs) (s : Bytes) (m : Mt) : Fs × Int :=
  if mayE s m ≠ 0 then (T, mayE s m) else if (T.there s).2.2 ≠ 0 then (T, (T.there s).2.2) else
  match (T.there s).1 with
  | some i => (T.set i { T.nd i with mt := m }, 0)
  | none => (T, 0)
theorem Stp.of_turn {w w' : World} {tb : Nat} {A M : Nat → Nat} {T T' : Fs} (h : Rep w' tb A M T') (ht : Turn w w' (Own tb A M T)) (hlive : ∀ j, T'.Live j → T.Live j) (hkind : ∀ j, T.Live j → (T'.nd j).kind = (T.nd j).kind) : Stp w w' tb A M T T' :=
 ⟨A, M, h, ht, fun _ hb => Or.inl (own_change hlive hkind hb)⟩
theorem set_kind {T : Fs} {i : Nat} {n : Nd} (hk : n.kind = (T.nd i).kind) (j : Nat) : ((T.set i n).nd j).kind = (T.nd j).kind := by
 by_cases e : j = i
 ·subst e
  have : (T.set j n).nd j = n := by simp [Fs.set]
  rw [this, hk]
 ·exact congrArg Nd.kind (if_neg e)
theorem mt_stp {w : World} {tb : Nat} {A M : Nat → Nat} {T : Fs} {p : Pt} {i : Nat} (hR : Rep w tb A M T) (hi : (p, i) ∈ T.names) (a1 a2 a3 a4 a5 : Int) :
  Stp w (((((w.setCell ⟨A i, 4, none⟩ (.int .i64 a1)).setCell ⟨A i, 5, none⟩ (.int .i64 a2)).setCell ⟨A i, 6, none⟩ (.int .i64 a3)).setCell ⟨A i, 7, none⟩ (.int .i64 a4)).setCell ⟨A i, 8, none⟩ (.int .i64 a5)) tb A M T (T.set i { T.nd i with mt := ⟨a1, a2, a3, a4, a5⟩ }) := by
 obtain ⟨dv, h1, h2⟩ := hR.node i ⟨p, hi⟩
 have ht : Turn w (((((w.setCell ⟨A i, 4, none⟩ (.int .i64 a1)).setCell ⟨A i, 5, none⟩ (.int .i64 a2)).setCell ⟨A i, 6, none⟩ (.int .i64 a3)).setCell ⟨A i, 7, none⟩ (.int .i64 a4)).setCell ⟨A i, 8, none⟩ (.int .i64 a5)) (fun b => b = A i) :=
  by
  iterate 5 refine turn_set (S := fun b => b = A i) ?_ rfl _ _
  exact Turn.refl _ _
 have hu8 := hR.bytes_kept ht (fun b hb => Or.inl (Or.inr (Or.inl ⟨i, ⟨p, hi⟩, hb⟩)))
 refine Stp.of_turn (rep_set (dv := dv) hR hi ⟨hR.inv.kinds p i hi, hR.inv.data p i hi, hR.inv.plain p i hi⟩ rfl rfl ht ?_ (h1.kept hu8)) (ht.mono fun b _ hb => Or.inr (Or.inl ⟨i, ⟨p, hi⟩, hb⟩)) (fun j hj => hj) (fun j _ => set_kind (n := { T.nd i with mt := ⟨a1, a2, a3, a4, a5⟩ }) rfl j)
 exact heap_set_same (heap_set_same (heap_set_same (heap_set_same (heap_set_same h2 4 _) 5 _) 6 _) 7 _) 8 _
set_option maxHeartbeats 2000000 in
set_option maxRecDepth 100000 in
theorem set_calls (tb : Nat) (A M : Nat → Nat) (T : Fs) (s : ByteArray) (m : Mt) (w : World) (hR : Rep w tb A M T) (hs : s.size ≤ 16777216) :
  Calls Tryz.prog 43 #[ptr tb, .string s, mtV m] w fun e w' => e = .returned (.int .i64 (T.setM (bl s) m).2) ∧ Stp w w' tb A M T (T.setM (bl s) m).1 := by
 have h1 := fun W => may_calls tb s m W hs
 have h2 := fun W hW => there_calls tb A M T s W hW hs
 have hto := hR.inv.there_ok (s := bl s)
 unfold Fs.setM
 have hme : (if right (bl s) then if metaOk m then (0 : Int) else 2 else 9) = mayE (bl s) m := rfl
 rw [hme] at h1
 generalize mayE (bl s) m = me at *
 generalize T.there (bl s) = th at *
 obtain ⟨n, dd, te⟩ := th
 obtain ⟨a1, a2, a3, a4, a5⟩ := m
 unfold mtV mtCells ptr at *
 dsimp only at *
 have hB0 : Below w.heap.size w (w.alloc (.cells #[.int .i64 a1, .int .i64 a2, .int .i64 a3, .int .i64 a4, .int .i64 a5] 41)) := (Below.refl _ _).alloc (Nat.le_refl _) _
 have hblk := (MapKept.heap_alloc w (.cells #[.int .i64 a1, .int .i64 a2, .int .i64 a3, .int .i64 a4, .int .i64 a5] 41)).1
 replace h1 := hid h1
 replace h2 := hid h2
 replace hblk := hid hblk
 replace hB0 := hid hB0
 replace hR := hid hR
 clear hme
 by_cases he : me = 0
 ·subst he
  rw [if_neg (by simp)]
  by_cases hf : te = 0
  ·subst hf
   rw [if_neg (by simp)]
   obtain ⟨_, i, rfl, hi, _⟩ := hto rfl
   have hmt := fun W hW => mt_stp (w := W) (tb := tb) (A := A) (M := M) hW hi a1 a2 a3 a4 a5
   dsimp only
   have hlive : T.Live i := ⟨_, hi⟩
   clear hto
   replace hmt := hid hmt
   go_enter Tryz.func43, Tryz.ntmps43
   go_wp2_with fail
   refine (h1.out _).mono ?_
   rintro e w1 ⟨rfl, hB1⟩
   have hB01 := below_step hB0.out hB1
   have hblk1 := (hB1.block _ (Array.getElem?_eq_some_iff.1 hblk.out).1).trans hblk.out
   have hR1 := hR.out.below hB01
   replace hR1 := hid hR1
   replace hblk1 := hid hblk1
   go_wp2_with fail
   refine (h2.out _ hR1.out).mono ?_
   rintro e w2 ⟨rfl, hB2⟩
   have hB02 := below_step hB01 hB2
   have hR2 := hR1.out.below hB2
   have hlt := (Array.getElem?_eq_some_iff.1 hblk1.out).1
   have hblk2 := (hB2.block _ hlt).trans hblk1.out
   replace hR2 := hid hR2
   rw [optPtr_some]
   have d0 := cell_of (j := 0) hblk2 rfl
   have d1 := cell_of (j := 1) hblk2 rfl
   have d2 := cell_of (j := 2) hblk2 rfl
   have d3 := cell_of (j := 3) hblk2 rfl
   have d4 := cell_of (j := 4) hblk2 rfl
   obtain ⟨dv, _, hnode⟩ := hR2.out.node i hlive
   have f1 : ∀ k, w2.frozen? ⟨A i, k, none⟩ = false := fun k => by simp [World.frozen?, hnode]
   have c4 : w2.cell? ⟨A i, 4, none⟩ = some (.int .i64 (T.nd i).mt.mode) := cell_of hnode rfl
   have c5 : w2.cell? ⟨A i, 5, none⟩ = some (.int .i64 (T.nd i).mt.sec) := cell_of hnode rfl
   have c6 : w2.cell? ⟨A i, 6, none⟩ = some (.int .i64 (T.nd i).mt.nano) := cell_of hnode rfl
   have c7 : w2.cell? ⟨A i, 7, none⟩ = some (.int .i64 (T.nd i).mt.uid) := cell_of hnode rfl
   have c8 : w2.cell? ⟨A i, 8, none⟩ = some (.int .i64 (T.nd i).mt.gid) := cell_of hnode rfl
   have hst := hmt.out w2 hR2.out
   replace hst := hid hst
   clear hblk2 h1 h2 hmt hnode
   go_wp2
   go_ret
   exact ⟨rfl, hst.out.after hB02⟩
  ·rw [if_pos hf]
   have hf2 : (te != 0) = true := by simpa using hf
   dsimp only at *
   clear hto hf
   go_enter Tryz.func43, Tryz.ntmps43
   go_wp2_with fail
   refine (h1.out _).mono ?_
   rintro e w1 ⟨rfl, hB1⟩
   have hB01 := below_step hB0.out hB1
   have hblk1 := (hB1.block _ (Array.getElem?_eq_some_iff.1 hblk.out).1).trans hblk.out
   have hR1 := hR.out.below hB01
   replace hR1 := hid hR1
   replace hblk1 := hid hblk1
   go_wp2_with fail
   refine (h2.out _ hR1.out).mono ?_
   rintro e w2 ⟨rfl, hB2⟩
   have hB02 := below_step hB01 hB2
   have hR2 := hR1.out.below hB2
   have hlt := (Array.getElem?_eq_some_iff.1 hblk1.out).1
   have hblk2 := (hB2.block _ hlt).trans hblk1.out
   replace hR2 := hid hR2
   clear hblk2 h1 h2
   go_wp2
   go_ret
   exact ⟨rfl, Stp.same hR.out hB02⟩
 ·rw [if_pos he]
  have he2 : (me != 0) = true := by simpa using he
  clear he h2 hto
  go_enter Tryz.func43, Tryz.ntmps43
  go_wp2_with fail
  refine (h1.out _).mono ?_
  rintro e w1 ⟨rfl, hB1⟩
  have hB01 := below_step hB0.out hB1
  go_wp2
  go_ret
  exact ⟨rfl, Stp.same hR.out hB01⟩
end Go.Proofs.YtcjlfkklpghjbaaGreat

namespace Go.Proofs.YtcjlfkklpghjbaaGreat
open Go.RowKit
theorem namesOf_le (l : List (Pt × Nat)) (i : Nat) : namesOf l i ≤ l.length := List.length_filter_le _ _
theorem kids_split {A : Nat → Nat} {T : Fs} (hI : T.Inv) {p : Pt} (hp : p ≠ []) {i : Nat} (hi : (p, i) ∈ T.names) :
  ∃ r, (entries A (T.kids p.dropLast)).Perm ((.string (mkS (p.getLastD [])), ptr (A i)) :: r) := ⟨_, (kidsL_gone hI.nodup hi hp).map _⟩
set_option maxHeartbeats 2000000 in
set_option maxRecDepth 100000 in
theorem out_calls (tb : Nat) (A M : Nat → Nat) (T : Fs) (s : ByteArray) (d i : Nat) (w : World) (hR : Rep w tb A M T) (hs : s.size ≤ 16777216) (hne : bl s ≠ []) (hd : ((split (bl s)).dropLast, d) ∈ T.names) (hk : (T.nd d).kind = 2)
  (hi : (split (bl s), i) ∈ T.names) (h0 : T.kids (split (bl s)) = []) (hf : T.names.length ≤ 1000000) :
  Calls Tryz.prog 85 #[ptr (A d), .string s] w fun e w' => e = .returned (.tuple #[]) ∧ Rep w' tb A M (T.gone (split (bl s)) i) ∧ Turn w w' (fun b => b = A i ∨ b = M d) := by
 have hb := fun W => base_calls s W (by unfold maxLen; omega)
 have hsb := split_base hne
 have hpne : split (bl s) ≠ [] := fun e => hne (split_eq_nil e)
 have hbase : base (bl s) = (split (bl s)).getLastD [] := rfl
 have hI := hR.inv
 have hlk := hR.look hd hk (base (bl s))
 rw [hsb, hI.at_some.2 hi, optPtr_some] at hlk
 have hM := hR.kids _ d hd hk
 obtain ⟨dv, hdv, hnode⟩ := hR.node i ⟨_, hi⟩
 obtain ⟨dvd, _, hnd⟩ := hR.node d ⟨_, hd⟩
 have hMn : M d ≠ A i := hR.map_node hd hk ⟨_, hi⟩
 have hl1 := hI.links _ i hi
 have hl2 := namesOf_le T.names i
 obtain ⟨r, hr⟩ := kids_split (A := A) hI hpne hi
 rw [← hbase] at hr
 obtain ⟨w1, hw1⟩ : ∃ x, x = w.setCell ⟨A i, 3, none⟩ (.int .i64 ((T.nd i).links - 1)) := ⟨_, rfl⟩
 have n1 := heap_set_same hnode 3 (.int .i64 ((T.nd i).links - 1))
 rw [← hw1] at n1
 have hM1 : MapIs w1 (M d) (entries A (T.kids (split (bl s)).dropLast)) := hM.of_block (by rw [hw1]; exact heap_set_other w hMn 3 _)
 have hkey := keyable_string Tryz.underlying9 w1 (mkS (base (bl s))) (entries_keys A (T.kids (split (bl s)).dropLast))
 have hdrop := fun ty => hM1.drop_hit under_kids hkey hr ty
 have d1c : w1.cell? ⟨A d, 11, none⟩ = some (.map (some (M d))) := by
  by_cases e : A d = A i
  ·have := hR.injA d i ⟨_, hd⟩ ⟨_, hi⟩ e
   subst this
   have := cell_of (j := 11) n1 (v := kidsV (T.nd d) (M d)) rfl
   rwa [kidsV, if_pos hk] at this
  ·have h3 : w1.heap[A d]? = some (.cells (nodeCells (T.nd d) d dvd (kidsV (T.nd d) (M d))) 87 (0, 0)) := by rw [hw1]; exact (heap_set_other w e 3 _).trans hnd
   have := cell_of (j := 11) h3 (v := kidsV (T.nd d) (M d)) rfl
   rwa [kidsV, if_pos hk] at this
 have d0c : w.cell? ⟨A d, 11, none⟩ = some (.map (some (M d))) := by
  have := cell_of (j := 11) hnd (v := kidsV (T.nd d) (M d)) rfl
  rwa [kidsV, if_pos hk] at this
 have c3 : w.cell? ⟨A i, 3, none⟩ = some (.int .i64 (T.nd i).links) := cell_of hnode rfl
 have f3 : w.frozen? ⟨A i, 3, none⟩ = false := by simp [World.frozen?, hnode]
 have hwr : IntKind.i64.wrap ((T.nd i).links - 1) = (T.nd i).links - 1 := IntWalk.i64_in _ (by omega)
 have hfin : ∀ w2, MapIs w2 (M d) r → w1.mapTurned w2 (M d) → Rep w2 tb A M (T.gone (split (bl s)) i) ∧ Turn w w2 (fun b => b = A i ∨ b = M d) := by
  intro w2 hm2 ht2
  have hg2 := ht2.grown
  have ht1 : Turn w w1 (fun b => b = A i ∨ b = M d) := by
   rw [hw1]
   exact turn_set (S := fun b => b = A i ∨ b = M d) (Turn.refl _ _) (Or.inl rfl) _ _
  have htt : Turn w w2 (fun b => b = A i ∨ b = M d) := ht1.trans (Turn.of_grown hg2 (fun j e => by cases e; exact Or.inl (Or.inr rfl)))
  refine ⟨rep_gone (dv := dv) hR hpne hd hk hi h0 htt ?_ (hdv.kept (hR.bytes_kept htt ?_)) (by rw [← hbase]; exact hr) hm2, htt⟩
  ·exact (hg2.block _ (Array.getElem?_eq_some_iff.1 n1).1 (by simpa using hMn.symm)).trans n1
  ·rintro b (rfl | rfl)
   ·exact Or.inl (Or.inr (Or.inl ⟨i, ⟨_, hi⟩, rfl⟩))
   ·exact Or.inl (Or.inr (Or.inr ⟨d, ⟨_, hd⟩, hk, rfl⟩))
 replace hb := hid hb
 replace hdrop := hid hdrop
 replace hfin := hid hfin
 clear hM1 hkey hr n1 hnd hnode hdv hM hl1 hl2 hI hbase hsb hR
 rw [hw1] at d1c
 replace hw1 := hid hw1
 replace d1c := hid d1c
 generalize (T.nd i).links = lk at *
 obtain ⟨lk1, hlk1⟩ : ∃ x, x = lk - 1 := ⟨_, rfl⟩
 have hwr2 : IntKind.i64.wrap (lk - 1) = lk1 := hwr.trans hlk1.symm
 rw [← hlk1] at hw1 d1c
 replace hlk1 := hid hlk1
 clear hwr
 have d1c' := d1c.out
 unfold ptr
 go_enter Tryz.func85, Tryz.ntmps85
 go_wp2_with fail
 refine (hb.out _).mono ?_
 rintro e w' ⟨rfl, rfl⟩
 obtain ⟨w2, hrun, hm2, ht2⟩ := hdrop.out 0
 have hf2 := hfin.out w2 hm2 ht2
 rw [hw1.out] at hrun
 replace hrun := hid hrun
 replace hf2 := hid hf2
 clear hdrop hfin hm2 ht2 hw1
 go_wp2_with (at_delete; refine wp_drop _ rfl _ _ 85 9 rfl (.map (some (M d))) (.string (mkS (base (bl s)))) rfl rfl w2 hrun.out ?_)
 go_wp2
 go_end0
 exact ⟨rfl, hf2.out⟩
set_option maxHeartbeats 2000000 in
set_option maxRecDepth 100000 in
theorem out_none (tb : Nat) (A M : Nat → Nat) (T : Fs) (s : ByteArray) (d : Nat) (w : World) (hR : Rep w tb A M T) (hs : s.size ≤ 16777216) (hne : bl s ≠ []) (hd : ((split (bl s)).dropLast, d) ∈ T.names) (hk : (T.nd d).kind = 2)
  (hi : T.at (split (bl s)) = none) :
  Calls Tryz.prog 85 #[ptr (A d), .string s] w fun e w' => e = .returned (.tuple #[]) ∧ w = w' := by
 have hb := fun W => base_calls s W (by unfold maxLen; omega)
 have hsb := split_base hne
 have hlk := hR.look hd hk (base (bl s))
 rw [hsb, hi, optPtr_none] at hlk
 obtain ⟨dvd, _, hnd⟩ := hR.node d ⟨_, hd⟩
 have d0c : w.cell? ⟨A d, 11, none⟩ = some (.map (some (M d))) := by
  have := cell_of (j := 11) hnd (v := kidsV (T.nd d) (M d)) rfl
  rwa [kidsV, if_pos hk] at this
 replace hb := hid hb
 clear hnd hsb hR hi
 unfold ptr
 go_enter Tryz.func85, Tryz.ntmps85
 go_wp2_with fail
 refine (hb.out _).mono ?_
 rintro e w' ⟨rfl, rfl⟩
 go_wp2
 go_end0
 exact ⟨rfl, rfl⟩
end Go.Proofs.YtcjlfkklpghjbaaGreat

namespace Go.Proofs.YtcjlfkklpghjbaaGreat
open Go.RowKit
def Fs.remove (T : Fs) (s : Bytes) : Fs × Int :=
  if right s = false then (T, 9) else if s = [] then (T, 2) else if (T.there s).2.2 ≠ 0 then (T, (T.there s).2.2) else
  match (T.there s).1 with
  | some i => if T.kids (split s) ≠ [] then (T, 14) else (T.gone (split s) i, 0)
  | none => (T, 0)
theorem kids_file {T : Fs} (hI : T.Inv) {p : Pt} {i : Nat} (hi : (p, i) ∈ T.names) (hk : (T.nd i).kind ≠ 2) : T.kids p = [] := by
 cases hc : T.kids p with
 | nil => rfl
 | cons x r =>
  have : (p ++ [x.1], x.2) ∈ T.names := mem_kidsL.1 (by show (x.1, x.2) ∈ T.kids p; rw [hc]; exact List.mem_cons_self ..)
  obtain ⟨j, hj, hj2⟩ := hI.up _ _ this (by simp)
  rw [List.dropLast_concat] at hj
  have := hI.at_one hi hj
  subst this
  exact absurd hj2 hk
theorem gone_live {T : Fs} {p : Pt} {i j : Nat} (h : (T.gone p i).Live j) : T.Live j := by
 obtain ⟨q, hm⟩ := h
 exact ⟨q, ((mem_gone q j).1 hm).1⟩
theorem gone_kind {T : Fs} {p : Pt} {i : Nat} (j : Nat) : ((T.gone p i).nd j).kind = (T.nd j).kind := by
 by_cases e : j = i
 ·subst e; simp [Fs.gone]
 ·exact congrArg Nd.kind (if_neg e)
/-- How many stand in a directory, as the program counts them. -/
theorem Rep.len_kids {w : World} {tb : Nat} {A M : Nat → Nat} {T : Fs} (h : Rep w tb A M T) {p : Pt} {i : Nat} (hi : (p, i) ∈ T.names) (ty : TypeId) :
  (Builtin.len_ #[85] ty #[kidsV (T.nd i) (M i)]).run Tryz.prog w = .ok (.int .i64 (T.kids p).length) w := by
 by_cases hk : (T.nd i).kind = 2
 ·rw [kidsV, if_pos hk, (h.kids p i hi hk).len under_kids ty]
  simp [entries]
 ·rw [kidsV, if_neg hk, kids_file h.inv hi hk]
  simp [Builtin.len_, run_underlying under_kids, goInt, Result.andThen]
set_option maxHeartbeats 2000000 in
set_option maxRecDepth 100000 in
theorem remove_calls (tb : Nat) (A M : Nat → Nat) (T : Fs) (s : ByteArray) (w : World) (hR : Rep w tb A M T) (hs : s.size ≤ 16777216) (hf : T.names.length ≤ 1000000) :
  Calls Tryz.prog 41 #[ptr tb, .string s] w fun e w' => e = .returned (.int .i64 (T.remove (bl s)).2) ∧ Stp w w' tb A M T (T.remove (bl s)).1 := by
 have h1 := fun W => right_calls s W hs
 have h2 := fun W hW => there_calls tb A M T s W hW hs
 have hto := hR.inv.there_ok (s := bl s)
 have hn := str_nil s
 unfold Fs.remove
 generalize T.there (bl s) = th at *
 obtain ⟨n, dd, te⟩ := th
 unfold ptr at *
 dsimp only at *
 replace h1 := hid h1
 replace h2 := hid h2
 replace hR := hid hR
 cases hr : right (bl s) with
 | false =>
  rw [if_pos rfl]
  rw [hr] at h1
  clear h2 hto hn hr
  go_enter Tryz.func41, Tryz.ntmps41
  go_wp2_with fail
  refine (h1.out _).mono ?_
  rintro e w1 ⟨rfl, hB1⟩
  go_wp2
  go_ret
  exact ⟨rfl, Stp.same hR.out hB1⟩
 | true =>
  rw [if_neg (by simp)]
  rw [hr] at h1
  by_cases hnil : bl s = []
  ·rw [if_pos hnil]
   have hn2 : s.toList.isEmpty = true := by rw [hn, hnil]; rfl
   clear h2 hto hn hr hnil
   go_enter Tryz.func41, Tryz.ntmps41
   go_wp2_with fail
   refine (h1.out _).mono ?_
   rintro e w1 ⟨rfl, hB1⟩
   go_wp2
   go_ret
   exact ⟨rfl, Stp.same hR.out hB1⟩
  ·rw [if_neg hnil]
   have hn2 : s.toList.isEmpty = false := by rw [hn]; simpa using hnil
   by_cases he : te = 0
   ·subst he
    rw [if_neg (by simp)]
    obtain ⟨_, i, rfl, hi, hc⟩ := hto rfl
    rcases hc with ⟨h0, _⟩ | ⟨_, d, rfl, hd, hdk⟩
    ·exact absurd h0 hnil
    have hlk := fun W hW => Rep.len_kids (w := W) (tb := tb) (A := A) (M := M) hW hi
    dsimp only
    clear hto hn hr
    by_cases hkd : T.kids (split (bl s)) = []
    ·rw [if_neg (by simp [hkd])]
     have h3 := fun W hW => out_calls tb A M T s d i W hW hs hnil hd hdk hi hkd hf
     rw [hkd] at hlk
     unfold ptr at h3
     clear hnil hkd
     replace h3 := hid h3
     replace hlk := hid hlk
     go_enter Tryz.func41, Tryz.ntmps41
     go_wp2_with fail
     refine (h1.out _).mono ?_
     rintro e w1 ⟨rfl, hB1⟩
     go_wp2_with fail
     refine (h2.out _ (hR.out.below hB1)).mono ?_
     rintro e w2 ⟨rfl, hB2⟩
     have hB := below_step hB1 hB2
     have hR2 := hR.out.below hB
     obtain ⟨dv, _, hnode⟩ := hR2.node i ⟨_, hi⟩
     have c11 : w2.cell? ⟨A i, 11, none⟩ = some (kidsV (T.nd i) (M i)) := cell_of hnode rfl
     have hlen := hlk.out w2 hR2
     have h4 := h3.out w2 hR2
     rw [optPtr_some, optPtr_some]
     generalize kidsV (T.nd i) (M i) = kv at *
     replace hR2 := hid hR2
     replace h4 := hid h4
     clear hnode
     go_wp2_with fail
     refine h4.out.mono ?_
     rintro e w3 ⟨rfl, hr3, ht3⟩
     have hst : Stp w2 w3 tb A M T (T.gone (split (bl s)) i) := Stp.of_turn hr3 (ht3.mono (by
      rintro b _ (rfl | rfl)
      ·exact Or.inr (Or.inl ⟨i, ⟨_, hi⟩, rfl⟩)
      ·exact Or.inr (Or.inr ⟨d, ⟨_, hd⟩, hdk, rfl⟩))) (fun j hj => gone_live hj) (fun j _ => gone_kind j)
     replace hst := hid hst
     clear hr3 ht3
     go_wp2
     go_ret
     exact ⟨rfl, hst.out.after hB⟩
    ·rw [if_pos hkd]
     have hpos : (0 : Int) < ((T.kids (split (bl s))).length : Int) := by
      have : (T.kids (split (bl s))).length ≠ 0 := fun e => hkd (List.eq_nil_of_length_eq_zero e)
      omega
     clear hnil hkd
     replace hlk := hid hlk
     go_enter Tryz.func41, Tryz.ntmps41
     go_wp2_with fail
     refine (h1.out _).mono ?_
     rintro e w1 ⟨rfl, hB1⟩
     go_wp2_with fail
     refine (h2.out _ (hR.out.below hB1)).mono ?_
     rintro e w2 ⟨rfl, hB2⟩
     have hB := below_step hB1 hB2
     have hR2 := hR.out.below hB
     obtain ⟨dv, _, hnode⟩ := hR2.node i ⟨_, hi⟩
     have c11 : w2.cell? ⟨A i, 11, none⟩ = some (kidsV (T.nd i) (M i)) := cell_of hnode rfl
     have hlen := hlk.out w2 hR2
     rw [optPtr_some, optPtr_some]
     generalize kidsV (T.nd i) (M i) = kv at *
     replace hR2 := hid hR2
     clear hnode
     go_wp2
     go_ret
     exact ⟨rfl, Stp.same hR.out hB⟩
   ·rw [if_pos he]
    have he2 : (te != 0) = true := by simpa using he
    clear hto hn hr hnil he
    go_enter Tryz.func41, Tryz.ntmps41
    go_wp2_with fail
    refine (h1.out _).mono ?_
    rintro e w1 ⟨rfl, hB1⟩
    go_wp2_with fail
    refine (h2.out _ (hR.out.below hB1)).mono ?_
    rintro e w2 ⟨rfl, hB2⟩
    have hB := below_step hB1 hB2
    go_wp2
    go_ret
    exact ⟨rfl, Stp.same hR.out hB⟩
end Go.Proofs.YtcjlfkklpghjbaaGreat

namespace Go.Proofs.YtcjlfkklpghjbaaGreat
open Go.RowKit
def Fs.link (T : Fs) (o p : Bytes) : Fs × Int :=
  if right o = false ∨ right p = false then (T, 9) else if (T.there o).2.2 ≠ 0 then (T, (T.there o).2.2) else
  match (T.there o).1 with
  | some i => if notFile (T.nd i) ≠ 0 then (T, notFile (T.nd i)) else if (T.fresh p).2 ≠ 0 then (T, (T.fresh p).2) else (T.name (split p) i, 0)
  | none => (T, 0)
theorem name_live {T : Fs} {p q : Pt} {i j : Nat} (hi : (q, i) ∈ T.names) (h : (T.name p i).Live j) : T.Live j := by
 obtain ⟨r, hm⟩ := h
 simp only [Fs.name, List.mem_append, List.mem_singleton, Prod.mk.injEq] at hm
 rcases hm with hm | ⟨_, rfl⟩
 ·exact ⟨r, hm⟩
 ·exact ⟨q, hi⟩
theorem name_kind {T : Fs} {p : Pt} {i : Nat} (j : Nat) : ((T.name p i).nd j).kind = (T.nd j).kind := by
 by_cases e : j = i
 ·subst e; simp [Fs.name]
 ·exact congrArg Nd.kind (if_neg e)
theorem notFile_zero {T : Fs} (hI : T.Inv) {p : Pt} {i : Nat} (hi : (p, i) ∈ T.names) (h : notFile (T.nd i) = 0) : (T.nd i).kind = 1 := by
 unfold notFile at h
 rcases hI.kinds p i hi with e | e | e
 ·exact e
 ·rw [if_pos e] at h; cases h
 ·rw [if_neg (by rw [e]; decide), if_pos e] at h; cases h
/-- The two last steps of a Link: the name is stored, the links are one more. -/
theorem link_end {w : World} {tb : Nat} {A M : Nat → Nat} {T : Fs} {s : ByteArray} {q : Pt} {d i : Nat} (hR : Rep w tb A M T) (hr : right (bl s) = true) (hne : bl s ≠ []) (hd : ((split (bl s)).dropLast, d) ∈ T.names) (hk : (T.nd d).kind = 2) (hn : T.at (split (bl s)) = none)
  (hi : (q, i) ∈ T.names) (hf : (T.nd i).kind = 1) (hfew : T.names.length ≤ 1000000) :
  ∃ w1, (Instr.mapUpdate 85 (.map (some (M d))) (.string (mkS (base (bl s)))) (ptr (A i))).run Tryz.prog w.drew = .ok () w1 ∧ w1.cell? ⟨A i, 3, none⟩ = some (.int .i64 (T.nd i).links) ∧ w1.frozen? ⟨A i, 3, none⟩ = false ∧
   IntKind.i64.wrap ((T.nd i).links + 1) = (T.nd i).links + 1 ∧ Stp w (w1.setCell ⟨A i, 3, none⟩ (.int .i64 ((T.nd i).links + 1))) tb A M T (T.name (split (bl s)) i) := by
 have hI := hR.inv
 have hsb := split_base hne
 have hpne : split (bl s) ≠ [] := fun e => hne (split_eq_nil e)
 have hbase : base (bl s) = (split (bl s)).getLastD [] := rfl
 have hM := hR.kids _ d hd hk
 obtain ⟨dv, hdv, hnode⟩ := hR.node i ⟨_, hi⟩
 have hMn : M d ≠ A i := hR.map_node hd hk ⟨_, hi⟩
 have hl1 := hI.links _ i hi
 have hl2 := namesOf_le T.names i
 have hkey := keyable_string Tryz.underlying9 w.drew (mkS (base (bl s))) (entries_keys A (T.kids (split (bl s)).dropLast))
 have hmiss : ∀ q ∈ entries A (T.kids (split (bl s)).dropLast), q.1 ≠ .string (mkS (base (bl s))) := by
  intro q hq e
  obtain ⟨⟨y, j⟩, hy, rfl⟩ := List.mem_map.1 hq
  simp only [Value.string.injEq] at e
  rw [mkS_inj e] at hy
  have := hI.kids_at.1 hy
  rw [hsb, hn] at this
  cases this
 have hMd : MapIs w.drew (M d) (entries A (T.kids (split (bl s)).dropLast)) := hM
 obtain ⟨w1, hrun, hm1, ht1⟩ := hMd.store_new under_kids (v := ptr (A i)) hkey hmiss
 have hg1 := ht1.grown
 have hn1 := (hg1.block (A i) (Array.getElem?_eq_some_iff.1 hnode).1 (by simpa using hMn.symm)).trans hnode
 have htt : Turn w (w1.setCell ⟨A i, 3, none⟩ (.int .i64 ((T.nd i).links + 1))) (fun b => b = A i ∨ b = M d) := by
  refine turn_set (S := fun b => b = A i ∨ b = M d) ?_ (Or.inl rfl) _ _
  have h0 : Turn w w.drew (fun b => b = A i ∨ b = M d) := (Turn.refl w _).drewN 1
  exact h0.trans (Turn.of_grown hg1 (fun j e => by cases e; exact Or.inl (Or.inr rfl)))
 have hrep : Rep (w1.setCell ⟨A i, 3, none⟩ (.int .i64 ((T.nd i).links + 1))) tb A M (T.name (split (bl s)) i) := by
  refine rep_name (dv := dv) hR hpne ⟨_, hr, rfl⟩ hd hk hn hi hf htt (heap_set_same hn1 3 _) (hdv.kept (hR.bytes_kept htt ?_)) ?_
  ·rintro b (rfl | rfl)
   ·exact Or.inl (Or.inr (Or.inl ⟨i, ⟨_, hi⟩, rfl⟩))
   ·exact Or.inl (Or.inr (Or.inr ⟨d, ⟨_, hd⟩, hk, rfl⟩))
  ·rw [← hbase]
   exact hm1.of_block (heap_set_other w1 hMn 3 _)
 refine ⟨w1, hrun, cell_of hn1 rfl, by simp [World.frozen?, hn1], IntWalk.i64_in _ (by omega), Stp.of_turn hrep (htt.mono ?_) (fun j hj => name_live hi hj) (fun j _ => name_kind j)⟩
 rintro b _ (rfl | rfl)
 ·exact Or.inr (Or.inl ⟨i, ⟨_, hi⟩, rfl⟩)
 ·exact Or.inr (Or.inr ⟨d, ⟨_, hd⟩, hk, rfl⟩)
set_option maxHeartbeats 2000000 in
set_option maxRecDepth 100000 in
theorem link_calls (tb : Nat) (A M : Nat → Nat) (T : Fs) (o s : ByteArray) (w : World) (hR : Rep w tb A M T) (ho : o.size ≤ 16777216) (hs : s.size ≤ 16777216) (hf : T.names.length ≤ 1000000) :
  Calls Tryz.prog 40 #[ptr tb, .string o, .string s] w fun e w' => e = .returned (.int .i64 (T.link (bl o) (bl s)).2) ∧ Stp w w' tb A M T (T.link (bl o) (bl s)).1 := by
 have h0 := fun W => right_calls o W ho
 have h1 := fun W => right_calls s W hs
 have h2 := fun W hW => there_calls tb A M T o W hW ho
 have h3 := fun W hW => fresh_calls tb A M T s W hW hs
 have hb := fun W => base_calls s W (by unfold maxLen; omega)
 have hto := hR.inv.there_ok (s := bl o)
 have hfo := hR.inv.fresh_ok (s := bl s)
 have hI := hR.inv
 unfold Fs.link
 generalize T.there (bl o) = th at *
 obtain ⟨n, dd, te⟩ := th
 generalize T.fresh (bl s) = fr at *
 obtain ⟨fd, fe⟩ := fr
 unfold ptr at *
 dsimp only at *
 replace h0 := hid h0
 replace h1 := hid h1
 replace h2 := hid h2
 replace h3 := hid h3
 replace hb := hid hb
 replace hR := hid hR
 replace hI := hid hI
 cases hr0 : right (bl o) with
 | false =>
  rw [if_pos (Or.inl rfl)]
  rw [hr0] at h0
  clear h1 h2 h3 hto hfo hr0
  go_enter Tryz.func40, Tryz.ntmps40
  go_wp2_with fail
  refine (h0.out _).mono ?_
  rintro e w1 ⟨rfl, hB1⟩
  go_wp2
  go_ret
  exact ⟨rfl, Stp.same hR.out hB1⟩
 | true =>
  rw [hr0] at h0
  cases hr : right (bl s) with
  | false =>
   rw [if_pos (Or.inr rfl)]
   rw [hr] at h1
   clear h2 h3 hto hfo hr0 hr
   go_enter Tryz.func40, Tryz.ntmps40
   go_wp2_with fail
   refine (h0.out _).mono ?_
   rintro e w1 ⟨rfl, hB1⟩
   go_wp2_with fail
   refine (h1.out _).mono ?_
   rintro e w2 ⟨rfl, hB2⟩
   go_wp2
   go_ret
   exact ⟨rfl, Stp.same hR.out (below_step hB1 hB2)⟩
  | true =>
   rw [if_neg (by simp)]
   rw [hr] at h1
   by_cases he : te = 0
   ·subst he
    rw [if_neg (by simp)]
    obtain ⟨_, i, rfl, hi, _⟩ := hto rfl
    have h4 := fun W hW => file_calls tb A M T i W hW ⟨_, hi⟩
    unfold ptr at h4
    dsimp only
    clear hto hr0 hr
    by_cases hz : notFile (T.nd i) = 0
    ·rw [if_neg (by simp [hz])]
     have hk1 := notFile_zero hI.out hi hz
     rw [hz] at h4
     clear hz
     replace h4 := hid h4
     by_cases hfe : fe = 0
     ·subst hfe
      rw [if_neg (by simp)]
      obtain ⟨g1, g2, g3, d, rfl, g4, g5⟩ := hfo rfl
      have hend := fun W hW => link_end (w := W) (tb := tb) (A := A) (M := M) hW g1 g2 g4 g5 g3 hi hk1 hf
      dsimp only
      have hdl : T.Live d := ⟨_, g4⟩
      clear hfo g1 g2 g3 g4 hk1 hi
      replace hend := hid hend
      replace g5 := hid g5
      go_enter Tryz.func40, Tryz.ntmps40
      go_wp2_with fail
      refine (h0.out _).mono ?_
      rintro e w1 ⟨rfl, hB1⟩
      go_wp2_with fail
      refine (h1.out _).mono ?_
      rintro e w2 ⟨rfl, hB2⟩
      have hB12 := below_step hB1 hB2
      go_wp2_with fail
      refine (h2.out _ (hR.out.below hB12)).mono ?_
      rintro e w3 ⟨rfl, hB3⟩
      have hB13 := below_step hB12 hB3
      rw [optPtr_some]
      go_wp2_with fail
      refine (h4.out _ (hR.out.below hB13)).mono ?_
      rintro e w3' ⟨rfl, rfl⟩
      go_wp2_with fail
      refine (h3.out _ (hR.out.below hB13)).mono ?_
      rintro e w4 ⟨rfl, hB4⟩
      have hB14 := below_step hB13 hB4
      have hR4 := hR.out.below hB14
      rw [optPtr_some]
      obtain ⟨w5, hrun, hc3, hf3, hwr, hst⟩ := hend.out w4 hR4
      obtain ⟨dv, _, hnd⟩ := hR4.node d hdl
      have c11 : w4.cell? ⟨A d, 11, none⟩ = some (kidsV (T.nd d) (M d)) := cell_of hnd rfl
      rw [kidsV, if_pos g5.out] at c11
      obtain ⟨lk1, hlk1⟩ : ∃ x, x = (T.nd i).links + 1 := ⟨_, rfl⟩
      rw [← hlk1] at hst
      have hwr2 : IntKind.i64.wrap ((T.nd i).links + 1) = lk1 := hwr.trans hlk1.symm
      generalize (T.nd i).links = lk at *
      replace hlk1 := hid hlk1
      replace hrun := hid hrun
      replace hst := hid hst
      replace hR4 := hid hR4
      replace hnd := hid hnd
      clear hwr h0 h1 h2 h3 h4 hend
      go_wp2_with fail
      refine wp_region_still_tail 7 (by kernel_rfl) (by kernel_rfl) ?_
      simp only [List.take_succ_cons, List.take_zero, List.drop_succ_cons, List.drop_zero]
      iterate 5 still_step
      still_call ((hb.out w4.drew).mono fun e w' hh => ⟨hh.1, hh.2.symm⟩)
      still_step
      refine wpStill_nil ?_
      change wpList _ _ _ _ _ w4.drew
      refine wp_store _ rfl _ _ _ 85 rfl (.map (some (M d))) (.string (mkS (base (bl s)))) (ptr (A i)) rfl rfl rfl w5 hrun.out ?_
      go_wp2
      go_ret
      exact ⟨rfl, hst.out.after hB14⟩
     ·rw [if_pos hfe]
      have hfe2 : (fe != 0) = true := by simpa using hfe
      dsimp only at *
      clear hfo hfe hk1
      go_enter Tryz.func40, Tryz.ntmps40
      go_wp2_with fail
      refine (h0.out _).mono ?_
      rintro e w1 ⟨rfl, hB1⟩
      go_wp2_with fail
      refine (h1.out _).mono ?_
      rintro e w2 ⟨rfl, hB2⟩
      have hB12 := below_step hB1 hB2
      go_wp2_with fail
      refine (h2.out _ (hR.out.below hB12)).mono ?_
      rintro e w3 ⟨rfl, hB3⟩
      have hB13 := below_step hB12 hB3
      rw [optPtr_some]
      go_wp2_with fail
      refine (h4.out _ (hR.out.below hB13)).mono ?_
      rintro e w3' ⟨rfl, rfl⟩
      go_wp2_with fail
      refine (h3.out _ (hR.out.below hB13)).mono ?_
      rintro e w4 ⟨rfl, hB4⟩
      have hB14 := below_step hB13 hB4
      go_wp2
      go_ret
      exact ⟨rfl, Stp.same hR.out hB14⟩
    ·rw [if_pos hz]
     generalize notFile (T.nd i) = nf at *
     have hz2 : (nf != 0) = true := by simpa using hz
     clear hz hfo h3
     replace h4 := hid h4
     go_enter Tryz.func40, Tryz.ntmps40
     go_wp2_with fail
     refine (h0.out _).mono ?_
     rintro e w1 ⟨rfl, hB1⟩
     go_wp2_with fail
     refine (h1.out _).mono ?_
     rintro e w2 ⟨rfl, hB2⟩
     have hB12 := below_step hB1 hB2
     go_wp2_with fail
     refine (h2.out _ (hR.out.below hB12)).mono ?_
     rintro e w3 ⟨rfl, hB3⟩
     have hB13 := below_step hB12 hB3
     rw [optPtr_some]
     go_wp2_with fail
     refine (h4.out _ (hR.out.below hB13)).mono ?_
     rintro e w3' ⟨rfl, rfl⟩
     go_wp2
     go_ret
     exact ⟨rfl, Stp.same hR.out hB13⟩
   ·rw [if_pos he]
    have he2 : (te != 0) = true := by simpa using he
    clear hto hfo he h3
    go_enter Tryz.func40, Tryz.ntmps40
    go_wp2_with fail
    refine (h0.out _).mono ?_
    rintro e w1 ⟨rfl, hB1⟩
    go_wp2_with fail
    refine (h1.out _).mono ?_
    rintro e w2 ⟨rfl, hB2⟩
    have hB12 := below_step hB1 hB2
    go_wp2_with fail
    refine (h2.out _ (hR.out.below hB12)).mono ?_
    rintro e w3 ⟨rfl, hB3⟩
    go_wp2
    go_ret
    exact ⟨rfl, Stp.same hR.out (below_step hB12 hB3)⟩
end Go.Proofs.YtcjlfkklpghjbaaGreat

namespace Go.Proofs.YtcjlfkklpghjbaaGreat
open Go.RowKit
theorem not_under_up {old : Pt} (h : old ≠ []) (t : Pt) : old ++ t ≠ old.dropLast := by
 intro e
 have := congrArg List.length e
 have h2 : old.length ≠ 0 := fun e => h (List.eq_nil_of_length_eq_zero e)
 simp at this
 omega
section
variable {w : World} {tb : Nat} {A M : Nat → Nat} {T : Fs}
theorem rep_move {w' : World} {old p : Pt} {i d f : Nat} (hR : Rep w tb A M T) (h : Moves T old p i d) (hf : (old.dropLast, f) ∈ T.names) (hfk : (T.nd f).kind = 2) (ht : Turn w w' (fun b => b = M f ∨ b = M d))
  (h1 : MapIs w' (M f) (entries A ((T.move old p).kids old.dropLast))) (h2 : MapIs w' (M d) (entries A ((T.move old p).kids p.dropLast))) : Rep w' tb A M (T.move old p) := by
 have hI := hR.inv
 have hlive : ∀ j, (T.move old p).Live j → T.Live j := fun j ⟨q, hm⟩ => by
  obtain ⟨r, hr, _⟩ := (mem_move q j).1 hm
  exact ⟨r, hr⟩
 have hu8 : ∀ g : Nat, (∃ cs, w.heap[g]? = some (Obj.cells cs 5 (0, 0))) → w'.heap[g]? = w.heap[g]? := hR.bytes_kept ht (by
  rintro b (rfl | rfl)
  ·exact Or.inl (Or.inr (Or.inr ⟨f, ⟨_, hf⟩, hfk, rfl⟩))
  ·exact Or.inl (Or.inr (Or.inr ⟨d, ⟨_, h.dir⟩, h.kind, rfl⟩)))
 refine ⟨move_inv hI h, ?_, ?_, ?_, fun a b ha hb e => hR.injA a b (hlive a ha) (hlive b hb) e, fun a b ha hb hka hkb e => hR.injM a b (hlive a ha) (hlive b hb) hka hkb e⟩
 ·refine (ht.block tb (Array.getElem?_eq_some_iff.1 hR.tree).1 ?_).trans hR.tree
  rintro (e | e)
  ·exact hR.map_tree hf hfk e.symm
  ·exact hR.map_tree h.dir h.kind e.symm
 ·intro j hj
  obtain ⟨dv, g1, g2⟩ := hR.node j (hlive j hj)
  refine ⟨dv, g1.kept hu8, (ht.block _ (Array.getElem?_eq_some_iff.1 g2).1 ?_).trans g2⟩
  rintro (e | e)
  ·exact hR.map_node hf hfk (hlive j hj) e.symm
  ·exact hR.map_node h.dir h.kind (hlive j hj) e.symm
 ·intro q j hm hk
  have hk' : (T.nd j).kind = 2 := hk
  obtain ⟨r, hr, e⟩ := (mem_move q j).1 hm
  have hM := hR.kids r j hr hk'
  have hkeep : j ≠ f → j ≠ d → w'.heap[M j]? = w.heap[M j]? := fun e1 e2 => ht.block _ hM.lt (by
   rintro (e | e)
   ·exact e1 (hR.injM j f ⟨_, hr⟩ ⟨_, hf⟩ hk' hfk e)
   ·exact e2 (hR.injM j d ⟨_, hr⟩ ⟨_, h.dir⟩ hk' h.kind e))
  rcases moveP_cases old p r with ⟨t, rfl, e1⟩ | ⟨hn, e1⟩
  ·rw [e1] at e
   subst e
   rw [kids_move_under hI h t]
   refine hM.of_block (hkeep ?_ ?_)
   ·rintro rfl
    exact not_under_up h.one t (hI.dir_one hf hr hk')
   ·rintro rfl
    have := hI.dir_one h.dir hr hk'
    exact h.apart ((this ▸ List.prefix_append old t : old <+: p.dropLast).trans (List.dropLast_prefix p))
  ·rw [e1] at e
   subst e
   by_cases ef : j = f
   ·subst ef
    have := hI.dir_one hf hr hk'
    rw [this]
    exact h1
   ·by_cases ed : j = d
    ·subst ed
     have := hI.dir_one h.dir hr hk'
     rw [this]
     exact h2
    ·obtain ⟨K0, k1, k2⟩ := kids_move_stay hI h hr hn
     rw [if_neg (fun e => ef (by subst e; exact hI.at_one hr hf))] at k1
     rw [if_neg (fun e => ed (by subst e; exact hI.at_one hr h.dir))] at k2
     exact (hM.of_block (hkeep ef ed)).perm ((k2.trans k1.symm).map _)
end
end Go.Proofs.YtcjlfkklpghjbaaGreat

namespace Go.Proofs.YtcjlfkklpghjbaaGreat
/-- The names strictly below a path: what is left of each behind the path, and its thing. -/
def Fs.below (T : Fs) (p : Pt) : List (Pt × Nat) := T.names.filterMap (fun x => if p.isPrefixOf x.1 = true ∧ x.1 ≠ p then some (x.1.drop p.length, x.2) else none)
theorem mem_below {T : Fs} {p t : Pt} {j : Nat} : (t, j) ∈ T.below p ↔ t ≠ [] ∧ (p ++ t, j) ∈ T.names := by
 unfold Fs.below
 rw [List.mem_filterMap]
 constructor
 ·rintro ⟨⟨q, k⟩, hm, h⟩
  split at h
  ·rename_i hc
   obtain ⟨hp, h2⟩ := hc
   obtain ⟨u, rfl⟩ := List.isPrefixOf_iff_prefix.1 hp
   simp only [List.drop_left, Option.some.injEq, Prod.mk.injEq] at h
   obtain ⟨rfl, rfl⟩ := h
   exact ⟨fun e => h2 (by simp [e]), hm⟩
  ·cases h
 ·rintro ⟨h1, h2⟩
  refine ⟨_, h2, ?_⟩
  rw [if_pos ⟨List.isPrefixOf_iff_prefix.2 (List.prefix_append _ _), by simpa using h1⟩]
  simp
theorem below_nodup {T : Fs} (hI : T.Inv) (p : Pt) : (T.below p).Nodup := by
 have hnd := hI.nodup
 unfold Fs.below
 rw [List.Nodup, List.pairwise_map] at hnd
 refine List.Pairwise.filterMap _ ?_ hnd
 rintro ⟨q, j⟩ ⟨r, k⟩ hne b hb c hc
 simp only [Option.ite_none_right_eq_some, Option.some.injEq] at hb hc
 obtain ⟨⟨hpu, _⟩, rfl⟩ := hb
 obtain ⟨⟨hpv, _⟩, rfl⟩ := hc
 obtain ⟨u, hu⟩ := List.isPrefixOf_iff_prefix.1 hpu
 obtain ⟨v, hv⟩ := List.isPrefixOf_iff_prefix.1 hpv
 dsimp only at *
 subst hu hv
 intro e
 simp only [List.drop_left, Prod.mk.injEq] at e
 exact hne (by rw [e.1])
/-- What is below a directory: what stands right in it, and what is below that. -/
theorem below_kids {T : Fs} (hI : T.Inv) (p : Pt) : (T.below p).Perm ((T.kids p).flatMap fun x => ([x.1], x.2) :: (T.below (p ++ [x.1])).map fun y => (x.1 :: y.1, y.2)) := by
 refine (List.perm_ext_iff_of_nodup (below_nodup hI p) ?_).2 ?_
 ·rw [List.Nodup, List.pairwise_flatMap]
  refine ⟨?_, ?_⟩
  ·rintro ⟨x, j⟩ _
   rw [← List.Nodup, List.nodup_cons]
   constructor
   ·rw [List.mem_map]
    rintro ⟨⟨t, k⟩, hm, e⟩
    simp only [Prod.mk.injEq, List.cons.injEq, true_and] at e
    exact (mem_below.1 hm).1 e.1
   ·have := below_nodup hI (p ++ [x])
    rw [List.Nodup, List.pairwise_map]
    refine List.Pairwise.imp ?_ this
    rintro ⟨t, k⟩ ⟨u, l⟩ hne e
    simp only [Prod.mk.injEq, List.cons.injEq, true_and] at e
    exact hne (by rw [e.1, e.2])
  ·have hk := kidsL_nodup hI.nodup p
   rw [List.Nodup, List.pairwise_map] at hk
   refine List.Pairwise.imp ?_ hk
   rintro ⟨x, j⟩ ⟨y, k⟩ hne a ha b hb e
   subst e
   have h1 : ∀ {z : Bytes} {l : Nat}, a ∈ ([z], l) :: (T.below (p ++ [z])).map (fun y => (z :: y.1, y.2)) → a.1.head? = some z := by
    intro z l hm
    rcases List.mem_cons.1 hm with rfl | hm
    ·rfl
    ·obtain ⟨c, _, rfl⟩ := List.mem_map.1 hm
     rfl
   have h2 := h1 ha
   rw [h1 hb] at h2
   exact hne (Option.some.inj h2).symm
 ·rintro ⟨t, j⟩
  rw [mem_below, List.mem_flatMap]
  constructor
  ·rintro ⟨h1, h2⟩
   cases t with
   | nil => exact absurd rfl h1
   | cons x u =>
    obtain ⟨k, hk⟩ := hI.above (r := p ++ [x]) (t := u) (i := j) (by simpa using h2)
    refine ⟨(x, k), mem_kidsL.2 hk, ?_⟩
    by_cases hu : u = []
    ·subst hu
     have := hI.at_some.2 hk
     rw [hI.at_some.2 h2] at this
     simp only [Option.some.injEq] at this
     subst this
     exact List.mem_cons_self ..
    ·refine List.mem_cons_of_mem _ (List.mem_map.2 ⟨(u, j), mem_below.2 ⟨hu, by simpa using h2⟩, rfl⟩)
  ·rintro ⟨⟨x, k⟩, hk, hm⟩
   have hk' := mem_kidsL.1 hk
   rcases List.mem_cons.1 hm with e | hm
   ·simp only [Prod.mk.injEq] at e
    obtain ⟨rfl, rfl⟩ := e
    exact ⟨by simp, hk'⟩
   ·obtain ⟨⟨u, l⟩, hu, e⟩ := List.mem_map.1 hm
    simp only [Prod.mk.injEq] at e
    obtain ⟨rfl, rfl⟩ := e
    have := (mem_below.1 hu).2
    exact ⟨by simp, by simpa using this⟩
end Go.Proofs.YtcjlfkklpghjbaaGreat

namespace Go.Proofs.YtcjlfkklpghjbaaGreat
open Go.RowKit
theorem Fs.ext {T T' : Fs} (h1 : T.names = T'.names) (h2 : ∀ i, T.nd i = T'.nd i) (h3 : T.next = T'.next) : T = T' := by
 cases T
 cases T'
 simp only at h1 h2 h3
 have : (_ : Nat → Nd) = _ := funext h2
 subst h1 h3 this
 rfl
theorem add_set (T : Fs) (p : Pt) (n n' : Nd) : (T.add p n).set T.next n' = T.add p n' := by
 refine Fs.ext rfl (fun i => ?_) rfl
 unfold Fs.set Fs.add
 dsimp only
 by_cases e : i = T.next <;> simp [e]
theorem node_no_byte {n : Nd} {i : Nat} {dv : Value} {m k : Nat} {x : Int} (hdv : ∃ A l c, dv = .slice A l c) (h : (nodeCells n i dv (kidsV n m))[k]? = some (.int .u8 x)) : False := by
 obtain ⟨A, l, c, rfl⟩ := hdv
 have hk : kidsV n m = .map (some m) ∨ kidsV n m = .map none := by
  unfold kidsV
  split
  ·exact Or.inl rfl
  ·exact Or.inr rfl
 unfold nodeCells at h
 rcases hk with e | e <;> rw [e] at h <;>
 (rcases k with _ | _ | _ | _ | _ | _ | _ | _ | _ | _ | _ | _ | k <;> simp at h)
/-- A byte lies in no block of a tree's own. -/
theorem Rep.byte_not_own {w : World} {tb : Nat} {A M : Nat → Nat} {T : Fs} (h : Rep w tb A M T) {g o : Nat} {x : Int} (hc : w.cell? ⟨g, o, none⟩ = some (.int .u8 x)) : ¬ Own tb A M T g := by
 rintro (rfl | ⟨i, hi, rfl⟩ | ⟨i, ⟨p, hp⟩, hk, rfl⟩)
 ·simp only [World.cell?, h.tree] at hc
  rcases o with _ | _ | o <;> simp [ptr] at hc
 ·obtain ⟨dv, h1, h2⟩ := h.node i hi
  simp only [World.cell?, h2] at hc
  obtain ⟨A', c', e, _⟩ := h1.shape
  exact node_no_byte ⟨_, _, _, e⟩ hc
 ·obtain ⟨es, c, h3, _⟩ := h.kids p i hp hk
  simp [World.cell?, h3] at hc
theorem RdB.turn {w w' : World} {tb : Nat} {A M : Nat → Nat} {T : Fs} {S : Nat → Prop} {v : Value} {l : Bytes} (h : RdB w v l) (hR : Rep w tb A M T) (ht : Turn w w' S) (hS : ∀ b, S b → Own tb A M T b ∨ w.heap.size ≤ b) : RdB w' v l := by
 obtain ⟨A', c, h1, h2, h3, h4⟩ := h
 refine ⟨A', c, h1, h2, h3, fun j hj => ?_⟩
 obtain ⟨g, o, e, hc⟩ := h4 j hj
 refine ⟨g, o, e, ?_⟩
 have hlt : g < w.heap.size := by
  rcases Nat.lt_or_ge g w.heap.size with h | h
  ·exact h
  ·simp [World.cell?, Array.getElem?_eq_none h] at hc
 have hb := ht.block g hlt (fun hs => by
  rcases hS g hs with h1 | h1
  ·exact hR.byte_not_own hc h1
  ·omega)
 simpa [World.cell?, hb] using hc
/-- A file's bytes, and its Meta. -/
theorem data_stp {w : World} {tb : Nat} {A M : Nat → Nat} {T : Fs} {p : Pt} {i : Nat} {v : Value} {l : Bytes} (hR : Rep w tb A M T) (hi : (p, i) ∈ T.names) (hk : (T.nd i).kind = 1) (hl : l.length ≤ 65536) (hv : Dat w v l) (a1 a2 a3 a4 a5 : Int) :
  Stp w ((((((w.setCell ⟨A i, 10, none⟩ v).setCell ⟨A i, 4, none⟩ (.int .i64 a1)).setCell ⟨A i, 5, none⟩ (.int .i64 a2)).setCell ⟨A i, 6, none⟩ (.int .i64 a3)).setCell ⟨A i, 7, none⟩ (.int .i64 a4)).setCell ⟨A i, 8, none⟩ (.int .i64 a5)) tb A M T (T.set i { T.nd i with mt := ⟨a1, a2, a3, a4, a5⟩, data := l }) := by
 obtain ⟨dv, h1, h2⟩ := hR.node i ⟨p, hi⟩
 have ht : Turn w ((((((w.setCell ⟨A i, 10, none⟩ v).setCell ⟨A i, 4, none⟩ (.int .i64 a1)).setCell ⟨A i, 5, none⟩ (.int .i64 a2)).setCell ⟨A i, 6, none⟩ (.int .i64 a3)).setCell ⟨A i, 7, none⟩ (.int .i64 a4)).setCell ⟨A i, 8, none⟩ (.int .i64 a5)) (fun b => b = A i) := by
  iterate 6 refine turn_set (S := fun b => b = A i) ?_ rfl _ _
  exact Turn.refl _ _
 have hu8 := hR.bytes_kept ht (fun b hb => Or.inl (Or.inr (Or.inl ⟨i, ⟨p, hi⟩, hb⟩)))
 have hpl := hR.inv.plain p i hi
 refine Stp.of_turn (rep_set (dv := v) hR hi ⟨hR.inv.kinds p i hi, hl, fun h => absurd hk h, hpl.2.1, hpl.2.2⟩ rfl rfl ht ?_ (hv.kept hu8)) (ht.mono fun b _ hb => Or.inr (Or.inl ⟨i, ⟨p, hi⟩, hb⟩)) (fun j hj => hj) (fun j _ => set_kind (n := { T.nd i with mt := ⟨a1, a2, a3, a4, a5⟩, data := l }) rfl j)
 exact heap_set_same (heap_set_same (heap_set_same (heap_set_same (heap_set_same (heap_set_same h2 10 _) 4 _) 5 _) 6 _) 7 _) 8 _
theorem dataonly_stp {w : World} {tb : Nat} {A M : Nat → Nat} {T : Fs} {p : Pt} {i : Nat} {v : Value} {l : Bytes} (hR : Rep w tb A M T) (hi : (p, i) ∈ T.names) (hk : (T.nd i).kind = 1) (hl : l.length ≤ 65536) (hv : Dat w v l) :
  Stp w (w.setCell ⟨A i, 10, none⟩ v) tb A M T (T.set i { T.nd i with data := l }) := by
 obtain ⟨dv, h1, h2⟩ := hR.node i ⟨p, hi⟩
 have ht : Turn w (w.setCell ⟨A i, 10, none⟩ v) (fun b => b = A i) := by
  refine turn_set (S := fun b => b = A i) ?_ rfl _ _
  exact Turn.refl _ _
 have hu8 := hR.bytes_kept ht (fun b hb => Or.inl (Or.inr (Or.inl ⟨i, ⟨p, hi⟩, hb⟩)))
 have hpl := hR.inv.plain p i hi
 refine Stp.of_turn (rep_set (dv := v) hR hi ⟨hR.inv.kinds p i hi, hl, fun h => absurd hk h, hpl.2.1, hpl.2.2⟩ rfl rfl ht ?_ (hv.kept hu8)) (ht.mono fun b _ hb => Or.inr (Or.inl ⟨i, ⟨p, hi⟩, hb⟩)) (fun j hj => hj) (fun j _ => set_kind (n := { T.nd i with data := l }) rfl j)
 exact heap_set_same h2 10 _
end Go.Proofs.YtcjlfkklpghjbaaGreat

namespace Go.Proofs.YtcjlfkklpghjbaaGreat
open Go.RowKit
def Fs.write (T : Fs) (s b : Bytes) (m : Mt) : Fs × Int :=
  if mayE s m ≠ 0 then (T, mayE s m) else if 65536 < b.length then (T, 7) else if (T.look s).2.2 ≠ 0 then (T, (T.look s).2.2) else
  match (T.look s).1 with
  | some i => if notFile (T.nd i) ≠ 0 then (T, notFile (T.nd i)) else (T.set i { T.nd i with mt := m, data := b }, 0)
  | none => (T.add (split s) ⟨1, 1, m, [], b⟩, 0)
theorem Stp.trans {w w1 w2 : World} {tb : Nat} {A M : Nat → Nat} {T T1 T2 : Fs} {A1 M1 : Nat → Nat} (h1 : Turn w w1 (Own tb A M T)) (h2 : ∀ b, Own tb A1 M1 T1 b → Own tb A M T b ∨ w.heap.size ≤ b) (h : Stp w1 w2 tb A1 M1 T1 T2) : Stp w w2 tb A M T T2 := by
 obtain ⟨A2, M2, g1, g2, g3⟩ := h
 refine ⟨A2, M2, g1, h1.trans (g2.mono fun i _ hi => h2 i hi), fun b hb => ?_⟩
 rcases g3 b hb with h | h
 ·exact h2 b h
 ·exact Or.inr (Nat.le_trans h1.size h)
set_option maxHeartbeats 4000000 in
set_option maxRecDepth 100000 in
theorem write_calls (tb : Nat) (A M : Nat → Nat) (T : Fs) (s : ByteArray) (v : Value) (b : Bytes) (m : Mt) (w : World) (hR : Rep w tb A M T) (hs : s.size ≤ 16777216) (hv : RdB w v b) (hbl : b.length ≤ 140737488355328) (hnx : T.next < 4611686018427387904) :
  Calls Tryz.prog 38 #[ptr tb, .string s, v, mtV m] w fun e w' => e = .returned (.int .i64 (T.write (bl s) b m).2) ∧ Stp w w' tb A M T (T.write (bl s) b m).1 := by
 have h1 := fun W => may_calls tb s m W hs
 have h2 := fun W hW => look_calls tb A M T s W hW hs
 have hlo := hR.inv.look_ok (s := bl s)
 have hput : ∀ W d, Rep W tb A M T → right (bl s) = true → bl s ≠ [] → ((split (bl s)).dropLast, d) ∈ T.names → (T.nd d).kind = 2 → T.at (split (bl s)) = none → _ := fun W d hW h1 h2 h3 h4 h5 => put_plain (d := d) hW hs h1 h2 h3 h4 h5 hnx 1 noMt [] ⟨Or.inl rfl, by simp, by simp, by simp, by simp⟩ (by decide)
 have hcl := fun W hW => bclone_rd v b W hW hbl
 have hI := hR.inv
 obtain ⟨vA, vc, rfl, hvc1, hvc2, _⟩ := id hv
 unfold maxLen at hvc2
 unfold Fs.write
 have hme : (if right (bl s) then if metaOk m then (0 : Int) else 2 else 9) = mayE (bl s) m := rfl
 rw [hme] at h1
 generalize mayE (bl s) m = me at *
 generalize T.look (bl s) = lk at *
 obtain ⟨n, dd, te⟩ := lk
 obtain ⟨a1, a2, a3, a4, a5⟩ := m
 unfold mtV mtCells nodeCells ptr at *
 dsimp only at *
 have hB0 : Below w.heap.size w (w.alloc (.cells #[.int .i64 a1, .int .i64 a2, .int .i64 a3, .int .i64 a4, .int .i64 a5] 41)) := (Below.refl _ _).alloc (Nat.le_refl _) _
 have hblk := (MapKept.heap_alloc w (.cells #[.int .i64 a1, .int .i64 a2, .int .i64 a3, .int .i64 a4, .int .i64 a5] 41)).1
 replace h1 := hid h1
 replace h2 := hid h2
 replace hput := hid hput
 replace hcl := hid hcl
 replace hblk := hid hblk
 replace hB0 := hid hB0
 replace hR := hid hR
 replace hv := hid hv
 replace hI := hid hI
 clear hme
 by_cases he : me = 0
 ·subst he
  rw [if_neg (by simp)]
  by_cases hbig : 65536 < b.length
  ·rw [if_pos hbig]
   have hbig2 : (65536 : Int) < (b.length : Int) := by omega
   dsimp only
   clear hput h2 hlo hcl
   go_enter Tryz.func38, Tryz.ntmps38
   go_wp2_with fail
   refine (h1.out _).mono ?_
   rintro e w1 ⟨rfl, hB1⟩
   have hB01 := below_step hB0.out hB1
   go_wp2
   go_ret
   exact ⟨rfl, Stp.same hR.out hB01⟩
  ·rw [if_neg hbig]
   have hbig2 : ¬ (65536 : Int) < (b.length : Int) := by omega
   by_cases hf : te = 0
   ·subst hf
    rw [if_neg (by simp)]
    obtain ⟨k1, rfl, k3⟩ := hlo rfl
    cases hc : T.at (split (bl s)) with
    | none =>
     rw [hc] at h2 k3
     rcases k3 with ⟨_, k4, _⟩ | ⟨k4, d, rfl, k5, k6⟩
     ·cases k4
     dsimp only
     have hput2 := fun W hW => hput.out W d hW k1 k4 k5 k6 hc
     clear hput hlo k1 k4 k5 k6 hc hvc1 hvc2
     replace hput2 := hid hput2
     go_enter Tryz.func38, Tryz.ntmps38
     go_wp2_with fail
     refine (h1.out _).mono ?_
     rintro e w1 ⟨rfl, hB1⟩
     have hB01 := below_step hB0.out hB1
     have hblk1 := (hB1.block _ (Array.getElem?_eq_some_iff.1 hblk.out).1).trans hblk.out
     have hR1 := hR.out.below hB01
     replace hR1 := hid hR1
     replace hblk1 := hid hblk1
     go_wp2_with fail
     refine (h2.out _ hR1.out).mono ?_
     rintro e w2 ⟨rfl, hB2⟩
     have hB02 := below_step hB01 hB2
     have hR2 := hR1.out.below hB2
     have hlt := (Array.getElem?_eq_some_iff.1 hblk1.out).1
     have hblk2 := (hB2.block _ hlt).trans hblk1.out
     replace hR2 := hid hR2
     rw [optPtr_some, optPtr_none]
     have hp := hput2.out w2 hR2.out
     replace hp := hid hp
     replace hblk2 := hid hblk2
     clear h1 h2 hput2
     go_wp2_with fail
     refine hp.out.mono ?_
     rintro e w3 ⟨rfl, A', M', hr3, hA', ht3, ho3⟩
     have hmeta : ¬ Own tb A M T w.heap.size := hR2.out.not_own hblk2.out (by decide) (by decide)
     have hlt2 := (Array.getElem?_eq_some_iff.1 hblk2.out).1
     have hblk3 := (ht3.block _ hlt2 hmeta).trans hblk2.out
     have hv3 := ((hv.out.below hB02).turn hR2.out ht3 (fun b hb => Or.inl hb))
     have hcl3 := hcl.out w3 hv3
     replace hcl3 := hid hcl3
     replace hr3 := hid hr3
     replace ht3 := hid ht3
     replace ho3 := hid ho3
     replace hA' := hid hA'
     replace hblk3 := hid hblk3
     clear hp hcl hv3 hblk2
     go_wp2_with fail
     refine hcl3.out.mono ?_
     rintro e w4 ⟨⟨v', rfl, hO4⟩, hB4⟩
     obtain ⟨vA', vc', rfl, _, _⟩ := own_shape hO4.own
     have hlt3 := (Array.getElem?_eq_some_iff.1 hblk3.out).1
     have hblk4 := (hB4.block _ hlt3).trans hblk3.out
     have hr4 := hr3.out.below hB4
     have hl4 : (T.add (split (bl s)) ⟨1, 1, noMt, [], []⟩).Live T.next := ⟨split (bl s), by simp [Fs.add]⟩
     have hnd4 : (T.add (split (bl s)) ⟨1, 1, noMt, [], []⟩).nd T.next = ⟨1, 1, noMt, [], []⟩ := by simp [Fs.add]
     obtain ⟨dv, _, hnode⟩ := hr4.node _ hl4
     rw [hA'.out] at hnode
     have hst := data_stp (p := split (bl s)) hr4 (i := T.next) (by simp [Fs.add]) (by rw [hnd4]) (by omega) hO4.dat a1 a2 a3 a4 a5
     rw [add_set, hnd4, hA'.out] at hst
     have hT : Turn w w4 (Own tb A M T) := (Turn.of_below hB02 _).trans ((ht3.out.trans ((Turn.of_below hB4 _).mono fun i _ hi => Or.inl hi)).mono fun i _ hi => Or.inl hi)
     have hst2 := Stp.trans hT (fun x hx => (ho3.out x hx).imp id (fun h => Nat.le_trans hB02.size h)) hst
     have f1 : ∀ k, w4.frozen? ⟨w2.heap.size, k, none⟩ = false := fun k => by simp [World.frozen?, hnode]
     have c4 := cell_of (j := 4) hnode rfl
     have c5 := cell_of (j := 5) hnode rfl
     have c6 := cell_of (j := 6) hnode rfl
     have c7 := cell_of (j := 7) hnode rfl
     have c8 := cell_of (j := 8) hnode rfl
     have c10 : w4.cell? ⟨w2.heap.size, 10, none⟩ = some dv := cell_of hnode rfl
     have d0 := cell_of (j := 0) hblk4 rfl
     have d1 := cell_of (j := 1) hblk4 rfl
     have d2 := cell_of (j := 2) hblk4 rfl
     have d3 := cell_of (j := 3) hblk4 rfl
     have d4 := cell_of (j := 4) hblk4 rfl
     replace hst2 := hid hst2
     have hne1 : w.heap.size ≠ w2.heap.size := by omega
     have hne2 : w2.heap.size ≠ w.heap.size := by omega
     clear hst hnode hblk4 hr4 hl4 hnd4 hT hcl3
     go_wp2
     go_ret
     exact ⟨rfl, hst2.out⟩
    | some i =>
     rw [hc] at h2
     have hi := hI.out.at_some.1 hc
     dsimp only
     have h4 := fun W hW => file_calls tb A M T i W hW ⟨_, hi⟩
     unfold ptr at h4
     clear hput hlo k1 k3 hc
     by_cases hz : notFile (T.nd i) = 0
     ·rw [if_neg (by simp [hz])]
      have hk1 := notFile_zero hI.out hi hz
      rw [hz] at h4
      clear hz
      replace h4 := hid h4
      go_enter Tryz.func38, Tryz.ntmps38
      go_wp2_with fail
      refine (h1.out _).mono ?_
      rintro e w1 ⟨rfl, hB1⟩
      have hB01 := below_step hB0.out hB1
      have hblk1 := (hB1.block _ (Array.getElem?_eq_some_iff.1 hblk.out).1).trans hblk.out
      have hR1 := hR.out.below hB01
      replace hR1 := hid hR1
      replace hblk1 := hid hblk1
      go_wp2_with fail
      refine (h2.out _ hR1.out).mono ?_
      rintro e w2 ⟨rfl, hB2⟩
      have hB02 := below_step hB01 hB2
      have hR2 := hR1.out.below hB2
      have hlt := (Array.getElem?_eq_some_iff.1 hblk1.out).1
      have hblk2 := (hB2.block _ hlt).trans hblk1.out
      replace hR2 := hid hR2
      rw [optPtr_some]
      have hcl2 := hcl.out w2 (hv.out.below hB02)
      replace hcl2 := hid hcl2
      replace hblk2 := hid hblk2
      clear h1 h2 hcl
      go_wp2_with fail
      refine (h4.out _ hR2.out).mono ?_
      rintro e w2' ⟨rfl, rfl⟩
      go_wp2_with fail
      refine hcl2.out.mono ?_
      rintro e w4 ⟨⟨v', rfl, hO4⟩, hB4⟩
      obtain ⟨vA', vc', rfl, _, _⟩ := own_shape hO4.own
      have hlt3 := (Array.getElem?_eq_some_iff.1 hblk2.out).1
      have hblk4 := (hB4.block _ hlt3).trans hblk2.out
      have hr4 := hR2.out.below hB4
      obtain ⟨dv, _, hnode⟩ := hr4.node _ ⟨_, hi⟩
      have hst := data_stp hr4 hi hk1 (by omega) hO4.dat a1 a2 a3 a4 a5
      have hst2 := hst.after (below_step hB02 hB4)
      have f1 : ∀ k, w4.frozen? ⟨A i, k, none⟩ = false := fun k => by simp [World.frozen?, hnode]
      have c4 : w4.cell? ⟨A i, 4, none⟩ = some (.int .i64 (T.nd i).mt.mode) := cell_of hnode rfl
      have c5 : w4.cell? ⟨A i, 5, none⟩ = some (.int .i64 (T.nd i).mt.sec) := cell_of hnode rfl
      have c6 : w4.cell? ⟨A i, 6, none⟩ = some (.int .i64 (T.nd i).mt.nano) := cell_of hnode rfl
      have c7 : w4.cell? ⟨A i, 7, none⟩ = some (.int .i64 (T.nd i).mt.uid) := cell_of hnode rfl
      have c8 : w4.cell? ⟨A i, 8, none⟩ = some (.int .i64 (T.nd i).mt.gid) := cell_of hnode rfl
      have c10 : w4.cell? ⟨A i, 10, none⟩ = some dv := cell_of hnode rfl
      have d0 := cell_of (j := 0) hblk4 rfl
      have d1 := cell_of (j := 1) hblk4 rfl
      have d2 := cell_of (j := 2) hblk4 rfl
      have d3 := cell_of (j := 3) hblk4 rfl
      have d4 := cell_of (j := 4) hblk4 rfl
      have hne0 : ¬ Own tb A M T w.heap.size := hR2.out.not_own hblk2.out (by decide) (by decide)
      have hne1 : w.heap.size ≠ A i := fun e => hne0 (Or.inr (Or.inl ⟨i, ⟨_, hi⟩, e⟩))
      have hne2 : A i ≠ w.heap.size := hne1.symm
      replace hst2 := hid hst2
      clear hst hnode hblk4 hr4 hcl2
      go_wp2
      go_ret
      exact ⟨rfl, hst2.out⟩
     ·rw [if_pos hz]
      generalize notFile (T.nd i) = nf at *
      have hz2 : (nf != 0) = true := by simpa using hz
      clear hz hcl
      replace h4 := hid h4
      go_enter Tryz.func38, Tryz.ntmps38
      go_wp2_with fail
      refine (h1.out _).mono ?_
      rintro e w1 ⟨rfl, hB1⟩
      have hB01 := below_step hB0.out hB1
      have hblk1 := (hB1.block _ (Array.getElem?_eq_some_iff.1 hblk.out).1).trans hblk.out
      have hR1 := hR.out.below hB01
      replace hR1 := hid hR1
      replace hblk1 := hid hblk1
      go_wp2_with fail
      refine (h2.out _ hR1.out).mono ?_
      rintro e w2 ⟨rfl, hB2⟩
      have hB02 := below_step hB01 hB2
      have hR2 := hR1.out.below hB2
      have hlt := (Array.getElem?_eq_some_iff.1 hblk1.out).1
      have hblk2 := (hB2.block _ hlt).trans hblk1.out
      replace hR2 := hid hR2
      rw [optPtr_some]
      clear hblk2 h1 h2
      go_wp2_with fail
      refine (h4.out _ hR2.out).mono ?_
      rintro e w2' ⟨rfl, rfl⟩
      go_wp2
      go_ret
      exact ⟨rfl, Stp.same hR.out hB02⟩
   ·rw [if_pos hf]
    have hf2 : (te != 0) = true := by simpa using hf
    dsimp only at *
    clear hput hlo hcl hf
    go_enter Tryz.func38, Tryz.ntmps38
    go_wp2_with fail
    refine (h1.out _).mono ?_
    rintro e w1 ⟨rfl, hB1⟩
    have hB01 := below_step hB0.out hB1
    have hblk1 := (hB1.block _ (Array.getElem?_eq_some_iff.1 hblk.out).1).trans hblk.out
    have hR1 := hR.out.below hB01
    replace hR1 := hid hR1
    replace hblk1 := hid hblk1
    go_wp2_with fail
    refine (h2.out _ hR1.out).mono ?_
    rintro e w2 ⟨rfl, hB2⟩
    have hB02 := below_step hB01 hB2
    have hR2 := hR1.out.below hB2
    have hlt := (Array.getElem?_eq_some_iff.1 hblk1.out).1
    have hblk2 := (hB2.block _ hlt).trans hblk1.out
    replace hR2 := hid hR2
    clear hblk2 h1 h2
    go_wp2
    go_ret
    exact ⟨rfl, Stp.same hR.out hB02⟩
 ·rw [if_pos he]
  have he2 : (me != 0) = true := by simpa using he
  clear he hput h2 hlo hcl
  go_enter Tryz.func38, Tryz.ntmps38
  go_wp2_with fail
  refine (h1.out _).mono ?_
  rintro e w1 ⟨rfl, hB1⟩
  have hB01 := below_step hB0.out hB1
  go_wp2
  go_ret
  exact ⟨rfl, Stp.same hR.out hB01⟩
end Go.Proofs.YtcjlfkklpghjbaaGreat

namespace Go.Proofs.YtcjlfkklpghjbaaGreat
open Go.RowKit
def Fs.append (T : Fs) (s b : Bytes) : Fs × Int :=
  if (T.file s).2 ≠ 0 then (T, (T.file s).2) else match (T.file s).1 with
  | some i => if 65536 < (T.nd i).data.length + b.length then (T, 7) else (T.set i { T.nd i with data := (T.nd i).data ++ b }, 0)
  | none => (T, 0)
/-- append as one step of a region, by its run. -/
theorem step_append_by {P : Program} {ops : Array Oper} {o : Oper} {a : Act} {w : World} {K : Act → World → Prop} {Q : Exit → Act → World → Prop} {E : Prop}
  (hg : o.guard = none) (s x : Operand) (t : TypeId) (hop : o.op = Op.call { callee := Callee.builtin Builtin.append, args := #[s, x], argTypes := #[t, t] })
  (sv xv : Value) (hs : a.eval s = sv) (hx : a.eval x = xv) (v' : Value) (w' : World) (hrun : (Builtin.append_ #[t, t] o.type #[sv, xv]).run P w = .ok v' w') (hK : K (a.put o.dst v') w') :
  if Region.wanted o (yielded ops a.tmps) = true then Oper.wp P o a w K Q else E := by
 have hw : Region.wanted o (yielded ops a.tmps) = true := by simp [Region.wanted, hg]
 rw [if_pos hw]
 unfold Oper.wp
 simp [execOp, hop, resolve, invoke, builtin, hs, hx, hrun, Result.andThen]
 exact hK
/-- append of nothing. -/
theorem run_append_none (w : World) (ty : TypeId) (A A' : Option Addr) (n c : Nat) :
  (Builtin.append_ #[39, 39] ty #[.slice A n n, .slice A' 0 c]).run Tryz.prog w = .ok (.slice A n n) w := by
 have ht := Tryz.underlying39
 obtain ⟨i0, hi, hzz⟩ := Option.map_eq_some_iff.1 info_u8
 cases A <;> cases A' <;> simp [Builtin.append_, run_underlying ht, sizeOf, typeInfo, hi, Builtin.lenOf, Builtin.firstCells, storeCells, loadCells, loadCellsFrom, Result.andThen]
theorem rdb_cells {W : World} {A : Addr} {n c : Nat} {l : Bytes} (h : RdB W (.slice (some A) n c) l) : ∀ j u, (byteCells l)[j]? = some u → W.cell? (A.add j) = some u := by
 obtain ⟨A', c', e, _, _, hr⟩ := h
 simp only [Value.slice.injEq] at e
 intro j u hj
 have hlt : j < l.length := by have := (List.getElem?_eq_some_iff.1 hj).1; simpa [byteCells] using this
 obtain ⟨g, o, e2, hc⟩ := hr j hlt
 have e3 := e.1.trans e2
 simp only [Option.some.injEq] at e3
 subst e3
 have e1 : (⟨g, o, none⟩ : Addr).add j = ⟨g, o + j, none⟩ := by
  unfold Addr.add
  split
  ·rename_i h0; rw [h0]; simp
  ·simp
 rw [e1, hc]
 simp only [byteCells, List.getElem?_map, List.getElem?_eq_getElem hlt, Option.map_some] at hj
 exact hj
/-- append of some bytes behind a file's bytes, whose spare is cut off. -/
theorem append_run (W : World) {dA vA : Option Addr} {dc vc : Nat} {dat b : Bytes} (hD : Dat W (.slice dA dat.length dc) dat) (hV : RdB W (.slice vA b.length vc) b) (hs : dat.length + b.length ≤ 65536) (ty : TypeId) :
  ∃ A' c' w', (Builtin.append_ #[39, 39] ty #[.slice dA dat.length dat.length, .slice vA b.length vc]).run Tryz.prog W = .ok (.slice A' (dat.length + b.length) c') w' ∧ Dat w' (.slice A' (dat.length + b.length) c') (dat ++ b) ∧ W.grownBy w' none := by
 by_cases hb : b = []
 ·subst hb
  refine ⟨dA, dat.length, W, by simpa using run_append_none W ty dA vA dat.length vc, ?_, World.grownBy.refl _ _⟩
  rcases hD with ⟨e, rfl⟩ | ⟨g, c, cur, e, h2, h3, h4, h5, h6⟩
  ·simp only [Value.slice.injEq] at e
   exact Or.inl ⟨by simp [e.1], by simp⟩
  ·simp only [Value.slice.injEq] at e
   refine Or.inr ⟨g, dat.length, cur, by simp [e.1], h2, by simp, Nat.le_trans h3 h4, Nat.le_trans h3 h5, by simpa using h6⟩
 ·have hpos : 0 < b.length := by
   rcases b with _ | ⟨x, xs⟩
   ·exact absurd rfl hb
   ·simp
  obtain ⟨i0, hi, hzz⟩ := Option.map_eq_some_iff.1 info_u8
  simp only [Prod.mk.injEq] at hzz
  obtain ⟨hz0, hz1, hz2⟩ := hzz
  have hvs : ∃ ad, vA = some ad := by
   obtain ⟨A', c', e, _, _, hr⟩ := hV
   simp only [Value.slice.injEq] at e
   obtain ⟨g, o, e2, _⟩ := hr 0 hpos
   exact ⟨_, e.1.trans e2⟩
  obtain ⟨ad, rfl⟩ := hvs
  have hbc : ∀ u ∈ byteCells b, u.oneCell' = true := by
   intro u hu
   simp only [byteCells, List.mem_map] at hu
   obtain ⟨x, _, rfl⟩ := hu
   rfl
  have key : ∃ v' w', (Builtin.append_ #[39, 39] ty #[.slice dA dat.length dat.length, .slice (some ad) b.length vc]).run Tryz.prog W = .ok v' w' ∧ w'.ownsRow W.heap.size 5 1 v' (dat.length + b.length) (byteCells dat ++ byteCells b) ∧ W.grownBy w' none := by
   rcases hD with ⟨e, rfl⟩ | ⟨g, c, cur, e, h2, h3, h4, h5, h6⟩
   ·simp only [Value.slice.injEq] at e
    obtain ⟨rfl, _, _⟩ := e
    obtain ⟨v', w', hrun, r1, r2, _⟩ := run_append_own (P := Tryz.prog) W W.heap.size 39 ty 5 i0 (.int .u8 0) 1 1 Tryz.underlying39 hi hz0 hz1 hz2 rfl (by decide) (.slice none 0 0) 0 [] (World.ownsRow_nil W _ _ _) ad b.length vc (byteCells b) (by simp [byteCells]) (rdb_cells hV) hbc (by simp only [maxLen]; omega) (by simp at hs ⊢; omega) (Nat.le_refl _)
    exact ⟨v', w', hrun, r1, r2⟩
   ·simp only [Value.slice.injEq] at e
    obtain ⟨rfl, _, _⟩ := e
    exact run_append_arg_grows (P := Tryz.prog) W 39 ty 5 i0 (.int .u8 0) 1 1 Tryz.underlying39 hi hz0 hz1 hz2 rfl (by decide) ⟨g, 0, none⟩ dat.length dat.length (byteCells dat) (by simp [byteCells]) (rdb_cells (n := dat.length) (c := c) (Dat.rdb (Or.inr ⟨g, c, cur, rfl, h2, h3, h4, h5, h6⟩))) ad b.length vc (byteCells b) (by simp [byteCells]) (rdb_cells hV) (by omega) (by simp only [maxLen]; omega) (by omega)
  obtain ⟨v', w', hrun, r1, r2⟩ := key
  have hBy : Byts W.heap.size w' v' (dat ++ b) := by
   unfold Byts
   rw [byteCells_append, List.length_append]
   exact r1
  obtain ⟨A', c', e, _⟩ := hBy.dat.shape
  rw [List.length_append] at e
  subst e
  exact ⟨A', c', w', hrun, hBy.dat, r2⟩
set_option maxHeartbeats 4000000 in
set_option maxRecDepth 100000 in
theorem append_calls (tb : Nat) (A M : Nat → Nat) (T : Fs) (s : ByteArray) (v : Value) (b : Bytes) (w : World) (hR : Rep w tb A M T) (hs : s.size ≤ 16777216) (hv : RdB w v b) (hbl : b.length ≤ 140737488355328) :
  Calls Tryz.prog 44 #[ptr tb, .string s, v] w fun e w' => e = .returned (.int .i64 (T.append (bl s) b).2) ∧ Stp w w' tb A M T (T.append (bl s) b).1 := by
 have h1 := fun W hW => there_calls tb A M T s W hW hs
 have hok := hR.inv.there_ok (s := bl s)
 have hI := hR.inv
 obtain ⟨vA, vc, rfl, hvc1, hvc2, hvr⟩ := id hv
 unfold maxLen at hvc2
 unfold Fs.append Fs.file
 generalize T.there (bl s) = r at *
 obtain ⟨n, d, e⟩ := r
 dsimp only at *
 unfold ptr at h1 ⊢
 replace h1 := hid h1
 replace hR := hid hR
 replace hI := hid hI
 replace hv := hid hv
 by_cases he : e = 0
 ·subst he
  obtain ⟨_, i, rfl, hm, _⟩ := hok rfl
  clear hok
  rw [if_pos rfl]
  dsimp only
  have hl : T.Live i := ⟨_, hm⟩
  have h2 := fun W hW => file_calls tb A M T i W hW hl
  unfold ptr at h2
  by_cases hz : notFile (T.nd i) = 0
  ·rw [hz] at h2
   rw [if_neg (by simp [hz])]
   have hk1 := notFile_zero hI.out hm hz
   have hdl := hI.out.data _ i hm
   clear hz
   replace h2 := hid h2
   by_cases hbig : 65536 < (T.nd i).data.length + b.length
   ·rw [if_pos hbig]
    dsimp only
    go_enter Tryz.func44, Tryz.ntmps44
    go_wp2_with fail
    refine (h1.out _ hR.out).mono ?_
    rintro e w1 ⟨rfl, hB1⟩
    rw [optPtr_some]
    have hR1 := hR.out.below hB1
    go_wp2_with fail
    refine (h2.out _ hR1).mono ?_
    rintro e w2 ⟨rfl, rfl⟩
    obtain ⟨dv, hD, c10, _⟩ := rep_data hR1 hl
    obtain ⟨dA, dc, rfl, hd1, hd2⟩ := hD.shape
    have hadd : IntKind.i64.wrap (((T.nd i).data.length : Int) + (b.length : Int)) = (((T.nd i).data.length + b.length : Nat) : Int) := by
     rw [IntWalk.i64_in _ (by omega)]; omega
    have hle : (65536 : Int) < (((T.nd i).data.length + b.length : Nat) : Int) := by omega
    replace hD := hid hD
    replace hR1 := hid hR1
    clear hvr
    generalize (T.nd i).data = dat at *
    generalize hsum : ((dat.length + b.length : Nat) : Int) = sum at *
    replace hsum := hid hsum
    go_wp2
    go_ret
    exact ⟨rfl, Stp.same hR.out hB1⟩
   ·rw [if_neg hbig]
    dsimp only
    have hstp := fun W v' hW hv' => dataonly_stp (w := W) (tb := tb) (A := A) (M := M) (v := v') (l := (T.nd i).data ++ b) hW hm hk1 (by simp; omega) hv'
    replace hstp := hid hstp
    go_enter Tryz.func44, Tryz.ntmps44
    go_wp2_with fail
    refine (h1.out _ hR.out).mono ?_
    rintro e w1 ⟨rfl, hB1⟩
    rw [optPtr_some]
    have hR1 := hR.out.below hB1
    go_wp2_with fail
    refine (h2.out _ hR1).mono ?_
    rintro e w2 ⟨rfl, rfl⟩
    obtain ⟨dv, hD, c10, _⟩ := rep_data hR1 hl
    obtain ⟨dA, dc, rfl, hd1, hd2⟩ := hD.shape
    unfold maxLen at hd2
    have hadd : IntKind.i64.wrap (((T.nd i).data.length : Int) + (b.length : Int)) = (((T.nd i).data.length + b.length : Nat) : Int) := by
     rw [IntWalk.i64_in _ (by omega)]; omega
    have hle : ¬ (65536 : Int) < (((T.nd i).data.length + b.length : Nat) : Int) := by omega
    have hd1' : ((T.nd i).data.length : Int) ≤ (dc : Int) := by omega
    replace hD := hid hD
    replace hR1 := hid hR1
    generalize hdat : (T.nd i).data = dat at *
    replace hdat := hid hdat
    generalize hsum : ((dat.length + b.length : Nat) : Int) = sum at *
    replace hsum := hid hsum
    go_wp2_with fail
    have hv0 : RdB w1 (.slice vA b.length vc) b := hv.out.below hB1
    have hv1 : RdB w1.drew (.slice vA b.length vc) b := hv0
    have hD1 : Dat w1.drew (.slice dA dat.length dc) dat := hD.out
    obtain ⟨A', c', w2, hrun, hD2, hg2⟩ := append_run w1.drew hD1 hv1 (by omega) 39
    have hB2 : Below w1.heap.size w1 w2 := ⟨hg2.os, hg2.tape, hg2.output, hg2.size, fun k hk => hg2.block k hk (by simp)⟩
    have hR2 := hR1.out.below hB2
    have hst := (hstp.out w2 _ hR2 hD2).after (below_step hB1 hB2)
    obtain ⟨dv2, _, hnode2⟩ := hR2.node i hl
    have c10' : w2.cell? ⟨A i, 10, none⟩ = some dv2 := cell_of hnode2 rfl
    have f10 : w2.frozen? ⟨A i, 10, none⟩ = false := by simp [World.frozen?, hnode2]
    replace hst := hid hst
    replace hrun := hid hrun
    clear hv0 hv1 hD1 hD2 hg2 hB2 hR2 hnode2 hstp hvr hR1 hD
    go_region_law (refine step_append_by rfl _ _ 39 rfl _ _ rfl rfl _ w2 hrun.out ?_)
    all_goals (go_wp2; go_ret; exact ⟨rfl, by rw [hdat.out]; exact hst.out⟩)
  ·rw [if_pos hz]
   generalize notFile (T.nd i) = nf at *
   have hz2 : (nf != 0) = true := by simpa using hz
   clear hz hvr
   replace h2 := hid h2
   go_enter Tryz.func44, Tryz.ntmps44
   go_wp2_with fail
   refine (h1.out _ hR.out).mono ?_
   rintro e w1 ⟨rfl, hB1⟩
   rw [optPtr_some]
   have hR1 := hR.out.below hB1
   go_wp2_with fail
   refine (h2.out _ hR1).mono ?_
   rintro e w2 ⟨rfl, rfl⟩
   replace hR1 := hid hR1
   go_wp2
   go_ret
   exact ⟨rfl, Stp.same hR.out hB1⟩
 ·have he2 : (e != 0) = true := by simpa using he
  simp only [he, if_false, ne_eq, not_false_eq_true, if_true]
  clear hok he hvr
  go_enter Tryz.func44, Tryz.ntmps44
  go_wp2_with fail
  refine (h1.out _ hR.out).mono ?_
  rintro e w1 ⟨rfl, hB1⟩
  go_wp2
  go_ret
  exact ⟨rfl, Stp.same hR.out hB1⟩
end Go.Proofs.YtcjlfkklpghjbaaGreat
