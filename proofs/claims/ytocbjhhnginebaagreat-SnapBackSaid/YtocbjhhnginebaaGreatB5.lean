/-
  slices.stableCmpFunc: blocks of 20 in order, merged two by two; then path.Sort.
  slices.SortStableFunc at a row of snapshots.
  snap: may; path.Depth.
  snap.below.
  Snapshots of a tree: the plain law.
  snap.shots.
  snap.where, snap.Names, snap.find.
  snap.Names, snap.find.
  strings.TrimPrefix.
  The taker in memory: two trees apart, a map from numbers to names, a map of numbers.
  A taker's steps.
  A taker: which file a file may share.
  A taker lays a file.
  slices.ContainsFunc of paths that are too long.
  A taker lays a thing.
  What a taker lays is alike: the plain law.
  Take, Restore: the plain law's words, and how much they add.
  snap.Take.
  snap.Restore.
-/
import Derived.Test.YtocbjhhnginebaaGreatB4
import Derived.Test.YtocbjhhnginebaaGreatB1
import Derived.Test.YtocbjhhnginebaaGreatB3
import Derived.Lib.Strings
import Derived.BigQuiet
set_option linter.unusedVariables false
set_option linter.unusedSimpArgs false

namespace Go.Proofs.YtocbjhhnginebaaGreat.Sh
open Go.RowKit Go.Lib
set_option linter.unusedVariables false
set_option linter.unusedSimpArgs false

/-- Below 'lim' each block of bs elements is in order. -/
def PB (bs lim : Nat) (l : List Shot) : Prop := ∀ i j x y, i ≤ j → j < lim → i / bs = j / bs → l[i]? = some x → l[j]? = some y → leS x y
/-- From 'fr' on each block of bs elements is in order. -/
def PC (bs fr : Nat) (l : List Shot) : Prop := ∀ i j x y, fr ≤ i → i ≤ j → i / bs = j / bs → l[i]? = some x → l[j]? = some y → leS x y
theorem sorted_of {M : List Shot} (h : ∀ (i j : Nat) (x y : Shot), i < j → M[i]? = some x → M[j]? = some y → leS x y) : Sorted M :=
  List.pairwise_iff_getElem.2 fun i j hi hj hij => h i j _ _ hij (List.getElem?_eq_getElem hi) (List.getElem?_eq_getElem hj)
theorem PB.block {bs k a : Nat} {p M M' s : List Shot} (hbs : 0 < bs) (hp : p.length = a) (ha : a = bs * k) (hl : M'.length ≤ bs) (h : PB bs a (p ++ M ++ s)) (hs : Sorted M') : PB bs (a + M'.length) (p ++ M' ++ s) := by
  intro i j x y hij hj hb hx hy
  simp only [List.append_assoc] at hx hy
  by_cases hja : j < a
  · rw [List.getElem?_append_left (by omega)] at hx hy
    refine h i j x y hij hja hb ?_ ?_
    · rw [List.append_assoc, List.getElem?_append_left (by omega)]; exact hx
    · rw [List.append_assoc, List.getElem?_append_left (by omega)]; exact hy
  · have hjk : j / bs = k := by
      rw [Nat.div_eq_iff hbs]
      rw [Nat.mul_comm] at ha
      omega
    have hia : a ≤ i := by
      rw [hjk] at hb
      have := (Nat.div_eq_iff hbs).1 hb
      rw [Nat.mul_comm] at ha
      omega
    rw [get_right p _ _ (by omega), List.getElem?_append_left (by omega)] at hx hy
    exact sorted_get hs (by omega) hx hy
theorem PC.block {bs a b : Nat} {p M M' s : List Shot} (hp : p.length = a) (hM : M.length = M'.length) (hb : b = a + M.length) (h : PC bs a (p ++ M ++ s)) : PC bs b (p ++ M' ++ s) := by
  intro i j x y hi hij hbl hx hy
  have e : ∀ k, b ≤ k → (p ++ M' ++ s)[k]? = (p ++ M ++ s)[k]? := fun k hk => by
    rw [get_right (p ++ M') _ _ (by simp; omega), get_right (p ++ M) _ _ (by simp; omega)]
    congr 1; simp; omega
  rw [e i hi] at hx
  rw [e j (by omega)] at hy
  exact h i j x y (by omega) hij hbl hx hy
theorem PC.sorted {bs k a : Nat} {p U s : List Shot} (hbs : 0 < bs) (hp : p.length = a) (ha : a = bs * k) (hl : U.length ≤ bs) (h : PC bs a (p ++ U ++ s)) : Sorted U := by
  refine sorted_of fun i j x y hij hx hy => ?_
  have hj : j < U.length := (List.getElem?_eq_some_iff.1 hy).1
  refine h (a + i) (a + j) x y (by omega) (by omega) ?_ ?_ ?_
  · rw [ha, Nat.mul_add_div hbs, Nat.mul_add_div hbs, Nat.div_eq_of_lt (by omega), Nat.div_eq_of_lt (by omega)]
  · rw [List.append_assoc, get_right p _ _ (by omega), List.getElem?_append_left (by omega)]; rw [← hx]; congr 1; omega
  · rw [List.append_assoc, get_right p _ _ (by omega), List.getElem?_append_left (by omega)]; rw [← hy]; congr 1; omega
theorem seg_split (l : List Shot) (a b : Nat) (hab : a ≤ b) (hb : b ≤ l.length) : ∃ p M s : List Shot, l = p ++ M ++ s ∧ p.length = a ∧ M.length = b - a ∧ s.length = l.length - b := by
  refine ⟨l.take a, (l.drop a).take (b - a), l.drop b, ?_, by simp; omega, by simp; omega, by simp⟩
  have e1 : l.drop b = (l.drop a).drop (b - a) := by rw [List.drop_drop]; congr 1; omega
  rw [e1, List.append_assoc, List.take_append_drop, List.take_append_drop]

/-- What stands at places that R tells of stood ahead at first. -/
def Q (R : Nat → Nat → Prop) (l : List Shot) : Prop := ∀ i j x y, R i j → l[i]? = some x → l[j]? = some y → Bef x y
/-- A bound of blocks lies between. -/
def Cb (bs i j : Nat) : Prop := ∃ q, i < q * bs ∧ q * bs ≤ j
def R1 (a i j : Nat) : Prop := i < j ∧ (a ≤ j ∨ Cb 20 i j)
def R2 (bs a i j : Nat) : Prop := Cb (2 * bs) i j ∨ (a ≤ i ∧ Cb bs i j)
theorem seg_perm {p M M' s : List Shot} (hp : M'.Perm M) {i : Nat} {x : Shot} (h : (p ++ M' ++ s)[i]? = some x) :
    ∃ i', (p ++ M ++ s)[i']? = some x ∧ (p.length ≤ i ∧ i < p.length + M.length ∧ p.length ≤ i' ∧ i' < p.length + M.length ∨ i' = i ∧ (i < p.length ∨ p.length + M.length ≤ i)) := by
  have hl := hp.length_eq
  by_cases h1 : p.length ≤ i ∧ i < p.length + M.length
  · have hm : x ∈ M := by
      refine hp.mem_iff.1 ?_
      rw [List.append_assoc, get_right p _ _ h1.1, List.getElem?_append_left (by omega)] at h
      exact List.mem_of_getElem? h
    obtain ⟨k, hk, rfl⟩ := List.getElem_of_mem hm
    refine ⟨p.length + k, ?_, .inl ⟨h1.1, h1.2, by omega, by omega⟩⟩
    rw [List.append_assoc, get_right p _ _ (by omega), List.getElem?_append_left (by omega), show p.length + k - p.length = k by omega]
    exact List.getElem?_eq_getElem hk
  · refine ⟨i, ?_, .inr ⟨rfl, by omega⟩⟩
    rw [← h]
    by_cases h2 : i < p.length
    · rw [List.append_assoc, List.append_assoc, List.getElem?_append_left h2, List.getElem?_append_left h2]
    · rw [get_right (p ++ M) _ _ (by simp; omega), get_right (p ++ M') _ _ (by simp; omega)]
      congr 1
      simp
      omega
theorem Q.block {R R' : Nat → Nat → Prop} {p M M' s : List Shot} {a b : Nat} (hp : p.length = a) (hM : M.length = b - a) (hab : a ≤ b) (h : Q R (p ++ M ++ s)) (hM' : M'.Perm M)
    (hR : ∀ i j i' j', R' i j → (a ≤ i ∧ i < b ∧ a ≤ i' ∧ i' < b ∨ i' = i ∧ (i < a ∨ b ≤ i)) → (a ≤ j ∧ j < b ∧ a ≤ j' ∧ j' < b ∨ j' = j ∧ (j < a ∨ b ≤ j)) → R i' j') : Q R' (p ++ M' ++ s) := by
  intro i j x y hij hx hy
  obtain ⟨i', hx', hi⟩ := seg_perm hM' hx
  obtain ⟨j', hy', hj⟩ := seg_perm hM' hy
  rw [hp, hM, show a + (b - a) = b by omega] at hi hj
  exact h i' j' x y (hR i j i' j' hij hi hj) hx' hy'
theorem Q.first {p M M' s : List Shot} {k a b : Nat} (hp : p.length = a) (hM : M.length = b - a) (hab : a ≤ b) (ha : a = 20 * k) (hb : b ≤ a + 20) (h : Q (R1 a) (p ++ M ++ s)) (hM' : M'.Perm M) : Q (R1 b) (p ++ M' ++ s) := by
  refine h.block hp hM hab hM' fun i j i' j' hij hi hj => ?_
  obtain ⟨h1, h2⟩ := hij
  rcases h2 with h2 | ⟨q, h2, h3⟩
  · exact ⟨by omega, .inl (by omega)⟩
  · have hq : q * 20 ≤ a ∨ a + 20 ≤ q * 20 := by omega
    refine ⟨by omega, ?_⟩
    by_cases hja : a ≤ j'
    · exact .inl hja
    · exact .inr ⟨q, by omega, by omega⟩
theorem Q.second {p M M' s : List Shot} {bs k a b : Nat} (hp : p.length = a) (hM : M.length = b - a) (hab : a ≤ b) (ha : a = 2 * bs * k) (hb : b ≤ a + 2 * bs) (h : Q (R2 bs a) (p ++ M ++ s)) (hM' : M'.Perm M) : Q (R2 bs b) (p ++ M' ++ s) := by
  refine h.block hp hM hab hM' fun i j i' j' hij hi hj => ?_
  rcases hij with ⟨q, h2, h3⟩ | ⟨h1, q, h2, h3⟩
  · refine .inl ⟨q, ?_, ?_⟩
    all_goals
      have hq : q * (2 * bs) ≤ a ∨ a + 2 * bs ≤ q * (2 * bs) := by
        rw [ha, Nat.mul_comm q]
        rcases Nat.lt_or_ge k q with h | h
        · exact .inr (by have := Nat.mul_le_mul_left (2 * bs) (show k + 1 ≤ q by omega); rw [Nat.mul_add] at this; omega)
        · exact .inl (Nat.mul_le_mul_left _ h)
      generalize q * (2 * bs) = X at *
      clear ha
      omega
  · have : i' = i ∧ j' = j := by
      generalize q * bs = X at *
      omega
    rw [this.1, this.2]
    exact .inr ⟨by omega, q, h2, h3⟩
theorem Q.inc {p M s : List Shot} {a : Nat} (hp : p.length = a) (h : Q (R1 a) (p ++ M ++ s)) : M.Pairwise Bef := by
  refine List.pairwise_iff_getElem.2 fun i j hi hj hij => h (a + i) (a + j) _ _ ⟨by omega, .inl (by omega)⟩ ?_ ?_
  · rw [List.append_assoc, get_right p _ _ (by omega), List.getElem?_append_left (by omega), show a + i - p.length = i by omega]; exact List.getElem?_eq_getElem hi
  · rw [List.append_assoc, get_right p _ _ (by omega), List.getElem?_append_left (by omega), show a + j - p.length = j by omega]; exact List.getElem?_eq_getElem hj
theorem Q.halves {p U V s : List Shot} {bs k a : Nat} (hp : p.length = a) (hU : U.length = bs) (ha : a = 2 * bs * k) (h : Q (R2 bs a) (p ++ (U ++ V) ++ s)) : ∀ u ∈ U, ∀ v ∈ V, Bef u v := by
  intro u hu v hv
  obtain ⟨i, hi, rfl⟩ := List.getElem_of_mem hu
  obtain ⟨j, hj, rfl⟩ := List.getElem_of_mem hv
  have e : (2 * k + 1) * bs = a + bs := by
    rw [ha, Nat.add_mul, Nat.one_mul, Nat.mul_assoc, Nat.mul_comm k bs, ← Nat.mul_assoc]
  refine h (a + i) (a + bs + j) _ _ (.inr ⟨by omega, 2 * k + 1, by omega, by omega⟩) ?_ ?_
  · simp only [List.append_assoc]
    rw [get_right p _ _ (by omega), List.getElem?_append_left (by omega), show a + i - p.length = i by omega]; exact List.getElem?_eq_getElem hi
  · simp only [List.append_assoc]
    rw [get_right p _ _ (by omega), get_right U _ _ (by omega), List.getElem?_append_left (by omega), show a + bs + j - p.length - U.length = j by omega]; exact List.getElem?_eq_getElem hj
theorem Q.to_c {l : List Shot} {N : Nat} (hN : N = l.length) (h : Q (R1 N) l) : Q (Cb 20) l := fun i j x y hij hx hy => h i j x y ⟨by obtain ⟨q, h1, h2⟩ := hij; omega, .inr hij⟩ hx hy
theorem Q.to_r {l : List Shot} {bs : Nat} (h : Q (Cb bs) l) : Q (R2 bs 0) l := fun i j x y hij hx hy => h i j x y (by
  rcases hij with ⟨q, h1, h2⟩ | ⟨_, h⟩
  · exact ⟨q * 2, by rw [Nat.mul_assoc]; exact h1, by rw [Nat.mul_assoc]; exact h2⟩
  · exact h) hx hy
theorem Q.of_r {l : List Shot} {bs a : Nat} (h : Q (R2 bs a) l) : Q (Cb (2 * bs)) l := fun i j x y hij hx hy => h i j x y (.inl hij) hx hy

set_option maxHeartbeats 8000000 in
set_option maxRecDepth 100000 in
theorem stable_calls (g c : Nat) (l : List Shot) (pad : List Value) (N : Nat) (w W : World) (hR : Row w W g l pad) (hc : N ≤ c) (hm : N ≤ 2305843009213) (hN : N = l.length) (hsz : ∀ y ∈ l, ShOk y) (hinc : l.Pairwise Bef) :
    Calls Tryz.prog 121 #[.slice (some ⟨g, 0, none⟩) N c, .int .i64 N, .func (.func 79) #[] #[]] W fun e w' => e = .returned (.tuple #[]) ∧ ∃ l' : List Shot, (l'.Perm l ∧ Sorted l') ∧ Row w w' g l' pad := by
  replace hN := Lib.hid hN
  go_enter Tryz.func121, Tryz.ntmps121
  go_wp2
  go_loopw [7, 8] (fun x y W' => ∃ (a b k : Nat) (l' : List Shot), x = .int .i64 a ∧ y = .int .i64 b ∧ Hid (a = 20 * k) ∧ Hid (b = a + 20) ∧ a ≤ N ∧ b ≤ N + 20 ∧ Hid (l'.Perm l) ∧ Hid (PB 20 a l') ∧ Hid (Q (R1 a) l') ∧ Row w W' g l' pad) (fun x _ _ => N - (intOf x).toNat)
  case atStart => exact ⟨0, 20, 0, l, rfl, rfl, rfl, rfl, Nat.zero_le _, by omega, List.Perm.refl _, fun i j x y _ h => by omega, (fun i j x y hij hx hy => by obtain ⟨hi, rfl⟩ := List.getElem?_eq_some_iff.1 hx; obtain ⟨hj, rfl⟩ := List.getElem?_eq_some_iff.1 hy; exact List.pairwise_iff_getElem.1 hinc i j hi hj hij.1), hR⟩
  case round =>
    clear hR
    obtain ⟨a, b, k, l', rfl, rfl, hak, hba, haN, hbN, hperm, hPB, hQ, hR⟩ := hrel
    have hlen : Hid (N = l'.length) := by rw [hperm.out.length_eq]; exact hN
    by_cases hlt : b ≤ N
    · obtain ⟨p, M, s, hl', hp, hM, hs⟩ := seg_split l' a b (by have := hba.out; omega) (by have := hlen.out; omega)
      have hcall := insort_calls g c p M s pad a b N w wr (by rw [← hl']; exact hR) hc (by omega) (by rw [hlen.out, hl']) hp.symm (by have := hba.out; omega) (fun x hx => hsz x (hperm.out.mem_iff.1 (by rw [hl']; simp [hx]))) (Q.inc hp (by rw [← hl']; exact hQ.out))
      replace hcall := Lib.hid hcall
      replace hl' := Lib.hid hl'
      replace hp := Lib.hid hp
      replace hM := Lib.hid hM
      clear hsz hs
      go_wp2_with fail
      refine hcall.out.mono ?_
      rintro e w2 ⟨rfl, M', hM', hR2⟩
      have hlM : M'.length = 20 := by have := hM'.1.length_eq; have := hM.out; have := hba.out; omega
      have hQ2 : Hid (Q (R1 b) (p ++ M' ++ s)) := Q.first hp.out hM.out (by have := hba.out; omega) hak.out (by have := hba.out; omega) (by rw [← hl'.out]; exact hQ.out) hM'.1
      have hPB2 : Hid (PB 20 b (p ++ M' ++ s)) := by
        have := PB.block (M := M) (by omega) hp.out hak.out (by omega) (by rw [← hl'.out]; exact hPB.out) hM'.2 (s := s)
        rw [hlM, ← hba.out] at this; exact this
      have hperm2 : Hid ((p ++ M' ++ s).Perm l) := by
        refine List.Perm.trans ?_ hperm.out
        rw [hl'.out]
        exact List.Perm.append_right _ (List.Perm.append_left _ hM'.1)
      have hbk : Hid (b = 20 * (k + 1)) := by have := hba.out; have := hak.out; unfold Hid; omega
      replace hlM := Lib.hid hlM
      clear hcall hM' hPB hperm hQ
      go_wp2
      go_roundw
      case measure => have := hba.out; simp [intOf]; omega
      case rel => exact ⟨b, b + 20, k + 1, _, rfl, by go_num, hbk, rfl, hlt, by omega, hperm2, hPB2, hQ2, hR2⟩
    · obtain ⟨p, M, s, hl', hp, hM, hs⟩ := seg_split l' a N haN (by have := hlen.out; omega)
      have hcall := insort_calls g c p M s pad a N N w wr (by rw [← hl']; exact hR) hc (by omega) (by rw [hlen.out, hl']) hp.symm (by omega) (fun x hx => hsz x (hperm.out.mem_iff.1 (by rw [hl']; simp [hx]))) (Q.inc hp (by rw [← hl']; exact hQ.out))
      replace hcall := Lib.hid hcall
      replace hl' := Lib.hid hl'
      replace hp := Lib.hid hp
      replace hM := Lib.hid hM
      replace hs := Lib.hid hs
      replace hsz := Lib.hid hsz
      go_wp2_with fail
      refine hcall.out.mono ?_
      rintro e w2 ⟨rfl, M', hM', hR2⟩
      have hlM : M'.length = N - a := by have := hM'.1.length_eq; have := hM.out; omega
      have hQ2 : Hid (Q (Cb 20) (p ++ M' ++ s)) := Q.to_c (by have := hlen.out; rw [hl'.out] at this; rw [this]; simp; exact hM'.1.length_eq.symm) (Q.first hp.out hM.out haN hak.out (by have := hba.out; omega) (by rw [← hl'.out]; exact hQ.out) hM'.1)
      have hPB2 : Hid (PB 20 N (p ++ M' ++ s)) := by
        have := PB.block (M := M) (by omega) hp.out hak.out (by have := hba.out; omega) (by rw [← hl'.out]; exact hPB.out) hM'.2 (s := s)
        rw [hlM, show a + (N - a) = N by omega] at this; exact this
      have hperm2 : Hid ((p ++ M' ++ s).Perm l) := by
        refine List.Perm.trans ?_ hperm.out
        rw [hl'.out]
        exact List.Perm.append_right _ (List.Perm.append_left _ hM'.1)
      generalize p ++ M' ++ s = l2 at *
      clear hcall hM' hPB hperm hQ hlM hl' hp hM hs hlen hR hba hbN hlt haN hak
      go_wp2
      go_loopw [6] (fun x W' => ∃ (bs : Nat) (l' : List Shot), x = .int .i64 bs ∧ 20 ≤ bs ∧ bs ≤ 2 * N + 20 ∧ Hid (l'.Perm l) ∧ Hid (PB bs N l') ∧ Hid (Q (Cb bs) l') ∧ Row w W' g l' pad) (fun x _ => 2 * N + 20 - (intOf x).toNat)
      case atStart => exact ⟨20, l2, rfl, Nat.le_refl _, by omega, hperm2, hPB2, hQ2, hR2⟩
      case round =>
        clear hperm2 hPB2 hQ2 hR2
        obtain ⟨bs, l2, rfl, hbs, hbsN, hperm, hPB, hQ, hR⟩ := hrel
        have hlen : Hid (N = l2.length) := by rw [hperm.out.length_eq]; exact hN
        by_cases hlt : bs < N
        · have hPC : Hid (PC bs 0 l2) := fun i j x y _ hij hb hx hy => hPB.out i j x y hij (by have := (List.getElem?_eq_some_iff.1 hy).1; have := hlen.out; omega) hb hx hy
          go_wp2
          go_loopw [7, 8] (fun x y W' => ∃ (a b k : Nat) (l' : List Shot), x = .int .i64 a ∧ y = .int .i64 b ∧ Hid (a = 2 * bs * k) ∧ Hid (b = a + 2 * bs) ∧ a ≤ N ∧ b ≤ N + 2 * bs ∧ Hid (l'.Perm l) ∧ Hid (PB (2 * bs) a l') ∧ Hid (PC bs a l') ∧ Hid (Q (R2 bs a) l') ∧ Row w W' g l' pad) (fun x _ _ => N - (intOf x).toNat)
          case atStart => exact ⟨0, 2 * bs, 0, l2, rfl, by go_num, rfl, by simp [Hid], Nat.zero_le _, by omega, hperm, fun i j x y _ h => by omega, hPC, Q.to_r hQ.out, hR⟩
          case round =>
            clear hR hPC hPB hQ hperm hlen
            obtain ⟨a, b, k, l3, rfl, rfl, hak, hba, haN, hbN, hperm, hPB, hPC, hQ, hR⟩ := hrel
            have hlen : Hid (N = l3.length) := by rw [hperm.out.length_eq]; exact hN
            have hak2 : Hid (a = bs * (2 * k)) := by unfold Hid; rw [hak.out, Nat.mul_comm 2 bs, Nat.mul_assoc]
            by_cases hlt2 : b ≤ N
            · obtain ⟨p, M, s, hl', hp, hM, hs⟩ := seg_split l3 a b (by have := hba.out; omega) (by have := hlen.out; omega)
              obtain ⟨U, V, hUV, hlU, hlV⟩ := take_drop_len M bs (by have := hba.out; omega)
              subst hUV
              rw [hM] at hlV
              have hsU : Sorted U := PC.sorted (s := V ++ s) (by omega) hp hak2.out (by omega) (by rw [hl'] at hPC; simpa using hPC.out)
              have hsV : Sorted V := by
                have h2 := PC.block (M := U) (M' := U) (s := V ++ s) (b := a + bs) hp rfl (by omega) (by rw [hl'] at hPC; simpa using hPC.out)
                refine PC.sorted (bs := bs) (a := a + bs) (p := p ++ U) (s := s) (k := 2 * k + 1) (by omega) (by simp; omega) (by have := hak2.out; rw [Nat.mul_add]; omega) (by have := hba.out; omega) (by simpa using h2)
              have hcall := sym_ok (U.length + V.length) g c p U V s pad a (a + bs) b N w wr (by rw [hl'] at hR; simpa using hR) hc (by omega) (by rw [hlen.out, hl']; simp) hp.symm (by omega) (by have := hba.out; omega) (List.length_pos_iff.1 (by omega)) (List.length_pos_iff.1 (by have := hba.out; omega)) (Nat.le_refl _) ⟨(fun x hx => hsz.out x (hperm.out.mem_iff.1 (by rw [hl']; simp at hx ⊢; rcases hx with h | h; exact .inr (.inl h); exact .inr (.inr (.inl h))))), Q.halves hp hlU hak.out (by rw [← hl']; exact hQ.out)⟩ hsU hsV
              obtain ⟨mm, hmm⟩ : ∃ mm, a + bs = mm := ⟨_, rfl⟩
              rw [hmm] at hcall
              have hmI : (a : Int) + (bs : Int) = (mm : Int) := by omega
              have hmN : mm ≤ N := by have := hba.out; omega
              replace hcall := Lib.hid hcall
              replace hl' := Lib.hid hl'
              replace hp := Lib.hid hp
              replace hlU := Lib.hid hlU
              replace hlV := Lib.hid hlV
              replace hM := Lib.hid hM
              replace hmm := Lib.hid hmm
              clear hs hsU hsV
              go_wp2_with fail
              refine hcall.out.mono ?_
              rintro e w3 ⟨rfl, M', hM', hR3⟩
              have hlM : M'.length = 2 * bs := by have := hM'.1.length_eq; have := hlU.out; have := hlV.out; have := hM.out; have := hba.out; simp at *; omega
              have hQ2 : Hid (Q (R2 bs b) (p ++ M' ++ s)) := Q.second hp.out hM.out (by have := hba.out; omega) hak.out (by have := hba.out; omega) (by rw [← hl'.out]; exact hQ.out) hM'.1
              have hPB2 : Hid (PB (2 * bs) b (p ++ M' ++ s)) := by
                have := PB.block (M := U ++ V) (by omega) hp.out hak.out (by omega) (by rw [← hl'.out]; exact hPB.out) hM'.2 (s := s)
                rw [hlM, ← hba.out] at this; exact this
              have hPC2 : Hid (PC bs b (p ++ M' ++ s)) := PC.block (M := U ++ V) hp.out (hM'.1.length_eq.symm) (by have := hM.out; have := hba.out; omega) (by rw [← hl'.out]; exact hPC.out)
              have hperm2 : Hid ((p ++ M' ++ s).Perm l) := by
                refine List.Perm.trans ?_ hperm.out
                rw [hl'.out]
                exact List.Perm.append_right _ (List.Perm.append_left _ hM'.1)
              have hbk : Hid (b = 2 * bs * (k + 1)) := by have := hba.out; have := hak.out; unfold Hid; rw [Nat.mul_add]; omega
              replace hlM := Lib.hid hlM
              clear hcall hM' hPB hPC hQ hperm hR hmI
              go_wp2
              go_roundw
              case measure => have := hba.out; simp [intOf]; omega
              case rel => exact ⟨b, b + 2 * bs, k + 1, _, rfl, by go_num, hbk, rfl, hlt2, by omega, hperm2, hPB2, hPC2, hQ2, hR3⟩
            · by_cases hlt3 : a + bs < N
              · obtain ⟨p, M, s, hl', hp, hM, hs⟩ := seg_split l3 a N haN (by have := hlen.out; omega)
                obtain ⟨U, V, hUV, hlU, hlV⟩ := take_drop_len M bs (by omega)
                subst hUV
                rw [hM] at hlV
                have hsU : Sorted U := PC.sorted (s := V ++ s) (by omega) hp hak2.out (by omega) (by rw [hl'] at hPC; simpa using hPC.out)
                have hsV : Sorted V := by
                  have h2 := PC.block (M := U) (M' := U) (s := V ++ s) (b := a + bs) hp rfl (by omega) (by rw [hl'] at hPC; simpa using hPC.out)
                  refine PC.sorted (bs := bs) (a := a + bs) (p := p ++ U) (s := s) (k := 2 * k + 1) (by omega) (by simp; omega) (by have := hak2.out; rw [Nat.mul_add]; omega) (by have := hba.out; omega) (by simpa using h2)
                have hcall := sym_ok (U.length + V.length) g c p U V s pad a (a + bs) N N w wr (by rw [hl'] at hR; simpa using hR) hc (by omega) (by rw [hlen.out, hl']; simp) hp.symm (by omega) (by omega) (List.length_pos_iff.1 (by omega)) (List.length_pos_iff.1 (by omega)) (Nat.le_refl _) ⟨(fun x hx => hsz.out x (hperm.out.mem_iff.1 (by rw [hl']; simp at hx ⊢; rcases hx with h | h; exact .inr (.inl h); exact .inr (.inr (.inl h))))), Q.halves hp hlU hak.out (by rw [← hl']; exact hQ.out)⟩ hsU hsV
                obtain ⟨mm, hmm⟩ : ∃ mm, a + bs = mm := ⟨_, rfl⟩
                rw [hmm] at hcall
                have hmI : (a : Int) + (bs : Int) = (mm : Int) := by omega
                have hmN : mm < N := by omega
                replace hcall := Lib.hid hcall
                replace hl' := Lib.hid hl'
                replace hp := Lib.hid hp
                replace hlU := Lib.hid hlU
                replace hlV := Lib.hid hlV
                replace hM := Lib.hid hM
                replace hmm := Lib.hid hmm
                replace hs := Lib.hid hs
                clear hsU hsV
                go_wp2_with fail
                refine hcall.out.mono ?_
                rintro e w3 ⟨rfl, M', hM', hR3⟩
                have hlM : M'.length = N - a := by have := hM'.1.length_eq; have := hM.out; simp at *; omega
                have hQ2 : Hid (Q (Cb (2 * bs)) (p ++ M' ++ s)) := Q.of_r (Q.second hp.out hM.out haN hak.out (by have := hba.out; omega) (by rw [← hl'.out]; exact hQ.out) hM'.1)
                have hPB2 : Hid (PB (2 * bs) N (p ++ M' ++ s)) := by
                  have := PB.block (M := U ++ V) (by omega) hp.out hak.out (by have := hba.out; omega) (by rw [← hl'.out]; exact hPB.out) hM'.2 (s := s)
                  rw [hlM, show a + (N - a) = N by omega] at this; exact this
                have hperm2 : Hid ((p ++ M' ++ s).Perm l) := by
                  refine List.Perm.trans ?_ hperm.out
                  rw [hl'.out]
                  exact List.Perm.append_right _ (List.Perm.append_left _ hM'.1)
                replace hlM := Lib.hid hlM
                clear hcall hM' hPB hPC hQ hperm hR hmI
                go_wp2
                go_roundw
                case measure => simp [intOf]; omega
                case rel => exact ⟨bs * 2, _, by go_num, by omega, by omega, hperm2, by rw [Nat.mul_comm bs 2]; exact hPB2, by rw [Nat.mul_comm bs 2]; exact hQ2, hR3⟩
              · have hPB2 : Hid (PB (2 * bs) N l3) := by
                  obtain ⟨p, M, s, hl', hp, hM, hs⟩ := seg_split l3 a N haN (by have := hlen.out; omega)
                  have hsM : Sorted M := PC.sorted (s := s) (by omega) hp hak2.out (by omega) (by rw [← hl']; exact hPC.out)
                  have := PB.block (M := M) (by omega) hp hak.out (by omega) (by rw [← hl']; exact hPB.out) hsM (s := s)
                  rw [hM, show a + (N - a) = N by omega, ← hl'] at this; exact this
                have hmN : ¬ ((a : Int) + (bs : Int) < (N : Int)) := by omega
                clear hPB hPC
                go_wp2
                go_roundw
                case measure => simp [intOf]; omega
                case rel => exact ⟨bs * 2, _, by go_num, by omega, by omega, hperm, by rw [Nat.mul_comm bs 2]; exact hPB2, by rw [Nat.mul_comm bs 2]; exact Q.of_r hQ.out, hR⟩
        · have hfin : Hid (Sorted l2) := by
            refine sorted_of fun i j x y hij hx hy => hPB.out i j x y (by omega) ?_ ?_ hx hy
            · have := (List.getElem?_eq_some_iff.1 hy).1; have := hlen.out; omega
            · have := (List.getElem?_eq_some_iff.1 hy).1; have := hlen.out
              rw [Nat.div_eq_of_lt (by omega), Nat.div_eq_of_lt (by omega)]
          clear hPB
          go_wp2
          go_end0
          exact ⟨rfl, l2, ⟨hperm.out, hfin.out⟩, hR⟩
end Go.Proofs.YtocbjhhnginebaaGreat.Sh

namespace Go.Proofs.YtocbjhhnginebaaGreat.Sh
open Go.RowKit Go.Lib
set_option linter.unusedVariables false
set_option linter.unusedSimpArgs false

theorem sorted_unique : ∀ {l1 l2 : List Shot}, l1.Perm l2 → Sorted l1 → Sorted l2 → l1 = l2
  | [], l2, h, _, _ => (List.Perm.nil_eq h)
  | a :: l1, [], h, _, _ => by have := h.length_eq; simp at this
  | a :: l1, b :: l2, h, h1, h2 => by
    have hab : a = b := by
      have ha : a ∈ b :: l2 := h.mem_iff.1 (by simp)
      have hb : b ∈ a :: l1 := h.mem_iff.2 (by simp)
      rcases List.mem_cons.1 ha with e | e
      · exact e
      · rcases List.mem_cons.1 hb with e' | e'
        · exact e'.symm
        · exact leS_antisymm ((List.pairwise_cons.1 h1).1 b e') ((List.pairwise_cons.1 h2).1 a e)
    subst hab
    rw [sorted_unique ((List.perm_cons a).1 h) (List.pairwise_cons.1 h1).2 (List.pairwise_cons.1 h2).2]
/-- By number, by name where equal. -/
def sortS (l : List Shot) : List Shot := l.mergeSort fun a b => decide (a.2 < b.2 ∨ a.2 = b.2 ∧ cmpP a.1 b.1 ≤ 0)
theorem sortS_perm (l : List Shot) : (sortS l).Perm l := List.mergeSort_perm _ _
theorem sortS_sorted (l : List Shot) : Sorted (sortS l) := by
  have h := List.pairwise_mergeSort (le := fun a b : Shot => decide (a.2 < b.2 ∨ a.2 = b.2 ∧ cmpP a.1 b.1 ≤ 0)) (fun a b c h k => by
    simp only [decide_eq_true_eq] at *
    exact leS_trans (a := a) (b := b) (c := c) h k) (fun a b => by
    simp only [Bool.or_eq_true, decide_eq_true_eq]
    rw [cmpP_swap a.1 b.1]; omega) l
  exact h.imp (fun h => by unfold leS; simpa using h)
theorem sortS_eq {l l' : List Shot} (h : l'.Perm l) (hs : Sorted l') : l' = sortS l := sorted_unique (h.trans (sortS_perm l).symm) hs (sortS_sorted l)

set_option maxHeartbeats 2000000 in
set_option maxRecDepth 100000 in
theorem sortstable_calls (g c : Nat) (l : List Shot) (pad : List Value) (w W : World) (hR : Row w W g l pad) (hc : l.length ≤ c) (hm : l.length ≤ 2305843009213) (hsz : ∀ y ∈ l, ShOk y) (hinc : l.Pairwise Bef) :
    Calls Tryz.prog 78 #[.slice (some ⟨g, 0, none⟩) l.length c, .func (.func 79) #[] #[]] W fun e w' => e = .returned (.tuple #[]) ∧ Row w w' g (sortS l) pad := by
  have hcall := stable_calls g c l pad l.length w W hR hc hm rfl hsz hinc
  replace hcall := Lib.hid hcall
  go_enter Tryz.func78, Tryz.ntmps78
  go_wp2_with fail
  refine hcall.out.mono ?_
  rintro e w2 ⟨rfl, l', ⟨h1, h2⟩, hR2⟩
  rw [sortS_eq h1 h2] at hR2
  clear h1 h2
  go_wp2
  go_end0
  exact ⟨rfl, hR2⟩
set_option maxHeartbeats 2000000 in
set_option maxRecDepth 100000 in
theorem insort_nil (f : Value) (W : World) :
    Calls Tryz.prog 149 #[.slice none 0 0, .int .i64 0, .int .i64 0, f] W fun e w' => e = .returned (.tuple #[]) ∧ W = w' := by
  go_enter Tryz.func149, Tryz.ntmps149
  go_wp2
  refine wp_loop_rounds 1 ?_
  rw [rounds_succ]
  go_wp2
  go_end0
  exact ⟨rfl, rfl⟩
set_option maxHeartbeats 2000000 in
set_option maxRecDepth 100000 in
theorem stable_nil (f : Value) (W : World) :
    Calls Tryz.prog 121 #[.slice none 0 0, .int .i64 0, f] W fun e w' => e = .returned (.tuple #[]) ∧ W = w' := by
  have hcall := fun W => insort_nil f W
  replace hcall := Lib.hid hcall
  go_enter Tryz.func121, Tryz.ntmps121
  go_wp2
  refine wp_loop_rounds 1 ?_
  rw [rounds_succ]
  go_wp2_with fail
  refine (hcall.out _).mono ?_
  rintro e w2 ⟨rfl, rfl⟩
  go_wp2
  refine wp_loop_rounds 1 ?_
  rw [rounds_succ]
  go_wp2
  go_end0
  exact ⟨rfl, rfl⟩
set_option maxHeartbeats 2000000 in
set_option maxRecDepth 100000 in
theorem sortstable_nil (W : World) :
    Calls Tryz.prog 78 #[.slice none 0 0, .func (.func 79) #[] #[]] W fun e w' => e = .returned (.tuple #[]) ∧ W = w' := by
  have hcall := fun W => stable_nil (.func (.func 79) #[] #[]) W
  replace hcall := Lib.hid hcall
  go_enter Tryz.func78, Tryz.ntmps78
  go_wp2_with fail
  refine (hcall.out _).mono ?_
  rintro e w2 ⟨rfl, rfl⟩
  go_wp2
  go_end0
  exact ⟨rfl, rfl⟩
end Go.Proofs.YtocbjhhnginebaaGreat.Sh

namespace Go.Proofs.YtocbjhhnginebaaGreat
open Go.RowKit

def rsv : Bytes := [46, 114, 101, 109, 111, 114, 97]
theorem str_lit (s : ByteArray) (l : Bytes) : (s.toList == l) = decide (bl s = l) := by
  rw [Bool.eq_iff_iff]
  simp only [beq_iff_eq, decide_eq_true_eq, ByteArray.toList_eq]
  exact Iff.rfl
/-- May a name be a snapshot's? -/
def mayS (s : Bytes) : Bool := right s && decide ((split s).length = 1) && decide (s ≠ rsv)

set_option maxHeartbeats 2000000 in
set_option maxRecDepth 100000 in
theorem depth_calls (s : ByteArray) (w : World) (hs : s.size ≤ 16777216) :
    Calls Tryz.prog 76 #[.string s] w fun e w' => e = .returned (.int .i64 (split (bl s)).length) ∧ Below w.heap.size w w' := by
  have h0 := split_calls s w hs
  replace h0 := Lib.hid h0
  go_enter Tryz.func76, Tryz.ntmps76
  go_wp2_with fail
  (with_reducible refine (h0.out).mono ?_)
  rintro e w1 ⟨⟨v, rfl, hS⟩, hB⟩
  obtain ⟨A, c, rfl, h2, h3⟩ := own_shape hS.own
  replace hS := Lib.hid hS
  go_wp2
  go_ret
  exact ⟨rfl, hB⟩

set_option maxHeartbeats 2000000 in
set_option maxRecDepth 100000 in
theorem snapmay_calls (s : ByteArray) (w : World) (hs : s.size ≤ 16777216) :
    Calls Tryz.prog 32 #[.string s] w fun e w' => e = .returned (.bool (mayS (bl s))) ∧ Below w.heap.size w w' := by
  have h0 := right_calls s w hs
  have h1 := fun W => depth_calls s W hs
  have hm : mayS (bl s) = (right (bl s) && decide ((split (bl s)).length = 1) && decide (bl s ≠ rsv)) := rfl
  generalize mayS (bl s) = m at *
  generalize right (bl s) = r at *
  generalize (split (bl s)).length = n at *
  replace h0 := Lib.hid h0
  replace h1 := Lib.hid h1
  go_enter Tryz.func32, Tryz.ntmps32
  have t0 : (s.toList == [46, 114, 101, 109, 111, 114, 97]) = decide (bl s = rsv) := str_lit s rsv
  go_wp2_with fail
  (with_reducible refine (h0.out).mono ?_)
  rintro e w1 ⟨rfl, hB⟩
  cases r
  · go_wp2
    go_ret
    exact ⟨by rw [hm]; rfl, hB⟩
  · go_wp2_with fail
    (with_reducible refine (h1.out _).mono ?_)
    rintro e w2 ⟨rfl, hB2⟩
    by_cases hn : n = 1
    · subst hn
      cases hq : decide (bl s = rsv)
      · rw [hq] at t0
        go_wp2
        go_ret
        exact ⟨by rw [hm, decide_not, hq]; rfl, below_step hB hB2⟩
      · rw [hq] at t0
        go_wp2
        go_ret
        exact ⟨by rw [hm, decide_not, hq]; rfl, below_step hB hB2⟩
    · have hni : ((n : Int) == 1) = false := by rw [beq_eq_false_iff_ne]; omega
      go_wp2
      go_ret
      exact ⟨by rw [hm, decide_eq_false hn]; rfl, below_step hB hB2⟩
end Go.Proofs.YtocbjhhnginebaaGreat

namespace Go.Proofs.YtocbjhhnginebaaGreat
open Go.RowKit

theorem strs_lit {a : Bytes} {b : ByteArray} (h : a = bl b) : ((mkS a).toList == b.toList) = true := strs_alike (by rw [h, mkS_bl])
theorem strs_not {a b : Bytes} (h : a ≠ b) : ((mkS a).toList == (mkS b).toList) = false := strs_diff (fun e => h (mkS_inj e))

/-- What snap.below takes. -/
def belowT (top p : Bytes) : Bool := decide (p ≠ top) && decide (p ≠ []) && under p top
/-- The paths of a tree below a path. -/
def Fs.belowS (T : Fs) (top : Bytes) : List Bytes := T.paths.filter (belowT top)
theorem filter_snoc {α : Type} {l : List α} {k : Nat} (hk : k < l.length) (f : α → Bool) : (l.take (k + 1)).filter f = (l.take k).filter f ++ (if f l[k] then [l[k]] else []) := by
  rw [List.take_succ_eq_append_getElem hk, List.filter_append]
  congr 1
  simp only [List.filter_cons, List.filter_nil]
theorem filter_yes {α : Type} {l : List α} {k : Nat} (hk : k < l.length) {f : α → Bool} (h : f l[k] = true) : (l.take (k + 1)).filter f = (l.take k).filter f ++ [l[k]] := by rw [filter_snoc hk, if_pos h]
theorem filter_no {α : Type} {l : List α} {k : Nat} (hk : k < l.length) {f : α → Bool} (h : f l[k] = false) : (l.take (k + 1)).filter f = (l.take k).filter f := by rw [filter_snoc hk, h]; simp
theorem sortP_paths (T : Fs) : sortP T.paths = T.paths := (sortP_eq (List.Perm.refl _) (sortP_sorted _)).symm
theorem path_short {T : Fs} (hI : T.Inv) {p : Bytes} (h : p ∈ T.paths) : p.length ≤ 200 := by
  have h := ((mem_paths hI).1 h).1
  simp only [right, Bool.and_eq_true, decide_eq_true_eq] at h
  exact h.2

theorem Strs.mono {B C : Nat} {W : World} {v : Value} {l : List Bytes} (h : B ≤ C) (k : Strs C W v l) : Strs B W v l := by
  refine ⟨k.1, ?_⟩
  rcases k.2 with k | ⟨g, cap, cur, h1, h2, h3⟩
  · exact .inl k
  · exact .inr ⟨g, cap, cur, h1, Nat.le_trans h h2, h3⟩

set_option maxHeartbeats 4000000 in
set_option maxRecDepth 100000 in
theorem below_calls (tb : Nat) (A M : Nat → Nat) (T : Fs) (top : Bytes) (w : World) (hR : Rep w tb A M T) (ht : top.length ≤ 16777216) (hf : T.names.length ≤ 1000000) :
    Calls Tryz.prog 33 #[ptr tb, .string (mkS top)] w fun e w' => (∃ v', e = .returned v' ∧ Strs w.heap.size w' v' (T.belowS top)) ∧ Below w.heap.size w w' := by
  have hI := hR.inv
  have h0 := paths_calls tb A M T w hR hf
  have hlen : T.paths.length ≤ 1000000 := by rw [paths_len]; exact Nat.le_trans (below_few T []) hf
  have hps := fun p hp => path_short hI (p := p) hp
  have hbs : T.belowS top = T.paths.filter (belowT top) := rfl
  have hsp := sortP_paths T
  generalize T.belowS top = B at *
  generalize T.paths = L at *
  have h1 := fun v W (hv : Rd W v L) => sort_calls v L W hv (by omega) (fun y hy => by have := hps y hy; omega)
  rw [hsp] at h1
  have h2 : ∀ W p, p.length ≤ 200 → Calls Tryz.prog 23 #[.string (mkS p), .string (mkS top)] W fun e w' => e = .returned (.bool (under p top)) ∧ Below W.heap.size W w' := fun W p hp => by
    have h := under_calls (mkS p) (mkS top) W (by rw [mkS_size]; omega) (by rw [mkS_size]; exact ht)
    rwa [bl_mkS, bl_mkS] at h
  have hnil : ∀ W : World, W.ownsRow W.heap.size 9 1 (.slice none 0 0) 0 [] := fun W => ⟨rfl, Or.inl ⟨rfl, rfl⟩⟩
  clear hsp
  unfold ptr at h0 ⊢
  replace hR := Lib.hid hR
  replace hI := Lib.hid hI
  replace h0 := Lib.hid h0
  replace h1 := Lib.hid h1
  replace h2 := Lib.hid h2
  replace hps := Lib.hid hps
  replace hnil := Lib.hid hnil
  replace hbs := Lib.hid hbs
  go_enter Tryz.func33, Tryz.ntmps33
  go_wp2_with fail
  (with_reducible refine (h0.out).mono ?_)
  rintro e w1 ⟨⟨v1, rfl, hS1⟩, hB1⟩
  obtain ⟨A1, c1, rfl, _, _⟩ := own_shape hS1.own
  have h1' := h1.out _ _ hS1.rd
  replace h1' := Lib.hid h1'
  replace hS1 := Lib.hid hS1
  clear h1
  go_wp2_with fail
  (with_reducible refine (h1'.out).mono ?_)
  rintro e w2 ⟨⟨v2, rfl, hS2⟩, hB2⟩
  have hB := below_step hB1 hB2
  obtain ⟨A2, c2, rfl, hc2, hm2⟩ := own_shape hS2.own
  unfold maxLen at hm2
  have hRd := hS2.rd
  clear hB1 hB2 hS1 hS2 h1'
  replace hRd := Lib.hid hRd
  replace hlen := Lib.hid hlen
  replace hB := Lib.hid hB
  go_wp2_with fail
  go_loopw [5, 12] (fun o i wr => ∃ k : Nat, i = .int .i64 k ∧ k ≤ L.length ∧ Strs w2.heap.size wr o ((L.take k).filter (belowT top)) ∧ Below w2.heap.size w2 wr) (fun _ i _ => L.length - (intOf i).toNat)
  case atStart => exact ⟨0, rfl, Nat.zero_le _, hnil.out w2, Below.refl _ _⟩
  case round =>
    obtain ⟨k, rfl, hk, hO, hB2⟩ := hrel
    by_cases hlt : k < L.length
    · have hRw := hRd.out.below hB2
      obtain ⟨g, o, rfl, c1⟩ := hRw.cell hlt
      have hq := hps.out _ (List.getElem_mem hlt)
      have hyes := filter_yes (f := belowT top) hlt
      have hno := filter_no (f := belowT top) hlt
      have hln : ((L.take k).filter (belowT top)).length ≤ 1000000 := by
        have h1 := List.length_filter_le (belowT top) (L.take k)
        have h2 := hlen.out
        rw [List.length_take] at h1
        omega
      have hbt : belowT top L[k] = (decide (L[k] ≠ top) && decide (L[k] ≠ []) && under L[k] top) := rfl
      obtain ⟨row, hrow⟩ : ∃ row, row = (L.take k).filter (belowT top) := ⟨_, rfl⟩
      rw [← hrow] at hO hyes hno hln
      replace hrow := Lib.hid hrow
      generalize belowT top L[k] = bt at *
      generalize L[k] = q at *
      obtain ⟨oA, oc, ho, ho1, ho2⟩ := own_shape hO.own
      subst ho
      unfold maxLen at ho2
      have hki : (k : Int) < (L.length : Int) := by omega
      clear hRw
      by_cases hq1 : q = top
      · have t1 : ((mkS q).toList == (mkS top).toList) = true := strs_alike (by rw [hq1])
        rw [hq1] at hbt
        simp only [ne_eq, not_true_eq_false, decide_false, Bool.false_and] at hbt
        have hO3 : Strs w2.heap.size wr (.slice oA row.length oc) ((L.take (k + 1)).filter (belowT top)) := by rw [hno hbt]; exact hO
        replace hO := Lib.hid hO
        replace hO3 := Lib.hid hO3
        replace hB2 := Lib.hid hB2
        replace hyes := Lib.hid hyes
        replace hno := Lib.hid hno
        replace hbt := Lib.hid hbt
        go_wp2
        go_roundw
        case rel => exact ⟨k + 1, by go_num, by omega, hO3.out, hB2.out⟩
        case measure => simp [intOf]; omega
      · have t1 : ((mkS q).toList == (mkS top).toList) = false := strs_not hq1
        by_cases hq2 : q = []
        · have t2 : (mkS q).toList.isEmpty = true := by rw [str_nil, bl_mkS, hq2]; rfl
          rw [hq2] at hbt
          simp only [ne_eq, not_true_eq_false, decide_false, Bool.and_false, Bool.false_and] at hbt
          replace hq1 := Lib.hid hq1
          replace hq2 := Lib.hid hq2
          have hO3 : Strs w2.heap.size wr (.slice oA row.length oc) ((L.take (k + 1)).filter (belowT top)) := by rw [hno hbt]; exact hO
          replace hO := Lib.hid hO
          replace hO3 := Lib.hid hO3
          replace hB2 := Lib.hid hB2
          replace hyes := Lib.hid hyes
          replace hno := Lib.hid hno
          replace hbt := Lib.hid hbt
          go_wp2
          go_roundw
          case rel => exact ⟨k + 1, by go_num, by omega, hO3.out, hB2.out⟩
          case measure => simp [intOf]; omega
        · have t2 : (mkS q).toList.isEmpty = false := by rw [str_nil, bl_mkS]; simpa using hq2
          simp only [ne_eq, hq1, hq2, not_false_eq_true, decide_true, Bool.true_and] at hbt
          have hu := h2.out wr q hq
          replace hq1 := Lib.hid hq1
          replace hq2 := Lib.hid hq2
          replace hO := Lib.hid hO
          replace hB2 := Lib.hid hB2
          replace hyes := Lib.hid hyes
          replace hno := Lib.hid hno
          replace hbt := Lib.hid hbt
          replace hu := Lib.hid hu
          generalize under q top = u at *
          go_wp2_with fail
          (with_reducible refine (hu.out).mono ?_)
          rintro e w3 ⟨rfl, hB3⟩
          cases u
          · have hO3 : Strs w2.heap.size w3 (.slice oA row.length oc) ((L.take (k + 1)).filter (belowT top)) := by rw [hno.out hbt.out]; exact own_below hO.out hB3
            have hB5 := below_step hB2.out hB3
            replace hO3 := Lib.hid hO3
            replace hB5 := Lib.hid hB5
            clear hO hB2 c1
            go_wp2
            go_roundw
            case rel => exact ⟨k + 1, by go_num, by omega, hO3.out, hB5.out⟩
            case measure => simp [intOf]; omega
          · have hO2 : Strs w2.heap.size w3 (.slice oA row.length oc) row := own_below hO.out hB3
            have hB5 := below_step hB2.out hB3
            have hsn := hyes.out hbt.out
            replace hO2 := Lib.hid hO2
            replace hB5 := Lib.hid hB5
            replace hsn := Lib.hid hsn
            clear hO hB2 c1 hyes hno
            go_wp2_with (at_builtin; refine wp_append1 w2.heap.size rfl (.tmp 28) (.tmp 30) 36 9 rfl Tryz.underlying36 (.string ⟨#[]⟩) 1 16 info_string rfl (by decide) (.slice oA row.length oc) _ _ rfl [.string (mkS q)] rfl hO2.out rfl ?_ ?_ ?_ hB5.out.size ?_)
            · simp [Value.oneCell']
            · simp only [maxLen]; omega
            · omega
            · intro v1 w4 g1 hg hat
              have hB7 := hB5.out.grown hg hB5.out.size (own_base hO2.out)
              have hO3 : Strs w2.heap.size w4 v1 ((L.take (k + 1)).filter (belowT top)) := by
                rw [hsn.out]
                exact Strs.snoc g1
              replace hO3 := Lib.hid hO3
              replace hB7 := Lib.hid hB7
              clear g1 hg hat
              go_wp2
              go_roundw
              case rel => exact ⟨k + 1, by go_num, by omega, hO3.out, hB7.out⟩
              case measure => simp [intOf]; omega
    · obtain rfl : k = L.length := by omega
      rw [List.take_length, ← hbs.out] at hO
      have hO2 := Strs.mono hB.out.size hO
      have hB4 := below_step hB.out hB2
      replace hO2 := Lib.hid hO2
      replace hB4 := Lib.hid hB4
      clear hO
      go_wp2
      go_ret
      exact ⟨⟨_, rfl, hO2.out⟩, hB4.out⟩
end Go.Proofs.YtocbjhhnginebaaGreat

namespace Go.Proofs.YtocbjhhnginebaaGreat
open Go.RowKit

theorem right_short {s : Bytes} (h : right s = true) : s.length ≤ 200 := by
  simp only [right, Bool.and_eq_true, decide_eq_true_eq] at h
  exact h.2
/-- All Metas are within their bounds. -/
def MtAll (T : Fs) : Prop := ∀ i, metaOk (T.nd i).mt = true
/-- A name as a snapshot, if it is one. -/
def Fs.shotOf (T : Fs) (x : Bytes) : Option Sh.Shot := if (T.stat x).2 = 0 ∧ (T.stat x).1.kind = 2 ∧ 1 ≤ (T.stat x).1.mt.sec ∧ mayS x = true then some (x, (T.stat x).1.mt.sec) else none
/-- The names directly in the top, in order. -/
def Fs.tops (T : Fs) : List Bytes := sortP (T.list []).1
def Fs.shots (T : Fs) : List Sh.Shot := Sh.sortS (T.tops.filterMap T.shotOf)

theorem list_top {T : Fs} (hI : T.Inv) : T.list [] = (sortB ((T.kids []).map (·.1)), 0) := by
  have h : T.there [] = (some 1, none, 0) := by
    unfold Fs.there Fs.look
    rw [if_pos (by decide), if_pos rfl]
    rfl
  unfold Fs.list
  rw [h]
  dsimp only
  rw [if_pos rfl, if_pos hI.topKind, split_nil]
theorem top_name {T : Fs} (hI : T.Inv) {x : Bytes} (h : x ∈ T.tops) : right x = true ∧ split x = [x] ∧ ∃ i, ([x], i) ∈ T.names := by
  have h1 : x ∈ sortB ((T.kids []).map (·.1)) := by
    have := (sortP_perm _).mem_iff.1 h
    rwa [list_top hI] at this
  have h2 : x ∈ (T.kids []).map (·.1) := (List.mergeSort_perm _ _).mem_iff.1 h1
  obtain ⟨⟨y, i⟩, hm, rfl⟩ := List.mem_map.1 h2
  have h3 := mem_kidsL.1 hm
  rw [List.nil_append] at h3
  obtain ⟨r, e⟩ := (hI.pth _ _ h3).text
  exact ⟨r, e, i, h3⟩
theorem tops_nodup {T : Fs} (hI : T.Inv) : T.tops.Nodup := by
  refine (sortP_perm _).nodup_iff.2 ?_
  rw [list_top hI]
  exact (List.mergeSort_perm _ _).nodup_iff.2 (kidsL_nodup hI.nodup [])
theorem tops_few (T : Fs) (hI : T.Inv) : T.tops.length ≤ T.names.length := by
  unfold Fs.tops
  rw [(sortP_perm _).length_eq, list_top hI]
  unfold sortB
  rw [(List.mergeSort_perm _ _).length_eq, List.length_map]
  exact List.length_filterMap_le _ _
theorem tops_bef {T : Fs} (hI : T.Inv) : T.tops.Pairwise fun a b => cmpP a b < 0 := by
  have h1 : T.tops.Pairwise leP := sortP_sorted _
  refine (h1.and (tops_nodup hI)).imp fun ⟨h, hn⟩ => ?_
  unfold leP at h
  rcases Int.lt_or_eq_of_le h with h2 | h2
  · exact h2
  · exact absurd (cmpP_eq h2) hn
theorem shotOf_name {T : Fs} {x : Bytes} {y : Sh.Shot} (h : T.shotOf x = some y) : y.1 = x := by
  unfold Fs.shotOf at h
  split at h
  · cases h; rfl
  · cases h
theorem shotOf_ok {T : Fs} (hM : MtAll T) {x : Bytes} {y : Sh.Shot} (h : T.shotOf x = some y) : 1 ≤ y.2 ∧ y.2 ≤ 1099511627776 := by
  unfold Fs.shotOf at h
  split at h
  · rename_i hc
    cases h
    refine ⟨hc.2.2.1, ?_⟩
    have hk : metaOk (T.stat x).1.mt = true := by
      have h0 := hc.1
      unfold Fs.stat at h0 ⊢
      split
      · split
        · exact hM _
        · decide
      · rename_i hn
        rw [if_neg hn] at h0
        exact absurd h0 hn
    unfold metaOk within at hk
    simp only [Bool.and_eq_true, decide_eq_true_eq] at hk
    dsimp only
    omega
  · cases h
theorem filterMap_bef {f : Bytes → Option Sh.Shot} (hf : ∀ x y, f x = some y → y.1 = x) : ∀ {l : List Bytes}, l.Pairwise (fun a b => cmpP a b < 0) → (l.filterMap f).Pairwise Sh.Bef
  | [], _ => List.Pairwise.nil
  | a :: l, h => by
    obtain ⟨h1, h2⟩ := List.pairwise_cons.1 h
    have ih := filterMap_bef hf h2
    cases ha : f a with
    | none => rw [List.filterMap_cons_none ha]; exact ih
    | some y =>
      rw [List.filterMap_cons_some ha]
      refine List.pairwise_cons.2 ⟨fun z hz => ?_, ih⟩
      obtain ⟨b, hb, e⟩ := List.mem_filterMap.1 hz
      unfold Sh.Bef
      rw [hf _ _ ha, hf _ _ e]
      exact h1 b hb
theorem shots_bef {T : Fs} (hI : T.Inv) : (T.tops.filterMap T.shotOf).Pairwise Sh.Bef := filterMap_bef (fun _ _ h => shotOf_name h) (tops_bef hI)
theorem filterMap_yes {α β : Type} {l : List α} {k : Nat} (hk : k < l.length) {f : α → Option β} {y : β} (h : f l[k] = some y) : (l.take (k + 1)).filterMap f = (l.take k).filterMap f ++ [y] := by
  rw [List.take_succ_eq_append_getElem hk, List.filterMap_append, List.filterMap_cons_some h]; rfl
theorem filterMap_no {α β : Type} {l : List α} {k : Nat} (hk : k < l.length) {f : α → Option β} (h : f l[k] = none) : (l.take (k + 1)).filterMap f = (l.take k).filterMap f := by
  rw [List.take_succ_eq_append_getElem hk, List.filterMap_append, List.filterMap_cons_none h]; simp
theorem shots_few {T : Fs} (hI : T.Inv) : T.shots.length ≤ T.names.length := by
  unfold Fs.shots
  rw [(Sh.sortS_perm _).length_eq]
  exact Nat.le_trans (List.length_filterMap_le _ _) (tops_few T hI)
theorem shots_mem {T : Fs} {y : Sh.Shot} : y ∈ T.shots ↔ y.1 ∈ T.tops ∧ T.shotOf y.1 = some y := by
  unfold Fs.shots
  rw [(Sh.sortS_perm _).mem_iff, List.mem_filterMap]
  constructor
  · rintro ⟨x, hx, h⟩
    have := shotOf_name h
    rw [this]
    exact ⟨hx, h⟩
  · rintro ⟨h1, h2⟩
    exact ⟨y.1, h1, h2⟩
end Go.Proofs.YtocbjhhnginebaaGreat

namespace Go.Proofs.YtocbjhhnginebaaGreat
open Go.RowKit

theorem info_shot : (Tryz.prog.info? 77).map (fun i => (i.zero, i.size, i.bytes)) = some (some (.agg #[.string ⟨#[]⟩, .int .i64 0]), 2, 24) := by kernel_rfl
/-- v reads as the snapshots l, in a row of the call's own. -/
def Shots (B : Nat) (W : World) (v : Value) (l : List Sh.Shot) : Prop := W.ownsRow B 77 2 v l.length (Sh.shRow l)

theorem Shots.block {B : Nat} {W : World} {v : Value} {l : List Sh.Shot} (h : Shots B W v l) : (v = .slice none 0 0 ∧ l = []) ∨
    (∃ g c pad, v = .slice (some ⟨g, 0, none⟩) l.length c ∧ B ≤ g ∧ W.heap[g]? = some (.cells (Sh.shRow l ++ pad).toArray 77 (0, 0)) ∧ l.length ≤ c ∧ c ≤ maxLen ∧ l.length * 2 + pad.length = c * 2) := by
  have hl := Sh.shRow_length l
  rcases h.2 with ⟨h1, h2⟩ | ⟨g, cap, cur, h1, h2, h3, h4, h5, h6, h7⟩
  · exact .inl ⟨h1, List.eq_nil_of_length_eq_zero h2⟩
  · refine .inr ⟨g, cap, cur.toList.drop (l.length * 2), h1, h2, ?_, h4, h5, ?_⟩
    · rw [h3]
      congr 2
      rw [← h7, List.take_append_drop]
    · simp; omega
theorem Shots.of_block {B g c : Nat} {W : World} {l : List Sh.Shot} {pad : List Value} (hg : B ≤ g) (h : W.heap[g]? = some (.cells (Sh.shRow l ++ pad).toArray 77 (0, 0))) (hc : l.length ≤ c) (hm : c ≤ maxLen) (hp : l.length * 2 + pad.length = c * 2) : Shots B W (.slice (some ⟨g, 0, none⟩) l.length c) l := by
  have hl := Sh.shRow_length l
  refine ⟨hl, .inr ⟨g, c, _, rfl, hg, h, hc, hm, by simp; omega, ?_⟩⟩
  rw [← hl]; simp

set_option maxHeartbeats 4000000 in
set_option maxRecDepth 100000 in
theorem shots_calls (tb : Nat) (A M : Nat → Nat) (T : Fs) (w : World) (hR : Rep w tb A M T) (hM : MtAll T) (hf : T.names.length ≤ 1000000) :
    Calls Tryz.prog 34 #[ptr tb] w fun e w' => (∃ v', e = .returned v' ∧ Shots w.heap.size w' v' T.shots) ∧ Below w.heap.size w w' := by
  have hI := hR.inv
  have h0 := list_calls tb A M T ⟨#[]⟩ w hR (by decide) hf
  rw [show bl ⟨#[]⟩ = [] from rfl] at h0
  have htn := fun x hx => (top_name hI (x := x) hx)
  have hlen : T.tops.length ≤ 1000000 := Nat.le_trans (tops_few T hI) hf
  have hl0 : (T.list []).1.length = T.tops.length := (sortP_perm _).length_eq.symm
  have hl1 : ∀ x ∈ (T.list []).1, x ∈ T.tops := fun x hx => (sortP_perm _).mem_iff.2 hx
  have htp : T.tops = sortP (T.list []).1 := rfl
  have hbe := shots_bef hI
  have hok := fun x y (h : T.shotOf x = some y) => shotOf_ok hM h
  have hsh : T.shots = Sh.sortS (T.tops.filterMap T.shotOf) := rfl
  have hst : ∀ x W, x ∈ T.tops → Below w.heap.size w W → Calls Tryz.prog 16 #[ptr tb, .string (mkS x)] W fun e w' => e = .returned (.tuple #[statV (T.stat x).1, .int .i64 (T.stat x).2]) ∧ Below W.heap.size W w' := fun x W hx hB => by
    have h := stat_calls tb A M T (mkS x) W (hR.below hB) (by rw [mkS_size]; have := right_short (htn x hx).1; omega)
    rwa [bl_mkS] at h
  have hmy : ∀ x W, x ∈ T.tops → Calls Tryz.prog 32 #[.string (mkS x)] W fun e w' => e = .returned (.bool (mayS x)) ∧ Below W.heap.size W w' := fun x W hx => by
    have h := snapmay_calls (mkS x) W (by rw [mkS_size]; have := right_short (htn x hx).1; omega)
    rwa [bl_mkS] at h
  have hso : ∀ v W, Rd W v (T.list []).1 → Calls Tryz.prog 48 #[v] W fun e w' => (∃ v', e = .returned v' ∧ Strs W.heap.size w' v' T.tops) ∧ Below W.heap.size W w' := fun v W hv => by
    have h := sort_calls v _ W hv (by omega) (fun y hy => by have := right_short (htn y (hl1 y hy)).1; omega)
    rwa [← htp] at h
  have hof : ∀ x, T.shotOf x = if (T.stat x).2 = 0 ∧ (T.stat x).1.kind = 2 ∧ 1 ≤ (T.stat x).1.mt.sec ∧ mayS x = true then some (x, (T.stat x).1.mt.sec) else none := fun x => rfl
  generalize T.shotOf = so at *
  generalize T.shots = SH at *
  generalize (T.list []).1 = L0 at *
  generalize (T.list []).2 = le at *
  generalize T.tops = L at *
  clear hl0 hl1 htn htp
  unfold ptr at h0 hst ⊢
  replace hR := Lib.hid hR
  replace hI := Lib.hid hI
  replace h0 := Lib.hid h0
  replace hst := Lib.hid hst
  replace hmy := Lib.hid hmy
  replace hso := Lib.hid hso
  replace hof := Lib.hid hof
  replace hbe := Lib.hid hbe
  replace hok := Lib.hid hok
  replace hsh := Lib.hid hsh
  replace hM := Lib.hid hM
  go_enter Tryz.func34, Tryz.ntmps34
  go_wp2_with fail
  (with_reducible refine (h0.out).mono ?_)
  rintro e w1 ⟨⟨v1, rfl, hS1⟩, hB1⟩
  obtain ⟨A1, c1, rfl, _, _⟩ := own_shape hS1.own
  have h1' := hso.out _ _ hS1.rd
  replace h1' := Lib.hid h1'
  replace hS1 := Lib.hid hS1
  clear hso
  go_wp2_with fail
  (with_reducible refine (h1'.out).mono ?_)
  rintro e w2 ⟨⟨v2, rfl, hS2⟩, hB2⟩
  have hB := below_step hB1 hB2
  obtain ⟨A2, c2, rfl, hc2, hm2⟩ := own_shape hS2.own
  unfold maxLen at hm2
  have hRd := hS2.rd
  have hnil : w2.ownsRow w2.heap.size 77 2 (.slice none 0 0) 0 [] := World.ownsRow_nil _ _ _ _
  clear hB1 hB2 hS1 hS2 h1'
  replace hRd := Lib.hid hRd
  replace hlen := Lib.hid hlen
  replace hB := Lib.hid hB
  go_wp2_with fail
  go_loopw [5, 18] (fun o i wr => ∃ k : Nat, i = .int .i64 k ∧ k ≤ L.length ∧ Shots w2.heap.size wr o ((L.take k).filterMap so) ∧ Below w2.heap.size w2 wr) (fun _ i _ => L.length - (intOf i).toNat)
  case atStart => exact ⟨0, rfl, Nat.zero_le _, hnil, Below.refl _ _⟩
  case round =>
    clear hnil
    obtain ⟨k, rfl, hk, hO, hB2⟩ := hrel
    unfold Shots at hO
    have hln : ((L.take k).filterMap so).length ≤ 1000000 := by
      have h1 := List.length_filterMap_le so (L.take k)
      have h2 := hlen.out
      rw [List.length_take] at h1
      omega
    by_cases hlt : k < L.length
    · have hRw := hRd.out.below hB2
      obtain ⟨g, o, rfl, c1⟩ := hRw.cell hlt
      have hyes := fun y => filterMap_yes (f := so) (y := y) hlt
      have hno := filterMap_no (f := so) hlt
      have hs := hst.out _ wr (List.getElem_mem hlt) (below_step hB.out hB2)
      have hm := fun W => hmy.out _ W (List.getElem_mem hlt)
      have hf1 := hof.out L[k]
      obtain ⟨row, hrow⟩ : ∃ row, row = (L.take k).filterMap so := ⟨_, rfl⟩
      rw [← hrow] at hO hyes hno hln
      generalize mayS L[k] = my at *
      generalize T.stat L[k] = st at *
      obtain ⟨st, se⟩ := st
      obtain ⟨s1, s2, s3, s4, mt, s5⟩ := st
      obtain ⟨m1, m2, m3, m4, m5⟩ := mt
      generalize so L[k] = sq at *
      generalize L[k] = q at *
      obtain ⟨oA, oc, ho, ho1, ho2⟩ := own_shape hO
      subst ho
      unfold maxLen at ho2
      have hki : (k : Int) < (L.length : Int) := by omega
      unfold statV statCells at hs
      dsimp only at hs hf1
      clear hRw
      replace hs := Lib.hid hs
      replace hm := Lib.hid hm
      replace hO := Lib.hid hO
      replace hB2 := Lib.hid hB2
      replace hyes := Lib.hid hyes
      replace hno := Lib.hid hno
      replace hrow := Lib.hid hrow
      replace hf1 := Lib.hid hf1
      go_wp2_with fail
      (with_reducible refine (hs.out).mono ?_)
      rintro e w3 ⟨rfl, hB3⟩
      have hO2 := own_below hO.out hB3
      have hB4 := below_step hB2.out hB3
      replace hO2 := Lib.hid hO2
      replace hB4 := Lib.hid hB4
      clear hO hB2 c1 hs
      have hsq := hf1.out
      clear hf1
      by_cases z1 : se = 0
      · have t1 : (se == 0) = true := by simpa using z1
        by_cases z2 : s1 = 2
        · have t2 : (s1 == 2) = true := by simpa using z2
          by_cases z3 : 1 ≤ m2
          · cases my
            · rw [if_neg (by simp)] at hsq
              have hO3 : w3.ownsRow w2.heap.size 77 2 (.slice oA row.length oc) ((L.take (k + 1)).filterMap so).length (Sh.shRow ((L.take (k + 1)).filterMap so)) := by rw [hno.out hsq]; exact hO2.out
              replace z1 := Lib.hid z1
              replace z2 := Lib.hid z2
              replace hO3 := Lib.hid hO3
              clear hsq hno hyes hO2
              go_wp2_with fail
              (with_reducible refine (hm.out _).mono ?_)
              rintro e w4 ⟨rfl, hB5⟩
              have hB6 := below_step (below_alloc (Below.refl _ w3) _) hB5
              have hO4 := own_below hO3.out hB6
              have hB7 := below_step hB4.out hB6
              clear hB5 hB6 hO3 hB4
              replace hO4 := Lib.hid hO4
              replace hB7 := Lib.hid hB7
              go_wp2
              go_roundw
              case rel => exact ⟨k + 1, by go_num, by omega, hO4.out, hB7.out⟩
              case measure => simp [intOf]; omega
            · rw [if_pos ⟨z1, z2, z3, rfl⟩] at hsq
              have hsn := hyes.out _ hsq
              replace z1 := Lib.hid z1
              replace z2 := Lib.hid z2
              replace hsn := Lib.hid hsn
              clear hsq hno hyes
              go_wp2_with fail
              (with_reducible refine (hm.out _).mono ?_)
              rintro e w4 ⟨rfl, hB5⟩
              have b8 := (hB5.block w3.heap.size (Array.getElem?_eq_some_iff.1 (heap_alloc_new w3 _)).1).trans (heap_alloc_new w3 _)
              have c8 : w4.cell? ⟨w3.heap.size, 5, none⟩ = some (.int .i64 m2) := cell_of b8 rfl
              have hB6 := below_step (below_alloc (Below.refl _ w3) _) hB5
              have hO4 := own_below hO2.out hB6
              have hB7 := below_step hB4.out hB6
              clear hB5 hB6 hO2 hB4 b8
              replace hO4 := Lib.hid hO4
              replace hB7 := Lib.hid hB7
              go_wp2_with (at_builtin; refine wp_append1 w2.heap.size rfl (.tmp 45) (.tmp 51) 69 77 rfl Tryz.underlying69 (.agg #[.string ⟨#[]⟩, .int .i64 0]) 2 24 info_shot rfl (by decide) (.slice oA row.length oc) _ _ rfl [.string (mkS q), .int .i64 m2] rfl hO4.out rfl ?_ ?_ ?_ hB7.out.size ?_)
              · simp [Value.oneCell']
              · simp only [maxLen]; omega
              · omega
              · intro v1 w5 g1 hg hat
                have hB8 := hB7.out.grown hg hB7.out.size (own_base hO4.out)
                have hO5 : Shots w2.heap.size w5 v1 ((L.take (k + 1)).filterMap so) := by
                  unfold Shots
                  rw [hsn.out, Sh.shRow_append, List.length_append]
                  exact g1
                replace hO5 := Lib.hid hO5
                replace hB8 := Lib.hid hB8
                clear g1 hg hat
                go_wp2
                go_roundw
                case rel => exact ⟨k + 1, by go_num, by omega, hO5.out, hB8.out⟩
                case measure => simp [intOf]; omega
          · rw [if_neg (fun h => z3 h.2.2.1)] at hsq
            replace z1 := Lib.hid z1
            replace z2 := Lib.hid z2
            have hO3 : w3.ownsRow w2.heap.size 77 2 (.slice oA row.length oc) ((L.take (k + 1)).filterMap so).length (Sh.shRow ((L.take (k + 1)).filterMap so)) := by rw [hno.out hsq]; exact hO2.out
            replace hO3 := Lib.hid hO3
            clear hsq hno hyes hO2 hm
            go_wp2
            go_roundw
            case rel => exact ⟨k + 1, by go_num, by omega, own_below hO3.out (below_alloc (Below.refl _ _) _), below_step hB4.out (below_alloc (Below.refl _ _) _)⟩
            case measure => simp [intOf]; omega
        · have t2 : (s1 == 2) = false := by simpa using z2
          rw [if_neg (fun h => z2 h.2.1)] at hsq
          replace z1 := Lib.hid z1
          replace z2 := Lib.hid z2
          have hO3 : w3.ownsRow w2.heap.size 77 2 (.slice oA row.length oc) ((L.take (k + 1)).filterMap so).length (Sh.shRow ((L.take (k + 1)).filterMap so)) := by rw [hno.out hsq]; exact hO2.out
          replace hO3 := Lib.hid hO3
          clear hsq hno hyes hO2 hm
          go_wp2
          go_roundw
          case rel => exact ⟨k + 1, by go_num, by omega, own_below hO3.out (below_alloc (Below.refl _ _) _), below_step hB4.out (below_alloc (Below.refl _ _) _)⟩
          case measure => simp [intOf]; omega
      · have t1 : (se == 0) = false := by simpa using z1
        rw [if_neg (fun h => z1 h.1)] at hsq
        replace z1 := Lib.hid z1
        have hO3 : w3.ownsRow w2.heap.size 77 2 (.slice oA row.length oc) ((L.take (k + 1)).filterMap so).length (Sh.shRow ((L.take (k + 1)).filterMap so)) := by rw [hno.out hsq]; exact hO2.out
        replace hO3 := Lib.hid hO3
        clear hsq hno hyes hO2 hm
        go_wp2
        go_roundw
        case rel => exact ⟨k + 1, by go_num, by omega, own_below hO3.out (below_alloc (Below.refl _ _) _), below_step hB4.out (below_alloc (Below.refl _ _) _)⟩
        case measure => simp [intOf]; omega
    · obtain rfl : k = L.length := by omega
      rw [List.take_length] at hO hln
      have hrow : ∀ y ∈ L.filterMap so, ∃ x, x ∈ L ∧ so x = some y := fun y hy => List.mem_filterMap.1 hy
      replace hrow := Lib.hid hrow
      generalize L.filterMap so = row at *
      rcases Shots.block hO with ⟨rfl, rfl⟩ | ⟨g, c, pad, rfl, hg, hb, hc, hmx, hpd⟩
      · have h5 := Sh.sortstable_nil wr
        have hB4 := below_step hB.out hB2
        have hfin : Shots w.heap.size wr (.slice none 0 0) SH := by rw [hsh.out, show Sh.sortS [] = [] by simp [Sh.sortS]]; exact World.ownsRow_nil _ _ _ _
        replace h5 := Lib.hid h5
        replace hB4 := Lib.hid hB4
        replace hfin := Lib.hid hfin
        clear hO hB2
        go_wp2_with fail
        (with_reducible refine (h5.out).mono ?_)
        rintro e w4 ⟨rfl, rfl⟩
        go_wp2
        go_ret
        exact ⟨⟨_, rfl, hfin.out⟩, hB4.out⟩
      · have h5 := Sh.sortstable_calls g c row pad wr wr (Sh.Row.start hb) hc (by omega) (fun y hy => by
          obtain ⟨x, _, e⟩ := hrow.out y hy
          have := hok.out x y e
          unfold Sh.ShOk
          omega) hbe.out
        replace h5 := Lib.hid h5
        go_wp2_with fail
        (with_reducible refine (h5.out).mono ?_)
        rintro e w4 ⟨rfl, hR4⟩
        have hB3 := hB2.grown hR4.kept hB2.size (fun k hk => by cases hk; exact hg)
        have hB4 := below_step hB.out hB3
        have hfin : Shots w.heap.size w4 (.slice (some ⟨g, 0, none⟩) row.length c) SH := by
          rw [hsh.out]
          have h6 := Shots.of_block (Nat.le_trans hB.out.size hg) hR4.h (by rw [(Sh.sortS_perm _).length_eq]; exact hc) hmx (by rw [(Sh.sortS_perm _).length_eq]; exact hpd)
          rwa [(Sh.sortS_perm _).length_eq] at h6
        replace hB4 := Lib.hid hB4
        replace hfin := Lib.hid hfin
        clear hO hB2 hB3 hR4
        go_wp2
        go_ret
        exact ⟨⟨_, rfl, hfin.out⟩, hB4.out⟩
end Go.Proofs.YtocbjhhnginebaaGreat

namespace Go.Proofs.YtocbjhhnginebaaGreat
open Go.RowKit

/-- v reads as the snapshots l. -/
def RdS (W : World) (v : Value) (l : List Sh.Shot) : Prop :=
  ∃ A c, v = .slice A l.length c ∧ l.length ≤ c ∧ c ≤ maxLen ∧ ∀ k (hk : k < l.length), ∃ g o, A = some ⟨g, o, none⟩ ∧ W.cell? ⟨g, o + k * 2, none⟩ = some (.string (mkS l[k].1)) ∧ W.cell? ⟨g, o + k * 2 + 1, none⟩ = some (.int .i64 l[k].2)
theorem RdS.shape {W : World} {v : Value} {l : List Sh.Shot} (h : RdS W v l) : ∃ A c, v = .slice A l.length c ∧ l.length ≤ c ∧ c ≤ maxLen := by
  obtain ⟨A, c, h1, h2, h3, _⟩ := h
  exact ⟨A, c, h1, h2, h3⟩
theorem RdS.at {W : World} {A : Option Addr} {n c : Nat} {l : List Sh.Shot} (h : RdS W (.slice A n c) l) {k : Nat} (hk : k < l.length) : ∃ g o, A = some ⟨g, o, none⟩ ∧ W.cell? ⟨g, o + k * 2, none⟩ = some (.string (mkS l[k].1)) ∧ W.cell? ⟨g, o + k * 2 + 1, none⟩ = some (.int .i64 l[k].2) := by
  obtain ⟨A', c', h1, _, _, h4⟩ := h
  cases h1
  exact h4 k hk
theorem RdS.below {W W' : World} {v : Value} {l : List Sh.Shot} (h : RdS W v l) (hb : Below W.heap.size W W') : RdS W' v l := by
  obtain ⟨A, c, h1, h2, h3, h4⟩ := h
  refine ⟨A, c, h1, h2, h3, fun k hk => ?_⟩
  obtain ⟨g, o, e, c1, c2⟩ := h4 k hk
  exact ⟨g, o, e, (hb.cell (cell_lt c1)).trans c1, (hb.cell (cell_lt c2)).trans c2⟩
theorem Shots.rd {W : World} {B : Nat} {v : Value} {l : List Sh.Shot} (h : Shots B W v l) : RdS W v l := by
  have h : W.ownsRow B 77 2 v l.length (Sh.shRow l) := h
  obtain ⟨A, c, h1, h2, h3⟩ := own_shape h
  refine ⟨A, c, h1, h2, h3, fun k hk => ?_⟩
  obtain ⟨g, c', e, _, _, _, _, hc⟩ := own_at h (by omega)
  rw [h1] at e
  simp only [Value.slice.injEq] at e
  obtain ⟨e1, _⟩ := e
  obtain ⟨r1, r2⟩ := Sh.shRow_at l k _ (List.getElem?_eq_getElem hk)
  exact ⟨g, 0, e1, by rw [Nat.zero_add]; exact hc _ _ r1, by rw [Nat.zero_add]; exact hc _ _ r2⟩

/-- Where a snapshot stands. -/
def whereI (l : List Sh.Shot) (nm : Bytes) : Option Nat := l.findIdx? fun y => decide (y.1 = nm)
def optI : Option Nat → Int
  | some i => i
  | none => -1
theorem whereI_some {l : List Sh.Shot} {nm : Bytes} {k : Nat} (hk : k < l.length) (h : l[k].1 = nm) (hn : ∀ j (hj : j < l.length), j < k → l[j].1 ≠ nm) : whereI l nm = some k := by
  unfold whereI
  rw [List.findIdx?_eq_some_iff_getElem]
  exact ⟨hk, by simpa using h, fun j hj => by simpa using hn j (by omega) hj⟩
theorem whereI_none {l : List Sh.Shot} {nm : Bytes} (hn : ∀ j (hj : j < l.length), l[j].1 ≠ nm) : whereI l nm = none := by
  unfold whereI
  rw [List.findIdx?_eq_none_iff]
  intro y hy
  obtain ⟨j, hj, rfl⟩ := List.getElem_of_mem hy
  simpa using hn j hj

set_option maxHeartbeats 2000000 in
set_option maxRecDepth 100000 in
theorem where1_calls (y : Sh.Shot) (nm : Bytes) (cb : Nat) (w : World) (hc : w.cell? ⟨cb, 0, none⟩ = some (.string (mkS nm))) :
    Calls Tryz.prog 125 #[.agg #[.string (mkS y.1), .int .i64 y.2], .pointer (some ⟨cb, 0, none⟩)] w fun e w' => e = .returned (.bool (decide (y.1 = nm))) ∧ Below w.heap.size w w' := by
  obtain ⟨q, n⟩ := y
  dsimp only
  have hlt := cell_lt hc
  have hc2 : ∀ o, (w.alloc o).cell? ⟨cb, 0, none⟩ = some (.string (mkS nm)) := fun o => ((below_alloc (Below.refl _ w) o).cell hlt).trans hc
  have t1 : ((mkS q).toList == (mkS nm).toList) = decide (q = nm) := by
    by_cases h : q = nm
    · rw [h]; simp
    · rw [strs_not h]; simpa using h
  generalize decide (q = nm) = d at *
  cases d
  · go_enter Tryz.func125, Tryz.ntmps125
    go_wp2
    go_ret
    exact ⟨rfl, below_alloc (Below.refl _ _) _⟩
  · go_enter Tryz.func125, Tryz.ntmps125
    go_wp2
    go_ret
    exact ⟨rfl, below_alloc (Below.refl _ _) _⟩

set_option maxHeartbeats 4000000 in
set_option maxRecDepth 100000 in
theorem index1_calls (v : Value) (l : List Sh.Shot) (nm : Bytes) (cb : Nat) (w : World) (hv : RdS w v l) (hc : w.cell? ⟨cb, 0, none⟩ = some (.string (mkS nm))) (hl : l.length ≤ 1000000) :
    Calls Tryz.prog 124 #[v, .func (.func 125) #[] #[.pointer (some ⟨cb, 0, none⟩)]] w fun e w' => e = .returned (.int .i64 (optI (whereI l nm))) ∧ Below w.heap.size w w' := by
  obtain ⟨A, c, rfl, _, h3⟩ := hv.shape
  unfold maxLen at h3
  have h1 := fun y W hW => where1_calls y nm cb W hW
  have hlt := cell_lt hc
  replace h1 := Lib.hid h1
  replace hv := Lib.hid hv
  replace hc := Lib.hid hc
  go_enter Tryz.func124, Tryz.ntmps124
  go_wp2_with fail
  go_loopw [8] (fun i wr => ∃ k : Nat, i = .int .i64 k ∧ k ≤ l.length ∧ Hid (∀ j (hj : j < l.length), j < k → l[j].1 ≠ nm) ∧ Below w.heap.size w wr) (fun i _ => l.length - (intOf i).toNat)
  case atStart => exact ⟨0, rfl, Nat.zero_le _, fun j hj h => by omega, Below.refl _ _⟩
  case round =>
    obtain ⟨k, rfl, hk, hn, hB⟩ := hrel
    by_cases hkl : k < l.length
    · obtain ⟨g, o, rfl, c1, c2⟩ := (hv.out.below hB).at hkl
      have h2 := h1.out l[k] wr ((hB.cell hlt).trans hc.out)
      have hy : l[k].1 = nm → whereI l nm = some k := fun h => whereI_some hkl h hn.out
      have hno : l[k].1 ≠ nm → ∀ j (hj : j < l.length), j < k + 1 → l[j].1 ≠ nm := fun h j hj hjk => by
        by_cases he : j = k
        · subst he; exact h
        · exact hn.out j hj (by omega)
      generalize l[k] = y at *
      obtain ⟨q, n⟩ := y
      dsimp only at *
      have hki : (k : Int) < (l.length : Int) := by omega
      by_cases hq : q = nm
      · have hwh := hy hq
        rw [decide_eq_true hq] at h2
        replace h2 := Lib.hid h2
        replace hB := Lib.hid hB
        replace hwh := Lib.hid hwh
        replace hn := Lib.hid hn
        clear hy hno hq
        go_wp2_with fail
        (with_reducible refine (h2.out).mono ?_)
        rintro e w3 ⟨rfl, hB3⟩
        have hB4 := below_step hB.out hB3
        replace hB4 := Lib.hid hB4
        go_wp2
        go_ret
        exact ⟨by rw [hwh.out]; rfl, hB4.out⟩
      · have hn2 := hno hq
        rw [decide_eq_false hq] at h2
        replace h2 := Lib.hid h2
        replace hB := Lib.hid hB
        replace hn2 := Lib.hid hn2
        replace hn := Lib.hid hn
        clear hy hno hq
        go_wp2_with fail
        (with_reducible refine (h2.out).mono ?_)
        rintro e w3 ⟨rfl, hB3⟩
        have hB4 := below_step hB.out hB3
        replace hB4 := Lib.hid hB4
        go_wp2
        go_roundw
        case rel => exact ⟨k + 1, by go_num, by omega, hn2, hB4.out⟩
        case measure => simp [intOf]; omega
    · obtain rfl : k = l.length := by omega
      have hwh : whereI l nm = none := whereI_none fun j hj => hn.out j hj hj
      replace hwh := Lib.hid hwh
      replace hB := Lib.hid hB
      go_wp2
      go_ret
      exact ⟨by rw [hwh.out]; rfl, hB.out⟩

set_option maxHeartbeats 2000000 in
set_option maxRecDepth 100000 in
theorem where_calls (v : Value) (l : List Sh.Shot) (nm : Bytes) (w : World) (hv : RdS w v l) (hl : l.length ≤ 1000000) :
    Calls Tryz.prog 84 #[v, .string (mkS nm)] w fun e w' => e = .returned (.int .i64 (optI (whereI l nm))) ∧ Below w.heap.size w w' := by
  have hBa := fun o => below_alloc (Below.refl _ w) o
  have h1 := fun o hc => index1_calls v l nm w.heap.size (w.alloc o) (hv.below (hBa o)) hc hl
  obtain ⟨A, c, rfl, _, h3⟩ := hv.shape
  have h2 := h1 (.cells #[.string (mkS nm)] 9) (cell_of (heap_alloc_new w _) rfl)
  replace h2 := Lib.hid h2
  replace hv := Lib.hid hv
  replace hBa := Lib.hid hBa
  clear h1
  go_enter Tryz.func84, Tryz.ntmps84
  go_wp2_with fail
  (with_reducible refine (h2.out).mono ?_)
  rintro e w2 ⟨rfl, hB2⟩
  have hB3 := below_step (hBa.out _) hB2
  replace hB3 := Lib.hid hB3
  go_wp2
  go_ret
  exact ⟨rfl, hB3.out⟩
end Go.Proofs.YtocbjhhnginebaaGreat

namespace Go.Proofs.YtocbjhhnginebaaGreat
open Go.RowKit

def Fs.snaps (T : Fs) : List Bytes := T.shots.map (·.1)

set_option maxHeartbeats 2000000 in
set_option maxRecDepth 100000 in
theorem snapnames_nil (w : World) : Calls Tryz.prog 19 #[.pointer none] w fun e w' => e = .returned (.slice none 0 0) ∧ w = w' := by
  go_enter Tryz.func19, Tryz.ntmps19
  go_wp2
  go_ret
  exact ⟨rfl, rfl⟩

set_option maxHeartbeats 4000000 in
set_option maxRecDepth 100000 in
theorem snapnames_calls (tb : Nat) (A M : Nat → Nat) (T : Fs) (w : World) (hR : Rep w tb A M T) (hM : MtAll T) (hf : T.names.length ≤ 1000000) :
    Calls Tryz.prog 19 #[ptr tb] w fun e w' => (∃ v', e = .returned v' ∧ Strs w.heap.size w' v' T.snaps) ∧ Below w.heap.size w w' := by
  have h0 := shots_calls tb A M T w hR hM hf
  have hlen : T.shots.length ≤ 1000000 := Nat.le_trans (shots_few hR.inv) hf
  have hsn : T.snaps = T.shots.map (·.1) := rfl
  generalize T.snaps = SN at *
  generalize T.shots = L at *
  unfold ptr at h0 ⊢
  replace hR := Lib.hid hR
  replace h0 := Lib.hid h0
  replace hsn := Lib.hid hsn
  replace hM := Lib.hid hM
  go_enter Tryz.func19, Tryz.ntmps19
  go_wp2_with fail
  (with_reducible refine (h0.out).mono ?_)
  rintro e w1 ⟨⟨v1, rfl, hS1⟩, hB⟩
  have hRd := hS1.rd
  obtain ⟨A1, c1, rfl, _, hm2⟩ := hRd.shape
  unfold maxLen at hm2
  have hnil : w1.ownsRow w1.heap.size 9 1 (.slice none 0 0) 0 [] := World.ownsRow_nil _ _ _ _
  clear hS1
  replace hRd := Lib.hid hRd
  replace hlen := Lib.hid hlen
  replace hB := Lib.hid hB
  go_wp2_with fail
  go_loopw [3, 11] (fun o i wr => ∃ k : Nat, i = .int .i64 k ∧ k ≤ L.length ∧ Strs w1.heap.size wr o ((L.take k).map (·.1)) ∧ Below w1.heap.size w1 wr) (fun _ i _ => L.length - (intOf i).toNat)
  case atStart => exact ⟨0, rfl, Nat.zero_le _, hnil, Below.refl _ _⟩
  case round =>
    clear hnil
    obtain ⟨k, rfl, hk, hO, hB2⟩ := hrel
    by_cases hlt : k < L.length
    · obtain ⟨g, o, rfl, c1, c2⟩ := (hRd.out.below hB2).at hlt
      have hst : (L.take (k + 1)).map (·.1) = (L.take k).map (·.1) ++ [L[k].1] := by
        rw [List.take_succ_eq_append_getElem hlt, List.map_append]; rfl
      obtain ⟨row, hrow⟩ : ∃ row, row = (L.take k).map (·.1) := ⟨_, rfl⟩
      rw [← hrow] at hO hst
      have hln : row.length ≤ 1000000 := by have := hlen.out; rw [hrow, List.length_map, List.length_take]; omega
      generalize L[k] = y at *
      obtain ⟨q, n⟩ := y
      dsimp only at *
      obtain ⟨oA, oc, ho, ho1, ho2⟩ := own_shape hO.own
      subst ho
      unfold maxLen at ho2
      have hki : (k : Int) < (L.length : Int) := by omega
      have hO2 := own_below hO (below_alloc (Below.refl _ wr) (.cells #[.string (mkS q), .int .i64 n] 77))
      have hB4 := below_step hB2 (below_alloc (Below.refl _ wr) (.cells #[.string (mkS q), .int .i64 n] 77))
      have hsz : (wr.alloc (.cells #[.string (mkS q), .int .i64 n] 77)).heap.size = wr.heap.size + 1 := Array.size_push _
      replace hO := Lib.hid hO
      replace hB2 := Lib.hid hB2
      replace hst := Lib.hid hst
      replace hrow := Lib.hid hrow
      replace hO2 := Lib.hid hO2
      replace hB4 := Lib.hid hB4
      replace hsz := Lib.hid hsz
      go_wp2_with (at_builtin; refine wp_append1 w1.heap.size rfl (.tmp 15) (.tmp 18) 36 9 rfl Tryz.underlying36 (.string ⟨#[]⟩) 1 16 info_string rfl (by decide) (.slice oA row.length oc) _ _ rfl [.string (mkS q)] (congrArg (fun n => Value.slice (some ⟨n, 0, none⟩) 1 1) hsz.out.symm) hO2.out rfl ?_ ?_ ?_ hB4.out.size ?_)
      · simp [Value.oneCell']
      · simp only [maxLen]; omega
      · omega
      · intro v1 w5 g1 hg hat
        have hB8 := hB4.out.grown hg hB4.out.size (own_base hO2.out)
        have hO5 : Strs w1.heap.size w5 v1 ((L.take (k + 1)).map (·.1)) := by
          rw [hst.out]
          exact Strs.snoc g1
        replace hO5 := Lib.hid hO5
        replace hB8 := Lib.hid hB8
        clear g1 hg hat
        go_wp2
        go_roundw
        case rel => exact ⟨k + 1, by go_num, by omega, hO5.out, hB8.out⟩
        case measure => simp [intOf]; omega
    · obtain rfl : k = L.length := by omega
      rw [List.take_length, ← hsn.out] at hO
      have hO2 := Strs.mono hB.out.size hO
      have hB4 := below_step hB.out hB2
      replace hO2 := Lib.hid hO2
      replace hB4 := Lib.hid hB4
      clear hO hB2
      go_wp2
      go_ret
      exact ⟨⟨_, rfl, hO2.out⟩, hB4.out⟩

/-- What find tells: the row, where, and why not. -/
def findE (T : Fs) (nm : Bytes) : List Sh.Shot × Nat × Int :=
  if mayS nm = true then match whereI T.shots nm with
    | some i => (T.shots, i, 0)
    | none => ([], 0, 10)
  else ([], 0, 9)

set_option maxHeartbeats 2000000 in
set_option maxRecDepth 100000 in
theorem find_nil (s : ByteArray) (w : World) : Calls Tryz.prog 40 #[.pointer none, .string s] w fun e w' => e = .returned (.tuple #[.slice none 0 0, .int .i64 0, .int .i64 1]) ∧ w = w' := by
  go_enter Tryz.func40, Tryz.ntmps40
  go_wp2
  go_ret3
  exact ⟨rfl, rfl⟩

set_option maxHeartbeats 4000000 in
set_option maxRecDepth 100000 in
theorem find_calls (tb : Nat) (A M : Nat → Nat) (T : Fs) (nm : Bytes) (w : World) (hR : Rep w tb A M T) (hM : MtAll T) (hn : nm.length ≤ 16777216) (hf : T.names.length ≤ 1000000) :
    Calls Tryz.prog 40 #[ptr tb, .string (mkS nm)] w fun e w' => (∃ v', e = .returned (.tuple #[v', .int .i64 (findE T nm).2.1, .int .i64 (findE T nm).2.2]) ∧ Shots w.heap.size w' v' (findE T nm).1) ∧ Below w.heap.size w w' := by
  have hmy : ∀ W, Calls Tryz.prog 32 #[.string (mkS nm)] W fun e w' => e = .returned (.bool (mayS nm)) ∧ Below W.heap.size W w' := fun W => by
    have h := snapmay_calls (mkS nm) W (by rw [mkS_size]; exact hn)
    rwa [bl_mkS] at h
  have h0 := fun W (hB : Below w.heap.size w W) => shots_calls tb A M T W (hR.below hB) hM hf
  have hlen : T.shots.length ≤ 1000000 := Nat.le_trans (shots_few hR.inv) hf
  have h1 := fun v W hv => where_calls v T.shots nm W hv hlen
  have hfe : findE T nm = if mayS nm = true then (match whereI T.shots nm with
    | some i => (T.shots, i, (0 : Int))
    | none => ([], 0, 10))
  else ([], 0, 9) := rfl
  generalize findE T nm = fe at *
  generalize mayS nm = my at *
  generalize hwi : whereI T.shots nm = wi at *
  generalize T.shots = L at *
  unfold ptr at h0 ⊢
  replace hR := Lib.hid hR
  replace h0 := Lib.hid h0
  replace hM := Lib.hid hM
  replace hmy := Lib.hid hmy
  replace h1 := Lib.hid h1
  replace hlen := Lib.hid hlen
  cases my
  · subst hfe
    go_enter Tryz.func40, Tryz.ntmps40
    go_wp2_with fail
    (with_reducible refine (hmy.out _).mono ?_)
    rintro e w1 ⟨rfl, hB1⟩
    have hfin : Shots w.heap.size w1 (.slice none 0 0) [] := World.ownsRow_nil _ _ _ _
    replace hB1 := Lib.hid hB1
    replace hfin := Lib.hid hfin
    go_wp2
    go_ret3
    exact ⟨⟨_, rfl, hfin.out⟩, hB1.out⟩
  · rw [if_pos rfl] at hfe
    replace hfe := Lib.hid hfe
    replace hwi := Lib.hid hwi
    go_enter Tryz.func40, Tryz.ntmps40
    go_wp2_with fail
    (with_reducible refine (hmy.out _).mono ?_)
    rintro e w1 ⟨rfl, hB1⟩
    have h0' := h0.out w1 hB1
    replace h0' := Lib.hid h0'
    replace hB1 := Lib.hid hB1
    go_wp2_with fail
    (with_reducible refine (h0'.out).mono ?_)
    rintro e w2 ⟨⟨v2, rfl, hS2⟩, hB2⟩
    have hRd := hS2.rd
    obtain ⟨A2, c2, rfl, _, hm2⟩ := hRd.shape
    have hB3 := below_step hB1.out hB2
    have h1' := h1.out _ _ hRd
    replace hB3 := Lib.hid hB3
    replace hS2 := Lib.hid hS2
    replace h1' := Lib.hid h1'
    replace hRd := Lib.hid hRd
    clear h1 h0'
    go_wp2_with fail
    (with_reducible refine (h1'.out).mono ?_)
    rintro e w3 ⟨rfl, hB4⟩
    have hB5 := below_step hB3.out hB4
    have hS3 := own_below hS2.out hB4
    cases wi with
    | none =>
      have hfe := hfe.out
      subst hfe
      have hfin : Shots w.heap.size w3 (.slice none 0 0) [] := World.ownsRow_nil _ _ _ _
      unfold optI
      replace hB5 := Lib.hid hB5
      replace hfin := Lib.hid hfin
      replace hS3 := Lib.hid hS3
      go_wp2
      go_ret3
      exact ⟨⟨_, rfl, hfin.out⟩, hB5.out⟩
    | some i =>
      have hfe := hfe.out
      subst hfe
      have hfin : Shots w.heap.size w3 (.slice A2 L.length c2) L := own_low hS3 hB1.out.size
      have hi : ¬ ((i : Int) < 0) := by omega
      unfold optI
      replace hB5 := Lib.hid hB5
      replace hfin := Lib.hid hfin
      replace hS3 := Lib.hid hS3
      go_wp2
      go_ret3
      exact ⟨⟨_, rfl, hfin.out⟩, hB5.out⟩
end Go.Proofs.YtocbjhhnginebaaGreat

namespace Go.Proofs.YtocbjhhnginebaaGreat
open Go.RowKit

set_option maxHeartbeats 1000000 in
theorem hasprefix_calls (s p : ByteArray) (w : World) :
    Calls Tryz.prog 126 #[.string s, .string p] w fun e w' => e = .returned (.bool (Lib.hasPrefix s.data.toList p.data.toList)) ∧ w' = w := by
  rw [← Lib.hasPrefix_of_take, ← Lib.size_eq, ← Lib.size_eq]
  go_enter Tryz.func126, Tryz.ntmps126
  go_wp2
  · rename_i h
    go_ret
    refine ⟨?_, rfl⟩
    show Ending.returned (Value.bool ((s.extract 0 p.size).toList == p.toList)) = _
    rw [Lib.extract_toList, Lib.toList_data]
    simp [h]
  · rename_i h
    go_ret
    refine ⟨?_, rfl⟩
    simp [h]

set_option maxHeartbeats 1000000 in
theorem trimlite_calls (s p : ByteArray) (w : World) :
    Calls Tryz.prog 85 #[.string s, .string p] w fun e w' => e = .returned (.string ⟨(Lib.trimPrefix s.data.toList p.data.toList).toArray⟩) ∧ w = w' := by
  have h0 := hasprefix_calls s p w
  replace h0 := Lib.hid h0
  by_cases h1 : p.size ≤ s.size
  · cases h2 : ((s.extract 0 p.size).toList == p.toList)
    · have hh : Lib.hasPrefix s.data.toList p.data.toList = false := by rw [← Lib.hasPrefix_raw, h2]; simp
      rw [hh] at h0
      rw [Lib.trimPrefix_miss s p (by rw [h2]; simp)]
      go_enter Tryz.func85, Tryz.ntmps85
      go_wp2_with fail
      (with_reducible refine (h0.out).mono ?_)
      rintro e w1 ⟨rfl, rfl⟩
      go_wp2
      go_ret
      exact ⟨rfl, rfl⟩
    · have hh : Lib.hasPrefix s.data.toList p.data.toList = true := by rw [← Lib.hasPrefix_raw, h2]; simp [h1]
      rw [hh] at h0
      rw [Lib.trimPrefix_hit s p h1 h2]
      go_enter Tryz.func85, Tryz.ntmps85
      go_wp2_with fail
      (with_reducible refine (h0.out).mono ?_)
      rintro e w1 ⟨rfl, rfl⟩
      go_wp2
      go_ret
      exact ⟨rfl, rfl⟩
  · have hh : Lib.hasPrefix s.data.toList p.data.toList = false := by rw [← Lib.hasPrefix_raw]; simp [h1]
    rw [hh] at h0
    rw [Lib.trimPrefix_miss s p (by simp [h1])]
    go_enter Tryz.func85, Tryz.ntmps85
    go_wp2_with fail
    (with_reducible refine (h0.out).mono ?_)
    rintro e w1 ⟨rfl, rfl⟩
    go_wp2
    go_ret
    exact ⟨rfl, rfl⟩

/-- A text without what stands ahead of it. -/
def trimP (s p : Bytes) : Bytes := if p.isPrefixOf s then s.drop p.length else s

set_option maxHeartbeats 1000000 in
theorem trim_calls (s p : Bytes) (w : World) :
    Calls Tryz.prog 41 #[.string (mkS s), .string (mkS p)] w fun e w' => e = .returned (.string (mkS (trimP s p))) ∧ w = w' := by
  have h0 := trimlite_calls (mkS s) (mkS p) w
  have e : (⟨(Lib.trimPrefix (mkS s).data.toList (mkS p).data.toList).toArray⟩ : ByteArray) = mkS (trimP s p) := by
    have e1 : ∀ l : Bytes, (mkS l).data.toList = l := fun l => bl_mkS l
    rw [e1, e1]
    rfl
  rw [e] at h0
  replace h0 := Lib.hid h0
  go_enter Tryz.func41, Tryz.ntmps41
  go_wp2_with fail
  (with_reducible refine (h0.out).mono ?_)
  rintro e w1 ⟨rfl, rfl⟩
  go_wp2
  go_ret
  exact ⟨rfl, rfl⟩
end Go.Proofs.YtocbjhhnginebaaGreat

namespace Go.Proofs.YtocbjhhnginebaaGreat
open Go.RowKit Go.MapKept Go.ChangeMaps

theorem keyable_int {P : Program} {k : TypeId} {b : IntKind} (hk : P.underlying k = some (.int b)) (w : World) (n : Int) {ks : List Value} (h : ∀ v ∈ ks, ∃ t, v = .int b t) : Keyable P k w (.int b n) ks := by
  refine ⟨fun em => run_checkKey hk (by trivial) em 9999, run_keyThatStays (d := .int b) (by trivial), fun es hes => ?_⟩
  rcases findNow_spec (d := .int b) (k := .int b n) (by trivial) es 0 (fun x hx => by obtain ⟨t, ht⟩ := h _ (hes x hx); rw [ht]; trivial) with ⟨h1, h2⟩ | ⟨j, e0, h1, h2, h3⟩
  · exact Or.inl ⟨run_findKey hk h1, h2⟩
  · exact Or.inr ⟨j, e0, by simpa using run_findKey hk h1, h2, h3⟩
theorem int_under : Tryz.prog.underlying 3 = some (.int .i64) := Tryz.underlying3
theorem under_laid : Tryz.prog.underlying 72 = some (.map 3 9) := by kernel_rfl
theorem under_used : Tryz.prog.underlying 73 = some (.map 3 4) := by kernel_rfl
theorem zero_text (w : World) : (zeroValue 9).run Tryz.prog w = .ok (.string ⟨#[]⟩) w := by kernel_rfl
theorem zero_flag (w : World) : (zeroValue 4).run Tryz.prog w = .ok (.bool false) w := by kernel_rfl

/-- Which name was laid for a number. -/
def laidE (L : List (Int × Bytes)) : List (Value × Value) := L.map fun y => (.int .i64 y.1, .string (mkS y.2))
def usedE (U : List Int) : List (Value × Value) := U.map fun i => (.int .i64 i, .bool true)
def laidAt (L : List (Int × Bytes)) (i : Int) : Option Bytes := (L.find? fun y => decide (y.1 = i)).map (·.2)
theorem laidAt_some {L : List (Int × Bytes)} {i : Int} {q : Bytes} (h : laidAt L i = some q) : (i, q) ∈ L := by
  unfold laidAt at h
  obtain ⟨y, hy, rfl⟩ := Option.map_eq_some_iff.1 h
  have h1 := List.mem_of_find?_eq_some hy
  have h2 : y.1 = i := by simpa using List.find?_some hy
  rw [← h2]
  exact h1
theorem laidAt_none {L : List (Int × Bytes)} {i : Int} (h : laidAt L i = none) : ∀ y ∈ L, y.1 ≠ i := by
  unfold laidAt at h
  rw [Option.map_eq_none_iff, List.find?_eq_none] at h
  intro y hy
  simpa using h y hy
theorem laid_key (W : World) (i : Int) (L : List (Int × Bytes)) : Keyable Tryz.prog 3 W (.int .i64 i) ((laidE L).map (·.1)) :=
  keyable_int int_under W i (fun v hv => by
    unfold laidE at hv
    rw [List.map_map] at hv
    obtain ⟨y, _, rfl⟩ := List.mem_map.1 hv
    exact ⟨y.1, rfl⟩)
theorem used_key (W : World) (i : Int) (U : List Int) : Keyable Tryz.prog 3 W (.int .i64 i) ((usedE U).map (·.1)) :=
  keyable_int int_under W i (fun v hv => by
    unfold usedE at hv
    rw [List.map_map] at hv
    obtain ⟨y, _, rfl⟩ := List.mem_map.1 hv
    exact ⟨y, rfl⟩)
theorem laid_look {W : World} {b : Nat} {L : List (Int × Bytes)} (h : MapIs W b (laidE L)) (i : Int) :
    (Instr.lookup 72 (.map (some b)) (.int .i64 i) true).run Tryz.prog W = .ok (.tuple #[.string (mkS ((laidAt L i).getD [])), .bool (laidAt L i).isSome]) W := by
  cases he : laidAt L i with
  | none =>
    exact h.look_miss under_laid (laid_key W i L) (fun q hq e => by
      obtain ⟨x, hx, rfl⟩ := List.mem_map.1 hq
      simp only [Value.int.injEq, true_and] at e
      exact laidAt_none he x hx e) (zero_text W) true
  | some t =>
    exact h.look_hit under_laid (laid_key W i L) (v := .string (mkS t)) (List.mem_map.2 ⟨(i, t), laidAt_some he, rfl⟩) true
theorem laid_new {W : World} {b : Nat} {L : List (Int × Bytes)} (h : MapIs W b (laidE L)) (i : Int) (q : Bytes) (hi : laidAt L i = none) :
    ∃ W', (Instr.mapUpdate 72 (.map (some b)) (.int .i64 i) (.string (mkS q))).run Tryz.prog W = .ok () W' ∧ MapIs W' b (laidE (L ++ [(i, q)])) ∧ W.grownBy W' (some b) := by
  obtain ⟨W', r1, r2, r3⟩ := h.store_new under_laid (v := .string (mkS q)) (laid_key W i L) (fun p hp e => by
    obtain ⟨y, hy, rfl⟩ := List.mem_map.1 hp
    simp only [Value.int.injEq, true_and] at e
    exact laidAt_none hi y hy e)
  refine ⟨W', r1, r2.perm ?_, r3.grown⟩
  unfold laidE
  rw [List.map_append]
  exact List.perm_append_singleton _ _
theorem used_look {W : World} {b : Nat} {U : List Int} (h : MapIs W b (usedE U)) (i : Int) :
    (Instr.lookup 73 (.map (some b)) (.int .i64 i) false).run Tryz.prog W = .ok (.bool (decide (i ∈ U))) W := by
  by_cases hd : i ∈ U
  · have := h.look_hit under_used (used_key W i U) (v := .bool true) (List.mem_map.2 ⟨i, hd, rfl⟩) false
    rw [decide_eq_true hd]
    exact this
  · have := h.look_miss under_used (used_key W i U) (fun q hq e => by
      obtain ⟨j, hj, rfl⟩ := List.mem_map.1 hq
      simp only [Value.int.injEq, true_and] at e
      rw [e] at hj
      exact hd hj) (zero_flag W) false
    rw [decide_eq_false hd]
    exact this
theorem used_new {W : World} {b : Nat} {U : List Int} (h : MapIs W b (usedE U)) (i : Int) (hi : i ∉ U) :
    ∃ W', (Instr.mapUpdate 73 (.map (some b)) (.int .i64 i) (.bool true)).run Tryz.prog W = .ok () W' ∧ MapIs W' b (usedE (U ++ [i])) ∧ W.grownBy W' (some b) := by
  obtain ⟨W', r1, r2, r3⟩ := h.store_new under_used (v := .bool true) (used_key W i U) (fun p hp e => by
    obtain ⟨y, hy, rfl⟩ := List.mem_map.1 hp
    simp only [Value.int.injEq, true_and] at e
    rw [e] at hy
    exact hi hy)
  refine ⟨W', r1, r2.perm ?_, r3.grown⟩
  unfold usedE
  rw [List.map_append]
  exact List.perm_append_singleton _ _

/-! What a taker does: the plain law. V the tree that it lays into, S the tree that it reads, a what stands ahead. -/
structure Tak where
  V : Fs
  L : List (Int × Bytes)
  U : List Int
/-- The name that a file may share, and what has been shared then. -/
def sharedE (V : Fs) (a : Bytes) (U : List Int) (p : Bytes) (s : St) (b : Bytes) : Option Bytes × List Int :=
  if a = [] then (none, U) else
  if (V.stat (a ++ p)).2 = 0 ∧ (V.stat (a ++ p)).1.kind = 1 ∧ (V.stat (a ++ p)).1.mt = s.mt ∧ (V.stat (a ++ p)).1.ino ∉ U ∧ (V.read (a ++ p)).2 = 0 ∧ b = (V.read (a ++ p)).1 then (some (a ++ p), U ++ [(V.stat (a ++ p)).1.ino]) else (none, U)
def fileE (S : Fs) (a : Bytes) (K : Tak) (p q : Bytes) (s : St) : Tak :=
  match laidAt K.L s.ino with
  | some o => ⟨(K.V.link o q).1, K.L, K.U⟩
  | none => match sharedE K.V a K.U p s (S.read p).1 with
    | (some o, U) => ⟨(K.V.link o q).1, K.L ++ [(s.ino, q)], U⟩
    | (none, U) => ⟨(K.V.write q (S.read p).1 s.mt).1, K.L ++ [(s.ino, q)], U⟩
def thingE (S : Fs) (a : Bytes) (K : Tak) (p q : Bytes) : Tak :=
  if (S.stat p).2 ≠ 0 then K
  else if (S.stat p).1.kind = 2 then ⟨(K.V.mkdir q (S.stat p).1.mt).1, K.L, K.U⟩
  else if (S.stat p).1.kind = 3 then ⟨(K.V.symlink q (S.stat p).1.target (S.stat p).1.mt).1, K.L, K.U⟩
  else fileE S a K p q (S.stat p).1

/-- The taker in block xb: the tree that it lays into (tb), the tree that it reads (sb), apart; the maps beside them. -/
structure TakM (w : World) (xb tb : Nat) (A M : Nat → Nat) (sb : Nat) (B N : Nat → Nat) (S : Fs) (a : Bytes) (lb : Nat) (uv : Option Nat) (K : Tak) : Prop where
  v : Rep w tb A M K.V
  s : Rep w sb B N S
  apart : ∀ b, Own sb B N S b → ¬ Own tb A M K.V b
  x : w.heap[xb]? = some (.cells #[ptr tb, ptr sb, .string (mkS a), .map (some lb), .map uv] 75 (0, 0))
  l : MapIs w lb (laidE K.L)
  lv : ¬ Own tb A M K.V lb
  ls : ¬ Own sb B N S lb
  u : ∀ ub, uv = some ub → MapIs w ub (usedE K.U) ∧ ub ≠ lb ∧ ¬ Own tb A M K.V ub ∧ ¬ Own sb B N S ub
  n : uv = none → a = []
/-- A taker's step: nothing has turned but the tree that it lays into, and the maps. -/
def TakS (w w' : World) (xb tb : Nat) (A M : Nat → Nat) (sb : Nat) (B N : Nat → Nat) (S : Fs) (a : Bytes) (lb : Nat) (uv : Option Nat) (K K' : Tak) : Prop :=
  ∃ A' M', TakM w' xb tb A' M' sb B N S a lb uv K' ∧ Turn w w' (fun b => Own tb A M K.V b ∨ b = lb ∨ uv = some b) ∧ ∀ b, Own tb A' M' K'.V b → Own tb A M K.V b ∨ w.heap.size ≤ b
end Go.Proofs.YtocbjhhnginebaaGreat

namespace Go.Proofs.YtocbjhhnginebaaGreat
open Go.RowKit

theorem MapIs.not_cells {w : World} {b : Nat} {l : List (Value × Value)} (h : MapIs w b l) {cs : Array Value} {t : TypeId} {f : Nat × Nat} : w.heap[b]? ≠ some (.cells cs t f) := by
  obtain ⟨es, c, e, _⟩ := h
  rw [e]
  intro h
  cases h

section
variable {w w1 w' : World} {xb tb sb lb : Nat} {A M B N : Nat → Nat} {S : Fs} {a : Bytes} {uv : Option Nat} {K K1 K2 : Tak}

theorem TakM.turn (h : TakM w xb tb A M sb B N S a lb uv K) {L' : List (Int × Bytes)} {U' : List Int} (ht : Turn w w' (fun b => b = lb ∨ uv = some b)) (hl : MapIs w' lb (laidE L')) (hu : ∀ ub, uv = some ub → MapIs w' ub (usedE U')) :
    TakM w' xb tb A M sb B N S a lb uv ⟨K.V, L', U'⟩ := by
  have hcell : ∀ (g : Nat) cs t f, w.heap[g]? = some (.cells cs t f) → w'.heap[g]? = w.heap[g]? := fun g cs t f hg => ht.block g (Array.getElem?_eq_some_iff.1 hg).1 (by
    rintro (rfl | e)
    · exact h.l.not_cells hg
    · exact (h.u _ e).1.not_cells hg)
  refine ⟨h.v.kept (fun b hb => ht.block b (h.v.lt hb) ?_) (fun g ⟨cs, hg⟩ => hcell g _ _ _ hg), h.s.kept (fun b hb => ht.block b (h.s.lt hb) ?_) (fun g ⟨cs, hg⟩ => hcell g _ _ _ hg), h.apart, (hcell xb _ _ _ h.x).trans h.x, hl, h.lv, h.ls, fun ub e => ⟨hu ub e, (h.u ub e).2⟩, h.n⟩
  · rintro (rfl | e)
    · exact h.lv hb
    · exact (h.u _ e).2.2.1 hb
  · rintro (rfl | e)
    · exact h.ls hb
    · exact (h.u _ e).2.2.2 hb
theorem TakM.below (h : TakM w xb tb A M sb B N S a lb uv K) (hb : Below w.heap.size w w') : TakM w' xb tb A M sb B N S a lb uv K :=
  h.turn (Turn.of_below hb _) (h.l.of_block (hb.block lb h.l.lt)) (fun ub e => (h.u ub e).1.of_block (hb.block ub (h.u ub e).1.lt))
theorem TakS.same (h : TakM w xb tb A M sb B N S a lb uv K) (hb : Below w.heap.size w w') : TakS w w' xb tb A M sb B N S a lb uv K K := ⟨A, M, h.below hb, Turn.of_below hb _, fun _ h => Or.inl h⟩
theorem TakS.after (hb : Below w.heap.size w w1) (h : TakS w1 w' xb tb A M sb B N S a lb uv K K2) : TakS w w' xb tb A M sb B N S a lb uv K K2 := by
  obtain ⟨A', M', h1, h2, h3⟩ := h
  exact ⟨A', M', h1, (Turn.of_below hb _).trans (h2.mono fun i _ hi => Or.inl hi), fun b hb2 => (h3 b hb2).imp id (fun h => Nat.le_trans hb.size h)⟩
theorem TakS.then (h : TakS w w1 xb tb A M sb B N S a lb uv K K2) (hb : Below w1.heap.size w1 w') : TakS w w' xb tb A M sb B N S a lb uv K K2 := by
  obtain ⟨A', M', h1, h2, h3⟩ := h
  exact ⟨A', M', h1.below hb, h2.trans (Turn.of_below hb _), h3⟩
/-- Two steps, behind one another. -/
theorem TakS.trans (h : TakS w w1 xb tb A M sb B N S a lb uv K K1) (k : ∀ A' M', TakM w1 xb tb A' M' sb B N S a lb uv K1 → TakS w1 w' xb tb A' M' sb B N S a lb uv K1 K2) : TakS w w' xb tb A M sb B N S a lb uv K K2 := by
  obtain ⟨A1, M1, h1, h2, h3⟩ := h
  obtain ⟨A2, M2, k1, k2, k3⟩ := k A1 M1 h1
  refine ⟨A2, M2, k1, h2.trans (k2.mono fun i _ hi => ?_), fun b hb => ?_⟩
  · rcases hi with hi | hi | hi
    · exact (h3 i hi).imp Or.inl id
    · exact Or.inl (Or.inr (Or.inl hi))
    · exact Or.inl (Or.inr (Or.inr hi))
  · rcases k3 b hb with h | h
    · exact h3 b h
    · exact Or.inr (Nat.le_trans h2.size h)
/-- A call on the tree that it lays into. -/
theorem TakS.tree (h : TakM w xb tb A M sb B N S a lb uv K) {V' : Fs} (hs : Stp w w' tb A M K.V V') : TakS w w' xb tb A M sb B N S a lb uv K ⟨V', K.L, K.U⟩ := by
  obtain ⟨hU, A2, M2, hT2, hd2, ho2⟩ := Stp.two h.s h.v h.apart hs
  obtain ⟨A3, M3, q1, q2, q3⟩ := hs
  have hx := q2.block xb (Array.getElem?_eq_some_iff.1 h.x).1 (h.v.not_own h.x (by decide) (by decide))
  have hnew : ∀ b, b < w.heap.size → ¬ Own tb A M K.V b → ¬ Own tb A2 M2 V' b := fun b hlt hn ho => by
    rcases ho2 b ho with h1 | h1
    · exact hn h1
    · omega
  refine ⟨A2, M2, ⟨hT2, hU, hd2, hx.trans h.x, h.l.of_block (q2.block lb h.l.lt h.lv), hnew lb h.l.lt h.lv, h.ls, fun ub e => ?_, h.n⟩, q2.mono fun i _ hi => Or.inl hi, ho2⟩
  obtain ⟨u1, u2, u3, u4⟩ := h.u ub e
  exact ⟨u1.of_block (q2.block ub u1.lt u3), u2, hnew ub u1.lt u3, u4⟩
/-- A name is written down as laid. -/
theorem TakS.laid (h : TakM w xb tb A M sb B N S a lb uv K) {L' : List (Int × Bytes)} (hg : w.grownBy w' (some lb)) (hl : MapIs w' lb (laidE L')) : TakM w' xb tb A M sb B N S a lb uv ⟨K.V, L', K.U⟩ ∧ TakS w w' xb tb A M sb B N S a lb uv K ⟨K.V, L', K.U⟩ := by
  have ht : Turn w w' (fun b => b = lb ∨ uv = some b) := Turn.of_grown hg fun j e => Or.inl (Option.some.inj e).symm
  have hm := h.turn (L' := L') (U' := K.U) ht hl (fun ub e => (h.u ub e).1.of_block (hg.block ub (h.u ub e).1.lt (fun h2 => (h.u ub e).2.1 (Option.some.inj h2))))
  exact ⟨hm, A, M, hm, ht.mono fun i _ hi => Or.inr hi, fun b hb => Or.inl hb⟩
/-- A number is written down as used. -/
theorem TakS.used (h : TakM w xb tb A M sb B N S a lb uv K) {U' : List Int} {ub : Nat} (hub : uv = some ub) (hg : w.grownBy w' (some ub)) (hu : MapIs w' ub (usedE U')) : TakM w' xb tb A M sb B N S a lb uv ⟨K.V, K.L, U'⟩ ∧ TakS w w' xb tb A M sb B N S a lb uv K ⟨K.V, K.L, U'⟩ := by
  have ht : Turn w w' (fun b => b = lb ∨ uv = some b) := Turn.of_grown hg fun j e => Or.inr (by rw [hub]; exact e)
  have hm := h.turn (L' := K.L) (U' := U') ht (h.l.of_block (hg.block lb h.l.lt (fun e => (h.u ub hub).2.1 (Option.some.inj e).symm))) (fun b e => by
    rw [hub] at e
    cases e
    exact hu)
  exact ⟨hm, A, M, hm, ht.mono fun i _ hi => Or.inr hi, fun b hb => Or.inl hb⟩
end
end Go.Proofs.YtocbjhhnginebaaGreat

namespace Go.Proofs.YtocbjhhnginebaaGreat
open Go.RowKit

theorem TakS.from {w w1 w' : World} {xb tb sb lb : Nat} {A M A1 M1 B N : Nat → Nat} {S : Fs} {a : Bytes} {uv : Option Nat} {K K1 K2 : Tak} (h2 : Turn w w1 (fun b => Own tb A M K.V b ∨ b = lb ∨ uv = some b)) (h3 : ∀ b, Own tb A1 M1 K1.V b → Own tb A M K.V b ∨ w.heap.size ≤ b)
    (k : TakS w1 w' xb tb A1 M1 sb B N S a lb uv K1 K2) : TakS w w' xb tb A M sb B N S a lb uv K K2 := by
  obtain ⟨A2, M2, k1, k2, k3⟩ := k
  refine ⟨A2, M2, k1, h2.trans (k2.mono fun i _ hi => ?_), fun b hb => ?_⟩
  · rcases hi with hi | hi | hi
    · exact (h3 i hi).imp Or.inl id
    · exact Or.inl (Or.inr (Or.inl hi))
    · exact Or.inl (Or.inr (Or.inr hi))
  · rcases k3 b hb with h | h
    · exact h3 b h
    · exact Or.inr (Nat.le_trans h2.size h)

theorem stat_bl (tb : Nat) (A M : Nat → Nat) (T : Fs) (p : Bytes) (w : World) (hR : Rep w tb A M T) (hp : p.length ≤ 16777216) :
    Calls Tryz.prog 16 #[ptr tb, .string (mkS p)] w fun e w' => e = .returned (.tuple #[statV (T.stat p).1, .int .i64 (T.stat p).2]) ∧ Below w.heap.size w w' := by
  have h := stat_calls tb A M T (mkS p) w hR (by rw [mkS_size]; exact hp)
  rwa [bl_mkS] at h
theorem read_bl (tb : Nat) (A M : Nat → Nat) (T : Fs) (p : Bytes) (w : World) (hR : Rep w tb A M T) (hp : p.length ≤ 16777216) :
    Calls Tryz.prog 110 #[ptr tb, .string (mkS p)] w fun e w' => (∃ v, e = .returned (.tuple #[v, .int .i64 (T.read p).2]) ∧ Byts w.heap.size w' v (T.read p).1) ∧ Below w.heap.size w w' := by
  have h := read_calls tb A M T (mkS p) w hR (by rw [mkS_size]; exact hp)
  rwa [bl_mkS] at h
theorem mkS_add (a b : Bytes) : mkS a ++ mkS b = mkS (a ++ b) := by
  unfold mkS
  apply ByteArray.ext
  simp [ByteArray.data_append]

theorem heap_set10 {n : Nat} {W : World} {t : TypeId} {z0 z1 z2 z3 z4 z5 z6 z7 z8 z9 : Value} (h0 : W.heap[n]? = some (.cells #[z0, z1, z2, z3, z4, z5, z6, z7, z8, z9] t (0, 0))) (v0 v1 v2 v3 v4 v5 v6 v7 v8 v9 : Value) : ((((((((((W.setCell ⟨n, 0, none⟩ v0).setCell ⟨n, 1, none⟩ v1).setCell ⟨n, 2, none⟩ v2).setCell ⟨n, 3, none⟩ v3).setCell ⟨n, 4, none⟩ v4).setCell ⟨n, 5, none⟩ v5).setCell ⟨n, 6, none⟩ v6).setCell ⟨n, 7, none⟩ v7).setCell ⟨n, 8, none⟩ v8).setCell ⟨n, 9, none⟩ v9).heap[n]? = some (.cells #[v0, v1, v2, v3, v4, v5, v6, v7, v8, v9] t (0, 0)) := by
  have h1 : (W.setCell ⟨n, 0, none⟩ v0).heap[n]? = some (.cells #[v0, z1, z2, z3, z4, z5, z6, z7, z8, z9] t (0, 0)) := Sh.blk_set h0 0 v0
  have h2 : ((W.setCell ⟨n, 0, none⟩ v0).setCell ⟨n, 1, none⟩ v1).heap[n]? = some (.cells #[v0, v1, z2, z3, z4, z5, z6, z7, z8, z9] t (0, 0)) := Sh.blk_set h1 1 v1
  have h3 : (((W.setCell ⟨n, 0, none⟩ v0).setCell ⟨n, 1, none⟩ v1).setCell ⟨n, 2, none⟩ v2).heap[n]? = some (.cells #[v0, v1, v2, z3, z4, z5, z6, z7, z8, z9] t (0, 0)) := Sh.blk_set h2 2 v2
  have h4 : ((((W.setCell ⟨n, 0, none⟩ v0).setCell ⟨n, 1, none⟩ v1).setCell ⟨n, 2, none⟩ v2).setCell ⟨n, 3, none⟩ v3).heap[n]? = some (.cells #[v0, v1, v2, v3, z4, z5, z6, z7, z8, z9] t (0, 0)) := Sh.blk_set h3 3 v3
  have h5 : (((((W.setCell ⟨n, 0, none⟩ v0).setCell ⟨n, 1, none⟩ v1).setCell ⟨n, 2, none⟩ v2).setCell ⟨n, 3, none⟩ v3).setCell ⟨n, 4, none⟩ v4).heap[n]? = some (.cells #[v0, v1, v2, v3, v4, z5, z6, z7, z8, z9] t (0, 0)) := Sh.blk_set h4 4 v4
  have h6 : ((((((W.setCell ⟨n, 0, none⟩ v0).setCell ⟨n, 1, none⟩ v1).setCell ⟨n, 2, none⟩ v2).setCell ⟨n, 3, none⟩ v3).setCell ⟨n, 4, none⟩ v4).setCell ⟨n, 5, none⟩ v5).heap[n]? = some (.cells #[v0, v1, v2, v3, v4, v5, z6, z7, z8, z9] t (0, 0)) := Sh.blk_set h5 5 v5
  have h7 : (((((((W.setCell ⟨n, 0, none⟩ v0).setCell ⟨n, 1, none⟩ v1).setCell ⟨n, 2, none⟩ v2).setCell ⟨n, 3, none⟩ v3).setCell ⟨n, 4, none⟩ v4).setCell ⟨n, 5, none⟩ v5).setCell ⟨n, 6, none⟩ v6).heap[n]? = some (.cells #[v0, v1, v2, v3, v4, v5, v6, z7, z8, z9] t (0, 0)) := Sh.blk_set h6 6 v6
  have h8 : ((((((((W.setCell ⟨n, 0, none⟩ v0).setCell ⟨n, 1, none⟩ v1).setCell ⟨n, 2, none⟩ v2).setCell ⟨n, 3, none⟩ v3).setCell ⟨n, 4, none⟩ v4).setCell ⟨n, 5, none⟩ v5).setCell ⟨n, 6, none⟩ v6).setCell ⟨n, 7, none⟩ v7).heap[n]? = some (.cells #[v0, v1, v2, v3, v4, v5, v6, v7, z8, z9] t (0, 0)) := Sh.blk_set h7 7 v7
  have h9 : (((((((((W.setCell ⟨n, 0, none⟩ v0).setCell ⟨n, 1, none⟩ v1).setCell ⟨n, 2, none⟩ v2).setCell ⟨n, 3, none⟩ v3).setCell ⟨n, 4, none⟩ v4).setCell ⟨n, 5, none⟩ v5).setCell ⟨n, 6, none⟩ v6).setCell ⟨n, 7, none⟩ v7).setCell ⟨n, 8, none⟩ v8).heap[n]? = some (.cells #[v0, v1, v2, v3, v4, v5, v6, v7, v8, z9] t (0, 0)) := Sh.blk_set h8 8 v8
  have h10 : ((((((((((W.setCell ⟨n, 0, none⟩ v0).setCell ⟨n, 1, none⟩ v1).setCell ⟨n, 2, none⟩ v2).setCell ⟨n, 3, none⟩ v3).setCell ⟨n, 4, none⟩ v4).setCell ⟨n, 5, none⟩ v5).setCell ⟨n, 6, none⟩ v6).setCell ⟨n, 7, none⟩ v7).setCell ⟨n, 8, none⟩ v8).setCell ⟨n, 9, none⟩ v9).heap[n]? = some (.cells #[v0, v1, v2, v3, v4, v5, v6, v7, v8, v9] t (0, 0)) := Sh.blk_set h9 9 v9
  exact h10
theorem below_set10 {b n : Nat} {w W : World} (h : Below b w W) (hn : b ≤ n) (v0 v1 v2 v3 v4 v5 v6 v7 v8 v9 : Value) : Below b w ((((((((((W.setCell ⟨n, 0, none⟩ v0).setCell ⟨n, 1, none⟩ v1).setCell ⟨n, 2, none⟩ v2).setCell ⟨n, 3, none⟩ v3).setCell ⟨n, 4, none⟩ v4).setCell ⟨n, 5, none⟩ v5).setCell ⟨n, 6, none⟩ v6).setCell ⟨n, 7, none⟩ v7).setCell ⟨n, 8, none⟩ v8).setCell ⟨n, 9, none⟩ v9) := by
  iterate 10 refine Below.setCell ?_ hn _
  exact h

set_option maxHeartbeats 4000000 in
set_option maxRecDepth 100000 in
theorem shared_calls (w : World) (xb tb : Nat) (A M : Nat → Nat) (sb : Nat) (B N : Nat → Nat) (S : Fs) (a : Bytes) (lb : Nat) (uv : Option Nat) (K : Tak) (hK : TakM w xb tb A M sb B N S a lb uv K)
    (p : Bytes) (s : St) (bv : Value) (b : Bytes) (hb : RdB w bv b) (hp : (a ++ p).length ≤ 16777216) :
    Calls Tryz.prog 123 #[ptr xb, .string (mkS p), statV s, bv] w fun e w' => e = .returned (.tuple #[.string (mkS ((sharedE K.V a K.U p s b).1.getD [])), .bool (sharedE K.V a K.U p s b).1.isSome]) ∧ TakS w w' xb tb A M sb B N S a lb uv K ⟨K.V, K.L, (sharedE K.V a K.U p s b).2⟩ := by
  have hse : sharedE K.V a K.U p s b = if a = [] then (none, K.U) else
    if (K.V.stat (a ++ p)).2 = 0 ∧ (K.V.stat (a ++ p)).1.kind = 1 ∧ (K.V.stat (a ++ p)).1.mt = s.mt ∧ (K.V.stat (a ++ p)).1.ino ∉ K.U ∧ (K.V.read (a ++ p)).2 = 0 ∧ b = (K.V.read (a ++ p)).1 then (some (a ++ p), K.U ++ [(K.V.stat (a ++ p)).1.ino]) else (none, K.U) := rfl
  have h1 := fun W (hB : Below w.heap.size w W) => stat_bl tb A M K.V (a ++ p) W (hK.v.below hB) hp
  have h2 := fun W (hB : Below w.heap.size w W) => read_bl tb A M K.V (a ++ p) W (hK.v.below hB) hp
  have hcell : ∀ W, Below w.heap.size w W → W.cell? ⟨xb, 0, none⟩ = some (.pointer (some ⟨tb, 0, none⟩)) ∧ W.cell? ⟨xb, 2, none⟩ = some (.string (mkS a)) ∧ W.cell? ⟨xb, 4, none⟩ = some (.map uv) := fun W hB => by
    have h := (hB.block xb (Array.getElem?_eq_some_iff.1 hK.x).1).trans hK.x
    exact ⟨cell_of h rfl, cell_of h rfl, cell_of h rfl⟩
  have hadd := mkS_add a p
  generalize sharedE K.V a K.U p s b = se at *
  generalize K.V.stat (a ++ p) = st at *
  generalize K.V.read (a ++ p) = rd at *
  obtain ⟨s1, s2, s3, s4, mt, s5⟩ := s
  obtain ⟨m1, m2, m3, m4, m5⟩ := mt
  unfold statV statCells ptr at *
  obtain ⟨c0, c2, c4⟩ := hcell w (Below.refl _ _)
  by_cases ha : a = []
  · rw [if_pos ha] at hse
    subst hse
    have hs := TakS.same hK (below_alloc (Below.refl _ w) (.cells #[.int .i64 s1, .int .i64 s2, .int .i64 s3, .int .i64 s4, .int .i64 m1, .int .i64 m2, .int .i64 m3, .int .i64 m4, .int .i64 m5, .string (mkS s5)] 42))
    have t1 : (mkS a).toList.isEmpty = true := by rw [str_nil, bl_mkS, ha]; rfl
    obtain ⟨d0, d2, d4⟩ := hcell _ (below_alloc (Below.refl _ w) (.cells #[.int .i64 s1, .int .i64 s2, .int .i64 s3, .int .i64 s4, .int .i64 m1, .int .i64 m2, .int .i64 m3, .int .i64 m4, .int .i64 m5, .string (mkS s5)] 42))
    replace hK := Lib.hid hK
    replace hb := Lib.hid hb
    replace h1 := Lib.hid h1
    replace h2 := Lib.hid h2
    replace hcell := Lib.hid hcell
    replace ha := Lib.hid ha
    replace hs := Lib.hid hs
    replace hadd := Lib.hid hadd
    go_enter Tryz.func123, Tryz.ntmps123
    go_wp2
    go_ret2
    exact ⟨rfl, hs.out⟩
  · rw [if_neg ha] at hse
    obtain ⟨ub, rfl⟩ : ∃ ub, uv = some ub := by
      cases uv with
      | none => exact absurd (hK.n rfl) ha
      | some ub => exact ⟨ub, rfl⟩
    have t1 : (mkS a).toList.isEmpty = false := by rw [str_nil, bl_mkS]; simpa using ha
    obtain ⟨st, ste⟩ := st
    obtain ⟨q1, q2, q3, q4, qmt, q5⟩ := st
    obtain ⟨n1, n2, n3, n4, n5⟩ := qmt
    have hBx := below_alloc (Below.refl _ w) (.cells #[.int .i64 s1, .int .i64 s2, .int .i64 s3, .int .i64 s4, .int .i64 m1, .int .i64 m2, .int .i64 m3, .int .i64 m4, .int .i64 m5, .string (mkS s5)] 42)
    have hbx := heap_alloc_new w (.cells #[.int .i64 s1, .int .i64 s2, .int .i64 s3, .int .i64 s4, .int .i64 m1, .int .i64 m2, .int .i64 m3, .int .i64 m4, .int .i64 m5, .string (mkS s5)] 42)
    dsimp only at *
    obtain ⟨d0, d2, d4⟩ := hcell _ hBx
    replace hK := Lib.hid hK
    replace hb := Lib.hid hb
    replace h1 := Lib.hid h1
    replace h2 := Lib.hid h2
    replace hcell := Lib.hid hcell
    replace ha := Lib.hid ha
    replace hadd := Lib.hid hadd
    replace hse := Lib.hid hse
    replace hBx := Lib.hid hBx
    replace hbx := Lib.hid hbx
    go_enter Tryz.func123, Tryz.ntmps123
    go_upto_region 3 with fail
    generalize (w.alloc (.cells #[.int .i64 s1, .int .i64 s2, .int .i64 s3, .int .i64 s4, .int .i64 m1, .int .i64 m2, .int .i64 m3, .int .i64 m4, .int .i64 m5, .string (mkS s5)] 42)) = w1 at *
    clear c0 c2 c4
    go_cut [10, 11] (fun x y W => ∃ g, x = .pointer (some ⟨g, 0, none⟩) ∧ y = .int .i64 ste ∧ W.heap[g]? = some (.cells #[.int .i64 q1, .int .i64 q2, .int .i64 q3, .int .i64 q4, .int .i64 n1, .int .i64 n2, .int .i64 n3, .int .i64 n4, .int .i64 n5, .string (mkS q5)] 42 (0, 0)) ∧ Below w1.heap.size w1 W)
    case first =>
      have hBd1 : Below w1.heap.size w1 w1.drew := below_drewN (Below.refl w1.heap.size w1) 1
      have hBe : ∀ o, Below w1.heap.size w1 (w1.alloc o).drew := fun o => below_drewN (below_alloc (Below.refl _ _) o) 1
      have hzero : ∀ cs W, Below (w1.alloc (.cells cs 42)).drew.heap.size (w1.alloc (.cells cs 42)).drew W → W.heap[w1.heap.size]? = some (.cells cs 42 (0, 0)) := fun cs W hB => (hB.block w1.heap.size (Array.getElem?_eq_some_iff.1 (heap_alloc_new w1 (.cells cs 42))).1).trans (heap_alloc_new w1 _)
      replace hBd1 := Lib.hid hBd1
      replace hBe := Lib.hid hBe
      replace hzero := Lib.hid hzero
      have hSS : ∀ W, Below w1.heap.size w1 W → W.cell? ⟨xb, 0, none⟩ = some (.pointer (some ⟨tb, 0, none⟩)) ∧ W.cell? ⟨xb, 2, none⟩ = some (.string (mkS a)) := fun W hW => ⟨(hW.cell (cell_lt d0)).trans d0, (hW.cell (cell_lt d2)).trans d2⟩
      have hC := fun W hW => h1.out W (below_step hBx.out hW)
      have hz1 := mkS_size a
      have hz2 := mkS_size p
      have hz3 : ((mkS a).size : Int) + ((mkS p).size : Int) ≤ 9223372036854775807 := by rw [hz1, hz2]; rw [List.length_append] at hp; omega
      have hz4 : (mkS a).size + (mkS p).size ≤ 9223372036854775807 := by omega
      have hz5 : ¬ (9223372036854775807 < (mkS a).size + (mkS p).size) := by omega
      clear hz1 hz2
      replace hSS := Lib.hid hSS
      replace hC := Lib.hid hC
      clear d0 d2 d4 h1
      go_region_held3 (fun W => W.cell? ⟨xb, 0, none⟩ = some (.pointer (some ⟨tb, 0, none⟩)) ∧ W.cell? ⟨xb, 2, none⟩ = some (.string (mkS a))) (first | with_reducible exact hSS.out _ hBd1.out | with_reducible exact hSS.out _ (hBe.out _) | with_reducible exact hSS.out _ hBa.out | with_reducible exact hSS.out _ (below_alloc hBa.out _) | with_reducible exact hSS.out _ (below_set10 hBa.out (Nat.le_refl _) _ _ _ _ _ _ _ _ _ _)) (first
        | (go_at_call 16; rw [hadd.out]; first
            | ((with_reducible refine (hC.out _ hBd1.out).mono ?_); rintro e wa ⟨rfl, hBa0⟩; have hBa := below_step hBd1.out hBa0; replace hBa := Lib.hid hBa; clear hBa0)
            | ((with_reducible refine (hC.out _ (hBe.out _)).mono ?_); rintro e wa ⟨rfl, hBa0⟩; have hBa := below_step (hBe.out _) hBa0; have hz := hzero.out _ _ hBa0; have z0 := cell_of (j := 0) (v := .int .i64 0) hz rfl; have z1 := cell_of (j := 1) (v := .int .i64 0) hz rfl; have z2 := cell_of (j := 2) (v := .int .i64 0) hz rfl; have z3 := cell_of (j := 3) (v := .int .i64 0) hz rfl; have z4 := cell_of (j := 4) (v := .int .i64 0) hz rfl; have z5 := cell_of (j := 5) (v := .int .i64 0) hz rfl; have z6 := cell_of (j := 6) (v := .int .i64 0) hz rfl; have z7 := cell_of (j := 7) (v := .int .i64 0) hz rfl; have z8 := cell_of (j := 8) (v := .int .i64 0) hz rfl; have z9 := cell_of (j := 9) (v := .string ⟨#[]⟩) hz rfl; have zf : ∀ i, wa.frozen? ⟨w1.heap.size, i, none⟩ = false := fun i => (by simp [World.frozen?, hz]); replace hz := Lib.hid hz; replace hBa := Lib.hid hBa; clear hBa0)))
      all_goals try (rename_i hHeld; clear hHeld)
      all_goals (go_wp2; go_meet)
      all_goals first
        | with_reducible exact ⟨_, rfl, rfl, heap_alloc_new wa _, below_alloc hBa.out _⟩
        | with_reducible exact ⟨_, rfl, rfl, heap_set10 hz.out _ _ _ _ _ _ _ _ _ _, below_set10 hBa.out (Nat.le_refl _) _ _ _ _ _ _ _ _ _ _⟩
    case rest =>
      obtain ⟨g, rfl, rfl, hg, hB1⟩ := hcut
      have hBw := below_step hBx.out hB1
      have hbs := (hB1.block w.heap.size (Array.getElem?_eq_some_iff.1 hbx.out).1).trans hbx.out
      have e0 := (hB1.cell (cell_lt d0)).trans d0
      have e2 := (hB1.cell (cell_lt d2)).trans d2
      have e4 := (hB1.cell (cell_lt d4)).trans d4
      have g0 := cell_of (j := 0) (v := .int .i64 q1) hg rfl
      have g1 := cell_of (j := 1) (v := .int .i64 q2) hg rfl
      have hs := TakS.same hK.out hBw
      replace hg := Lib.hid hg
      replace hB1 := Lib.hid hB1
      replace hBw := Lib.hid hBw
      replace hbs := Lib.hid hbs
      replace hs := Lib.hid hs
      clear d0 d2 d4
      by_cases z1 : ste = 0
      · subst z1
        by_cases z2 : q1 = 1
        · subst z2
          have hmt := fun W => neq_mt W n1 n2 n3 n4 n5 m1 m2 m3 m4 m5
          have hmq : (⟨n1, n2, n3, n4, n5⟩ : Mt) = ⟨m1, m2, m3, m4, m5⟩ ↔ (n1 = m1 ∧ n2 = m2 ∧ n3 = m3 ∧ n4 = m4 ∧ n5 = m5) := (mt_eq (a := ⟨n1, n2, n3, n4, n5⟩) (b := ⟨m1, m2, m3, m4, m5⟩)).symm
          have x4 := cell_of (j := 4) hg.out (v := .int .i64 n1) rfl
          have x5 := cell_of (j := 5) hg.out (v := .int .i64 n2) rfl
          have x6 := cell_of (j := 6) hg.out (v := .int .i64 n3) rfl
          have x7 := cell_of (j := 7) hg.out (v := .int .i64 n4) rfl
          have x8 := cell_of (j := 8) hg.out (v := .int .i64 n5) rfl
          have y4 := cell_of (j := 4) hbs.out (v := .int .i64 m1) rfl
          have y5 := cell_of (j := 5) hbs.out (v := .int .i64 m2) rfl
          have y6 := cell_of (j := 6) hbs.out (v := .int .i64 m3) rfl
          have y7 := cell_of (j := 7) hbs.out (v := .int .i64 m4) rfl
          have y8 := cell_of (j := 8) hbs.out (v := .int .i64 m5) rfl
          by_cases z3 : n1 = m1 ∧ n2 = m2 ∧ n3 = m3 ∧ n4 = m4 ∧ n5 = m5
          · rw [decide_eq_true z3] at hmt
            have hm2 := hmq.2 z3
            obtain ⟨A', M', hKw, -, -⟩ := id hs.out
            have hul := fun n => used_look ((hKw.u ub rfl).1.of_block (w' := wc.drewN n) rfl) q2
            clear hKw
            replace z3 := Lib.hid z3
            replace hmq := Lib.hid hmq
            replace hm2 := Lib.hid hm2
            by_cases z4 : q2 ∈ K.U
            · have hse := hse.out
              rw [if_neg (fun h => h.2.2.2.1 z4)] at hse
              subst hse
              rw [decide_eq_true z4] at hul
              replace z4 := Lib.hid z4
              go_wp2_with fail
              go_quiet (fail)
              go_wp2
              go_ret2
              exact ⟨rfl, hs.out.then (below_drewN (Below.refl _ _) _)⟩
            · rw [decide_eq_false z4] at hul
              replace z4 := Lib.hid z4
              go_wp2_with fail
              go_quiet (fail)
              rename_i nq
              have hBd := below_drewN (Below.refl wc.heap.size wc) nq
              clear hul hmt x4 x5 x6 x7 x8 y4 y5 y6 y7 y8
              generalize wc.drewN nq = wd at *
              have hBv := below_step hBw.out hBd
              have hsd := hs.out.then hBd
              have f0 := (hBd.cell (cell_lt e0)).trans e0
              have f2 := (hBd.cell (cell_lt e2)).trans e2
              have f4 := (hBd.cell (cell_lt e4)).trans e4
              have k1 := (hBd.cell (cell_lt g1)).trans g1
              clear e0 e2 e4 g0 g1
              have hSS : ∀ W, Below wd.heap.size wd W → W.cell? ⟨xb, 0, none⟩ = some (.pointer (some ⟨tb, 0, none⟩)) ∧ W.cell? ⟨xb, 2, none⟩ = some (.string (mkS a)) := fun W hW => ⟨(hW.cell (cell_lt f0)).trans f0, (hW.cell (cell_lt f2)).trans f2⟩
              have hC := fun W hW => h2.out W (below_step hBv hW)
              have hz1 := mkS_size a
              have hz2 := mkS_size p
              have hz3 : ((mkS a).size : Int) + ((mkS p).size : Int) ≤ 9223372036854775807 := by rw [hz1, hz2]; rw [List.length_append] at hp; omega
              have hz4 : (mkS a).size + (mkS p).size ≤ 9223372036854775807 := by omega
              have hz5 : ¬ (9223372036854775807 < (mkS a).size + (mkS p).size) := by omega
              have hBd1 : Below wd.heap.size wd wd.drew := below_drewN (Below.refl wd.heap.size wd) 1
              clear hz1 hz2
              replace hSS := Lib.hid hSS
              replace hC := Lib.hid hC
              replace hBd1 := Lib.hid hBd1
              replace hBd := Lib.hid hBd
              replace hBv := Lib.hid hBv
              replace hsd := Lib.hid hsd
              go_upto_region 6 with fail
              go_cut [12, 11] (fun v x W => x = .int .i64 rd.2 ∧ Byts wd.heap.size W v rd.1 ∧ Below wd.heap.size wd W)
              case first =>
                clear f0 f2 f4 k1
                go_region_held3 (fun W => W.cell? ⟨xb, 0, none⟩ = some (.pointer (some ⟨tb, 0, none⟩)) ∧ W.cell? ⟨xb, 2, none⟩ = some (.string (mkS a))) (first | with_reducible exact hSS.out _ hBd1.out | with_reducible exact hSS.out _ hBa.out) ((go_at_call 110; rw [hadd.out]; (with_reducible refine (hC.out _ hBd1.out).mono ?_); rintro e wa ⟨⟨v, rfl, hby⟩, hBa0⟩; have hBa := below_step hBd1.out hBa0; replace hBa := Lib.hid hBa; replace hby := Lib.hid hby; clear hBa0))
                rename_i hHeld
                clear hHeld
                go_wp2
                go_meet
                exact ⟨rfl, hby.out, hBa.out⟩
              case rest =>
                obtain ⟨rfl, hby, hB5⟩ := hcut
                have hB6 := below_step hBv.out hB5
                have hs6 := hsd.out.then hB5
                have e0 := (hB5.cell (cell_lt f0)).trans f0
                have e2 := (hB5.cell (cell_lt f2)).trans f2
                have e4 := (hB5.cell (cell_lt f4)).trans f4
                have g1 := (hB5.cell (cell_lt k1)).trans k1
                have heq := bequal_rd bv _ b rd.1 wc (hb.out.below hB6) (Byts.rdb hby)
                obtain ⟨r, re⟩ := rd
                dsimp only at *
                clear f0 f2 f4 k1
                replace hby := Lib.hid hby
                replace hB5 := Lib.hid hB5
                replace hB6 := Lib.hid hB6
                replace hs6 := Lib.hid hs6
                by_cases z5 : re = 0
                · subst z5
                  by_cases z6 : b = r
                  · have hse := hse.out
                    rw [if_pos ⟨by trivial, by trivial, hm2.out, z4.out, by trivial, z6⟩] at hse
                    subst hse
                    rw [decide_eq_true z6] at heq
                    replace z6 := Lib.hid z6
                    replace heq := Lib.hid heq
                    obtain ⟨A', M', hKw, ht6, ho6⟩ := id hs6.out
                    have hBd7 := below_drewN (Below.refl wc.heap.size wc) 1
                    obtain ⟨W', hrun, hm, hg⟩ := used_new ((hKw.u ub rfl).1.of_block (w' := wc.drew) rfl) q2 z4.out
                    obtain ⟨hK2, hS2⟩ := TakS.used (hKw.below hBd7) rfl hg hm
                    have hfin := TakS.from ht6 ho6 (TakS.after hBd7 hS2)
                    have f0 := cell_of (j := 0) (v := ptr tb) hK2.x rfl
                    have f2 := cell_of (j := 2) (v := .string (mkS a)) hK2.x rfl
                    unfold ptr at f0
                    obtain ⟨wb, rfl⟩ : ∃ wb, wb = wc := ⟨_, rfl⟩
                    replace hrun := Lib.hid hrun
                    replace hfin := Lib.hid hfin
                    replace hBd7 := Lib.hid hBd7
                    clear hK2 hS2 hKw ht6 ho6 hm hg
                    go_wp2_with fail
                    (with_reducible refine heq.out.mono ?_)
                    rintro e w7 ⟨rfl, e7⟩
                    subst e7
                    go_wp2_with fail
                    refine wp_region_still_tail 6 (by kernel_rfl) (by kernel_rfl) ?_
                    simp only [List.take_succ_cons, List.take_zero, List.drop_succ_cons, List.drop_zero]
                    iterate 6 still_step
                    refine wpStill_nil ?_
                    change wpList _ _ _ _ _ w7.drew
                    refine wp_store _ rfl _ _ _ 73 rfl (.map (some ub)) (.int .i64 q2) (.bool true) rfl rfl rfl W' hrun.out ?_
                    clear e0 e2 e4 g1
                    go_wp2
                    rw [hadd.out]
                    go_wp2
                    go_ret2
                    exact ⟨rfl, hfin.out⟩
                  · have hse := hse.out
                    rw [if_neg (fun h => z6 h.2.2.2.2.2)] at hse
                    subst hse
                    rw [decide_eq_false z6] at heq
                    replace z6 := Lib.hid z6
                    replace heq := Lib.hid heq
                    go_wp2_with fail
                    (with_reducible refine (heq.out).mono ?_)
                    rintro e w7 ⟨rfl, rfl⟩
                    go_wp2
                    go_ret2
                    exact ⟨rfl, hs6.out⟩
                · have hse := hse.out
                  rw [if_neg (fun h => z5 h.2.2.2.2.1)] at hse
                  subst hse
                  have t2 : (re == 0) = false := by simpa using z5
                  have t3 : (re != 0) = true := by simpa using z5
                  replace z5 := Lib.hid z5
                  replace heq := Lib.hid heq
                  go_wp2
                  go_ret2
                  exact ⟨rfl, hs6.out⟩
          · have hse := hse.out
            rw [if_neg (fun h => z3 (hmq.1 h.2.2.1))] at hse
            subst hse
            rw [decide_eq_false z3] at hmt
            replace z3 := Lib.hid z3
            replace hmq := Lib.hid hmq
            go_wp2_with fail
            go_quiet (fail)
            go_wp2
            go_ret2
            exact ⟨rfl, hs.out.then (below_drewN (Below.refl _ _) _)⟩
        · have hse := hse.out
          rw [if_neg (fun h => z2 h.2.1)] at hse
          subst hse
          have t3 : (q1 != 1) = true := by simpa using z2
          have t4 : (q1 == 1) = false := by simpa using z2
          replace z2 := Lib.hid z2
          go_wp2_with fail
          go_quiet (fail)
          go_wp2
          go_ret2
          exact ⟨rfl, hs.out.then (below_drewN (Below.refl _ _) _)⟩
      · have hse := hse.out
        rw [if_neg (fun h => z1 h.1)] at hse
        subst hse
        have t2 : (ste == 0) = false := by simpa using z1
        replace z1 := Lib.hid z1
        have t3 : (ste != 0) = true := by simpa using z1.out
        go_wp2_with fail
        go_quiet (fail)
        go_wp2
        go_ret2
        exact ⟨rfl, hs.out.then (below_drewN (Below.refl _ _) _)⟩
end Go.Proofs.YtocbjhhnginebaaGreat

namespace Go.Proofs.YtocbjhhnginebaaGreat
open Go.RowKit

theorem link_bl (tb : Nat) (A M : Nat → Nat) (T : Fs) (o p : Bytes) (w : World) (hR : Rep w tb A M T) (ho : o.length ≤ 16777216) (hp : p.length ≤ 16777216) (hf : T.names.length ≤ 1000000) :
    Calls Tryz.prog 73 #[ptr tb, .string (mkS o), .string (mkS p)] w fun e w' => e = .returned (.int .i64 (T.link o p).2) ∧ Stp w w' tb A M T (T.link o p).1 := by
  have h := link_calls tb A M T (mkS o) (mkS p) w hR (by rw [mkS_size]; exact ho) (by rw [mkS_size]; exact hp) hf
  rwa [bl_mkS, bl_mkS] at h
theorem write_bl (tb : Nat) (A M : Nat → Nat) (T : Fs) (s : Bytes) (v : Value) (b : Bytes) (m : Mt) (w : World) (hR : Rep w tb A M T) (hs : s.length ≤ 16777216) (hv : RdB w v b) (hb : b.length ≤ 1000000) (hnx : T.next < 4611686018427387904) :
    Calls Tryz.prog 30 #[ptr tb, .string (mkS s), v, mtV m] w fun e w' => e = .returned (.int .i64 (T.write s b m).2) ∧ Stp w w' tb A M T (T.write s b m).1 := by
  have h := write_calls tb A M T (mkS s) v b m w hR (by rw [mkS_size]; exact hs) hv (by omega) hnx
  rwa [bl_mkS] at h
theorem mkdir_bl (tb : Nat) (A M : Nat → Nat) (T : Fs) (s : Bytes) (m : Mt) (w : World) (hR : Rep w tb A M T) (hs : s.length ≤ 16777216) (hnx : T.next < 4611686018427387904) :
    Calls Tryz.prog 38 #[ptr tb, .string (mkS s), mtV m] w fun e w' => e = .returned (.int .i64 (T.mkdir s m).2) ∧ Stp w w' tb A M T (T.mkdir s m).1 := by
  have h := mkdir_calls tb A M T (mkS s) m w hR (by rw [mkS_size]; exact hs) hnx
  rwa [bl_mkS] at h
theorem symlink_bl (tb : Nat) (A M : Nat → Nat) (T : Fs) (s t : Bytes) (m : Mt) (w : World) (hR : Rep w tb A M T) (hs : s.length ≤ 16777216) (hnx : T.next < 4611686018427387904) :
    Calls Tryz.prog 72 #[ptr tb, .string (mkS s), .string (mkS t), mtV m] w fun e w' => e = .returned (.int .i64 (T.symlink s t m).2) ∧ Stp w w' tb A M T (T.symlink s t m).1 := by
  have h := symlink_calls tb A M T (mkS s) (mkS t) m w hR (by rw [mkS_size]; exact hs) hnx
  rwa [bl_mkS, bl_mkS] at h
theorem TakM.keeps {w w' : World} {xb tb sb lb : Nat} {A M B N : Nat → Nat} {S : Fs} {a : Bytes} {uv : Option Nat} {K : Tak} (h : TakM w xb tb A M sb B N S a lb uv K) (ht : Turn w w' (fun b => Own tb A M K.V b ∨ b = lb ∨ uv = some b))
    {g : Nat} {cs : Array Value} {t : TypeId} {f : Nat × Nat} (hg : w.heap[g]? = some (.cells cs t f)) (h1 : t ≠ 90) (h2 : t ≠ 110) : w'.heap[g]? = w.heap[g]? :=
  ht.block g (Array.getElem?_eq_some_iff.1 hg).1 (by
    rintro (e | rfl | e)
    · exact h.v.not_own hg h1 h2 e
    · exact h.l.not_cells hg
    · exact (h.u _ e).1.not_cells hg)

theorem MapIs.no_cell {w : World} {b : Nat} {l : List (Value × Value)} (h : MapIs w b l) {o : Nat} {v : Value} : w.cell? ⟨b, o, none⟩ ≠ some v := by
  obtain ⟨es, c, e, _⟩ := h
  intro hc
  simp [World.cell?, e] at hc
theorem TakM.rdb {w w' : World} {xb tb sb lb : Nat} {A M B N : Nat → Nat} {S : Fs} {a : Bytes} {uv : Option Nat} {K : Tak} (h : TakM w xb tb A M sb B N S a lb uv K) (ht : Turn w w' (fun b => Own tb A M K.V b ∨ b = lb ∨ uv = some b))
    {v : Value} {l : Bytes} (hv : RdB w v l) : RdB w' v l := by
  obtain ⟨A', c, h1, h2, h3, h4⟩ := hv
  refine ⟨A', c, h1, h2, h3, fun j hj => ?_⟩
  obtain ⟨g, o, e, hc⟩ := h4 j hj
  refine ⟨g, o, e, ?_⟩
  have hb := ht.block g (cell_lt hc) (by
    rintro (h1 | rfl | h1)
    · exact h.v.byte_not_own hc h1
    · exact h.l.no_cell hc
    · exact (h.u _ h1).1.no_cell hc)
  simpa [World.cell?, hb] using hc

set_option maxHeartbeats 4000000 in
set_option maxRecDepth 100000 in
theorem takfile_calls (w : World) (xb tb : Nat) (A M : Nat → Nat) (sb : Nat) (B N : Nat → Nat) (S : Fs) (a : Bytes) (lb : Nat) (uv : Option Nat) (K : Tak) (hK : TakM w xb tb A M sb B N S a lb uv K)
    (p q : Bytes) (s : St) (hp : p.length ≤ 1000000) (hq : q.length ≤ 1000000) (ha : a.length ≤ 1000000) (hnx : K.V.next < 4611686018427387904) (hf : K.V.names.length ≤ 1000000) (hL : ∀ y ∈ K.L, y.2.length ≤ 1000000) :
    Calls Tryz.prog 83 #[ptr xb, .string (mkS p), .string (mkS q), statV s] w fun e w' => e = .returned (.tuple #[]) ∧ TakS w w' xb tb A M sb B N S a lb uv K (fileE S a K p q s) := by
  have hdl : (S.read p).1.length ≤ 65536 := by
    unfold Fs.read
    split
    · split
      · rename_i i hi
        have hI := hK.s.inv
        unfold Fs.file at hi
        split at hi
        · rename_i hz
          obtain ⟨_, j, e1, e2⟩ := there_zero hI hz
          rw [e1] at hi
          cases hi
          exact hI.data _ _ e2
        · cases hi
      · simp
    · simp
  have hcell : ∀ W, Below w.heap.size w W → W.cell? ⟨xb, 0, none⟩ = some (.pointer (some ⟨tb, 0, none⟩)) ∧ W.cell? ⟨xb, 1, none⟩ = some (.pointer (some ⟨sb, 0, none⟩)) ∧ W.cell? ⟨xb, 3, none⟩ = some (.map (some lb)) := fun W hB => by
    have h := (hB.block xb (Array.getElem?_eq_some_iff.1 hK.x).1).trans hK.x
    exact ⟨cell_of h rfl, cell_of h rfl, cell_of h rfl⟩
  have hfE : fileE S a K p q s = match laidAt K.L s.ino with
    | some o => ⟨(K.V.link o q).1, K.L, K.U⟩
    | none => match sharedE K.V a K.U p s (S.read p).1 with
      | (some o, U) => ⟨(K.V.link o q).1, K.L ++ [(s.ino, q)], U⟩
      | (none, U) => ⟨(K.V.write q (S.read p).1 s.mt).1, K.L ++ [(s.ino, q)], U⟩ := rfl
  have hlo : ∀ o, laidAt K.L s.ino = some o → o.length ≤ 1000000 := fun o h => hL _ (laidAt_some h)
  have hnone : laidAt K.L s.ino = none → ∀ W, MapIs W lb (laidE K.L) → _ := fun h W hW => laid_new hW s.ino q h
  have hlook : ∀ W, MapIs W lb (laidE K.L) → _ := fun W hW => laid_look hW s.ino
  have hshl : ∀ o, (sharedE K.V a K.U p s (S.read p).1).1 = some o → o.length ≤ 2000000 := fun o h => by
    unfold sharedE at h
    split at h
    · cases h
    · split at h
      · cases h; rw [List.length_append]; omega
      · cases h
  have hsh : ∀ W A' M' L' v, TakM W xb tb A' M' sb B N S a lb uv ⟨K.V, L', K.U⟩ → RdB W v (S.read p).1 → _ := fun W A' M' L' v hW hv => shared_calls W xb tb A' M' sb B N S a lb uv ⟨K.V, L', K.U⟩ hW p s v (S.read p).1 hv (by rw [List.length_append]; omega)
  dsimp only at hsh
  have hrd : ∀ W A' M' K', TakM W xb tb A' M' sb B N S a lb uv K' → _ := fun W A' M' K' hW => read_bl sb B N S p W hW.s (by omega)
  have hlink : ∀ (W : World) (A' M' : Nat → Nat) (o : Bytes), Rep W tb A' M' K.V → o.length ≤ 2000000 → _ := fun W A' M' o hW ho => link_bl tb A' M' K.V o q W hW (by omega) (by omega) hf
  have hwrite : ∀ W A' M' v, Rep W tb A' M' K.V → RdB W v (S.read p).1 → _ := fun W A' M' v hW hv => write_bl tb A' M' K.V q v (S.read p).1 s.mt W hW (by omega) hv (by omega) hnx
  have hBx := fun o => below_alloc (Below.refl _ w) o
  generalize fileE S a K p q s = fE at *
  generalize hla : laidAt K.L s.ino = la at *
  generalize sharedE K.V a K.U p s (S.read p).1 = sh at *
  obtain ⟨s1, s2, s3, s4, mt, s5⟩ := s
  obtain ⟨m1, m2, m3, m4, m5⟩ := mt
  unfold statV statCells mtV mtCells ptr at *
  dsimp only at *
  have hbx := heap_alloc_new w (.cells #[.int .i64 s1, .int .i64 s2, .int .i64 s3, .int .i64 s4, .int .i64 m1, .int .i64 m2, .int .i64 m3, .int .i64 m4, .int .i64 m5, .string (mkS s5)] 42)
  have hBw := hBx (.cells #[.int .i64 s1, .int .i64 s2, .int .i64 s3, .int .i64 s4, .int .i64 m1, .int .i64 m2, .int .i64 m3, .int .i64 m4, .int .i64 m5, .string (mkS s5)] 42)
  obtain ⟨d0, d1, d3⟩ := hcell _ hBw
  replace hK := Lib.hid hK
  replace hcell := Lib.hid hcell
  replace hfE := Lib.hid hfE
  replace hlo := Lib.hid hlo
  replace hnone := Lib.hid hnone
  replace hlook := Lib.hid hlook
  replace hshl := Lib.hid hshl
  replace hsh := Lib.hid hsh
  replace hrd := Lib.hid hrd
  replace hlink := Lib.hid hlink
  replace hwrite := Lib.hid hwrite
  replace hdl := Lib.hid hdl
  replace hbx := Lib.hid hbx
  replace hBw := Lib.hid hBw
  replace hla := Lib.hid hla
  clear hBx
  go_enter Tryz.func83, Tryz.ntmps83
  go_upto_region 1 with fail
  generalize (w.alloc (.cells #[.int .i64 s1, .int .i64 s2, .int .i64 s3, .int .i64 s4, .int .i64 m1, .int .i64 m2, .int .i64 m3, .int .i64 m4, .int .i64 m5, .string (mkS s5)] 42)) = w1 at *
  have hul := fun n => hlook.out (w1.drewN n) ((hK.out.below hBw.out).l.of_block rfl)
  have y1 := cell_of (j := 1) (v := .int .i64 s2) hbx.out rfl
  go_cut [8, 9] (fun x y W => x = .string (mkS (la.getD [])) ∧ y = .bool la.isSome ∧ Below w1.heap.size w1 W)
  case first =>
    go_quiet (fail)
    go_wp2
    go_meet
    exact ⟨rfl, rfl, below_drewN (Below.refl _ _) _⟩
  case rest =>
    obtain ⟨rfl, rfl, hB1⟩ := hcut
    have hBc := below_step hBw.out hB1
    have hKc := hK.out.below hBc
    obtain ⟨e0, e1, e3⟩ := hcell.out _ hBc
    have hbs := (hB1.block w.heap.size (Array.getElem?_eq_some_iff.1 hbx.out).1).trans hbx.out
    clear d0 d1 d3 y1 hul
    replace hB1 := Lib.hid hB1
    replace hBc := Lib.hid hBc
    replace hKc := Lib.hid hKc
    replace hbs := Lib.hid hbs
    cases la with
    | some o =>
      have hl := hlink.out wc A M o hKc.out.v (by have := hlo.out o rfl; omega)
      simp only [Option.getD_some, Option.isSome_some]
      replace hl := Lib.hid hl
      go_wp2_with fail
      (with_reducible refine (hl.out).mono ?_)
      rintro e w3 ⟨rfl, hst⟩
      have hfin := TakS.after hBc.out (TakS.tree hKc.out hst)
      replace hfin := Lib.hid hfin
      clear hst
      go_wp2
      try simp only [Exit.inBlock, Exit.then]
      refine bodyPost_ret (results_none rfl _ _ _) rfl ?_
      exact ⟨rfl, by rw [hfE.out]; exact hfin.out⟩
    | none =>
      have hBd := below_drewN (Below.refl wc.heap.size wc) 1
      have hKd := hKc.out.below hBd
      have hbd := (hBd.block w.heap.size (Array.getElem?_eq_some_iff.1 hbs.out).1).trans hbs.out
      have f1 := cell_of (j := 1) (v := .int .i64 s2) hbs.out rfl
      obtain ⟨W4, hrun, hm4, hg4⟩ := hnone.out rfl _ (hKc.out.l.of_block (w' := wc.drew) rfl)
      obtain ⟨hK4, -⟩ := TakS.laid hKd hg4 hm4
      have htd : Turn wc.drew W4 (fun b => Own tb A M K.V b ∨ b = lb ∨ uv = some b) := Turn.of_grown hg4 (fun j e => Or.inr (Or.inl (Option.some.inj e).symm))
      have hb4 := (hKd.keeps htd hbd (by decide) (by decide)).trans hbd
      have ht4 : Turn w W4 (fun b => Own tb A M K.V b ∨ b = lb ∨ uv = some b) := (Turn.of_below (below_step hBc.out hBd) _).trans (htd.mono fun i _ hi => Or.inl hi)
      have g0 := cell_of (j := 0) (v := ptr tb) hK4.x rfl
      have g1 := cell_of (j := 1) (v := ptr sb) hK4.x rfl
      unfold ptr at g0 g1
      have hr5 := hrd.out W4 A M _ hK4
      simp only [Option.getD_none, Option.isSome_none]
      replace hrun := Lib.hid hrun
      replace hK4 := Lib.hid hK4
      replace ht4 := Lib.hid ht4
      replace hb4 := Lib.hid hb4
      replace hr5 := Lib.hid hr5
      clear hKd hbd htd hm4 hg4 hBd
      go_wp2_with fail
      refine wp_region_still_tail 7 (by kernel_rfl) (by kernel_rfl) ?_
      simp only [List.take_succ_cons, List.take_zero, List.drop_succ_cons, List.drop_zero]
      iterate 7 still_step
      refine wpStill_nil ?_
      change wpList _ _ _ _ _ wc.drew
      refine wp_store _ rfl _ _ _ 72 rfl (.map (some lb)) (.int .i64 s2) (.string (mkS q)) rfl rfl rfl W4 hrun.out ?_
      clear e0 e1 e3 f1
      go_wp2_with fail
      (with_reducible refine (hr5.out).mono ?_)
      rintro e w5 ⟨⟨v5, rfl, hby⟩, hB5⟩
      have hK5 := hK4.out.below hB5
      have hb5 := (hB5.block w.heap.size (Array.getElem?_eq_some_iff.1 hb4.out).1).trans hb4.out
      have h6 := hsh.out w5 A M _ v5 hK5 (Byts.rdb hby)
      clear hr5 hrun
      have y0 := cell_of (j := 0) (v := .int .i64 s1) hb5 rfl
      have y1 := cell_of (j := 1) (v := .int .i64 s2) hb5 rfl
      have y2 := cell_of (j := 2) (v := .int .i64 s3) hb5 rfl
      have y3 := cell_of (j := 3) (v := .int .i64 s4) hb5 rfl
      have y4 := cell_of (j := 4) (v := .int .i64 m1) hb5 rfl
      have y5 := cell_of (j := 5) (v := .int .i64 m2) hb5 rfl
      have y6 := cell_of (j := 6) (v := .int .i64 m3) hb5 rfl
      have y7 := cell_of (j := 7) (v := .int .i64 m4) hb5 rfl
      have y8 := cell_of (j := 8) (v := .int .i64 m5) hb5 rfl
      have y9 := cell_of (j := 9) (v := .string (mkS s5)) hb5 rfl
      clear g0 g1
      replace hK5 := Lib.hid hK5
      replace hb5 := Lib.hid hb5
      replace h6 := Lib.hid h6
      replace hB5 := Lib.hid hB5
      replace hby := Lib.hid hby
      go_wp2_with fail
      (with_reducible refine h6.out.mono ?_)
      rintro e w6 ⟨rfl, hs6⟩
      obtain ⟨A6, M6, hK6, ht6, ho6⟩ := hs6
      have g0 := cell_of (j := 0) (v := ptr tb) hK6.x rfl
      unfold ptr at g0
      clear y0 y1 y2 y3 y4 y5 y6 y7 y8 y9 h6
      obtain ⟨so, U6⟩ := sh
      dsimp only at *
      cases so with
      | some o =>
        have hl := hlink.out w6 A6 M6 o hK6.v (hshl.out o rfl)
        replace hl := Lib.hid hl
        replace hK6 := Lib.hid hK6
        replace ht6 := Lib.hid ht6
        replace ho6 := Lib.hid ho6
        go_wp2_with fail
        (with_reducible refine hl.out.mono ?_)
        rintro e w7 ⟨rfl, hst⟩
        have hfin := TakS.from ht4.out (fun b h => Or.inl h) (TakS.after hB5.out (TakS.from ht6.out ho6.out (TakS.tree hK6.out hst)))
        replace hfin := Lib.hid hfin
        clear hst
        go_wp2
        try simp only [Exit.inBlock, Exit.then]
        refine bodyPost_ret (results_none rfl _ _ _) rfl ?_
        exact ⟨rfl, by rw [hfE.out]; exact hfin.out⟩
      | none =>
        have hb6 := (hK5.out.keeps ht6 hb5.out (by decide) (by decide)).trans hb5.out
        have hv6 := hK5.out.rdb ht6 (Byts.rdb hby.out)
        have hw := hwrite.out w6.drew A6 M6 v5 (hK6.v.drewN 1) (hv6.below (below_drewN (Below.refl w6.heap.size w6) 1))
        have x4 := cell_of (j := 4) (v := .int .i64 m1) hb6 rfl
        have x5 := cell_of (j := 5) (v := .int .i64 m2) hb6 rfl
        have x6 := cell_of (j := 6) (v := .int .i64 m3) hb6 rfl
        have x7 := cell_of (j := 7) (v := .int .i64 m4) hb6 rfl
        have x8 := cell_of (j := 8) (v := .int .i64 m5) hb6 rfl
        replace hw := Lib.hid hw
        replace hK6 := Lib.hid hK6
        replace ht6 := Lib.hid ht6
        replace ho6 := Lib.hid ho6
        replace hb6 := Lib.hid hb6
        replace hv6 := Lib.hid hv6
        go_wp2_with fail
        refine wp_region_still_tail 8 (by kernel_rfl) (by kernel_rfl) ?_
        simp only [List.take_succ_cons, List.take_zero, List.drop_succ_cons, List.drop_zero]
        iterate 8 still_step
        refine wpStill_nil ?_
        change wpList _ _ _ _ _ w6.drew
        go_wp2_with fail
        (with_reducible refine hw.out.mono ?_)
        rintro e w7 ⟨rfl, hst⟩
        have hfin := TakS.from ht4.out (fun b h => Or.inl h) (TakS.after hB5.out (TakS.from ht6.out ho6.out (TakS.after (below_drewN (Below.refl w6.heap.size w6) 1) (TakS.tree (hK6.out.below (below_drewN (Below.refl w6.heap.size w6) 1)) hst))))
        replace hfin := Lib.hid hfin
        clear hst
        go_wp2
        go_end0
        exact ⟨rfl, by rw [hfE.out]; exact hfin.out⟩
end Go.Proofs.YtocbjhhnginebaaGreat

namespace Go.Proofs.YtocbjhhnginebaaGreat
open Go.RowKit

/-- Is a path too long below a name? -/
def tooBig (nm p : Bytes) : Bool := !right (nm ++ 47 :: p)
def anyI (f : Bytes → Bool) (l : List Bytes) : Option Nat := l.findIdx? f
theorem anyI_some {f : Bytes → Bool} {l : List Bytes} {k : Nat} (hk : k < l.length) (h : f l[k] = true) (hn : ∀ j (hj : j < l.length), j < k → f l[j] = false) : anyI f l = some k := by
  unfold anyI
  rw [List.findIdx?_eq_some_iff_getElem]
  exact ⟨hk, h, fun j hj => by simpa using hn j (by omega) hj⟩
theorem anyI_none {f : Bytes → Bool} {l : List Bytes} (hn : ∀ j (hj : j < l.length), f l[j] = false) : anyI f l = none := by
  unfold anyI
  rw [List.findIdx?_eq_none_iff]
  intro y hy
  obtain ⟨j, hj, rfl⟩ := List.getElem_of_mem hy
  exact hn j hj
theorem anyI_any (f : Bytes → Bool) (l : List Bytes) : (anyI f l).isSome = l.any f := by
  unfold anyI
  rw [List.findIdx?_isSome]

set_option maxHeartbeats 2000000 in
set_option maxRecDepth 100000 in
theorem take1_calls (p nm : Bytes) (cb : Nat) (w : World) (hp : p.length ≤ 1000000) (hn : nm.length ≤ 1000000) (hc : w.cell? ⟨cb, 0, none⟩ = some (.string (mkS nm))) :
    Calls Tryz.prog 36 #[.string (mkS p), .pointer (some ⟨cb, 0, none⟩)] w fun e w' => e = .returned (.bool (tooBig nm p)) ∧ Below w.heap.size w w' := by
  have e1 : mkS nm ++ ⟨#[47]⟩ = mkS (nm ++ [47]) := mkS_append nm [47]
  have e2 : mkS (nm ++ [47]) ++ mkS p = mkS (nm ++ 47 :: p) := by rw [mkS_append, List.append_assoc]; rfl
  have h0 := right_calls (mkS (nm ++ 47 :: p)) w (by rw [mkS_size]; simp; omega)
  rw [bl_mkS] at h0
  have z1 : (mkS nm).size + 1 ≤ 9223372036854775807 := by rw [mkS_size]; omega
  have z2 : (mkS (nm ++ [47])).size + (mkS p).size ≤ 9223372036854775807 := by rw [mkS_size, mkS_size]; simp; omega
  have z3 : ((mkS nm).size : Int) + 1 ≤ 9223372036854775807 := by omega
  have z4 : ((mkS (nm ++ [47])).size : Int) + ((mkS p).size : Int) ≤ 9223372036854775807 := by omega
  have ht : tooBig nm p = !right (nm ++ 47 :: p) := rfl
  generalize tooBig nm p = tb at *
  generalize right (nm ++ 47 :: p) = r at *
  subst ht
  replace h0 := Lib.hid h0
  go_enter Tryz.func36, Tryz.ntmps36
  go_wp2_with fail
  (with_reducible refine (h0.out).mono ?_)
  rintro e w1 ⟨rfl, hB1⟩
  go_wp2
  go_ret
  exact ⟨rfl, hB1⟩

set_option maxHeartbeats 4000000 in
set_option maxRecDepth 100000 in
theorem index2_calls (v : Value) (l : List Bytes) (nm : Bytes) (cb : Nat) (w : World) (hv : Rd w v l) (hs : ∀ y ∈ l, y.length ≤ 1000000) (hn : nm.length ≤ 1000000) (hc : w.cell? ⟨cb, 0, none⟩ = some (.string (mkS nm))) (hl : l.length ≤ 1000000) :
    Calls Tryz.prog 80 #[v, .func (.func 36) #[] #[.pointer (some ⟨cb, 0, none⟩)]] w fun e w' => e = .returned (.int .i64 (optI (anyI (tooBig nm) l))) ∧ Below w.heap.size w w' := by
  obtain ⟨A, c, rfl, _, h3⟩ := hv.shape
  unfold maxLen at h3
  have h1 := fun y W (hy : y ∈ l) hW => take1_calls y nm cb W (hs y hy) hn hW
  have hlt := cell_lt hc
  generalize hf : tooBig nm = f at *
  replace h1 := Lib.hid h1
  replace hv := Lib.hid hv
  replace hc := Lib.hid hc
  replace hf := Lib.hid hf
  go_enter Tryz.func80, Tryz.ntmps80
  go_wp2_with fail
  go_loopw [8] (fun i wr => ∃ k : Nat, i = .int .i64 k ∧ k ≤ l.length ∧ Hid (∀ j (hj : j < l.length), j < k → f l[j] = false) ∧ Below w.heap.size w wr) (fun i _ => l.length - (intOf i).toNat)
  case atStart => exact ⟨0, rfl, Nat.zero_le _, fun j hj h => by omega, Below.refl _ _⟩
  case round =>
    obtain ⟨k, rfl, hk, hno, hB⟩ := hrel
    by_cases hkl : k < l.length
    · obtain ⟨g, o, rfl, c1⟩ := (hv.out.below hB).cell hkl
      have h2 := h1.out l[k] wr (List.getElem_mem hkl) ((hB.cell hlt).trans hc.out)
      have hy : f l[k] = true → anyI f l = some k := fun h => anyI_some hkl h hno.out
      have hno2 : f l[k] = false → ∀ j (hj : j < l.length), j < k + 1 → f l[j] = false := fun h j hj hjk => by
        by_cases he : j = k
        · subst he; exact h
        · exact hno.out j hj (by omega)
      generalize l[k] = y at *
      have hki : (k : Int) < (l.length : Int) := by omega
      cases hq : f y
      · have hn2 := hno2 hq
        rw [hq] at h2
        replace h2 := Lib.hid h2
        replace hB := Lib.hid hB
        replace hn2 := Lib.hid hn2
        replace hno := Lib.hid hno
        clear hy hno2 hq
        go_wp2_with fail
        (with_reducible refine (h2.out).mono ?_)
        rintro e w3 ⟨rfl, hB3⟩
        have hB4 := below_step hB.out hB3
        replace hB4 := Lib.hid hB4
        go_wp2
        go_roundw
        case rel => exact ⟨k + 1, by go_num, by omega, hn2, hB4.out⟩
        case measure => simp [intOf]; omega
      · have hwh := hy hq
        rw [hq] at h2
        replace h2 := Lib.hid h2
        replace hB := Lib.hid hB
        replace hwh := Lib.hid hwh
        replace hno := Lib.hid hno
        clear hy hno2 hq
        go_wp2_with fail
        (with_reducible refine (h2.out).mono ?_)
        rintro e w3 ⟨rfl, hB3⟩
        have hB4 := below_step hB.out hB3
        replace hB4 := Lib.hid hB4
        go_wp2
        go_ret
        exact ⟨by rw [hwh.out]; rfl, hB4.out⟩
    · obtain rfl : k = l.length := by omega
      have hwh : anyI f l = none := anyI_none fun j hj => hno.out j hj hj
      replace hwh := Lib.hid hwh
      replace hB := Lib.hid hB
      go_wp2
      go_ret
      exact ⟨by rw [hwh.out]; rfl, hB.out⟩

set_option maxHeartbeats 2000000 in
set_option maxRecDepth 100000 in
theorem contains_calls (v : Value) (l : List Bytes) (nm : Bytes) (cb : Nat) (w : World) (hv : Rd w v l) (hs : ∀ y ∈ l, y.length ≤ 1000000) (hn : nm.length ≤ 1000000) (hc : w.cell? ⟨cb, 0, none⟩ = some (.string (mkS nm))) (hl : l.length ≤ 1000000) :
    Calls Tryz.prog 35 #[v, .func (.func 36) #[] #[.pointer (some ⟨cb, 0, none⟩)]] w fun e w' => e = .returned (.bool (l.any (tooBig nm))) ∧ Below w.heap.size w w' := by
  have h1 := index2_calls v l nm cb w hv hs hn hc hl
  obtain ⟨A, c, rfl, _, h3⟩ := hv.shape
  have ha := anyI_any (tooBig nm) l
  generalize l.any (tooBig nm) = an at *
  generalize anyI (tooBig nm) l = ai at *
  replace h1 := Lib.hid h1
  replace hv := Lib.hid hv
  replace hc := Lib.hid hc
  cases ai with
  | none =>
    obtain rfl : false = an := ha
    unfold optI at h1
    go_enter Tryz.func35, Tryz.ntmps35
    go_wp2_with fail
    (with_reducible refine (h1.out).mono ?_)
    rintro e w2 ⟨rfl, hB2⟩
    go_wp2
    go_ret
    exact ⟨rfl, hB2⟩
  | some k =>
    obtain rfl : true = an := ha
    unfold optI at h1
    have hk : (0 : Int) ≤ (k : Int) := by omega
    go_enter Tryz.func35, Tryz.ntmps35
    go_wp2_with fail
    (with_reducible refine (h1.out).mono ?_)
    rintro e w2 ⟨rfl, hB2⟩
    go_wp2
    go_ret
    exact ⟨rfl, hB2⟩
end Go.Proofs.YtocbjhhnginebaaGreat

namespace Go.Proofs.YtocbjhhnginebaaGreat
open Go.RowKit

set_option maxHeartbeats 4000000 in
set_option maxRecDepth 100000 in
theorem takthing_calls (w : World) (xb tb : Nat) (A M : Nat → Nat) (sb : Nat) (B N : Nat → Nat) (S : Fs) (a : Bytes) (lb : Nat) (uv : Option Nat) (K : Tak) (hK : TakM w xb tb A M sb B N S a lb uv K)
    (p q : Bytes) (hp : p.length ≤ 1000000) (hq : q.length ≤ 1000000) (ha : a.length ≤ 1000000) (hnx : K.V.next < 4611686018427387904) (hf : K.V.names.length ≤ 1000000) (hL : ∀ y ∈ K.L, y.2.length ≤ 1000000) :
    Calls Tryz.prog 39 #[ptr xb, .string (mkS p), .string (mkS q)] w fun e w' => e = .returned (.tuple #[]) ∧ TakS w w' xb tb A M sb B N S a lb uv K (thingE S a K p q) := by
  have hE : thingE S a K p q = if (S.stat p).2 ≠ 0 then K
    else if (S.stat p).1.kind = 2 then ⟨(K.V.mkdir q (S.stat p).1.mt).1, K.L, K.U⟩
    else if (S.stat p).1.kind = 3 then ⟨(K.V.symlink q (S.stat p).1.target (S.stat p).1.mt).1, K.L, K.U⟩
    else fileE S a K p q (S.stat p).1 := rfl
  have h0 := stat_bl sb B N S p w hK.s (by omega)
  have hfl := fun W (hW : Below w.heap.size w W) => takfile_calls W xb tb A M sb B N S a lb uv K (hK.below hW) p q (S.stat p).1 hp hq ha hnx hf hL
  have hmk := fun W (hW : Below w.heap.size w W) => mkdir_bl tb A M K.V q (S.stat p).1.mt W (hK.below hW).v (by omega) hnx
  have hsy := fun W (hW : Below w.heap.size w W) => symlink_bl tb A M K.V q (S.stat p).1.target (S.stat p).1.mt W (hK.below hW).v (by omega) hnx
  have hcell : ∀ W, Below w.heap.size w W → W.cell? ⟨xb, 0, none⟩ = some (.pointer (some ⟨tb, 0, none⟩)) ∧ W.cell? ⟨xb, 1, none⟩ = some (.pointer (some ⟨sb, 0, none⟩)) := fun W hB => by
    have h := (hB.block xb (Array.getElem?_eq_some_iff.1 hK.x).1).trans hK.x
    exact ⟨cell_of h rfl, cell_of h rfl⟩
  have htree := fun W (hW : Below w.heap.size w W) W' V' (hs : Stp W W' tb A M K.V V') => TakS.after hW (TakS.tree (hK.below hW) hs)
  have hsame := fun W (hW : Below w.heap.size w W) => TakS.same hK hW
  have hafter := fun W (hW : Below w.heap.size w W) W' K' (h : TakS W W' xb tb A M sb B N S a lb uv K K') => TakS.after hW h
  generalize thingE S a K p q = tE at *
  generalize S.stat p = st at *
  obtain ⟨st, se⟩ := st
  obtain ⟨s1, s2, s3, s4, mt, s5⟩ := st
  obtain ⟨m1, m2, m3, m4, m5⟩ := mt
  unfold statV statCells mtV mtCells ptr at *
  dsimp only at *
  obtain ⟨d0, d1⟩ := hcell w (Below.refl _ _)
  replace hK := Lib.hid hK
  replace h0 := Lib.hid h0
  replace hfl := Lib.hid hfl
  replace hmk := Lib.hid hmk
  replace hsy := Lib.hid hsy
  replace hcell := Lib.hid hcell
  replace htree := Lib.hid htree
  replace hE := Lib.hid hE
  replace hsame := Lib.hid hsame
  replace hafter := Lib.hid hafter
  go_enter Tryz.func39, Tryz.ntmps39
  go_wp2_with fail
  (with_reducible refine (h0.out).mono ?_)
  rintro e w1 ⟨rfl, hB1⟩
  have hB2 := below_step hB1 (below_alloc (Below.refl w1.heap.size w1) (.cells #[.int .i64 s1, .int .i64 s2, .int .i64 s3, .int .i64 s4, .int .i64 m1, .int .i64 m2, .int .i64 m3, .int .i64 m4, .int .i64 m5, .string (mkS s5)] 42))
  have hb2 := heap_alloc_new w1 (.cells #[.int .i64 s1, .int .i64 s2, .int .i64 s3, .int .i64 s4, .int .i64 m1, .int .i64 m2, .int .i64 m3, .int .i64 m4, .int .i64 m5, .string (mkS s5)] 42)
  clear d0 d1
  obtain ⟨e0, e1⟩ := hcell.out _ hB2
  have y0 := cell_of (j := 0) (v := .int .i64 s1) hb2 rfl
  have y1 := cell_of (j := 1) (v := .int .i64 s2) hb2 rfl
  have y2 := cell_of (j := 2) (v := .int .i64 s3) hb2 rfl
  have y3 := cell_of (j := 3) (v := .int .i64 s4) hb2 rfl
  have y4 := cell_of (j := 4) (v := .int .i64 m1) hb2 rfl
  have y5 := cell_of (j := 5) (v := .int .i64 m2) hb2 rfl
  have y6 := cell_of (j := 6) (v := .int .i64 m3) hb2 rfl
  have y7 := cell_of (j := 7) (v := .int .i64 m4) hb2 rfl
  have y8 := cell_of (j := 8) (v := .int .i64 m5) hb2 rfl
  have y9 := cell_of (j := 9) (v := .string (mkS s5)) hb2 rfl
  have hs2 := hsame.out _ hB2
  replace hB1 := Lib.hid hB1
  replace hB2 := Lib.hid hB2
  replace hb2 := Lib.hid hb2
  replace hs2 := Lib.hid hs2
  by_cases z1 : se = 0
  · subst z1
    have hE := hE.out
    rw [if_neg (by simp)] at hE
    by_cases z2 : s1 = 2
    · subst z2
      rw [if_pos rfl] at hE
      subst hE
      go_wp2_with fail
      generalize (w1.alloc (.cells #[.int .i64 2, .int .i64 s2, .int .i64 s3, .int .i64 s4, .int .i64 m1, .int .i64 m2, .int .i64 m3, .int .i64 m4, .int .i64 m5, .string (mkS s5)] 42)) = w2 at *
      have hc := hmk.out w2.drew (below_step hB2.out (below_drewN (Below.refl w2.heap.size w2) 1))
      have hft := htree.out w2.drew (below_step hB2.out (below_drewN (Below.refl w2.heap.size w2) 1))
      replace hc := Lib.hid hc
      replace hft := Lib.hid hft
      refine wp_region_still_tail 7 (by kernel_rfl) (by kernel_rfl) ?_
      simp only [List.take_succ_cons, List.take_zero, List.drop_succ_cons, List.drop_zero]
      iterate 7 still_step
      refine wpStill_nil ?_
      change wpList _ _ _ _ _ w2.drew
      go_wp2_with fail
      (with_reducible refine hc.out.mono ?_)
      rintro e w7 ⟨rfl, hst⟩
      have hfin := hft.out _ _ hst
      replace hfin := Lib.hid hfin
      clear hst
      go_wp2
      go_end0
      exact ⟨rfl, hfin.out⟩
    · rw [if_neg z2] at hE
      have t4 : (s1 == 2) = false := by simpa using z2
      by_cases z3 : s1 = 3
      · subst z3
        rw [if_pos rfl] at hE
        subst hE
        replace z2 := Lib.hid z2
        go_wp2_with fail
        generalize (w1.alloc (.cells #[.int .i64 3, .int .i64 s2, .int .i64 s3, .int .i64 s4, .int .i64 m1, .int .i64 m2, .int .i64 m3, .int .i64 m4, .int .i64 m5, .string (mkS s5)] 42)) = w2 at *
        have hc := hsy.out w2.drew (below_step hB2.out (below_drewN (Below.refl w2.heap.size w2) 1))
        have hft := htree.out w2.drew (below_step hB2.out (below_drewN (Below.refl w2.heap.size w2) 1))
        replace hc := Lib.hid hc
        replace hft := Lib.hid hft
        refine wp_region_still_tail 9 (by kernel_rfl) (by kernel_rfl) ?_
        simp only [List.take_succ_cons, List.take_zero, List.drop_succ_cons, List.drop_zero]
        iterate 9 still_step
        refine wpStill_nil ?_
        change wpList _ _ _ _ _ w2.drew
        go_wp2_with fail
        (with_reducible refine hc.out.mono ?_)
        rintro e w7 ⟨rfl, hst⟩
        have hfin := hft.out _ _ hst
        replace hfin := Lib.hid hfin
        clear hst
        go_wp2
        go_end0
        exact ⟨rfl, hfin.out⟩
      · rw [if_neg z3] at hE
        have t5 : (s1 == 3) = false := by simpa using z3
        subst hE
        replace z2 := Lib.hid z2
        replace z3 := Lib.hid z3
        go_wp2_with fail
        generalize (w1.alloc (.cells #[.int .i64 s1, .int .i64 s2, .int .i64 s3, .int .i64 s4, .int .i64 m1, .int .i64 m2, .int .i64 m3, .int .i64 m4, .int .i64 m5, .string (mkS s5)] 42)) = w2 at *
        have hc := hfl.out w2 hB2.out
        have hft := hafter.out w2 hB2.out
        replace hc := Lib.hid hc
        replace hft := Lib.hid hft
        (with_reducible refine hc.out.mono ?_)
        rintro e w7 ⟨rfl, hst⟩
        have hfin := hft.out _ _ hst
        replace hfin := Lib.hid hfin
        clear hst
        go_wp2
        go_end0
        exact ⟨rfl, hfin.out⟩
  · have hE := hE.out
    rw [if_pos z1] at hE
    subst hE
    have t3 : (se != 0) = true := by simpa using z1
    replace z1 := Lib.hid z1
    go_wp2
    go_end0
    exact ⟨rfl, hs2.out⟩
end Go.Proofs.YtocbjhhnginebaaGreat

namespace Go.Proofs.YtocbjhhnginebaaGreat

theorem Lk.refl (T : Fs) (i : Nat) : Lk T T i i := ⟨rfl, rfl, rfl, rfl⟩
theorem Lk.trans {T U V : Fs} {i j k : Nat} (h : Lk T U i j) (h2 : Lk U V j k) : Lk T V i k := ⟨h.1.trans h2.1, h.2.1.trans h2.2.1, h.2.2.1.trans h2.2.2.1, h.2.2.2.trans h2.2.2.2⟩
theorem Lk.symm {T U : Fs} {i j : Nat} (h : Lk T U i j) : Lk U T j i := ⟨h.1.symm, h.2.1.symm, h.2.2.1.symm, h.2.2.2.symm⟩

/-- All Metas are within their bounds; no link goes nowhere. -/
structure Fs.Ok (T : Fs) : Prop where
  mt : MtAll T
  tg : ∀ i, (T.nd i).kind = 3 → (T.nd i).target ≠ []
/-- V' is V with more names, all at or below d. -/
structure Adds (d : Pt) (V V' : Fs) : Prop where
  names : ∃ l, V'.names = V.names ++ l ∧ ∀ x ∈ l, d <+: x.1
  same : ∀ i, i < V.next → Lk V V' i i
  next : V.next ≤ V'.next
theorem Adds.refl (d : Pt) (V : Fs) : Adds d V V := ⟨⟨[], by simp, by simp⟩, fun i _ => Lk.refl V i, Nat.le_refl _⟩
theorem Adds.trans {d : Pt} {V V1 V2 : Fs} (h : Adds d V V1) (k : Adds d V1 V2) : Adds d V V2 := by
  obtain ⟨⟨l, e, hl⟩, h2, h3⟩ := h
  obtain ⟨⟨r, f, hr⟩, k2, k3⟩ := k
  refine ⟨⟨l ++ r, by rw [f, e, List.append_assoc], fun x hx => ?_⟩, fun i hi => (h2 i hi).trans (k2 i (Nat.lt_of_lt_of_le hi h3)), Nat.le_trans h3 k3⟩
  rcases List.mem_append.1 hx with hx | hx
  · exact hl x hx
  · exact hr x hx
theorem Adds.old {d : Pt} {V V' : Fs} (h : Adds d V V') {p : Pt} {i : Nat} (hm : (p, i) ∈ V.names) : (p, i) ∈ V'.names := by
  obtain ⟨⟨l, e, _⟩, _, _⟩ := h
  rw [e]; exact List.mem_append_left _ hm
theorem Adds.out {d : Pt} {V V' : Fs} (h : Adds d V V') {p : Pt} {i : Nat} (hp : ¬ d <+: p) : (p, i) ∈ V'.names ↔ (p, i) ∈ V.names := by
  refine ⟨fun hm => ?_, h.old⟩
  obtain ⟨⟨l, e, hl⟩, _, _⟩ := h
  rw [e] at hm
  rcases List.mem_append.1 hm with hm | hm
  · exact hm
  · exact absurd (hl _ hm) hp
theorem adds_add {d p : Pt} (V : Fs) (n : Nd) (hp : d <+: p) : Adds d V (V.add p n) :=
  ⟨⟨[(p, V.next)], rfl, by simpa using hp⟩, fun i hi => by
    have e : (V.add p n).nd i = V.nd i := if_neg (Nat.ne_of_lt hi)
    unfold Lk; rw [e]; exact ⟨rfl, rfl, rfl, rfl⟩, Nat.le_succ _⟩
theorem name_lk (V : Fs) (p : Pt) (i j : Nat) : Lk V (V.name p i) j j := by
  unfold Lk Fs.name
  dsimp only
  split
  · rename_i h; subst h; exact ⟨rfl, rfl, rfl, rfl⟩
  · exact ⟨rfl, rfl, rfl, rfl⟩
theorem adds_name {d p : Pt} (V : Fs) (i : Nat) (hp : d <+: p) : Adds d V (V.name p i) :=
  ⟨⟨[(p, i)], rfl, by simpa using hp⟩, fun j _ => name_lk V p i j, Nat.le_refl _⟩

/-! What is laid where nothing stands. -/
section
variable {V : Fs} {q : Bytes} {e : Nat}
theorem fresh_new (hI : V.Inv) (hr : right q = true) (hq : q ≠ []) (he : ((split q).dropLast, e) ∈ V.names) (hk : (V.nd e).kind = 2) (hn : V.at (split q) = none) : V.look q = (none, some e, 0) ∧ V.fresh q = (some e, 0) := by
  have h : V.look q = (none, some e, 0) := by
    unfold Fs.look
    rw [if_pos hr, if_neg hq, hI.at_some.2 he]
    dsimp only
    rw [if_pos hk, hn]
  exact ⟨h, by unfold Fs.fresh; rw [h]; rfl⟩
theorem mayE_ok (hr : right q = true) {m : Mt} (hm : metaOk m = true) : mayE q m = 0 := by unfold mayE; rw [if_pos hr, if_pos hm]
theorem mkdir_new (hI : V.Inv) (hr : right q = true) (hq : q ≠ []) (he : ((split q).dropLast, e) ∈ V.names) (hk : (V.nd e).kind = 2) (hn : V.at (split q) = none) {m : Mt} (hm : metaOk m = true) :
    V.mkdir q m = (V.add (split q) ⟨2, 1, m, [], []⟩, 0) := by
  unfold Fs.mkdir
  rw [mayE_ok hr hm, (fresh_new hI hr hq he hk hn).2]
  rfl
theorem symlink_new (hI : V.Inv) (hr : right q = true) (hq : q ≠ []) (he : ((split q).dropLast, e) ∈ V.names) (hk : (V.nd e).kind = 2) (hn : V.at (split q) = none) {m : Mt} (hm : metaOk m = true) {t : Bytes} (ht : t ≠ []) (ht2 : t.length ≤ 200) :
    V.symlink q t m = (V.add (split q) ⟨3, 1, m, t, []⟩, 0) := by
  unfold Fs.symlink
  rw [mayE_ok hr hm, (fresh_new hI hr hq he hk hn).2, if_neg (by decide), if_neg ht, if_neg (by omega)]
  rfl
theorem write_new (hI : V.Inv) (hr : right q = true) (hq : q ≠ []) (he : ((split q).dropLast, e) ∈ V.names) (hk : (V.nd e).kind = 2) (hn : V.at (split q) = none) {m : Mt} (hm : metaOk m = true) {b : Bytes} (hb : b.length ≤ 65536) :
    V.write q b m = (V.add (split q) ⟨1, 1, m, [], b⟩, 0) := by
  unfold Fs.write
  rw [mayE_ok hr hm, (fresh_new hI hr hq he hk hn).1, if_neg (by decide), if_neg (by omega)]
  rfl
theorem link_new (hI : V.Inv) (hr : right q = true) (hq : q ≠ []) (he : ((split q).dropLast, e) ∈ V.names) (hk : (V.nd e).kind = 2) (hn : V.at (split q) = none) {o : Bytes} {i : Nat} (ho : right o = true) (hi : (split o, i) ∈ V.names) (h1 : (V.nd i).kind = 1) :
    V.link o q = (V.name (split q) i, 0) := by
  obtain ⟨t1, t2⟩ := there_name hI ho hi
  unfold Fs.link
  rw [if_neg (by rw [ho, hr]; simp), if_neg (by rw [t2]; decide), t1]
  dsimp only
  have : notFile (V.nd i) = 0 := by unfold notFile; rw [if_neg (by rw [h1]; decide), if_neg (by rw [h1]; decide)]
  rw [if_neg (by rw [this]; decide), (fresh_new hI hr hq he hk hn).2]
  rfl
end

/-- Of what stands below c in S the paths of D are laid below d. V0: the tree ahead of it. -/
structure Laid (S : Fs) (c : Pt) (V0 : Fs) (d : Pt) (D : Pt → Prop) (K : Tak) : Prop where
  inv : K.V.Inv
  ok : K.V.Ok
  adds : Adds d V0 K.V
  ne : ∀ t, D t → t ≠ []
  names : ∀ t j, t ≠ [] → (d ++ t, j) ∈ K.V.names → D t
  there : ∀ t, D t → ∃ j, (d ++ t, j) ∈ K.V.names
  like : ∀ t i j, D t → (c ++ t, i) ∈ S.names → (d ++ t, j) ∈ K.V.names → Lk S K.V i j
  one : ∀ t u i i' j j', D t → D u → (c ++ t, i) ∈ S.names → (c ++ u, i') ∈ S.names → (d ++ t, j) ∈ K.V.names → (d ++ u, j') ∈ K.V.names → (i = i' ↔ j = j')
  laid : ∀ i q, (i, q) ∈ K.L → ∃ (t : Pt) (n : Nat), i = (n : Int) ∧ D t ∧ (c ++ t, n) ∈ S.names ∧ (S.nd n).kind = 1 ∧ right q = true ∧ split q = d ++ t
  all : ∀ (t : Pt) (n : Nat), D t → (c ++ t, n) ∈ S.names → (S.nd n).kind = 1 → laidAt K.L n ≠ none
  used : ∀ t j, D t → (d ++ t, j) ∈ K.V.names → j < V0.next → (j : Int) ∈ K.U

theorem laidAt_snoc_none {L : List (Int × Bytes)} {i k : Int} {q : Bytes} (h : laidAt (L ++ [(k, q)]) i = none) : laidAt L i = none ∧ k ≠ i := by
  unfold laidAt at h ⊢
  rw [Option.map_eq_none_iff, List.find?_append] at h
  rw [Option.map_eq_none_iff]
  cases hf : L.find? (fun y => decide (y.1 = i)) with
  | some y => rw [hf] at h; cases h
  | none =>
    rw [hf] at h
    refine ⟨rfl, fun e => ?_⟩
    simp [e] at h

theorem ok_add {V : Fs} (h : V.Ok) {p : Pt} {n : Nd} (hn : metaOk n.mt = true) (ht : n.kind = 3 → n.target ≠ []) : (V.add p n).Ok := by
  refine ⟨fun i => ?_, fun i => ?_⟩
  · unfold Fs.add
    dsimp only
    split
    · exact hn
    · exact h.mt i
  · unfold Fs.add
    dsimp only
    split
    · exact ht
    · exact h.tg i
theorem ok_lk {V V' : Fs} (h : V.Ok) (hl : ∀ j, Lk V V' j j) : V'.Ok := by
  refine ⟨fun i => ?_, fun i hi => ?_⟩
  · rw [← (hl i).2.1]; exact h.mt i
  · rw [← (hl i).2.2.1]; exact h.tg i ((hl i).1.trans hi)
theorem ok_name {V : Fs} (h : V.Ok) (p : Pt) (i : Nat) : (V.name p i).Ok := ok_lk h fun j => name_lk V p i j
theorem ok_gone {V : Fs} (h : V.Ok) (p : Pt) (i : Nat) : (V.gone p i).Ok := ok_lk h fun j => by
  unfold Lk Fs.gone
  dsimp only
  split
  · rename_i h; subst h; exact ⟨rfl, rfl, rfl, rfl⟩
  · exact ⟨rfl, rfl, rfl, rfl⟩

/-- Something new is laid at d ++ t (a new thing, or another name of j). -/
theorem laid_step {S : Fs} {c : Pt} {V0 : Fs} {d : Pt} {D : Pt → Prop} {K : Tak} (hS : S.Inv) (h : Laid S c V0 d D K) {t : Pt} {i j : Nat} (ht : t ≠ []) (hD : ¬ D t) (hi : (c ++ t, i) ∈ S.names)
    {V' : Fs} {L' : List (Int × Bytes)} {U' : List Int} (hI : V'.Inv) (hM : V'.Ok) (hA : Adds d V0 V') (hnm : ∀ p k, (p, k) ∈ V'.names ↔ (p, k) ∈ K.V.names ∨ (p = d ++ t ∧ k = j))
    (hlk : ∀ p k, (p, k) ∈ K.V.names → Lk K.V V' k k) (hl : Lk S V' i j) (hone : ∀ u i' j', D u → (c ++ u, i') ∈ S.names → (d ++ u, j') ∈ K.V.names → (i = i' ↔ j = j'))
    (hL1 : ∀ k q, (k, q) ∈ L' → (k, q) ∈ K.L ∨ (k = (i : Int) ∧ (S.nd i).kind = 1 ∧ right q = true ∧ split q = d ++ t)) (hL2 : ∀ k : Int, laidAt L' k = none → laidAt K.L k = none ∧ ((S.nd i).kind = 1 → k ≠ i))
    (hU1 : ∀ k ∈ K.U, k ∈ U') (hU2 : j < V0.next → (j : Int) ∈ U') : Laid S c V0 d (fun u => D u ∨ u = t) ⟨V', L', U'⟩ := by
  have hnew : ∀ k, (d ++ t, k) ∈ V'.names ↔ k = j := fun k => by
    rw [hnm]
    constructor
    · rintro (hk | ⟨_, hk⟩)
      · exact absurd (h.names t k ht hk) hD
      · exact hk
    · rintro rfl; exact Or.inr ⟨rfl, rfl⟩
  have hold : ∀ u k, D u → ((d ++ u, k) ∈ V'.names ↔ (d ++ u, k) ∈ K.V.names) := fun u k hu => by
    rw [hnm]
    constructor
    · rintro (hk | ⟨e, _⟩)
      · exact hk
      · exact absurd ((List.append_cancel_left e) ▸ hu) hD
    · exact Or.inl
  refine ⟨hI, hM, hA, ?_, ?_, ?_, ?_, ?_, ?_, ?_, ?_⟩
  · rintro u (hu | rfl)
    · exact h.ne u hu
    · exact ht
  · intro u k hu hk
    rcases (hnm _ _).1 hk with hk | ⟨e, _⟩
    · exact Or.inl (h.names u k hu hk)
    · exact Or.inr (List.append_cancel_left e)
  · rintro u (hu | rfl)
    · obtain ⟨k, hk⟩ := h.there u hu
      exact ⟨k, (hold u k hu).2 hk⟩
    · exact ⟨j, (hnew j).2 rfl⟩
  · rintro u a b (hu | rfl) ha hb
    · have hb := (hold u b hu).1 hb
      exact (h.like u a b hu ha hb).trans (hlk _ _ hb)
    · obtain rfl := (hnew b).1 hb
      obtain rfl := hS.at_one ha hi
      exact hl
  · rintro u v a a' b b' (hu | rfl) (hv | rfl) ha ha' hb hb'
    · exact h.one u v a a' b b' hu hv ha ha' ((hold u b hu).1 hb) ((hold v b' hv).1 hb')
    · obtain rfl := (hnew b').1 hb'
      obtain rfl := hS.at_one ha' hi
      have := hone u a b hu ha ((hold u b hu).1 hb)
      exact ⟨fun e => (this.1 e.symm).symm, fun e => (this.2 e.symm).symm⟩
    · obtain rfl := (hnew b).1 hb
      obtain rfl := hS.at_one ha hi
      exact hone v a' b' hv ha' ((hold v b' hv).1 hb')
    · obtain rfl := (hnew b).1 hb
      obtain rfl := (hnew b').1 hb'
      obtain rfl := hS.at_one ha ha'
      exact ⟨fun _ => rfl, fun _ => rfl⟩
  · intro k q hq
    rcases hL1 k q hq with hq | ⟨rfl, h1, h2, h3⟩
    · obtain ⟨u, n, h1, h2, h3⟩ := h.laid k q hq
      exact ⟨u, n, h1, Or.inl h2, h3⟩
    · exact ⟨t, i, rfl, Or.inr rfl, hi, h1, h2, h3⟩
  · rintro u n (hu | rfl) hn hk e
    · exact h.all u n hu hn hk (hL2 _ e).1
    · obtain rfl := hS.at_one hn hi
      exact (hL2 _ e).2 hk rfl
  · rintro u k (hu | rfl) hk hlt
    · exact hU1 _ (h.used u k hu ((hold u k hu).1 hk) hlt)
    · obtain rfl := (hnew k).1 hk
      exact hU2 hlt

theorem append_dropLast {c t : Pt} (ht : t ≠ []) : (c ++ t).dropLast = c ++ t.dropLast := List.dropLast_append_of_ne_nil ht

set_option maxHeartbeats 1000000 in
theorem thing_step {S : Fs} {c : Pt} {V0 : Fs} {d : Pt} {D : Pt → Prop} {K : Tak} {a p q : Bytes} {t : Pt} {i : Nat} (hS : S.Inv) (hSM : S.Ok) (hV0 : V0.Inv) (h : Laid S c V0 d D K)
    {r : Nat} (hr : (d, r) ∈ V0.names) (hrk : (V0.nd r).kind = 2) (hp : right p = true) (hps : split p = c ++ t) (hq : right q = true) (hqs : split q = d ++ t) (ht : t ≠ []) (hD : ¬ D t)
    (hi : (c ++ t, i) ∈ S.names) (hpar : t.dropLast = [] ∨ D t.dropLast) (hA : a ≠ [] → ¬ d <+: split (a ++ p)) :
    Laid S c V0 d (fun u => D u ∨ u = t) (thingE S a K p q) := by
  have hI := h.inv
  have hq0 : q ≠ [] := fun e => by
    rw [e, split_nil] at hqs
    exact ht (List.append_eq_nil_iff.1 hqs.symm).2
  have hst : S.stat p = (S.tell (split p) i, 0) := stat_name hS hp (by rw [hps]; exact hi)
  have hok := hS.ok hi
  have hlt := (hS.lt _ _ hi).2
  have hpr : ∃ e, ((split q).dropLast, e) ∈ K.V.names ∧ (K.V.nd e).kind = 2 := by
    rw [hqs, append_dropLast ht]
    rcases hpar with e | hd
    · rw [e, List.append_nil]
      exact ⟨r, h.adds.old hr, (h.adds.same r (hV0.lt _ _ hr).2).1.symm.trans hrk⟩
    · obtain ⟨j, hj⟩ := h.there _ hd
      obtain ⟨k, hk, hk2⟩ := hS.up _ _ hi (by simp [ht])
      rw [append_dropLast ht] at hk
      exact ⟨j, hj, (h.like _ k j hd hk hj).1.symm.trans hk2⟩
  obtain ⟨e, he, hek⟩ := hpr
  have hn : K.V.at (split q) = none := Fs.at_none.2 fun j hj => hD (h.names t j ht (by rwa [hqs] at hj))
  have hmt : metaOk (S.nd i).mt = true := hSM.mt i
  have hpre : d <+: split q := by rw [hqs]; exact List.prefix_append _ _
  -- a new thing
  have hadd : ∀ n : Nd, n.links = 1 → NdOk n → metaOk n.mt = true → (n.kind = 3 → n.target ≠ []) → n.kind = (S.nd i).kind → n.mt = (S.nd i).mt → n.target = (S.nd i).target → n.data = (S.nd i).data → (∀ u i', D u → (c ++ u, i') ∈ S.names → i ≠ i') →
      ∀ L', (∀ k q', (k, q') ∈ L' → (k, q') ∈ K.L ∨ (k = (i : Int) ∧ (S.nd i).kind = 1 ∧ right q' = true ∧ split q' = d ++ t)) → (∀ k : Int, laidAt L' k = none → laidAt K.L k = none ∧ ((S.nd i).kind = 1 → k ≠ i)) →
      Laid S c V0 d (fun u => D u ∨ u = t) ⟨K.V.add (split q) n, L', K.U⟩ := by
    intro n n1 n2 n3 n4 k1 k2 k3 k4 hno L' hL1 hL2
    have hself : (K.V.add (split q) n).nd K.V.next = n := if_pos rfl
    have hnx := h.adds.next
    refine laid_step (j := K.V.next) hS h ht hD hi (add_inv hI (split_ne_nil hq0) ⟨q, hq, rfl⟩ he hek hn n1 n2) (ok_add h.ok n3 n4) (h.adds.trans (adds_add _ _ hpre)) (fun p' k => ?_) (fun p' k hk => (adds_add (d := d) K.V n hpre).same k (hI.lt _ _ hk).2) ?_ ?_ hL1 hL2 (fun k hk => hk) (fun hl => by omega)
    · rw [← hqs]; simp [Fs.add]
    · unfold Lk; rw [hself]; exact ⟨k1.symm, k2.symm, k3.symm, k4.symm⟩
    · intro u i' j' hu hi' hj'
      have := (hI.lt _ _ hj').2
      exact ⟨fun e => absurd e (hno u i' hu hi'), fun e => by omega⟩
  -- what is laid below has no other name of i: where i is no file
  have hsingle : (S.nd i).kind ≠ 1 → ∀ u i', D u → (c ++ u, i') ∈ S.names → i ≠ i' := fun hk u i' hu hi' e => by
    subst e
    have := hS.single _ _ hi hk _ hi'
    exact hD ((List.append_cancel_left this) ▸ hu)
  have hE : thingE S a K p q = if (S.nd i).kind = 2 then ⟨(K.V.mkdir q (S.nd i).mt).1, K.L, K.U⟩ else if (S.nd i).kind = 3 then ⟨(K.V.symlink q (S.nd i).target (S.nd i).mt).1, K.L, K.U⟩ else fileE S a K p q (S.tell (split p) i) := by
    unfold thingE
    rw [hst]
    rfl
  rw [hE]
  by_cases k2 : (S.nd i).kind = 2
  · rw [if_pos k2, mkdir_new hI hq hq0 he hek hn hmt]
    exact hadd ⟨2, 1, (S.nd i).mt, [], []⟩ rfl ⟨Or.inr (Or.inl rfl), by simp, by simp, by simp, by simp⟩ hmt (by simp) k2.symm rfl (hok.plain.2.1 (by rw [k2]; decide)).symm (hok.plain.1 (by rw [k2]; decide)).symm (hsingle (by rw [k2]; decide)) K.L (fun k q' hk => Or.inl hk) (fun k hk => ⟨hk, fun e => absurd e (by rw [k2]; decide)⟩)
  rw [if_neg k2]
  by_cases k3 : (S.nd i).kind = 3
  · rw [if_pos k3]
    have htg := hSM.tg i k3
    rw [symlink_new hI hq hq0 he hek hn hmt htg hok.plain.2.2]
    exact hadd ⟨3, 1, (S.nd i).mt, (S.nd i).target, []⟩ rfl ⟨Or.inr (Or.inr rfl), by simp, by simp, by simp, hok.plain.2.2⟩ hmt (fun _ => htg) k3.symm rfl rfl (hok.plain.1 (by rw [k3]; decide)).symm (hsingle (by rw [k3]; decide)) K.L (fun k q' hk => Or.inl hk) (fun k hk => ⟨hk, fun e => absurd e (by rw [k3]; decide)⟩)
  rw [if_neg k3]
  have k1 : (S.nd i).kind = 1 := by rcases hok.kind with h | h | h; exact h; exact absurd h k2; exact absurd h k3
  -- another name
  have hname : ∀ j, (∃ p', (p', j) ∈ K.V.names) → Lk S K.V i j → (∀ u i' j', D u → (c ++ u, i') ∈ S.names → (d ++ u, j') ∈ K.V.names → (i = i' ↔ j = j')) → ∀ o, right o = true → (split o, j) ∈ K.V.names →
      ∀ L' U', (∀ k q', (k, q') ∈ L' → (k, q') ∈ K.L ∨ (k = (i : Int) ∧ (S.nd i).kind = 1 ∧ right q' = true ∧ split q' = d ++ t)) → (∀ k : Int, laidAt L' k = none → laidAt K.L k = none ∧ ((S.nd i).kind = 1 → k ≠ i)) → (∀ k ∈ K.U, k ∈ U') → (j < V0.next → (j : Int) ∈ U') →
      Laid S c V0 d (fun u => D u ∨ u = t) ⟨(K.V.link o q).1, L', U'⟩ := by
    intro j hj hl hone o ho hoj L' U' hL1 hL2 hU1 hU2
    have hjk : (K.V.nd j).kind = 1 := hl.1.symm.trans k1
    rw [link_new hI hq hq0 he hek hn ho hoj hjk]
    refine laid_step (j := j) hS h ht hD hi (name_inv hI (split_ne_nil hq0) ⟨q, hq, rfl⟩ he hek hn hoj hjk) (ok_name h.ok _ _) (h.adds.trans (adds_name _ _ hpre)) (fun p' k => ?_) (fun p' k hk => name_lk _ _ _ _) (hl.trans (name_lk _ _ _ _)) hone hL1 hL2 hU1 hU2
    rw [← hqs]; simp [Fs.name]
  have hE2 : fileE S a K p q (S.tell (split p) i) = match laidAt K.L i with
    | some o => ⟨(K.V.link o q).1, K.L, K.U⟩
    | none => match sharedE K.V a K.U p (S.tell (split p) i) (S.read p).1 with
      | (some o, U) => ⟨(K.V.link o q).1, K.L ++ [((i : Int), q)], U⟩
      | (none, U) => ⟨(K.V.write q (S.read p).1 (S.nd i).mt).1, K.L ++ [((i : Int), q)], U⟩ := rfl
  rw [hE2]
  clear hE hE2
  cases hla : laidAt K.L i with
  | some o =>
    dsimp only
    obtain ⟨u, n, e1, e2, e3, e4, e5, e6⟩ := h.laid _ _ (laidAt_some hla)
    obtain rfl : i = n := by omega
    obtain ⟨j, hj⟩ := h.there u e2
    refine hname j ⟨_, hj⟩ (h.like u i j e2 e3 hj) (fun v i' j' hv hi' hj' => h.one u v i i' j j' e2 hv e3 hi' hj hj') o e5 (by rw [e6]; exact hj) K.L K.U (fun k q' hk => Or.inl hk) (fun k hk => ⟨hk, fun _ e => ?_⟩) (fun k hk => hk) (fun hl => h.used u j e2 hj hl)
    rw [e, hla] at hk; cases hk
  | none =>
    dsimp only
    have hno : ∀ u i', D u → (c ++ u, i') ∈ S.names → i ≠ i' := fun u i' hu hi' e => by
      subst e
      exact h.all u i hu hi' k1 hla
    have hL1 : ∀ k q', (k, q') ∈ K.L ++ [((i : Int), q)] → (k, q') ∈ K.L ∨ (k = (i : Int) ∧ (S.nd i).kind = 1 ∧ right q' = true ∧ split q' = d ++ t) := fun k q' hk => by
      rcases List.mem_append.1 hk with hk | hk
      · exact Or.inl hk
      · simp only [List.mem_singleton, Prod.mk.injEq] at hk
        obtain ⟨rfl, rfl⟩ := hk
        exact Or.inr ⟨rfl, k1, hq, hqs⟩
    have hL2 : ∀ k : Int, laidAt (K.L ++ [((i : Int), q)]) k = none → laidAt K.L k = none ∧ ((S.nd i).kind = 1 → k ≠ i) := fun k hk => by
      obtain ⟨h1, h2⟩ := laidAt_snoc_none hk
      exact ⟨h1, fun _ e => h2 e.symm⟩
    have hrd : S.read p = ((S.nd i).data, 0) := read_name hS hp (by rw [hps]; exact hi) k1
    rw [hrd]
    dsimp only
    by_cases hc : a ≠ [] ∧ (K.V.stat (a ++ p)).2 = 0 ∧ (K.V.stat (a ++ p)).1.kind = 1 ∧ (K.V.stat (a ++ p)).1.mt = (S.tell (split p) i).mt ∧ (K.V.stat (a ++ p)).1.ino ∉ K.U ∧ (K.V.read (a ++ p)).2 = 0 ∧ (S.nd i).data = (K.V.read (a ++ p)).1
    · obtain ⟨ha, hc⟩ := hc
      have hs : sharedE K.V a K.U p (S.tell (split p) i) (S.nd i).data = (some (a ++ p), K.U ++ [(K.V.stat (a ++ p)).1.ino]) := by
        unfold sharedE
        rw [if_neg ha, if_pos hc]
      rw [hs]
      dsimp only
      obtain ⟨c1, c2, c3, c4, c5, c6⟩ := hc
      obtain ⟨hra, j, hj, hsj⟩ := stat_zero hI c1
      have hsj2 : (K.V.stat (a ++ p)).1 = K.V.tell (split (a ++ p)) j := by rw [hsj]
      rw [hsj2] at c2 c3 c4 ⊢
      dsimp only [Fs.tell] at c2 c3 c4 ⊢
      have hjr := read_name hI hra hj c2
      rw [hjr] at c6
      have hold : (split (a ++ p), j) ∈ V0.names := (h.adds.out (hA ha)).1 hj
      have hjl := (hV0.lt _ _ hold).2
      have hfr : ∀ u j', D u → (d ++ u, j') ∈ K.V.names → j ≠ j' := fun u j' hu hj' e => by
        subst e
        exact c4 (h.used u j hu hj' hjl)
      have hokj := hI.ok hj
      refine hname j ⟨_, hj⟩ ⟨k1.trans c2.symm, c3.symm, ?_, c6⟩ (fun v i' j' hv hi' hj' => ⟨fun e => absurd e (hno v i' hv hi'), fun e => absurd e (hfr v j' hv hj')⟩) (a ++ p) hra hj _ _ hL1 hL2 (fun k hk => List.mem_append_left _ hk) (fun _ => List.mem_append_right _ (by simp))
      rw [hok.plain.2.1 (by rw [k1]; decide), hokj.plain.2.1 (by rw [c2]; decide)]
    · have hs : sharedE K.V a K.U p (S.tell (split p) i) (S.nd i).data = (none, K.U) := by
        unfold sharedE
        by_cases ha : a = []
        · rw [if_pos ha]
        · rw [if_neg ha, if_neg (fun h => hc ⟨ha, h⟩)]
      rw [hs]
      dsimp only
      rw [write_new hI hq hq0 he hek hn hmt hok.data]
      exact hadd ⟨1, 1, (S.nd i).mt, [], (S.nd i).data⟩ rfl ⟨Or.inl rfl, hok.data, by simp, by simp, by simp⟩ hmt (by simp) k1.symm rfl (hok.plain.2.1 (by rw [k1]; decide)).symm rfl hno _ hL1 hL2
end Go.Proofs.YtocbjhhnginebaaGreat

namespace Go.Proofs.YtocbjhhnginebaaGreat

/-- Paths are laid one after the other: p at f p. -/
def layK (S : Fs) (a : Bytes) (f : Bytes → Bytes) (K : Tak) (l : List Bytes) : Tak := l.foldl (fun K p => thingE S a K p (f p)) K
theorem layK_snoc (S : Fs) (a : Bytes) (f : Bytes → Bytes) (K : Tak) {l : List Bytes} {k : Nat} (hk : k < l.length) : layK S a f K (l.take (k + 1)) = thingE S a (layK S a f K (l.take k)) l[k] (f l[k]) := by
  unfold layK
  rw [List.take_succ_eq_append_getElem hk, List.foldl_append]
  rfl
theorem grow_mkdir (T : Fs) (q : Bytes) (m : Mt) : Grow T (T.mkdir q m).1 := by simpa [Fs.act] using grow_act T ⟨0, q, [], [], m⟩
theorem grow_write (T : Fs) (q b : Bytes) (m : Mt) : Grow T (T.write q b m).1 := by simpa [Fs.act] using grow_act T ⟨1, q, [], b, m⟩
theorem grow_symlink (T : Fs) (q t : Bytes) (m : Mt) : Grow T (T.symlink q t m).1 := by simpa [Fs.act] using grow_act T ⟨2, q, t, [], m⟩
theorem grow_link (T : Fs) (o q : Bytes) : Grow T (T.link o q).1 := by simpa [Fs.act] using grow_act T ⟨3, o, q, [], noMt⟩
theorem thing_grow (S : Fs) (a : Bytes) (K : Tak) (p q : Bytes) : Grow K.V (thingE S a K p q).V ∧ ∀ y ∈ (thingE S a K p q).L, y ∈ K.L ∨ y.2 = q := by
  have hl : ∀ (i : Int) (y : Int × Bytes), y ∈ K.L ++ [(i, q)] → y ∈ K.L ∨ y.2 = q := fun i y hy => by
    rcases List.mem_append.1 hy with h | h
    · exact Or.inl h
    · rw [List.mem_singleton] at h; subst h; exact Or.inr rfl
  unfold thingE
  split
  · exact ⟨grow_refl _, fun y hy => Or.inl hy⟩
  · split
    · exact ⟨grow_mkdir _ _ _, fun y hy => Or.inl hy⟩
    · split
      · exact ⟨grow_symlink _ _ _ _, fun y hy => Or.inl hy⟩
      · unfold fileE
        split
        · exact ⟨grow_link _ _ _, fun y hy => Or.inl hy⟩
        · split
          · exact ⟨grow_link _ _ _, hl _⟩
          · exact ⟨grow_write _ _ _ _, hl _⟩
theorem layK_grow (S : Fs) (a : Bytes) (f : Bytes → Bytes) (K : Tak) (l : List Bytes) : ∀ k, k ≤ l.length →
    (layK S a f K (l.take k)).V.names.length ≤ K.V.names.length + k ∧ (layK S a f K (l.take k)).V.next ≤ K.V.next + k ∧ ∀ y ∈ (layK S a f K (l.take k)).L, y ∈ K.L ∨ ∃ p ∈ l, y.2 = f p := by
  intro k
  induction k with
  | zero => intro _; exact ⟨Nat.le_refl _, Nat.le_refl _, fun y hy => Or.inl hy⟩
  | succ k ih =>
    intro hk
    obtain ⟨h1, h2, h3⟩ := ih (by omega)
    rw [layK_snoc S a f K (show k < l.length by omega)]
    obtain ⟨⟨g1, g2⟩, g3⟩ := thing_grow S a (layK S a f K (l.take k)) l[k] (f l[k])
    refine ⟨by omega, by omega, fun y hy => ?_⟩
    rcases g3 y hy with h | h
    · exact h3 y h
    · exact Or.inr ⟨_, List.getElem_mem _, h⟩

/-- The newest snapshot's number, and what stands ahead of a path in it. -/
def Fs.lastNum (V : Fs) : Int := (V.shots.getLast?.map (·.2)).getD 0
def Fs.lastTop (V : Fs) : Bytes := (V.shots.getLast?.map fun y => y.1 ++ [47]).getD []
def belowName (nm p : Bytes) : Bytes := nm ++ 47 :: p
def takeStart (V : Fs) (nm : Bytes) : Tak := ⟨(V.mkdir nm ⟨493, V.lastNum + 1, 0, 0, 0⟩).1, [], []⟩
def takeK (V : Fs) (nm : Bytes) (S : Fs) (l : List Bytes) : Tak := layK S V.lastTop (belowName nm) (takeStart V nm) l
def takeE (V : Fs) (nm : Bytes) (S : Fs) : Fs × Int :=
  if mayS nm = false then (V, 9) else if (V.stat nm).2 = 0 then (V, 11) else
  if 1099511627776 ≤ V.lastNum ∨ (S.belowS []).any (tooBig nm) = true then (V, 7) else ((takeK V nm S (S.belowS [])).V, 0)
def fromName (nm p : Bytes) : Bytes := trimP p (nm ++ [47])
def restK (V : Fs) (nm : Bytes) (l : List Bytes) : Tak := layK V [] (fromName nm) ⟨Fs.start, [], []⟩ l
theorem lastNum_nil {V : Fs} (h : V.shots = []) : V.lastNum = 0 ∧ V.lastTop = [] := by
  unfold Fs.lastNum Fs.lastTop
  rw [h]
  exact ⟨rfl, rfl⟩
theorem lastNum_at {V : Fs} {k : Nat} (h : V.shots.length = k + 1) : V.lastNum = (V.shots[k]'(by omega)).2 ∧ V.lastTop = (V.shots[k]'(by omega)).1 ++ [47] := by
  unfold Fs.lastNum Fs.lastTop
  have e : V.shots.getLast? = some (V.shots[k]'(by omega)) := by
    rw [List.getLast?_eq_getElem?, List.getElem?_eq_getElem (by omega)]
    congr 2
    omega
  rw [e]
  exact ⟨rfl, rfl⟩
theorem belowS_short {S : Fs} (hI : S.Inv) {top p : Bytes} (h : p ∈ S.belowS top) : p.length ≤ 200 := path_short hI (List.mem_filter.1 h).1
theorem belowS_few {S : Fs} {top : Bytes} : (S.belowS top).length ≤ S.names.length := by
  unfold Fs.belowS
  refine Nat.le_trans (List.length_filter_le _ _) ?_
  rw [paths_len]
  exact below_few S []
theorem shots_short {V : Fs} (hI : V.Inv) {y : Sh.Shot} (h : y ∈ V.shots) : y.1.length ≤ 200 := right_short (top_name hI (shots_mem.1 h).1).1
end Go.Proofs.YtocbjhhnginebaaGreat

namespace Go.Proofs.YtocbjhhnginebaaGreat
open Go.RowKit

theorem Strs.of_strs {B : Nat} {w w' : World} {v : Value} {l : List Bytes} (h : Strs B w v l) (hb : ∀ (g : Nat) (cs : Array Value), w.heap[g]? = some (.cells cs 9 (0, 0)) → w'.heap[g]? = w.heap[g]?) : Strs B w' v l := by
  obtain ⟨h1, h2⟩ := h
  refine ⟨h1, ?_⟩
  rcases h2 with k | ⟨g, cap, cur, e1, e2, e3, e4⟩
  · exact Or.inl k
  · exact Or.inr ⟨g, cap, cur, e1, e2, (hb g cur e3).trans e3, e4⟩
theorem TakM.strs {w w' : World} {xb tb sb lb : Nat} {A M B N : Nat → Nat} {S : Fs} {a : Bytes} {uv : Option Nat} {K : Tak} (h : TakM w xb tb A M sb B N S a lb uv K) (ht : Turn w w' (fun b => Own tb A M K.V b ∨ b = lb ∨ uv = some b)) {C : Nat} {v : Value} {l : List Bytes} (hv : Strs C w v l) : Strs C w' v l :=
  Strs.of_strs hv fun g cs hg => h.keeps ht hg (by decide) (by decide)
/-- Seen from further back a taker's steps are steps on the tree that it lays into. -/
theorem TakS.stp {w0 w w' : World} {xb tb sb lb : Nat} {A M B N : Nat → Nat} {S : Fs} {a : Bytes} {uv : Option Nat} {K K' : Tak} (hB : Below w0.heap.size w0 w) (hl : w0.heap.size ≤ lb) (hu : ∀ ub, uv = some ub → w0.heap.size ≤ ub) (h : TakS w w' xb tb A M sb B N S a lb uv K K') : Stp w0 w' tb A M K.V K'.V := by
  obtain ⟨A', M', h1, h2, h3⟩ := h
  refine ⟨A', M', h1.v, (Turn.of_below hB _).trans (h2.mono fun i _ hi => ?_), fun b hb => (h3 b hb).imp id (fun h => Nat.le_trans hB.size h)⟩
  rcases hi with hi | rfl | hi
  · exact Or.inl hi
  · exact Or.inr hl
  · exact Or.inr (hu _ hi)
theorem set_other {w : World} {g k : Nat} (i : Nat) (v : Value) (h : g ≠ k) : (w.setCell ⟨g, i, none⟩ v).heap[k]? = w.heap[k]? := by
  show (w.heap.modify g _)[k]? = _
  rw [Array.getElem?_modify, if_neg h]

set_option maxHeartbeats 8000000 in
set_option maxRecDepth 100000 in
theorem take_calls (tb : Nat) (A M : Nat → Nat) (V : Fs) (sb : Nat) (B N : Nat → Nat) (S : Fs) (nm : Bytes) (w : World) (hR : Rep w tb A M V) (hS : Rep w sb B N S) (hM : MtAll V) (hn : nm.length ≤ 1000000)
    (hf : V.names.length + S.names.length ≤ 500000) (hnx : V.next + S.names.length < 4611686018427387000) :
    Calls Tryz.prog 12 #[ptr tb, .string (mkS nm), ptr sb] w fun e w' => e = .returned (.int .i64 (takeE V nm S).2) ∧ Stp w w' tb A M V (takeE V nm S).1 := by
  have hE : takeE V nm S = if mayS nm = false then (V, 9) else if (V.stat nm).2 = 0 then (V, 11) else
    if 1099511627776 ≤ V.lastNum ∨ (S.belowS []).any (tooBig nm) = true then (V, 7) else ((takeK V nm S (S.belowS [])).V, 0) := rfl
  have hmy : ∀ W, Calls Tryz.prog 32 #[.string (mkS nm)] W fun e w' => e = .returned (.bool (mayS nm)) ∧ Below W.heap.size W w' := fun W => by
    have h := snapmay_calls (mkS nm) W (by rw [mkS_size]; omega)
    rwa [bl_mkS] at h
  have hst := fun W (hB : Below w.heap.size w W) => stat_bl tb A M V nm W (hR.below hB) (by omega)
  have hcp := fun W (hB : Below w.heap.size w W) => copy_calls sb B N S W (hS.below hB)
  have hbl := fun W tc C MC (hC : Rep W tc C MC S) => below_calls tc C MC S [] W hC (by simp) (by omega)
  have hsh := fun W (hB : Below w.heap.size w W) => shots_calls tb A M V W (hR.below hB) hM (by omega)
  have hsame := fun W (hB : Below w.heap.size w W) => Stp.same hR hB
  rw [show mkS [] = (⟨#[]⟩ : ByteArray) from rfl] at hbl
  generalize takeE V nm S = te at *
  generalize hst0 : V.stat nm = st at *
  obtain ⟨st, se⟩ := st
  obtain ⟨s1, s2, s3, s4, mt, s5⟩ := st
  obtain ⟨m1, m2, m3, m4, m5⟩ := mt
  have hBx := below_alloc (Below.refl _ w) (.cells #[.string (mkS nm)] 9)
  have hbx := heap_alloc_new w (.cells #[.string (mkS nm)] 9)
  have cx := cell_of (j := 0) (v := .string (mkS nm)) hbx rfl
  unfold statV statCells ptr at *
  dsimp only at *
  replace hR := Lib.hid hR
  replace hS := Lib.hid hS
  replace hM := Lib.hid hM
  replace hmy := Lib.hid hmy
  replace hst := Lib.hid hst
  replace hcp := Lib.hid hcp
  replace hbl := Lib.hid hbl
  replace hsh := Lib.hid hsh
  replace hsame := Lib.hid hsame
  replace hE := Lib.hid hE
  replace hBx := Lib.hid hBx
  replace hbx := Lib.hid hbx
  replace hst0 := Lib.hid hst0
  go_enter Tryz.func12, Tryz.ntmps12
  go_upto_region 3 with fail
  generalize (w.alloc (.cells #[.string (mkS nm)] 9)) = w1 at *
  cases hm : mayS nm with
  | false =>
    have hE := hE.out
    rw [if_pos hm] at hE
    have h := hmy.out w1
    rw [hm] at h
    have hs := fun W h => hsame.out W (below_step hBx.out h)
    subst hE
    replace h := Lib.hid h
    replace hs := Lib.hid hs
    replace hm := Lib.hid hm
    go_wp2_with fail
    (with_reducible refine (h.out).mono ?_)
    rintro e w2 ⟨rfl, hB2⟩
    go_wp2
    go_ret
    exact ⟨rfl, hs.out _ hB2⟩
  | true =>
    have hE := hE.out
    rw [if_neg (by rw [hm]; decide)] at hE
    have h := hmy.out w1
    rw [hm] at h
    replace h := Lib.hid h
    replace hE := Lib.hid hE
    replace hm := Lib.hid hm
    go_wp2_with fail
    (with_reducible refine (h.out).mono ?_)
    rintro e w2 ⟨rfl, hB2⟩
    have hBw2 := below_step hBx.out hB2
    have c2 := (hB2.cell (cell_lt cx)).trans cx
    have h3 := hst.out w2 hBw2
    replace hBw2 := Lib.hid hBw2
    replace h3 := Lib.hid h3
    clear cx h
    go_wp2_with fail
    (with_reducible refine (h3.out).mono ?_)
    rintro e w3 ⟨rfl, hB3⟩
    have c3 := (hB3.cell (cell_lt c2)).trans c2
    have hBw3 := below_step hBw2.out hB3
    have hV3 := below_step hB2 hB3
    have hB4 := below_alloc (Below.refl w3.heap.size w3) (.cells #[.int .i64 s1, .int .i64 s2, .int .i64 s3, .int .i64 s4, .int .i64 m1, .int .i64 m2, .int .i64 m3, .int .i64 m4, .int .i64 m5, .string (mkS s5)] 42)
    have c4 := (hB4.cell (cell_lt c3)).trans c3
    have hBw4 := below_step hBw3 hB4
    have hV4 := below_step hV3 hB4
    have hs4 := hsame.out _ hBw4
    have h5 := hcp.out _ hBw4
    clear c2 c3 hB3 hB4 hBw3 hV3
    replace hBw4 := Lib.hid hBw4
    replace hs4 := Lib.hid hs4
    replace h5 := Lib.hid h5
    replace hV4 := Lib.hid hV4
    by_cases z1 : se = 0
    · have hE := hE.out
      rw [if_pos z1] at hE
      subst hE z1
      go_wp2
      go_ret
      exact ⟨rfl, hs4.out⟩
    · have hE := hE.out
      rw [if_neg z1] at hE
      have t1 : (se == 0) = false := by simpa using z1
      replace z1 := Lib.hid z1
      replace hE := Lib.hid hE
      go_wp2_with fail
      generalize (w3.alloc (.cells #[.int .i64 s1, .int .i64 s2, .int .i64 s3, .int .i64 s4, .int .i64 m1, .int .i64 m2, .int .i64 m3, .int .i64 m4, .int .i64 m5, .string (mkS s5)] 42)) = w4 at *
      (with_reducible refine (h5.out).mono ?_)
      rintro e w5 ⟨tc, C, MC, rfl, hC, hCo, hB5⟩
      have c5 := (hB5.cell (cell_lt c4)).trans c4
      have hBw5 := below_step hBw4.out hB5
      have hV5 := below_step hV4.out hB5
      have h6 := hbl.out w5 tc C MC hC
      replace hC := Lib.hid hC
      replace hCo := Lib.hid hCo
      replace hBw5 := Lib.hid hBw5
      replace h6 := Lib.hid h6
      replace hV5 := Lib.hid hV5
      clear c4 h5 hs4
      go_wp2_with fail
      (with_reducible refine (h6.out).mono ?_)
      rintro e w6 ⟨⟨va, rfl, hSa⟩, hB6⟩
      have c6 := (hB6.cell (cell_lt c5)).trans c5
      have hBw6 := below_step hBw5.out hB6
      have hV6 := below_step hV5.out hB6
      have h7 := hsh.out w6 hBw6
      have hCd := hC.out.below hB6
      obtain ⟨aA, ac, rfl, ha1, ha2⟩ := own_shape hSa.own
      replace hSa := Lib.hid hSa
      replace hB6 := Lib.hid hB6
      replace hBw6 := Lib.hid hBw6
      replace h7 := Lib.hid h7
      replace hCd := Lib.hid hCd
      replace hV6 := Lib.hid hV6
      clear c5 h6
      go_wp2_with fail
      (with_reducible refine (h7.out).mono ?_)
      rintro e w7 ⟨⟨vs, rfl, hSs⟩, hB7⟩
      have c7 := (hB7.cell (cell_lt c6)).trans c6
      have hRs := hSs.rd
      obtain ⟨sA, sc, rfl, hs1, hs2⟩ := hRs.shape
      have hBw7 := below_step hBw6.out hB7
      have hV7 := below_step hV6.out hB7
      have hSa7 := own_below hSa.out hB7
      have hCe := hCd.out.below hB7
      have hm1 : MapIs (w7.alloc (.map #[] 0)) w7.heap.size [] := mapIs_made w7
      have hB8 := below_alloc (Below.refl w7.heap.size w7) (.map #[] 0)
      have hm2 : MapIs ((w7.alloc (.map #[] 0)).alloc (.map #[] 0)) (w7.heap.size + 1) [] := by
        have := mapIs_made (w7.alloc (.map #[] 0))
        rwa [show (w7.alloc (.map #[] 0)).heap.size = w7.heap.size + 1 by simp] at this
      have hm3 : MapIs ((w7.alloc (.map #[] 0)).alloc (.map #[] 0)) w7.heap.size [] := hm1.kept (World.grownBy_alloc _ _ none) (by simp)
      have hB9 : Below w7.heap.size w7 ((w7.alloc (.map #[] 0)).alloc (.map #[] 0)) := below_alloc hB8 _
      have hsz : ((w7.alloc (.map #[] 0)).alloc (.map #[] 0)).heap.size = w7.heap.size + 2 := by simp
      have hmk := @run_makeMap Tryz.prog
      unfold maxLen at hs2
      clear hm1 hB8 c6 h7
      replace hV7 := Lib.hid hV7
      replace hRs := Lib.hid hRs
      replace hBw7 := Lib.hid hBw7
      replace hSa7 := Lib.hid hSa7
      replace hCe := Lib.hid hCe
      replace hm2 := Lib.hid hm2
      replace hB9 := Lib.hid hB9
      replace hsz := Lib.hid hsz
      replace hSs := Lib.hid hSs
      replace hm3 := Lib.hid hm3
      replace hB7 := Lib.hid hB7
      go_upto_if 50 with fail
      have hb8 := heap_alloc_new ((w7.alloc (.map #[] 0)).alloc (.map #[] 0)) (.cells #[.pointer (some ⟨tb, 0, none⟩), .pointer (some ⟨tc, 0, none⟩), .string ⟨#[]⟩, .map (some w7.heap.size), .map (some (w7.heap.size + 1))] 75)
      have hB8 := below_alloc hB9.out (.cells #[.pointer (some ⟨tb, 0, none⟩), .pointer (some ⟨tc, 0, none⟩), .string ⟨#[]⟩, .map (some w7.heap.size), .map (some (w7.heap.size + 1))] 75)
      have hq1 := hm3.out.kept (World.grownBy_alloc _ (.cells #[.pointer (some ⟨tb, 0, none⟩), .pointer (some ⟨tc, 0, none⟩), .string ⟨#[]⟩, .map (some w7.heap.size), .map (some (w7.heap.size + 1))] 75) none) (by simp)
      have hq2 := hm2.out.kept (World.grownBy_alloc _ (.cells #[.pointer (some ⟨tb, 0, none⟩), .pointer (some ⟨tc, 0, none⟩), .string ⟨#[]⟩, .map (some w7.heap.size), .map (some (w7.heap.size + 1))] 75) none) (by simp)
      rw [hsz.out] at hb8
      have c8 := (hB8.cell (cell_lt c7)).trans c7
      clear hm2 hm3 hB9 hsz c7 hmk
      replace hb8 := Lib.hid hb8
      replace hB8 := Lib.hid hB8
      replace hq1 := Lib.hid hq1
      replace hq2 := Lib.hid hq2
      generalize ((w7.alloc (.map #[] 0)).alloc (.map #[] 0)).alloc (.cells #[.pointer (some ⟨tb, 0, none⟩), .pointer (some ⟨tc, 0, none⟩), .string ⟨#[]⟩, .map (some w7.heap.size), .map (some (w7.heap.size + 1))] 75) = w8 at *
      have hRs8 := hRs.out.below hB8.out
      go_cut [12] (fun x W => x = .int .i64 V.lastNum ∧ W.heap[w7.heap.size + 1 + 1]? = some (.cells #[.pointer (some ⟨tb, 0, none⟩), .pointer (some ⟨tc, 0, none⟩), .string (mkS V.lastTop), .map (some w7.heap.size), .map (some (w7.heap.size + 1))] 75 (0, 0)) ∧ MapIs W w7.heap.size [] ∧ MapIs W (w7.heap.size + 1) [] ∧ Below w7.heap.size w7 W)
      case first =>
        by_cases hL : V.shots.length = 0
        · obtain ⟨hn1, hn2⟩ := lastNum_nil (List.eq_nil_of_length_eq_zero hL)
          have hfin := And.intro hb8.out (And.intro hq1.out (And.intro hq2.out hB8.out))
          replace hfin := Lib.hid hfin
          replace hn1 := Lib.hid hn1
          replace hn2 := Lib.hid hn2
          clear hRs8 c8
          have hl2 : ¬ (0 < V.shots.length) := by omega
          clear hL
          go_wp2
          go_meet
          exact ⟨by rw [hn1.out], by rw [hn2.out]; exact hfin.out⟩
        · obtain ⟨k, hk⟩ : ∃ k, V.shots.length = k + 1 := ⟨V.shots.length - 1, by omega⟩
          obtain ⟨hn1, hn2⟩ := lastNum_at hk
          obtain ⟨g, o, rfl, r1, r2⟩ := hRs8.at (show k < V.shots.length by omega)
          have hys := shots_short hR.out.inv (List.getElem_mem (show k < V.shots.length by omega))
          generalize V.shots[k] = y at *
          obtain ⟨q, n⟩ := y
          dsimp only at *
          have hw : IntKind.i64.wrap ((V.shots.length : Int) - 1) = (k : Int) := by rw [IntWalk.i64_in _ (by omega)]; omega
          have hl2 : 0 < V.shots.length := by omega
          have hki : (k : Int) < (V.shots.length : Int) := by omega
          clear hL
          replace hn1 := Lib.hid hn1
          replace hn2 := Lib.hid hn2
          replace hk := Lib.hid hk
          replace hys := Lib.hid hys
          replace hRs8 := Lib.hid hRs8
          go_wp2_with fail
          have e1 : mkS q ++ ⟨#[47]⟩ = mkS (q ++ [47]) := mkS_append q [47]
          have z1 : ¬ (9223372036854775807 < (mkS q).size + 1) := by rw [mkS_size]; have := hys.out; omega
          have x2 : w8.cell? ⟨w7.heap.size + 1 + 1, 2, none⟩ = some (.string ⟨#[]⟩) := cell_of (j := 2) (v := .string ⟨#[]⟩) hb8.out rfl
          have xf : w8.frozen? ⟨w7.heap.size + 1 + 1, 2, none⟩ = false := by simp [World.frozen?, hb8.out]
          have hBd := below_drewN hB8.out 1
          have hfin : ∀ v : Value, _ := fun v => And.intro (Sh.blk_set (w := w8.drew) hb8.out 2 v) (And.intro (hq1.out.of_block (set_other (w := w8.drew) (g := w7.heap.size + 1 + 1) 2 v (by omega))) (And.intro (hq2.out.of_block (set_other (w := w8.drew) (g := w7.heap.size + 1 + 1) 2 v (by omega))) (Below.setCell hBd (p := ⟨w7.heap.size + 1 + 1, 2, none⟩) (show w7.heap.size ≤ w7.heap.size + 1 + 1 by omega) v)))
          replace hfin := Lib.hid hfin
          replace hBd := Lib.hid hBd
          clear c8
          refine wp_region_still_tail 16 (by kernel_rfl) (by kernel_rfl) ?_
          simp only [List.take_succ_cons, List.take_zero, List.drop_succ_cons, List.drop_zero]
          iterate 16 still_step
          refine wpStill_nil ?_
          change wpList _ _ _ _ _ w8.drew
          go_wp2_with fail
          go_meet
          exact ⟨by rw [hn1.out], by rw [hn2.out]; exact hfin.out _⟩
      case rest =>
        obtain ⟨rfl, hb, hq3, hq4, hB10⟩ := hcut
        have hBwc := below_step hBw7.out hB10
        have hK : TakM wc (w7.heap.size + 1 + 1) tb A M tc C MC S V.lastTop w7.heap.size (some (w7.heap.size + 1)) ⟨V, [], []⟩ := by
          have h1 := hBw7.out.size
          have h2 := hBw4.out.size
          refine ⟨hR.out.below hBwc, hCe.out.below hB10, fun b h3 h4 => ?_, hb, hq3, fun h => ?_, fun h => ?_, fun ub e => ?_, fun e => by cases e⟩
          · have := hR.out.lt h4; have := hCo.out b h3; omega
          · have := hR.out.lt h; omega
          · have := hCe.out.lt h; omega
          · cases e
            refine ⟨hq4, by omega, fun h => ?_, fun h => ?_⟩
            · have := hR.out.lt h; omega
            · have := hCe.out.lt h; omega
        have hSc := own_below hSa7.out hB10
        have hVc := below_step hV7.out hB10
        have hbn := (hVc.block w.heap.size (Array.getElem?_eq_some_iff.1 hbx.out).1).trans hbx.out
        have cc := cell_of (j := 0) (v := .string (mkS nm)) hbn rfl
        have hlo : 0 ≤ V.lastNum := by
          by_cases hL : V.shots.length = 0
          · rw [(lastNum_nil (List.eq_nil_of_length_eq_zero hL)).1]; decide
          · obtain ⟨k, hk⟩ : ∃ k, V.shots.length = k + 1 := ⟨V.shots.length - 1, by omega⟩
            have := shotOf_ok hM.out (shots_mem.1 (List.getElem_mem (show k < V.shots.length by omega))).2
            rw [(lastNum_at hk).1]
            omega
        have hla : V.lastTop.length ≤ 1000000 := by
          by_cases hL : V.shots.length = 0
          · rw [(lastNum_nil (List.eq_nil_of_length_eq_zero hL)).2]; simp
          · obtain ⟨k, hk⟩ : ∃ k, V.shots.length = k + 1 := ⟨V.shots.length - 1, by omega⟩
            have := shots_short hR.out.inv (List.getElem_mem (show k < V.shots.length by omega))
            rw [(lastNum_at hk).2]
            simp
            omega
        have hps := fun p hp => belowS_short hS.out.inv (top := []) (p := p) hp
        have hpf := belowS_few (S := S) (top := [])
        have hcon := contains_calls (.slice aA (S.belowS []).length ac) (S.belowS []) nm w.heap.size wc (Strs.rd hSc) (fun y hy => by have := hps y hy; omega) hn cc (by omega)
        have hsc := hsame.out wc hBwc
        have hgr := layK_grow S V.lastTop (belowName nm) (takeStart V nm) (S.belowS [])
        have hst := grow_mkdir V nm ⟨493, V.lastNum + 1, 0, 0, 0⟩
        have hnm2 : nm.length ≤ 200 := by
          have h := hm.out
          unfold mayS at h
          simp only [Bool.and_eq_true] at h
          exact right_short h.1.1
        generalize hAL : S.belowS [] = AL at *
        have hbd : ∀ k, k ≤ AL.length → (takeK V nm S (AL.take k)).V.names.length ≤ 1000000 ∧ (takeK V nm S (AL.take k)).V.next < 4611686018427387904 ∧ ∀ y ∈ (takeK V nm S (AL.take k)).L, y.2.length ≤ 1000000 := fun k hk => by
          obtain ⟨g1, g2, g3⟩ := hgr k hk
          have h1 : (takeStart V nm).V.names.length ≤ V.names.length + 1 := hst.1
          have h2 : (takeStart V nm).V.next ≤ V.next + 1 := hst.2
          refine ⟨Nat.le_trans g1 (by omega), Nat.lt_of_le_of_lt g2 (by omega), fun y hy => ?_⟩
          rcases g3 y hy with h | ⟨p, hp, e⟩
          · exact absurd h (by simp [takeStart])
          · rw [e]
            have := hps p hp
            unfold belowName
            rw [List.length_append, List.length_cons]
            omega
        clear hgr hst
        have hE := hE.out
        unfold maxLen at ha2
        clear c8 hRs8 hB2 hB5 hRs hSa hSa7 hCe hCd hSs hB7 hV7 hV6 hV5 hV4 hBw2 hBw5 hBw6 hb8 hB8 hq1 hq2
        replace hb := Lib.hid hb
        replace hq3 := Lib.hid hq3
        replace hq4 := Lib.hid hq4
        replace hB10 := Lib.hid hB10
        replace hBwc := Lib.hid hBwc
        replace hK := Lib.hid hK
        replace hSc := Lib.hid hSc
        replace hVc := Lib.hid hVc
        replace hbn := Lib.hid hbn
        replace hlo := Lib.hid hlo
        replace hla := Lib.hid hla
        replace hps := Lib.hid hps
        replace hpf := Lib.hid hpf
        replace hcon := Lib.hid hcon
        replace hbd := Lib.hid hbd
        replace hAL := Lib.hid hAL
        replace hsc := Lib.hid hsc
        replace hE := Lib.hid hE
        replace hnm2 := Lib.hid hnm2
        by_cases z2 : 1099511627776 ≤ V.lastNum
        · have hE := hE.out
          rw [if_pos (Or.inl z2)] at hE
          subst hE
          go_wp2
          go_ret
          exact ⟨rfl, hsc.out⟩
        · cases z3 : AL.any (tooBig nm)
          · have hE := hE.out
            rw [if_neg (by rw [z3]; simp; omega)] at hE
            have hcon := hcon.out
            rw [z3] at hcon
            replace hE := Lib.hid hE
            replace hcon := Lib.hid hcon
            replace z3 := Lib.hid z3
            go_wp2_with fail
            (with_reducible refine (hcon.out).mono ?_)
            rintro e w9 ⟨rfl, hB11⟩
            have hK9 := hK.out.below hB11
            have hs9 := own_below hSc.out hB11
            have hbn9 := (hB11.block w.heap.size (Array.getElem?_eq_some_iff.1 hbn.out).1).trans hbn.out
            have hB9 := below_step hBwc.out hB11
            have c9 := cell_of (j := 0) (v := .string (mkS nm)) hbn9 rfl
            have hmk := mkdir_bl tb A M V nm ⟨493, V.lastNum + 1, 0, 0, 0⟩ w9 hK9.v (by omega) (by omega)
            unfold mtV mtCells ptr at hmk
            dsimp only at hmk
            have z4 : V.lastNum + 1 ≤ 1099511627776 := by omega
            have z5 := hlo.out
            replace hK9 := Lib.hid hK9
            replace hs9 := Lib.hid hs9
            replace hbn9 := Lib.hid hbn9
            replace hB9 := Lib.hid hB9
            replace hmk := Lib.hid hmk
            clear cc hcon hbn hK hSc
            go_wp2_with fail
            (with_reducible refine (hmk.out).mono ?_)
            rintro e w10 ⟨rfl, hst10⟩
            have hK0 := TakS.tree hK9.out hst10
            replace hK0 := Lib.hid hK0
            replace z5 := Lib.hid z5
            clear hst10 c9
            go_wp2_with fail
            go_loopw [82] (fun i wr => ∃ k : Nat, i = .int .i64 k ∧ k ≤ AL.length ∧ TakS w9 wr (w7.heap.size + 1 + 1) tb A M tc C MC S V.lastTop w7.heap.size (some (w7.heap.size + 1)) ⟨V, [], []⟩ (takeK V nm S (AL.take k))) (fun i _ => AL.length - (intOf i).toNat)
            case atStart => exact ⟨0, rfl, Nat.zero_le _, hK0.out⟩
            case round =>
              obtain ⟨k, rfl, hk, hs⟩ := hrel
              by_cases hlt : k < AL.length
              · obtain ⟨A', M', hK', ht, ho⟩ := hs
                have hRw := Strs.rd (hK9.out.strs ht hs9.out)
                obtain ⟨g, o, rfl, c1⟩ := hRw.cell hlt
                have cn := cell_of (j := 0) (v := .string (mkS nm)) ((hK9.out.keeps ht hbn9.out (by decide) (by decide)).trans hbn9.out) rfl
                have hp := hps.out _ (List.getElem_mem hlt)
                obtain ⟨g1, g2, g3⟩ := hbd.out k (by omega)
                have hsn : takeK V nm S (AL.take (k + 1)) = thingE S V.lastTop (takeK V nm S (AL.take k)) AL[k] (belowName nm AL[k]) := layK_snoc S V.lastTop (belowName nm) (takeStart V nm) hlt
                have hnl := hnm2.out
                have hql : (belowName nm AL[k]).length ≤ 1000000 := by unfold belowName; rw [List.length_append, List.length_cons]; omega
                have hth := takthing_calls wr (w7.heap.size + 1 + 1) tb A' M' tc C MC S V.lastTop w7.heap.size (some (w7.heap.size + 1)) _ hK' AL[k] (belowName nm AL[k]) (by omega) hql hla.out g2 g1 g3
                have hbq : belowName nm AL[k] = nm ++ 47 :: AL[k] := rfl
                have hki : (k : Int) < (AL.length : Int) := by omega
                have hfr : ∀ W K2, TakS wr W (w7.heap.size + 1 + 1) tb A' M' tc C MC S V.lastTop w7.heap.size (some (w7.heap.size + 1)) (takeK V nm S (AL.take k)) K2 → _ := fun W K2 h => TakS.from ht ho h
                rw [hsn.symm] at hth
                generalize AL[k] = p at *
                have e1 : mkS nm ++ ⟨#[47]⟩ = mkS (nm ++ [47]) := mkS_append nm [47]
                have e2 : mkS (nm ++ [47]) ++ mkS p = mkS (belowName nm p) := by rw [mkS_append, hbq, List.append_assoc]; rfl
                have y1 : (mkS nm).size + 1 ≤ 9223372036854775807 := by rw [mkS_size]; omega
                have y2 : (mkS (nm ++ [47])).size + (mkS p).size ≤ 9223372036854775807 := by rw [mkS_size, mkS_size]; simp; omega
                have y3 : ((mkS nm).size : Int) + 1 ≤ 9223372036854775807 := by omega
                have y4 : ((mkS (nm ++ [47])).size : Int) + ((mkS p).size : Int) ≤ 9223372036854775807 := by omega
                unfold ptr at hth
                clear hRw hsn hbq hql g1 g2 g3 hp
                generalize belowName nm p = q at *
                replace hK' := Lib.hid hK'
                replace ht := Lib.hid ht
                replace ho := Lib.hid ho
                replace hth := Lib.hid hth
                replace hfr := Lib.hid hfr
                go_wp2_with fail
                (with_reducible refine (hth.out).mono ?_)
                rintro e w11 ⟨rfl, hs11⟩
                have hrel2 := hfr.out _ _ hs11
                replace hrel2 := Lib.hid hrel2
                clear hs11 c1 cn
                go_wp2
                go_roundw
                case rel => exact ⟨k + 1, by go_num, by omega, hrel2.out⟩
                case measure => simp [intOf]; omega
              · obtain rfl : k = AL.length := by omega
                rw [List.take_length] at hs
                have hfin := TakS.stp hB9.out (by have := hBw7.out.size; omega) (fun ub e => by cases e; have := hBw7.out.size; omega) hs
                have hE := hE.out
                subst hE
                replace hfin := Lib.hid hfin
                clear hs
                go_wp2
                go_ret
                exact ⟨rfl, hfin.out⟩
          · have hE := hE.out
            rw [if_pos (Or.inr z3)] at hE
            subst hE
            have hcon := hcon.out
            rw [z3] at hcon
            have hs2 := fun W h => hsame.out W (below_step hBwc.out h)
            replace hcon := Lib.hid hcon
            replace z3 := Lib.hid z3
            replace hs2 := Lib.hid hs2
            go_wp2_with fail
            (with_reducible refine (hcon.out).mono ?_)
            rintro e w9 ⟨rfl, hB11⟩
            go_wp2
            go_ret
            exact ⟨rfl, hs2.out _ hB11⟩
end Go.Proofs.YtocbjhhnginebaaGreat

namespace Go.Proofs.YtocbjhhnginebaaGreat
open Go.RowKit

def restE (V : Fs) (nm : Bytes) : Fs := (restK V nm (V.belowS nm)).V
theorem trimP_len (s p : Bytes) : (trimP s p).length ≤ s.length := by
  unfold trimP
  split
  · rw [List.length_drop]; omega
  · omega

set_option maxHeartbeats 2000000 in
set_option maxRecDepth 100000 in
theorem restore_nil (s : ByteArray) (w : World) : Calls Tryz.prog 13 #[.pointer none, .string s] w fun e w' => e = .returned (.tuple #[.pointer none, .int .i64 1]) ∧ w = w' := by
  have h0 := find_nil s w
  replace h0 := Lib.hid h0
  go_enter Tryz.func13, Tryz.ntmps13
  go_wp2_with fail
  (with_reducible refine (h0.out).mono ?_)
  rintro e w1 ⟨rfl, rfl⟩
  go_wp2
  go_ret2
  exact ⟨rfl, rfl⟩

/-- What a Restore answers. -/
def RestRes (w : World) (V : Fs) (nm : Bytes) (e : Ending) (w' : World) : Prop :=
  if (findE V nm).2.2 = 0 then (∃ tc C MC, e = .returned (.tuple #[ptr tc, .int .i64 0]) ∧ Rep w' tc C MC (restE V nm) ∧ (∀ b, Own tc C MC (restE V nm) b → w.heap.size ≤ b) ∧ Below w.heap.size w w')
  else e = .returned (.tuple #[.pointer none, .int .i64 (findE V nm).2.2]) ∧ Below w.heap.size w w'

set_option maxHeartbeats 8000000 in
set_option maxRecDepth 100000 in
theorem restore_calls (tb : Nat) (A M : Nat → Nat) (V : Fs) (nm : Bytes) (w : World) (hR : Rep w tb A M V) (hM : MtAll V) (hn : nm.length ≤ 1000000) (hf : V.names.length ≤ 500000) :
    Calls Tryz.prog 13 #[ptr tb, .string (mkS nm)] w (RestRes w V nm) := by
  have h0 := find_calls tb A M V nm w hR hM (by omega) (by omega)
  have h1 := fun W => new_calls W
  have h2 := fun W (hB : Below w.heap.size w W) => below_calls tb A M V nm W (hR.below hB) (by omega) (by omega)
  generalize hfe : findE V nm = fe at *
  obtain ⟨fl, fi, fe⟩ := fe
  dsimp only at *
  unfold ptr at *
  replace hR := Lib.hid hR
  replace hM := Lib.hid hM
  replace h0 := Lib.hid h0
  replace h1 := Lib.hid h1
  replace h2 := Lib.hid h2
  replace hfe := Lib.hid hfe
  by_cases hz : fe = 0
  · subst hz
    go_enter Tryz.func13, Tryz.ntmps13
    go_wp2_with fail
    (with_reducible refine (h0.out).mono ?_)
    rintro e w1 ⟨⟨v1, rfl, hS1⟩, hB1⟩
    have h1' := h1.out w1
    replace hS1 := Lib.hid hS1
    replace h1' := Lib.hid h1'
    go_wp2_with fail
    (with_reducible refine (h1'.out).mono ?_)
    rintro e w2 ⟨tn, C, MC, rfl, hC, hCo, hB2⟩
    have hBw2 := below_step hB1 hB2
    have e1 : mkS nm ++ ⟨#[47]⟩ = mkS (nm ++ [47]) := mkS_append nm [47]
    have y1 : (mkS nm).size + 1 ≤ 9223372036854775807 := by rw [mkS_size]; omega
    have y3 : ((mkS nm).size : Int) + 1 ≤ 9223372036854775807 := by omega
    have hm1 : MapIs (w2.alloc (.map #[] 0)) w2.heap.size [] := mapIs_made w2
    have hB8 := below_alloc (Below.refl w2.heap.size w2) (.map #[] 0)
    have hsz : (w2.alloc (.map #[] 0)).heap.size = w2.heap.size + 1 := by simp
    have hmk := @run_makeMap Tryz.prog
    have hb := heap_alloc_new (w2.alloc (.map #[] 0)) (.cells #[.pointer (some ⟨tn, 0, none⟩), .pointer (some ⟨tb, 0, none⟩), .string ⟨#[]⟩, .map (some w2.heap.size), .map none] 75)
    have hB9 := below_alloc hB8 (.cells #[.pointer (some ⟨tn, 0, none⟩), .pointer (some ⟨tb, 0, none⟩), .string ⟨#[]⟩, .map (some w2.heap.size), .map none] 75)
    have hq := hm1.kept (World.grownBy_alloc _ (.cells #[.pointer (some ⟨tn, 0, none⟩), .pointer (some ⟨tb, 0, none⟩), .string ⟨#[]⟩, .map (some w2.heap.size), .map none] 75) none) (by simp)
    rw [hsz] at hb
    have hBw3 := below_step hBw2 hB9
    have hK : TakM ((w2.alloc (.map #[] 0)).alloc (.cells #[.pointer (some ⟨tn, 0, none⟩), .pointer (some ⟨tb, 0, none⟩), .string ⟨#[]⟩, .map (some w2.heap.size), .map none] 75)) (w2.heap.size + 1) tn C MC tb A M V [] w2.heap.size none ⟨Fs.start, [], []⟩ := by
      have h1 := hBw2.size
      refine ⟨hC.below hB9, hR.out.below hBw3, fun b h3 h4 => ?_, hb, hq, fun h => ?_, fun h => ?_, (fun ub e => by cases e), fun _ => rfl⟩
      · have := hR.out.lt h3; have := hCo b h4; have := hB1.size; omega
      · have := hC.lt h; omega
      · have := hR.out.lt h; omega
    have hbl := h2.out _ hBw3
    replace hC := Lib.hid hC
    replace hCo := Lib.hid hCo
    replace hB2 := Lib.hid hB2
    replace hm1 := Lib.hid hm1
    replace hB8 := Lib.hid hB8
    replace hsz := Lib.hid hsz
    replace hb := Lib.hid hb
    replace hB9 := Lib.hid hB9
    replace hq := Lib.hid hq
    replace hBw3 := Lib.hid hBw3
    replace hK := Lib.hid hK
    replace hbl := Lib.hid hbl
    replace hBw2 := Lib.hid hBw2
    clear h1 h1' h2
    go_wp2_with fail
    generalize (w2.alloc (.map #[] 0)).alloc (.cells #[.pointer (some ⟨tn, 0, none⟩), .pointer (some ⟨tb, 0, none⟩), .string ⟨#[]⟩, .map (some w2.heap.size), .map none] 75) = w3 at *
    (with_reducible refine hbl.out.mono ?_)
    rintro e w4 ⟨⟨va, rfl, hSa⟩, hB4⟩
    have hK4 := hK.out.below hB4
    have hBw4 := below_step hBw3.out hB4
    obtain ⟨aA, ac, rfl, ha1, ha2⟩ := own_shape hSa.own
    unfold maxLen at ha2
    have hps := fun p hp => belowS_short hR.out.inv (top := nm) (p := p) hp
    have hpf := belowS_few (S := V) (top := nm)
    have hgr := layK_grow V [] (fromName nm) ⟨Fs.start, [], []⟩ (V.belowS nm)
    have hrE : restE V nm = (restK V nm (V.belowS nm)).V := rfl
    have hRR : RestRes w V nm = fun e w' => ∃ tc C MC, e = .returned (.tuple #[ptr tc, .int .i64 0]) ∧ Rep w' tc C MC (restE V nm) ∧ (∀ b, Own tc C MC (restE V nm) b → w.heap.size ≤ b) ∧ Below w.heap.size w w' := by
      funext e w'
      unfold RestRes
      rw [hfe.out, if_pos rfl]
    generalize V.belowS nm = AL at *
    have hbd : ∀ k, k ≤ AL.length → (restK V nm (AL.take k)).V.names.length ≤ 1000000 ∧ (restK V nm (AL.take k)).V.next < 4611686018427387904 ∧ ∀ y ∈ (restK V nm (AL.take k)).L, y.2.length ≤ 1000000 := fun k hk => by
      obtain ⟨g1, g2, g3⟩ := hgr k hk
      refine ⟨Nat.le_trans g1 (by simp [Fs.start]; omega), Nat.lt_of_le_of_lt g2 (by simp [Fs.start]; omega), fun y hy => ?_⟩
      rcases g3 y hy with h | ⟨p, hp, e⟩
      · cases h
      · rw [e]
        have := hps p hp
        have := trimP_len p (nm ++ [47])
        unfold fromName
        omega
    have hK0 := TakS.same hK4 (Below.refl _ w4)
    clear hgr
    replace hK4 := Lib.hid hK4
    replace hBw4 := Lib.hid hBw4
    replace hps := Lib.hid hps
    replace hpf := Lib.hid hpf
    replace hbd := Lib.hid hbd
    replace hSa := Lib.hid hSa
    replace hrE := Lib.hid hrE
    replace hB4 := Lib.hid hB4
    replace hK0 := Lib.hid hK0
    replace hRR := Lib.hid hRR
    go_wp2_with fail
    go_loopw [36] (fun i wr => ∃ k : Nat, i = .int .i64 k ∧ k ≤ AL.length ∧ TakS w4 wr (w2.heap.size + 1) tn C MC tb A M V [] w2.heap.size none ⟨Fs.start, [], []⟩ (restK V nm (AL.take k))) (fun i _ => AL.length - (intOf i).toNat)
    case atStart => exact ⟨0, rfl, Nat.zero_le _, hK0.out⟩
    case round =>
      obtain ⟨k, rfl, hk, hs⟩ := hrel
      by_cases hlt : k < AL.length
      · obtain ⟨A', M', hK', ht, ho⟩ := hs
        have hRw := Strs.rd (hK4.out.strs ht hSa.out)
        obtain ⟨g, o, rfl, c1⟩ := hRw.cell hlt
        have hp := hps.out _ (List.getElem_mem hlt)
        obtain ⟨g1, g2, g3⟩ := hbd.out k (by omega)
        have hsn : restK V nm (AL.take (k + 1)) = thingE V [] (restK V nm (AL.take k)) AL[k] (fromName nm AL[k]) := layK_snoc V [] (fromName nm) ⟨Fs.start, [], []⟩ hlt
        have hql : (fromName nm AL[k]).length ≤ 1000000 := by have := trimP_len AL[k] (nm ++ [47]); unfold fromName; omega
        have hth := takthing_calls wr (w2.heap.size + 1) tn A' M' tb A M V [] w2.heap.size none _ hK' AL[k] (fromName nm AL[k]) (by omega) hql (by simp) g2 g1 g3
        have htr : ∀ W, Calls Tryz.prog 41 #[.string (mkS AL[k]), .string (mkS (nm ++ [47]))] W fun e w' => e = .returned (.string (mkS (fromName nm AL[k]))) ∧ W = w' := fun W => trim_calls AL[k] (nm ++ [47]) W
        have hki : (k : Int) < (AL.length : Int) := by omega
        have hfr : ∀ W K2, TakS wr W (w2.heap.size + 1) tn A' M' tb A M V [] w2.heap.size none (restK V nm (AL.take k)) K2 → _ := fun W K2 h => TakS.from ht ho h
        rw [hsn.symm] at hth
        unfold ptr at hth
        clear hRw hsn hql g1 g2 g3 hp
        generalize fromName nm AL[k] = q at *
        generalize AL[k] = p at *
        replace hK' := Lib.hid hK'
        replace ht := Lib.hid ht
        replace ho := Lib.hid ho
        replace hth := Lib.hid hth
        replace hfr := Lib.hid hfr
        replace htr := Lib.hid htr
        go_wp2_with fail
        (with_reducible refine (htr.out _).mono ?_)
        rintro e w10 ⟨rfl, rfl⟩
        go_wp2_with fail
        (with_reducible refine (hth.out).mono ?_)
        rintro e w11 ⟨rfl, hs11⟩
        have hrel2 := hfr.out _ _ hs11
        replace hrel2 := Lib.hid hrel2
        clear hs11 c1
        go_wp2
        go_roundw
        case rel => exact ⟨k + 1, by go_num, by omega, hrel2.out⟩
        case measure => simp [intOf]; omega
      · obtain rfl : k = AL.length := by omega
        rw [List.take_length] at hs
        obtain ⟨A', M', hK', ht, ho⟩ := hs
        have hfin : Rep wr tn A' M' (restE V nm) ∧ (∀ b, Own tn A' M' (restE V nm) b → w.heap.size ≤ b) ∧ Below w.heap.size w wr := by
          have h1 := hB1.size
          have h2 := hBw2.out.size
          have h4 := hBw4.out.size
          rw [hrE.out]
          refine ⟨hK'.v, fun b hb => ?_, hBw4.out.trans ⟨ht.os, ht.tape, ht.output, ht.size, fun k hk => ht.block k (by omega) ?_⟩⟩
          · rcases ho b hb with h | h
            · have := hCo.out b h; omega
            · omega
          · rintro (h | rfl | h)
            · have := hCo.out k h; omega
            · omega
            · cases h
        replace hfin := Lib.hid hfin
        clear hK' ht ho
        go_wp2
        go_ret2
        rw [hRR.out]
        exact ⟨tn, A', M', rfl, hfin.out⟩
  · have t1 : (fe != 0) = true := by simpa using hz
    have hz2 := hz
    replace hz2 := Lib.hid hz2
    go_enter Tryz.func13, Tryz.ntmps13
    go_wp2_with fail
    (with_reducible refine (h0.out).mono ?_)
    rintro e w1 ⟨⟨v1, rfl, hS1⟩, hB1⟩
    replace hS1 := Lib.hid hS1
    replace hz := Lib.hid hz
    go_wp2
    go_ret2
    unfold RestRes
    rw [hfe.out, if_neg hz2.out]
    exact ⟨rfl, hB1⟩
end Go.Proofs.YtocbjhhnginebaaGreat
