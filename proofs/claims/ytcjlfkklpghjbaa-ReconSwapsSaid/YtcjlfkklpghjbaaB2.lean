/-
  slices.stableCmpFunc: blocks of 20 in order, merged two by two; then path.Sort.
  path.Sort: the paths in order, in a row of its own.
  Maps whose entries are a list, up to its order: what the operations do with them, whatever the keys and the elements.
  A tree of files, directories and links as a list of names: the plain law's own words, with no program in sight.
  append of a slice of any length, none too, to a row of the call's own.
  A region that draws its order, and whose calls make memory alone: one walk in the order of the text.
  Small words more: quiet calls whose contract says 'w = w'', strings that are the same or not.
  General lemmas, for a program without the tree.
  The general lemmas.
  The general lemmas.
  The general lemmas.
  The general lemmas.
  The general lemmas.
  The general lemmas.
  The general lemmas.
  The general lemmas.
  The general lemmas.
  The general lemmas.
  The general lemmas.
  The general lemmas.
  remoraref17.Texts.
  remoraref13: Base and Sort.
  remoraref13.Sort: the walk.
  Lists of entries: the plain law's own words, with no program in sight.
  Lists of entries in memory, and as an argument.
  What is to be done about each path of two lists: the plain law, with no program in sight.
  With both sides changed for one another all acts go the other way: the plain law.
  flist.alone and remoraref20.May: what is wrong with an entry by itself.
-/
import Derived.Test.YtcjlfkklpghjbaaB1
import Derived.Maps.Ext
import Derived.Maps.RangeWalk
import Derived.Maps.OwnSet
import Derived.WalkKit
import Derived.Deep.Quiet
import Derived.BigQuiet
import Derived.Deep.QuietTactic
import Derived.StillTailTactics
import Derived.Deep.RegionHeld3
import Derived.Sort.Row
import Derived.Deep.Slices
import Derived.Deep.Fields
import Derived.ChangeSame
import Derived.ChangeSlices
import Derived.Carry
set_option linter.unusedVariables false
set_option linter.unusedSimpArgs false

namespace Go.Proofs.Ytcjlfkklpghjbaa
open Go.RowKit Go.Lib
set_option linter.unusedVariables false
set_option linter.unusedSimpArgs false

/-- Below 'lim' each block of bs elements is in order. -/
def PB (bs lim : Nat) (l : List Bytes) : Prop := ∀ i j x y, i ≤ j → j < lim → i / bs = j / bs → l[i]? = some x → l[j]? = some y → leP x y
/-- From 'fr' on each block of bs elements is in order. -/
def PC (bs fr : Nat) (l : List Bytes) : Prop := ∀ i j x y, fr ≤ i → i ≤ j → i / bs = j / bs → l[i]? = some x → l[j]? = some y → leP x y
theorem sorted_of {M : List Bytes} (h : ∀ (i j : Nat) (x y : Bytes), i < j → M[i]? = some x → M[j]? = some y → leP x y) : Sorted M :=
  List.pairwise_iff_getElem.2 fun i j hi hj hij => h i j _ _ hij (List.getElem?_eq_getElem hi) (List.getElem?_eq_getElem hj)
theorem PB.block {bs k a : Nat} {p M M' s : List Bytes} (hbs : 0 < bs) (hp : p.length = a) (ha : a = bs * k) (hl : M'.length ≤ bs) (h : PB bs a (p ++ M ++ s)) (hs : Sorted M') : PB bs (a + M'.length) (p ++ M' ++ s) := by
  intro i j x y hij hj hb hx hy
  simp only [List.append_assoc] at hx hy
  by_cases hja : j < a
  · rw [List.getElem?_append_left (by omega)] at hx hy
    refine h i j x y hij hja hb ?_ ?_
    · rw [List.append_assoc, List.getElem?_append_left (by omega)]; exact hx
    · rw [List.append_assoc, List.getElem?_append_left (by omega)]; exact hy
  · have hjk : j / bs = k := by
      rw [Nat.div_eq_iff hbs]
      rw [Nat.mul_comm] at ha
      omega
    have hia : a ≤ i := by
      rw [hjk] at hb
      have := (Nat.div_eq_iff hbs).1 hb
      rw [Nat.mul_comm] at ha
      omega
    rw [get_right p _ _ (by omega), List.getElem?_append_left (by omega)] at hx hy
    exact sorted_get hs (by omega) hx hy
theorem PC.block {bs a b : Nat} {p M M' s : List Bytes} (hp : p.length = a) (hM : M.length = M'.length) (hb : b = a + M.length) (h : PC bs a (p ++ M ++ s)) : PC bs b (p ++ M' ++ s) := by
  intro i j x y hi hij hbl hx hy
  have e : ∀ k, b ≤ k → (p ++ M' ++ s)[k]? = (p ++ M ++ s)[k]? := fun k hk => by
    rw [get_right (p ++ M') _ _ (by simp; omega), get_right (p ++ M) _ _ (by simp; omega)]
    congr 1; simp; omega
  rw [e i hi] at hx
  rw [e j (by omega)] at hy
  exact h i j x y (by omega) hij hbl hx hy
theorem PC.sorted {bs k a : Nat} {p U s : List Bytes} (hbs : 0 < bs) (hp : p.length = a) (ha : a = bs * k) (hl : U.length ≤ bs) (h : PC bs a (p ++ U ++ s)) : Sorted U := by
  refine sorted_of fun i j x y hij hx hy => ?_
  have hj : j < U.length := (List.getElem?_eq_some_iff.1 hy).1
  refine h (a + i) (a + j) x y (by omega) (by omega) ?_ ?_ ?_
  · rw [ha, Nat.mul_add_div hbs, Nat.mul_add_div hbs, Nat.div_eq_of_lt (by omega), Nat.div_eq_of_lt (by omega)]
  · rw [List.append_assoc, get_right p _ _ (by omega), List.getElem?_append_left (by omega)]; rw [← hx]; congr 1; omega
  · rw [List.append_assoc, get_right p _ _ (by omega), List.getElem?_append_left (by omega)]; rw [← hy]; congr 1; omega
theorem seg_split (l : List Bytes) (a b : Nat) (hab : a ≤ b) (hb : b ≤ l.length) : ∃ p M s : List Bytes, l = p ++ M ++ s ∧ p.length = a ∧ M.length = b - a ∧ s.length = l.length - b := by
  refine ⟨l.take a, (l.drop a).take (b - a), l.drop b, ?_, by simp; omega, by simp; omega, by simp⟩
  have e1 : l.drop b = (l.drop a).drop (b - a) := by rw [List.drop_drop]; congr 1; omega
  rw [e1, List.append_assoc, List.take_append_drop, List.take_append_drop]

set_option maxHeartbeats 8000000 in
set_option maxRecDepth 100000 in
theorem stable_calls (g c : Nat) (l : List Bytes) (pad : List Value) (N : Nat) (w W : World) (hR : Row w W g l pad) (hc : N ≤ c) (hm : N ≤ 2305843009213) (hN : N = l.length) (hsz : ∀ y ∈ l, y.length ≤ 16777216) :
    Calls Try.prog 60 #[.slice (some ⟨g, 0, none⟩) N c, .int .i64 N, .func (.func 52) #[] #[]] W fun e w' => e = .returned (.tuple #[]) ∧ ∃ l' : List Bytes, (l'.Perm l ∧ Sorted l') ∧ Row w w' g l' pad := by
  replace hN := Lib.hid hN
  go_enter Try.func60, Try.ntmps60
  go_wp2
  go_loopw [7, 8] (fun x y W' => ∃ (a b k : Nat) (l' : List Bytes), x = .int .i64 a ∧ y = .int .i64 b ∧ Hid (a = 20 * k) ∧ Hid (b = a + 20) ∧ a ≤ N ∧ b ≤ N + 20 ∧ Hid (l'.Perm l) ∧ Hid (PB 20 a l') ∧ Row w W' g l' pad) (fun x _ _ => N - (intOf x).toNat)
  case atStart => exact ⟨0, 20, 0, l, rfl, rfl, rfl, rfl, Nat.zero_le _, by omega, List.Perm.refl _, fun i j x y _ h => by omega, hR⟩
  case round =>
    clear hR
    obtain ⟨a, b, k, l', rfl, rfl, hak, hba, haN, hbN, hperm, hPB, hR⟩ := hrel
    have hlen : Hid (N = l'.length) := by rw [hperm.out.length_eq]; exact hN
    by_cases hlt : b ≤ N
    · obtain ⟨p, M, s, hl', hp, hM, hs⟩ := seg_split l' a b (by have := hba.out; omega) (by have := hlen.out; omega)
      have hcall := insort_calls g c p M s pad a b N w wr (by rw [← hl']; exact hR) hc (by omega) (by rw [hlen.out, hl']) hp.symm (by have := hba.out; omega) (fun x hx => hsz x (hperm.out.mem_iff.1 (by rw [hl']; simp [hx])))
      replace hcall := Lib.hid hcall
      replace hl' := Lib.hid hl'
      replace hp := Lib.hid hp
      replace hM := Lib.hid hM
      clear hsz hs
      go_wp2_with fail
      refine hcall.out.mono ?_
      rintro e w2 ⟨rfl, M', hM', hR2⟩
      have hlM : M'.length = 20 := by have := hM'.1.length_eq; have := hM.out; have := hba.out; omega
      have hPB2 : Hid (PB 20 b (p ++ M' ++ s)) := by
        have := PB.block (M := M) (by omega) hp.out hak.out (by omega) (by rw [← hl'.out]; exact hPB.out) hM'.2 (s := s)
        rw [hlM, ← hba.out] at this; exact this
      have hperm2 : Hid ((p ++ M' ++ s).Perm l) := by
        refine List.Perm.trans ?_ hperm.out
        rw [hl'.out]
        exact List.Perm.append_right _ (List.Perm.append_left _ hM'.1)
      have hbk : Hid (b = 20 * (k + 1)) := by have := hba.out; have := hak.out; unfold Hid; omega
      replace hlM := Lib.hid hlM
      clear hcall hM' hPB hperm
      go_wp2
      go_roundw
      case measure => have := hba.out; simp [intOf]; omega
      case rel => exact ⟨b, b + 20, k + 1, _, rfl, by go_num, hbk, rfl, hlt, by omega, hperm2, hPB2, hR2⟩
    · obtain ⟨p, M, s, hl', hp, hM, hs⟩ := seg_split l' a N haN (by have := hlen.out; omega)
      have hcall := insort_calls g c p M s pad a N N w wr (by rw [← hl']; exact hR) hc (by omega) (by rw [hlen.out, hl']) hp.symm (by omega) (fun x hx => hsz x (hperm.out.mem_iff.1 (by rw [hl']; simp [hx])))
      replace hcall := Lib.hid hcall
      replace hl' := Lib.hid hl'
      replace hp := Lib.hid hp
      replace hM := Lib.hid hM
      replace hs := Lib.hid hs
      replace hsz := Lib.hid hsz
      go_wp2_with fail
      refine hcall.out.mono ?_
      rintro e w2 ⟨rfl, M', hM', hR2⟩
      have hlM : M'.length = N - a := by have := hM'.1.length_eq; have := hM.out; omega
      have hPB2 : Hid (PB 20 N (p ++ M' ++ s)) := by
        have := PB.block (M := M) (by omega) hp.out hak.out (by have := hba.out; omega) (by rw [← hl'.out]; exact hPB.out) hM'.2 (s := s)
        rw [hlM, show a + (N - a) = N by omega] at this; exact this
      have hperm2 : Hid ((p ++ M' ++ s).Perm l) := by
        refine List.Perm.trans ?_ hperm.out
        rw [hl'.out]
        exact List.Perm.append_right _ (List.Perm.append_left _ hM'.1)
      generalize p ++ M' ++ s = l2 at *
      clear hcall hM' hPB hperm hlM hl' hp hM hs hlen hR hba hbN hlt haN hak
      go_wp2
      go_loopw [6] (fun x W' => ∃ (bs : Nat) (l' : List Bytes), x = .int .i64 bs ∧ 20 ≤ bs ∧ bs ≤ 2 * N + 20 ∧ Hid (l'.Perm l) ∧ Hid (PB bs N l') ∧ Row w W' g l' pad) (fun x _ => 2 * N + 20 - (intOf x).toNat)
      case atStart => exact ⟨20, l2, rfl, Nat.le_refl _, by omega, hperm2, hPB2, hR2⟩
      case round =>
        clear hperm2 hPB2 hR2
        obtain ⟨bs, l2, rfl, hbs, hbsN, hperm, hPB, hR⟩ := hrel
        have hlen : Hid (N = l2.length) := by rw [hperm.out.length_eq]; exact hN
        by_cases hlt : bs < N
        · have hPC : Hid (PC bs 0 l2) := fun i j x y _ hij hb hx hy => hPB.out i j x y hij (by have := (List.getElem?_eq_some_iff.1 hy).1; have := hlen.out; omega) hb hx hy
          go_wp2
          go_loopw [7, 8] (fun x y W' => ∃ (a b k : Nat) (l' : List Bytes), x = .int .i64 a ∧ y = .int .i64 b ∧ Hid (a = 2 * bs * k) ∧ Hid (b = a + 2 * bs) ∧ a ≤ N ∧ b ≤ N + 2 * bs ∧ Hid (l'.Perm l) ∧ Hid (PB (2 * bs) a l') ∧ Hid (PC bs a l') ∧ Row w W' g l' pad) (fun x _ _ => N - (intOf x).toNat)
          case atStart => exact ⟨0, 2 * bs, 0, l2, rfl, by go_num, rfl, by simp [Hid], Nat.zero_le _, by omega, hperm, fun i j x y _ h => by omega, hPC, hR⟩
          case round =>
            clear hR hPC hPB hperm hlen
            obtain ⟨a, b, k, l3, rfl, rfl, hak, hba, haN, hbN, hperm, hPB, hPC, hR⟩ := hrel
            have hlen : Hid (N = l3.length) := by rw [hperm.out.length_eq]; exact hN
            have hak2 : Hid (a = bs * (2 * k)) := by unfold Hid; rw [hak.out, Nat.mul_comm 2 bs, Nat.mul_assoc]
            by_cases hlt2 : b ≤ N
            · obtain ⟨p, M, s, hl', hp, hM, hs⟩ := seg_split l3 a b (by have := hba.out; omega) (by have := hlen.out; omega)
              obtain ⟨U, V, hUV, hlU, hlV⟩ := take_drop_len M bs (by have := hba.out; omega)
              subst hUV
              rw [hM] at hlV
              have hsU : Sorted U := PC.sorted (s := V ++ s) (by omega) hp hak2.out (by omega) (by rw [hl'] at hPC; simpa using hPC.out)
              have hsV : Sorted V := by
                have h2 := PC.block (M := U) (M' := U) (s := V ++ s) (b := a + bs) hp rfl (by omega) (by rw [hl'] at hPC; simpa using hPC.out)
                refine PC.sorted (bs := bs) (a := a + bs) (p := p ++ U) (s := s) (k := 2 * k + 1) (by omega) (by simp; omega) (by have := hak2.out; rw [Nat.mul_add]; omega) (by have := hba.out; omega) (by simpa using h2)
              have hcall := sym_ok (U.length + V.length) g c p U V s pad a (a + bs) b N w wr (by rw [hl'] at hR; simpa using hR) hc (by omega) (by rw [hlen.out, hl']; simp) hp.symm (by omega) (by have := hba.out; omega) (List.length_pos_iff.1 (by omega)) (List.length_pos_iff.1 (by have := hba.out; omega)) (Nat.le_refl _) (fun x hx => hsz.out x (hperm.out.mem_iff.1 (by rw [hl']; simp at hx ⊢; rcases hx with h | h; exact .inr (.inl h); exact .inr (.inr (.inl h))))) hsU hsV
              obtain ⟨mm, hmm⟩ : ∃ mm, a + bs = mm := ⟨_, rfl⟩
              rw [hmm] at hcall
              have hmI : (a : Int) + (bs : Int) = (mm : Int) := by omega
              have hmN : mm ≤ N := by have := hba.out; omega
              replace hcall := Lib.hid hcall
              replace hl' := Lib.hid hl'
              replace hp := Lib.hid hp
              replace hlU := Lib.hid hlU
              replace hlV := Lib.hid hlV
              replace hM := Lib.hid hM
              replace hmm := Lib.hid hmm
              clear hs hsU hsV
              go_wp2_with fail
              refine hcall.out.mono ?_
              rintro e w3 ⟨rfl, M', hM', hR3⟩
              have hlM : M'.length = 2 * bs := by have := hM'.1.length_eq; have := hlU.out; have := hlV.out; have := hM.out; have := hba.out; simp at *; omega
              have hPB2 : Hid (PB (2 * bs) b (p ++ M' ++ s)) := by
                have := PB.block (M := U ++ V) (by omega) hp.out hak.out (by omega) (by rw [← hl'.out]; exact hPB.out) hM'.2 (s := s)
                rw [hlM, ← hba.out] at this; exact this
              have hPC2 : Hid (PC bs b (p ++ M' ++ s)) := PC.block (M := U ++ V) hp.out (hM'.1.length_eq.symm) (by have := hM.out; have := hba.out; omega) (by rw [← hl'.out]; exact hPC.out)
              have hperm2 : Hid ((p ++ M' ++ s).Perm l) := by
                refine List.Perm.trans ?_ hperm.out
                rw [hl'.out]
                exact List.Perm.append_right _ (List.Perm.append_left _ hM'.1)
              have hbk : Hid (b = 2 * bs * (k + 1)) := by have := hba.out; have := hak.out; unfold Hid; rw [Nat.mul_add]; omega
              replace hlM := Lib.hid hlM
              clear hcall hM' hPB hPC hperm hR hmI
              go_wp2
              go_roundw
              case measure => have := hba.out; simp [intOf]; omega
              case rel => exact ⟨b, b + 2 * bs, k + 1, _, rfl, by go_num, hbk, rfl, hlt2, by omega, hperm2, hPB2, hPC2, hR3⟩
            · by_cases hlt3 : a + bs < N
              · obtain ⟨p, M, s, hl', hp, hM, hs⟩ := seg_split l3 a N haN (by have := hlen.out; omega)
                obtain ⟨U, V, hUV, hlU, hlV⟩ := take_drop_len M bs (by omega)
                subst hUV
                rw [hM] at hlV
                have hsU : Sorted U := PC.sorted (s := V ++ s) (by omega) hp hak2.out (by omega) (by rw [hl'] at hPC; simpa using hPC.out)
                have hsV : Sorted V := by
                  have h2 := PC.block (M := U) (M' := U) (s := V ++ s) (b := a + bs) hp rfl (by omega) (by rw [hl'] at hPC; simpa using hPC.out)
                  refine PC.sorted (bs := bs) (a := a + bs) (p := p ++ U) (s := s) (k := 2 * k + 1) (by omega) (by simp; omega) (by have := hak2.out; rw [Nat.mul_add]; omega) (by have := hba.out; omega) (by simpa using h2)
                have hcall := sym_ok (U.length + V.length) g c p U V s pad a (a + bs) N N w wr (by rw [hl'] at hR; simpa using hR) hc (by omega) (by rw [hlen.out, hl']; simp) hp.symm (by omega) (by omega) (List.length_pos_iff.1 (by omega)) (List.length_pos_iff.1 (by omega)) (Nat.le_refl _) (fun x hx => hsz.out x (hperm.out.mem_iff.1 (by rw [hl']; simp at hx ⊢; rcases hx with h | h; exact .inr (.inl h); exact .inr (.inr (.inl h))))) hsU hsV
                obtain ⟨mm, hmm⟩ : ∃ mm, a + bs = mm := ⟨_, rfl⟩
                rw [hmm] at hcall
                have hmI : (a : Int) + (bs : Int) = (mm : Int) := by omega
                have hmN : mm < N := by omega
                replace hcall := Lib.hid hcall
                replace hl' := Lib.hid hl'
                replace hp := Lib.hid hp
                replace hlU := Lib.hid hlU
                replace hlV := Lib.hid hlV
                replace hM := Lib.hid hM
                replace hmm := Lib.hid hmm
                replace hs := Lib.hid hs
                clear hsU hsV
                go_wp2_with fail
                refine hcall.out.mono ?_
                rintro e w3 ⟨rfl, M', hM', hR3⟩
                have hlM : M'.length = N - a := by have := hM'.1.length_eq; have := hM.out; simp at *; omega
                have hPB2 : Hid (PB (2 * bs) N (p ++ M' ++ s)) := by
                  have := PB.block (M := U ++ V) (by omega) hp.out hak.out (by have := hba.out; omega) (by rw [← hl'.out]; exact hPB.out) hM'.2 (s := s)
                  rw [hlM, show a + (N - a) = N by omega] at this; exact this
                have hperm2 : Hid ((p ++ M' ++ s).Perm l) := by
                  refine List.Perm.trans ?_ hperm.out
                  rw [hl'.out]
                  exact List.Perm.append_right _ (List.Perm.append_left _ hM'.1)
                replace hlM := Lib.hid hlM
                clear hcall hM' hPB hPC hperm hR hmI
                go_wp2
                go_roundw
                case measure => simp [intOf]; omega
                case rel => exact ⟨bs * 2, _, by go_num, by omega, by omega, hperm2, by rw [Nat.mul_comm bs 2]; exact hPB2, hR3⟩
              · have hPB2 : Hid (PB (2 * bs) N l3) := by
                  obtain ⟨p, M, s, hl', hp, hM, hs⟩ := seg_split l3 a N haN (by have := hlen.out; omega)
                  have hsM : Sorted M := PC.sorted (s := s) (by omega) hp hak2.out (by omega) (by rw [← hl']; exact hPC.out)
                  have := PB.block (M := M) (by omega) hp hak.out (by omega) (by rw [← hl']; exact hPB.out) hsM (s := s)
                  rw [hM, show a + (N - a) = N by omega, ← hl'] at this; exact this
                have hmN : ¬ ((a : Int) + (bs : Int) < (N : Int)) := by omega
                clear hPB hPC
                go_wp2
                go_roundw
                case measure => simp [intOf]; omega
                case rel => exact ⟨bs * 2, _, by go_num, by omega, by omega, hperm, by rw [Nat.mul_comm bs 2]; exact hPB2, hR⟩
        · have hfin : Hid (Sorted l2) := by
            refine sorted_of fun i j x y hij hx hy => hPB.out i j x y (by omega) ?_ ?_ hx hy
            · have := (List.getElem?_eq_some_iff.1 hy).1; have := hlen.out; omega
            · have := (List.getElem?_eq_some_iff.1 hy).1; have := hlen.out
              rw [Nat.div_eq_of_lt (by omega), Nat.div_eq_of_lt (by omega)]
          clear hPB
          go_wp2
          go_end0
          exact ⟨rfl, l2, ⟨hperm.out, hfin.out⟩, hR⟩
end Go.Proofs.Ytcjlfkklpghjbaa

namespace Go.Proofs.Ytcjlfkklpghjbaa
open Go.RowKit Go.Lib
set_option linter.unusedVariables false
set_option linter.unusedSimpArgs false

theorem leP_antisymm {a b : Bytes} (h : leP a b) (k : leP b a) : a = b := by
  unfold leP at *
  rw [cmpP_swap a b] at k
  exact cmpP_eq (by omega)
theorem sorted_unique : ∀ {l1 l2 : List Bytes}, l1.Perm l2 → Sorted l1 → Sorted l2 → l1 = l2
  | [], l2, h, _, _ => (List.Perm.nil_eq h)
  | a :: l1, [], h, _, _ => by have := h.length_eq; simp at this
  | a :: l1, b :: l2, h, h1, h2 => by
    have hab : a = b := by
      have ha : a ∈ b :: l2 := h.mem_iff.1 (by simp)
      have hb : b ∈ a :: l1 := h.mem_iff.2 (by simp)
      rcases List.mem_cons.1 ha with e | e
      · exact e
      · rcases List.mem_cons.1 hb with e' | e'
        · exact e'.symm
        · exact leP_antisymm ((List.pairwise_cons.1 h1).1 b e') ((List.pairwise_cons.1 h2).1 a e)
    subst hab
    rw [sorted_unique ((List.perm_cons a).1 h) (List.pairwise_cons.1 h1).2 (List.pairwise_cons.1 h2).2]
def sortP (l : List Bytes) : List Bytes := l.mergeSort fun a b => decide (cmpP a b ≤ 0)
theorem sortP_perm (l : List Bytes) : (sortP l).Perm l := List.mergeSort_perm _ _
theorem sortP_sorted (l : List Bytes) : Sorted (sortP l) := by
  have h := List.pairwise_mergeSort (le := fun a b => decide (cmpP a b ≤ 0)) (fun a b c h k => by
    simp only [decide_eq_true_eq] at *
    exact leP_trans (a := a) (b := b) (c := c) h k) (fun a b => by
    simp only [Bool.or_eq_true, decide_eq_true_eq]
    rw [cmpP_swap a b]; omega) l
  exact h.imp (fun h => by unfold leP; simpa using h)
theorem sortP_eq {l l' : List Bytes} (h : l'.Perm l) (hs : Sorted l') : l' = sortP l := sorted_unique (h.trans (sortP_perm l).symm) hs (sortP_sorted l)

/-- Shapes of a row of the call's own that holds strings. -/
theorem Strs.block {B : Nat} {W : World} {v : Value} {l : List Bytes} (h : Strs B W v l) : (∃ c, v = .slice none 0 0 ∧ l = [] ∧ c = 0) ∨
    (∃ g c pad, v = .slice (some ⟨g, 0, none⟩) l.length c ∧ B ≤ g ∧ W.heap[g]? = some (.cells (strs l ++ pad).toArray 9 (0, 0)) ∧ l.length ≤ c ∧ c ≤ maxLen ∧ l.length + pad.length = c) := by
  rcases h.2 with ⟨h1, h2⟩ | ⟨g, cap, cur, h1, h2, h3, h4, h5, h6, h7⟩
  · exact .inl ⟨0, h1, List.eq_nil_of_length_eq_zero h2, rfl⟩
  · have hl : (strs l).length = l.length := by simp [strs]
    refine .inr ⟨g, cap, cur.toList.drop l.length, h1, h2, ?_, h4, h5, ?_⟩
    · rw [h3]
      congr 2
      rw [← h7, Nat.mul_one, List.take_append_drop]
    · simp; omega
theorem Strs.of_block {B g c : Nat} {W : World} {l : List Bytes} {pad : List Value} (hg : B ≤ g) (h : W.heap[g]? = some (.cells (strs l ++ pad).toArray 9 (0, 0))) (hc : l.length ≤ c) (hm : c ≤ maxLen) (hp : l.length + pad.length = c) : Strs B W (.slice (some ⟨g, 0, none⟩) l.length c) l := by
  have hl : (strs l).length = l.length := by simp [strs]
  refine ⟨by simp [strs], .inr ⟨g, c, _, rfl, hg, h, hc, hm, by simp; omega, ?_⟩⟩
  rw [Nat.mul_one, ← hl]; simp

set_option maxHeartbeats 2000000 in
set_option maxRecDepth 100000 in
theorem sortstable_calls (g c : Nat) (l : List Bytes) (pad : List Value) (w W : World) (hR : Row w W g l pad) (hc : l.length ≤ c) (hm : l.length ≤ 2305843009213) (hsz : ∀ y ∈ l, y.length ≤ 16777216) :
    Calls Try.prog 51 #[.slice (some ⟨g, 0, none⟩) l.length c, .func (.func 52) #[] #[]] W fun e w' => e = .returned (.tuple #[]) ∧ Row w w' g (sortP l) pad := by
  have hcall := stable_calls g c l pad l.length w W hR hc hm rfl hsz
  replace hcall := Lib.hid hcall
  go_enter Try.func51, Try.ntmps51
  go_wp2_with fail
  refine hcall.out.mono ?_
  rintro e w2 ⟨rfl, l', ⟨h1, h2⟩, hR2⟩
  rw [sortP_eq h1 h2] at hR2
  clear h1 h2
  go_wp2
  go_end0
  exact ⟨rfl, hR2⟩
set_option maxHeartbeats 2000000 in
set_option maxRecDepth 100000 in
theorem insort_nil (f : Value) (W : World) :
    Calls Try.prog 65 #[.slice none 0 0, .int .i64 0, .int .i64 0, f] W fun e w' => e = .returned (.tuple #[]) ∧ W = w' := by
  go_enter Try.func65, Try.ntmps65
  go_wp2
  refine wp_loop_rounds 1 ?_
  rw [rounds_succ]
  go_wp2
  go_end0
  exact ⟨rfl, rfl⟩
set_option maxHeartbeats 2000000 in
set_option maxRecDepth 100000 in
theorem stable_nil (f : Value) (W : World) :
    Calls Try.prog 60 #[.slice none 0 0, .int .i64 0, f] W fun e w' => e = .returned (.tuple #[]) ∧ W = w' := by
  have hcall := fun W => insort_nil f W
  replace hcall := Lib.hid hcall
  go_enter Try.func60, Try.ntmps60
  go_wp2
  refine wp_loop_rounds 1 ?_
  rw [rounds_succ]
  go_wp2_with fail
  refine (hcall.out _).mono ?_
  rintro e w2 ⟨rfl, rfl⟩
  go_wp2
  refine wp_loop_rounds 1 ?_
  rw [rounds_succ]
  go_wp2
  go_end0
  exact ⟨rfl, rfl⟩
set_option maxHeartbeats 2000000 in
set_option maxRecDepth 100000 in
theorem sortstable_nil (W : World) :
    Calls Try.prog 51 #[.slice none 0 0, .func (.func 52) #[] #[]] W fun e w' => e = .returned (.tuple #[]) ∧ W = w' := by
  have hcall := fun W => stable_nil (.func (.func 52) #[] #[]) W
  replace hcall := Lib.hid hcall
  go_enter Try.func51, Try.ntmps51
  go_wp2_with fail
  refine (hcall.out _).mono ?_
  rintro e w2 ⟨rfl, rfl⟩
  go_wp2
  go_end0
  exact ⟨rfl, rfl⟩
theorem slice_is_nil (w : World) (A : Option Addr) (n c : Nat) : (binOp .eql 46 (.slice A n c) (.slice none 0 0)).run Try.prog w = .ok (.bool A.isNone) w := Lib.run_eql_slice_nil w 46 9 A n c 0 0 Try.underlying46

set_option maxHeartbeats 2000000 in
set_option maxRecDepth 100000 in
theorem clone_calls (v : Value) (l : List Bytes) (w : World) (hR : Rd w v l) (hm : l.length ≤ 2305843009213) :
    Calls Try.prog 50 #[v] w fun e w' => (∃ v', e = .returned v' ∧ Strs w.heap.size w' v' l) ∧ Below w.heap.size w w' := by
  obtain ⟨A, c, rfl, hc1, hc2⟩ := hR.shape
  have hnil := slice_is_nil w A l.length c
  cases A with
  | none =>
    have hl : l = [] := by
      cases l with
      | nil => rfl
      | cons x xs => obtain ⟨g, o, h1, _⟩ := hR.cell (j := 0) (by simp); cases h1
    subst hl
    have hnil' : (binOp .eql 46 (.slice none 0 c) (.slice none 0 0)).run Try.prog w = .ok (.bool true) w := hnil
    clear hnil
    go_enter Try.func50, Try.ntmps50
    go_wp2
    go_ret
    exact ⟨⟨_, rfl, World.ownsRow_nil _ _ _ _⟩, Below.refl _ _⟩
  | some ad =>
    have hnil' : (binOp .eql 46 (.slice (some ad) l.length c) (.slice none 0 0)).run Try.prog w = .ok (.bool false) w := hnil
    clear hnil
    have hown : (w.alloc (.cells #[] 9)).ownsRow w.heap.size 9 1 (.slice (some ⟨w.heap.size, 0, none⟩) 0 0) 0 [] := own_made w w.heap.size 9 1 0 [] (Nat.le_refl _) rfl (by simp [maxLen])
    have hnews : ∀ j u, (strs l)[j]? = some u → (w.alloc (.cells #[] 9)).cell? (ad.add j) = some u := by
      intro j u hj
      have hjl : j < l.length := by have := (List.getElem?_eq_some_iff.1 hj).1; simpa [strs] using this
      obtain ⟨g, o, h1, h2⟩ := hR.cell hjl
      injection h1 with h1
      subst h1
      have e : (⟨g, o, none⟩ : Addr).add j = ⟨g, o + j, none⟩ := by unfold Addr.add; split <;> simp_all
      rw [e]
      have e2 : u = .string (mkS l[j]) := by
        simp only [strs, List.getElem?_map, List.getElem?_eq_getElem hjl, Option.map_some, Option.some.injEq] at hj
        exact hj.symm
      rw [e2]
      exact Lib.cell?_alloc_some _ h2
    obtain ⟨i0, hi, hzz⟩ := Option.map_eq_some_iff.1 info_string
    simp only [Prod.mk.injEq] at hzz
    obtain ⟨hz0, hz1, hz2⟩ := hzz
    replace hown := Lib.hid hown
    replace hnews := Lib.hid hnews
    replace hi := Lib.hid hi
    replace hz0 := Lib.hid hz0
    replace hz1 := Lib.hid hz1
    replace hz2 := Lib.hid hz2
    clear hR
    go_enter Try.func50, Try.ntmps50
    go_wp2_with (at_builtin; refine wpList_append_own_at _ rfl (.tmp 5) (.tmp 6) 46 rfl w.heap.size 9 i0 (.string ⟨#[]⟩) 1 16 Try.underlying46 hi.out hz0.out hz1.out hz2.out rfl (by decide) (.slice (some ⟨w.heap.size, 0, none⟩) 0 0) 0 [] rfl hown.out ad l.length c (strs l) rfl ?_ hnews.out ?_ ?_ ?_ ?_ ?_)
    · simp [strs]
    · intro u hu
      simp only [strs, List.mem_map] at hu
      obtain ⟨x, _, rfl⟩ := hu
      rfl
    · simp only [maxLen]; omega
    · omega
    · simp
    · intro v1 w1 ho1 hg1 _ _
      have hO : Strs w.heap.size w1 v1 l := by
        unfold Strs
        simpa using ho1
      have hB : Below w.heap.size w w1 := (below_alloc (Below.refl _ _) _).grown hg1 (by simp) (fun b hb => by simp [Value.ownBlock] at hb; omega)
      clear ho1 hg1
      go_wp2
      go_ret
      exact ⟨⟨_, rfl, hO⟩, hB⟩

set_option maxHeartbeats 2000000 in
set_option maxRecDepth 100000 in
theorem sort_calls (v : Value) (l : List Bytes) (w : World) (hR : Rd w v l) (hm : l.length ≤ 2305843009213) (hsz : ∀ y ∈ l, y.length ≤ 16777216) :
    Calls Try.prog 34 #[v] w fun e w' => (∃ v', e = .returned v' ∧ Strs w.heap.size w' v' (sortP l)) ∧ Below w.heap.size w w' := by
  have h1 := clone_calls v l w hR hm
  replace h1 := Lib.hid h1
  go_enter Try.func34, Try.ntmps34
  go_wp2_with fail
  refine h1.out.mono ?_
  rintro e w1 ⟨⟨v1, rfl, hO1⟩, hB1⟩
  rcases hO1.block with ⟨_, rfl, hl, _⟩ | ⟨g, c, pad, rfl, hg, hh, hlc, hcm, hlp⟩
  · subst hl
    have hcall : Calls Try.prog 51 #[.slice none 0 0, .func (.func 52) #[] #[]] w1 fun e w' => e = .returned (.tuple #[]) ∧ w1 = w' := sortstable_nil w1
    replace hcall := Lib.hid hcall
    clear h1
    go_wp2_with fail
    refine hcall.out.mono ?_
    rintro e w2 ⟨rfl, rfl⟩
    go_wp2
    go_ret
    exact ⟨⟨_, rfl, by simpa [sortP] using hO1⟩, hB1⟩
  · have hcall := sortstable_calls g c l pad w1 w1 (Row.start hh) hlc hm hsz
    replace hcall := Lib.hid hcall
    replace hlp := Lib.hid hlp
    clear h1 hO1 hh
    go_wp2_with fail
    refine hcall.out.mono ?_
    rintro e w2 ⟨rfl, hR2⟩
    have hB2 : Below w.heap.size w w2 := hB1.grown hR2.kept hB1.size (fun b hb => by cases hb; exact hg)
    have hlen : (sortP l).length = l.length := (sortP_perm l).length_eq
    have hO2 : Strs w.heap.size w2 (.slice (some ⟨g, 0, none⟩) l.length c) (sortP l) := by
      have := Strs.of_block (B := w.heap.size) (c := c) hg hR2.h (by omega) hcm (by have := hlp.out; omega)
      rwa [hlen] at this
    replace hlen := Lib.hid hlen
    clear hcall hR2
    go_wp2
    go_ret
    exact ⟨⟨_, rfl, hO2⟩, hB2⟩
end Go.Proofs.Ytcjlfkklpghjbaa

namespace Go.Proofs.Ytcjlfkklpghjbaa
open Go.MapKept Go.ChangeMaps

/-- The entries as pairs. -/
def kv (e : MapEntry) : Value × Value := (e.key, e.val)

/-- Block b is a map whose entries are those of l, in some order. -/
def MapIs (w : World) (b : Nat) (l : List (Value × Value)) : Prop :=
  ∃ es clock, w.heap[b]? = some (.map es clock) ∧ Stamped es clock ∧ l.Perm (es.toList.map kv)

/-- x can be looked for among the keys ks. -/
structure Keyable (P : Program) (k : TypeId) (w : World) (x : Value) (ks : List Value) : Prop where
  check : ∀ em, (Instr.checkKey em 10000 k x).run P w = .ok () w
  stays : (Instr.keyThatStays x x).run P w = .ok x w
  find : ∀ es : List MapEntry, (∀ e ∈ es, e.key ∈ ks) →
    ((Instr.findKey k x es).run P w = .ok none w ∧ ∀ e ∈ es, e.key ≠ x) ∨ ∃ j e, (Instr.findKey k x es).run P w = .ok (some (j, e.val)) w ∧ es[j]? = some e ∧ e.key = x

theorem keyable_string {P : Program} {k : TypeId} (hk : P.underlying k = some .string) (w : World) (s : ByteArray) {ks : List Value} (h : ∀ v ∈ ks, ∃ t, v = .string t) : Keyable P k w (.string s) ks := by
  refine ⟨fun em => run_checkKey hk (by trivial) em 9999, run_keyThatStays (d := .string) (by trivial), fun es hes => ?_⟩
  rcases findNow_spec (d := .string) (k := .string s) (by trivial) es 0 (fun x hx => by obtain ⟨t, ht⟩ := h _ (hes x hx); rw [ht]; trivial) with ⟨h1, h2⟩ | ⟨j, e0, h1, h2, h3⟩
  · exact Or.inl ⟨run_findKey hk h1, h2⟩
  · exact Or.inr ⟨j, e0, by simpa using run_findKey hk h1, h2, h3⟩

section
variable {P : Program} {k e t : TypeId} {w : World} {b : Nat} {l : List (Value × Value)}

theorem MapIs.perm (h : MapIs w b l) {l' : List (Value × Value)} (hp : l'.Perm l) : MapIs w b l' := by
  obtain ⟨es, clock, hb, hs, hl⟩ := h
  exact ⟨es, clock, hb, hs, hp.trans hl⟩

theorem MapIs.lt (h : MapIs w b l) : b < w.heap.size := by
  obtain ⟨es, clock, hb, _⟩ := h
  exact (Array.getElem?_eq_some_iff.1 hb).1

theorem MapIs.nodup (h : MapIs w b l) : (l.map (·.1)).Nodup := by
  obtain ⟨es, clock, hb, hs, hl⟩ := h
  have h3 : (es.toList.map (·.key)).Nodup := hs.2.2
  have : ((es.toList.map kv).map (·.1)).Nodup := by simpa [List.map_map, kv, Function.comp_def] using h3
  exact ((hl.map (·.1)).nodup_iff).2 this

theorem MapIs.kept {w' : World} {row : Option Nat} (h : MapIs w b l) (hg : w.grownBy w' row) (hne : some b ≠ row) : MapIs w' b l := by
  have hlt := h.lt
  obtain ⟨es, clock, hb, hs, hl⟩ := h
  exact ⟨es, clock, (hg.block b hlt hne).trans hb, hs, hl⟩

theorem MapIs.of_block {w' : World} (h : MapIs w b l) (hb' : w'.heap[b]? = w.heap[b]?) : MapIs w' b l := by
  obtain ⟨es, clock, hb, hs, hl⟩ := h
  exact ⟨es, clock, hb'.trans hb, hs, hl⟩

theorem mapIs_made (w : World) : MapIs (w.alloc (.map #[] 0)) w.heap.size [] :=
  ⟨#[], 0, (MapKept.heap_alloc w _).1, stamped_empty 0, by simp⟩

theorem mem_of_key {es : Array MapEntry} {clock : Nat} (hs : Stamped es clock) {x v : Value} {j : Nat} {e0 : MapEntry} (hm : (x, v) ∈ es.toList.map kv) (h2 : es.toList[j]? = some e0) (h3 : e0.key = x) : e0.val = v := by
  obtain ⟨y, hy, hyx⟩ := List.mem_map.1 hm
  simp only [kv, Prod.mk.injEq] at hyx
  have hp := ((stamped_iff es clock).1 hs).2.2
  have e1 : y = e0 := entry_eq_of_key hp hy (List.mem_of_getElem? h2) (hyx.1.trans h3.symm)
  rw [← e1]
  exact hyx.2

/-- A look-up that finds. -/
theorem MapIs.look_hit (h : MapIs w b l) (ht : P.underlying t = some (.map k e)) {x v : Value} (hk : Keyable P k w x (l.map (·.1))) (hm : (x, v) ∈ l) (c : Bool) :
    (Instr.lookup t (.map (some b)) x c).run P w = .ok (if c then .tuple #[v, .bool true] else v) w := by
  obtain ⟨es, clock, hb, hs, hl⟩ := h
  have hm' := hl.mem_iff.1 hm
  rcases hk.find es.toList (fun y hy => (hl.map (·.1)).mem_iff.2 (by simpa [kv] using ⟨y, by simpa using hy, rfl⟩)) with ⟨h1, h2⟩ | ⟨j, e0, h1, h2, h3⟩
  · obtain ⟨y, hy, hyx⟩ := List.mem_map.1 hm'
    simp only [kv, Prod.mk.injEq] at hyx
    exact absurd hyx.1 (h2 y hy)
  · have := mem_of_key hs hm' h2 h3
    simp [Instr.lookup, run_underlying ht, MapKept.run_getObj_map hb, hk.check, h1, Result.andThen, this]

/-- A look-up that does not find. -/
theorem MapIs.look_miss (h : MapIs w b l) (ht : P.underlying t = some (.map k e)) {x z : Value} (hk : Keyable P k w x (l.map (·.1))) (hm : ∀ p ∈ l, p.1 ≠ x) (hz : (zeroValue e).run P w = .ok z w) (c : Bool) :
    (Instr.lookup t (.map (some b)) x c).run P w = .ok (if c then .tuple #[z, .bool false] else z) w := by
  obtain ⟨es, clock, hb, hs, hl⟩ := h
  rcases hk.find es.toList (fun y hy => (hl.map (·.1)).mem_iff.2 (by simpa [kv] using ⟨y, by simpa using hy, rfl⟩)) with ⟨h1, h2⟩ | ⟨j, e0, h1, h2, h3⟩
  · simp [Instr.lookup, run_underlying ht, MapKept.run_getObj_map hb, hk.check, h1, Result.andThen, hz]
  · exact absurd h3 (hm (kv e0) (hl.mem_iff.2 (List.mem_map.2 ⟨e0, List.mem_of_getElem? h2, rfl⟩)))

/-- How many entries. -/
theorem MapIs.len (h : MapIs w b l) (ht : P.underlying t = some (.map k e)) (ty : TypeId) : (Builtin.len_ #[t] ty #[.map (some b)]).run P w = .ok (.int .i64 l.length) w := by
  obtain ⟨es, clock, hb, hs, hl⟩ := h
  have e1 : l.length = es.size := by rw [hl.length_eq]; simp
  rw [e1]
  simp [Builtin.len_, run_underlying ht, MapKept.run_getObj_map hb, goInt, Result.andThen]

/-- A store at a new key. -/
theorem MapIs.store_new (h : MapIs w b l) (ht : P.underlying t = some (.map k e)) {x v : Value} (hk : Keyable P k w x (l.map (·.1))) (hm : ∀ p ∈ l, p.1 ≠ x) :
    ∃ w', (Instr.mapUpdate t (.map (some b)) x v).run P w = .ok () w' ∧ MapIs w' b ((x, v) :: l) ∧ w.mapTurned w' b := by
  obtain ⟨es, clock, hb, hs, hl⟩ := h
  rcases hk.find es.toList (fun y hy => (hl.map (·.1)).mem_iff.2 (by simpa [kv] using ⟨y, by simpa using hy, rfl⟩)) with ⟨h1, h2⟩ | ⟨j, e0, h1, h2, h3⟩
  · refine ⟨setBlock w b (.map (es.push ⟨x, v, clock⟩) (clock + 1)), ?_, ⟨_, _, heap_setBlock_same hb _, stamped_push hs h2, ?_⟩, ⟨_, _, _, _, hb, rfl⟩⟩
    · simp [Instr.mapUpdate, run_underlying ht, MapKept.run_getObj_map hb, hk.check, h1, MapKept.run_setObj_map _ hb, Result.andThen, setBlock]
    · simp only [Array.toList_push, List.map_append, List.map_singleton]
      exact (hl.cons (x, v)).trans (List.perm_append_singleton (x, v) _).symm
  · exact absurd h3 (hm (kv e0) (hl.mem_iff.2 (List.mem_map.2 ⟨e0, List.mem_of_getElem? h2, rfl⟩)))

theorem perm_set {α : Type} (z a : α) : ∀ (l : List α) (j : Nat), l[j]? = some a → ∃ r, l.Perm (a :: r) ∧ (l.set j z).Perm (z :: r)
  | y :: l, 0, h => by
    simp only [List.getElem?_cons_zero, Option.some.injEq] at h
    subst h
    exact ⟨l, .refl _, .refl _⟩
  | y :: l, j + 1, h => by
    simp only [List.getElem?_cons_succ] at h
    obtain ⟨r, h1, h2⟩ := perm_set z a l j h
    exact ⟨y :: r, (h1.cons y).trans (List.Perm.swap _ _ _), by simpa using (h2.cons y).trans (List.Perm.swap _ _ _)⟩

theorem perm_erase {α : Type} (a : α) : ∀ (l : List α) (j : Nat), l[j]? = some a → l.Perm (a :: l.eraseIdx j)
  | y :: l, 0, h => by
    simp only [List.getElem?_cons_zero, Option.some.injEq] at h
    subst h
    exact .refl _
  | y :: l, j + 1, h => by
    simp only [List.getElem?_cons_succ] at h
    simpa using ((perm_erase a l j h).cons y).trans (List.Perm.swap _ _ _)

/-- A store at a key that is there. -/
theorem MapIs.store_old (h : MapIs w b l) (ht : P.underlying t = some (.map k e)) {x v v0 : Value} {r : List (Value × Value)} (hk : Keyable P k w x (l.map (·.1))) (hm : l.Perm ((x, v0) :: r)) :
    ∃ w', (Instr.mapUpdate t (.map (some b)) x v).run P w = .ok () w' ∧ MapIs w' b ((x, v) :: r) ∧ w.mapTurned w' b := by
  have hnd := h.nodup
  obtain ⟨es, clock, hb, hs, hl⟩ := h
  have hm' := hl.mem_iff.1 (hm.mem_iff.2 (List.mem_cons_self ..))
  rcases hk.find es.toList (fun y hy => (hl.map (·.1)).mem_iff.2 (by simpa [kv] using ⟨y, by simpa using hy, rfl⟩)) with ⟨h1, h2⟩ | ⟨j, e0, h1, h2, h3⟩
  · obtain ⟨y, hy, hyx⟩ := List.mem_map.1 hm'
    simp only [kv, Prod.mk.injEq] at hyx
    exact absurd hyx.1 (h2 y hy)
  · have hv := mem_of_key hs hm' h2 h3
    have hj : es[j]? = some e0 := by simpa using h2
    have hkeyf : ∀ e', es[j]? = some e' → ({ e' with key := x, val := v } : MapEntry).key = e'.key := fun e' he' => by rw [hj] at he'; cases he'; exact h3.symm
    have hlist : (es.modify j (fun e' => { e' with key := x, val := v })).toList = es.toList.set j { e0 with key := x, val := v } := by rw [Array.toList_modify, modify_eq_set _ _ _ _ h2]
    refine ⟨setBlock w b (.map (es.modify j (fun e' => { e' with key := x, val := v })) clock), ?_, ⟨_, _, heap_setBlock_same hb _, stamped_modify hs _ _ (fun _ _ => rfl) (fun e' _ he' => hkeyf e' he'), ?_⟩, ⟨_, _, _, _, hb, rfl⟩⟩
    · simp [Instr.mapUpdate, run_underlying ht, MapKept.run_getObj_map hb, hk.check, h1, hj, h3, hk.stays, MapKept.run_setObj_map _ hb, Result.andThen, setBlock]
    · rw [hlist, List.map_set]
      have hj2 : (es.toList.map kv)[j]? = some (x, v0) := by
        rw [List.getElem?_map, h2]
        simp [kv, h3, hv]
      obtain ⟨r', p1, p2⟩ := perm_set (x, v) (x, v0) _ _ hj2
      have : r.Perm r' := (List.perm_cons (x, v0)).1 (hm.symm.trans (hl.trans p1))
      exact (this.cons (x, v)).trans p2.symm

/-- A key that is there goes. -/
theorem MapIs.drop_hit (h : MapIs w b l) (ht : P.underlying t = some (.map k e)) {x v0 : Value} {r : List (Value × Value)} (hk : Keyable P k w x (l.map (·.1))) (hm : l.Perm ((x, v0) :: r)) (ty : TypeId) :
    ∃ w', (Builtin.delete_ #[t, k] ty #[.map (some b), x]).run P w = .ok (.tuple #[]) w' ∧ MapIs w' b r ∧ w.mapTurned w' b := by
  obtain ⟨es, clock, hb, hs, hl⟩ := h
  have hm' := hl.mem_iff.1 (hm.mem_iff.2 (List.mem_cons_self ..))
  rcases hk.find es.toList (fun y hy => (hl.map (·.1)).mem_iff.2 (by simpa [kv] using ⟨y, by simpa using hy, rfl⟩)) with ⟨h1, h2⟩ | ⟨j, e0, h1, h2, h3⟩
  · obtain ⟨y, hy, hyx⟩ := List.mem_map.1 hm'
    simp only [kv, Prod.mk.injEq] at hyx
    exact absurd hyx.1 (h2 y hy)
  · have hv := mem_of_key hs hm' h2 h3
    have hjl : j < es.toList.length := (List.getElem?_eq_some_iff.1 h2).1
    have hjs : j < es.size := by simpa using hjl
    have hsub : (es.eraseIdxIfInBounds j).toList = es.toList.eraseIdx j := by
      unfold Array.eraseIdxIfInBounds
      rw [dif_pos hjs]
      simp
    refine ⟨setBlock w b (.map (es.eraseIdxIfInBounds j) clock), ?_, ⟨_, _, heap_setBlock_same hb _, stamped_erase hs j, ?_⟩, ⟨_, _, _, _, hb, rfl⟩⟩
    · simp [Builtin.delete_, run_underlying ht, MapKept.run_getObj_map hb, hk.check, h1, MapKept.run_setObj_map _ hb, Result.andThen, setBlock]
    · rw [hsub, map_eraseIdx]
      have hj2 : (es.toList.map kv)[j]? = some (x, v0) := by
        rw [List.getElem?_map, h2]
        simp [kv, h3, hv]
      exact (List.perm_cons (x, v0)).1 (hm.symm.trans (hl.trans (perm_erase _ _ _ hj2)))

/-- A key that is not there goes: nothing turns. -/
theorem MapIs.drop_miss (h : MapIs w b l) (ht : P.underlying t = some (.map k e)) {x : Value} (hk : Keyable P k w x (l.map (·.1))) (hm : ∀ p ∈ l, p.1 ≠ x) (ty : TypeId) :
    ∃ w', (Builtin.delete_ #[t, k] ty #[.map (some b), x]).run P w = .ok (.tuple #[]) w' ∧ MapIs w' b l ∧ w.mapTurned w' b := by
  obtain ⟨es, clock, hb, hs, hl⟩ := h
  rcases hk.find es.toList (fun y hy => (hl.map (·.1)).mem_iff.2 (by simpa [kv] using ⟨y, by simpa using hy, rfl⟩)) with ⟨h1, h2⟩ | ⟨j, e0, h1, h2, h3⟩
  · refine ⟨setBlock w b (.map es clock), ?_, ⟨_, _, heap_setBlock_same hb _, hs, hl⟩, ⟨_, _, _, _, hb, rfl⟩⟩
    simp [Builtin.delete_, run_underlying ht, MapKept.run_getObj_map hb, hk.check, h1, MapKept.run_setObj_map _ hb, Result.andThen, setBlock]
  · exact absurd h3 (hm (kv e0) (hl.mem_iff.2 (List.mem_map.2 ⟨e0, List.mem_of_getElem? h2, rfl⟩)))

/-- A range over the map of block b, by the iterator of block r: left is still to come. -/
def Ranges (w : World) (b r : Nat) (l left : List (Value × Value)) : Prop :=
  ∃ es clock since seen c0, w.heap[b]? = some (.map es clock) ∧ Stamped es clock ∧ l.Perm (es.toList.map kv) ∧ w.heap[r]? = some (.mapIter (some b) since seen c0) ∧
    (∀ x ∈ es.toList, x.born < since) ∧ left.Perm ((leftOf es seen).toList.map kv) ∧ since ≤ c0 ∧ since ≤ clock

variable {r : Nat} {left : List (Value × Value)}

theorem Ranges.is (h : Ranges w b r l left) : MapIs w b l := by
  obtain ⟨es, clock, since, seen, c0, hb, hs, hl, _⟩ := h
  exact ⟨es, clock, hb, hs, hl⟩

theorem Ranges.ne (h : Ranges w b r l left) : r ≠ b := by
  obtain ⟨es, clock, since, seen, c0, hb, hs, hl, hr, _⟩ := h
  intro e
  rw [e, hb] at hr
  cases hr

theorem Ranges.lt (h : Ranges w b r l left) : r < w.heap.size := by
  obtain ⟨es, clock, since, seen, c0, hb, hs, hl, hr, _⟩ := h
  exact (Array.getElem?_eq_some_iff.1 hr).1

theorem Ranges.of_blocks {w' : World} (h : Ranges w b r l left) (hb' : w'.heap[b]? = w.heap[b]?) (hr' : w'.heap[r]? = w.heap[r]?) : Ranges w' b r l left := by
  obtain ⟨es, clock, since, seen, c0, hb, hs, hl, hr, rest⟩ := h
  exact ⟨es, clock, since, seen, c0, hb'.trans hb, hs, hl, hr'.trans hr, rest⟩

theorem Ranges.kept {w' : World} {row : Option Nat} (h : Ranges w b r l left) (hg : w.grownBy w' row) (hb' : some b ≠ row) (hr' : some r ≠ row) : Ranges w' b r l left :=
  h.of_blocks (hg.block b h.is.lt hb') (hg.block r h.lt hr')

theorem Ranges.left_eq (h : Ranges w b r l left) : w.rangeLeft b r = left.length := by
  obtain ⟨es, clock, since, seen, c0, hb, hs, hl, hr, hold, hleft, _⟩ := h
  rw [hleft.length_eq]
  simp [World.rangeLeft, hb, hr]

/-- 'range m'. -/
theorem MapIs.range (h : MapIs w b l) (ht : P.underlying t = some (.map k e)) :
    ∃ w', (Instr.range t (.map (some b))).run P w = .ok (.pointer (some ⟨w.heap.size, 0, none⟩)) w' ∧ Ranges w' b w.heap.size l l ∧ w.grownBy w' none ∧ w'.heap.size = w.heap.size + 1 := by
  have hlt := h.lt
  obtain ⟨es, clock, hb, hs, hl⟩ := h
  refine ⟨_, run_range_map w t k e b es clock ht hb, ⟨es, clock, clock, #[], clock, ((MapKept.heap_alloc w _).2 b hlt).trans hb, hs, hl, (MapKept.heap_alloc w _).1, hs.1, ?_, Nat.le_refl _, Nat.le_refl _⟩, World.grownBy_alloc w _ none, by simp⟩
  have e1 : List.filter (fun _ : MapEntry => true) es.toList = es.toList := List.filter_eq_self.2 (by simp)
  simpa [leftOf, e1] using hl

theorem perm_struck (p : MapEntry → Bool) (e : MapEntry) : ∀ L : List MapEntry, (L.map (·.born)).Nodup → e ∈ L → p e = true → (L.filter p).Perm (e :: L.filter (fun x => p x && !(x.born == e.born)))
  | y :: L, hn, he, hp => by
    obtain ⟨h1, h2⟩ := List.nodup_cons.1 hn
    rcases List.mem_cons.1 he with rfl | h
    · have hf : L.filter (fun x => p x && !(x.born == e.born)) = L.filter p := List.filter_congr fun x hx => by
        have : (x.born == e.born) = false := by
          cases hc : x.born == e.born with
          | false => rfl
          | true => exact absurd (List.mem_map.2 ⟨x, hx, beq_iff_eq.1 hc⟩) h1
        rw [this]
        simp
      simp [hp, hf]
    · have hy : (y.born == e.born) = false := by
        cases hc : y.born == e.born with
        | false => rfl
        | true => exact absurd (List.mem_map.2 ⟨e, h, (beq_iff_eq.1 hc).symm⟩) h1
      have ih := perm_struck p e L h2 h hp
      by_cases hpy : p y = true
      · simp only [List.filter_cons, hpy, hy, Bool.not_false, Bool.and_true, if_true]
        exact (ih.cons y).trans (List.Perm.swap _ _ _)
      · simpa [List.filter_cons, hpy] using ih

/-- The step. -/
theorem Ranges.next (h : Ranges w b r l left) (ty : TypeId) :
    (left = [] ∧ (Instr.next (.pointer (some ⟨r, 0, none⟩)) false ty).run P w = .ok (.tuple #[.bool false]) w) ∨
    ∃ x v left' w', left.Perm ((x, v) :: left') ∧ (x, v) ∈ l ∧ (Instr.next (.pointer (some ⟨r, 0, none⟩)) false ty).run P w = .ok (.tuple #[.bool true, x, v]) w' ∧
      Ranges w' b r l left' ∧ w.grownBy w' (some r) ∧ w'.heap.size = w.heap.size ∧ (Instr.entry (.pointer (some ⟨r, 0, none⟩))).run P w' = .ok (.tuple #[x, v]) w' := by
  have hne := h.ne
  obtain ⟨es, clock, since, seen, c0, hb, hs, hl, hr, hold, hleft, hsc, hsk⟩ := h
  rcases run_next_at (P := P) w ty r b since c0 seen es clock hr hb hold hsc with ⟨h0, hrun⟩ | ⟨e, he, w1, hal, hrun⟩
  · refine Or.inl ⟨?_, hrun⟩
    have : left.length = 0 := by rw [hleft.length_eq]; simpa using h0
    exact List.length_eq_zero_iff.1 this
  · obtain ⟨hem, hes⟩ := mem_left he
    have hr1 : w1.heap[r]? = some (.mapIter (some b) since seen c0) := by rcases hal with rfl | rfl <;> exact hr
    have hb1 : w1.heap[b]? = some (.map es clock) := by rcases hal with rfl | rfl <;> exact hb
    have hset := heap_set (o' := .mapIter (some b) since (seen.push e.born) clock) hr1
    have hb' : (setBlock w1 r (.mapIter (some b) since (seen.push e.born) clock)).heap[b]? = some (.map es clock) := (hset.2 b (fun e1 => hne e1.symm)).trans hb1
    have hnd := ((stamped_iff es clock).1 hs).2.1
    have hperm : ((leftOf es seen).toList.map kv).Perm (kv e :: ((leftOf es (seen.push e.born)).toList.map kv)) := by
      have e1 : ∀ s : Array Nat, (leftOf es s).toList = es.toList.filter (fun x => !s.contains x.born) := fun s => by
        unfold leftOf
        rw [Array.toList_filter]
      rw [e1, e1]
      show List.Perm _ (List.map kv (e :: _))
      refine List.Perm.map _ ?_
      have := perm_struck (fun x : MapEntry => !seen.contains x.born) e es.toList hnd hem (by rw [hes]; rfl)
      refine this.trans (List.Perm.of_eq (congrArg _ (List.filter_congr fun x _ => ?_)))
      rw [contains_push]
      cases seen.contains x.born <;> cases (x.born == e.born) <;> rfl
    refine Or.inr ⟨e.key, e.val, _, _, hleft.trans hperm, hl.mem_iff.2 (List.mem_map.2 ⟨e, hem, rfl⟩), hrun,
      ⟨es, clock, since, seen.push e.born, clock, hb', hs, hl, hset.1, hold, .refl _, hsk, hsk⟩, ?_, ?_,
      run_entry_at _ r b since seen es clock e hset.1 hb' hem hnd⟩
    · rcases hal with rfl | rfl <;> exact ⟨rfl, rfl, rfl, by simp [setBlock], fun i _ hi => hset.2 i (fun e1 => hi (by rw [e1]))⟩
    · rcases hal with rfl | rfl <;> simp [setBlock]

end

section
variable {P : Program} (w : World) {ops : Array Oper} {rest : List Oper} {o : Oper} {a : Act} {Q : Exit → Act → World → Prop}

/-- A look-up at the operation. -/
theorem wp_look (hg : o.guard = none) (m x : Operand) (t : TypeId) (c : Bool) (hop : o.op = Op.lookup t m x c) (mv : Value) (key r : Value) (hm : a.eval m = mv) (hx : a.eval x = key)
    (hrun : (Instr.lookup t mv key c).run P w = .ok r w) (hK : wpList P ops Q rest (a.put o.dst r) w) : wpList P ops Q (o :: rest) a w := by
  refine wpList_plain hg fun K' hK' => ?_
  unfold Oper.wp
  simp [execOp, hop, hm, hx, hrun, Result.andThen]
  exact hK' _ _ hK

/-- A store at the operation. -/
theorem wp_store (hg : o.guard = none) (m x v : Operand) (t : TypeId) (hop : o.op = Op.mapUpdate t m x v) (mv : Value) (key val : Value) (hm : a.eval m = mv) (hx : a.eval x = key) (hv : a.eval v = val) (w' : World)
    (hrun : (Instr.mapUpdate t mv key val).run P w = .ok () w') (hK : wpList P ops Q rest (a.put o.dst undef) w') : wpList P ops Q (o :: rest) a w := by
  refine wpList_plain hg fun K' hK' => ?_
  unfold Oper.wp
  simp [execOp, hop, hm, hx, hv, hrun, Result.andThen]
  exact hK' _ _ hK

/-- 'delete' at the operation. -/
theorem wp_drop (hg : o.guard = none) (m x : Operand) (t k : TypeId) (hop : o.op = Op.call { callee := Callee.builtin Builtin.delete, args := #[m, x], argTypes := #[t, k] }) (mv : Value) (key : Value) (hm : a.eval m = mv) (hx : a.eval x = key) (w' : World)
    (hrun : (Builtin.delete_ #[t, k] o.type #[mv, key]).run P w = .ok (.tuple #[]) w') (hK : wpList P ops Q rest (a.put o.dst (.tuple #[])) w') : wpList P ops Q (o :: rest) a w := by
  refine wpList_plain hg fun K' hK' => ?_
  unfold Oper.wp
  simp [execOp, hop, resolve, invoke, builtin, hm, hx, hrun, Result.andThen]
  exact hK' _ _ hK

/-- 'range m' at the operation. -/
theorem wp_range (hg : o.guard = none) (m : Operand) (t : TypeId) (hop : o.op = Op.range t m) (k e : TypeId) (ht : P.underlying t = some (.map k e)) (b : Nat) (l : List (Value × Value)) (hm : a.eval m = .map (some b)) (h : MapIs w b l)
    (hK : ∀ w', Ranges w' b w.heap.size l l → w.grownBy w' none → w'.heap.size = w.heap.size + 1 → wpList P ops Q rest (a.put o.dst (.pointer (some ⟨w.heap.size, 0, none⟩))) w') :
    wpList P ops Q (o :: rest) a w := by
  refine wpList_plain hg fun K' hK' => ?_
  obtain ⟨w', hrun, r1, r2, r3⟩ := h.range ht
  unfold Oper.wp
  simp [execOp, hop, hm, hrun, Result.andThen]
  exact hK' _ _ (hK w' r1 r2 r3)

/-- The step at the operation. -/
theorem wp_next (hg : o.guard = none) (it : Operand) (hop : o.op = Op.next it false) (b r : Nat) (l left : List (Value × Value)) (hit : a.eval it = .pointer (some ⟨r, 0, none⟩)) (h : Ranges w b r l left)
    (hDone : left = [] → wpList P ops Q rest (a.put o.dst (.tuple #[.bool false])) w)
    (hMore : ∀ x v left' w', left.Perm ((x, v) :: left') → (x, v) ∈ l → Ranges w' b r l left' → w.grownBy w' (some r) → w'.heap.size = w.heap.size → (Instr.entry (.pointer (some ⟨r, 0, none⟩))).run P w' = .ok (.tuple #[x, v]) w' →
      wpList P ops Q rest (a.put o.dst (.tuple #[.bool true, x, v])) w') :
    wpList P ops Q (o :: rest) a w := by
  refine wpList_plain hg fun K' hK' => ?_
  unfold Oper.wp
  rcases h.next (P := P) o.type with ⟨h0, hrun⟩ | ⟨x, v, left', w', hp, hm, hrun, hrg, hgr, hsz, hen⟩
  · simp [execOp, hop, hit, hrun, Result.andThen]
    exact hK' _ _ (hDone h0)
  · simp [execOp, hop, hit, hrun, Result.andThen]
    exact hK' _ _ (hMore x v left' w' hp hm hrg hgr hsz hen)
end

end Go.Proofs.Ytcjlfkklpghjbaa

namespace Go.Proofs.Ytcjlfkklpghjbaa

/-- A path: its parts. -/
abbrev Pt := List Bytes

structure Mt where
  mode : Int
  sec : Int
  nano : Int
  uid : Int
  gid : Int
deriving DecidableEq

structure Nd where
  kind : Int
  links : Int
  mt : Mt
  target : Bytes
  data : Bytes

structure Fs where
  names : List (Pt × Nat)
  nd : Nat → Nd
  next : Nat

/-- What stands at a path. -/
def look1 (l : List (Pt × Nat)) (p : Pt) : Option Nat := (l.find? (fun x => x.1 = p)).map (·.2)
def Fs.at (T : Fs) (p : Pt) : Option Nat := look1 T.names p

/-- What stands right in the directory of a path: its last part, and its number. -/
def kidOf (p : Pt) (x : Pt × Nat) : Option (Bytes × Nat) := if x.1 ≠ [] ∧ x.1.dropLast = p then some (x.1.getLastD [], x.2) else none
def kidsL (l : List (Pt × Nat)) (p : Pt) : List (Bytes × Nat) := l.filterMap (kidOf p)
def Fs.kids (T : Fs) (p : Pt) : List (Bytes × Nat) := kidsL T.names p

/-- How many names a thing has. -/
def namesOf (l : List (Pt × Nat)) (i : Nat) : Nat := (l.filter (fun x => x.2 = i)).length

def Pth (p : Pt) : Prop := ∃ s, right s = true ∧ split s = p

structure Fs.Inv (T : Fs) : Prop where
  top : ∃ r, T.names = ([], 1) :: r
  nodup : (T.names.map (·.1)).Nodup
  topKind : (T.nd 1).kind = 2
  up : ∀ p i, (p, i) ∈ T.names → p ≠ [] → ∃ j, (p.dropLast, j) ∈ T.names ∧ (T.nd j).kind = 2
  pth : ∀ p i, (p, i) ∈ T.names → Pth p
  kinds : ∀ p i, (p, i) ∈ T.names → (T.nd i).kind = 1 ∨ (T.nd i).kind = 2 ∨ (T.nd i).kind = 3
  lt : ∀ p i, (p, i) ∈ T.names → 1 ≤ i ∧ i < T.next
  links : ∀ p i, (p, i) ∈ T.names → (T.nd i).links = namesOf T.names i
  single : ∀ p i, (p, i) ∈ T.names → (T.nd i).kind ≠ 1 → ∀ q, (q, i) ∈ T.names → q = p
  data : ∀ p i, (p, i) ∈ T.names → (T.nd i).data.length ≤ 65536
  plain : ∀ p i, (p, i) ∈ T.names → ((T.nd i).kind ≠ 1 → (T.nd i).data = []) ∧ ((T.nd i).kind ≠ 3 → (T.nd i).target = []) ∧ (T.nd i).target.length ≤ 200

def Fs.Live (T : Fs) (i : Nat) : Prop := ∃ p, (p, i) ∈ T.names

theorem look1_some : ∀ {l : List (Pt × Nat)}, (l.map (·.1)).Nodup → ∀ {p : Pt} {i : Nat}, look1 l p = some i ↔ (p, i) ∈ l
  | [], _, p, i => by simp [look1]
  | (q, j) :: l, h, p, i => by
    obtain ⟨h1, h2⟩ := List.nodup_cons.1 h
    by_cases hq : q = p
    · subst hq
      simp only [look1, List.find?_cons, decide_true, Option.map_some, Option.some.injEq, List.mem_cons, Prod.mk.injEq, true_and]
      constructor
      · intro e; exact Or.inl e.symm
      · rintro (e | e)
        · exact e.symm
        · exact absurd (List.mem_map.2 ⟨_, e, rfl⟩) h1
    · have ih := look1_some h2 (p := p) (i := i)
      simp only [look1, List.find?_cons, hq, decide_false, List.mem_cons, Prod.mk.injEq] at ih ⊢
      rw [ih]
      constructor
      · exact Or.inr
      · rintro (⟨e, _⟩ | e)
        · exact absurd e.symm hq
        · exact e

theorem look1_none {l : List (Pt × Nat)} {p : Pt} : look1 l p = none ↔ ∀ i, (p, i) ∉ l := by
  simp only [look1, Option.map_eq_none_iff, List.find?_eq_none, decide_eq_true_eq]
  constructor
  · intro h i hi; exact h _ hi rfl
  · rintro h ⟨q, j⟩ hx rfl; exact h j hx

theorem Fs.Inv.at_some {T : Fs} (h : T.Inv) {p : Pt} {i : Nat} : T.at p = some i ↔ (p, i) ∈ T.names := look1_some h.nodup
theorem Fs.at_none {T : Fs} {p : Pt} : T.at p = none ↔ ∀ i, (p, i) ∉ T.names := look1_none
theorem Fs.Inv.one {T : Fs} (h : T.Inv) : ([], 1) ∈ T.names := by obtain ⟨r, e⟩ := h.top; rw [e]; exact List.mem_cons_self ..
theorem Fs.Inv.at_top {T : Fs} (h : T.Inv) : T.at [] = some 1 := h.at_some.2 h.one

theorem snoc_of {q p : Pt} (h2 : q ≠ []) (h3 : q.dropLast = p) : q = p ++ [q.getLastD []] := by
  subst h3
  conv => lhs; rw [← List.dropLast_concat_getLast h2]
  rw [List.getLastD_eq_getLast?, List.getLast?_eq_some_getLast h2]
  rfl

theorem snoc_rec {α : Type} {C : List α → Prop} (h0 : C []) (h1 : ∀ l x, C l → C (l ++ [x])) : ∀ l, C l := by
  intro l
  rw [← List.reverse_reverse l]
  induction l.reverse with
  | nil => exact h0
  | cons a r ih => rw [List.reverse_cons]; exact h1 _ _ ih

theorem mem_kidsL {l : List (Pt × Nat)} {p : Pt} {x : Bytes} {i : Nat} : (x, i) ∈ kidsL l p ↔ (p ++ [x], i) ∈ l := by
  simp only [kidsL, List.mem_filterMap, kidOf]
  constructor
  · rintro ⟨⟨q, j⟩, hm, h⟩
    split at h
    · rename_i hc
      simp only [Option.some.injEq, Prod.mk.injEq] at h
      obtain ⟨h1, rfl⟩ := h
      obtain ⟨h2, h3⟩ := hc
      have : q = p ++ [x] := by rw [← h1]; exact snoc_of h2 h3
      rw [← this]
      exact hm
    · cases h
  · intro hm
    exact ⟨_, hm, by simp⟩

theorem Fs.Inv.kids_at {T : Fs} (h : T.Inv) {p : Pt} {x : Bytes} {i : Nat} : (x, i) ∈ T.kids p ↔ T.at (p ++ [x]) = some i := by
  rw [h.at_some]
  exact mem_kidsL

theorem kidsL_nodup {l : List (Pt × Nat)} (h : (l.map (·.1)).Nodup) (p : Pt) : ((kidsL l p).map (·.1)).Nodup := by
  induction l with
  | nil => simp [kidsL]
  | cons a l ih =>
    obtain ⟨q, j⟩ := a
    obtain ⟨h1, h2⟩ := List.nodup_cons.1 h
    have ih := ih h2
    simp only [kidsL, List.filterMap_cons] at ih ⊢
    unfold kidOf
    by_cases hc : q ≠ [] ∧ q.dropLast = p
    · simp only [hc, and_self, ne_eq, not_false_eq_true, if_true, List.map_cons]
      refine List.nodup_cons.2 ⟨fun hm => h1 ?_, ih⟩
      obtain ⟨⟨y, k⟩, hy, hyx⟩ := List.mem_map.1 hm
      have := mem_kidsL.1 (show (y, k) ∈ kidsL l p from hy)
      simp only at hyx
      have hq : q = p ++ [y] := by rw [hyx]; exact snoc_of hc.1 hc.2
      rw [hq]
      exact List.mem_map.2 ⟨_, this, rfl⟩
    · have : kidOf p (q, j) = none := by unfold kidOf; rw [if_neg hc]
      simp only [kidOf] at this
      rw [if_neg hc]
      exact ih

/-- What stands nowhere has nothing below it; and what is no directory neither. -/
theorem Fs.Inv.at_below {T : Fs} (h : T.Inv) : ∀ (r : Pt) {p : Pt}, r ≠ [] → (∀ i, T.at p = some i → (T.nd i).kind ≠ 2) → T.at (p ++ r) = none := by
  intro r
  refine snoc_rec (C := fun r => ∀ {p : Pt}, r ≠ [] → (∀ i, T.at p = some i → (T.nd i).kind ≠ 2) → T.at (p ++ r) = none) ?_ ?_ r
  · intro p hr; exact absurd rfl hr
  · intro r x ih p _ hp
    cases hc : T.at (p ++ (r ++ [x])) with
    | none => rfl
    | some i =>
      have hm := h.at_some.1 hc
      obtain ⟨j, hj, hk⟩ := h.up _ _ hm (by simp)
      rw [← List.append_assoc, List.dropLast_concat] at hj
      by_cases hr : r = []
      · subst hr
        rw [List.append_nil] at hj
        exact absurd hk (hp j (h.at_some.2 hj))
      · have := ih hr hp
        rw [h.at_some.2 hj] at this
        cases this

theorem right_part {s : Bytes} (h : right s = true) : ∀ x ∈ split s, partOk x = true := by
  simp only [right, Bool.and_eq_true, List.all_eq_true] at h
  exact h.1.1

theorem partOk_ne {x : Bytes} (h : partOk x = true) : x ≠ [] := by
  simp only [partOk, Bool.and_eq_true, decide_eq_true_eq] at h
  exact h.1.1.1.1

/-- A path's parts, glued, fall into the same parts. -/
theorem split_glue {l : List Bytes} (h1 : ∀ x ∈ l, (47 : UInt8) ∉ x) (h2 : ∀ x ∈ l, x ≠ []) : split (glue l) = l := by
  cases l with
  | nil => rfl
  | cons a r =>
    have hne : glue (a :: r) ≠ [] := by
      intro e
      have := splitL_glue (l := a :: r) (by simp) h1
      rw [e] at this
      simp only [splitL, List.cons.injEq] at this
      exact h2 a (List.mem_cons_self ..) this.1.symm
    rw [split_ne hne]
    exact splitL_glue (by simp) h1

theorem split_parent {s : Bytes} (h : right s = true) : split (parent s) = (split s).dropLast :=
  split_glue (fun x hx => split_parts s x (List.dropLast_subset _ hx)) (fun x hx => partOk_ne (right_part h x (List.dropLast_subset _ hx)))

theorem split_base {s : Bytes} (h : s ≠ []) : (split s).dropLast ++ [base s] = split s := by
  have hne : split s ≠ [] := fun e => h (split_eq_nil e)
  exact (snoc_of hne rfl).symm

/-- A path is looked up: what stands there, its directory, and why not. -/
def Fs.look (T : Fs) (s : Bytes) : Option Nat × Option Nat × Int :=
  if right s = true then
    if s = [] then (some 1, none, 0)
    else match T.at (split s).dropLast with
      | none => (none, none, 10)
      | some d => if (T.nd d).kind = 2 then (T.at (split s), some d, 0) else (none, none, 12)
  else (none, none, 9)

/-- .. and something has to stand there. -/
def Fs.there (T : Fs) (s : Bytes) : Option Nat × Option Nat × Int :=
  ((T.look s).1, (T.look s).2.1, if (T.look s).2.2 = 0 ∧ (T.look s).1 = none then 10 else (T.look s).2.2)

/-- .. and nothing may. -/
def Fs.fresh (T : Fs) (s : Bytes) : Option Nat × Int :=
  ((T.look s).2.1, if (T.look s).2.2 = 0 ∧ (T.look s).1 ≠ none then 11 else (T.look s).2.2)

/-- What a thing that should be a file is not. -/
def notFile (n : Nd) : Int := if n.kind = 2 then 13 else if n.kind = 3 then 17 else 0

def within (n lo hi : Int) : Bool := decide (lo ≤ n) && decide (n ≤ hi)
def metaOk (m : Mt) : Bool := within m.mode 0 4095 && within m.sec (-1099511627776) 1099511627776 && within m.nano 0 999999999 && within m.uid 0 2147483647 && within m.gid 0 2147483647

end Go.Proofs.Ytcjlfkklpghjbaa

namespace Go.Proofs.Ytcjlfkklpghjbaa
open Go.RowKit

theorem run_append_zero (w : World) (t e ty : TypeId) (i : TypeInfo) (ht : Try.prog.underlying t = some (.slice e)) (hi : Try.prog.info? e = some i) (A A' : Option Addr) (n c1 c : Nat) (hn : n ≤ c1) :
    (Builtin.append_ #[t, t] ty #[.slice A n c1, .slice A' 0 c]).run Try.prog w = .ok (.slice A n c1) w := by
  cases A <;> cases A' <;> simp [Builtin.append_, run_underlying ht, sizeOf, typeInfo, hi, Builtin.lenOf, Builtin.firstCells, storeCells, loadCells, loadCellsFrom, Result.andThen, hn]

theorem own_base {w : World} {base : Nat} {e : TypeId} {size n : Nat} {v : Value} {xs : List Value} (h : w.ownsRow base e size v n xs) : ∀ k, v.ownBlock = some k → base ≤ k := fun k hk => by
  obtain ⟨h1, ⟨rfl, h⟩ | ⟨g', cap, cur, rfl, hb, hh, r⟩⟩ := h
  · cases hk
  · cases hk
    exact hb

/-- What a slice is that is put behind a row: m elements, whose cells are news. -/
def Src (w : World) (sv : Value) (size m : Nat) (news : List Value) : Prop :=
  (m = 0 ∧ news = [] ∧ ∃ A c, sv = .slice A 0 c) ∨ ∃ ad c, sv = .slice (some ad) m c ∧ news.length = m * size ∧ ∀ j u, news[j]? = some u → w.cell? (ad.add j) = some u

theorem wp_append_any {ops : Array Oper} {rest : List Oper} {o : Oper} {a : Act} {Q : Exit → Act → World → Prop} {w : World} (base : Nat) (hgd : o.guard = none) (s x : Operand) (t e : TypeId)
    (ho : o.op = .call { callee := .builtin .append, args := #[s, x], argTypes := #[t, t] }) (ht : Try.prog.underlying t = some (.slice e)) (z : Value) (size bytes : Nat)
    (hinfo : (Try.prog.info? e).map (fun i => (i.zero, i.size, i.bytes)) = some (some z, size, bytes)) (hz : z.cells.size = size) (hsz : 0 < size) (v : Value) (n : Nat) (xs : List Value) (hs : a.eval s = v)
    (sv : Value) (m : Nat) (news : List Value) (hx : a.eval x = sv) (hsv : Src w sv size m news) (hown : w.ownsRow base e size v n xs) (h1 : ∀ u ∈ news, u.oneCell' = true) (h63 : n + m ≤ maxLen) (hb : (n + m) * bytes ≤ 140737488355328) (hbase : base ≤ w.heap.size)
    (h : ∀ v1 w1, w1.ownsRow base e size v1 (n + m) (xs ++ news) → w.grownBy w1 v.ownBlock → (v1.ownBlock = v.ownBlock ∨ v1.ownBlock = some w.heap.size) → wpList Try.prog ops Q rest (a.put o.dst v1) w1) :
    wpList Try.prog ops Q (o :: rest) a w := by
  obtain ⟨i0, hi, hzz⟩ := Option.map_eq_some_iff.1 hinfo
  simp only [Prod.mk.injEq] at hzz
  obtain ⟨hz0, hz1, hz2⟩ := hzz
  rcases hsv with ⟨rfl, rfl, A, c, rfl⟩ | ⟨ad, c, rfl, hl, hn⟩
  · obtain ⟨A0, c0, rfl, hc0, _⟩ := own_shape hown
    refine wpList_plain hgd fun K hK => ?_
    have hr := run_append_zero w t e o.type i0 ht hi A0 A n c0 c hc0
    unfold Oper.wp execOp
    simp only [ho, resolve, invoke, builtin, Sem.run_bind, Sem.run_pure, Result.andThen_ok, List.map_toArray, List.map_cons, List.map_nil, hs, hx, hr]
    refine hK _ _ (h _ _ ?_ ⟨rfl, rfl, rfl, Nat.le_refl _, fun _ _ _ => rfl⟩ (Or.inl rfl))
    rw [List.append_nil]
    exact hown
  · refine wpList_append_own_at w hgd s x t ho base e i0 z size bytes ht hi hz0 hz1 hz2 hz hsz v n xs hs hown ad m c news hx hl hn h1 h63 hb hbase ?_
    intro v1 w1 g1 g2 _ g3
    exact h v1 w1 g1 g2 g3

end Go.Proofs.Ytcjlfkklpghjbaa

namespace Go.Proofs.Ytcjlfkklpghjbaa
open Go.RowKit

/-- The worlds in which nothing of w's has turned. -/
def Gr (w : World) : Type := { W : World // Below w.heap.size w W }
instance (w : World) : Nonempty (Gr w) := ⟨⟨w, Below.refl _ _⟩⟩

theorem wp_region_grow {P : Program} {id : Nat} {Q : Exit → Act → World → Prop} {a : Act} {w : World} {l : List Oper} (hm : P.follows .mixedOrders = true) (hB : Region.lexB .any l.toArray = true)
    (h : wpQuiet P l.toArray (fun W => ∃ x : Gr w, W = x.1) (fun a' => ∀ W, (∃ x : Gr w, W = x.1) → Q .normal a' W) l a) : (Code.region id l.toArray true).wp P Q a w :=
  wp_region_quiet (C := fun W => ∃ x : Gr w, W = x.1) hm hB ⟨⟨w.drew, below_drewN (Below.refl _ _) 1⟩, rfl⟩ (by simpa using h)

/-- A callee's contract, met in such a world. -/
theorem grow_of {P : Program} {f : FuncId} {args : Array Value} {w : World} {v : Value} (x : Gr w) (h : Calls P f args x.1 fun e w' => e = .returned v ∧ Below x.1.heap.size x.1 w') :
    Calls P f args x.1 fun e w'' => e = .returned v ∧ ∃ y : Gr w, w'' = y.1 :=
  h.mono fun _ w' ⟨he, hb⟩ => ⟨he, ⟨w', x.2.trans (hb.mono x.2.size)⟩, rfl⟩

theorem Gr.cell {w : World} {a : Addr} {v : Value} (h : w.cell? a = some v) (x : Gr w) : x.1.cell? a = some v := by
  rw [← h]
  refine x.2.cell (p := a) ?_
  rcases Nat.lt_or_ge a.block w.heap.size with h1 | h1
  · exact h1
  · simp [World.cell?, Array.getElem?_eq_none h1] at h

end Go.Proofs.Ytcjlfkklpghjbaa

namespace Go.Proofs.Ytcjlfkklpghjbaa
open Go.RowKit

theorem quiet_eq {P : Program} {f : FuncId} {args : Array Value} {w : World} {n : Nat} {v : Value}
    (h : Calls P f args (w.drewN n) fun e w' => e = .returned v ∧ w.drewN n = w') : Calls P f args (w.drewN n) fun e w'' => e = .returned v ∧ ∃ m, w'' = w.drewN m :=
  h.mono fun _ _ ⟨he, hm⟩ => ⟨he, n, hm.symm⟩
theorem grow_eq {P : Program} {f : FuncId} {args : Array Value} {w : World} {v : Value} (x : Gr w) (h : Calls P f args x.1 fun e w' => e = .returned v ∧ x.1 = w') :
    Calls P f args x.1 fun e w'' => e = .returned v ∧ ∃ y : Gr w, w'' = y.1 := h.mono fun _ _ ⟨he, hm⟩ => ⟨he, x, hm.symm⟩
theorem strs_diff {a b : ByteArray} (h : a ≠ b) : (a.toList == b.toList) = false := by rw [str_eq]; simpa using h
theorem strs_alike {a b : ByteArray} (h : a = b) : (a.toList == b.toList) = true := by rw [str_eq]; simpa using h

end Go.Proofs.Ytcjlfkklpghjbaa

namespace Go.Proofs.Ytcjlfkklpghjbaa
open Go.RowKit

def ptr (b : Nat) : Value := .pointer (some ⟨b, 0, none⟩)

def mtCells (m : Mt) : List Value := [.int .i64 m.mode, .int .i64 m.sec, .int .i64 m.nano, .int .i64 m.uid, .int .i64 m.gid]

theorem cell_of {w : World} {b : Nat} {cs : Array Value} {t : TypeId} {f : Nat × Nat} (h : w.heap[b]? = some (.cells cs t f)) {j : Nat} {v : Value} (hj : cs[j]? = some v) : w.cell? ⟨b, j, none⟩ = some v := by
  simp [World.cell?, h, hj]

theorem str_nil (s : ByteArray) : s.toList.isEmpty = decide (bl s = []) := by
  rw [str_empty]
  congr 1
  rw [← bl_length]
  exact propext List.length_eq_zero_iff

theorem heap_set_same {w : World} {b : Nat} {cs : Array Value} {t : TypeId} {f : Nat × Nat} (h : w.heap[b]? = some (.cells cs t f)) (k : Nat) (v : Value) : (w.setCell ⟨b, k, none⟩ v).heap[b]? = some (.cells (cs.setIfInBounds k v) t f) := by
  rw [Sort.setCell_eq]
  unfold Sort.mapBlock
  simp only [Array.getElem?_modify, if_true, h, Option.map_some, Sort.onCells]

theorem heap_set_other (w : World) {b b' : Nat} (h : b' ≠ b) (k : Nat) (v : Value) : (w.setCell ⟨b, k, none⟩ v).heap[b']? = w.heap[b']? := RowKit.Below.heap_setCell _ _ _ _ h

theorem heap_set_size (w : World) (a : Addr) (v : Value) : (w.setCell a v).heap.size = w.heap.size := by simp [World.setCell]

theorem cell_lt {W : World} {a : Addr} {v : Value} (h : W.cell? a = some v) : a.block < W.heap.size := by
  rcases Nat.lt_or_ge a.block W.heap.size with h1 | h1
  · exact h1
  · simp [World.cell?, Array.getElem?_eq_none h1] at h

theorem ret_bool {a b : Bool} (h : a = b) : Ending.returned (.bool a) = .returned (.bool b) := by rw [h]

theorem all_take_snoc {α : Type} (f : α → Bool) (l : List α) {k : Nat} (hk : k < l.length) : (l.take (k + 1)).all f = ((l.take k).all f && f l[k]) := by
  rw [List.take_succ_eq_append_getElem hk, List.all_append]
  simp

theorem all_not {α : Type} {f : α → Bool} {l : List α} {k : Nat} (hk : k < l.length) (h : f l[k] = false) : l.all f = false := by
  rw [Bool.eq_false_iff]
  intro h2
  have := List.all_eq_true.1 h2 _ (List.getElem_mem hk)
  rw [h] at this
  cases this

def mtV (m : Mt) : Value := .agg (mtCells m).toArray

set_option maxHeartbeats 1000000 in
set_option maxRecDepth 100000 in
theorem check_calls (m : Mt) (w : World) :
    Calls Try.prog 47 #[mtV m] w fun e w' => e = .returned (.int .i64 (if metaOk m then 0 else 2)) ∧ Below w.heap.size w w' := by
  obtain ⟨a1, a2, a3, a4, a5⟩ := m
  generalize hr : (if metaOk ⟨a1, a2, a3, a4, a5⟩ then (0 : Int) else 2) = r
  replace hr := Lib.hid hr
  unfold mtV mtCells
  dsimp only
  have hB : Below w.heap.size w (w.alloc (.cells #[.int .i64 a1, .int .i64 a2, .int .i64 a3, .int .i64 a4, .int .i64 a5] 33)) := (Below.refl _ _).alloc (Nat.le_refl _) _
  replace hB := Lib.hid hB
  go_enter Try.func47, Try.ntmps47
  go_wp2
  all_goals
    go_ret
    refine ⟨ret_int ?_, hB.out⟩
    have := hr.out
    simp only [metaOk, within, Bool.and_eq_true, decide_eq_true_eq] at this
    split at this <;> omega

theorem neq_mt (W : World) (a1 a2 a3 a4 a5 b1 b2 b3 b4 b5 : Int) :
    (binOp .neq 33 (.agg #[.int .i64 a1, .int .i64 a2, .int .i64 a3, .int .i64 a4, .int .i64 a5]) (.agg #[.int .i64 b1, .int .i64 b2, .int .i64 b3, .int .i64 b4, .int .i64 b5])).run Try.prog W = .ok (.bool (!decide (a1 = b1 ∧ a2 = b2 ∧ a3 = b3 ∧ a4 = b4 ∧ a5 = b5))) W := by
  go_simp
  by_cases h1 : a1 = b1 <;> by_cases h2 : a2 = b2 <;> by_cases h3 : a3 = b3 <;> by_cases h4 : a4 = b4 <;> by_cases h5 : a5 = b5 <;> simp [h1, h2, h3, h4, h5]

theorem mt_eq {a b : Mt} : (a.mode = b.mode ∧ a.sec = b.sec ∧ a.nano = b.nano ∧ a.uid = b.uid ∧ a.gid = b.gid) ↔ a = b := by
  cases a
  cases b
  simp

theorem mkS_toList (l : Bytes) : (mkS l).toList = l := by rw [toList_bl, bl_mkS]

theorem types_apart {w : World} {x y : Nat} {cs ds : Array Value} {t u : TypeId} {f f' : Nat × Nat} (hx : w.heap[x]? = some (.cells cs t f)) (hy : w.heap[y]? = some (.cells ds u f')) (h : t ≠ u) : x ≠ y := by
  rintro rfl
  rw [hx] at hy
  cases hy
  exact h rfl

theorem own_blocks {w w' : World} {base : Nat} {e : TypeId} {size n : Nat} {v : Value} {xs : List Value} (h : w.ownsRow base e size v n xs) (hk : ∀ g, v.ownBlock = some g → w'.heap[g]? = w.heap[g]?) : w'.ownsRow base e size v n xs := by
  obtain ⟨h1, h | ⟨g, cap, cur, rfl, hb, hh, r⟩⟩ := h
  · exact ⟨h1, Or.inl h⟩
  · exact ⟨h1, Or.inr ⟨g, cap, cur, rfl, hb, (hk g rfl).trans hh, r⟩⟩

theorem own_cells {w : World} {base : Nat} {e : TypeId} {size n : Nat} {v : Value} {xs : List Value} (h : w.ownsRow base e size v n xs) {g : Nat} (hg : v.ownBlock = some g) : base ≤ g ∧ ∃ cur, w.heap[g]? = some (.cells cur e (0, 0)) := by
  obtain ⟨h1, ⟨rfl, h⟩ | ⟨g', cap, cur, rfl, hb, hh, r⟩⟩ := h
  · cases hg
  · cases hg
    exact ⟨hb, cur, hh⟩

set_option maxRecDepth 100000 in
theorem rin16_calls (n lo hi : Int) (w : World) : Calls Try.prog 62 #[.int .i64 n, .int .i64 lo, .int .i64 hi] w fun e w' => e = .returned (.bool (within n lo hi)) ∧ w = w' := by
  unfold within
  by_cases h1 : lo ≤ n
  · go_enter Try.func62, Try.ntmps62
    go_wp2
    go_ret
    exact ⟨ret_bool (by simp [h1]), rfl⟩
  · have h2 : decide (lo ≤ n) = false := by simpa using h1
    replace h1 := Lib.hid h1
    go_enter Try.func62, Try.ntmps62
    go_wp2
    go_ret
    exact ⟨ret_bool (by first | rfl | (rw [h2]; rfl)), rfl⟩

set_option maxHeartbeats 2000000 in
set_option maxRecDepth 100000 in
theorem rcheck_calls (m : Mt) (w : World) :
    Calls Try.prog 54 #[mtV m] w fun e w' => e = .returned (.int .i64 (if metaOk m then 0 else 2)) ∧ Below w.heap.size w w' := by
  obtain ⟨a1, a2, a3, a4, a5⟩ := m
  unfold mtV mtCells metaOk
  dsimp only
  have k1 := fun W => rin16_calls a1 0 4095 W
  have k2 := fun W => rin16_calls a2 (-1099511627776) 1099511627776 W
  have k3 := fun W => rin16_calls a3 0 999999999 W
  have k4 := fun W => rin16_calls a4 0 2147483647 W
  have k5 := fun W => rin16_calls a5 0 2147483647 W
  generalize within a1 0 4095 = b1 at *
  generalize within a2 (-1099511627776) 1099511627776 = b2 at *
  generalize within a3 0 999999999 = b3 at *
  generalize within a4 0 2147483647 = b4 at *
  generalize within a5 0 2147483647 = b5 at *
  have hB := (Below.refl w.heap.size w).alloc (Nat.le_refl _) (.cells #[.int .i64 a1, .int .i64 a2, .int .i64 a3, .int .i64 a4, .int .i64 a5] 33)
  have hblk := (MapKept.heap_alloc w (.cells #[.int .i64 a1, .int .i64 a2, .int .i64 a3, .int .i64 a4, .int .i64 a5] 33)).1
  have c0 := cell_of (j := 0) hblk (v := .int .i64 a1) rfl
  have c1 := cell_of (j := 1) hblk (v := .int .i64 a2) rfl
  have c2 := cell_of (j := 2) hblk (v := .int .i64 a3) rfl
  have c3 := cell_of (j := 3) hblk (v := .int .i64 a4) rfl
  have c4 := cell_of (j := 4) hblk (v := .int .i64 a5) rfl
  cases b1 with
  | false =>
    replace k1 := Lib.hid k1
    replace k2 := Lib.hid k2
    replace k3 := Lib.hid k3
    replace k4 := Lib.hid k4
    replace k5 := Lib.hid k5
    replace hB := Lib.hid hB
    replace hblk := Lib.hid hblk
    go_enter Try.func54, Try.ntmps54
    go_wp2_with fail
    (with_reducible refine (k1.out _).mono ?_)
    rintro e w1 ⟨rfl, rfl⟩
    go_wp2_with fail
    go_ret
    exact ⟨rfl, hB.out⟩
  | true =>
    cases b2 with
    | false =>
      replace k1 := Lib.hid k1
      replace k2 := Lib.hid k2
      replace k3 := Lib.hid k3
      replace k4 := Lib.hid k4
      replace k5 := Lib.hid k5
      replace hB := Lib.hid hB
      replace hblk := Lib.hid hblk
      go_enter Try.func54, Try.ntmps54
      go_wp2_with fail
      (with_reducible refine (k1.out _).mono ?_)
      rintro e w1 ⟨rfl, rfl⟩
      go_wp2_with fail
      (with_reducible refine (k2.out _).mono ?_)
      rintro e w1 ⟨rfl, rfl⟩
      go_wp2_with fail
      go_ret
      exact ⟨rfl, hB.out⟩
    | true =>
      cases b3 with
      | false =>
        replace k1 := Lib.hid k1
        replace k2 := Lib.hid k2
        replace k3 := Lib.hid k3
        replace k4 := Lib.hid k4
        replace k5 := Lib.hid k5
        replace hB := Lib.hid hB
        replace hblk := Lib.hid hblk
        go_enter Try.func54, Try.ntmps54
        go_wp2_with fail
        (with_reducible refine (k1.out _).mono ?_)
        rintro e w1 ⟨rfl, rfl⟩
        go_wp2_with fail
        (with_reducible refine (k2.out _).mono ?_)
        rintro e w1 ⟨rfl, rfl⟩
        go_wp2_with fail
        (with_reducible refine (k3.out _).mono ?_)
        rintro e w1 ⟨rfl, rfl⟩
        go_wp2_with fail
        go_ret
        exact ⟨rfl, hB.out⟩
      | true =>
        cases b4 with
        | false =>
          replace k1 := Lib.hid k1
          replace k2 := Lib.hid k2
          replace k3 := Lib.hid k3
          replace k4 := Lib.hid k4
          replace k5 := Lib.hid k5
          replace hB := Lib.hid hB
          replace hblk := Lib.hid hblk
          go_enter Try.func54, Try.ntmps54
          go_wp2_with fail
          (with_reducible refine (k1.out _).mono ?_)
          rintro e w1 ⟨rfl, rfl⟩
          go_wp2_with fail
          (with_reducible refine (k2.out _).mono ?_)
          rintro e w1 ⟨rfl, rfl⟩
          go_wp2_with fail
          (with_reducible refine (k3.out _).mono ?_)
          rintro e w1 ⟨rfl, rfl⟩
          go_wp2_with fail
          (with_reducible refine (k4.out _).mono ?_)
          rintro e w1 ⟨rfl, rfl⟩
          go_wp2_with fail
          go_ret
          exact ⟨rfl, hB.out⟩
        | true =>
          cases b5 with
          | false =>
            replace k1 := Lib.hid k1
            replace k2 := Lib.hid k2
            replace k3 := Lib.hid k3
            replace k4 := Lib.hid k4
            replace k5 := Lib.hid k5
            replace hB := Lib.hid hB
            replace hblk := Lib.hid hblk
            go_enter Try.func54, Try.ntmps54
            go_wp2_with fail
            (with_reducible refine (k1.out _).mono ?_)
            rintro e w1 ⟨rfl, rfl⟩
            go_wp2_with fail
            (with_reducible refine (k2.out _).mono ?_)
            rintro e w1 ⟨rfl, rfl⟩
            go_wp2_with fail
            (with_reducible refine (k3.out _).mono ?_)
            rintro e w1 ⟨rfl, rfl⟩
            go_wp2_with fail
            (with_reducible refine (k4.out _).mono ?_)
            rintro e w1 ⟨rfl, rfl⟩
            go_wp2_with fail
            (with_reducible refine (k5.out _).mono ?_)
            rintro e w1 ⟨rfl, rfl⟩
            go_wp2_with fail
            go_ret
            exact ⟨rfl, hB.out⟩
          | true =>
            replace k1 := Lib.hid k1
            replace k2 := Lib.hid k2
            replace k3 := Lib.hid k3
            replace k4 := Lib.hid k4
            replace k5 := Lib.hid k5
            replace hB := Lib.hid hB
            replace hblk := Lib.hid hblk
            go_enter Try.func54, Try.ntmps54
            go_wp2_with fail
            (with_reducible refine (k1.out _).mono ?_)
            rintro e w1 ⟨rfl, rfl⟩
            go_wp2_with fail
            (with_reducible refine (k2.out _).mono ?_)
            rintro e w1 ⟨rfl, rfl⟩
            go_wp2_with fail
            (with_reducible refine (k3.out _).mono ?_)
            rintro e w1 ⟨rfl, rfl⟩
            go_wp2_with fail
            (with_reducible refine (k4.out _).mono ?_)
            rintro e w1 ⟨rfl, rfl⟩
            go_wp2_with fail
            (with_reducible refine (k5.out _).mono ?_)
            rintro e w1 ⟨rfl, rfl⟩
            go_wp2_with fail
            go_ret
            exact ⟨rfl, hB.out⟩

theorem run_append_any {w : World} (base : Nat) (t e ty : TypeId) (ht : Try.prog.underlying t = some (.slice e)) (z : Value) (size bytes : Nat)
    (hinfo : (Try.prog.info? e).map (fun i => (i.zero, i.size, i.bytes)) = some (some z, size, bytes)) (hz : z.cells.size = size) (hsz : 0 < size) (v : Value) (n : Nat) (xs : List Value)
    (sv : Value) (m : Nat) (news : List Value) (hsv : Src w sv size m news) (hown : w.ownsRow base e size v n xs) (h1 : ∀ u ∈ news, u.oneCell' = true) (h63 : n + m ≤ maxLen) (hb : (n + m) * bytes ≤ 140737488355328) (hbase : base ≤ w.heap.size) :
    ∃ v1 w1, (Builtin.append_ #[t, t] ty #[v, sv]).run Try.prog w = .ok v1 w1 ∧ w1.ownsRow base e size v1 (n + m) (xs ++ news) ∧ w.grownBy w1 v.ownBlock ∧ (v1.ownBlock = v.ownBlock ∨ v1.ownBlock = some w.heap.size) := by
  obtain ⟨i0, hi, hzz⟩ := Option.map_eq_some_iff.1 hinfo
  simp only [Prod.mk.injEq] at hzz
  obtain ⟨hz0, hz1, hz2⟩ := hzz
  rcases hsv with ⟨rfl, rfl, A, c, rfl⟩ | ⟨ad, c, rfl, hl, hn⟩
  · obtain ⟨A0, c0, rfl, hc0, _⟩ := own_shape hown
    exact ⟨_, _, run_append_zero w t e ty i0 ht hi A0 A n c0 c hc0, by rw [List.append_nil]; exact hown, ⟨rfl, rfl, rfl, Nat.le_refl _, fun _ _ _ => rfl⟩, Or.inl rfl⟩
  · obtain ⟨v', w', hr, h2, h3, _, h5⟩ := run_append_own_at (P := Try.prog) w base t ty e i0 z size bytes ht hi hz0 hz1 hz2 hz hsz v n xs hown ad m c news hl hn h1 h63 hb hbase
    exact ⟨v', w', hr, h2, h3, h5⟩

theorem right_len {s : Bytes} (h : right s = true) : s.length ≤ 200 := by
  simp only [right, Bool.and_eq_true, decide_eq_true_eq] at h
  exact h.2

end Go.Proofs.Ytcjlfkklpghjbaa

namespace Go.Proofs.Ytcjlfkklpghjbaa
end Go.Proofs.Ytcjlfkklpghjbaa

namespace Go.Proofs.Ytcjlfkklpghjbaa
end Go.Proofs.Ytcjlfkklpghjbaa

namespace Go.Proofs.Ytcjlfkklpghjbaa
end Go.Proofs.Ytcjlfkklpghjbaa

namespace Go.Proofs.Ytcjlfkklpghjbaa
end Go.Proofs.Ytcjlfkklpghjbaa

namespace Go.Proofs.Ytcjlfkklpghjbaa
end Go.Proofs.Ytcjlfkklpghjbaa

namespace Go.Proofs.Ytcjlfkklpghjbaa
end Go.Proofs.Ytcjlfkklpghjbaa

namespace Go.Proofs.Ytcjlfkklpghjbaa
end Go.Proofs.Ytcjlfkklpghjbaa

namespace Go.Proofs.Ytcjlfkklpghjbaa
end Go.Proofs.Ytcjlfkklpghjbaa

namespace Go.Proofs.Ytcjlfkklpghjbaa
end Go.Proofs.Ytcjlfkklpghjbaa

namespace Go.Proofs.Ytcjlfkklpghjbaa
end Go.Proofs.Ytcjlfkklpghjbaa

namespace Go.Proofs.Ytcjlfkklpghjbaa
end Go.Proofs.Ytcjlfkklpghjbaa

namespace Go.Proofs.Ytcjlfkklpghjbaa
end Go.Proofs.Ytcjlfkklpghjbaa

namespace Go.Proofs.Ytcjlfkklpghjbaa
open Go.RowKit

set_option maxHeartbeats 2000000 in
set_option maxRecDepth 100000 in
theorem rtexts_calls (a b : Value) (x y : List Bytes) (w : World) (ha : Rd w a x) (hb : Rd w b y) :
    Calls Try.prog 11 #[a, b] w fun e w' => e = .returned (.bool (decide (x = y))) ∧ Below w.heap.size w w' := by
  obtain ⟨aA, ac, rfl, ha1, ha2, hca⟩ := ha
  obtain ⟨bA, bc, rfl, hb1, hb2, hcb⟩ := hb
  unfold maxLen at *
  by_cases hl : x.length = y.length
  · have hl2 : (x.length : Int) = (y.length : Int) := by omega
    have hl3 : ((x.length : Int) == (y.length : Int)) = true := by rw [hl2]; simp
    replace hca := Lib.hid hca
    replace hcb := Lib.hid hcb
    replace hl := Lib.hid hl
    go_enter Try.func11, Try.ntmps11
    go_wp2
    go_loopw [5] (fun i wr => ∃ k : Nat, i = .int .i64 k ∧ k ≤ x.length ∧ x.take k = y.take k ∧ Below w.heap.size w wr) (fun i _ => x.length - (intOf i).toNat)
    case atStart => exact ⟨0, rfl, Nat.zero_le _, rfl, Below.refl _ _⟩
    case round =>
      obtain ⟨k, rfl, hk, hpre, hB⟩ := hrel
      by_cases hlt : k < x.length
      · have hlt2 : k < y.length := by rw [← hl.out]; exact hlt
        obtain ⟨g1, o1, e1, c1⟩ := hca.out k _ (List.getElem?_eq_getElem hlt)
        obtain ⟨g2, o2, e2, c2⟩ := hcb.out k _ (List.getElem?_eq_getElem hlt2)
        have hk1 : (k : Int) < (x.length : Int) := by omega
        have hk2 : (k : Int) < (y.length : Int) := by omega
        have htx : x.take (k + 1) = x.take k ++ [x[k]] := List.take_succ_eq_append_getElem hlt
        have hty : y.take (k + 1) = y.take k ++ [y[k]] := List.take_succ_eq_append_getElem hlt2
        have hxy : x = y → x[k] = y[k] := fun e => by subst e; rfl
        generalize x[k] = s at *
        generalize y[k] = t at *
        subst e1 e2
        replace c1 := (hB.cell (cell_lt c1)).trans c1
        replace c2 := (hB.cell (cell_lt c2)).trans c2
        by_cases hst : s = t
        · subst hst
          have hnx : x.take (k + 1) = y.take (k + 1) := by rw [htx, hty, hpre]
          replace htx := Lib.hid htx
          replace hty := Lib.hid hty
          replace hxy := Lib.hid hxy
          replace hpre := Lib.hid hpre
          replace hnx := Lib.hid hnx
          replace hB := Lib.hid hB
          go_upto_region 6 with fail
          go_quiet (fail)
          go_wp2
          go_roundw
          case rel => exact ⟨k + 1, by go_num, by omega, hnx.out, below_drewN hB.out _⟩
          case measure => simp [intOf]; omega
        · have t3 : ¬ (mkS s).toList = (mkS t).toList := by rw [toList_bl, toList_bl, bl_mkS, bl_mkS]; exact hst
          have t2 : ((mkS s).toList == (mkS t).toList) = false := by simpa using t3
          have hd : decide (x = y) = false := decide_eq_false fun e => hst (hxy e)
          replace htx := Lib.hid htx
          replace hty := Lib.hid hty
          replace hxy := Lib.hid hxy
          replace hpre := Lib.hid hpre
          replace hst := Lib.hid hst
          replace hd := Lib.hid hd
          replace hB := Lib.hid hB
          go_upto_region 6 with fail
          go_quiet (fail)
          go_wp2
          go_ret
          exact ⟨ret_bool hd.out.symm, below_drewN hB.out _⟩
      · obtain rfl : k = x.length := by omega
        have hd : decide (x = y) = true := by
          rw [List.take_length, hl.out, List.take_length] at hpre
          exact decide_eq_true hpre
        replace hpre := Lib.hid hpre
        replace hd := Lib.hid hd
        replace hB := Lib.hid hB
        go_wp2
        go_ret
        exact ⟨ret_bool hd.out.symm, hB.out⟩
  · have hne : x ≠ y := fun e => hl (by rw [e])
    have hl3 : ((x.length : Int) == (y.length : Int)) = false := by
      rw [beq_eq_false_iff_ne]
      omega
    have hl4 : ¬ ((x.length : Int) = (y.length : Int)) := by omega
    rw [decide_eq_false hne]
    replace hca := Lib.hid hca
    replace hcb := Lib.hid hcb
    replace hl := Lib.hid hl
    replace hne := Lib.hid hne
    go_enter Try.func11, Try.ntmps11
    go_wp2
    go_ret
    exact ⟨rfl, Below.refl _ _⟩

end Go.Proofs.Ytcjlfkklpghjbaa

namespace Go.Proofs.Ytcjlfkklpghjbaa
open Go.RowKit

theorem add_at (g o j : Nat) : (⟨g, o, none⟩ : Addr).add j = ⟨g, o + j, none⟩ := by
  simp only [Addr.add]
  split
  · rename_i h
    rw [h]
    rfl
  · rfl

theorem Rd.src {W : World} {v : Value} {l : List Bytes} (h : Rd W v l) : Src W v 1 l.length (strs l) := by
  obtain ⟨A, c, rfl, h1, h2, hc⟩ := h
  by_cases hl : l = []
  · subst hl
    exact Or.inl ⟨rfl, rfl, A, c, rfl⟩
  · have hp : 0 < l.length := List.length_pos_iff.2 hl
    obtain ⟨g, o, rfl, _⟩ := hc 0 _ (List.getElem?_eq_getElem hp)
    refine Or.inr ⟨_, c, rfl, by simp [strs], fun j u hj => ?_⟩
    have hlt : j < l.length := by have := (List.getElem?_eq_some_iff.1 hj).1; simpa [strs] using this
    obtain ⟨g', o', e, hcell⟩ := hc j _ (List.getElem?_eq_getElem hlt)
    cases e
    have : u = .string (mkS l[j]) := by
      simp only [strs, List.getElem?_map, List.getElem?_eq_getElem hlt, Option.map_some, Option.some.injEq] at hj
      exact hj.symm
    rw [add_at, this]
    exact hcell

theorem Rd.drop {W : World} {A : Option Addr} {n c : Nat} {l : List Bytes} (h : Rd W (.slice A n c) l) (k : Nat) (hk : k ≤ l.length) : Rd W (.slice (if c = k then A else Option.map (fun x : Addr => x.add k) A) (n - k) (c - k)) (l.drop k) := by
  obtain ⟨A', c', e, h1, h2, hc⟩ := h
  simp only [Value.slice.injEq] at e
  obtain ⟨rfl, rfl, rfl⟩ := e
  refine ⟨_, c - k, by rw [List.length_drop], by rw [List.length_drop]; omega, by omega, fun j u hj => ?_⟩
  rw [List.getElem?_drop] at hj
  have hlt : k + j < l.length := (List.getElem?_eq_some_iff.1 hj).1
  obtain ⟨g, o, rfl, hcell⟩ := hc (k + j) u hj
  refine ⟨g, o + k, ?_, by rw [Nat.add_assoc]; exact hcell⟩
  rw [if_neg (by omega)]
  simp only [Option.map_some, Addr.add]
  split
  · rename_i h0
    rw [h0]
    rfl
  · rfl

/-- Two rising rows, and what of both has been taken. -/
structure Mrg (l out a b : List Bytes) : Prop where
  perm : (out ++ (a ++ b)).Perm l
  sa : Sorted (out ++ a)
  sb : Sorted (out ++ b)

theorem sorted_cons {a : Bytes} {l : List Bytes} : Sorted (a :: l) ↔ (∀ x ∈ l, cmpP a x ≤ 0) ∧ Sorted l := List.pairwise_cons
theorem sorted_append {l r : List Bytes} : Sorted (l ++ r) ↔ Sorted l ∧ Sorted r ∧ ∀ x ∈ l, ∀ y ∈ r, cmpP x y ≤ 0 := List.pairwise_append

theorem Mrg.right {l out a b : List Bytes} {x y : Bytes} (h : Mrg l out (x :: a) (y :: b)) (hlt : cmpP y x < 0) : Mrg l (out ++ [y]) (x :: a) b := by
  refine ⟨?_, ?_, ?_⟩
  · refine List.Perm.trans ?_ h.perm
    rw [List.append_assoc]
    exact List.Perm.append_left out (List.perm_middle (l₁ := x :: a) (l₂ := b) (a := y)).symm
  · obtain ⟨s1, s2, s3⟩ := sorted_append.1 h.sa
    obtain ⟨t1, t2, t3⟩ := sorted_append.1 h.sb
    rw [List.append_assoc]
    refine sorted_append.2 ⟨s1, ?_, fun u hu v hv => ?_⟩
    · refine sorted_cons.2 ⟨fun u hu => ?_, s2⟩
      rcases List.mem_cons.1 hu with rfl | hu
      · omega
      · exact leP_trans (a := y) (b := x) (c := u) (Int.le_of_lt hlt) ((sorted_cons.1 s2).1 u hu)
    · rcases List.mem_append.1 hv with hv | hv
      · rw [List.mem_singleton.1 hv]
        exact t3 u hu y (List.mem_cons_self ..)
      · exact s3 u hu v hv
  · rw [List.append_assoc]
    exact h.sb
theorem Mrg.left {l out a b : List Bytes} {x y : Bytes} (h : Mrg l out (x :: a) (y :: b)) (hlt : ¬ cmpP y x < 0) : Mrg l (out ++ [x]) a (y :: b) := by
  refine ⟨?_, ?_, ?_⟩
  · refine List.Perm.trans ?_ h.perm
    rw [List.append_assoc]
    exact List.Perm.refl _
  · rw [List.append_assoc]
    exact h.sa
  · obtain ⟨s1, s2, s3⟩ := sorted_append.1 h.sa
    obtain ⟨t1, t2, t3⟩ := sorted_append.1 h.sb
    have hxy : cmpP x y ≤ 0 := by have := cmpP_swap x y; omega
    rw [List.append_assoc]
    refine sorted_append.2 ⟨s1, ?_, fun u hu v hv => ?_⟩
    · refine sorted_cons.2 ⟨fun u hu => ?_, t2⟩
      rcases List.mem_cons.1 hu with rfl | hu
      · exact hxy
      · exact leP_trans (a := x) (b := y) (c := u) hxy ((sorted_cons.1 t2).1 u hu)
    · rcases List.mem_append.1 hv with hv | hv
      · rw [List.mem_singleton.1 hv]
        exact s3 u hu x (List.mem_cons_self ..)
      · exact t3 u hu v hv
theorem Mrg.fin {l out a b : List Bytes} (h : Mrg l out a b) (he : a = [] ∨ b = []) : out ++ a ++ b = sortP l := by
  refine sortP_eq (by rw [List.append_assoc]; exact h.perm) ?_
  rcases he with rfl | rfl
  · rw [List.append_nil]
    exact h.sb
  · rw [List.append_nil]
    exact h.sa

end Go.Proofs.Ytcjlfkklpghjbaa

namespace Go.Proofs.Ytcjlfkklpghjbaa
open Go.RowKit

theorem sortP_short {l : List Bytes} (h : l.length < 2) : sortP l = l := by
  refine (sortP_eq (List.Perm.refl l) ?_).symm
  match l, h with
  | [], _ => exact List.Pairwise.nil
  | [x], _ => exact List.pairwise_singleton _ _
  | _ :: _ :: _, h => simp at h; omega

theorem merge_start {l x y : List Bytes} (hp : (x ++ y).Perm l) (hx : Sorted x) (hy : Sorted y) : Mrg l [] x y := ⟨hp, hx, hy⟩

set_option maxHeartbeats 4000000 in
set_option maxRecDepth 100000 in
theorem refsort_short (v : Value) (l : List Bytes) (w : World) (hR : Rd w v l) (h2 : l.length < 2) :
    Calls Try.prog 42 #[v] w fun e w' => (∃ v', e = .returned v' ∧ Strs w.heap.size w' v' (sortP l)) ∧ Below w.heap.size w w' := by
  obtain ⟨A, c, rfl, hc1, hc2⟩ := hR.shape
  unfold maxLen at hc2
  have hsrc := hR.src
  have hso := sortP_short h2
  have hnil : w.ownsRow w.heap.size 9 1 (.slice none 0 0) 0 [] := ⟨rfl, Or.inl ⟨rfl, rfl⟩⟩
  replace hR := Lib.hid hR
  replace hsrc := Lib.hid hsrc
  replace hso := Lib.hid hso
  replace hnil := Lib.hid hnil
  go_enter Try.func42, Try.ntmps42
  go_wp2_with (at_builtin; refine wp_append_any w.heap.size rfl (.tmp 10) (.tmp 11) 46 9 rfl Try.underlying46 (.string ⟨#[]⟩) 1 16 info_string rfl (by decide) (.slice none 0 0) 0 [] rfl (.slice A l.length c) l.length (strs l) rfl hsrc.out hnil.out ?_ ?_ ?_ (Nat.le_refl _) ?_)
  · simp [strs, Value.oneCell']
  · simp [maxLen]; omega
  · omega
  · intro v1 w1 h1 hg _
    have hS1 : Strs w.heap.size w1 v1 l := by
      unfold Strs
      exact h1
    have hB1 : Below w.heap.size w w1 := ⟨hg.os, hg.tape, hg.output, hg.size, fun i hi => hg.block i hi (by simp [Value.ownBlock])⟩
    replace hS1 := Lib.hid hS1
    replace hB1 := Lib.hid hB1
    clear h1 hg
    go_wp2
    go_ret
    rw [hso.out]
    exact ⟨⟨_, rfl, hS1.out⟩, hB1.out⟩

def lenOf : Value → Nat
  | .slice _ n _ => n
  | _ => 0

theorem half_perm (l : List Bytes) (k : Nat) : (sortP (l.take k) ++ sortP (l.drop k)).Perm l := by
  have := (sortP_perm (l.take k)).append (sortP_perm (l.drop k))
  rwa [List.take_append_drop] at this

set_option maxHeartbeats 8000000 in
set_option maxRecDepth 100000 in
theorem refsort_calls : ∀ (n : Nat) (v : Value) (l : List Bytes) (w : World), l.length ≤ n → Rd w v l → l.length ≤ 1000000 → (∀ y ∈ l, y.length ≤ 16777216) →
    Calls Try.prog 42 #[v] w fun e w' => (∃ v', e = .returned v' ∧ Strs w.heap.size w' v' (sortP l)) ∧ Below w.heap.size w w' := by
  intro n
  induction n with
  | zero =>
    intro v l w hn hR hm hsz
    exact refsort_short v l w hR (by omega)
  | succ n ih =>
    intro v l w hn hR hm hsz
    by_cases h2 : l.length < 2
    · exact refsort_short v l w hR h2
    obtain ⟨A, c, rfl, hc1, hc2⟩ := hR.shape
    unfold maxLen at hc2
    have hi1 : ∀ W, Below w.heap.size w W → _ := fun W hW => ih _ _ W (by simp; omega) ((hR.below hW).take (l.length / 2) (by omega)) (by simp; omega) (fun y hy => hsz y (List.mem_of_mem_take hy))
    have hdr := fun W (hW : Below w.heap.size w W) => (hR.below hW).drop (l.length / 2) (by omega)
    rw [if_neg (by omega)] at hdr
    have hi2 : ∀ W, Below w.heap.size w W → _ := fun W hW => ih _ _ W (by simp; omega) (hdr W hW) (by simp; omega) (fun y hy => hsz y (List.mem_of_mem_drop hy))
    have hl2 : decide (l.length < 2) = false := by simpa using h2
    have hqa : (l.length : Int).tdiv 2 = (l.length : Int) / 2 := by rw [Int.tdiv_eq_ediv_of_nonneg (by omega)]
    have hqb : IntKind.i64.wrap ((l.length : Int) / 2) = (l.length : Int) / 2 := IntWalk.i64_in _ (by omega)
    have hq3 : (0 : Int) ≤ (l.length : Int) / 2 := by omega
    have hq4 : (l.length : Int) / 2 ≤ (c : Int) := by omega
    have hq5 : (l.length : Int) / 2 ≤ (l.length : Int) := by omega
    have hq6 : ((l.length : Int) / 2).toNat = l.length / 2 := by omega
    have hq7 : l.length / 2 ≤ c := by omega
    have hq8 : l.length / 2 ≤ l.length := by omega
    have hlt : ¬ c = l.length / 2 := by omega
    replace hR := Lib.hid hR
    replace hi1 := Lib.hid hi1
    replace hi2 := Lib.hid hi2
    replace hsz := Lib.hid hsz
    replace ih := Lib.hid ih
    replace hdr := Lib.hid hdr
    go_enter Try.func42, Try.ntmps42
    go_upto_region 4 with fail
    go_region_held3 (fun W => Below w.heap.size w W) (first | exact below_drewN (Below.refl _ _) 1 | exact hBa.out | exact hBb.out)
      (first | (go_at_call 42; (with_reducible refine (hi1.out _ (by assumption)).mono ?_); rintro e w1 ⟨⟨va, rfl, hSa⟩, hBa⟩; replace hBa := below_step (by assumption) hBa; replace hBa := Lib.hid hBa; replace hSa := Lib.hid hSa) | (go_at_call 42; (with_reducible refine (hi2.out _ (by assumption)).mono ?_); rintro e w2 ⟨⟨vb, rfl, hSb⟩, hBb⟩; have hBab := Lib.hid hBb; replace hBb := below_step (by assumption) hBb; replace hBb := Lib.hid hBb; replace hSb := Lib.hid hSb))
    rename_i hHeld
    clear hHeld
    have hRa := hSa.out.rd.below hBab.out
    have hRb := hSb.out.rd
    have hM0 := merge_start (half_perm l (l.length / 2)) (sortP_sorted _) (sortP_sorted _)
    have hlen : (sortP (l.take (l.length / 2))).length ≤ 1000000 ∧ (sortP (l.drop (l.length / 2))).length ≤ 1000000 := by
      rw [(sortP_perm _).length_eq, (sortP_perm _).length_eq, List.length_take, List.length_drop]
      omega
    generalize sortP (l.take (l.length / 2)) = xa0 at *
    generalize sortP (l.drop (l.length / 2)) = xb0 at *
    have hnil : w2.ownsRow w2.heap.size 9 1 (.slice none 0 0) 0 [] := ⟨rfl, Or.inl ⟨rfl, rfl⟩⟩
    replace hRa := Lib.hid hRa
    replace hRb := Lib.hid hRb
    replace hM0 := Lib.hid hM0
    replace hlen := Lib.hid hlen
    replace hnil := Lib.hid hnil
    clear hSa hSb hBa hi1 hi2 hdr hq3 hq4 hq5 hq6 hq7 hq8 hqa hqb hlt hl2 ih hR hBab
    go_wp2_with fail
    go_loopw [4, 5, 6] (fun va vb vo wr => ∃ xa xb xo : List Bytes, Rd w2 va xa ∧ Rd w2 vb xb ∧ Strs w2.heap.size wr vo xo ∧ Mrg l xo xa xb ∧ Below w2.heap.size w2 wr ∧ Hid (xo.length + (xa.length + xb.length) = l.length)) (fun va vb _ _ => (lenOf va + lenOf vb))
    case atStart => exact ⟨_, _, [], hRa.out, hRb.out, hnil.out, hM0.out, Below.refl _ _, Lib.hid (by have := hM0.out.perm.length_eq; simpa using this)⟩
    case round =>
      clear hM0 hRa hRb hlen
      obtain ⟨xa, xb, xo, hRa, hRb, hSo, hM, hB, hL⟩ := hrel
      have hL2 := hL.out
      obtain ⟨aA, ac, rfl, ha1, ha2⟩ := hRa.shape
      obtain ⟨bA, bc, rfl, hb1, hb2⟩ := hRb.shape
      obtain ⟨oA, oc, rfl, ho1, ho2⟩ := hSo.rd.shape
      unfold maxLen at ha2 hb2 ho2
      by_cases hne : xa = [] ∨ xb = []
      · have hfin := hM.fin hne
        have hsa := (hRa.below hB).src
        have hz : xa.length = 0 ∨ xb.length = 0 := hne.imp (fun h => by rw [h]; rfl) (fun h => by rw [h]; rfl)
        by_cases hxa : xa.length = 0
        · have t1 : decide (0 < xa.length) = false := decide_eq_false (by omega)
          replace hxa := Lib.hid hxa
          have hown := hSo.own
          replace hRa := Lib.hid hRa
          replace hRb := Lib.hid hRb
          replace hSo := Lib.hid hSo
          replace hM := Lib.hid hM
          replace hB := Lib.hid hB
          replace hfin := Lib.hid hfin
          replace hsa := Lib.hid hsa
          replace hz := Lib.hid hz
          replace hne := Lib.hid hne
          replace hown := Lib.hid hown
          replace hL := Lib.hid hL
          go_wp2_with (at_builtin; refine wp_append_any w2.heap.size rfl (.tmp 56) (.tmp 57) 46 9 rfl Try.underlying46 (.string ⟨#[]⟩) 1 16 info_string rfl (by decide) (.slice oA xo.length oc) xo.length (strs xo) rfl (.slice aA xa.length ac) xa.length (strs xa) rfl hsa.out hown.out ?_ ?_ ?_ hB.out.size ?_)
          · simp [strs, Value.oneCell']
          · simp only [maxLen]; omega
          · omega
          · intro v1 w3 h1 hg hat
            have hS3 : Strs w2.heap.size w3 v1 (xo ++ xa) := by
              unfold Strs
              rw [List.length_append]
              simpa [strs] using h1
            have hB3 := hB.out.grown hg hB.out.size (own_base hown.out)
            have hsb := (hRb.out.below hB3).src
            have hl3 : (xo ++ xa).length + xb.length = l.length := by rw [List.length_append]; omega
            obtain ⟨A3, c3, rfl, hd1, hd2⟩ := own_shape hS3.own
            have hown3 := hS3.own
            replace hS3 := Lib.hid hS3
            replace hB3 := Lib.hid hB3
            replace hsb := Lib.hid hsb
            replace hown3 := Lib.hid hown3
            replace hl3 := Lib.hid hl3
            clear h1 hg hat hown hsa
            go_wp2_with (at_builtin; refine wp_append_any w2.heap.size rfl (.tmp 58) (.tmp 59) 46 9 rfl Try.underlying46 (.string ⟨#[]⟩) 1 16 info_string rfl (by decide) (.slice A3 (xo ++ xa).length c3) (xo ++ xa).length (strs (xo ++ xa)) rfl (.slice bA xb.length bc) xb.length (strs xb) rfl hsb.out hown3.out ?_ ?_ ?_ hB3.out.size ?_)
            · simp [strs, Value.oneCell']
            · rw [hl3.out]; simp only [maxLen]; omega
            · rw [hl3.out]; omega
            · intro v2 w4 h2' hg2 hat2
              have hS4 : Strs w2.heap.size w4 v2 (xo ++ xa ++ xb) := by
                unfold Strs
                simpa [strs, Nat.add_assoc] using h2'
              have hB4 := hB3.out.grown hg2 hB3.out.size (fun k hk => own_base hown3.out k (by rw [List.length_append]; exact hk))
              replace hS4 := Lib.hid hS4
              replace hB4 := Lib.hid hB4
              clear h2' hg2 hat2
              go_wp2
              go_ret
              rw [← hfin.out]
              exact ⟨⟨_, rfl, own_low hS4.out.own hBb.out.size⟩, below_step hBb.out hB4.out⟩
        · have t1 : decide (0 < xa.length) = true := decide_eq_true (by omega)
          have t2 : decide (0 < xb.length) = false := decide_eq_false (by omega)
          have hown := hSo.own
          replace hRa := Lib.hid hRa
          replace hRb := Lib.hid hRb
          replace hSo := Lib.hid hSo
          replace hM := Lib.hid hM
          replace hB := Lib.hid hB
          replace hfin := Lib.hid hfin
          replace hsa := Lib.hid hsa
          replace hz := Lib.hid hz
          replace hne := Lib.hid hne
          replace hown := Lib.hid hown
          replace hL := Lib.hid hL
          go_wp2_with (at_builtin; refine wp_append_any w2.heap.size rfl (.tmp 56) (.tmp 57) 46 9 rfl Try.underlying46 (.string ⟨#[]⟩) 1 16 info_string rfl (by decide) (.slice oA xo.length oc) xo.length (strs xo) rfl (.slice aA xa.length ac) xa.length (strs xa) rfl hsa.out hown.out ?_ ?_ ?_ hB.out.size ?_)
          · simp [strs, Value.oneCell']
          · simp only [maxLen]; omega
          · omega
          · intro v1 w3 h1 hg hat
            have hS3 : Strs w2.heap.size w3 v1 (xo ++ xa) := by
              unfold Strs
              rw [List.length_append]
              simpa [strs] using h1
            have hB3 := hB.out.grown hg hB.out.size (own_base hown.out)
            have hsb := (hRb.out.below hB3).src
            have hl3 : (xo ++ xa).length + xb.length = l.length := by rw [List.length_append]; omega
            obtain ⟨A3, c3, rfl, hd1, hd2⟩ := own_shape hS3.own
            have hown3 := hS3.own
            replace hS3 := Lib.hid hS3
            replace hB3 := Lib.hid hB3
            replace hsb := Lib.hid hsb
            replace hown3 := Lib.hid hown3
            replace hl3 := Lib.hid hl3
            clear h1 hg hat hown hsa
            go_wp2_with (at_builtin; refine wp_append_any w2.heap.size rfl (.tmp 58) (.tmp 59) 46 9 rfl Try.underlying46 (.string ⟨#[]⟩) 1 16 info_string rfl (by decide) (.slice A3 (xo ++ xa).length c3) (xo ++ xa).length (strs (xo ++ xa)) rfl (.slice bA xb.length bc) xb.length (strs xb) rfl hsb.out hown3.out ?_ ?_ ?_ hB3.out.size ?_)
            · simp [strs, Value.oneCell']
            · rw [hl3.out]; simp only [maxLen]; omega
            · rw [hl3.out]; omega
            · intro v2 w4 h2' hg2 hat2
              have hS4 : Strs w2.heap.size w4 v2 (xo ++ xa ++ xb) := by
                unfold Strs
                simpa [strs, Nat.add_assoc] using h2'
              have hB4 := hB3.out.grown hg2 hB3.out.size (fun k hk => own_base hown3.out k (by rw [List.length_append]; exact hk))
              replace hS4 := Lib.hid hS4
              replace hB4 := Lib.hid hB4
              clear h2' hg2 hat2
              go_wp2
              go_ret
              rw [← hfin.out]
              exact ⟨⟨_, rfl, own_low hS4.out.own hBb.out.size⟩, below_step hBb.out hB4.out⟩
      · obtain ⟨x, ya, rfl⟩ : ∃ x ya, xa = x :: ya := by
          cases xa with
          | nil => exact absurd (Or.inl rfl) hne
          | cons x ya => exact ⟨x, ya, rfl⟩
        obtain ⟨y, yb, rfl⟩ : ∃ y yb, xb = y :: yb := by
          cases xb with
          | nil => exact absurd (Or.inr rfl) hne
          | cons y yb => exact ⟨y, yb, rfl⟩
        have hpm := hM.perm
        have hmx : x ∈ l := hpm.mem_iff.1 (by simp)
        have hmy : y ∈ l := hpm.mem_iff.1 (by simp)
        have hzx := hsz x hmx
        have hzy := hsz y hmy
        have t1 : decide (0 < (x :: ya).length) = true := decide_eq_true (by simp)
        have t2 : decide (0 < (y :: yb).length) = true := decide_eq_true (by simp)
        obtain ⟨ga, oa, rfl, ca⟩ := (hRa.below hB).cell (j := 0) (by simp)
        obtain ⟨gb, ob, rfl, cb⟩ := (hRb.below hB).cell (j := 0) (by simp)
        simp only [Nat.add_zero, List.getElem_cons_zero] at ca cb
        have hless := fun W => refless_calls (mkS y) (mkS x) W (by rw [mkS_size]; omega) (by rw [mkS_size]; omega)
        rw [bl_mkS, bl_mkS] at hless
        have hright := fun h => hM.right h
        have hleft := fun h => hM.left h
        have hda := hRa.drop 1 (by simp)
        have hdb := hRb.drop 1 (by simp)
        simp only [List.drop_succ_cons, List.drop_zero] at hda hdb
        have hga := fun x : Gr wr => Gr.cell ca x
        have hgb := fun x : Gr wr => Gr.cell cb x
        have hown := hSo.own
        have hxl : ((xo ++ [y]).length + ((x :: ya).length + yb.length) = l.length) ∧ ((xo ++ [x]).length + (ya.length + (y :: yb).length) = l.length) := by
          simp at hL2 ⊢
          omega
        simp only [List.length_cons] at hL2 t1 t2 ha1 hb1 hda hdb ⊢
        replace hRa := Lib.hid hRa
        replace hRb := Lib.hid hRb
        replace hSo := Lib.hid hSo
        replace hM := Lib.hid hM
        replace hB := Lib.hid hB
        replace hL := Lib.hid hL
        replace hne := Lib.hid hne
        replace hpm := Lib.hid hpm
        replace hmx := Lib.hid hmx
        replace hmy := Lib.hid hmy
        replace hless := Lib.hid hless
        replace hright := Lib.hid hright
        replace hleft := Lib.hid hleft
        replace hda := Lib.hid hda
        replace hdb := Lib.hid hdb
        replace hown := Lib.hid hown
        replace hxl := Lib.hid hxl
        go_upto_region 7 with fail
        by_cases hlt : cmpP y x < 0
        · have hlp : lessP y x = true := by unfold lessP; simpa using hlt
          replace hless := hless.out
          rw [hlp] at hless
          replace hless := Lib.hid hless
          replace hlt := Lib.hid hlt
          replace hlp := Lib.hid hlp
          refine wp_region_grow (by kernel_rfl) (by kernel_rfl) ?_
          repeat (any_goals (first | go_big_quiet_step ((go_at_call 39; exact grow_of _ (hless.out _))) | quiet_step ((go_at_call 39; exact grow_of _ (hless.out _)))))
          refine wpQuiet_nil ?_
          rintro w5 ⟨⟨_, hB5⟩, rfl⟩
          have hB25 := below_step hB.out hB5
          have hown5 := own_below hown.out hB5
          have ca5 := (hB5.cell (cell_lt ca)).trans ca
          have cb5 := (hB5.cell (cell_lt cb)).trans cb
          replace hB25 := Lib.hid hB25
          replace hown5 := Lib.hid hown5
          clear hga hgb ca cb
          have hr2 := hright.out hlt.out
          replace hr2 := Lib.hid hr2
          go_wp2_with (at_builtin; refine wp_append1 w2.heap.size rfl (.tmp 40) (.tmp 44) 46 9 rfl Try.underlying46 (.string ⟨#[]⟩) 1 16 info_string rfl (by decide) (.slice oA xo.length oc) _ _ rfl [.string (mkS y)] rfl hown5.out rfl ?_ ?_ ?_ hB25.out.size ?_)
          · simp [Value.oneCell']
          · simp only [maxLen]; omega
          · omega
          · intro v1 w6 h1 hg hat
            have hS6 : Strs w2.heap.size w6 v1 (xo ++ [y]) := Strs.snoc h1
            have hB6 := hB25.out.grown hg hB25.out.size (own_base hown5.out)
            obtain ⟨A6, c6, rfl, _, _⟩ := own_shape hS6.own
            have hd := hdb.out
            replace hS6 := Lib.hid hS6
            replace hB6 := Lib.hid hB6
            clear h1 hg hat
            by_cases hc1 : bc = 1
            · rw [if_pos hc1] at hd
              have hif : (bc = 1) = True := eq_true hc1
              replace hd := Lib.hid hd
              replace hc1 := Lib.hid hc1
              go_wp2
              go_roundw
              case rel => exact ⟨_, _, _, hRa.out, hd.out, hS6.out, hr2.out, hB6.out, Lib.hid hxl.out.1⟩
              case measure => simp [lenOf]
            · rw [if_neg hc1] at hd
              replace hd := Lib.hid hd
              go_wp2
              go_roundw
              case rel => exact ⟨_, _, _, hRa.out, hd.out, hS6.out, hr2.out, hB6.out, Lib.hid hxl.out.1⟩
              case measure => simp [lenOf]
        · have hlp : lessP y x = false := by unfold lessP; simpa using hlt
          replace hless := hless.out
          rw [hlp] at hless
          replace hless := Lib.hid hless
          replace hlt := Lib.hid hlt
          replace hlp := Lib.hid hlp
          refine wp_region_grow (by kernel_rfl) (by kernel_rfl) ?_
          repeat (any_goals (first | go_big_quiet_step ((go_at_call 39; exact grow_of _ (hless.out _))) | quiet_step ((go_at_call 39; exact grow_of _ (hless.out _)))))
          refine wpQuiet_nil ?_
          rintro w5 ⟨⟨_, hB5⟩, rfl⟩
          have hB25 := below_step hB.out hB5
          have hown5 := own_below hown.out hB5
          have ca5 := (hB5.cell (cell_lt ca)).trans ca
          have cb5 := (hB5.cell (cell_lt cb)).trans cb
          replace hB25 := Lib.hid hB25
          replace hown5 := Lib.hid hown5
          clear hga hgb ca cb
          have hr2 := hleft.out hlt.out
          replace hr2 := Lib.hid hr2
          go_wp2_with (at_builtin; refine wp_append1 w2.heap.size rfl (.tmp 48) (.tmp 52) 46 9 rfl Try.underlying46 (.string ⟨#[]⟩) 1 16 info_string rfl (by decide) (.slice oA xo.length oc) _ _ rfl [.string (mkS x)] rfl hown5.out rfl ?_ ?_ ?_ hB25.out.size ?_)
          · simp [Value.oneCell']
          · simp only [maxLen]; omega
          · omega
          · intro v1 w6 h1 hg hat
            have hS6 : Strs w2.heap.size w6 v1 (xo ++ [x]) := Strs.snoc h1
            have hB6 := hB25.out.grown hg hB25.out.size (own_base hown5.out)
            obtain ⟨A6, c6, rfl, _, _⟩ := own_shape hS6.own
            have hd := hda.out
            replace hS6 := Lib.hid hS6
            replace hB6 := Lib.hid hB6
            clear h1 hg hat
            by_cases hc1 : ac = 1
            · rw [if_pos hc1] at hd
              have hif : (ac = 1) = True := eq_true hc1
              replace hd := Lib.hid hd
              replace hc1 := Lib.hid hc1
              go_wp2
              go_roundw
              case rel => exact ⟨_, _, _, hd.out, hRb.out, hS6.out, hr2.out, hB6.out, Lib.hid hxl.out.2⟩
              case measure => simp [lenOf]
            · rw [if_neg hc1] at hd
              replace hd := Lib.hid hd
              go_wp2
              go_roundw
              case rel => exact ⟨_, _, _, hd.out, hRb.out, hS6.out, hr2.out, hB6.out, Lib.hid hxl.out.2⟩
              case measure => simp [lenOf]

end Go.Proofs.Ytcjlfkklpghjbaa

namespace Go.Proofs.Ytcjlfkklpghjbaa

structure Ent where
  path : Bytes
  kind : Int
  size : Int
  mt : Mt
  target : Bytes
  sum : Bytes
  group : Int
deriving DecidableEq

/-- What is wrong with an entry's arguments. -/
def entBad (x : Ent) : Bool :=
  !metaOk x.mt || decide (x.size < 0) || decide (x.kind = 1 ∧ 65536 < x.size) || decide (x.kind = 2 ∧ 2147483647 < x.size) || decide (x.kind ≠ 3 ∧ x.target ≠ []) ||
  decide (x.kind = 3 ∧ (x.target = [] ∨ 200 < x.target.length ∨ x.size ≠ (x.target.length : Int))) || decide (x.sum ≠ [] ∧ (x.kind ≠ 1 ∨ x.sum.length ≠ 32)) || decide (x.group < 0) || decide (0 < x.group ∧ x.kind ≠ 1)
/-- What is wrong with an entry by itself. -/
def entE (x : Ent) : Int := if right x.path = false ∨ x.path = [] then 9 else if x.kind ≠ 1 ∧ x.kind ≠ 2 ∧ x.kind ≠ 3 then 17 else if entBad x = true then 2 else 0

def dirIn (done : List Ent) (up : Bytes) : Bool := decide (up = []) || done.any fun y => decide (y.path = up) && decide (y.kind = 2)
def mostG (done : List Ent) : Int := done.foldl (fun m y => max m y.group) 0
/-- What is wrong with an entry behind others. -/
def stepE (done : List Ent) (x : Ent) : Int :=
  if entE x ≠ 0 then entE x else
  match done.getLast? with
  | none => if dirIn done (parent x.path) = false then 12 else if mostG done + 1 < x.group then 5 else 0
  | some y => if x.path = y.path then 11 else if lessP x.path y.path = true then 3 else if dirIn done (parent x.path) = false then 12 else if mostG done + 1 < x.group then 5 else 0
def chkFrom (done : List Ent) : List Ent → Int
  | [] => 0
  | x :: r => if stepE done x = 0 then chkFrom (done ++ [x]) r else stepE done x
/-- May a list be? -/
def chk (l : List Ent) : Int := chkFrom [] l

theorem chk_start (l : List Ent) : chk l = chkFrom (l.take 0) (l.drop 0) := by simp [chk]
theorem chk_step {l : List Ent} {k : Nat} (hk : k < l.length) (h : chk l = chkFrom (l.take k) (l.drop k)) (h0 : stepE (l.take k) l[k] = 0) : chk l = chkFrom (l.take (k + 1)) (l.drop (k + 1)) := by
  rw [h, List.drop_eq_getElem_cons hk, chkFrom, if_pos h0, List.take_succ_eq_append_getElem hk]
theorem chk_stop {l : List Ent} {k : Nat} (hk : k < l.length) (h : chk l = chkFrom (l.take k) (l.drop k)) (h0 : stepE (l.take k) l[k] ≠ 0) : chk l = stepE (l.take k) l[k] := by
  rw [h, List.drop_eq_getElem_cons hk, chkFrom, if_neg h0]
theorem chk_end {l : List Ent} (h : chk l = chkFrom (l.take l.length) (l.drop l.length)) : chk l = 0 := by
  rw [h, List.drop_length]
  rfl

/-- All rising. -/
def Rise (l : List Ent) : Prop := l.Pairwise fun a b => lessP a.path b.path = true

theorem lessP_trans {a b c : Bytes} (h : lessP a b = true) (k : lessP b c = true) : lessP a c = true := by
  unfold lessP at *
  simp only [decide_eq_true_eq] at *
  exact cmpP_trans h k
theorem lessP_ne {a b : Bytes} (h : lessP a b = true) : a ≠ b := fun e => by
  subst e
  unfold lessP at h
  simp only [decide_eq_true_eq, cmpP_self] at h
  omega
theorem lessP_asymm {a b : Bytes} (h : lessP a b = true) : lessP b a = false := by
  unfold lessP at *
  simp only [decide_eq_true_eq, decide_eq_false_iff_not] at *
  rw [cmpP_swap a b]
  omega
theorem lessP_tri {a b : Bytes} (h1 : a ≠ b) (h2 : lessP a b = false) : lessP b a = true := by
  unfold lessP at *
  simp only [decide_eq_true_eq, decide_eq_false_iff_not] at *
  have h3 : cmpP a b ≠ 0 := fun e => h1 (cmpP_eq e)
  rw [cmpP_swap a b]
  omega

theorem rise_snoc {l : List Ent} {x : Ent} (h : Rise l) (hx : ∀ y, l.getLast? = some y → lessP y.path x.path = true) : Rise (l ++ [x]) := by
  unfold Rise at *
  rw [List.pairwise_append]
  refine ⟨h, List.pairwise_singleton _ _, fun a ha b hb => ?_⟩
  rw [List.mem_singleton.1 hb]
  have hne : l ≠ [] := List.ne_nil_of_mem ha
  have hl := hx _ (List.getLast?_eq_some_getLast hne)
  rw [← List.dropLast_concat_getLast hne] at ha h
  rw [List.pairwise_append] at h
  rcases List.mem_append.1 ha with h1 | h1
  · exact lessP_trans (h.2.2 a h1 _ (List.mem_singleton_self _)) hl
  · rw [List.mem_singleton.1 h1]
    exact hl

theorem stepE_zero {done : List Ent} {x : Ent} (h : stepE done x = 0) : entE x = 0 ∧ (∀ y, done.getLast? = some y → lessP y.path x.path = true) ∧ dirIn done (parent x.path) = true ∧ x.group ≤ mostG done + 1 := by
  unfold stepE at h
  by_cases h1 : entE x = 0
  · rw [if_neg (by simp [h1])] at h
    cases hl : done.getLast? with
    | none =>
      rw [hl] at h
      dsimp only at h
      by_cases h2 : dirIn done (parent x.path) = false
      · rw [if_pos h2] at h
        cases h
      · rw [if_neg h2] at h
        by_cases h3 : mostG done + 1 < x.group
        · rw [if_pos h3] at h
          cases h
        · exact ⟨h1, (by intro y hy; cases hy), by simpa using h2, by omega⟩
    | some y =>
      rw [hl] at h
      dsimp only at h
      by_cases h4 : x.path = y.path
      · rw [if_pos h4] at h
        cases h
      · rw [if_neg h4] at h
        by_cases h5 : lessP x.path y.path = true
        · rw [if_pos h5] at h
          cases h
        · rw [if_neg h5] at h
          by_cases h2 : dirIn done (parent x.path) = false
          · rw [if_pos h2] at h
            cases h
          · rw [if_neg h2] at h
            by_cases h3 : mostG done + 1 < x.group
            · rw [if_pos h3] at h
              cases h
            · refine ⟨h1, ?_, by simpa using h2, by omega⟩
              intro z hz
              cases hz
              exact lessP_tri h4 (by simpa using h5)
  · rw [if_pos h1] at h
    exact absurd h h1

/-- What all entries of a list that may be have. -/
structure ChkOk (l : List Ent) : Prop where
  rise : Rise l
  each : ∀ x ∈ l, entE x = 0

theorem chkOk_nil : ChkOk [] := ⟨List.Pairwise.nil, by simp⟩
theorem ChkOk.snoc {l : List Ent} {x : Ent} (h : ChkOk l) (h0 : stepE l x = 0) : ChkOk (l ++ [x]) := by
  obtain ⟨h1, h2, _, _⟩ := stepE_zero h0
  refine ⟨rise_snoc h.rise h2, fun y hy => ?_⟩
  rcases List.mem_append.1 hy with hy | hy
  · exact h.each y hy
  · rw [List.mem_singleton.1 hy]
    exact h1

theorem rise_path {l : List Ent} (h : Rise l) {x y : Ent} (hx : x ∈ l) (hy : y ∈ l) (e : x.path = y.path) : x = y := by
  obtain ⟨i, hi, rfl⟩ := List.mem_iff_getElem.1 hx
  obtain ⟨j, hj, rfl⟩ := List.mem_iff_getElem.1 hy
  have hp := List.pairwise_iff_getElem.1 h
  rcases Nat.lt_trichotomy i j with h1 | h1 | h1
  · exact absurd e (lessP_ne (hp i j hi hj h1))
  · subst h1
    rfl
  · exact absurd e.symm (lessP_ne (hp j i hj hi h1))

theorem entE_path {x : Ent} (h : entE x = 0) : right x.path = true ∧ x.path ≠ [] := by
  unfold entE at h
  by_cases h1 : right x.path = false ∨ x.path = []
  · rw [if_pos h1] at h
    cases h
  · refine ⟨?_, fun e => h1 (Or.inr e)⟩
    cases hr : right x.path with
    | true => rfl
    | false => exact absurd (Or.inl hr) h1

theorem mostG_snoc (l : List Ent) (x : Ent) : mostG (l ++ [x]) = max (mostG l) x.group := by simp [mostG]
theorem dirIn_snoc (l : List Ent) (x : Ent) (up : Bytes) : dirIn (l ++ [x]) up = (dirIn l up || (decide (x.path = up) && decide (x.kind = 2))) := by
  simp [dirIn, Bool.or_assoc]

/-- The first entry of a path. -/
def entAt (l : List Ent) (p : Bytes) : Option Ent := l.find? fun x => decide (x.path = p)

theorem entAt_some {l : List Ent} {p : Bytes} {x : Ent} (h : entAt l p = some x) : x ∈ l ∧ x.path = p := by
  unfold entAt at h
  exact ⟨List.mem_of_find?_eq_some h, by simpa using List.find?_some h⟩
theorem entAt_none {l : List Ent} {p : Bytes} (h : entAt l p = none) : ∀ x ∈ l, x.path ≠ p := by
  unfold entAt at h
  rw [List.find?_eq_none] at h
  intro x hx
  simpa using h x hx
theorem entAt_of {l : List Ent} (hr : Rise l) {x : Ent} (hx : x ∈ l) : entAt l x.path = some x := by
  cases h : entAt l x.path with
  | none => exact absurd rfl (entAt_none h x hx)
  | some y =>
    obtain ⟨h1, h2⟩ := entAt_some h
    rw [rise_path hr h1 hx h2]

/-- Two states of a path are alike. -/
def alikeE : Option Ent → Option Ent → Bool
  | none, none => true
  | some a, some b => decide (a.kind = b.kind) && decide (a.mt = b.mt) && decide (a.target = b.target) && (decide (a.kind ≠ 1) || (decide (a.size = b.size) && decide (a.sum = b.sum)))
  | _, _ => false
theorem alikeE_comm (a b : Option Ent) : alikeE a b = alikeE b a := by
  cases a <;> cases b <;> simp only [alikeE]
  rename_i a b
  rw [Bool.eq_iff_iff]
  simp only [Bool.and_eq_true, Bool.or_eq_true, decide_eq_true_eq]
  constructor
  · rintro ⟨⟨⟨h1, h2⟩, h3⟩, h4⟩
    refine ⟨⟨⟨h1.symm, h2.symm⟩, h3.symm⟩, ?_⟩
    rw [← h1]
    exact h4.imp id fun ⟨h5, h6⟩ => ⟨h5.symm, h6.symm⟩
  · rintro ⟨⟨⟨h1, h2⟩, h3⟩, h4⟩
    refine ⟨⟨⟨h1.symm, h2.symm⟩, h3.symm⟩, ?_⟩
    rw [← h1]
    exact h4.imp id fun ⟨h5, h6⟩ => ⟨h5.symm, h6.symm⟩

def isDirE : Option Ent → Bool
  | some a => decide (a.kind = 2)
  | none => false
/-- Is the time of the first one later? -/
def laterM (a b : Mt) : Bool := decide (b.sec < a.sec) || (decide (a.sec = b.sec) && decide (b.nano < a.nano))
def wishE (w a b : Option Ent) (policy : Int) : Int :=
  if alikeE b w = true then 1 else if alikeE a w = true then 2 else if policy ≠ 3 then policy else
  match a, b with
  | none, _ => 2
  | some x, some y => if laterM y.mt x.mt = true then 2 else 1
  | some _, none => 1

end Go.Proofs.Ytcjlfkklpghjbaa

namespace Go.Proofs.Ytcjlfkklpghjbaa
open Go.RowKit Go.ChangeShapes Go.WideShapes Go.Deep

def entCells (x : Ent) : List Value := [.string (mkS x.path), .int .i64 x.kind, .int .i64 x.size, .int .i64 x.mt.mode, .int .i64 x.mt.sec, .int .i64 x.mt.nano, .int .i64 x.mt.uid, .int .i64 x.mt.gid, .string (mkS x.target), .string (mkS x.sum), .int .i64 x.group]
def entV (x : Ent) : Value := .agg (entCells x).toArray

/-- v reads as the entries l. -/
def Ents (W : World) (v : Value) (l : List Ent) : Prop :=
  ∃ A c, v = .slice A l.length c ∧ l.length ≤ c ∧ c ≤ maxLen ∧ ∀ k (h : k < l.length), ∃ g o, A = some ⟨g, o, none⟩ ∧ ∀ j, j < 11 → W.cell? ⟨g, o + k * 11 + j, none⟩ = (entCells l[k])[j]?

theorem ent_cell_lt {W : World} {a : Addr} {v : Value} (h : W.cell? a = some v) : a.block < W.heap.size := by
  rcases Nat.lt_or_ge a.block W.heap.size with h1 | h1
  · exact h1
  · simp [World.cell?, Array.getElem?_eq_none h1] at h

theorem Ents.below {W W' : World} {v : Value} {l : List Ent} (h : Ents W v l) (hb : Below W.heap.size W W') : Ents W' v l := by
  obtain ⟨A, c, h1, h2, h3, h4⟩ := h
  refine ⟨A, c, h1, h2, h3, fun k hk => ?_⟩
  obtain ⟨g, o, e, h6⟩ := h4 k hk
  refine ⟨g, o, e, fun j hj => ?_⟩
  have h7 := h6 0 (by omega)
  have hlt : g < W.heap.size := ent_cell_lt (a := ⟨g, o + k * 11 + 0, none⟩) h7
  rw [← h6 j hj]
  simp only [World.cell?, hb.block g hlt]

section
variable {H : Type} {enc : TypeId × Value → H} {W : World} {spare : Nat → Bool} {held : Bool}

theorem ent_laid_ok : laidOutB Try.prog = true := by kernel_rfl

set_option maxRecDepth 100000 in
theorem ent_of_cells {fuel : Nat} {cs : List Value} {x : DataW H × List MemPlace} (h : DataW.trod enc Try.prog W 0 spare held fuel 35 cs = some x) : ∃ e, cs = entCells e := by
  obtain ⟨xs, n, _, _, hl, hxl, hf⟩ := DataW.trod_struct Try.underlying35 h
  have hl11 : cs.length = 11 := hl.trans (by kernel_rfl)
  match cs, hl11 with
  | [c0, c1, c2, c3, c4, c5, c6, c7, c8, c9, c10], _ =>
    have hx : ∀ i, i < 7 → ∃ y, xs[i]? = some y := fun i hi => ⟨_, List.getElem?_eq_getElem (by rw [hxl]; exact hi)⟩
    obtain ⟨y0, e0⟩ := hx 0 (by decide)
    obtain ⟨y1, e1⟩ := hx 1 (by decide)
    obtain ⟨y2, e2⟩ := hx 2 (by decide)
    obtain ⟨y3, e3⟩ := hx 3 (by decide)
    obtain ⟨y4, e4⟩ := hx 4 (by decide)
    obtain ⟨y5, e5⟩ := hx 5 (by decide)
    obtain ⟨y6, e6⟩ := hx 6 (by decide)
    have f0 : DataW.trod enc Try.prog W 0 spare held n 9 (([c0, c1, c2, c3, c4, c5, c6, c7, c8, c9, c10].drop 0).take (Try.prog.cellsOf 9)) = some y0 := (hf 0 _ rfl).trans e0
    have f1 : DataW.trod enc Try.prog W 0 spare held n 3 (([c0, c1, c2, c3, c4, c5, c6, c7, c8, c9, c10].drop 1).take (Try.prog.cellsOf 3)) = some y1 := (hf 1 _ rfl).trans e1
    have f2 : DataW.trod enc Try.prog W 0 spare held n 3 (([c0, c1, c2, c3, c4, c5, c6, c7, c8, c9, c10].drop 2).take (Try.prog.cellsOf 3)) = some y2 := (hf 2 _ rfl).trans e2
    have f3 : DataW.trod enc Try.prog W 0 spare held n 33 (([c0, c1, c2, c3, c4, c5, c6, c7, c8, c9, c10].drop 3).take (Try.prog.cellsOf 33)) = some y3 := (hf 3 _ rfl).trans e3
    have f4 : DataW.trod enc Try.prog W 0 spare held n 9 (([c0, c1, c2, c3, c4, c5, c6, c7, c8, c9, c10].drop 8).take (Try.prog.cellsOf 9)) = some y4 := (hf 4 _ rfl).trans e4
    have f5 : DataW.trod enc Try.prog W 0 spare held n 9 (([c0, c1, c2, c3, c4, c5, c6, c7, c8, c9, c10].drop 9).take (Try.prog.cellsOf 9)) = some y5 := (hf 5 _ rfl).trans e5
    have f6 : DataW.trod enc Try.prog W 0 spare held n 3 (([c0, c1, c2, c3, c4, c5, c6, c7, c8, c9, c10].drop 10).take (Try.prog.cellsOf 3)) = some y6 := (hf 6 _ rfl).trans e6
    have k1 : Try.prog.cellsOf 3 = 1 := by kernel_rfl
    have k2 : Try.prog.cellsOf 9 = 1 := by kernel_rfl
    have k4 : Try.prog.cellsOf 33 = 5 := by kernel_rfl
    rw [k1] at f1 f2 f6
    rw [k2] at f0 f4 f5
    rw [k4] at f3
    simp only [List.drop_zero, List.drop_succ_cons, List.take_succ_cons, List.take_zero] at f0 f1 f2 f3 f4 f5 f6
    obtain ⟨p, q0, _⟩ := DataW.trod_string Try.underlying9 f0
    obtain ⟨kd, q1, _⟩ := DataW.trod_int Try.underlying3 f1
    obtain ⟨sz, q2, _⟩ := DataW.trod_int Try.underlying3 f2
    obtain ⟨tg, q4, _⟩ := DataW.trod_string Try.underlying9 f4
    obtain ⟨sm, q5, _⟩ := DataW.trod_string Try.underlying9 f5
    obtain ⟨gr, q6, _⟩ := DataW.trod_int Try.underlying3 f6
    obtain ⟨zs, n', _, _, _, hzl, hg⟩ := DataW.trod_struct Try.underlying33 f3
    have hz : ∀ i, i < 5 → ∃ y, zs[i]? = some y := fun i hi => ⟨_, List.getElem?_eq_getElem (by rw [hzl]; exact hi)⟩
    obtain ⟨z0, u0⟩ := hz 0 (by decide)
    obtain ⟨z1, u1⟩ := hz 1 (by decide)
    obtain ⟨z2, u2⟩ := hz 2 (by decide)
    obtain ⟨z3, u3⟩ := hz 3 (by decide)
    obtain ⟨z4, u4⟩ := hz 4 (by decide)
    have g0 : DataW.trod enc Try.prog W 0 spare held n' 3 (([c3, c4, c5, c6, c7].drop 0).take (Try.prog.cellsOf 3)) = some z0 := (hg 0 _ rfl).trans u0
    have g1 : DataW.trod enc Try.prog W 0 spare held n' 3 (([c3, c4, c5, c6, c7].drop 1).take (Try.prog.cellsOf 3)) = some z1 := (hg 1 _ rfl).trans u1
    have g2 : DataW.trod enc Try.prog W 0 spare held n' 3 (([c3, c4, c5, c6, c7].drop 2).take (Try.prog.cellsOf 3)) = some z2 := (hg 2 _ rfl).trans u2
    have g3 : DataW.trod enc Try.prog W 0 spare held n' 3 (([c3, c4, c5, c6, c7].drop 3).take (Try.prog.cellsOf 3)) = some z3 := (hg 3 _ rfl).trans u3
    have g4 : DataW.trod enc Try.prog W 0 spare held n' 3 (([c3, c4, c5, c6, c7].drop 4).take (Try.prog.cellsOf 3)) = some z4 := (hg 4 _ rfl).trans u4
    rw [k1] at g0 g1 g2 g3 g4
    simp only [List.drop_zero, List.drop_succ_cons, List.take_succ_cons, List.take_zero] at g0 g1 g2 g3 g4
    obtain ⟨m0, v0, _⟩ := DataW.trod_int Try.underlying3 g0
    obtain ⟨m1, v1, _⟩ := DataW.trod_int Try.underlying3 g1
    obtain ⟨m2, v2, _⟩ := DataW.trod_int Try.underlying3 g2
    obtain ⟨m3, v3, _⟩ := DataW.trod_int Try.underlying3 g3
    obtain ⟨m4, v4, _⟩ := DataW.trod_int Try.underlying3 g4
    refine ⟨⟨bl p, kd, sz, ⟨m0, m1, m2, m3, m4⟩, bl tg, bl sm, gr⟩, ?_⟩
    simp only [List.cons.injEq, and_true] at q0 q1 q2 q4 q5 q6 v0 v1 v2 v3 v4
    subst q0 q1 q2 q4 q5 q6 v0 v1 v2 v3 v4
    simp [entCells, mkS_bl]

theorem choose_ents {m : Nat} {p : Nat → Ent → Prop} (h : ∀ i, i < m → ∃ a, p i a) : ∃ l : List Ent, l.length = m ∧ ∀ i (hi : i < l.length), p i l[i] := by
  induction m with
  | zero => exact ⟨[], rfl, fun i hi => by simp at hi⟩
  | succ m ih =>
    obtain ⟨l, h1, h2⟩ := ih (fun i hi => h i (by omega))
    obtain ⟨a, hav⟩ := h m (by omega)
    refine ⟨l ++ [a], by simp [h1], fun i hi => ?_⟩
    by_cases hl : i < l.length
    · rw [List.getElem_append_left hl]
      exact h2 i hl
    · have : i = l.length := by simp at hi; omega
      subst this
      rw [List.getElem_append_right (Nat.le_refl _)]
      simp only [Nat.sub_self, List.getElem_cons_zero]
      rw [h1]
      exact hav

set_option maxRecDepth 100000 in
theorem ents_of_cells {fuel : Nat} {cs : List Value} {x : DataW H × List MemPlace} (hf : DataW.trod enc Try.prog W 0 spare held fuel 22 cs = some x) : ∃ v l, cs = [v] ∧ Ents W v l := by
  rcases open_slice Try.underlying22 hf with ⟨e, _⟩ | ⟨a, len, cap, m, n, D, Pl, e, _, h1, h2, hm, _, hel⟩
  · exact ⟨_, [], e, none, 0, rfl, Nat.le_refl _, Nat.zero_le _, fun k hk => by simp at hk⟩
  · have hlm : len ≤ m := by rw [hm]; split <;> omega
    have k11 : Try.prog.cellsOf 35 = 11 := by kernel_rfl
    rw [k11] at hel
    have hspot : ∀ i, i < len → a.spot = none := fun i hi => by
      obtain ⟨cs, hc, ht⟩ := hel 0 (by omega)
      obtain ⟨a', rfl⟩ := ent_of_cells ht
      obtain ⟨_, _, hat⟩ := World.cells?_some hc
      have := World.cell?_spot ((hat 0 (by decide)).trans rfl)
      simpa [Addr.add] using this
    obtain ⟨l, hl1, hl2⟩ := choose_ents (m := len) (p := fun i a' => ∃ g o, a = ⟨g, o, none⟩ ∧ ∀ j, j < 11 → W.cell? ⟨g, o + i * 11 + j, none⟩ = (entCells a')[j]?) (fun i hi => by
      obtain ⟨cs, hc, ht⟩ := hel i (by omega)
      obtain ⟨a', rfl⟩ := ent_of_cells ht
      obtain ⟨_, _, hat⟩ := World.cells?_some hc
      refine ⟨a', ?_⟩
      obtain ⟨g, o, s⟩ := a
      have hs : s = none := hspot i hi
      subst hs
      refine ⟨g, o, rfl, fun j hj => ?_⟩
      have := hat j hj
      rw [add_plain, add_plain] at this
      exact this)
    subst hl1
    refine ⟨_, l, e, some a, cap, rfl, by omega, h2, fun k hk => ?_⟩
    obtain ⟨g, o, rfl, hc⟩ := hl2 k hk
    exact ⟨g, o, rfl, hc⟩

/-- Three lists, as one argument. -/
def Lists3 (W : World) (v : Value) (a b c : List Ent) : Prop := ∃ x y z, v = .agg #[x, y, z] ∧ Ents W x a ∧ Ents W y b ∧ Ents W z c

set_option maxRecDepth 100000 in
theorem open_lists {v : Value} {d : DataW H} {ps : List MemPlace} {r : Reach} {b0 : Nat} (hv : Value.okWide Try.prog W r b0 24 v) (h : DataW.Trod enc Try.prog W 0 spare held 24 v d ps) : ∃ a b c, Lists3 W v a b c := by
  obtain ⟨cs, rfl, hsz⟩ := okWide_struct Try.underlying24 hv
  obtain ⟨fuel, hf⟩ := h
  have hf' : DataW.trod enc Try.prog W 0 spare held fuel 24 cs.toList = some (d, ps) := hf
  obtain ⟨xs, n, _, _, hl, hxl, hg⟩ := DataW.trod_struct Try.underlying24 hf'
  have hl3 : cs.toList.length = 3 := hl.trans (by kernel_rfl)
  obtain ⟨ct⟩ := cs
  match ct, hl3 with
  | [c0, c1, c2], _ =>
    have hx : ∀ i, i < 3 → ∃ y, xs[i]? = some y := fun i hi => ⟨_, List.getElem?_eq_getElem (by rw [hxl]; exact hi)⟩
    obtain ⟨y0, e0⟩ := hx 0 (by decide)
    obtain ⟨y1, e1⟩ := hx 1 (by decide)
    obtain ⟨y2, e2⟩ := hx 2 (by decide)
    have f0 : DataW.trod enc Try.prog W 0 spare held n 22 (([c0, c1, c2].drop 0).take (Try.prog.cellsOf 22)) = some y0 := (hg 0 _ rfl).trans e0
    have f1 : DataW.trod enc Try.prog W 0 spare held n 22 (([c0, c1, c2].drop 1).take (Try.prog.cellsOf 22)) = some y1 := (hg 1 _ rfl).trans e1
    have f2 : DataW.trod enc Try.prog W 0 spare held n 22 (([c0, c1, c2].drop 2).take (Try.prog.cellsOf 22)) = some y2 := (hg 2 _ rfl).trans e2
    have k1 : Try.prog.cellsOf 22 = 1 := by kernel_rfl
    rw [k1] at f0 f1 f2
    simp only [List.drop_zero, List.drop_succ_cons, List.take_succ_cons, List.take_zero] at f0 f1 f2
    obtain ⟨v0, l0, q0, g0⟩ := ents_of_cells f0
    obtain ⟨v1, l1, q1, g1⟩ := ents_of_cells f1
    obtain ⟨v2, l2, q2, g2⟩ := ents_of_cells f2
    simp only [List.cons.injEq, and_true] at q0 q1 q2
    subst q0 q1 q2
    exact ⟨l0, l1, l2, _, _, _, rfl, g0, g1, g2⟩

end

end Go.Proofs.Ytcjlfkklpghjbaa

namespace Go.Proofs.Ytcjlfkklpghjbaa

/-! ### all paths, each once -/

/-- The first k of a row, each that is not like the one ahead of it. -/
def uniqTo (l : List Bytes) : Nat → List Bytes
  | 0 => []
  | k + 1 => match l[k]? with
    | none => uniqTo l k
    | some x => if k = 0 ∨ l[k - 1]? ≠ some x then uniqTo l k ++ [x] else uniqTo l k

theorem uniqTo_new {l : List Bytes} {k : Nat} (hk : k < l.length) (h : k = 0 ∨ l[k - 1]? ≠ some l[k]) : uniqTo l (k + 1) = uniqTo l k ++ [l[k]] := by
  rw [uniqTo, List.getElem?_eq_getElem hk]
  exact if_pos h
theorem uniqTo_old {l : List Bytes} {k : Nat} (hk : k < l.length) (h : ¬ (k = 0 ∨ l[k - 1]? ≠ some l[k])) : uniqTo l (k + 1) = uniqTo l k := by
  rw [uniqTo, List.getElem?_eq_getElem hk]
  exact if_neg h

structure UniqIs (l : List Bytes) (k : Nat) (u : List Bytes) : Prop where
  rise : u.Pairwise fun a b => lessP a b = true
  mem : ∀ x, x ∈ u ↔ x ∈ l.take k
  last : ∀ x ∈ u, ∀ y, l[k - 1]? = some y → x = y ∨ lessP x y = true

theorem leP_less {a b : Bytes} (h : leP a b) : a = b ∨ lessP a b = true := by
  unfold leP at h
  unfold lessP
  rcases Int.lt_or_eq_of_le h with h1 | h1
  · exact Or.inr (by simpa using h1)
  · exact Or.inl (cmpP_eq h1)

theorem uniq_is {l : List Bytes} (hs : Sorted l) : ∀ k, k ≤ l.length → UniqIs l k (uniqTo l k)
  | 0, _ => ⟨List.Pairwise.nil, by simp [uniqTo], by simp [uniqTo]⟩
  | k + 1, hk => by
    have ih := uniq_is hs k (by omega)
    have hlt : k < l.length := hk
    have hle : ∀ i (hi : i < k), leP (l[i]'(by omega)) l[k] := fun i hi => List.pairwise_iff_getElem.1 hs i k (by omega) hlt hi
    by_cases h : k = 0 ∨ l[k - 1]? ≠ some l[k]
    · rw [uniqTo_new hlt h]
      have hnew : ∀ x ∈ uniqTo l k, lessP x l[k] = true := fun x hx => by
        have hx2 := (ih.mem x).1 hx
        have hk0 : k ≠ 0 := fun e => by subst e; simp at hx2
        have h2 := h.resolve_left hk0
        have hlk : k - 1 < l.length := by omega
        rw [List.getElem?_eq_getElem hlk] at h2
        have h3 : l[k - 1] ≠ l[k] := fun e => h2 (by rw [e])
        have h4 := (leP_less (hle (k - 1) (by omega))).resolve_left h3
        rcases ih.last x hx _ (List.getElem?_eq_getElem hlk) with e | h5
        · rw [e]
          exact h4
        · exact lessP_trans h5 h4
      refine ⟨?_, fun x => ?_, fun x hx y hy => ?_⟩
      · rw [List.pairwise_append]
        exact ⟨ih.rise, List.pairwise_singleton _ _, fun a ha b hb => by rw [List.mem_singleton.1 hb]; exact hnew a ha⟩
      · rw [List.take_succ_eq_append_getElem hlt, List.mem_append, List.mem_append, ih.mem]
      · rw [Nat.add_sub_cancel, List.getElem?_eq_getElem hlt] at hy
        cases hy
        rcases List.mem_append.1 hx with hx | hx
        · exact Or.inr (hnew x hx)
        · exact Or.inl (List.mem_singleton.1 hx)
    · rw [uniqTo_old hlt h]
      have hk0 : k ≠ 0 := fun e => h (Or.inl e)
      have h2 : l[k - 1]? = some l[k] := Classical.byContradiction fun e => h (Or.inr e)
      refine ⟨ih.rise, fun x => ?_, fun x hx y hy => ?_⟩
      · rw [ih.mem, List.take_succ_eq_append_getElem hlt, List.mem_append]
        constructor
        · exact Or.inl
        · rintro (h3 | h3)
          · exact h3
          · rw [List.mem_singleton.1 h3, List.mem_take_iff_getElem]
            obtain ⟨hl, he⟩ := List.getElem?_eq_some_iff.1 h2
            exact ⟨k - 1, by omega, he⟩
      · rw [Nat.add_sub_cancel, List.getElem?_eq_getElem hlt] at hy
        cases hy
        exact ih.last x hx _ h2

def entPaths (l : List Ent) : List Bytes := l.map (·.path)
/-- All paths of two lists, rising. -/
def upaths (L R : List Ent) : List Bytes := uniqTo (sortP (entPaths L ++ entPaths R)) (sortP (entPaths L ++ entPaths R)).length

theorem upaths_is (L R : List Ent) : (upaths L R).Pairwise (fun a b => lessP a b = true) ∧ ∀ x, x ∈ upaths L R ↔ x ∈ entPaths L ∨ x ∈ entPaths R := by
  have h := uniq_is (sortP_sorted (entPaths L ++ entPaths R)) _ (Nat.le_refl _)
  refine ⟨h.rise, fun x => ?_⟩
  unfold upaths
  rw [h.mem, List.take_length, (sortP_perm _).mem_iff, List.mem_append]

theorem rise_nodup {l : List Bytes} (h : l.Pairwise fun a b => lessP a b = true) : l.Nodup := h.imp fun h => lessP_ne h
theorem rise_sorted {l : List Bytes} (h : l.Pairwise fun a b => lessP a b = true) : Sorted l := h.imp fun h => by
  unfold lessP at h
  unfold leP
  simp only [decide_eq_true_eq] at h
  omega

/-- What a row with the same paths, each once, is sorted to. -/
theorem sort_upaths {L R : List Ent} {o : List Bytes} (hn : o.Nodup) (hm : ∀ x, x ∈ o ↔ x ∈ entPaths L ∨ x ∈ entPaths R) : sortP o = upaths L R := by
  obtain ⟨h1, h2⟩ := upaths_is L R
  exact (sortP_eq ((List.perm_ext_iff_of_nodup (rise_nodup h1) hn).2 fun x => by rw [h2, hm]) (rise_sorted h1)).symm

/-! ### the acts -/

abbrev Acts44 := List (Bytes × Int)

def differs (L R : List Ent) (p : Bytes) : Bool := !alikeE (entAt L p) (entAt R p)
def wishAt (W L R : List Ent) (policy : Int) (p : Bytes) : Int := wishE (entAt W p) (entAt L p) (entAt R p) policy
/-- The wishes. -/
def actsOf (W L R : List Ent) (policy : Int) (u : List Bytes) : Acts44 := (u.filter (differs L R)).map fun p => (p, wishAt W L R policy p)

theorem actsOf_snoc (W L R : List Ent) (policy : Int) (u : List Bytes) (p : Bytes) : actsOf W L R policy (u ++ [p]) = actsOf W L R policy u ++ (if differs L R p = true then [(p, wishAt W L R policy p)] else []) := by
  unfold actsOf
  rw [List.filter_append, List.map_append]
  congr 1
  by_cases h : differs L R p = true
  · rw [if_pos h, List.filter_cons_of_pos h]
    rfl
  · rw [if_neg h, List.filter_cons_of_neg h]
    rfl

/-- Is there an act below a path with another wish, whose path stands in a list? -/
def belowA (l : Acts44) (list : List Ent) (p : Bytes) (tw : Int) : Bool := l.any fun y => decide (y.1 ≠ p) && under y.1 p && decide (y.2 ≠ tw) && (entAt list y.1).isSome
def heldA (l : Acts44) (L R : List Ent) (y : Bytes × Int) : Int :=
  if isDirE (entAt L y.1) = true ∧ isDirE (entAt R y.1) = false ∧ y.2 = 2 ∧ belowA l L y.1 2 = true then (if (entAt R y.1).isSome = true then 0 else 1)
  else if isDirE (entAt R y.1) = true ∧ isDirE (entAt L y.1) = false ∧ y.2 = 1 ∧ belowA l R y.1 1 = true then (if (entAt L y.1).isSome = true then 0 else 2)
  else y.2
def heldL (l : Acts44) (L R : List Ent) : Acts44 := l.map fun y => (y.1, heldA l L R y)

/-- Does an act hold all that is below it? -/
def sticks (L R : List Ent) (y : Bytes × Int) : Bool := decide (y.2 = 0) && !(isDirE (entAt L y.1) && isDirE (entAt R y.1))
def stuckL (L R : List Ent) (l : Acts44) : List Bytes := (l.filter (sticks L R)).map (·.1)
def markTo (L R : List Ent) (l : Acts44) : Nat → Acts44
  | 0 => []
  | k + 1 => match l[k]? with
    | none => markTo L R l k
    | some y => markTo L R l k ++ [(y.1, if (stuckL L R (l.take k)).any (fun q => under y.1 q) = true then 0 else y.2)]
def markL (L R : List Ent) (l : Acts44) : Acts44 := markTo L R l l.length

def planL (W L R : List Ent) (policy : Int) : Acts44 := markL L R (heldL (actsOf W L R policy (upaths L R)) L R)
def planE (W L R : List Ent) (policy : Int) : Acts44 × Int :=
  if chk W ≠ 0 then ([], chk W) else if chk L ≠ 0 then ([], chk L) else if chk R ≠ 0 then ([], chk R) else if policy < 0 ∨ 3 < policy then ([], 2) else (planL W L R policy, 0)
def clashL (l : Acts44) : List Bytes := (l.filter fun y => decide (y.2 = 0)).map (·.1)

theorem markTo_step {L R : List Ent} {l : Acts44} {k : Nat} (hk : k < l.length) : markTo L R l (k + 1) = markTo L R l k ++ [(l[k].1, if (stuckL L R (l.take k)).any (fun q => under l[k].1 q) = true then 0 else l[k].2)] := by
  rw [markTo, List.getElem?_eq_getElem hk]
theorem markTo_len {L R : List Ent} {l : Acts44} : ∀ k, k ≤ l.length → (markTo L R l k).length = k
  | 0, _ => rfl
  | k + 1, hk => by
    rw [markTo_step hk, List.length_append, markTo_len k (by omega)]
    rfl
theorem markTo_at {L R : List Ent} {l : Acts44} : ∀ k, k ≤ l.length → ∀ i (_ : i < k) (hl : i < l.length), (markTo L R l k)[i]? = some (l[i].1, if (stuckL L R (l.take i)).any (fun q => under l[i].1 q) = true then 0 else l[i].2)
  | 0, _, i, hi, _ => by omega
  | k + 1, hk, i, hi, hil => by
    rw [markTo_step hk]
    have hl := markTo_len (L := L) (R := R) k (Nat.le_of_lt hk)
    by_cases e : i = k
    · subst e
      rw [List.getElem?_append_right (by omega), hl, Nat.sub_self]
      rfl
    · rw [List.getElem?_append_left (by omega)]
      exact markTo_at k (by omega) i (by omega) hil
theorem stuckL_snoc (L R : List Ent) (l : Acts44) (y : Bytes × Int) : stuckL L R (l ++ [y]) = stuckL L R l ++ (if sticks L R y = true then [y.1] else []) := by
  unfold stuckL
  rw [List.filter_append, List.map_append]
  congr 1
  by_cases h : sticks L R y = true
  · rw [if_pos h, List.filter_cons_of_pos h]
    rfl
  · rw [if_neg h, List.filter_cons_of_neg h]
    rfl

theorem under_trans {a b c : Bytes} (h : under a b = true) (k : under b c = true) : under a c = true := by
  unfold under at *
  rw [List.isPrefixOf_iff_prefix] at *
  exact k.trans h

/-! ### the reference marks in place -/

/-- The row where all acts ahead of i have marked what is below them. -/
def inPlace (L R : List Ent) (l : Acts44) (i : Nat) (k : Nat) (y : Bytes × Int) : Bytes × Int :=
  (y.1, if (stuckL L R (l.take (min i k))).any (fun q => under y.1 q) = true then 0 else y.2)
def placeL (L R : List Ent) (l : Acts44) (i : Nat) : Acts44 := l.mapIdx (inPlace L R l i)

theorem placeL_start (L R : List Ent) (l : Acts44) : placeL L R l 0 = l := by
  apply List.ext_getElem?
  intro k
  unfold placeL inPlace
  rw [List.getElem?_mapIdx, Nat.zero_min, List.take_zero]
  simp [stuckL]
theorem placeL_end (L R : List Ent) (l : Acts44) : placeL L R l l.length = markL L R l := by
  apply List.ext_getElem?
  intro k
  unfold placeL markL
  rw [List.getElem?_mapIdx]
  by_cases hk : k < l.length
  · rw [markTo_at _ (Nat.le_refl _) k hk hk, List.getElem?_eq_getElem hk]
    simp only [Option.map_some, inPlace, Nat.min_eq_right (Nat.le_of_lt hk)]
  · rw [List.getElem?_eq_none (by omega), List.getElem?_eq_none (by rw [markTo_len _ (Nat.le_refl _)]; omega)]
    rfl

/-- An act that does not stick marks nothing that is not marked. -/
theorem place_quiet {L R : List Ent} {l : Acts44} {i : Nat} (hi : i < l.length) (h : sticks L R (inPlace L R l i i l[i]) = false) : placeL L R l (i + 1) = placeL L R l i := by
  apply List.ext_getElem?
  intro k
  unfold placeL
  rw [List.getElem?_mapIdx, List.getElem?_mapIdx]
  cases hl : l[k]? with
  | none => rfl
  | some y =>
    simp only [Option.map_some, Option.some.injEq]
    by_cases hik : i < k
    · have e1 : min (i + 1) k = i + 1 := by omega
      have e2 : min i k = i := by omega
      unfold inPlace
      rw [e1, e2, List.take_succ_eq_append_getElem hi, stuckL_snoc]
      have hs : sticks L R l[i] = false := by
        cases hc : sticks L R l[i] with
        | false => rfl
        | true =>
          unfold sticks inPlace at h
          unfold sticks at hc
          simp only [Bool.and_eq_true, decide_eq_true_eq] at hc
          simp only [hc.1, ite_self, decide_true, Bool.true_and] at h
          rw [hc.2] at h
          cases h
      rw [hs]
      simp
    · have e1 : min (i + 1) k = k := by omega
      have e2 : min i k = k := by omega
      unfold inPlace
      rw [e1, e2]

/-- One that sticks marks all below it. -/
theorem place_stick {L R : List Ent} {l : Acts44} {i : Nat} (hi : i < l.length) (h : sticks L R (inPlace L R l i i l[i]) = true) :
    placeL L R l (i + 1) = (placeL L R l i).mapIdx fun k y => (y.1, if i < k ∧ under y.1 l[i].1 = true then 0 else y.2) := by
  apply List.ext_getElem?
  intro k
  unfold placeL
  rw [List.getElem?_mapIdx, List.getElem?_mapIdx, List.getElem?_mapIdx]
  cases hl : l[k]? with
  | none => rfl
  | some y =>
    simp only [Option.map_some, Option.some.injEq]
    by_cases hik : i < k
    · have e1 : min (i + 1) k = i + 1 := by omega
      have e2 : min i k = i := by omega
      unfold inPlace
      dsimp only
      rw [e1, e2, List.take_succ_eq_append_getElem hi, stuckL_snoc, List.any_append]
      by_cases hu : under y.1 l[i].1 = true
      · rw [if_pos (⟨hik, hu⟩ : i < k ∧ under y.1 l[i].1 = true)]
        by_cases hs : sticks L R l[i] = true
        · rw [if_pos hs]
          simp [hu]
        · -- marked by one ahead
          have hm : (stuckL L R (l.take i)).any (fun q => under l[i].1 q) = true := by
            cases hc : (stuckL L R (l.take i)).any (fun q => under l[i].1 q) with
            | true => rfl
            | false =>
              unfold inPlace at h
              rw [Nat.min_self, hc] at h
              exact absurd h hs
          have hm2 : (stuckL L R (l.take i)).any (fun q => under y.1 q) = true := by
            rw [List.any_eq_true] at hm ⊢
            obtain ⟨q, hq, hqu⟩ := hm
            exact ⟨q, hq, under_trans hu hqu⟩
          rw [hm2]
          simp
      · have : (if sticks L R l[i] = true then [l[i].1] else []).any (fun q => under y.1 q) = false := by
          split
          · simpa using hu
          · rfl
        rw [this, Bool.or_false, if_neg (fun hh : i < k ∧ under y.1 l[i].1 = true => hu hh.2)]
    · have e1 : min (i + 1) k = k := by omega
      have e2 : min i k = k := by omega
      unfold inPlace
      rw [e1, e2]
      rw [if_neg (fun hh : i < k ∧ _ => hik hh.1)]

end Go.Proofs.Ytcjlfkklpghjbaa

namespace Go.Proofs.Ytcjlfkklpghjbaa

def swapT (t : Int) : Int := if t = 1 ∨ t = 2 then 3 - t else t
def swapA (l : Acts44) : Acts44 := l.map fun y => (y.1, swapT y.2)
def otherP (n : Int) : Int := if n = 1 then 2 else if n = 2 then 1 else n

theorem swapT_one {t : Int} : swapT t = 1 ↔ t = 2 := by unfold swapT; split <;> omega
theorem swapT_two {t : Int} : swapT t = 2 ↔ t = 1 := by unfold swapT; split <;> omega
theorem swapT_zero {t : Int} : swapT t = 0 ↔ t = 0 := by unfold swapT; split <;> omega

section
variable {W L R : List Ent}

theorem upaths_comm (L R : List Ent) : upaths L R = upaths R L := by
  obtain ⟨h1, h2⟩ := upaths_is L R
  obtain ⟨h3, h4⟩ := upaths_is R L
  exact sorted_unique ((List.perm_ext_iff_of_nodup (rise_nodup h1) (rise_nodup h3)).2 fun x => by rw [h2, h4, or_comm]) (rise_sorted h1) (rise_sorted h3)

theorem differs_comm (L R : List Ent) (p : Bytes) : differs L R p = differs R L p := by
  unfold differs
  rw [alikeE_comm]

theorem alikeE_trans : ∀ {a b c : Option Ent}, alikeE a b = true → alikeE b c = true → alikeE a c = true
  | none, none, none, _, _ => rfl
  | none, none, some _, _, k => by cases k
  | none, some _, _, h, _ => by cases h
  | some _, none, _, h, _ => by cases h
  | some _, some _, none, _, k => by cases k
  | some a, some b, some c, h, k => by
    unfold alikeE at *
    simp only [Bool.and_eq_true, Bool.or_eq_true, decide_eq_true_eq] at *
    obtain ⟨⟨⟨h1, h2⟩, h3⟩, h4⟩ := h
    obtain ⟨⟨⟨k1, k2⟩, k3⟩, k4⟩ := k
    refine ⟨⟨⟨h1.trans k1, h2.trans k2⟩, h3.trans k3⟩, ?_⟩
    rcases h4 with h4 | ⟨h5, h6⟩
    · exact Or.inl h4
    · rcases k4 with k4 | ⟨k5, k6⟩
      · exact Or.inl (by rw [h1]; exact k4)
      · exact Or.inr ⟨h5.trans k5, h6.trans k6⟩

/-- No two times of one path are the same. -/
def ApartT (L R : List Ent) : Prop := ∀ x ∈ L, ∀ y ∈ R, x.path = y.path → ¬ (x.mt.sec = y.mt.sec ∧ x.mt.nano = y.mt.nano)

theorem later_one {a b : Mt} (h : ¬ (a.sec = b.sec ∧ a.nano = b.nano)) : laterM a b = !laterM b a := by
  unfold laterM
  rw [Bool.eq_iff_iff]
  simp only [Bool.or_eq_true, Bool.and_eq_true, decide_eq_true_eq, Bool.not_eq_true', Bool.or_eq_false_iff, Bool.and_eq_false_iff, decide_eq_false_iff_not]
  omega

theorem wish_swap {n : Int} {p : Bytes} (hn : 0 ≤ n ∧ n ≤ 3) (hd : differs L R p = true) (ht : n = 3 → ApartT L R) : wishAt W R L (otherP n) p = swapT (wishAt W L R n p) := by
  have hne : alikeE (entAt L p) (entAt R p) = false := by
    unfold differs at hd
    simpa using hd
  have hboth : ¬ (alikeE (entAt R p) (entAt W p) = true ∧ alikeE (entAt L p) (entAt W p) = true) := fun ⟨h1, h2⟩ => by
    rw [alikeE_comm] at h1
    rw [alikeE_trans h2 h1] at hne
    cases hne
  have hlast : (match entAt R p, entAt L p with
      | none, _ => 2
      | some x, some y => if laterM y.mt x.mt = true then 2 else 1
      | some _, none => 1 : Int) = swapT (match entAt L p, entAt R p with
      | none, _ => 2
      | some x, some y => if laterM y.mt x.mt = true then 2 else 1
      | some _, none => 1) ∨ n ≠ 3 := by
    by_cases h3 : n = 3
    · refine Or.inl ?_
      cases ha : entAt L p with
      | none =>
        cases hb : entAt R p with
        | none =>
          rw [ha, hb] at hne
          cases hne
        | some y => rfl
      | some x =>
        cases hb : entAt R p with
        | none => rfl
        | some y =>
          obtain ⟨a1, a2⟩ := entAt_some ha
          obtain ⟨b1, b2⟩ := entAt_some hb
          have h := later_one (ht h3 x a1 y b1 (a2.trans b2.symm))
          dsimp only
          rw [h]
          cases laterM y.mt x.mt <;> rfl
    · exact Or.inr h3
  unfold wishAt wishE
  by_cases h1 : alikeE (entAt R p) (entAt W p) = true
  · have h2 : ¬ alikeE (entAt L p) (entAt W p) = true := fun h => hboth ⟨h1, h⟩
    rw [if_neg h2, if_pos h1, if_pos h1]
    rfl
  · by_cases h2 : alikeE (entAt L p) (entAt W p) = true
    · rw [if_pos h2, if_neg h1, if_pos h2]
      rfl
    · rw [if_neg h2, if_neg h1, if_neg h1, if_neg h2]
      by_cases h3 : n = 3
      · rw [if_neg (by simp [h3, otherP]), if_neg (by simp [h3])]
        exact hlast.resolve_right (fun h => h h3)
      · have ho : otherP n ≠ 3 := by
          unfold otherP
          split
          · decide
          · split
            · decide
            · exact h3
        rw [if_pos ho, if_pos h3]
        unfold otherP swapT
        by_cases e1 : n = 1
        · subst e1
          rfl
        · by_cases e2 : n = 2
          · subst e2
            rfl
          · rw [if_neg e1, if_neg e2, if_neg (by omega)]

theorem actsOf_swap {n : Int} (hn : 0 ≤ n ∧ n ≤ 3) (ht : n = 3 → ApartT L R) (u : List Bytes) : actsOf W R L (otherP n) u = swapA (actsOf W L R n u) := by
  unfold actsOf swapA
  rw [List.map_map, show differs R L = differs L R from funext fun p => (differs_comm L R p).symm]
  refine List.map_congr_left fun p hp => ?_
  rw [wish_swap hn (List.mem_filter.1 hp).2 ht]
  rfl

theorem below_swap1 (l : Acts44) (list : List Ent) (p : Bytes) : belowA (swapA l) list p 1 = belowA l list p 2 := by
  unfold belowA swapA
  rw [List.any_map]
  congr 1
  funext y
  simp only [Function.comp, ne_eq, swapT_one]
theorem below_swap2 (l : Acts44) (list : List Ent) (p : Bytes) : belowA (swapA l) list p 2 = belowA l list p 1 := by
  unfold belowA swapA
  rw [List.any_map]
  congr 1
  funext y
  simp only [Function.comp, ne_eq, swapT_two]

theorem held_swap (l : Acts44) (y : Bytes × Int) : heldA (swapA l) R L (y.1, swapT y.2) = swapT (heldA l L R y) := by
  unfold heldA
  dsimp only
  rw [below_swap1, below_swap2]
  simp only [swapT_one, swapT_two]
  by_cases h1 : isDirE (entAt L y.1) = true ∧ isDirE (entAt R y.1) = false ∧ y.2 = 2 ∧ belowA l L y.1 2 = true
  · have h2 : ¬ (isDirE (entAt R y.1) = true ∧ isDirE (entAt L y.1) = false ∧ y.2 = 1 ∧ belowA l R y.1 1 = true) := fun h => by
      rw [h1.2.1] at h
      exact Bool.noConfusion h.1
    rw [if_pos h1, if_pos h1, if_neg h2]
    split <;> rfl
  · by_cases h2 : isDirE (entAt R y.1) = true ∧ isDirE (entAt L y.1) = false ∧ y.2 = 1 ∧ belowA l R y.1 1 = true
    · rw [if_pos h2, if_neg h1, if_pos h2]
      split <;> rfl
    · rw [if_neg h2, if_neg h1, if_neg h1, if_neg h2]

theorem heldL_swap (l : Acts44) : heldL (swapA l) R L = swapA (heldL l L R) := by
  have h : ∀ y, heldA (swapA l) R L (y.1, swapT y.2) = swapT (heldA l L R y) := fun y => held_swap l y
  unfold heldL
  generalize heldA (swapA l) R L = f at h ⊢
  unfold swapA
  rw [List.map_map, List.map_map]
  refine List.map_congr_left fun y _ => ?_
  simp only [Function.comp]
  rw [h]

theorem sticks_swap (y : Bytes × Int) : sticks R L (y.1, swapT y.2) = sticks L R y := by
  unfold sticks
  simp only [swapT_zero]
  rw [Bool.and_comm (isDirE (entAt R y.1))]

theorem stuckL_swap (l : Acts44) : stuckL R L (swapA l) = stuckL L R l := by
  unfold stuckL swapA
  induction l with
  | nil => rfl
  | cons y l ih =>
    rw [List.map_cons]
    by_cases h : sticks L R y = true
    · rw [List.filter_cons_of_pos h, List.filter_cons_of_pos (by rw [sticks_swap]; exact h), List.map_cons, List.map_cons, ih]
    · rw [List.filter_cons_of_neg h, List.filter_cons_of_neg (by rw [sticks_swap]; exact h), ih]

theorem markL_swap (l : Acts44) : markL R L (swapA l) = swapA (markL L R l) := by
  have hlen : (swapA l).length = l.length := by simp [swapA]
  apply List.ext_getElem?
  intro k
  have hs : ∀ m : Acts44, (swapA m)[k]? = m[k]?.map fun y => (y.1, swapT y.2) := fun m => by unfold swapA; rw [List.getElem?_map]
  rw [hs]
  unfold markL
  by_cases hk : k < l.length
  · rw [markTo_at _ (Nat.le_refl _) k (by rw [hlen]; exact hk) (by rw [hlen]; exact hk), markTo_at _ (Nat.le_refl _) k hk hk]
    have e1 : (swapA l).take k = swapA (l.take k) := by unfold swapA; rw [List.map_take]
    have e2 : (swapA l)[k]'(by rw [hlen]; exact hk) = (l[k].1, swapT l[k].2) := by simp [swapA]
    rw [e1, stuckL_swap, e2]
    simp only [Option.map_some]
    split <;> rfl
  · rw [List.getElem?_eq_none (by rw [markTo_len _ (Nat.le_refl _), hlen]; omega), List.getElem?_eq_none (by rw [markTo_len _ (Nat.le_refl _)]; omega)]
    rfl

theorem planL_swap {n : Int} (hn : 0 ≤ n ∧ n ≤ 3) (ht : n = 3 → ApartT L R) : planL W R L (otherP n) = swapA (planL W L R n) := by
  unfold planL
  rw [upaths_comm R L, actsOf_swap hn ht, heldL_swap, markL_swap]

end

end Go.Proofs.Ytcjlfkklpghjbaa

namespace Go.Proofs.Ytcjlfkklpghjbaa
open Go.RowKit

theorem ite_two {P Q : Prop} [Decidable P] [Decidable Q] (h : P ↔ Q) : (if P then (2 : Int) else 0) = if Q then 2 else 0 := by
  by_cases hP : P
  · rw [if_pos hP, if_pos (h.1 hP)]
  · rw [if_neg hP, if_neg fun hQ => hP (h.2 hQ)]
theorem len_nil {l : Bytes} : l = [] ↔ l.length = 0 := List.length_eq_zero_iff.symm
theorem entE_1 {x : Ent} (hr : right x.path = true) (hp : x.path ≠ []) (hk : x.kind = 1) :
    entE x = if metaOk x.mt = false ∨ x.size < 0 ∨ 65536 < x.size ∨ x.target.length ≠ 0 ∨ (x.sum.length ≠ 0 ∧ x.sum.length ≠ 32) ∨ x.group < 0 then 2 else 0 := by
  unfold entE
  rw [if_neg (by simp [hr, hp]), if_neg (by simp [hk])]
  refine ite_two ?_
  cases hm : metaOk x.mt
  · simp [entBad, hm]
  · simp only [entBad, hm, hk, Bool.not_true, Bool.false_or, Bool.or_eq_true, decide_eq_true_eq, len_nil, ne_eq, Bool.true_eq_false, false_or, Int.reduceEq, true_and, false_and, not_true_eq_false, not_false_eq_true, or_false, and_false, and_true, true_or, or_true]
    omega
theorem entE_2 {x : Ent} (hr : right x.path = true) (hp : x.path ≠ []) (hk : x.kind = 2) :
    entE x = if metaOk x.mt = false ∨ x.size < 0 ∨ 2147483647 < x.size ∨ x.target.length ≠ 0 ∨ x.sum.length ≠ 0 ∨ x.group ≠ 0 then 2 else 0 := by
  unfold entE
  rw [if_neg (by simp [hr, hp]), if_neg (by simp [hk])]
  refine ite_two ?_
  cases hm : metaOk x.mt
  · simp [entBad, hm]
  · simp only [entBad, hm, hk, Bool.not_true, Bool.false_or, Bool.or_eq_true, decide_eq_true_eq, len_nil, ne_eq, Bool.true_eq_false, false_or, Int.reduceEq, true_and, false_and, not_true_eq_false, not_false_eq_true, or_false, and_false, and_true, true_or, or_true]
    omega
theorem entE_3 {x : Ent} (hr : right x.path = true) (hp : x.path ≠ []) (hk : x.kind = 3) :
    entE x = if metaOk x.mt = false ∨ x.size < 0 ∨ x.target.length = 0 ∨ 200 < x.target.length ∨ x.size ≠ (x.target.length : Int) ∨ x.sum.length ≠ 0 ∨ x.group ≠ 0 then 2 else 0 := by
  unfold entE
  rw [if_neg (by simp [hr, hp]), if_neg (by simp [hk])]
  refine ite_two ?_
  cases hm : metaOk x.mt
  · simp [entBad, hm]
  · simp only [entBad, hm, hk, Bool.not_true, Bool.false_or, Bool.or_eq_true, decide_eq_true_eq, len_nil, ne_eq, Bool.true_eq_false, false_or, Int.reduceEq, true_and, false_and, not_true_eq_false, not_false_eq_true, or_false, and_false, and_true, true_or, or_true]
    omega
theorem entE_name {x : Ent} (h : right x.path = false ∨ x.path = []) : entE x = 9 := if_pos h
theorem entE_kind {x : Ent} (hr : right x.path = true) (hp : x.path ≠ []) (h1 : x.kind ≠ 1) (h2 : x.kind ≠ 2) (h3 : x.kind ≠ 3) : entE x = 17 := by
  unfold entE
  rw [if_neg (by simp [hr, hp]), if_pos ⟨h1, h2, h3⟩]

set_option maxHeartbeats 8000000 in
set_option maxRecDepth 100000 in
theorem alone_calls (x : Ent) (w : World) (hp : x.path.length ≤ 1000000) (ht : x.target.length ≤ 1000000) (hs : x.sum.length ≤ 1000000) :
    Calls Try.prog 31 #[entV x] w fun e w' => e = .returned (.int .i64 (entE x)) ∧ Below w.heap.size w w' := by
  have k1 := @entE_1 x
  have k2 := @entE_2 x
  have k3 := @entE_3 x
  have kn := @entE_name x
  have kk := @entE_kind x
  generalize entE x = r at *
  obtain ⟨p, kd, sz, m, tg, sm, gr⟩ := x
  have hm := fun W => check_calls m W
  generalize metaOk m = mk at *
  obtain ⟨m1, m2, m3, m4, m5⟩ := m
  unfold entV entCells
  unfold mtV mtCells at hm
  dsimp only at *
  have hps := mkS_size p
  have hts := mkS_size tg
  have hss := mkS_size sm
  have h1 := fun W => right_calls (mkS p) W (by omega)
  rw [bl_mkS] at h1
  have hB := (Below.refl w.heap.size w).alloc (Nat.le_refl _) (.cells #[.string (mkS p), .int .i64 kd, .int .i64 sz, .int .i64 m1, .int .i64 m2, .int .i64 m3, .int .i64 m4, .int .i64 m5, .string (mkS tg), .string (mkS sm), .int .i64 gr] 35)
  have hblk := (MapKept.heap_alloc w (.cells #[.string (mkS p), .int .i64 kd, .int .i64 sz, .int .i64 m1, .int .i64 m2, .int .i64 m3, .int .i64 m4, .int .i64 m5, .string (mkS tg), .string (mkS sm), .int .i64 gr] 35)).1
  have d0 := cell_of (j := 0) hblk (v := .string (mkS p)) rfl
  have hpe : (mkS p).toList.isEmpty = decide (p = []) := by rw [str_nil, bl_mkS]
  have hte : (mkS tg).toList.isEmpty = decide (tg = []) := by rw [str_nil, bl_mkS]
  have hse : (mkS sm).toList.isEmpty = decide (sm = []) := by rw [str_nil, bl_mkS]
  generalize right p = rp at *
  replace hm := Lib.hid hm
  replace h1 := Lib.hid h1
  replace hB := Lib.hid hB
  replace hblk := Lib.hid hblk
  replace k1 := Lib.hid k1
  replace k2 := Lib.hid k2
  replace k3 := Lib.hid k3
  replace kn := Lib.hid kn
  replace kk := Lib.hid kk
  cases rp with
  | false =>
    replace hpe := Lib.hid hpe
    replace hte := Lib.hid hte
    replace hse := Lib.hid hse
    go_enter Try.func31, Try.ntmps31
    go_wp2_with fail
    (with_reducible refine (h1.out _).mono ?_)
    rintro e w1 ⟨rfl, hB1⟩
    go_wp2
    go_ret
    exact ⟨ret_int (kn.out (by simp)).symm, below_step hB.out hB1⟩
  | true =>
    by_cases hp0 : p = []
    · rw [decide_eq_true hp0] at hpe
      replace hp0 := Lib.hid hp0
      replace hte := Lib.hid hte
      replace hse := Lib.hid hse
      go_enter Try.func31, Try.ntmps31
      go_wp2_with fail
      (with_reducible refine (h1.out _).mono ?_)
      rintro e w1 ⟨rfl, hB1⟩
      have e0 := (hB1.cell (cell_lt d0)).trans d0
      clear d0
      go_wp2
      go_ret
      exact ⟨ret_int (kn.out (by simp [hp0.out])).symm, below_step hB.out hB1⟩
    · rw [decide_eq_false hp0] at hpe
      by_cases hk1 : kd = 1
      · subst hk1
        have hE := k1.out rfl hp0 rfl
        replace hE := Lib.hid hE
        replace hp0 := Lib.hid hp0
        cases mk with
        | false =>
          replace hte := Lib.hid hte
          replace hse := Lib.hid hse
          go_enter Try.func31, Try.ntmps31
          go_wp2_with fail
          (with_reducible refine (h1.out _).mono ?_)
          rintro e w1 ⟨rfl, hB1⟩
          have hblk1 := (hB1.block _ (Array.getElem?_eq_some_iff.1 hblk.out).1).trans hblk.out
          have e0 := cell_of (j := 0) hblk1 (v := .string (mkS p)) rfl
          have d1 := cell_of (j := 1) hblk1 rfl
          have d2 := cell_of (j := 2) hblk1 (v := .int .i64 sz) rfl
          have d3 := cell_of (j := 3) hblk1 (v := .int .i64 m1) rfl
          have d4 := cell_of (j := 4) hblk1 (v := .int .i64 m2) rfl
          have d5 := cell_of (j := 5) hblk1 (v := .int .i64 m3) rfl
          have d6 := cell_of (j := 6) hblk1 (v := .int .i64 m4) rfl
          have d7 := cell_of (j := 7) hblk1 (v := .int .i64 m5) rfl
          have d8 := cell_of (j := 8) hblk1 (v := .string (mkS tg)) rfl
          have d9 := cell_of (j := 9) hblk1 (v := .string (mkS sm)) rfl
          have d10 := cell_of (j := 10) hblk1 (v := .int .i64 gr) rfl
          have hB01 := below_step hB.out hB1
          replace hblk1 := Lib.hid hblk1
          replace hB01 := Lib.hid hB01
          clear hB1 d0
          go_upto_region 3 with fail
          go_quiet (fail)
          go_wp2_with fail
          (with_reducible refine (hm.out _).mono ?_)
          rintro e w2 ⟨rfl, hB2⟩
          have hB02 := below_step (below_drewN hB01.out _) hB2
          replace hB02 := Lib.hid hB02
          replace hB2 := Lib.hid hB2
          clear e0 d1 d2 d3 d4 d5 d6 d7 d8 d9 d10
          go_wp2
          go_ret
          exact ⟨ret_int (by rw [hE.out, if_pos (by simp)]), hB02.out⟩
        | true =>
          have hE := hE.out
          simp only [Bool.true_eq_false, false_or] at hE
          replace hE := Lib.hid hE
          by_cases ht0 : tg = []
          · rw [decide_eq_true ht0] at hte
            have hl1 : tg.length = 0 := by rw [ht0]; rfl
            replace ht0 := Lib.hid ht0
            replace hl1 := Lib.hid hl1
            by_cases hs0 : sm = []
            · rw [decide_eq_true hs0] at hse
              have hl2 : sm.length = 0 := by rw [hs0]; rfl
              replace hs0 := Lib.hid hs0
              replace hl2 := Lib.hid hl2
              go_enter Try.func31, Try.ntmps31
              go_wp2_with fail
              (with_reducible refine (h1.out _).mono ?_)
              rintro e w1 ⟨rfl, hB1⟩
              have hblk1 := (hB1.block _ (Array.getElem?_eq_some_iff.1 hblk.out).1).trans hblk.out
              have e0 := cell_of (j := 0) hblk1 (v := .string (mkS p)) rfl
              have d1 := cell_of (j := 1) hblk1 rfl
              have d2 := cell_of (j := 2) hblk1 (v := .int .i64 sz) rfl
              have d3 := cell_of (j := 3) hblk1 (v := .int .i64 m1) rfl
              have d4 := cell_of (j := 4) hblk1 (v := .int .i64 m2) rfl
              have d5 := cell_of (j := 5) hblk1 (v := .int .i64 m3) rfl
              have d6 := cell_of (j := 6) hblk1 (v := .int .i64 m4) rfl
              have d7 := cell_of (j := 7) hblk1 (v := .int .i64 m5) rfl
              have d8 := cell_of (j := 8) hblk1 (v := .string (mkS tg)) rfl
              have d9 := cell_of (j := 9) hblk1 (v := .string (mkS sm)) rfl
              have d10 := cell_of (j := 10) hblk1 (v := .int .i64 gr) rfl
              have hB01 := below_step hB.out hB1
              replace hblk1 := Lib.hid hblk1
              replace hB01 := Lib.hid hB01
              clear hB1 d0
              go_upto_region 3 with fail
              go_quiet (fail)
              go_wp2_with fail
              (with_reducible refine (hm.out _).mono ?_)
              rintro e w2 ⟨rfl, hB2⟩
              have hblk2 := (hB2.block _ (Array.getElem?_eq_some_iff.1 hblk1.out).1).trans hblk1.out
              have hB02 := below_step (below_drewN hB01.out _) hB2
              clear e0 d1 d2 d3 d4 d5 d6 d7 d8 d9 d10 hB2
              have d1 := cell_of (j := 1) hblk2 rfl
              have d2 := cell_of (j := 2) hblk2 (v := .int .i64 sz) rfl
              have d3 := cell_of (j := 3) hblk2 (v := .int .i64 m1) rfl
              have d4 := cell_of (j := 4) hblk2 (v := .int .i64 m2) rfl
              have d5 := cell_of (j := 5) hblk2 (v := .int .i64 m3) rfl
              have d6 := cell_of (j := 6) hblk2 (v := .int .i64 m4) rfl
              have d7 := cell_of (j := 7) hblk2 (v := .int .i64 m5) rfl
              have d8 := cell_of (j := 8) hblk2 (v := .string (mkS tg)) rfl
              have d9 := cell_of (j := 9) hblk2 (v := .string (mkS sm)) rfl
              have d10 := cell_of (j := 10) hblk2 (v := .int .i64 gr) rfl
              replace hblk2 := Lib.hid hblk2
              replace hB02 := Lib.hid hB02
              go_wp2
              all_goals
                go_ret
                refine ⟨ret_int ?_, hB02.out⟩
                have q1 := hl1.out
                have q2 := hl2.out
                rw [hE.out]
                (try simp only [bne_iff_ne, ne_eq, bne_eq_false_iff_eq] at *)
                first | (rw [if_pos (by omega)]; done) | (rw [if_neg (by omega)]; done)
            · rw [decide_eq_false hs0] at hse
              have hl2 : sm.length ≠ 0 := fun h => hs0 (len_nil.2 h)
              replace hs0 := Lib.hid hs0
              replace hl2 := Lib.hid hl2
              go_enter Try.func31, Try.ntmps31
              go_wp2_with fail
              (with_reducible refine (h1.out _).mono ?_)
              rintro e w1 ⟨rfl, hB1⟩
              have hblk1 := (hB1.block _ (Array.getElem?_eq_some_iff.1 hblk.out).1).trans hblk.out
              have e0 := cell_of (j := 0) hblk1 (v := .string (mkS p)) rfl
              have d1 := cell_of (j := 1) hblk1 rfl
              have d2 := cell_of (j := 2) hblk1 (v := .int .i64 sz) rfl
              have d3 := cell_of (j := 3) hblk1 (v := .int .i64 m1) rfl
              have d4 := cell_of (j := 4) hblk1 (v := .int .i64 m2) rfl
              have d5 := cell_of (j := 5) hblk1 (v := .int .i64 m3) rfl
              have d6 := cell_of (j := 6) hblk1 (v := .int .i64 m4) rfl
              have d7 := cell_of (j := 7) hblk1 (v := .int .i64 m5) rfl
              have d8 := cell_of (j := 8) hblk1 (v := .string (mkS tg)) rfl
              have d9 := cell_of (j := 9) hblk1 (v := .string (mkS sm)) rfl
              have d10 := cell_of (j := 10) hblk1 (v := .int .i64 gr) rfl
              have hB01 := below_step hB.out hB1
              replace hblk1 := Lib.hid hblk1
              replace hB01 := Lib.hid hB01
              clear hB1 d0
              go_upto_region 3 with fail
              go_quiet (fail)
              go_wp2_with fail
              (with_reducible refine (hm.out _).mono ?_)
              rintro e w2 ⟨rfl, hB2⟩
              have hblk2 := (hB2.block _ (Array.getElem?_eq_some_iff.1 hblk1.out).1).trans hblk1.out
              have hB02 := below_step (below_drewN hB01.out _) hB2
              clear e0 d1 d2 d3 d4 d5 d6 d7 d8 d9 d10 hB2
              have d1 := cell_of (j := 1) hblk2 rfl
              have d2 := cell_of (j := 2) hblk2 (v := .int .i64 sz) rfl
              have d3 := cell_of (j := 3) hblk2 (v := .int .i64 m1) rfl
              have d4 := cell_of (j := 4) hblk2 (v := .int .i64 m2) rfl
              have d5 := cell_of (j := 5) hblk2 (v := .int .i64 m3) rfl
              have d6 := cell_of (j := 6) hblk2 (v := .int .i64 m4) rfl
              have d7 := cell_of (j := 7) hblk2 (v := .int .i64 m5) rfl
              have d8 := cell_of (j := 8) hblk2 (v := .string (mkS tg)) rfl
              have d9 := cell_of (j := 9) hblk2 (v := .string (mkS sm)) rfl
              have d10 := cell_of (j := 10) hblk2 (v := .int .i64 gr) rfl
              replace hblk2 := Lib.hid hblk2
              replace hB02 := Lib.hid hB02
              go_wp2
              all_goals
                go_ret
                refine ⟨ret_int ?_, hB02.out⟩
                have q1 := hl1.out
                have q2 := hl2.out
                rw [hE.out]
                (try simp only [bne_iff_ne, ne_eq, bne_eq_false_iff_eq] at *)
                first | (rw [if_pos (by omega)]; done) | (rw [if_neg (by omega)]; done)
          · rw [decide_eq_false ht0] at hte
            have hl1 : tg.length ≠ 0 := fun h => ht0 (len_nil.2 h)
            replace ht0 := Lib.hid ht0
            replace hl1 := Lib.hid hl1
            by_cases hs0 : sm = []
            · rw [decide_eq_true hs0] at hse
              have hl2 : sm.length = 0 := by rw [hs0]; rfl
              replace hs0 := Lib.hid hs0
              replace hl2 := Lib.hid hl2
              go_enter Try.func31, Try.ntmps31
              go_wp2_with fail
              (with_reducible refine (h1.out _).mono ?_)
              rintro e w1 ⟨rfl, hB1⟩
              have hblk1 := (hB1.block _ (Array.getElem?_eq_some_iff.1 hblk.out).1).trans hblk.out
              have e0 := cell_of (j := 0) hblk1 (v := .string (mkS p)) rfl
              have d1 := cell_of (j := 1) hblk1 rfl
              have d2 := cell_of (j := 2) hblk1 (v := .int .i64 sz) rfl
              have d3 := cell_of (j := 3) hblk1 (v := .int .i64 m1) rfl
              have d4 := cell_of (j := 4) hblk1 (v := .int .i64 m2) rfl
              have d5 := cell_of (j := 5) hblk1 (v := .int .i64 m3) rfl
              have d6 := cell_of (j := 6) hblk1 (v := .int .i64 m4) rfl
              have d7 := cell_of (j := 7) hblk1 (v := .int .i64 m5) rfl
              have d8 := cell_of (j := 8) hblk1 (v := .string (mkS tg)) rfl
              have d9 := cell_of (j := 9) hblk1 (v := .string (mkS sm)) rfl
              have d10 := cell_of (j := 10) hblk1 (v := .int .i64 gr) rfl
              have hB01 := below_step hB.out hB1
              replace hblk1 := Lib.hid hblk1
              replace hB01 := Lib.hid hB01
              clear hB1 d0
              go_upto_region 3 with fail
              go_quiet (fail)
              go_wp2_with fail
              (with_reducible refine (hm.out _).mono ?_)
              rintro e w2 ⟨rfl, hB2⟩
              have hblk2 := (hB2.block _ (Array.getElem?_eq_some_iff.1 hblk1.out).1).trans hblk1.out
              have hB02 := below_step (below_drewN hB01.out _) hB2
              clear e0 d1 d2 d3 d4 d5 d6 d7 d8 d9 d10 hB2
              have d1 := cell_of (j := 1) hblk2 rfl
              have d2 := cell_of (j := 2) hblk2 (v := .int .i64 sz) rfl
              have d3 := cell_of (j := 3) hblk2 (v := .int .i64 m1) rfl
              have d4 := cell_of (j := 4) hblk2 (v := .int .i64 m2) rfl
              have d5 := cell_of (j := 5) hblk2 (v := .int .i64 m3) rfl
              have d6 := cell_of (j := 6) hblk2 (v := .int .i64 m4) rfl
              have d7 := cell_of (j := 7) hblk2 (v := .int .i64 m5) rfl
              have d8 := cell_of (j := 8) hblk2 (v := .string (mkS tg)) rfl
              have d9 := cell_of (j := 9) hblk2 (v := .string (mkS sm)) rfl
              have d10 := cell_of (j := 10) hblk2 (v := .int .i64 gr) rfl
              replace hblk2 := Lib.hid hblk2
              replace hB02 := Lib.hid hB02
              go_wp2
              all_goals
                go_ret
                refine ⟨ret_int ?_, hB02.out⟩
                have q1 := hl1.out
                have q2 := hl2.out
                rw [hE.out]
                (try simp only [bne_iff_ne, ne_eq, bne_eq_false_iff_eq] at *)
                first | (rw [if_pos (by omega)]; done) | (rw [if_neg (by omega)]; done)
            · rw [decide_eq_false hs0] at hse
              have hl2 : sm.length ≠ 0 := fun h => hs0 (len_nil.2 h)
              replace hs0 := Lib.hid hs0
              replace hl2 := Lib.hid hl2
              go_enter Try.func31, Try.ntmps31
              go_wp2_with fail
              (with_reducible refine (h1.out _).mono ?_)
              rintro e w1 ⟨rfl, hB1⟩
              have hblk1 := (hB1.block _ (Array.getElem?_eq_some_iff.1 hblk.out).1).trans hblk.out
              have e0 := cell_of (j := 0) hblk1 (v := .string (mkS p)) rfl
              have d1 := cell_of (j := 1) hblk1 rfl
              have d2 := cell_of (j := 2) hblk1 (v := .int .i64 sz) rfl
              have d3 := cell_of (j := 3) hblk1 (v := .int .i64 m1) rfl
              have d4 := cell_of (j := 4) hblk1 (v := .int .i64 m2) rfl
              have d5 := cell_of (j := 5) hblk1 (v := .int .i64 m3) rfl
              have d6 := cell_of (j := 6) hblk1 (v := .int .i64 m4) rfl
              have d7 := cell_of (j := 7) hblk1 (v := .int .i64 m5) rfl
              have d8 := cell_of (j := 8) hblk1 (v := .string (mkS tg)) rfl
              have d9 := cell_of (j := 9) hblk1 (v := .string (mkS sm)) rfl
              have d10 := cell_of (j := 10) hblk1 (v := .int .i64 gr) rfl
              have hB01 := below_step hB.out hB1
              replace hblk1 := Lib.hid hblk1
              replace hB01 := Lib.hid hB01
              clear hB1 d0
              go_upto_region 3 with fail
              go_quiet (fail)
              go_wp2_with fail
              (with_reducible refine (hm.out _).mono ?_)
              rintro e w2 ⟨rfl, hB2⟩
              have hblk2 := (hB2.block _ (Array.getElem?_eq_some_iff.1 hblk1.out).1).trans hblk1.out
              have hB02 := below_step (below_drewN hB01.out _) hB2
              clear e0 d1 d2 d3 d4 d5 d6 d7 d8 d9 d10 hB2
              have d1 := cell_of (j := 1) hblk2 rfl
              have d2 := cell_of (j := 2) hblk2 (v := .int .i64 sz) rfl
              have d3 := cell_of (j := 3) hblk2 (v := .int .i64 m1) rfl
              have d4 := cell_of (j := 4) hblk2 (v := .int .i64 m2) rfl
              have d5 := cell_of (j := 5) hblk2 (v := .int .i64 m3) rfl
              have d6 := cell_of (j := 6) hblk2 (v := .int .i64 m4) rfl
              have d7 := cell_of (j := 7) hblk2 (v := .int .i64 m5) rfl
              have d8 := cell_of (j := 8) hblk2 (v := .string (mkS tg)) rfl
              have d9 := cell_of (j := 9) hblk2 (v := .string (mkS sm)) rfl
              have d10 := cell_of (j := 10) hblk2 (v := .int .i64 gr) rfl
              replace hblk2 := Lib.hid hblk2
              replace hB02 := Lib.hid hB02
              go_wp2
              all_goals
                go_ret
                refine ⟨ret_int ?_, hB02.out⟩
                have q1 := hl1.out
                have q2 := hl2.out
                rw [hE.out]
                (try simp only [bne_iff_ne, ne_eq, bne_eq_false_iff_eq] at *)
                first | (rw [if_pos (by omega)]; done) | (rw [if_neg (by omega)]; done)
      · by_cases hk2 : kd = 2
        · subst hk2
          have hE := k2.out rfl hp0 rfl
          replace hE := Lib.hid hE
          replace hp0 := Lib.hid hp0
          clear hk1
          cases mk with
          | false =>
            replace hte := Lib.hid hte
            replace hse := Lib.hid hse
            go_enter Try.func31, Try.ntmps31
            go_wp2_with fail
            (with_reducible refine (h1.out _).mono ?_)
            rintro e w1 ⟨rfl, hB1⟩
            have hblk1 := (hB1.block _ (Array.getElem?_eq_some_iff.1 hblk.out).1).trans hblk.out
            have e0 := cell_of (j := 0) hblk1 (v := .string (mkS p)) rfl
            have d1 := cell_of (j := 1) hblk1 rfl
            have d2 := cell_of (j := 2) hblk1 (v := .int .i64 sz) rfl
            have d3 := cell_of (j := 3) hblk1 (v := .int .i64 m1) rfl
            have d4 := cell_of (j := 4) hblk1 (v := .int .i64 m2) rfl
            have d5 := cell_of (j := 5) hblk1 (v := .int .i64 m3) rfl
            have d6 := cell_of (j := 6) hblk1 (v := .int .i64 m4) rfl
            have d7 := cell_of (j := 7) hblk1 (v := .int .i64 m5) rfl
            have d8 := cell_of (j := 8) hblk1 (v := .string (mkS tg)) rfl
            have d9 := cell_of (j := 9) hblk1 (v := .string (mkS sm)) rfl
            have d10 := cell_of (j := 10) hblk1 (v := .int .i64 gr) rfl
            have hB01 := below_step hB.out hB1
            replace hblk1 := Lib.hid hblk1
            replace hB01 := Lib.hid hB01
            clear hB1 d0
            go_upto_region 3 with fail
            go_quiet (fail)
            go_wp2_with fail
            (with_reducible refine (hm.out _).mono ?_)
            rintro e w2 ⟨rfl, hB2⟩
            have hB02 := below_step (below_drewN hB01.out _) hB2
            replace hB02 := Lib.hid hB02
            replace hB2 := Lib.hid hB2
            clear e0 d1 d2 d3 d4 d5 d6 d7 d8 d9 d10
            go_wp2
            go_ret
            exact ⟨ret_int (by rw [hE.out, if_pos (by simp)]), hB02.out⟩
          | true =>
            have hE := hE.out
            simp only [Bool.true_eq_false, false_or] at hE
            replace hE := Lib.hid hE
            by_cases ht0 : tg = []
            · rw [decide_eq_true ht0] at hte
              have hl1 : tg.length = 0 := by rw [ht0]; rfl
              replace ht0 := Lib.hid ht0
              replace hl1 := Lib.hid hl1
              by_cases hs0 : sm = []
              · rw [decide_eq_true hs0] at hse
                have hl2 : sm.length = 0 := by rw [hs0]; rfl
                replace hs0 := Lib.hid hs0
                replace hl2 := Lib.hid hl2
                go_enter Try.func31, Try.ntmps31
                go_wp2_with fail
                (with_reducible refine (h1.out _).mono ?_)
                rintro e w1 ⟨rfl, hB1⟩
                have hblk1 := (hB1.block _ (Array.getElem?_eq_some_iff.1 hblk.out).1).trans hblk.out
                have e0 := cell_of (j := 0) hblk1 (v := .string (mkS p)) rfl
                have d1 := cell_of (j := 1) hblk1 rfl
                have d2 := cell_of (j := 2) hblk1 (v := .int .i64 sz) rfl
                have d3 := cell_of (j := 3) hblk1 (v := .int .i64 m1) rfl
                have d4 := cell_of (j := 4) hblk1 (v := .int .i64 m2) rfl
                have d5 := cell_of (j := 5) hblk1 (v := .int .i64 m3) rfl
                have d6 := cell_of (j := 6) hblk1 (v := .int .i64 m4) rfl
                have d7 := cell_of (j := 7) hblk1 (v := .int .i64 m5) rfl
                have d8 := cell_of (j := 8) hblk1 (v := .string (mkS tg)) rfl
                have d9 := cell_of (j := 9) hblk1 (v := .string (mkS sm)) rfl
                have d10 := cell_of (j := 10) hblk1 (v := .int .i64 gr) rfl
                have hB01 := below_step hB.out hB1
                replace hblk1 := Lib.hid hblk1
                replace hB01 := Lib.hid hB01
                clear hB1 d0
                go_upto_region 3 with fail
                go_quiet (fail)
                go_wp2_with fail
                (with_reducible refine (hm.out _).mono ?_)
                rintro e w2 ⟨rfl, hB2⟩
                have hblk2 := (hB2.block _ (Array.getElem?_eq_some_iff.1 hblk1.out).1).trans hblk1.out
                have hB02 := below_step (below_drewN hB01.out _) hB2
                clear e0 d1 d2 d3 d4 d5 d6 d7 d8 d9 d10 hB2
                have d1 := cell_of (j := 1) hblk2 rfl
                have d2 := cell_of (j := 2) hblk2 (v := .int .i64 sz) rfl
                have d3 := cell_of (j := 3) hblk2 (v := .int .i64 m1) rfl
                have d4 := cell_of (j := 4) hblk2 (v := .int .i64 m2) rfl
                have d5 := cell_of (j := 5) hblk2 (v := .int .i64 m3) rfl
                have d6 := cell_of (j := 6) hblk2 (v := .int .i64 m4) rfl
                have d7 := cell_of (j := 7) hblk2 (v := .int .i64 m5) rfl
                have d8 := cell_of (j := 8) hblk2 (v := .string (mkS tg)) rfl
                have d9 := cell_of (j := 9) hblk2 (v := .string (mkS sm)) rfl
                have d10 := cell_of (j := 10) hblk2 (v := .int .i64 gr) rfl
                replace hblk2 := Lib.hid hblk2
                replace hB02 := Lib.hid hB02
                go_wp2
                all_goals
                  go_ret
                  refine ⟨ret_int ?_, hB02.out⟩
                  have q1 := hl1.out
                  have q2 := hl2.out
                  rw [hE.out]
                  (try simp only [bne_iff_ne, ne_eq, bne_eq_false_iff_eq] at *)
                  first | (rw [if_pos (by omega)]; done) | (rw [if_neg (by omega)]; done)
              · rw [decide_eq_false hs0] at hse
                have hl2 : sm.length ≠ 0 := fun h => hs0 (len_nil.2 h)
                replace hs0 := Lib.hid hs0
                replace hl2 := Lib.hid hl2
                go_enter Try.func31, Try.ntmps31
                go_wp2_with fail
                (with_reducible refine (h1.out _).mono ?_)
                rintro e w1 ⟨rfl, hB1⟩
                have hblk1 := (hB1.block _ (Array.getElem?_eq_some_iff.1 hblk.out).1).trans hblk.out
                have e0 := cell_of (j := 0) hblk1 (v := .string (mkS p)) rfl
                have d1 := cell_of (j := 1) hblk1 rfl
                have d2 := cell_of (j := 2) hblk1 (v := .int .i64 sz) rfl
                have d3 := cell_of (j := 3) hblk1 (v := .int .i64 m1) rfl
                have d4 := cell_of (j := 4) hblk1 (v := .int .i64 m2) rfl
                have d5 := cell_of (j := 5) hblk1 (v := .int .i64 m3) rfl
                have d6 := cell_of (j := 6) hblk1 (v := .int .i64 m4) rfl
                have d7 := cell_of (j := 7) hblk1 (v := .int .i64 m5) rfl
                have d8 := cell_of (j := 8) hblk1 (v := .string (mkS tg)) rfl
                have d9 := cell_of (j := 9) hblk1 (v := .string (mkS sm)) rfl
                have d10 := cell_of (j := 10) hblk1 (v := .int .i64 gr) rfl
                have hB01 := below_step hB.out hB1
                replace hblk1 := Lib.hid hblk1
                replace hB01 := Lib.hid hB01
                clear hB1 d0
                go_upto_region 3 with fail
                go_quiet (fail)
                go_wp2_with fail
                (with_reducible refine (hm.out _).mono ?_)
                rintro e w2 ⟨rfl, hB2⟩
                have hblk2 := (hB2.block _ (Array.getElem?_eq_some_iff.1 hblk1.out).1).trans hblk1.out
                have hB02 := below_step (below_drewN hB01.out _) hB2
                clear e0 d1 d2 d3 d4 d5 d6 d7 d8 d9 d10 hB2
                have d1 := cell_of (j := 1) hblk2 rfl
                have d2 := cell_of (j := 2) hblk2 (v := .int .i64 sz) rfl
                have d3 := cell_of (j := 3) hblk2 (v := .int .i64 m1) rfl
                have d4 := cell_of (j := 4) hblk2 (v := .int .i64 m2) rfl
                have d5 := cell_of (j := 5) hblk2 (v := .int .i64 m3) rfl
                have d6 := cell_of (j := 6) hblk2 (v := .int .i64 m4) rfl
                have d7 := cell_of (j := 7) hblk2 (v := .int .i64 m5) rfl
                have d8 := cell_of (j := 8) hblk2 (v := .string (mkS tg)) rfl
                have d9 := cell_of (j := 9) hblk2 (v := .string (mkS sm)) rfl
                have d10 := cell_of (j := 10) hblk2 (v := .int .i64 gr) rfl
                replace hblk2 := Lib.hid hblk2
                replace hB02 := Lib.hid hB02
                go_wp2
                all_goals
                  go_ret
                  refine ⟨ret_int ?_, hB02.out⟩
                  have q1 := hl1.out
                  have q2 := hl2.out
                  rw [hE.out]
                  (try simp only [bne_iff_ne, ne_eq, bne_eq_false_iff_eq] at *)
                  first | (rw [if_pos (by omega)]; done) | (rw [if_neg (by omega)]; done)
            · rw [decide_eq_false ht0] at hte
              have hl1 : tg.length ≠ 0 := fun h => ht0 (len_nil.2 h)
              replace ht0 := Lib.hid ht0
              replace hl1 := Lib.hid hl1
              by_cases hs0 : sm = []
              · rw [decide_eq_true hs0] at hse
                have hl2 : sm.length = 0 := by rw [hs0]; rfl
                replace hs0 := Lib.hid hs0
                replace hl2 := Lib.hid hl2
                go_enter Try.func31, Try.ntmps31
                go_wp2_with fail
                (with_reducible refine (h1.out _).mono ?_)
                rintro e w1 ⟨rfl, hB1⟩
                have hblk1 := (hB1.block _ (Array.getElem?_eq_some_iff.1 hblk.out).1).trans hblk.out
                have e0 := cell_of (j := 0) hblk1 (v := .string (mkS p)) rfl
                have d1 := cell_of (j := 1) hblk1 rfl
                have d2 := cell_of (j := 2) hblk1 (v := .int .i64 sz) rfl
                have d3 := cell_of (j := 3) hblk1 (v := .int .i64 m1) rfl
                have d4 := cell_of (j := 4) hblk1 (v := .int .i64 m2) rfl
                have d5 := cell_of (j := 5) hblk1 (v := .int .i64 m3) rfl
                have d6 := cell_of (j := 6) hblk1 (v := .int .i64 m4) rfl
                have d7 := cell_of (j := 7) hblk1 (v := .int .i64 m5) rfl
                have d8 := cell_of (j := 8) hblk1 (v := .string (mkS tg)) rfl
                have d9 := cell_of (j := 9) hblk1 (v := .string (mkS sm)) rfl
                have d10 := cell_of (j := 10) hblk1 (v := .int .i64 gr) rfl
                have hB01 := below_step hB.out hB1
                replace hblk1 := Lib.hid hblk1
                replace hB01 := Lib.hid hB01
                clear hB1 d0
                go_upto_region 3 with fail
                go_quiet (fail)
                go_wp2_with fail
                (with_reducible refine (hm.out _).mono ?_)
                rintro e w2 ⟨rfl, hB2⟩
                have hblk2 := (hB2.block _ (Array.getElem?_eq_some_iff.1 hblk1.out).1).trans hblk1.out
                have hB02 := below_step (below_drewN hB01.out _) hB2
                clear e0 d1 d2 d3 d4 d5 d6 d7 d8 d9 d10 hB2
                have d1 := cell_of (j := 1) hblk2 rfl
                have d2 := cell_of (j := 2) hblk2 (v := .int .i64 sz) rfl
                have d3 := cell_of (j := 3) hblk2 (v := .int .i64 m1) rfl
                have d4 := cell_of (j := 4) hblk2 (v := .int .i64 m2) rfl
                have d5 := cell_of (j := 5) hblk2 (v := .int .i64 m3) rfl
                have d6 := cell_of (j := 6) hblk2 (v := .int .i64 m4) rfl
                have d7 := cell_of (j := 7) hblk2 (v := .int .i64 m5) rfl
                have d8 := cell_of (j := 8) hblk2 (v := .string (mkS tg)) rfl
                have d9 := cell_of (j := 9) hblk2 (v := .string (mkS sm)) rfl
                have d10 := cell_of (j := 10) hblk2 (v := .int .i64 gr) rfl
                replace hblk2 := Lib.hid hblk2
                replace hB02 := Lib.hid hB02
                go_wp2
                all_goals
                  go_ret
                  refine ⟨ret_int ?_, hB02.out⟩
                  have q1 := hl1.out
                  have q2 := hl2.out
                  rw [hE.out]
                  (try simp only [bne_iff_ne, ne_eq, bne_eq_false_iff_eq] at *)
                  first | (rw [if_pos (by omega)]; done) | (rw [if_neg (by omega)]; done)
              · rw [decide_eq_false hs0] at hse
                have hl2 : sm.length ≠ 0 := fun h => hs0 (len_nil.2 h)
                replace hs0 := Lib.hid hs0
                replace hl2 := Lib.hid hl2
                go_enter Try.func31, Try.ntmps31
                go_wp2_with fail
                (with_reducible refine (h1.out _).mono ?_)
                rintro e w1 ⟨rfl, hB1⟩
                have hblk1 := (hB1.block _ (Array.getElem?_eq_some_iff.1 hblk.out).1).trans hblk.out
                have e0 := cell_of (j := 0) hblk1 (v := .string (mkS p)) rfl
                have d1 := cell_of (j := 1) hblk1 rfl
                have d2 := cell_of (j := 2) hblk1 (v := .int .i64 sz) rfl
                have d3 := cell_of (j := 3) hblk1 (v := .int .i64 m1) rfl
                have d4 := cell_of (j := 4) hblk1 (v := .int .i64 m2) rfl
                have d5 := cell_of (j := 5) hblk1 (v := .int .i64 m3) rfl
                have d6 := cell_of (j := 6) hblk1 (v := .int .i64 m4) rfl
                have d7 := cell_of (j := 7) hblk1 (v := .int .i64 m5) rfl
                have d8 := cell_of (j := 8) hblk1 (v := .string (mkS tg)) rfl
                have d9 := cell_of (j := 9) hblk1 (v := .string (mkS sm)) rfl
                have d10 := cell_of (j := 10) hblk1 (v := .int .i64 gr) rfl
                have hB01 := below_step hB.out hB1
                replace hblk1 := Lib.hid hblk1
                replace hB01 := Lib.hid hB01
                clear hB1 d0
                go_upto_region 3 with fail
                go_quiet (fail)
                go_wp2_with fail
                (with_reducible refine (hm.out _).mono ?_)
                rintro e w2 ⟨rfl, hB2⟩
                have hblk2 := (hB2.block _ (Array.getElem?_eq_some_iff.1 hblk1.out).1).trans hblk1.out
                have hB02 := below_step (below_drewN hB01.out _) hB2
                clear e0 d1 d2 d3 d4 d5 d6 d7 d8 d9 d10 hB2
                have d1 := cell_of (j := 1) hblk2 rfl
                have d2 := cell_of (j := 2) hblk2 (v := .int .i64 sz) rfl
                have d3 := cell_of (j := 3) hblk2 (v := .int .i64 m1) rfl
                have d4 := cell_of (j := 4) hblk2 (v := .int .i64 m2) rfl
                have d5 := cell_of (j := 5) hblk2 (v := .int .i64 m3) rfl
                have d6 := cell_of (j := 6) hblk2 (v := .int .i64 m4) rfl
                have d7 := cell_of (j := 7) hblk2 (v := .int .i64 m5) rfl
                have d8 := cell_of (j := 8) hblk2 (v := .string (mkS tg)) rfl
                have d9 := cell_of (j := 9) hblk2 (v := .string (mkS sm)) rfl
                have d10 := cell_of (j := 10) hblk2 (v := .int .i64 gr) rfl
                replace hblk2 := Lib.hid hblk2
                replace hB02 := Lib.hid hB02
                go_wp2
                all_goals
                  go_ret
                  refine ⟨ret_int ?_, hB02.out⟩
                  have q1 := hl1.out
                  have q2 := hl2.out
                  rw [hE.out]
                  (try simp only [bne_iff_ne, ne_eq, bne_eq_false_iff_eq] at *)
                  first | (rw [if_pos (by omega)]; done) | (rw [if_neg (by omega)]; done)
        · by_cases hk3 : kd = 3
          · subst hk3
            have hE := k3.out rfl hp0 rfl
            replace hE := Lib.hid hE
            replace hp0 := Lib.hid hp0
            clear hk1 hk2
            cases mk with
            | false =>
              replace hte := Lib.hid hte
              replace hse := Lib.hid hse
              go_enter Try.func31, Try.ntmps31
              go_wp2_with fail
              (with_reducible refine (h1.out _).mono ?_)
              rintro e w1 ⟨rfl, hB1⟩
              have hblk1 := (hB1.block _ (Array.getElem?_eq_some_iff.1 hblk.out).1).trans hblk.out
              have e0 := cell_of (j := 0) hblk1 (v := .string (mkS p)) rfl
              have d1 := cell_of (j := 1) hblk1 rfl
              have d2 := cell_of (j := 2) hblk1 (v := .int .i64 sz) rfl
              have d3 := cell_of (j := 3) hblk1 (v := .int .i64 m1) rfl
              have d4 := cell_of (j := 4) hblk1 (v := .int .i64 m2) rfl
              have d5 := cell_of (j := 5) hblk1 (v := .int .i64 m3) rfl
              have d6 := cell_of (j := 6) hblk1 (v := .int .i64 m4) rfl
              have d7 := cell_of (j := 7) hblk1 (v := .int .i64 m5) rfl
              have d8 := cell_of (j := 8) hblk1 (v := .string (mkS tg)) rfl
              have d9 := cell_of (j := 9) hblk1 (v := .string (mkS sm)) rfl
              have d10 := cell_of (j := 10) hblk1 (v := .int .i64 gr) rfl
              have hB01 := below_step hB.out hB1
              replace hblk1 := Lib.hid hblk1
              replace hB01 := Lib.hid hB01
              clear hB1 d0
              go_upto_region 3 with fail
              go_quiet (fail)
              go_wp2_with fail
              (with_reducible refine (hm.out _).mono ?_)
              rintro e w2 ⟨rfl, hB2⟩
              have hB02 := below_step (below_drewN hB01.out _) hB2
              replace hB02 := Lib.hid hB02
              replace hB2 := Lib.hid hB2
              clear e0 d1 d2 d3 d4 d5 d6 d7 d8 d9 d10
              go_wp2
              go_ret
              exact ⟨ret_int (by rw [hE.out, if_pos (by simp)]), hB02.out⟩
            | true =>
              have hE := hE.out
              simp only [Bool.true_eq_false, false_or] at hE
              replace hE := Lib.hid hE
              by_cases ht0 : tg = []
              · rw [decide_eq_true ht0] at hte
                have hl1 : tg.length = 0 := by rw [ht0]; rfl
                replace ht0 := Lib.hid ht0
                replace hl1 := Lib.hid hl1
                by_cases hs0 : sm = []
                · rw [decide_eq_true hs0] at hse
                  have hl2 : sm.length = 0 := by rw [hs0]; rfl
                  replace hs0 := Lib.hid hs0
                  replace hl2 := Lib.hid hl2
                  go_enter Try.func31, Try.ntmps31
                  go_wp2_with fail
                  (with_reducible refine (h1.out _).mono ?_)
                  rintro e w1 ⟨rfl, hB1⟩
                  have hblk1 := (hB1.block _ (Array.getElem?_eq_some_iff.1 hblk.out).1).trans hblk.out
                  have e0 := cell_of (j := 0) hblk1 (v := .string (mkS p)) rfl
                  have d1 := cell_of (j := 1) hblk1 rfl
                  have d2 := cell_of (j := 2) hblk1 (v := .int .i64 sz) rfl
                  have d3 := cell_of (j := 3) hblk1 (v := .int .i64 m1) rfl
                  have d4 := cell_of (j := 4) hblk1 (v := .int .i64 m2) rfl
                  have d5 := cell_of (j := 5) hblk1 (v := .int .i64 m3) rfl
                  have d6 := cell_of (j := 6) hblk1 (v := .int .i64 m4) rfl
                  have d7 := cell_of (j := 7) hblk1 (v := .int .i64 m5) rfl
                  have d8 := cell_of (j := 8) hblk1 (v := .string (mkS tg)) rfl
                  have d9 := cell_of (j := 9) hblk1 (v := .string (mkS sm)) rfl
                  have d10 := cell_of (j := 10) hblk1 (v := .int .i64 gr) rfl
                  have hB01 := below_step hB.out hB1
                  replace hblk1 := Lib.hid hblk1
                  replace hB01 := Lib.hid hB01
                  clear hB1 d0
                  go_upto_region 3 with fail
                  go_quiet (fail)
                  go_wp2_with fail
                  (with_reducible refine (hm.out _).mono ?_)
                  rintro e w2 ⟨rfl, hB2⟩
                  have hblk2 := (hB2.block _ (Array.getElem?_eq_some_iff.1 hblk1.out).1).trans hblk1.out
                  have hB02 := below_step (below_drewN hB01.out _) hB2
                  clear e0 d1 d2 d3 d4 d5 d6 d7 d8 d9 d10 hB2
                  have d1 := cell_of (j := 1) hblk2 rfl
                  have d2 := cell_of (j := 2) hblk2 (v := .int .i64 sz) rfl
                  have d3 := cell_of (j := 3) hblk2 (v := .int .i64 m1) rfl
                  have d4 := cell_of (j := 4) hblk2 (v := .int .i64 m2) rfl
                  have d5 := cell_of (j := 5) hblk2 (v := .int .i64 m3) rfl
                  have d6 := cell_of (j := 6) hblk2 (v := .int .i64 m4) rfl
                  have d7 := cell_of (j := 7) hblk2 (v := .int .i64 m5) rfl
                  have d8 := cell_of (j := 8) hblk2 (v := .string (mkS tg)) rfl
                  have d9 := cell_of (j := 9) hblk2 (v := .string (mkS sm)) rfl
                  have d10 := cell_of (j := 10) hblk2 (v := .int .i64 gr) rfl
                  replace hblk2 := Lib.hid hblk2
                  replace hB02 := Lib.hid hB02
                  go_wp2
                  all_goals
                    go_ret
                    refine ⟨ret_int ?_, hB02.out⟩
                    have q1 := hl1.out
                    have q2 := hl2.out
                    rw [hE.out]
                    (try simp only [bne_iff_ne, ne_eq, bne_eq_false_iff_eq] at *)
                    first | (rw [if_pos (by omega)]; done) | (rw [if_neg (by omega)]; done)
                · rw [decide_eq_false hs0] at hse
                  have hl2 : sm.length ≠ 0 := fun h => hs0 (len_nil.2 h)
                  replace hs0 := Lib.hid hs0
                  replace hl2 := Lib.hid hl2
                  go_enter Try.func31, Try.ntmps31
                  go_wp2_with fail
                  (with_reducible refine (h1.out _).mono ?_)
                  rintro e w1 ⟨rfl, hB1⟩
                  have hblk1 := (hB1.block _ (Array.getElem?_eq_some_iff.1 hblk.out).1).trans hblk.out
                  have e0 := cell_of (j := 0) hblk1 (v := .string (mkS p)) rfl
                  have d1 := cell_of (j := 1) hblk1 rfl
                  have d2 := cell_of (j := 2) hblk1 (v := .int .i64 sz) rfl
                  have d3 := cell_of (j := 3) hblk1 (v := .int .i64 m1) rfl
                  have d4 := cell_of (j := 4) hblk1 (v := .int .i64 m2) rfl
                  have d5 := cell_of (j := 5) hblk1 (v := .int .i64 m3) rfl
                  have d6 := cell_of (j := 6) hblk1 (v := .int .i64 m4) rfl
                  have d7 := cell_of (j := 7) hblk1 (v := .int .i64 m5) rfl
                  have d8 := cell_of (j := 8) hblk1 (v := .string (mkS tg)) rfl
                  have d9 := cell_of (j := 9) hblk1 (v := .string (mkS sm)) rfl
                  have d10 := cell_of (j := 10) hblk1 (v := .int .i64 gr) rfl
                  have hB01 := below_step hB.out hB1
                  replace hblk1 := Lib.hid hblk1
                  replace hB01 := Lib.hid hB01
                  clear hB1 d0
                  go_upto_region 3 with fail
                  go_quiet (fail)
                  go_wp2_with fail
                  (with_reducible refine (hm.out _).mono ?_)
                  rintro e w2 ⟨rfl, hB2⟩
                  have hblk2 := (hB2.block _ (Array.getElem?_eq_some_iff.1 hblk1.out).1).trans hblk1.out
                  have hB02 := below_step (below_drewN hB01.out _) hB2
                  clear e0 d1 d2 d3 d4 d5 d6 d7 d8 d9 d10 hB2
                  have d1 := cell_of (j := 1) hblk2 rfl
                  have d2 := cell_of (j := 2) hblk2 (v := .int .i64 sz) rfl
                  have d3 := cell_of (j := 3) hblk2 (v := .int .i64 m1) rfl
                  have d4 := cell_of (j := 4) hblk2 (v := .int .i64 m2) rfl
                  have d5 := cell_of (j := 5) hblk2 (v := .int .i64 m3) rfl
                  have d6 := cell_of (j := 6) hblk2 (v := .int .i64 m4) rfl
                  have d7 := cell_of (j := 7) hblk2 (v := .int .i64 m5) rfl
                  have d8 := cell_of (j := 8) hblk2 (v := .string (mkS tg)) rfl
                  have d9 := cell_of (j := 9) hblk2 (v := .string (mkS sm)) rfl
                  have d10 := cell_of (j := 10) hblk2 (v := .int .i64 gr) rfl
                  replace hblk2 := Lib.hid hblk2
                  replace hB02 := Lib.hid hB02
                  go_wp2
                  all_goals
                    go_ret
                    refine ⟨ret_int ?_, hB02.out⟩
                    have q1 := hl1.out
                    have q2 := hl2.out
                    rw [hE.out]
                    (try simp only [bne_iff_ne, ne_eq, bne_eq_false_iff_eq] at *)
                    first | (rw [if_pos (by omega)]; done) | (rw [if_neg (by omega)]; done)
              · rw [decide_eq_false ht0] at hte
                have hl1 : tg.length ≠ 0 := fun h => ht0 (len_nil.2 h)
                replace ht0 := Lib.hid ht0
                replace hl1 := Lib.hid hl1
                by_cases hs0 : sm = []
                · rw [decide_eq_true hs0] at hse
                  have hl2 : sm.length = 0 := by rw [hs0]; rfl
                  replace hs0 := Lib.hid hs0
                  replace hl2 := Lib.hid hl2
                  go_enter Try.func31, Try.ntmps31
                  go_wp2_with fail
                  (with_reducible refine (h1.out _).mono ?_)
                  rintro e w1 ⟨rfl, hB1⟩
                  have hblk1 := (hB1.block _ (Array.getElem?_eq_some_iff.1 hblk.out).1).trans hblk.out
                  have e0 := cell_of (j := 0) hblk1 (v := .string (mkS p)) rfl
                  have d1 := cell_of (j := 1) hblk1 rfl
                  have d2 := cell_of (j := 2) hblk1 (v := .int .i64 sz) rfl
                  have d3 := cell_of (j := 3) hblk1 (v := .int .i64 m1) rfl
                  have d4 := cell_of (j := 4) hblk1 (v := .int .i64 m2) rfl
                  have d5 := cell_of (j := 5) hblk1 (v := .int .i64 m3) rfl
                  have d6 := cell_of (j := 6) hblk1 (v := .int .i64 m4) rfl
                  have d7 := cell_of (j := 7) hblk1 (v := .int .i64 m5) rfl
                  have d8 := cell_of (j := 8) hblk1 (v := .string (mkS tg)) rfl
                  have d9 := cell_of (j := 9) hblk1 (v := .string (mkS sm)) rfl
                  have d10 := cell_of (j := 10) hblk1 (v := .int .i64 gr) rfl
                  have hB01 := below_step hB.out hB1
                  replace hblk1 := Lib.hid hblk1
                  replace hB01 := Lib.hid hB01
                  clear hB1 d0
                  go_upto_region 3 with fail
                  go_quiet (fail)
                  go_wp2_with fail
                  (with_reducible refine (hm.out _).mono ?_)
                  rintro e w2 ⟨rfl, hB2⟩
                  have hblk2 := (hB2.block _ (Array.getElem?_eq_some_iff.1 hblk1.out).1).trans hblk1.out
                  have hB02 := below_step (below_drewN hB01.out _) hB2
                  clear e0 d1 d2 d3 d4 d5 d6 d7 d8 d9 d10 hB2
                  have d1 := cell_of (j := 1) hblk2 rfl
                  have d2 := cell_of (j := 2) hblk2 (v := .int .i64 sz) rfl
                  have d3 := cell_of (j := 3) hblk2 (v := .int .i64 m1) rfl
                  have d4 := cell_of (j := 4) hblk2 (v := .int .i64 m2) rfl
                  have d5 := cell_of (j := 5) hblk2 (v := .int .i64 m3) rfl
                  have d6 := cell_of (j := 6) hblk2 (v := .int .i64 m4) rfl
                  have d7 := cell_of (j := 7) hblk2 (v := .int .i64 m5) rfl
                  have d8 := cell_of (j := 8) hblk2 (v := .string (mkS tg)) rfl
                  have d9 := cell_of (j := 9) hblk2 (v := .string (mkS sm)) rfl
                  have d10 := cell_of (j := 10) hblk2 (v := .int .i64 gr) rfl
                  replace hblk2 := Lib.hid hblk2
                  replace hB02 := Lib.hid hB02
                  go_wp2
                  all_goals
                    go_ret
                    refine ⟨ret_int ?_, hB02.out⟩
                    have q1 := hl1.out
                    have q2 := hl2.out
                    rw [hE.out]
                    (try simp only [bne_iff_ne, ne_eq, bne_eq_false_iff_eq] at *)
                    first | (rw [if_pos (by omega)]; done) | (rw [if_neg (by omega)]; done)
                · rw [decide_eq_false hs0] at hse
                  have hl2 : sm.length ≠ 0 := fun h => hs0 (len_nil.2 h)
                  replace hs0 := Lib.hid hs0
                  replace hl2 := Lib.hid hl2
                  go_enter Try.func31, Try.ntmps31
                  go_wp2_with fail
                  (with_reducible refine (h1.out _).mono ?_)
                  rintro e w1 ⟨rfl, hB1⟩
                  have hblk1 := (hB1.block _ (Array.getElem?_eq_some_iff.1 hblk.out).1).trans hblk.out
                  have e0 := cell_of (j := 0) hblk1 (v := .string (mkS p)) rfl
                  have d1 := cell_of (j := 1) hblk1 rfl
                  have d2 := cell_of (j := 2) hblk1 (v := .int .i64 sz) rfl
                  have d3 := cell_of (j := 3) hblk1 (v := .int .i64 m1) rfl
                  have d4 := cell_of (j := 4) hblk1 (v := .int .i64 m2) rfl
                  have d5 := cell_of (j := 5) hblk1 (v := .int .i64 m3) rfl
                  have d6 := cell_of (j := 6) hblk1 (v := .int .i64 m4) rfl
                  have d7 := cell_of (j := 7) hblk1 (v := .int .i64 m5) rfl
                  have d8 := cell_of (j := 8) hblk1 (v := .string (mkS tg)) rfl
                  have d9 := cell_of (j := 9) hblk1 (v := .string (mkS sm)) rfl
                  have d10 := cell_of (j := 10) hblk1 (v := .int .i64 gr) rfl
                  have hB01 := below_step hB.out hB1
                  replace hblk1 := Lib.hid hblk1
                  replace hB01 := Lib.hid hB01
                  clear hB1 d0
                  go_upto_region 3 with fail
                  go_quiet (fail)
                  go_wp2_with fail
                  (with_reducible refine (hm.out _).mono ?_)
                  rintro e w2 ⟨rfl, hB2⟩
                  have hblk2 := (hB2.block _ (Array.getElem?_eq_some_iff.1 hblk1.out).1).trans hblk1.out
                  have hB02 := below_step (below_drewN hB01.out _) hB2
                  clear e0 d1 d2 d3 d4 d5 d6 d7 d8 d9 d10 hB2
                  have d1 := cell_of (j := 1) hblk2 rfl
                  have d2 := cell_of (j := 2) hblk2 (v := .int .i64 sz) rfl
                  have d3 := cell_of (j := 3) hblk2 (v := .int .i64 m1) rfl
                  have d4 := cell_of (j := 4) hblk2 (v := .int .i64 m2) rfl
                  have d5 := cell_of (j := 5) hblk2 (v := .int .i64 m3) rfl
                  have d6 := cell_of (j := 6) hblk2 (v := .int .i64 m4) rfl
                  have d7 := cell_of (j := 7) hblk2 (v := .int .i64 m5) rfl
                  have d8 := cell_of (j := 8) hblk2 (v := .string (mkS tg)) rfl
                  have d9 := cell_of (j := 9) hblk2 (v := .string (mkS sm)) rfl
                  have d10 := cell_of (j := 10) hblk2 (v := .int .i64 gr) rfl
                  replace hblk2 := Lib.hid hblk2
                  replace hB02 := Lib.hid hB02
                  go_wp2
                  all_goals
                    go_ret
                    refine ⟨ret_int ?_, hB02.out⟩
                    have q1 := hl1.out
                    have q2 := hl2.out
                    rw [hE.out]
                    (try simp only [bne_iff_ne, ne_eq, bne_eq_false_iff_eq] at *)
                    first | (rw [if_pos (by omega)]; done) | (rw [if_neg (by omega)]; done)
          · have hE := kk.out rfl hp0 hk1 hk2 hk3
            have z1 : (kd == 1) = false := by simpa using hk1
            have z3 : (kd == 3) = false := by simpa using hk3
            have z2 : (kd != 2) = true := by simpa using hk2
            replace hE := Lib.hid hE
            replace hp0 := Lib.hid hp0
            replace hk1 := Lib.hid hk1
            replace hk2 := Lib.hid hk2
            replace hk3 := Lib.hid hk3
            replace hte := Lib.hid hte
            replace hse := Lib.hid hse
            go_enter Try.func31, Try.ntmps31
            go_wp2_with fail
            (with_reducible refine (h1.out _).mono ?_)
            rintro e w1 ⟨rfl, hB1⟩
            have hblk1 := (hB1.block _ (Array.getElem?_eq_some_iff.1 hblk.out).1).trans hblk.out
            have e0 := cell_of (j := 0) hblk1 (v := .string (mkS p)) rfl
            have d1 := cell_of (j := 1) hblk1 rfl
            have d2 := cell_of (j := 2) hblk1 (v := .int .i64 sz) rfl
            have d3 := cell_of (j := 3) hblk1 (v := .int .i64 m1) rfl
            have d4 := cell_of (j := 4) hblk1 (v := .int .i64 m2) rfl
            have d5 := cell_of (j := 5) hblk1 (v := .int .i64 m3) rfl
            have d6 := cell_of (j := 6) hblk1 (v := .int .i64 m4) rfl
            have d7 := cell_of (j := 7) hblk1 (v := .int .i64 m5) rfl
            have d8 := cell_of (j := 8) hblk1 (v := .string (mkS tg)) rfl
            have d9 := cell_of (j := 9) hblk1 (v := .string (mkS sm)) rfl
            have d10 := cell_of (j := 10) hblk1 (v := .int .i64 gr) rfl
            have hB01 := below_step hB.out hB1
            replace hblk1 := Lib.hid hblk1
            replace hB01 := Lib.hid hB01
            clear hB1 d0
            go_upto_region 3 with fail
            go_quiet (fail)
            go_wp2
            go_ret
            exact ⟨ret_int hE.out.symm, below_drewN hB01.out _⟩

end Go.Proofs.Ytcjlfkklpghjbaa
