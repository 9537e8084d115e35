/-
  snap.Prune.
  snap.Shared.
  Metas stay within their bounds, whatever is done.
  Sorts that compute, and with them what snapshots tell of an example.
  remoralaw42.awake: the chapter's example.
  Takes, prunes and questions as an argument.
  remoralaw42.light, texts.
  All of what stands below a name is laid: the plain law.
  What a Take that succeeds has done: the plain law.
  A tree that has just been built is small.
  Images: what stands below a name is what stands below another one; a snapshot is restored as it was.
  What is taken right behind itself shares all its files: the plain law.
  Two Takes of the same tree, right behind one another: the plain law.
  Two Takes of the same tree: what is told of them.
-/
import Derived.Test.YtocbjhhnginebaaGreatB5
import Derived.BigQuiet
import Derived.Test.YtocbjhhnginebaaGreatB4
import Derived.Deep.RegionHeldLaw
set_option linter.unusedVariables false
set_option linter.unusedSimpArgs false

namespace Go.Proofs.YtocbjhhnginebaaGreat
open Go.RowKit

theorem remove_bl (tb : Nat) (A M : Nat → Nat) (T : Fs) (s : Bytes) (w : World) (hR : Rep w tb A M T) (hs : s.length ≤ 16777216) (hf : T.names.length ≤ 1000000) :
    Calls Tryz.prog 43 #[ptr tb, .string (mkS s)] w fun e w' => e = .returned (.int .i64 (T.remove s).2) ∧ Stp w w' tb A M T (T.remove s).1 := by
  have h := remove_calls tb A M T (mkS s) w hR (by rw [mkS_size]; exact hs) hf
  rwa [bl_mkS] at h

/-- Does a snapshot stay? -/
def stays (n : Nat) (newest every : Int) (k : Nat) (y : Sh.Shot) : Bool := decide ((n : Int) - newest ≤ k) || (decide (0 < every) && decide (y.2 % every = 0))
def removeAll (V : Fs) (l : List Bytes) : Fs := l.foldr (fun p V => (V.remove p).1) V
def pruneOne (V : Fs) (x : Bytes) : Fs := ((removeAll V (V.belowS x)).remove x).1
def pruneK (L : List Sh.Shot) (newest every : Int) (V : Fs) : Nat → Fs × List Bytes
  | 0 => (V, [])
  | k + 1 => match L[k]? with
    | some y => if stays L.length newest every k y = true then pruneK L newest every V k else (pruneOne (pruneK L newest every V k).1 y.1, (pruneK L newest every V k).2 ++ [y.1])
    | none => pruneK L newest every V k
def pruneE (V : Fs) (newest every : Int) : Fs × List Bytes × Int :=
  if newest < 0 ∨ every < 0 then (V, [], 2) else ((pruneK V.shots newest every V V.shots.length).1, (pruneK V.shots newest every V V.shots.length).2, 0)

theorem remove_few (V : Fs) (s : Bytes) : (V.remove s).1.names.length ≤ V.names.length := by
  unfold Fs.remove
  (repeat' split)
  all_goals first | exact Nat.le_refl _ | exact gone_few V _ _
theorem removeAll_few (V : Fs) : ∀ l : List Bytes, (removeAll V l).names.length ≤ V.names.length
  | [] => Nat.le_refl _
  | p :: l => Nat.le_trans (remove_few _ p) (removeAll_few V l)
theorem removeAll_drop (V : Fs) {l : List Bytes} {j : Nat} (hj : j < l.length) : removeAll V (l.drop j) = ((removeAll V (l.drop (j + 1))).remove l[j]).1 := by
  rw [List.drop_eq_getElem_cons hj]; rfl
theorem pruneOne_few (V : Fs) (x : Bytes) : (pruneOne V x).names.length ≤ V.names.length := Nat.le_trans (remove_few _ _) (removeAll_few V _)
theorem pruneK_few (L : List Sh.Shot) (newest every : Int) (V : Fs) : ∀ k, (pruneK L newest every V k).1.names.length ≤ V.names.length ∧ (pruneK L newest every V k).2.length ≤ k
  | 0 => ⟨Nat.le_refl _, Nat.le_refl _⟩
  | k + 1 => by
    obtain ⟨h1, h2⟩ := pruneK_few L newest every V k
    unfold pruneK
    split
    · split
      · exact ⟨h1, by omega⟩
      · exact ⟨Nat.le_trans (pruneOne_few _ _) h1, by simp; omega⟩
    · exact ⟨h1, by omega⟩
theorem pruneK_stay {L : List Sh.Shot} {newest every : Int} {V : Fs} {k : Nat} (hk : k < L.length) (h : stays L.length newest every k L[k] = true) : pruneK L newest every V (k + 1) = pruneK L newest every V k := by
  unfold pruneK
  rw [List.getElem?_eq_getElem hk]
  dsimp only
  rw [if_pos h]
  cases k <;> rfl
theorem pruneK_go {L : List Sh.Shot} {newest every : Int} {V : Fs} {k : Nat} (hk : k < L.length) (h : stays L.length newest every k L[k] = false) : pruneK L newest every V (k + 1) = (pruneOne (pruneK L newest every V k).1 L[k].1, (pruneK L newest every V k).2 ++ [L[k].1]) := by
  rw [pruneK]
  rw [List.getElem?_eq_getElem hk]
  dsimp only
  rw [if_neg (by rw [h]; decide)]

section
variable {w w1 w' : World} {tb : Nat} {A M : Nat → Nat} {T T1 : Fs}
theorem Stp.keeps (hR : Rep w tb A M T) (hs : Stp w w' tb A M T T1) {g : Nat} {cs : Array Value} {t : TypeId} {f : Nat × Nat} (hg : w.heap[g]? = some (.cells cs t f)) (h1 : t ≠ 90) (h2 : t ≠ 110) : w'.heap[g]? = w.heap[g]? := by
  obtain ⟨_, _, _, ht, _⟩ := hs
  exact ht.block g (Array.getElem?_eq_some_iff.1 hg).1 (hR.not_own hg h1 h2)
theorem Stp.then (h : Stp w w1 tb A M T T1) (hb : Below w1.heap.size w1 w') : Stp w w' tb A M T T1 := by
  obtain ⟨A', M', h1, h2, h3⟩ := h
  exact ⟨A', M', h1.below hb, h2.trans (Turn.of_below hb _), h3⟩
/-- A row of texts grows. -/
theorem Rep.grown_strs (hR : Rep w tb A M T) {B : Nat} {v : Value} {l : List Bytes} (hv : Strs B w v l) (hg : w.grownBy w' v.ownBlock) : Rep w' tb A M T := by
  have hno : ∀ (g : Nat) (cs : Array Value) (t : TypeId) (f : Nat × Nat), w.heap[g]? = some (.cells cs t f) → t ≠ 9 → some g ≠ v.ownBlock := fun g cs t f h1 h2 e => by
    rcases hv.2 with ⟨rfl, _⟩ | ⟨k, cap, cur, rfl, _, h3, _⟩
    · cases e
    · cases e
      rw [h1] at h3
      cases h3
      exact h2 rfl
  refine hR.kept (fun b hb => hg.block b (hR.lt hb) fun e => ?_) (fun g ⟨cs, h⟩ => hg.block g (Array.getElem?_eq_some_iff.1 h).1 (hno g _ _ _ h (by decide)))
  rcases hv.2 with ⟨rfl, _⟩ | ⟨k, cap, cur, rfl, _, h3, _⟩
  · cases e
  · cases e
    exact hR.not_own h3 (by decide) (by decide) hb
theorem Stp.grown (h : Stp w w1 tb A M T T1) {v : Value} {l : List Bytes} (hv : Strs w.heap.size w1 v l) (hg : w1.grownBy w' v.ownBlock) : Stp w w' tb A M T T1 := by
  obtain ⟨A', M', h1, h2, h3⟩ := h
  refine ⟨A', M', h1.grown_strs hv hg, h2.trans (Turn.of_grown hg fun j e => Or.inr (own_base hv j e)), h3⟩
theorem Strs.stp (hR : Rep w tb A M T) (hs : Stp w w' tb A M T T1) {B : Nat} {v : Value} {l : List Bytes} (hv : Strs B w v l) : Strs B w' v l :=
  Strs.of_strs hv fun g cs hg => hs.keeps hR hg (by decide) (by decide)
theorem Shots.stp (hR : Rep w tb A M T) (hs : Stp w w' tb A M T T1) {B : Nat} {v : Value} {l : List Sh.Shot} (hv : Shots B w v l) : Shots B w' v l := by
  obtain ⟨h1, h2⟩ := hv
  refine ⟨h1, ?_⟩
  rcases h2 with k | ⟨g, cap, cur, e1, e2, e3, e4⟩
  · exact Or.inl k
  · exact Or.inr ⟨g, cap, cur, e1, e2, (hs.keeps hR e3 (by decide) (by decide)).trans e3, e4⟩
end

set_option maxHeartbeats 2000000 in
set_option maxRecDepth 100000 in
theorem prune_nil (a b : Int) (w : World) : Calls Tryz.prog 15 #[.pointer none, .int .i64 a, .int .i64 b] w fun e w' => e = .returned (.tuple #[.slice none 0 0, .int .i64 1]) ∧ w = w' := by
  go_enter Tryz.func15, Tryz.ntmps15
  go_wp2
  go_ret2
  exact ⟨rfl, rfl⟩

def PruneRes (tb : Nat) (A M : Nat → Nat) (V : Fs) (newest every : Int) (w : World) (e : Ending) (w' : World) : Prop :=
  ∃ v', e = .returned (.tuple #[v', .int .i64 (pruneE V newest every).2.2]) ∧ Strs w.heap.size w' v' (pruneE V newest every).2.1 ∧ Stp w w' tb A M V (pruneE V newest every).1

set_option maxHeartbeats 8000000 in
set_option maxRecDepth 100000 in
theorem prune_calls (tb : Nat) (A M : Nat → Nat) (V : Fs) (newest every : Int) (w : World) (hR : Rep w tb A M V) (hM : MtAll V) (hf : V.names.length ≤ 500000) (hn : newest ≤ 9223372036854775807) :
    Calls Tryz.prog 15 #[ptr tb, .int .i64 newest, .int .i64 every] w (PruneRes tb A M V newest every w) := by
  have hE : pruneE V newest every = if newest < 0 ∨ every < 0 then (V, [], 2) else ((pruneK V.shots newest every V V.shots.length).1, (pruneK V.shots newest every V V.shots.length).2, 0) := rfl
  have hsame := Stp.same hR (Below.refl w.heap.size w)
  have h1 := shots_calls tb A M V w hR hM (by omega)
  have hlen : V.shots.length ≤ 500000 := Nat.le_trans (shots_few hR.inv) hf
  have hys := fun y hy => shots_short hR.inv (y := y) hy
  have hyo : ∀ y ∈ V.shots, 1 ≤ y.2 ∧ y.2 ≤ 1099511627776 := fun y hy => shotOf_ok hM (shots_mem.1 hy).2
  have hfw := fun k => pruneK_few V.shots newest every V k
  have hst := fun k hk h => pruneK_stay (newest := newest) (every := every) (V := V) (L := V.shots) (k := k) hk h
  have hgo := fun k hk h => pruneK_go (newest := newest) (every := every) (V := V) (L := V.shots) (k := k) hk h
  have hPR : PruneRes tb A M V newest every w = fun e w' => ∃ v', e = .returned (.tuple #[v', .int .i64 (pruneE V newest every).2.2]) ∧ Strs w.heap.size w' v' (pruneE V newest every).2.1 ∧ Stp w w' tb A M V (pruneE V newest every).1 := rfl
  generalize pruneE V newest every = pe at *
  generalize V.shots = L at *
  have hnil : Strs w.heap.size w (.slice none 0 0) [] := World.ownsRow_nil _ _ _ _
  unfold ptr at *
  replace hR := Lib.hid hR
  replace hM := Lib.hid hM
  replace h1 := Lib.hid h1
  replace hys := Lib.hid hys
  replace hyo := Lib.hid hyo
  replace hfw := Lib.hid hfw
  replace hst := Lib.hid hst
  replace hgo := Lib.hid hgo
  replace hE := Lib.hid hE
  replace hsame := Lib.hid hsame
  replace hPR := Lib.hid hPR
  replace hnil := Lib.hid hnil
  by_cases c1 : newest < 0
  · have hE := hE.out
    rw [if_pos (Or.inl c1)] at hE
    subst hE
    go_enter Tryz.func15, Tryz.ntmps15
    go_wp2
    go_ret2
    rw [hPR.out]
    exact ⟨_, rfl, hnil.out, hsame.out⟩
  · by_cases c2 : every < 0
    · have hE := hE.out
      rw [if_pos (Or.inr c2)] at hE
      subst hE
      go_enter Tryz.func15, Tryz.ntmps15
      go_wp2
      go_ret2
      rw [hPR.out]
      exact ⟨_, rfl, hnil.out, hsame.out⟩
    · have hE := hE.out
      rw [if_neg (by omega)] at hE
      replace hE := Lib.hid hE
      go_enter Tryz.func15, Tryz.ntmps15
      go_wp2_with fail
      (with_reducible refine (h1.out).mono ?_)
      rintro e w1 ⟨⟨v1, rfl, hS1⟩, hB1⟩
      obtain ⟨sA, sc, rfl, hs1, hs2⟩ := hS1.rd.shape
      unfold maxLen at hs2
      have hR1 := hR.out.below hB1
      have hs0 := Stp.same hR1 (Below.refl w1.heap.size w1)
      have hnil1 : Strs w1.heap.size w1 (.slice none 0 0) [] := World.ownsRow_nil _ _ _ _
      replace hS1 := Lib.hid hS1
      replace hB1 := Lib.hid hB1
      replace hR1 := Lib.hid hR1
      replace hs0 := Lib.hid hs0
      replace hnil1 := Lib.hid hnil1
      go_wp2_with fail
      go_loopw [8, 28] (fun o i wr => ∃ k : Nat, i = .int .i64 k ∧ k ≤ L.length ∧ Stp w1 wr tb A M V (pruneK L newest every V k).1 ∧ Strs w1.heap.size wr o (pruneK L newest every V k).2) (fun _ i _ => L.length - (intOf i).toNat)
      case atStart => exact ⟨0, rfl, Nat.zero_le _, hs0.out, hnil1.out⟩
      case round =>
        obtain ⟨k, rfl, hk, hs, hO⟩ := hrel
        by_cases hlt : k < L.length
        · obtain ⟨A1, M1, hRr, htr, hor⟩ := id hs
          have hSw := Shots.stp hR1.out hs hS1.out
          obtain ⟨g, o, rfl, r1, r2⟩ := hSw.rd.at hlt
          have hyk := hys.out _ (List.getElem_mem hlt)
          obtain ⟨hn1, hn2⟩ := hyo.out _ (List.getElem_mem hlt)
          have hst' := hst.out k hlt
          have hgo' := hgo.out k hlt
          obtain ⟨f1, f2⟩ := hfw.out k
          have hsy : stays L.length newest every k L[k] = (decide ((L.length : Int) - newest ≤ k) || (decide (0 < every) && decide (L[k].2 % every = 0))) := rfl
          generalize stays L.length newest every k L[k] = sy at *
          generalize L[k] = y at *
          obtain ⟨q, n⟩ := y
          generalize hP2 : pruneK L newest every V (k + 1) = P2 at *
          generalize pruneK L newest every V k = P at *
          obtain ⟨V1, row⟩ := P
          dsimp only at *
          obtain ⟨oA, oc, ho, ho1, ho2⟩ := own_shape hO.own
          subst ho
          unfold maxLen at ho2
          have hki : (k : Int) < (L.length : Int) := by omega
          have hwx : IntKind.i64.wrap ((L.length : Int) - newest) = (L.length : Int) - newest := IntWalk.i64_in _ (by omega)
          have hBa := below_alloc (Below.refl wr.heap.size wr) (.cells #[.string (mkS q), .int .i64 n] 77)
          have hbk := heap_alloc_new wr (.cells #[.string (mkS q), .int .i64 n] 77)
          have b0 := cell_of (j := 0) (v := .string (mkS q)) hbk rfl
          have b1 := cell_of (j := 1) (v := .int .i64 n) hbk rfl
          clear hSw
          replace hRr := Lib.hid hRr
          replace htr := Lib.hid htr
          replace hor := Lib.hid hor
          replace hst' := Lib.hid hst'
          replace hgo' := Lib.hid hgo'
          replace hsy := Lib.hid hsy
          replace hO := Lib.hid hO
          replace hs := Lib.hid hs
          replace hBa := Lib.hid hBa
          replace hbk := Lib.hid hbk
          replace hP2 := Lib.hid hP2
          go_upto_region 10 with fail
          generalize (wr.alloc (.cells #[.string (mkS q), .int .i64 n] 77)) = w3 at *
          clear r1 r2
          have hs3 := hs.out.then hBa.out
          have hO3 := own_below hO.out hBa.out
          replace hs3 := Lib.hid hs3
          replace hO3 := Lib.hid hO3
          go_cut [49] (fun c W => c = .bool sy ∧ w3 = W)
          case first =>
            by_cases d1 : (L.length : Int) - newest ≤ (k : Int)
            · have hsy := hsy.out
              rw [decide_eq_true d1, Bool.true_or] at hsy
              replace hsy := Lib.hid hsy
              go_wp2
              go_meet
              exact ⟨by rw [hsy.out], rfl⟩
            · have hsy := hsy.out
              rw [decide_eq_false d1, Bool.false_or] at hsy
              by_cases d2 : 0 < every
              · rw [decide_eq_true d2, Bool.true_and] at hsy
                have t5 : (n % every == 0) = sy := by rw [hsy]; by_cases h : n % every = 0 <;> simp [h]
                have t6 : n.tmod every = n % every := Int.tmod_eq_emod_of_nonneg (by omega)
                have d1' : (k : Int) < (L.length : Int) - newest := by omega
                replace hsy := Lib.hid hsy
                go_wp2
                go_meet
                exact ⟨rfl, rfl⟩
              · rw [decide_eq_false d2, Bool.false_and] at hsy
                subst hsy
                have d1' : (k : Int) < (L.length : Int) - newest := by omega
                go_wp2
                go_meet
                exact ⟨rfl, rfl⟩
          case rest =>
            obtain ⟨rfl, rfl⟩ := hcut
            cases hsb : sy
            · have hP := hgo'.out hsb
              have hbl := below_calls tb A1 M1 V1 q w3 (hRr.out.below hBa.out) (by omega) (by omega)
              have hR3 := hRr.out.below hBa.out
              have hI1 := hR3.inv
              have hfw1 := removeAll_few V1
              unfold ptr at hbl
              replace hP := Lib.hid hP
              replace hbl := Lib.hid hbl
              replace hR3 := Lib.hid hR3
              replace hI1 := Lib.hid hI1
              replace hfw1 := Lib.hid hfw1
              clear hst' hgo'
              go_wp2_with fail
              (with_reducible refine (hbl.out).mono ?_)
              rintro e w4 ⟨⟨va, rfl, hSa⟩, hB4⟩
              obtain ⟨aA, ac, rfl, ha1, ha2⟩ := own_shape hSa.own
              have hps := fun p hp => belowS_short hI1.out (top := q) (p := p) hp
              have hpf := belowS_few (S := V1) (top := q)
              have hR4 := hR3.out.below hB4
              have hb4 := (hB4.block wr.heap.size (Array.getElem?_eq_some_iff.1 (hbk.out)).1).trans hbk.out
              have hO4 := own_below hO3.out hB4
              have hs4 := hs3.out.then hB4
              have hst4 := Stp.same hR4 (Below.refl w4.heap.size w4)
              have hP1 : pruneOne V1 q = ((removeAll V1 (V1.belowS q)).remove q).1 := rfl
              generalize V1.belowS q = BL at *
              have hwn : IntKind.i64.wrap ((BL.length : Int) - 1) = (BL.length : Int) - 1 := IntWalk.i64_in _ (by omega)
              have hdr := fun j h => removeAll_drop V1 (l := BL) (j := j) h
              unfold maxLen at ha2
              clear b0 b1
              replace hSa := Lib.hid hSa
              replace hB4 := Lib.hid hB4
              replace hps := Lib.hid hps
              replace hpf := Lib.hid hpf
              replace hR4 := Lib.hid hR4
              replace hb4 := Lib.hid hb4
              replace hO4 := Lib.hid hO4
              replace hs4 := Lib.hid hs4
              replace hst4 := Lib.hid hst4
              replace hP1 := Lib.hid hP1
              replace hdr := Lib.hid hdr
              go_wp2_with fail
              clear hwx
              obtain ⟨wo, hwo⟩ : ∃ wo, wo = w4 := ⟨_, rfl⟩
              subst hwo
              have hBwo := below_step hBa.out hB4.out
              have hto := htr.out.trans (Turn.of_below (hBwo) _)
              have hsz := hBwo.size
              replace hto := Lib.hid hto
              replace hBwo := Lib.hid hBwo
              obtain ⟨wq, hwq⟩ : ∃ wq, wq = wr := ⟨_, rfl⟩
              subst hwq
              go_loopw [13] (fun i wr2 => ∃ j : Nat, i = .int .i64 ((j : Int) - 1) ∧ j ≤ BL.length ∧ Stp wo wr2 tb A1 M1 V1 (removeAll V1 (BL.drop j))) (fun i _ => (intOf i + 1).toNat)
              case atStart => exact ⟨BL.length, rfl, Nat.le_refl _, by rw [List.drop_length]; exact hst4.out⟩
              case round =>
                obtain ⟨j, rfl, hj, hs5⟩ := hrel
                by_cases hj0 : 0 < j
                · obtain ⟨m, hm⟩ : ∃ m, j = m + 1 := ⟨j - 1, by omega⟩
                  have hji : (j : Int) - 1 = (m : Int) := by omega
                  obtain ⟨A2, M2, hR5, ht5, ho5⟩ := id hs5
                  have hml : m < BL.length := by omega
                  have hSr := Strs.stp hR4.out hs5 hSa.out
                  obtain ⟨ga, oa, rfl, c1⟩ := (Strs.rd hSr).cell hml
                  have hq := hps.out _ (List.getElem_mem hml)
                  have hfw2 := hfw1.out (BL.drop j)
                  have hrm := remove_bl tb A2 M2 (removeAll V1 (BL.drop j)) BL[m] wr hR5 (by omega) (by omega)
                  have hd2 := hdr.out m hml
                  rw [← hm] at hd2
                  have hmi : (m : Int) < (BL.length : Int) := by omega
                  have hwm : IntKind.i64.wrap ((m : Int) - 1) = (m : Int) - 1 := IntWalk.i64_in _ (by omega)
                  unfold ptr at hrm
                  generalize BL[m] = p at *
                  clear hSr hfw2 hq hwn hj0
                  replace hR5 := Lib.hid hR5
                  replace ht5 := Lib.hid ht5
                  replace ho5 := Lib.hid ho5
                  replace hrm := Lib.hid hrm
                  replace hd2 := Lib.hid hd2
                  replace hs5 := Lib.hid hs5
                  replace hm := Lib.hid hm
                  rw [hji]
                  replace hji := Lib.hid hji
                  go_wp2_with fail
                  (with_reducible refine (hrm.out).mono ?_)
                  rintro e w6 ⟨rfl, hst6⟩
                  have hs6 := Stp.trans ht5.out ho5.out hst6
                  rw [← hd2.out] at hs6
                  replace hs6 := Lib.hid hs6
                  clear hst6 c1
                  go_wp2
                  go_roundw
                  case rel => exact ⟨m, by go_num, by omega, hs6.out⟩
                  case measure => simp [intOf]
                · have hj2 : j = 0 := by omega
                  have hji : (j : Int) - 1 = -1 := by omega
                  rw [hj2, List.drop_zero] at hs5
                  obtain ⟨A2, M2, hR5, ht5, ho5⟩ := id hs5
                  have hfw2 := hfw1.out BL
                  have hrm := remove_bl tb A2 M2 (removeAll V1 BL) q wr hR5 (by omega) (by omega)
                  rw [← hP1.out] at hrm
                  have hbr := (hs5.keeps hR4.out hb4.out (by decide) (by decide)).trans hb4.out
                  have b0 := cell_of (j := 0) (v := .string (mkS q)) hbr rfl
                  unfold ptr at hrm
                  clear hfw2 hwn hj0
                  replace hR5 := Lib.hid hR5
                  replace ht5 := Lib.hid ht5
                  replace ho5 := Lib.hid ho5
                  replace hrm := Lib.hid hrm
                  replace hs5 := Lib.hid hs5
                  replace hbr := Lib.hid hbr
                  replace hj2 := Lib.hid hj2
                  rw [hji]
                  replace hji := Lib.hid hji
                  go_wp2_with fail
                  (with_reducible refine (hrm.out).mono ?_)
                  rintro e w6 ⟨rfl, hst6⟩
                  have hs6 := Stp.trans ht5.out ho5.out hst6
                  have hb6 := (hs6.keeps hR4.out hb4.out (by decide) (by decide)).trans hb4.out
                  have hO6 := Strs.stp hR4.out hs6 hO4.out
                  have hs7 := Stp.trans hto.out (fun b hb => hor.out b hb) hs6
                  have d0 := cell_of (j := 0) (v := .string (mkS q)) hb6 rfl
                  clear hst6 b0
                  replace hs6 := Lib.hid hs6
                  replace hb6 := Lib.hid hb6
                  replace hO6 := Lib.hid hO6
                  replace hs7 := Lib.hid hs7
                  have hsz6 : w1.heap.size ≤ w6.heap.size := by
                    obtain ⟨_, _, _, ht, _⟩ := hs7.out
                    exact ht.size
                  go_wp2_with (at_builtin; refine wp_append1 w1.heap.size rfl (.tmp 71) (.tmp 74) 36 9 rfl Tryz.underlying36 (.string ⟨#[]⟩) 1 16 info_string rfl (by decide) (.slice oA row.length oc) _ _ rfl [.string (mkS q)] rfl hO6.out rfl ?_ ?_ ?_ hsz6 ?_)
                  · simp [Value.oneCell']
                  · simp only [maxLen]; omega
                  · omega
                  · intro v9 w9 g9 hg hat
                    have hO9 : Strs w1.heap.size w9 v9 (row ++ [q]) := Strs.snoc g9
                    have hs9 := hs7.out.grown hO6.out hg
                    replace hO9 := Lib.hid hO9
                    replace hs9 := Lib.hid hs9
                    clear g9 hg hat d0 hsz6
                    go_wp2
                    go_roundw
                    case rel => exact ⟨k + 1, by go_num, by omega, by rw [hP2.out, hP.out]; exact hs9.out, by rw [hP2.out, hP.out]; exact hO9.out⟩
                    case measure => simp [intOf]; omega
            · have hP := hst'.out hsb
              subst hP
              go_wp2
              go_roundw
              case rel => exact ⟨k + 1, by go_num, by omega, by rw [hP2.out]; exact hs3.out, by rw [hP2.out]; exact hO3.out⟩
              case measure => simp [intOf]; omega
        · obtain rfl : k = L.length := by omega
          have hE := hE.out
          subst hE
          have hfin := And.intro (own_low hO hB1.out.size) (Stp.after hB1.out hs)
          replace hfin := Lib.hid hfin
          replace hO := Lib.hid hO
          clear hs
          go_wp2
          go_ret2
          rw [hPR.out]
          exact ⟨_, rfl, hfin.out⟩
end Go.Proofs.YtocbjhhnginebaaGreat

namespace Go.Proofs.YtocbjhhnginebaaGreat
open Go.RowKit

theorem findE_ok {V : Fs} {nm : Bytes} (h : (findE V nm).2.2 = 0) : mayS nm = true ∧ (findE V nm).1 = V.shots ∧ ∃ h : (findE V nm).2.1 < V.shots.length, (V.shots[(findE V nm).2.1]).1 = nm := by
  unfold findE at h ⊢
  by_cases hm : mayS nm = true
  · rw [if_pos hm] at h ⊢
    cases hw : whereI V.shots nm with
    | none => rw [hw] at h; exact absurd h (by simp)
    | some i =>
      refine ⟨hm, rfl, ?_⟩
      unfold whereI at hw
      obtain ⟨h1, h2, _⟩ := List.findIdx?_eq_some_iff_getElem.1 hw
      exact ⟨h1, by simpa using h2⟩
  · rw [if_neg hm] at h
    exact absurd h (by simp)
/-- Is a file of a snapshot one of the snapshot ahead? -/
def sharedAt (V : Fs) (ahead nm p : Bytes) : Bool := decide ((V.stat (ahead ++ trimP p nm)).2 = 0) && (decide ((V.stat p).1.kind = 1) && decide ((V.stat (ahead ++ trimP p nm)).1.ino = (V.stat p).1.ino))
def aheadOf (V : Fs) (nm : Bytes) : Bytes := (((findE V nm).1[(findE V nm).2.1 - 1]?).map (·.1)).getD []
def sharedN (V : Fs) (nm : Bytes) : Int × Int :=
  if (findE V nm).2.2 ≠ 0 ∨ (findE V nm).2.1 = 0 then (0, (findE V nm).2.2) else ((((V.belowS nm).filter (sharedAt V (aheadOf V nm) nm)).length : Int), 0)

set_option maxHeartbeats 2000000 in
set_option maxRecDepth 100000 in
theorem snapshared_nil (s : ByteArray) (w : World) : Calls Tryz.prog 18 #[.pointer none, .string s] w fun e w' => e = .returned (.tuple #[.int .i64 0, .int .i64 1]) ∧ w = w' := by
  have h0 := find_nil s w
  replace h0 := Lib.hid h0
  go_enter Tryz.func18, Tryz.ntmps18
  go_wp2_with fail
  (with_reducible refine (h0.out).mono ?_)
  rintro e w1 ⟨rfl, rfl⟩
  go_wp2
  go_ret2
  exact ⟨rfl, rfl⟩

set_option maxHeartbeats 8000000 in
set_option maxRecDepth 100000 in
theorem snapshared_calls (tb : Nat) (A M : Nat → Nat) (V : Fs) (nm : Bytes) (w : World) (hR : Rep w tb A M V) (hM : MtAll V) (hn : nm.length ≤ 1000000) (hf : V.names.length ≤ 500000) :
    Calls Tryz.prog 18 #[ptr tb, .string (mkS nm)] w fun e w' => e = .returned (.tuple #[.int .i64 (sharedN V nm).1, .int .i64 (sharedN V nm).2]) ∧ Below w.heap.size w w' := by
  have h0 := find_calls tb A M V nm w hR hM (by omega) (by omega)
  have h2 := fun W (hB : Below w.heap.size w W) => below_calls tb A M V nm W (hR.below hB) (by omega) (by omega)
  have hst := fun W p (hB : Below w.heap.size w W) (hp : p.length ≤ 1000000) => stat_bl tb A M V p W (hR.below hB) (by omega)
  have hE : sharedN V nm = if (findE V nm).2.2 ≠ 0 ∨ (findE V nm).2.1 = 0 then (0, (findE V nm).2.2) else ((((V.belowS nm).filter (sharedAt V (aheadOf V nm) nm)).length : Int), 0) := rfl
  have hok := fun h => findE_ok (V := V) (nm := nm) h
  have hah : aheadOf V nm = (((findE V nm).1[(findE V nm).2.1 - 1]?).map (·.1)).getD [] := rfl
  have hsat : ∀ p, sharedAt V (aheadOf V nm) nm p = (decide ((V.stat (aheadOf V nm ++ trimP p nm)).2 = 0) && (decide ((V.stat p).1.kind = 1) && decide ((V.stat (aheadOf V nm ++ trimP p nm)).1.ino = (V.stat p).1.ino))) := fun p => rfl
  generalize sharedN V nm = sn at *
  generalize hsa : sharedAt V (aheadOf V nm) nm = sa at *
  generalize aheadOf V nm = ah at *
  generalize hfe : findE V nm = fe at *
  obtain ⟨fl, fi, fe⟩ := fe
  dsimp only at *
  unfold ptr at *
  replace hR := Lib.hid hR
  replace hM := Lib.hid hM
  replace h0 := Lib.hid h0
  replace h2 := Lib.hid h2
  replace hst := Lib.hid hst
  replace hok := Lib.hid hok
  replace hsat := Lib.hid hsat
  replace hsa := Lib.hid hsa
  replace hfe := Lib.hid hfe
  by_cases hz : fe = 0
  · by_cases hi : fi = 0
    · rw [if_pos (Or.inr hi)] at hE
      subst hE hi
      have hz2 := hz
      replace hz2 := Lib.hid hz2
      subst hz
      go_enter Tryz.func18, Tryz.ntmps18
      go_wp2_with fail
      (with_reducible refine (h0.out).mono ?_)
      rintro e w1 ⟨⟨v1, rfl, hS1⟩, hB1⟩
      replace hS1 := Lib.hid hS1
      go_wp2
      go_ret2
      exact ⟨rfl, hB1⟩
    · rw [if_neg (by omega)] at hE
      obtain ⟨hmy, hfl, hil, hnm⟩ := hok.out hz
      subst hz hfl
      have hi2 : ((fi : Int) == 0) = false := by rw [beq_eq_false_iff_ne]; omega
      have hlen : V.shots.length ≤ 500000 := Nat.le_trans (shots_few hR.out.inv) hf
      obtain ⟨k0, hk0⟩ : ∃ k0, fi = k0 + 1 := ⟨fi - 1, by omega⟩
      subst hk0
      have hkl : k0 < V.shots.length := by omega
      have hah2 : ah = (V.shots[k0]).1 := by
        rw [hah, show k0 + 1 - 1 = k0 by omega, List.getElem?_eq_getElem hkl]
        rfl
      have hal := shots_short hR.out.inv (List.getElem_mem hkl)
      rw [← hah2] at hal
      have hps := fun p hp => belowS_short hR.out.inv (top := nm) (p := p) hp
      have hpf := belowS_few (S := V) (top := nm)
      have hwi : IntKind.i64.wrap ((k0 : Int) + 1 - 1) = (k0 : Int) := by rw [IntWalk.i64_in _ (by omega)]; omega
      have hwj : IntKind.i64.wrap (k0 : Int) = (k0 : Int) := IntWalk.i64_in _ (by omega)
      have hi3 : ((k0 : Int) + 1 == 0) = false := by rw [beq_eq_false_iff_ne]; omega
      have hki : (k0 : Int) < (V.shots.length : Int) := by omega
      clear hok hnm hil hah hi2
      replace hE := Lib.hid hE
      replace hmy := Lib.hid hmy
      replace hal := Lib.hid hal
      replace hps := Lib.hid hps
      replace hpf := Lib.hid hpf
      replace hwi := Lib.hid hwi
      replace hi := Lib.hid hi
      replace hwj := Lib.hid hwj
      go_enter Tryz.func18, Tryz.ntmps18
      go_wp2_with fail
      (with_reducible refine (h0.out).mono ?_)
      rintro e w1 ⟨⟨v1, rfl, hS1⟩, hB1⟩
      obtain ⟨sA, sc, rfl, hs1, hs2⟩ := hS1.rd.shape
      unfold maxLen at hs2
      have h2' := h2.out w1 hB1
      replace hS1 := Lib.hid hS1
      replace h2' := Lib.hid h2'
      replace hB1 := Lib.hid hB1
      go_wp2_with fail
      (with_reducible refine (h2'.out).mono ?_)
      rintro e w2 ⟨⟨va, rfl, hSa⟩, hB2⟩
      obtain ⟨aA, ac, rfl, ha1, ha2⟩ := own_shape hSa.own
      unfold maxLen at ha2
      have hRs2 := hS1.out.rd.below hB2
      obtain ⟨g, o, rfl, r1, _⟩ := hRs2.at hkl
      rw [← hah2] at r1
      have hBw2 := below_step hB1.out hB2
      generalize V.belowS nm = AL at *
      clear hah2
      replace hSa := Lib.hid hSa
      replace hB2 := Lib.hid hB2
      replace hRs2 := Lib.hid hRs2
      replace hBw2 := Lib.hid hBw2
      go_wp2_with fail
      go_loopw [9, 34] (fun m i wr => ∃ k : Nat, i = .int .i64 k ∧ k ≤ AL.length ∧ m = .int .i64 (((AL.take k).filter sa).length : Nat) ∧ Below w2.heap.size w2 wr) (fun _ i _ => AL.length - (intOf i).toNat)
      case atStart => exact ⟨0, rfl, Nat.zero_le _, rfl, Below.refl _ _⟩
      case round =>
        obtain ⟨k, rfl, hk, rfl, hB3⟩ := hrel
        by_cases hlt : k < AL.length
        · have hRw := Strs.rd (own_below hSa.out hB3)
          obtain ⟨ga, oa, rfl, c1⟩ := hRw.cell hlt
          have hp := hps.out _ (List.getElem_mem hlt)
          have hyes := filter_yes (f := sa) hlt
          have hno := filter_no (f := sa) hlt
          have hsp := hsat.out AL[k]
          generalize AL[k] = p at *
          have hBr := below_step hBw2.out hB3
          have hs1' := hst.out wr p hBr (by omega)
          have htl := trimP_len p nm
          have hadd := mkS_append ah (trimP p nm)
          have hz4 : (mkS ah).size + (mkS (trimP p nm)).size ≤ 9223372036854775807 := by rw [mkS_size, mkS_size]; have := hal.out; omega
          have hz3 : ((mkS ah).size : Int) + ((mkS (trimP p nm)).size : Int) ≤ 9223372036854775807 := by omega
          have hz5 : ¬ (9223372036854775807 < (mkS ah).size + (mkS (trimP p nm)).size) := by omega
          have htr : ∀ W, Calls Tryz.prog 41 #[.string (mkS p), .string (mkS nm)] W fun e w' => e = .returned (.string (mkS (trimP p nm))) ∧ W = w' := fun W => trim_calls p nm W
          have hs2' := fun W hB => hst.out W (ah ++ trimP p nm) hB (by rw [List.length_append]; have := hal.out; omega)
          have hkk : (k : Int) < (AL.length : Int) := by omega
          have hcnt : ((AL.take k).filter sa).length ≤ 1000000 := by
            have h1 := List.length_filter_le sa (AL.take k)
            rw [List.length_take] at h1
            have := hpf.out
            omega
          generalize hF2 : ((AL.take (k + 1)).filter sa) = F2 at *
          generalize ((AL.take k).filter sa) = F1 at *
          generalize trimP p nm = tp at *
          generalize V.stat p = st1 at *
          generalize V.stat (ah ++ tp) = st2 at *
          generalize sa p = sp at *
          obtain ⟨⟨s1, s2, s3, s4, ⟨m1, m2, m3, m4, m5⟩, s5⟩, se⟩ := st1
          obtain ⟨⟨q1, q2, q3, q4, ⟨n1, n2, n3, n4, n5⟩, q5⟩, qe⟩ := st2
          unfold statV statCells at hs1' hs2'
          dsimp only at *
          clear hRw hp htl
          replace hF2 := Lib.hid hF2
          replace hyes := Lib.hid hyes
          replace hno := Lib.hid hno
          replace hsp := Lib.hid hsp
          replace hBr := Lib.hid hBr
          replace hs1' := Lib.hid hs1'
          replace hadd := Lib.hid hadd
          replace htr := Lib.hid htr
          replace hs2' := Lib.hid hs2'
          replace hB3 := Lib.hid hB3
          replace hcnt := Lib.hid hcnt
          go_wp2_with fail
          (with_reducible refine (hs1'.out).mono ?_)
          rintro e w3 ⟨rfl, hB4⟩
          have hBa4 := below_step hB4 (below_alloc (Below.refl w3.heap.size w3) (.cells #[.int .i64 s1, .int .i64 s2, .int .i64 s3, .int .i64 s4, .int .i64 m1, .int .i64 m2, .int .i64 m3, .int .i64 m4, .int .i64 m5, .string (mkS s5)] 42))
          have hB5 := below_step hBr.out hBa4
          have hb5 := heap_alloc_new w3 (.cells #[.int .i64 s1, .int .i64 s2, .int .i64 s3, .int .i64 s4, .int .i64 m1, .int .i64 m2, .int .i64 m3, .int .i64 m4, .int .i64 m5, .string (mkS s5)] 42)
          have hB25 := below_step hB3.out hBa4
          clear c1
          replace hB4 := Lib.hid hB4
          replace hBa4 := Lib.hid hBa4
          replace hB5 := Lib.hid hB5
          replace hb5 := Lib.hid hb5
          replace hB25 := Lib.hid hB25
          go_upto_region 9 with fail
          generalize w3.alloc (.cells #[.int .i64 s1, .int .i64 s2, .int .i64 s3, .int .i64 s4, .int .i64 m1, .int .i64 m2, .int .i64 m3, .int .i64 m4, .int .i64 m5, .string (mkS s5)] 42) = w4 at *
          have d1 := (hB25.out.cell (cell_lt r1)).trans r1
          go_cut [14, 15] (fun x y W => ∃ g, x = .pointer (some ⟨g, 0, none⟩) ∧ y = .int .i64 qe ∧ W.heap[g]? = some (.cells #[.int .i64 q1, .int .i64 q2, .int .i64 q3, .int .i64 q4, .int .i64 n1, .int .i64 n2, .int .i64 n3, .int .i64 n4, .int .i64 n5, .string (mkS q5)] 42 (0, 0)) ∧ Below w4.heap.size w4 W)
          case first =>
            have hBd1 : Below w4.heap.size w4 w4.drew := below_drewN (Below.refl w4.heap.size w4) 1
            have hBe : ∀ o, Below w4.heap.size w4 (w4.alloc o).drew := fun o => below_drewN (below_alloc (Below.refl _ _) o) 1
            have hzero : ∀ cs W, Below (w4.alloc (.cells cs 42)).drew.heap.size (w4.alloc (.cells cs 42)).drew W → W.heap[w4.heap.size]? = some (.cells cs 42 (0, 0)) := fun cs W hB => (hB.block w4.heap.size (Array.getElem?_eq_some_iff.1 (heap_alloc_new w4 (.cells cs 42))).1).trans (heap_alloc_new w4 _)
            replace hBd1 := Lib.hid hBd1
            replace hBe := Lib.hid hBe
            replace hzero := Lib.hid hzero
            have hSS : ∀ W, Below w4.heap.size w4 W → W.cell? ⟨g, o + k0 * 2, none⟩ = some (.string (mkS ah)) := fun W hW => (hW.cell (cell_lt d1)).trans d1
            have hC := fun W hW => hs2'.out W (below_step hB5.out hW)
            have hwi2 := hwi.out
            have hwj2 := hwj.out
            replace hSS := Lib.hid hSS
            replace hC := Lib.hid hC
            clear d1 r1
            go_region_held3 (fun W => W.cell? ⟨g, o + k0 * 2, none⟩ = some (.string (mkS ah))) (first | with_reducible exact hSS.out _ hBd1.out | with_reducible exact hSS.out _ (hBe.out _) | with_reducible exact hSS.out _ hBa.out | with_reducible exact hSS.out _ (below_alloc hBa.out _) | with_reducible exact hSS.out _ (below_set10 hBa.out (Nat.le_refl _) _ _ _ _ _ _ _ _ _ _)) (first
              | (go_at_call 41; (with_reducible refine (htr.out _).mono ?_); rintro e w' ⟨rfl, rfl⟩)
              | (go_at_call 16; rw [hadd.out]; first
                  | ((with_reducible refine (hC.out _ hBd1.out).mono ?_); rintro e wa ⟨rfl, hBa0⟩; have hBa := below_step hBd1.out hBa0; replace hBa := Lib.hid hBa; clear hBa0)
                  | ((with_reducible refine (hC.out _ (hBe.out _)).mono ?_); rintro e wa ⟨rfl, hBa0⟩; have hBa := below_step (hBe.out _) hBa0; have hz := hzero.out _ _ hBa0; have z0 := cell_of (j := 0) (v := .int .i64 0) hz rfl; have z1 := cell_of (j := 1) (v := .int .i64 0) hz rfl; have z2 := cell_of (j := 2) (v := .int .i64 0) hz rfl; have z3 := cell_of (j := 3) (v := .int .i64 0) hz rfl; have z4 := cell_of (j := 4) (v := .int .i64 0) hz rfl; have z5 := cell_of (j := 5) (v := .int .i64 0) hz rfl; have z6 := cell_of (j := 6) (v := .int .i64 0) hz rfl; have z7 := cell_of (j := 7) (v := .int .i64 0) hz rfl; have z8 := cell_of (j := 8) (v := .int .i64 0) hz rfl; have z9 := cell_of (j := 9) (v := .string ⟨#[]⟩) hz rfl; have zf : ∀ i, wa.frozen? ⟨w4.heap.size, i, none⟩ = false := fun i => (by simp [World.frozen?, hz]); replace hz := Lib.hid hz; replace hBa := Lib.hid hBa; clear hBa0)))
            all_goals try (rename_i hHeld; clear hHeld)
            all_goals (go_wp2; go_meet)
            all_goals first
              | with_reducible exact ⟨_, rfl, rfl, heap_alloc_new wa _, below_alloc hBa.out _⟩
              | with_reducible exact ⟨_, rfl, rfl, heap_set10 hz.out _ _ _ _ _ _ _ _ _ _, below_set10 hBa.out (Nat.le_refl _) _ _ _ _ _ _ _ _ _ _⟩
          case rest =>
            obtain ⟨g2, rfl, rfl, hg2, hB6⟩ := hcut
            have hb6 := (hB6.block w3.heap.size (Array.getElem?_eq_some_iff.1 hb5.out).1).trans hb5.out
            have hB26 := below_step hB25.out hB6
            have x0 := cell_of (j := 0) (v := .int .i64 s1) hb6 rfl
            have x1 := cell_of (j := 1) (v := .int .i64 s2) hb6 rfl
            have y1 := cell_of (j := 1) (v := .int .i64 q2) hg2 rfl
            have hc2 := hcnt.out
            clear d1 r1 hg2 hb6
            replace hB26 := Lib.hid hB26
            replace hB6 := Lib.hid hB6
            by_cases z1 : qe = 0
            · by_cases z2 : s1 = 1
              · by_cases z3 : q2 = s2
                · have hsq := hsp.out
                  rw [decide_eq_true z1, decide_eq_true z2, decide_eq_true z3] at hsq
                  have hF := hyes.out hsq
                  subst z1 z2 z3
                  replace hF := Lib.hid hF
                  have hwk : IntKind.i64.wrap ((F1.length : Int) + 1) = (F1.length : Int) + 1 := IntWalk.i64_in _ (by omega)
                  go_wp2
                  go_roundw
                  case rel => exact ⟨k + 1, by go_num, by omega, by rw [hF2.out, hF.out, List.length_append]; rfl, hB26.out⟩
                  case measure => simp [intOf]; omega
                · have hsq := hsp.out
                  rw [decide_eq_true z1, decide_eq_true z2, decide_eq_false z3] at hsq
                  have t3 : (q2 == s2) = false := by simpa using z3
                  subst z1 z2
                  replace z3 := Lib.hid z3
                  have hF := hno.out hsq
                  replace hF := Lib.hid hF
                  go_wp2
                  go_roundw
                  case rel => exact ⟨k + 1, by go_num, by omega, by rw [hF2.out, hF.out], hB26.out⟩
                  case measure => simp [intOf]; omega
              · have hsq := hsp.out
                rw [decide_eq_true z1, decide_eq_false z2] at hsq
                have t2 : (s1 == 1) = false := by simpa using z2
                subst z1
                replace z2 := Lib.hid z2
                have hF := hno.out hsq
                replace hF := Lib.hid hF
                go_wp2
                go_roundw
                case rel => exact ⟨k + 1, by go_num, by omega, by rw [hF2.out, hF.out], hB26.out⟩
                case measure => simp [intOf]; omega
            · have hsq := hsp.out
              rw [decide_eq_false z1] at hsq
              have t1 : (qe == 0) = false := by simpa using z1
              replace z1 := Lib.hid z1
              have hF := hno.out hsq
              replace hF := Lib.hid hF
              go_wp2
              go_roundw
              case rel => exact ⟨k + 1, by go_num, by omega, by rw [hF2.out, hF.out], hB26.out⟩
              case measure => simp [intOf]; omega
        · obtain rfl : k = AL.length := by omega
          have hE := hE.out
          subst hE
          rw [List.take_length]
          have hB4 := below_step hBw2.out hB3
          replace hB4 := Lib.hid hB4
          go_wp2
          go_ret2
          exact ⟨rfl, hB4.out⟩
  · have t1 : (fe != 0) = true := by simpa using hz
    rw [if_pos (Or.inl hz)] at hE
    subst hE
    replace hz := Lib.hid hz
    go_enter Tryz.func18, Tryz.ntmps18
    go_wp2_with fail
    (with_reducible refine (h0.out).mono ?_)
    rintro e w1 ⟨⟨v1, rfl, hS1⟩, hB1⟩
    replace hS1 := Lib.hid hS1
    go_wp2
    go_ret2
    exact ⟨rfl, hB1⟩
end Go.Proofs.YtocbjhhnginebaaGreat

namespace Go.Proofs.YtocbjhhnginebaaGreat

theorem mayE_zero {s : Bytes} {m : Mt} (h : ¬ mayE s m ≠ 0) : right s = true ∧ metaOk m = true := by
  unfold mayE at h
  by_cases h1 : right s = true
  · rw [if_pos h1] at h
    by_cases h2 : metaOk m = true
    · exact ⟨h1, h2⟩
    · rw [if_neg h2] at h; exact absurd (by decide) h
  · rw [if_neg h1] at h; exact absurd (by decide) h
theorem ok_start : Fs.start.Ok := ⟨fun _ => (by decide : metaOk ⟨493, 0, 0, 0, 0⟩ = true), fun _ h => absurd (show (2 : Int) = 3 from h) (by decide)⟩
theorem ok_set {V : Fs} (h : V.Ok) {i : Nat} {n : Nd} (hn : metaOk n.mt = true) (ht : n.kind = 3 → n.target ≠ []) : (V.set i n).Ok := by
  refine ⟨fun j => ?_, fun j => ?_⟩
  · unfold Fs.set
    dsimp only
    split
    · exact hn
    · exact h.mt j
  · unfold Fs.set
    dsimp only
    split
    · exact ht
    · exact h.tg j
theorem ok_mkdir {V : Fs} (h : V.Ok) (s : Bytes) (m : Mt) : (V.mkdir s m).1.Ok := by
  unfold Fs.mkdir
  split
  · exact h
  · rename_i h1
    split
    · exact h
    · exact ok_add h (mayE_zero h1).2 (by simp)
theorem ok_symlink {V : Fs} (h : V.Ok) (s t : Bytes) (m : Mt) : (V.symlink s t m).1.Ok := by
  unfold Fs.symlink
  split
  · exact h
  · rename_i h1
    split
    · exact h
    · rename_i h2
      split
      · exact h
      · split
        · exact h
        · exact ok_add h (mayE_zero h1).2 (fun _ => h2)
theorem ok_write {V : Fs} (h : V.Ok) (s b : Bytes) (m : Mt) : (V.write s b m).1.Ok := by
  unfold Fs.write
  split
  · exact h
  · rename_i h1
    split
    · exact h
    · split
      · exact h
      · split
        · split
          · exact h
          · exact ok_set h (mayE_zero h1).2 (fun hk => h.tg _ hk)
        · exact ok_add h (mayE_zero h1).2 (by simp)
theorem ok_link {V : Fs} (h : V.Ok) (o p : Bytes) : (V.link o p).1.Ok := by
  unfold Fs.link
  (repeat' split)
  all_goals first | exact h | exact ok_name h _ _
theorem ok_remove {V : Fs} (h : V.Ok) (s : Bytes) : (V.remove s).1.Ok := by
  unfold Fs.remove
  (repeat' split)
  all_goals first | exact h | exact ok_gone h _ _
theorem ok_setM {V : Fs} (h : V.Ok) (s : Bytes) (m : Mt) : (V.setM s m).1.Ok := by
  unfold Fs.setM
  split
  · exact h
  · rename_i h1
    split
    · exact h
    · split
      · exact ok_set h (mayE_zero h1).2 (fun hk => h.tg _ hk)
      · exact h
theorem ok_append {V : Fs} (h : V.Ok) (s b : Bytes) : (V.append s b).1.Ok := by
  unfold Fs.append
  (repeat' split)
  all_goals first | exact h | exact ok_set h (h.mt _) (fun hk => h.tg _ hk)
theorem ok_rename {V : Fs} (h : V.Ok) (o p : Bytes) : (V.rename o p).1.Ok := by
  have hmv : ∀ {T : Fs} (_ : T.Ok) (a b : Pt), (T.move a b).Ok := fun hT a b => ok_lk hT fun j => ⟨rfl, rfl, rfl, rfl⟩
  unfold Fs.rename Fs.ren2 Fs.ren3
  (repeat' split)
  all_goals first | exact h | exact hmv h _ _ | exact hmv (ok_gone h _ _) _ _
theorem ok_act {V : Fs} (h : V.Ok) (a : Act17) : (V.act a).1.Ok := by
  unfold Fs.act
  (repeat' split)
  all_goals first | exact ok_mkdir h _ _ | exact ok_write h _ _ _ | exact ok_symlink h _ _ _ | exact ok_link h _ _ | exact ok_remove h _ | exact ok_rename h _ _ | exact ok_setM h _ _ | exact ok_append h _ _ | exact h
theorem ok_acts (V : Fs) (h : V.Ok) : ∀ l : List Act17, (V.acts l).Ok := by
  refine snoc_rec h fun l a ih => ?_
  rw [acts_snoc]
  exact ok_act ih a
theorem ok_build (l : List Act17) : (Fs.build l).Ok := ok_acts _ ok_start l
theorem ok_thing {S : Fs} {a : Bytes} {K : Tak} (h : K.V.Ok) (p q : Bytes) : (thingE S a K p q).V.Ok := by
  unfold thingE
  split
  · exact h
  · split
    · exact ok_mkdir h _ _
    · split
      · exact ok_symlink h _ _ _
      · unfold fileE
        split
        · exact ok_link h _ _
        · split
          · exact ok_link h _ _
          · exact ok_write h _ _ _
theorem ok_lay {S : Fs} {a : Bytes} {f : Bytes → Bytes} : ∀ (l : List Bytes) {K : Tak}, K.V.Ok → (layK S a f K l).V.Ok
  | [], _, h => h
  | p :: l, _, h => ok_lay l (ok_thing h p (f p))
theorem ok_take {V : Fs} (h : V.Ok) (nm : Bytes) (S : Fs) : (takeE V nm S).1.Ok := by
  unfold takeE
  (repeat' split)
  all_goals first | exact h | exact ok_lay _ (ok_mkdir h _ _)
theorem ok_rest (V : Fs) (nm : Bytes) : (restE V nm).Ok := ok_lay _ ok_start
theorem ok_removeAll {V : Fs} (h : V.Ok) : ∀ l : List Bytes, (removeAll V l).Ok
  | [] => h
  | p :: l => ok_remove (ok_removeAll h l) p
theorem ok_pruneK {V : Fs} (h : V.Ok) (L : List Sh.Shot) (newest every : Int) : ∀ k, (pruneK L newest every V k).1.Ok
  | 0 => h
  | k + 1 => by
    have ih := ok_pruneK h L newest every k
    unfold pruneK
    (repeat' split)
    all_goals first | exact ih | exact ok_remove (ok_removeAll ih _) _
theorem ok_prune {V : Fs} (h : V.Ok) (newest every : Int) : (pruneE V newest every).1.Ok := by
  unfold pruneE
  split
  · exact h
  · exact ok_pruneK h _ _ _ _
/-- How much a Take adds. -/
theorem take_grow (V : Fs) (nm : Bytes) (S : Fs) : (takeE V nm S).1.names.length ≤ V.names.length + S.names.length + 1 ∧ (takeE V nm S).1.next ≤ V.next + S.names.length + 1 := by
  unfold takeE
  split
  · exact ⟨by simp; omega, by simp; omega⟩
  · split
    · exact ⟨by simp; omega, by simp; omega⟩
    · split
      · exact ⟨by simp; omega, by simp; omega⟩
      · have hg := layK_grow S V.lastTop (belowName nm) (takeStart V nm) (S.belowS []) (S.belowS []).length (Nat.le_refl _)
        rw [List.take_length] at hg
        obtain ⟨g1, g2, _⟩ := hg
        have h1 : (takeStart V nm).V.names.length ≤ V.names.length + 1 := (grow_mkdir V nm ⟨493, V.lastNum + 1, 0, 0, 0⟩).1
        have h2 : (takeStart V nm).V.next ≤ V.next + 1 := (grow_mkdir V nm ⟨493, V.lastNum + 1, 0, 0, 0⟩).2
        have h3 := belowS_few (S := S) (top := [])
        have e : (takeK V nm S (S.belowS [])) = layK S V.lastTop (belowName nm) (takeStart V nm) (S.belowS []) := rfl
        rw [← e] at g1 g2
        exact ⟨by dsimp only; omega, by dsimp only; omega⟩
theorem remove_next (V : Fs) (s : Bytes) : (V.remove s).1.next = V.next := by
  unfold Fs.remove
  (repeat' split)
  all_goals rfl
theorem removeAll_next (V : Fs) : ∀ l : List Bytes, (removeAll V l).next = V.next
  | [] => rfl
  | p :: l => (remove_next _ p).trans (removeAll_next V l)
theorem prune_grow (V : Fs) (newest every : Int) : (pruneE V newest every).1.names.length ≤ V.names.length ∧ (pruneE V newest every).1.next = V.next := by
  have hk : ∀ k, (pruneK V.shots newest every V k).1.next = V.next := fun k => by
    induction k with
    | zero => rfl
    | succ k ih =>
      unfold pruneK
      (repeat' split)
      all_goals first | exact ih | exact ((remove_next _ _).trans (removeAll_next _ _)).trans ih
  unfold pruneE
  split
  · exact ⟨Nat.le_refl _, rfl⟩
  · exact ⟨(pruneK_few _ _ _ _ _).1, hk _⟩
end Go.Proofs.YtocbjhhnginebaaGreat

namespace Go.Proofs.YtocbjhhnginebaaGreat

def ins {α : Type} (le : α → α → Bool) (a : α) : List α → List α
  | [] => [a]
  | b :: l => if le a b = true then a :: b :: l else b :: ins le a l
def isort {α : Type} (le : α → α → Bool) (l : List α) : List α := l.foldr (ins le) []
theorem ins_perm {α : Type} (le : α → α → Bool) (a : α) : ∀ l : List α, (ins le a l).Perm (a :: l)
  | [] => List.Perm.refl _
  | b :: l => by
    unfold ins
    split
    · exact List.Perm.refl _
    · exact ((ins_perm le a l).cons b).trans (List.Perm.swap a b l)
theorem isort_perm {α : Type} (le : α → α → Bool) : ∀ l : List α, (isort le l).Perm l
  | [] => List.Perm.refl _
  | a :: l => (ins_perm le a (isort le l)).trans ((isort_perm le l).cons a)
theorem ins_sorted {α : Type} {le : α → α → Bool} (ht : ∀ a b c, le a b = true → le b c = true → le a c = true) (hn : ∀ a b, le a b = true ∨ le b a = true) (a : α) : ∀ {l : List α}, l.Pairwise (fun a b => le a b = true) → (ins le a l).Pairwise (fun a b => le a b = true)
  | [], _ => by simp [ins]
  | b :: l, h => by
    obtain ⟨h1, h2⟩ := List.pairwise_cons.1 h
    unfold ins
    split
    · rename_i hab
      refine List.pairwise_cons.2 ⟨fun c hc => ?_, h⟩
      rcases List.mem_cons.1 hc with rfl | hc
      · exact hab
      · exact ht _ _ _ hab (h1 c hc)
    · rename_i hab
      refine List.pairwise_cons.2 ⟨fun c hc => ?_, ins_sorted ht hn a h2⟩
      rcases List.mem_cons.1 ((ins_perm le a l).mem_iff.1 hc) with rfl | hc
      · exact (hn _ _).resolve_left hab
      · exact h1 c hc
theorem isort_sorted {α : Type} {le : α → α → Bool} (ht : ∀ a b c, le a b = true → le b c = true → le a c = true) (hn : ∀ a b, le a b = true ∨ le b a = true) : ∀ l : List α, (isort le l).Pairwise (fun a b => le a b = true)
  | [] => List.Pairwise.nil
  | a :: l => ins_sorted ht hn a (isort_sorted ht hn l)

def csortP (l : List Bytes) : List Bytes := isort (fun a b => decide (cmpP a b ≤ 0)) l
def csortB (l : List Bytes) : List Bytes := isort (fun a b => decide (a ≤ b)) l
def csortS (l : List Sh.Shot) : List Sh.Shot := isort (fun a b => decide (a.2 < b.2 ∨ a.2 = b.2 ∧ cmpP a.1 b.1 ≤ 0)) l
theorem sortP_c (l : List Bytes) : sortP l = csortP l := by
  refine (sortP_eq (isort_perm _ l) ?_).symm
  refine (isort_sorted (le := fun a b => decide (cmpP a b ≤ 0)) (fun a b c h k => ?_) (fun a b => ?_) l).imp (fun {a b} h => (show cmpP a b ≤ 0 from of_decide_eq_true h))
  · rw [decide_eq_true_eq] at *; exact leP_trans (a := a) (b := b) (c := c) h k
  · rw [decide_eq_true_eq, decide_eq_true_eq, cmpP_swap a b]; omega
theorem sortB_c (l : List Bytes) : sortB l = csortB l := by
  refine risingB_unique ((sortB_perm l).trans (isort_perm _ l).symm) (sortB_sorted l) ?_
  refine (isort_sorted (fun a b c h k => ?_) (fun a b => ?_) l).imp (fun h => of_decide_eq_true h)
  · rw [decide_eq_true_eq] at *; exact lexB_trans h k
  · rw [decide_eq_true_eq, decide_eq_true_eq]; exact lexB_total a b
theorem sortS_c (l : List Sh.Shot) : Sh.sortS l = csortS l := by
  refine (Sh.sortS_eq (isort_perm _ l) ?_).symm
  refine (isort_sorted (fun a b c h k => ?_) (fun a b => ?_) l).imp (fun h => ?_)
  · rw [decide_eq_true_eq] at *
    rcases h with h | ⟨h, h2⟩ <;> rcases k with k | ⟨k, k2⟩
    · left; omega
    · left; omega
    · left; omega
    · right; exact ⟨h.trans k, leP_trans (a := a.1) (b := b.1) (c := c.1) h2 k2⟩
  · rw [decide_eq_true_eq, decide_eq_true_eq, cmpP_swap a.1 b.1]; omega
  · rw [decide_eq_true_eq] at h
    exact h

def Fs.listC (T : Fs) (s : Bytes) : List Bytes × Int :=
  if (T.there s).2.2 = 0 then match (T.there s).1 with
    | some i => if (T.nd i).kind = 2 then (csortB ((T.kids (split s)).map (·.1)), 0) else ([], 12)
    | none => ([], 0)
  else ([], (T.there s).2.2)
theorem list_c (T : Fs) (s : Bytes) : T.list s = T.listC s := by unfold Fs.list Fs.listC; rw [sortB_c]; rfl
def Fs.shotsC (T : Fs) : List Sh.Shot := csortS ((csortP (T.listC []).1).filterMap T.shotOf)
theorem shots_c (T : Fs) : T.shots = T.shotsC := by unfold Fs.shots Fs.tops Fs.shotsC; rw [list_c, sortP_c, sortS_c]
def Fs.belowC (T : Fs) (top : Bytes) : List Bytes := (csortP ((T.below []).map fun y => glue y.1)).filter (belowT top)
theorem below_c (T : Fs) (top : Bytes) : T.belowS top = T.belowC top := by unfold Fs.belowS Fs.belowC Fs.paths; rw [sortP_c]
def lastNumC (V : Fs) : Int := (V.shotsC.getLast?.map (·.2)).getD 0
def lastTopC (V : Fs) : Bytes := (V.shotsC.getLast?.map fun y => y.1 ++ [47]).getD []
def takeC (V : Fs) (nm : Bytes) (S : Fs) : Fs × Int :=
  if mayS nm = false then (V, 9) else if (V.stat nm).2 = 0 then (V, 11) else
  if 1099511627776 ≤ lastNumC V ∨ (S.belowC []).any (tooBig nm) = true then (V, 7) else ((layK S (lastTopC V) (belowName nm) ⟨(V.mkdir nm ⟨493, lastNumC V + 1, 0, 0, 0⟩).1, [], []⟩ (S.belowC [])).V, 0)
theorem take_c (V : Fs) (nm : Bytes) (S : Fs) : takeE V nm S = takeC V nm S := by
  unfold takeE takeC takeK takeStart Fs.lastNum Fs.lastTop lastNumC lastTopC
  rw [shots_c, below_c]
def findC (T : Fs) (nm : Bytes) : List Sh.Shot × Nat × Int :=
  if mayS nm = true then match whereI T.shotsC nm with
    | some i => (T.shotsC, i, 0)
    | none => ([], 0, 10)
  else ([], 0, 9)
theorem find_c (T : Fs) (nm : Bytes) : findE T nm = findC T nm := by unfold findE findC; rw [shots_c]; rfl
def sharedC (V : Fs) (nm : Bytes) : Int × Int :=
  if (findC V nm).2.2 ≠ 0 ∨ (findC V nm).2.1 = 0 then (0, (findC V nm).2.2) else ((((V.belowC nm).filter (sharedAt V ((((findC V nm).1[(findC V nm).2.1 - 1]?).map (·.1)).getD []) nm)).length : Int), 0)
theorem shared_c (V : Fs) (nm : Bytes) : sharedN V nm = sharedC V nm := by unfold sharedN sharedC aheadOf; rw [find_c, below_c]
def pruneKC (L : List Sh.Shot) (newest every : Int) (V : Fs) : Nat → Fs × List Bytes
  | 0 => (V, [])
  | k + 1 => match L[k]? with
    | some y => if stays L.length newest every k y = true then pruneKC L newest every V k else (((removeAll (pruneKC L newest every V k).1 ((pruneKC L newest every V k).1.belowC y.1)).remove y.1).1, (pruneKC L newest every V k).2 ++ [y.1])
    | none => pruneKC L newest every V k
theorem pruneK_c (L : List Sh.Shot) (newest every : Int) (V : Fs) : ∀ k, pruneK L newest every V k = pruneKC L newest every V k
  | 0 => rfl
  | k + 1 => by
    unfold pruneK pruneKC pruneOne
    rw [pruneK_c L newest every V k]
    simp only [below_c]
    try rfl
def pruneC (V : Fs) (newest every : Int) : Fs × List Bytes × Int :=
  if newest < 0 ∨ every < 0 then (V, [], 2) else ((pruneKC V.shotsC newest every V V.shotsC.length).1, (pruneKC V.shotsC newest every V V.shotsC.length).2, 0)
theorem prune_c (V : Fs) (newest every : Int) : pruneE V newest every = pruneC V newest every := by
  unfold pruneE pruneC
  rw [shots_c, pruneK_c]

def w42 : Mt := ⟨420, 0, 0, 0, 0⟩
def w42a : Fs := (Fs.start.write [97] [120] w42).1
def w42b : Fs := (w42a.write [98] [121] w42).1
def w42c : Fs := (takeC Fs.start [115, 49] w42b).1
def w42d : Fs := (w42b.write [98] [122] w42).1
def w42e : Fs := (takeC w42c [115, 50] w42d).1
def w42f : Fs := (pruneC w42e 1 0).1
theorem w42_1 : (Fs.start.write [97] [120] w42).2 = 0 := by decide +kernel
theorem w42_2 : (w42a.write [98] [121] w42).2 = 0 := by decide +kernel
theorem w42_3 : (w42b.write [98] [122] w42).2 = 0 := by decide +kernel
theorem w42_4 : (takeC Fs.start [115, 49] w42b).2 = 0 := by decide +kernel
theorem w42_5 : (takeC w42c [115, 50] w42d).2 = 0 := by decide +kernel
theorem w42_6 : sharedC w42e [115, 50] = (1, 0) := by decide +kernel
theorem w42_7 : (pruneC w42e 1 0).2 = ([[115, 49]], 0) := by decide +kernel
theorem w42_8 : (findC w42f [115, 50]).2.2 = 0 := by decide +kernel
def restC (V : Fs) (nm : Bytes) : Fs := (layK V [] (fromName nm) ⟨Fs.start, [], []⟩ (V.belowC nm)).V
theorem rest_c (V : Fs) (nm : Bytes) : restE V nm = restC V nm := by unfold restE restC restK; rw [below_c]
/-- Are two trees the same, by going through their names? -/
def sameC (T U : Fs) : Bool :=
  (T.names.all fun x => U.names.any fun y => decide (y.1 = x.1)) && (U.names.all fun x => T.names.any fun y => decide (y.1 = x.1)) &&
  (T.names.all fun x => U.names.all fun y => !decide (x.1 = y.1) || (decide ((T.nd x.2).kind = (U.nd y.2).kind) && decide ((T.nd x.2).mt = (U.nd y.2).mt) && decide ((T.nd x.2).target = (U.nd y.2).target) && decide ((T.nd x.2).data = (U.nd y.2).data))) &&
  (T.names.all fun x => T.names.all fun y => U.names.all fun z => !decide (x.2 = y.2 ∧ z.1 = x.1) || U.names.any fun u => decide (u = (y.1, z.2))) &&
  (U.names.all fun x => U.names.all fun y => T.names.all fun z => !decide (x.2 = y.2 ∧ z.1 = x.1) || T.names.any fun u => decide (u = (y.1, z.2)))
theorem same_c {T U : Fs} (h : sameC T U = true) : SameFs T U := by
  unfold sameC at h
  simp only [Bool.and_eq_true, List.all_eq_true, List.any_eq_true, decide_eq_true_eq, Bool.or_eq_true, Bool.not_eq_true', decide_eq_false_iff_not] at h
  obtain ⟨⟨⟨⟨h1, h2⟩, h3⟩, h4⟩, h5⟩ := h
  refine ⟨fun p i hi => ?_, fun p j hj => ?_, fun p i j hi hj => ?_, fun p q i j a b c => ?_, fun p q i j a b c => ?_⟩
  · obtain ⟨⟨q, j⟩, hy, rfl⟩ := h1 _ hi
    exact ⟨j, hy⟩
  · obtain ⟨⟨q, i⟩, hy, rfl⟩ := h2 _ hj
    exact ⟨i, hy⟩
  · rcases h3 _ hi _ hj with e | ⟨⟨⟨e1, e2⟩, e3⟩, e4⟩
    · exact absurd rfl e
    · exact ⟨e1, e2, e3, e4⟩
  · rcases h4 _ a _ b _ c with e | ⟨u, hu, rfl⟩
    · exact absurd ⟨rfl, rfl⟩ e
    · exact hu
  · rcases h5 _ b _ c _ a with e | ⟨u, hu, rfl⟩
    · exact absurd ⟨rfl, rfl⟩ e
    · exact hu
theorem w42_9 : SameFs (restC w42f [115, 50]) w42d := same_c (by decide +kernel)
theorem w42_10 : w42b.names.length = 3 ∧ w42c.names.length = 4 ∧ w42e.names.length = 7 ∧ w42f.names.length = 4 ∧ w42a.next = 3 ∧ w42b.next = 4 ∧ w42c.next = 5 ∧ w42d.names.length = 3 := by decide +kernel
end Go.Proofs.YtocbjhhnginebaaGreat

namespace Go.Proofs.YtocbjhhnginebaaGreat
open Go.RowKit

theorem rdb_blk {W : World} {g : Nat} {x : UInt8} {f : Nat × Nat} (h : W.heap[g]? = some (.cells #[.int .u8 x.toNat] 5 f)) : RdB W (.slice (some ⟨g, 0, none⟩) 1 1) [x] := by
  refine ⟨_, 1, rfl, Nat.le_refl _, by simp [maxLen], fun j hj => ⟨g, 0, rfl, ?_⟩⟩
  have : j = 0 := by simp at hj; omega
  subst this
  simp [World.cell?, h]
/-- A literal's bytes, in a block that is not the last. -/
theorem run_convert_bytes_at (W : World) {g : Nat} {x : Value} (h : W.heap[g]? = some (.cells #[x] 5 (0, 0))) :
    (convert 62 62 (.slice (some ⟨g, 0, none⟩) 1 1)).run Tryz.prog W = .ok (.slice (some ⟨g, 0, none⟩) 1 1) (W.freeze ⟨g, 1, none⟩ 1) := by
  have hsh : W.shape? g = some (5, 1) := by
    unfold World.shape?
    rw [h]
    rfl
  simp [convert, run_underlying Tryz.underlying62, run_underlying Tryz.underlying5, markStringish, hsh]
theorem freeze_at (W : World) {g : Nat} {x : Value} (h : W.heap[g]? = some (.cells #[x] 5 (0, 0))) : (W.freeze ⟨g, 1, none⟩ 1).heap[g]? = some (.cells #[x] 5 (1, 2)) := by
  unfold World.freeze
  rw [if_neg (by decide)]
  show (W.heap.modify g _)[g]? = _
  rw [Array.getElem?_modify, if_pos rfl, h]
  rfl
theorem freeze_other (W : World) {g k : Nat} (h : g ≠ k) : (W.freeze ⟨g, 1, none⟩ 1).heap[k]? = W.heap[k]? := by
  unfold World.freeze
  rw [if_neg (by decide)]
  show (W.heap.modify g _)[k]? = _
  rw [Array.getElem?_modify, if_neg h]
/-- Bytes that no file of the tree has, are marked. -/
theorem Rep.freeze {w : World} {tb : Nat} {A M : Nat → Nat} {T : Fs} (h : Rep w tb A M T) {g : Nat} {x : UInt8} (hg : w.heap[g]? = some (.cells #[.int .u8 x.toNat] 5 (0, 0))) (hd : ∀ i, T.Live i → (T.nd i).data ≠ [x]) : Rep (w.freeze ⟨g, 1, none⟩ 1) tb A M T := by
  have hoth : ∀ k, k ≠ g → (w.freeze ⟨g, 1, none⟩ 1).heap[k]? = w.heap[k]? := fun k hk => freeze_other w (Ne.symm hk)
  have hown : ∀ b, Own tb A M T b → b ≠ g := fun b hb e => h.not_own hg (by decide) (by decide) (e ▸ hb)
  refine ⟨h.inv, (hoth tb (hown tb (Or.inl rfl))).trans h.tree, fun i hi => ?_, fun p i hm h2 => ?_, h.injA, h.injM⟩
  · obtain ⟨dv, h1, h2⟩ := h.node i hi
    refine ⟨dv, ?_, (hoth _ (hown _ (Or.inr (Or.inl ⟨i, hi, rfl⟩)))).trans h2⟩
    rcases h1 with h1 | ⟨k, c, cur, e1, e2, e3, e4, e5, e6⟩
    · exact Or.inl h1
    · by_cases hk : k = g
      · subst hk
        rw [hg] at e2
        simp only [Option.some.injEq, Obj.cells.injEq] at e2
        obtain ⟨rfl, _, _⟩ := e2
        have hl : (T.nd i).data.length ≤ 1 := by simp at e5; omega
        cases hdt : (T.nd i).data with
        | nil => exact Or.inl ⟨⟨_, c, by rw [e1, hdt]; rfl, e4⟩, rfl⟩
        | cons y r =>
          rw [hdt] at hl e6
          have hr : r = [] := by
            cases r with
            | nil => rfl
            | cons z s => simp at hl
          subst hr
          exfalso
          have : x = y := by
            simp [byteCells] at e6
            exact UInt8.toNat_inj.1 (by omega)
          exact hd i hi (by rw [hdt, this])
      · exact Or.inr ⟨k, c, cur, e1, (hoth k hk).trans e2, e3, e4, e5, e6⟩
  · exact (h.kids p i hm h2).of_block (hoth _ (hown _ (Or.inr (Or.inr ⟨i, ⟨p, hm⟩, h2, rfl⟩))))
/-- A literal's bytes, with another block behind them. -/
theorem run_convert_bytes_two (w : World) (C : Array Value) (n c : Nat) (o : Obj) :
    (convert 62 62 (.slice (some ⟨w.heap.size, 0, none⟩) n c)).run Tryz.prog ((w.alloc (.cells C 5)).alloc o) = .ok (.slice (some ⟨w.heap.size, 0, none⟩) n c) ((w.alloc (.cells C 5 (C.size, C.size + 1))).alloc o) := by
  have hb : ((w.alloc (.cells C 5)).alloc o).heap[w.heap.size]? = some (.cells C 5) := by
    show ((w.heap.push (.cells C 5)).push o)[w.heap.size]? = _
    rw [Array.getElem?_push_lt (by simp)]
    simp
  have hsh : ((w.alloc (.cells C 5)).alloc o).shape? w.heap.size = some (5, C.size) := by
    unfold World.shape?
    rw [hb]
  have hfr : ∀ (k : Nat), ((w.alloc (.cells C 5)).alloc o).freeze ⟨w.heap.size, k, none⟩ 1 = (w.alloc (.cells C 5 (k, k + 1))).alloc o := fun k => by
    have hm : ∀ (a : Array Obj) (x y : Obj) (f : Obj → Obj), ((a.push x).push y).modify a.size f = (a.push (f x)).push y := by
      intro a x y f
      apply Array.ext
      · simp
      · intro i h1 h2
        simp only [Array.getElem_modify, Array.getElem_push]
        by_cases h : a.size = i
        · subst h
          simp
        · have hi : i < a.size + 2 := by simp at h1; omega
          by_cases h3 : i < a.size
          · simp [h, h3, show i < a.size + 1 by omega]
          · have : i = a.size + 1 := by omega
            subst this
            simp
    unfold World.freeze
    rw [if_neg (by decide)]
    show ({ (w.alloc (.cells C 5)).alloc o with heap := ((w.heap.push (.cells C 5)).push o).modify w.heap.size _ } : World) = _
    rw [hm]
    rfl
  simp [convert, run_underlying Tryz.underlying62, run_underlying Tryz.underlying5, markStringish, hsh]
  exact hfr _

/-- The example's state: a vault and a source, apart, and a Meta beside them. -/
def Aw (w W : World) (vb : Nat) (V : Fs) (sb : Nat) (S : Fs) (mb : Nat) : Prop :=
  ∃ A M B N, Rep W vb A M V ∧ Rep W sb B N S ∧ (∀ b, Own vb A M V b → w.heap.size ≤ b) ∧ (∀ b, Own sb B N S b → w.heap.size ≤ b) ∧ (∀ b, Own sb B N S b → ¬ Own vb A M V b) ∧ Below w.heap.size w W ∧
    W.heap[mb]? = some (.cells #[.int .i64 420, .int .i64 0, .int .i64 0, .int .i64 0, .int .i64 0] 40 (0, 0))
def Cells5 (W : World) (mb : Nat) : Prop := W.cell? ⟨mb, 0, none⟩ = some (.int .i64 420) ∧ W.cell? ⟨mb, 1, none⟩ = some (.int .i64 0) ∧ W.cell? ⟨mb, 2, none⟩ = some (.int .i64 0) ∧ W.cell? ⟨mb, 3, none⟩ = some (.int .i64 0) ∧ W.cell? ⟨mb, 4, none⟩ = some (.int .i64 0)
section
variable {w W W' : World} {vb sb mb : Nat} {V S : Fs}
theorem Aw.cells (h : Aw w W vb V sb S mb) : W.cell? ⟨mb, 0, none⟩ = some (.int .i64 420) ∧ W.cell? ⟨mb, 1, none⟩ = some (.int .i64 0) ∧ W.cell? ⟨mb, 2, none⟩ = some (.int .i64 0) ∧ W.cell? ⟨mb, 3, none⟩ = some (.int .i64 0) ∧ W.cell? ⟨mb, 4, none⟩ = some (.int .i64 0) := by
  obtain ⟨A, M, B, N, _, _, _, _, _, _, hm⟩ := h
  exact ⟨cell_of hm rfl, cell_of hm rfl, cell_of hm rfl, cell_of hm rfl, cell_of hm rfl⟩
theorem Aw.below (h : Aw w W vb V sb S mb) (hB : Below W.heap.size W W') : Aw w W' vb V sb S mb := by
  obtain ⟨A, M, B, N, h1, h2, h3, h4, h5, h6, hm⟩ := h
  exact ⟨A, M, B, N, h1.below hB, h2.below hB, h3, h4, h5, below_step h6 hB, (hB.block mb (Array.getElem?_eq_some_iff.1 hm).1).trans hm⟩
theorem Aw.freeze (h : Aw w W vb V sb S mb) {g : Nat} {x : UInt8} (hg : W.heap[g]? = some (.cells #[.int .u8 x.toNat] 5 (0, 0))) (hlo : w.heap.size ≤ g) (hV : ∀ i, V.Live i → (V.nd i).data ≠ [x]) (hS : ∀ i, S.Live i → (S.nd i).data ≠ [x]) : Aw w (W.freeze ⟨g, 1, none⟩ 1) vb V sb S mb := by
  obtain ⟨A, M, B, N, h1, h2, h3, h4, h5, h6, hm⟩ := h
  have hne : g ≠ mb := fun e => by
    subst e
    rw [hg] at hm
    simp at hm
  refine ⟨A, M, B, N, h1.freeze hg hV, h2.freeze hg hS, h3, h4, h5, h6.trans ?_, (freeze_other W hne).trans hm⟩
  have hsz : (W.freeze ⟨g, 1, none⟩ 1).heap.size = W.heap.size := by
    unfold World.freeze
    rw [if_neg (by decide)]
    simp
  exact ⟨rfl, rfl, rfl, Nat.le_of_eq hsz.symm, fun k hk => freeze_other W (by omega)⟩
theorem aw_write (h : Aw w W vb V sb S mb) (q : Bytes) (v : Value) (b : Bytes) (hv : RdB W v b) (hq : q.length ≤ 1000) (hb : b.length ≤ 1000) (hnx : S.next < 4611686018427387904) :
    Calls Tryz.prog 30 #[ptr sb, .string (mkS q), v, .agg #[.int .i64 420, .int .i64 0, .int .i64 0, .int .i64 0, .int .i64 0]] W fun e w' => e = .returned (.int .i64 (S.write q b w42).2) ∧ Aw w w' vb V sb (S.write q b w42).1 mb ∧ ∀ (g : Nat) (cs : Array Value) (f : Nat × Nat), W.heap[g]? = some (.cells cs 5 f) → w'.heap[g]? = some (.cells cs 5 f) := by
  obtain ⟨A, M, B, N, h1, h2, h3, h4, h5, h6, hm⟩ := h
  refine (write_bl sb B N S q v b w42 W h2 (by omega) hv (by omega) hnx).mono ?_
  rintro e w' ⟨rfl, hst⟩
  obtain ⟨g1, B', N', g2, g3, g4⟩ := Stp.two h1 h2 (fun b hb hb2 => h5 b hb2 hb) hst
  obtain ⟨hB, _⟩ := Stp.mine h6 h4 hst
  refine ⟨rfl, ⟨A, M, B', N', g1, g2, h3, fun b hb => ?_, fun b hb hb2 => g3 b hb2 hb, hB, (hst.keeps h2 hm (by decide) (by decide)).trans hm⟩, fun g cs f hg => (hst.keeps h2 hg (by decide) (by decide)).trans hg⟩
  rcases g4 b hb with h | h
  · exact h4 b h
  · exact Nat.le_trans h6.size h
theorem aw_prune (h : Aw w W vb V sb S mb) (a b : Int) (hM : MtAll V) (hf : V.names.length ≤ 500000) (ha : a ≤ 1000) :
    Calls Tryz.prog 15 #[ptr vb, .int .i64 a, .int .i64 b] W fun e w' => (∃ v', e = .returned (.tuple #[v', .int .i64 (pruneE V a b).2.2]) ∧ Strs W.heap.size w' v' (pruneE V a b).2.1) ∧ Aw w w' vb (pruneE V a b).1 sb S mb := by
  obtain ⟨A, M, B, N, h1, h2, h3, h4, h5, h6, hm⟩ := h
  refine (prune_calls vb A M V a b W h1 hM hf (by omega)).mono ?_
  rintro e w' ⟨v', rfl, hs, hst⟩
  obtain ⟨g1, A', M', g2, g3, g4⟩ := Stp.two h2 h1 (fun b hb hb2 => h5 b hb hb2) hst
  obtain ⟨hB, _⟩ := Stp.mine h6 h3 hst
  refine ⟨⟨v', rfl, hs⟩, ⟨A', M', B, N, g2, g1, fun b hb => ?_, h4, g3, hB, (hst.keeps h1 hm (by decide) (by decide)).trans hm⟩⟩
  rcases g4 b hb with h | h
  · exact h3 b h
  · exact Nat.le_trans h6.size h
theorem aw_shared (h : Aw w W vb V sb S mb) (nm : Bytes) (hM : MtAll V) (hn : nm.length ≤ 1000) (hf : V.names.length ≤ 500000) :
    Calls Tryz.prog 18 #[ptr vb, .string (mkS nm)] W fun e w' => e = .returned (.tuple #[.int .i64 (sharedN V nm).1, .int .i64 (sharedN V nm).2]) ∧ Aw w w' vb V sb S mb := by
  have h' := h
  obtain ⟨A, M, B, N, h1, _⟩ := h
  exact (snapshared_calls vb A M V nm W h1 hM (by omega) hf).mono fun e w' ⟨e1, hB⟩ => ⟨e1, h'.below hB⟩
theorem aw_restore (h : Aw w W vb V sb S mb) (nm : Bytes) (hM : MtAll V) (hn : nm.length ≤ 1000) (hf : V.names.length ≤ 500000) (hz : (findE V nm).2.2 = 0) :
    Calls Tryz.prog 13 #[ptr vb, .string (mkS nm)] W fun e w' => ∃ tc C MC, e = .returned (.tuple #[ptr tc, .int .i64 0]) ∧ Rep w' tc C MC (restE V nm) ∧ Aw w w' vb V sb S mb ∧ Below W.heap.size W w' := by
  have h' := h
  obtain ⟨A, M, B, N, h1, _⟩ := h
  refine (restore_calls vb A M V nm W h1 hM (by omega) hf).mono ?_
  intro e w' hr
  unfold RestRes at hr
  rw [if_pos hz] at hr
  obtain ⟨tc, C, MC, e1, e2, _, hB⟩ := hr
  exact ⟨tc, C, MC, e1, e2, h'.below hB, hB⟩
theorem aw_take (h : Aw w W vb V sb S mb) (nm : Bytes) (hM : MtAll V) (hn : nm.length ≤ 1000) (hf : V.names.length + S.names.length ≤ 500000) (hnx : V.next + S.names.length < 4611686018427387000) :
    Calls Tryz.prog 12 #[ptr vb, .string (mkS nm), ptr sb] W fun e w' => e = .returned (.int .i64 (takeE V nm S).2) ∧ Aw w w' vb (takeE V nm S).1 sb S mb := by
  obtain ⟨A, M, B, N, h1, h2, h3, h4, h5, h6, hm⟩ := h
  refine (take_calls vb A M V sb B N S nm W h1 h2 hM (by omega) hf hnx).mono ?_
  rintro e w' ⟨rfl, hst⟩
  obtain ⟨g1, A', M', g2, g3, g4⟩ := Stp.two h2 h1 (fun b hb hb2 => h5 b hb hb2) hst
  obtain ⟨hB, _⟩ := Stp.mine h6 h3 hst
  refine ⟨rfl, ⟨A', M', B, N, g2, g1, fun b hb => ?_, h4, g3, hB, (hst.keeps h1 hm (by decide) (by decide)).trans hm⟩⟩
  rcases g4 b hb with h | h
  · exact h3 b h
  · exact Nat.le_trans h6.size h
end

set_option maxHeartbeats 16000000 in
set_option maxRecDepth 100000 in
theorem awake42_calls (w : World) : Calls Tryz.prog 10 #[] w fun e w' => e = .returned (.bool true) ∧ Below w.heap.size w w' := by
  have kc := fun (w : World) (C : Array Value) (n c : Nat) => Lib.run_convert_bytes_const (P := Tryz.prog) w 62 5 C n c Tryz.underlying62 Tryz.underlying5
  have kd := fun (w : World) (C : Array Value) (n c : Nat) (o : Obj) => run_convert_bytes_two w C n c o
  have hnew := fun W => new_calls W
  obtain ⟨z1, z2, z3, z4, z5, z6, z7, z8⟩ := w42_10
  have hk1 : ∀ W vb sb mb v, Aw w W vb Fs.start sb Fs.start mb → RdB W v [120] → _ := fun W vb sb mb v h hv => aw_write h [97] v [120] hv (by decide) (by decide) (by decide)
  have hk2 : ∀ W vb sb mb v, Aw w W vb Fs.start sb w42a mb → RdB W v [121] → _ := fun W vb sb mb v h hv => aw_write h [98] v [121] hv (by decide) (by decide) (by rw [z5]; decide)
  have hk3 : ∀ W vb sb mb, Aw w W vb Fs.start sb w42b mb → _ := fun W vb sb mb h => aw_take h [115, 49] ok_start.mt (by decide) (by rw [z1]; decide) (by rw [z1]; decide)
  have hno1 : ∀ i, Fs.start.Live i → (Fs.start.nd i).data ≠ [121] := fun i _ => by simp [Fs.start]
  have hno2 : ∀ i, w42a.Live i → (w42a.nd i).data ≠ [121] := fun i ⟨p, hp⟩ => by
    have h : ∀ x ∈ w42a.names, (w42a.nd x.2).data ≠ [121] := by decide +kernel
    exact h _ hp
  rw [w42_1] at hk1
  rw [w42_2] at hk2
  rw [take_c, w42_4] at hk3
  change ∀ W vb sb mb v, _ → _ → Calls _ _ _ _ fun e w' => _ ∧ Aw w w' vb Fs.start sb w42a mb ∧ _ at hk1
  change ∀ W vb sb mb v, _ → _ → Calls _ _ _ _ fun e w' => _ ∧ Aw w w' vb Fs.start sb w42b mb ∧ _ at hk2
  change ∀ W vb sb mb, _ → Calls _ _ _ _ fun e w' => _ ∧ Aw w w' vb w42c sb w42b mb at hk3
  unfold ptr at hk1 hk2 hk3
  rw [show mkS [97] = (⟨#[97]⟩ : ByteArray) from rfl] at hk1
  rw [show mkS [98] = (⟨#[98]⟩ : ByteArray) from rfl] at hk2
  rw [show mkS [115, 49] = (⟨#[115, 49]⟩ : ByteArray) from rfl] at hk3
  replace hnew := Lib.hid hnew
  replace hk1 := Lib.hid hk1
  replace hk2 := Lib.hid hk2
  replace hk3 := Lib.hid hk3
  replace hno1 := Lib.hid hno1
  replace hno2 := Lib.hid hno2
  replace z1 := Lib.hid z1
  replace z2 := Lib.hid z2
  replace z3 := Lib.hid z3
  replace z4 := Lib.hid z4
  replace z5 := Lib.hid z5
  replace z6 := Lib.hid z6
  replace z7 := Lib.hid z7
  replace z8 := Lib.hid z8
  go_enter Tryz.func10, Tryz.ntmps10
  go_wp2_with fail
  (with_reducible refine (hnew.out _).mono ?_)
  rintro e w1 ⟨vb, CA, CM, rfl, hV1, hVo1, hB1⟩
  replace hV1 := Lib.hid hV1
  replace hVo1 := Lib.hid hVo1
  replace hB1 := Lib.hid hB1
  go_wp2_with fail
  (with_reducible refine (hnew.out _).mono ?_)
  rintro e w2 ⟨sb, CB, CN, rfl, hS2, hSo2, hB2⟩
  have hA : Aw w (w2.alloc (.cells #[.int .i64 420, .int .i64 0, .int .i64 0, .int .i64 0, .int .i64 0] 40)) vb Fs.start sb Fs.start w2.heap.size := by
    have hBc := below_alloc (Below.refl w2.heap.size w2) (.cells #[.int .i64 420, .int .i64 0, .int .i64 0, .int .i64 0, .int .i64 0] 40)
    refine ⟨CA, CM, CB, CN, (hV1.out.below hB2).below hBc, hS2.below hBc, hVo1.out, fun b hb => Nat.le_trans hB1.out.size (hSo2 b hb), fun b hb hb2 => ?_, below_step (below_step hB1.out hB2) hBc, heap_alloc_new w2 _⟩
    have := hV1.out.lt hb2
    have := hSo2 b hb
    omega
  have hsz0 : w.heap.size ≤ w2.heap.size := Nat.le_trans hB1.out.size hB2.size
  replace hA := Lib.hid hA
  replace hS2 := Lib.hid hS2
  replace hSo2 := Lib.hid hSo2
  replace hB2 := Lib.hid hB2
  clear hnew
  go_upto_region 5 with fail
  generalize w2.alloc (.cells #[.int .i64 420, .int .i64 0, .int .i64 0, .int .i64 0, .int .i64 0] 40) = w3 at *
  generalize hmb : w2.heap.size = mb at *
  have hd3 := hA.out.cells
  replace hd3 := Lib.hid hd3
  replace hmb := Lib.hid hmb
  go_cut [4, 5, 6] (fun x y z W => x = .int .i64 0 ∧ y = .int .i64 0 ∧ z = .int .i64 0 ∧ Aw w W vb w42c sb w42b mb)
  case first =>
    have hAd : Aw w w3.drew vb Fs.start sb Fs.start mb := hA.out.below (below_drewN (Below.refl _ _) 1)
    have hAe : ∀ o, Aw w (w3.alloc o).drew vb Fs.start sb Fs.start mb := fun o => hA.out.below (below_drewN (below_alloc (Below.refl _ _) o) 1)
    have hAf : ∀ o o', Aw w ((w3.alloc o).alloc o').drew vb Fs.start sb Fs.start mb := fun o o' => hA.out.below (below_drewN (below_alloc (below_alloc (Below.refl _ _) o) o') 1)
    have hSd := hAd.cells
    have hS1 := fun o => (hAe o).cells
    have hS2 := fun o o' => (hAf o o').cells
    have g1 : ∀ o : Obj, (w3.alloc o).drew.heap[w3.heap.size]? = some o := fun o => heap_alloc_new w3 o
    have g2 : ∀ o o' : Obj, ((w3.alloc o).alloc o').drew.heap[w3.heap.size]? = some o := fun o o' => ((below_alloc (Below.refl _ (w3.alloc o)) o').block w3.heap.size (by simp)).trans (heap_alloc_new w3 o)
    have g3 : ∀ o o' : Obj, ((w3.alloc o).alloc o').drew.heap[w3.heap.size + 1]? = some o' := fun o o' => by
      have := heap_alloc_new (w3.alloc o) o'
      rwa [show (w3.alloc o).heap.size = w3.heap.size + 1 by simp] at this
    have q1 : RdB (w3.alloc (.cells #[.int .u8 120] 5 (1, 2))).drew (.slice (some ⟨w3.heap.size, 0, none⟩) 1 1) [120] := rdb_blk (g1 _)
    have q2 : ∀ o, RdB ((w3.alloc (.cells #[.int .u8 120] 5 (1, 2))).alloc o).drew (.slice (some ⟨w3.heap.size, 0, none⟩) 1 1) [120] := fun o => rdb_blk (g2 _ _)
    have q3 : ∀ o, RdB ((w3.alloc o).alloc (.cells #[.int .u8 120] 5 (1, 2))).drew (.slice (some ⟨w3.heap.size + 1, 0, none⟩) 1 1) [120] := fun o => rdb_blk (g3 _ _)
    have hlo3 : w.heap.size ≤ w3.heap.size := by
      obtain ⟨_, _, _, _, _, _, _, _, _, h, _⟩ := hA.out
      exact h.size
    have kcd := fun (C : Array Value) (n c : Nat) => (show (convert 62 62 (.slice (some ⟨w3.heap.size, 0, none⟩) n c)).run Tryz.prog (w3.alloc (.cells C 5)).drew = .ok (.slice (some ⟨w3.heap.size, 0, none⟩) n c) (w3.alloc (.cells C 5 (C.size, C.size + 1))).drew from kc w3.drew C n c)
    have kce := fun (C : Array Value) (n c : Nat) (o : Obj) => (show (convert 62 62 (.slice (some ⟨w3.heap.size + 1, 0, none⟩) n c)).run Tryz.prog ((w3.alloc o).alloc (.cells C 5)).drew = .ok (.slice (some ⟨w3.heap.size + 1, 0, none⟩) n c) ((w3.alloc o).alloc (.cells C 5 (C.size, C.size + 1))).drew from by
      have := kc (w3.alloc o).drew C n c
      rwa [show (w3.alloc o).drew.heap.size = w3.heap.size + 1 by simp] at this)
    have kdd := fun (C : Array Value) (n c : Nat) (o : Obj) => (show (convert 62 62 (.slice (some ⟨w3.heap.size, 0, none⟩) n c)).run Tryz.prog ((w3.alloc (.cells C 5)).alloc o).drew = .ok (.slice (some ⟨w3.heap.size, 0, none⟩) n c) ((w3.alloc (.cells C 5 (C.size, C.size + 1))).alloc o).drew from kd w3.drew C n c o)
    replace hSd := Lib.hid hSd
    replace hAd := Lib.hid hAd
    replace hAe := Lib.hid hAe
    replace hAf := Lib.hid hAf
    replace hS1 := Lib.hid hS1
    replace hS2 := Lib.hid hS2
    replace g1 := Lib.hid g1
    replace g2 := Lib.hid g2
    replace g3 := Lib.hid g3
    replace q1 := Lib.hid q1
    replace q2 := Lib.hid q2
    replace q3 := Lib.hid q3
    replace hlo3 := Lib.hid hlo3
    go_region_held_law (fun W => W.cell? ⟨mb, 0, none⟩ = some (.int .i64 420) ∧ W.cell? ⟨mb, 1, none⟩ = some (.int .i64 0) ∧ W.cell? ⟨mb, 2, none⟩ = some (.int .i64 0) ∧ W.cell? ⟨mb, 3, none⟩ = some (.int .i64 0) ∧ W.cell? ⟨mb, 4, none⟩ = some (.int .i64 0)) (first | with_reducible exact hSd.out | with_reducible exact hS1.out _ | with_reducible exact hS2.out _ _ | with_reducible exact hA9.out.cells | with_reducible exact hA7.out.cells | with_reducible exact hA5.out.cells | with_reducible exact (hA5.out.below (below_alloc (Below.refl _ _) _)).cells | with_reducible exact hA5f.out.cells)
      (first
        | (go_at_call 12; (with_reducible refine (hk3.out _ vb sb mb hA7.out).mono ?_); rintro e w9 ⟨rfl, hA9⟩; replace hA9 := Lib.hid hA9)
        | (go_at_call 30; first
          | ((with_reducible refine (hk1.out _ vb sb mb _ (hAe.out _) q1.out).mono ?_); rintro e w5 ⟨rfl, hA5, hby5⟩; clear hby5; have hr5 : RdB (w5.alloc (.cells #[.int .u8 121] 5 (1, 2))) (.slice (some ⟨w5.heap.size, 0, none⟩) 1 1) [121] := rdb_blk (x := 121) (heap_alloc_new w5 _); replace hA5 := Lib.hid hA5; replace hr5 := Lib.hid hr5)
          | ((with_reducible refine (hk1.out _ vb sb mb _ (hAf.out _ (.cells #[.int .u8 121] 5 (0, 0))) (q2.out _)).mono ?_); rintro e w5 ⟨rfl, hA5, hby5⟩; have hb5 := hby5 _ _ _ (g3.out _ _); have kd5 := run_convert_bytes_at w5 hb5; have hA5f := hA5.freeze (x := 121) hb5 (Nat.le_succ_of_le hlo3.out) hno1.out hno2.out; have hbf := rdb_blk (x := 121) (freeze_at w5 hb5); clear hby5; replace hA5 := Lib.hid hA5; replace hA5f := Lib.hid hA5f; replace hbf := Lib.hid hbf; replace hb5 := Lib.hid hb5)
          | ((with_reducible refine (hk1.out _ vb sb mb _ (hAf.out _ (.cells #[.int .u8 121] 5 (1, 2))) (q2.out _)).mono ?_); rintro e w5 ⟨rfl, hA5, hby5⟩; have hv5 := rdb_blk (x := 121) (hby5 _ _ _ (g3.out _ _)); clear hby5; replace hA5 := Lib.hid hA5; replace hv5 := Lib.hid hv5)
          | ((with_reducible refine (hk1.out _ vb sb mb _ (hAf.out (.cells #[.int .u8 121] 5 (0, 0)) _) (q3.out _)).mono ?_); rintro e w5 ⟨rfl, hA5, hby5⟩; have hb5 := hby5 _ _ _ (g2.out _ _); have kd5 := run_convert_bytes_at w5 hb5; have hA5f := hA5.freeze (x := 121) hb5 hlo3.out hno1.out hno2.out; have hbf := rdb_blk (x := 121) (freeze_at w5 hb5); clear hby5; replace hA5 := Lib.hid hA5; replace hA5f := Lib.hid hA5f; replace hbf := Lib.hid hbf; replace hb5 := Lib.hid hb5)
          | ((with_reducible refine (hk1.out _ vb sb mb _ (hAf.out (.cells #[.int .u8 121] 5 (1, 2)) _) (q3.out _)).mono ?_); rintro e w5 ⟨rfl, hA5, hby5⟩; have hv5 := rdb_blk (x := 121) (hby5 _ _ _ (g2.out _ _)); clear hby5; replace hA5 := Lib.hid hA5; replace hv5 := Lib.hid hv5)
          | ((with_reducible refine (hk2.out _ vb sb mb _ (hA5.out.below (below_alloc (Below.refl _ _) _)) hr5.out).mono ?_); rintro e w7 ⟨rfl, hA7, hby7⟩; clear hby7; replace hA7 := Lib.hid hA7)
          | ((with_reducible refine (hk2.out _ vb sb mb _ hA5.out hv5.out).mono ?_); rintro e w7 ⟨rfl, hA7, hby7⟩; clear hby7; replace hA7 := Lib.hid hA7)
          | ((with_reducible refine (hk2.out _ vb sb mb _ hA5f.out hbf.out).mono ?_); rintro e w7 ⟨rfl, hA7, hby7⟩; clear hby7; replace hA7 := Lib.hid hA7)))
    all_goals try (rename_i hHeld; clear hHeld)
    all_goals (go_wp2; go_meet)
    all_goals exact ⟨rfl, rfl, rfl, hA9.out⟩
  case rest =>
    obtain ⟨rfl, rfl, rfl, hA4⟩ := hcut
    clear hk1 hk2 hk3 hno1 hno2 hA hd3
    have hA5 := hA4.below (below_alloc (Below.refl wc.heap.size wc) (.cells #[.int .u8 122] 5 (1, 2)))
    have hr5 : RdB (wc.alloc (.cells #[.int .u8 122] 5 (1, 2))) (.slice (some ⟨wc.heap.size, 0, none⟩) 1 1) [122] := rdb_blk (x := 122) (heap_alloc_new wc _)
    obtain ⟨d0, d1, d2, d3, d4⟩ := hA5.cells
    have hk4 := aw_write hA5 [98] _ [122] hr5 (by decide) (by decide) (by rw [z6.out]; decide)
    rw [w42_3] at hk4
    change Calls _ _ _ _ fun e w' => _ ∧ Aw w w' vb w42c sb w42d mb ∧ _ at hk4
    unfold ptr at hk4
    rw [show mkS [98] = (⟨#[98]⟩ : ByteArray) from rfl] at hk4
    have o1 : w42c.Ok := by
      have := ok_take ok_start [115, 49] w42b
      rwa [take_c] at this
    have o2 : w42e.Ok := by
      have := ok_take o1 [115, 50] w42d
      rwa [take_c] at this
    have o3 : w42f.Ok := by
      have := ok_prune o2 1 0
      rwa [prune_c] at this
    replace hk4 := Lib.hid hk4
    replace hA4 := Lib.hid hA4
    replace hA5 := Lib.hid hA5
    replace hr5 := Lib.hid hr5
    replace o1 := Lib.hid o1
    replace o2 := Lib.hid o2
    replace o3 := Lib.hid o3
    go_wp2_with fail
    (with_reducible refine hk4.out.mono ?_)
    rintro e w5 ⟨rfl, hA6, _⟩
    have hk5 := aw_take hA6 [115, 50] o1.out.mt (by decide) (by rw [z2.out, z8.out]; decide) (by rw [z7.out, z8.out]; decide)
    rw [take_c, w42_5] at hk5
    change Calls _ _ _ _ fun e w' => _ ∧ Aw w w' vb w42e sb w42d mb at hk5
    unfold ptr at hk5
    rw [show mkS [115, 50] = (⟨#[115, 50]⟩ : ByteArray) from rfl] at hk5
    clear d0 d1 d2 d3 d4 hk4
    replace hk5 := Lib.hid hk5
    replace hA6 := Lib.hid hA6
    go_wp2_with fail
    (with_reducible refine (hk5.out).mono ?_)
    rintro e w6 ⟨rfl, hA7⟩
    have hk6 := aw_shared hA7 [115, 50] o2.out.mt (by decide) (by rw [z3.out]; decide)
    rw [shared_c, w42_6] at hk6
    unfold ptr at hk6
    rw [show mkS [115, 50] = (⟨#[115, 50]⟩ : ByteArray) from rfl] at hk6
    replace hk6 := Lib.hid hk6
    replace hA7 := Lib.hid hA7
    go_wp2_with fail
    (with_reducible refine (hk6.out).mono ?_)
    rintro e w7 ⟨rfl, hA8⟩
    have hk7 := aw_prune hA8 1 0 o2.out.mt (by rw [z3.out]; decide) (by decide)
    rw [prune_c, w42_7] at hk7
    change Calls _ _ _ _ fun e w' => _ ∧ Aw w w' vb w42f sb w42d mb at hk7
    unfold ptr at hk7
    replace hk7 := Lib.hid hk7
    replace hA8 := Lib.hid hA8
    go_wp2_with fail
    (with_reducible refine (hk7.out).mono ?_)
    rintro e w8 ⟨⟨vl, rfl, hl⟩, hA9⟩
    obtain ⟨lA, lc, rfl, hl1, hl2⟩ := own_shape hl.own
    have hk8 := aw_restore hA9 [115, 50] o3.out.mt (by decide) (by rw [z4.out]; decide) (by rw [find_c]; exact w42_8)
    rw [rest_c] at hk8
    unfold ptr at hk8
    rw [show mkS [115, 50] = (⟨#[115, 50]⟩ : ByteArray) from rfl] at hk8
    replace hk8 := Lib.hid hk8
    replace hA9 := Lib.hid hA9
    replace hl := Lib.hid hl
    go_wp2_with fail
    (with_reducible refine (hk8.out).mono ?_)
    rintro e w9 ⟨tc, C, MC, rfl, hT, hA10, hB9⟩
    obtain ⟨g, o, rfl, c1⟩ := (Strs.rd (own_below hl.out hB9)).cell (j := 0) (by decide)
    obtain ⟨A, M, B, N, _, hS, _, _, _, hB10, _⟩ := id hA10
    have hsm := same_calls tc C MC _ sb B N w42d w9 hT hS
    have hsf := w42_9
    unfold ptr at hsm
    replace hsm := Lib.hid hsm
    replace hsf := Lib.hid hsf
    replace hT := Lib.hid hT
    replace hS := Lib.hid hS
    replace hB10 := Lib.hid hB10
    replace hA10 := Lib.hid hA10
    replace hB9 := Lib.hid hB9
    unfold maxLen at hl2
    have c2 : w9.cell? ⟨g, o, none⟩ = some (.string ⟨#[115, 49]⟩) := c1
    clear c1 kc kd
    go_wp2_with fail
    (with_reducible refine hsm.out.mono ?_)
    rintro e w10 ⟨⟨r, rfl, hr⟩, hB11⟩
    obtain rfl : r = true := hr.2 hsf.out
    have hfin := below_step hB10.out hB11
    replace hfin := Lib.hid hfin
    clear hr hB11 c2
    go_wp2
    go_ret
    exact ⟨rfl, hfin.out⟩
end Go.Proofs.YtocbjhhnginebaaGreat

namespace Go.Proofs.YtocbjhhnginebaaGreat
open Go.RowKit Go.ChangeShapes Go.WideShapes Go.Deep

/-- What is done with a vault. -/
structure A42 where
  d : Int
  name : Bytes
  src : List Act17
  n : Int
  k : Int
def act42Cells (a : A42) (v : Value) : List Value := [.int .i64 a.d, .string (mkS a.name), v, .int .i64 a.n, .int .i64 a.k]
/-- v reads as the acts l. -/
def Acts42 (W : World) (v : Value) (l : List A42) : Prop :=
  ∃ A c, v = .slice A l.length c ∧ l.length ≤ c ∧ c ≤ maxLen ∧ ∀ i (hi : i < l.length), ∃ g o sv, A = some ⟨g, o, none⟩ ∧ Acts W sv l[i].src ∧ ∀ j, j < 5 → W.cell? ⟨g, o + i * 5 + j, none⟩ = (act42Cells l[i] sv)[j]?

section
variable {H : Type} {enc : TypeId × Value → H} {W : World} {spare : Nat → Bool} {held : Bool}

set_option maxRecDepth 100000 in
theorem acts_of_cells {fuel : Nat} {cs : List Value} {x : DataW H × List MemPlace} (hf : DataW.trod enc Tryz.prog W 0 spare held fuel 22 cs = some x) : ∃ v l, cs = [v] ∧ Acts W v l := by
  rcases open_slice Tryz.underlying22 hf with ⟨e, _⟩ | ⟨a, len, cap, m, n, D, Pl, e, _, h1, h2, hm, _, hel⟩
  · exact ⟨_, [], e, none, 0, rfl, Nat.le_refl _, Nat.zero_le _, fun k hk => by simp at hk⟩
  · suffices hs : ∃ l, Acts W (.slice (some a) len cap) l by
      obtain ⟨l, hl⟩ := hs
      exact ⟨_, l, e, hl⟩
    have hlm : len ≤ m := by rw [hm]; split <;> omega
    have k9 : Tryz.prog.cellsOf 64 = 9 := by kernel_rfl
    rw [k9] at hel
    have hspot : ∀ i, i < len → a.spot = none := fun i hi => by
      obtain ⟨cs, hc, ht⟩ := hel 0 (by omega)
      obtain ⟨a', dv, rfl, hrd⟩ := act_of_cells ht
      obtain ⟨_, _, hat⟩ := World.cells?_some hc
      have := World.cell?_spot ((hat 0 (by decide)).trans rfl)
      simpa [Addr.add] using this
    obtain ⟨l, hl1, hl2⟩ := choose_acts (m := len) (p := fun i a' dv => RdB W dv a'.data ∧ ∃ g o, a = ⟨g, o, none⟩ ∧ ∀ j, j < 9 → W.cell? ⟨g, o + i * 9 + j, none⟩ = (actCells a' dv)[j]?) (fun i hi => by
      obtain ⟨cs, hc, ht⟩ := hel i (by omega)
      obtain ⟨a', dv, rfl, hrd⟩ := act_of_cells ht
      obtain ⟨_, _, hat⟩ := World.cells?_some hc
      refine ⟨a', dv, hrd, ?_⟩
      obtain ⟨g, o, s⟩ := a
      have hs : s = none := hspot i hi
      subst hs
      refine ⟨g, o, rfl, fun j hj => ?_⟩
      have := hat j hj
      rw [add_plain, add_plain] at this
      exact this)
    refine ⟨l, some a, cap, by rw [hl1], by omega, h2, fun k hk => ?_⟩
    obtain ⟨dv, hrd, g, o, rfl, hc⟩ := hl2 k hk
    exact ⟨g, o, dv, rfl, hrd, hc⟩

set_option maxRecDepth 100000 in
theorem act42_of_cells {fuel : Nat} {cs : List Value} {x : DataW H × List MemPlace} (h : DataW.trod enc Tryz.prog W 0 spare held fuel 35 cs = some x) : ∃ a sv, cs = act42Cells a sv ∧ Acts W sv a.src := by
  obtain ⟨xs, n, _, _, hl, hxl, hf⟩ := DataW.trod_struct Tryz.underlying35 h
  have hl5 : cs.length = 5 := hl.trans (by kernel_rfl)
  match cs, hl5 with
  | [c0, c1, c2, c3, c4], _ =>
    have hx : ∀ i, i < 5 → ∃ y, xs[i]? = some y := fun i hi => ⟨_, List.getElem?_eq_getElem (by rw [hxl]; exact hi)⟩
    obtain ⟨y0, e0⟩ := hx 0 (by decide)
    obtain ⟨y1, e1⟩ := hx 1 (by decide)
    obtain ⟨y2, e2⟩ := hx 2 (by decide)
    obtain ⟨y3, e3⟩ := hx 3 (by decide)
    obtain ⟨y4, e4⟩ := hx 4 (by decide)
    have f0 : DataW.trod enc Tryz.prog W 0 spare held n 3 (([c0, c1, c2, c3, c4].drop 0).take (Tryz.prog.cellsOf 3)) = some y0 := (hf 0 _ rfl).trans e0
    have f1 : DataW.trod enc Tryz.prog W 0 spare held n 9 (([c0, c1, c2, c3, c4].drop 1).take (Tryz.prog.cellsOf 9)) = some y1 := (hf 1 _ rfl).trans e1
    have f2 : DataW.trod enc Tryz.prog W 0 spare held n 22 (([c0, c1, c2, c3, c4].drop 2).take (Tryz.prog.cellsOf 22)) = some y2 := (hf 2 _ rfl).trans e2
    have f3 : DataW.trod enc Tryz.prog W 0 spare held n 3 (([c0, c1, c2, c3, c4].drop 3).take (Tryz.prog.cellsOf 3)) = some y3 := (hf 3 _ rfl).trans e3
    have f4 : DataW.trod enc Tryz.prog W 0 spare held n 3 (([c0, c1, c2, c3, c4].drop 4).take (Tryz.prog.cellsOf 3)) = some y4 := (hf 4 _ rfl).trans e4
    have k1 : Tryz.prog.cellsOf 3 = 1 := by kernel_rfl
    have k2 : Tryz.prog.cellsOf 9 = 1 := by kernel_rfl
    have k3 : Tryz.prog.cellsOf 22 = 1 := by kernel_rfl
    rw [k1] at f0 f3 f4
    rw [k2] at f1
    rw [k3] at f2
    simp only [List.drop_zero, List.drop_succ_cons, List.take_succ_cons, List.take_zero] at f0 f1 f2 f3 f4
    obtain ⟨d, q0, _⟩ := DataW.trod_int Tryz.underlying3 f0
    obtain ⟨p, q1, _⟩ := DataW.trod_string Tryz.underlying9 f1
    obtain ⟨sv, l, q2, hl⟩ := acts_of_cells f2
    obtain ⟨n1, q3, _⟩ := DataW.trod_int Tryz.underlying3 f3
    obtain ⟨n2, q4, _⟩ := DataW.trod_int Tryz.underlying3 f4
    refine ⟨⟨d, bl p, l, n1, n2⟩, sv, ?_, hl⟩
    simp only [List.cons.injEq, and_true] at q0 q1 q2 q3 q4
    subst q0 q1 q2 q3 q4
    simp [act42Cells, mkS_bl]

theorem choose_acts42 {m : Nat} {p : Nat → A42 → Value → Prop} (h : ∀ i, i < m → ∃ a v, p i a v) : ∃ l : List A42, l.length = m ∧ ∀ i (hi : i < l.length), ∃ v, p i l[i] v := by
  induction m with
  | zero => exact ⟨[], rfl, fun i hi => by simp at hi⟩
  | succ m ih =>
    obtain ⟨l, h1, h2⟩ := ih (fun i hi => h i (by omega))
    obtain ⟨a, v, hav⟩ := h m (by omega)
    refine ⟨l ++ [a], by simp [h1], fun i hi => ?_⟩
    by_cases hl : i < l.length
    · rw [List.getElem_append_left hl]
      exact h2 i hl
    · have : i = l.length := by simp at hi; omega
      subst this
      rw [List.getElem_append_right (Nat.le_refl _)]
      simp only [Nat.sub_self, List.getElem_cons_zero]
      exact ⟨v, by rw [h1]; exact hav⟩

set_option maxRecDepth 100000 in
theorem open_acts42 {v : Value} {d : DataW H} {ps : List MemPlace} {r : Reach} {b0 : Nat} (hv : Value.okWide Tryz.prog W r b0 23 v) (h : DataW.Trod enc Tryz.prog W 0 spare held 23 v d ps) : ∃ l, Acts42 W v l := by
  obtain ⟨fuel, hf⟩ := h
  rcases open_slice Tryz.underlying23 hf with ⟨e, _⟩ | ⟨a, len, cap, m, n, D, Pl, e, _, h1, h2, hm, _, hel⟩
  · obtain ⟨A', n', c', rfl⟩ := okWide_slice Tryz.underlying23 hv
    have e2 : [Value.slice A' n' c'] = [Value.slice none 0 0] := e
    simp only [List.cons.injEq, Value.slice.injEq, and_true] at e2
    obtain ⟨rfl, rfl, rfl⟩ := e2
    exact ⟨[], none, 0, rfl, Nat.le_refl _, Nat.zero_le _, fun k hk => by simp at hk⟩
  · obtain ⟨A', n', c', rfl⟩ := okWide_slice Tryz.underlying23 hv
    have e2 : [Value.slice A' n' c'] = [Value.slice (some a) len cap] := e
    simp only [List.cons.injEq, Value.slice.injEq, and_true] at e2
    obtain ⟨rfl, rfl, rfl⟩ := e2
    have hlm : n' ≤ m := by rw [hm]; split <;> omega
    have k5 : Tryz.prog.cellsOf 35 = 5 := by kernel_rfl
    rw [k5] at hel
    have hspot : ∀ i, i < n' → a.spot = none := fun i hi => by
      obtain ⟨cs, hc, ht⟩ := hel 0 (by omega)
      obtain ⟨a', dv, rfl, hrd⟩ := act42_of_cells ht
      obtain ⟨_, _, hat⟩ := World.cells?_some hc
      have := World.cell?_spot ((hat 0 (by decide)).trans rfl)
      simpa [Addr.add] using this
    obtain ⟨l, hl1, hl2⟩ := choose_acts42 (m := n') (p := fun i a' dv => Acts W dv a'.src ∧ ∃ g o, a = ⟨g, o, none⟩ ∧ ∀ j, j < 5 → W.cell? ⟨g, o + i * 5 + j, none⟩ = (act42Cells a' dv)[j]?) (fun i hi => by
      obtain ⟨cs, hc, ht⟩ := hel i (by omega)
      obtain ⟨a', dv, rfl, hrd⟩ := act42_of_cells ht
      obtain ⟨_, _, hat⟩ := World.cells?_some hc
      refine ⟨a', dv, hrd, ?_⟩
      obtain ⟨g, o, s⟩ := a
      have hs : s = none := hspot i hi
      subst hs
      refine ⟨g, o, rfl, fun j hj => ?_⟩
      have := hat j hj
      rw [add_plain, add_plain] at this
      exact this)
    refine ⟨l, some a, c', by rw [hl1], by omega, h2, fun k hk => ?_⟩
    obtain ⟨dv, hrd, g, o, rfl, hc⟩ := hl2 k hk
    exact ⟨g, o, dv, rfl, hrd, hc⟩
end
end Go.Proofs.YtocbjhhnginebaaGreat

namespace Go.Proofs.YtocbjhhnginebaaGreat
open Go.RowKit

def okA (a : A42) : Bool := small a.src && decide (a.name.length ≤ 300)
def light42 (l : List A42) : Bool := decide (l.length ≤ 12) && l.all okA
theorem light_at {l : List A42} (h : light42 l = true) : l.length ≤ 12 ∧ ∀ a ∈ l, small a.src = true ∧ a.name.length ≤ 300 := by
  unfold light42 at h
  simp only [Bool.and_eq_true, decide_eq_true_eq, List.all_eq_true] at h
  refine ⟨h.1, fun a ha => ?_⟩
  have := h.2 a ha
  unfold okA at this
  simpa only [Bool.and_eq_true, decide_eq_true_eq] using this

theorem acts_kept {W W' : World} {v : Value} {l : List Act17} (h : Acts W v l) (hc : ∀ (a : Addr) x, W.cell? a = some x → W'.cell? a = some x) : Acts W' v l := by
  obtain ⟨A, c, h1, h2, h3, h4⟩ := h
  refine ⟨A, c, h1, h2, h3, fun k hk => ?_⟩
  obtain ⟨g, o, dv, e1, ⟨A', c', b1, b2, b3, b4⟩, e3⟩ := h4 k hk
  refine ⟨g, o, dv, e1, ⟨A', c', b1, b2, b3, fun j hj => ?_⟩, fun j hj => ?_⟩
  · obtain ⟨g', o', f1, f2⟩ := b4 j hj
    exact ⟨g', o', f1, hc _ _ f2⟩
  · obtain ⟨x, hx⟩ : ∃ x, (actCells l[k] dv)[j]? = some x := ⟨_, List.getElem?_eq_getElem (show j < (actCells l[k] dv).length from hj)⟩
    rw [hx]
    exact hc _ _ ((e3 j hj).trans hx)
theorem acts_under {W W' : World} {v : Value} {l : List Act17} (h : Acts W v l) (hB : Below W.heap.size W W') : Acts W' v l := acts_kept h fun a x hx => (hB.cell (cell_lt hx)).trans hx
theorem acts42_under {W W' : World} {v : Value} {l : List A42} (h : Acts42 W v l) (hB : Below W.heap.size W W') : Acts42 W' v l := by
  obtain ⟨A, c, h1, h2, h3, h4⟩ := h
  refine ⟨A, c, h1, h2, h3, fun k hk => ?_⟩
  obtain ⟨g, o, sv, e1, e2, e3⟩ := h4 k hk
  refine ⟨g, o, sv, e1, acts_under e2 hB, fun j hj => ?_⟩
  obtain ⟨x, hx⟩ : ∃ x, (act42Cells l[k] sv)[j]? = some x := ⟨_, List.getElem?_eq_getElem (show j < (act42Cells l[k] sv).length from hj)⟩
  rw [hx]
  have := (e3 j hj).trans hx
  exact (hB.cell (cell_lt this)).trans this
theorem Acts42.at {W : World} {A : Option Addr} {n c : Nat} {l : List A42} (h : Acts42 W (.slice A n c) l) {k : Nat} (hk : k < l.length) : ∃ g o sv, A = some ⟨g, o, none⟩ ∧ Acts W sv l[k].src ∧ W.cell? ⟨g, o + k * 5, none⟩ = some (.int .i64 l[k].d) ∧ W.cell? ⟨g, o + k * 5 + 1, none⟩ = some (.string (mkS l[k].name)) ∧ W.cell? ⟨g, o + k * 5 + 2, none⟩ = some sv ∧ W.cell? ⟨g, o + k * 5 + 3, none⟩ = some (.int .i64 l[k].n) ∧ W.cell? ⟨g, o + k * 5 + 4, none⟩ = some (.int .i64 l[k].k) := by
  obtain ⟨A', c', e, _, _, h4⟩ := h
  cases e
  obtain ⟨g, o, sv, e1, e2, e3⟩ := h4 k hk
  exact ⟨g, o, sv, e1, e2, e3 0 (by decide), e3 1 (by decide), e3 2 (by decide), e3 3 (by decide), e3 4 (by decide)⟩

set_option maxHeartbeats 4000000 in
set_option maxRecDepth 100000 in
theorem light_calls (v : Value) (l : List A42) (w : World) (hv : Acts42 w v l) :
    Calls Tryz.prog 9 #[v] w fun e w' => e = .returned (.bool (light42 l)) ∧ Below w.heap.size w w' := by
  have hv0 := hv
  obtain ⟨A, c, rfl, h2, h3, _⟩ := hv
  unfold maxLen at h3
  have hlg : light42 l = (decide (l.length ≤ 12) && l.all okA) := rfl
  generalize light42 l = lg at *
  replace hv0 := Lib.hid hv0
  replace hlg := Lib.hid hlg
  by_cases hl : l.length ≤ 12
  · have hl2 : ¬ (12 : Int) < (l.length : Int) := by omega
    have hl3 : ¬ 12 < l.length := by omega
    go_enter Tryz.func9, Tryz.ntmps9
    go_wp2_with fail
    go_loopw [10] (fun i wr => ∃ k : Nat, i = .int .i64 k ∧ k ≤ l.length ∧ Hid (∀ j (hj : j < l.length), j < k → okA l[j] = true) ∧ Below w.heap.size w wr) (fun i _ => l.length - (intOf i).toNat)
    case atStart => exact ⟨0, rfl, Nat.zero_le _, fun j hj h => by omega, Below.refl _ _⟩
    case round =>
      obtain ⟨k, rfl, hk, hn, hB⟩ := hrel
      by_cases hlt : k < l.length
      · have hvr := acts42_under hv0.out hB
        obtain ⟨g, o, sv, rfl, ha, c0, c1, c2, c3, c4⟩ := hvr.at hlt
        have hno : okA l[k] = false → lg = false := fun h => by
          rw [hlg.out]
          have : l.all okA = false := by rw [List.all_eq_false]; exact ⟨_, List.getElem_mem hlt, by rw [h]; decide⟩
          rw [this, Bool.and_false]
        have hnx : okA l[k] = true → ∀ j (hj : j < l.length), j < k + 1 → okA l[j] = true := fun h j hj hjk => by
          by_cases e : j = k
          · subst e; exact h
          · exact hn.out j hj (by omega)
        have hok : okA l[k] = (small l[k].src && decide (l[k].name.length ≤ 300)) := rfl
        generalize okA l[k] = ok at *
        generalize l[k] = a at *
        obtain ⟨d, nm, src, n1, n2⟩ := a
        dsimp only at *
        have hki : (k : Int) < (l.length : Int) := by omega
        have hBa := below_alloc (Below.refl wr.heap.size wr) (.cells #[.int .i64 d, .string (mkS nm), sv, .int .i64 n1, .int .i64 n2] 35)
        have hB2 := below_step hB hBa
        have hsm := small_calls sv src _ (acts_under ha hBa)
        have hnz := mkS_size nm
        obtain ⟨sA, sc, rfl, _, _, _⟩ := id ha
        clear hvr ha
        replace hB := Lib.hid hB
        replace hn := Lib.hid hn
        replace hno := Lib.hid hno
        replace hnx := Lib.hid hnx
        replace hok := Lib.hid hok
        replace hBa := Lib.hid hBa
        replace hB2 := Lib.hid hB2
        replace hsm := Lib.hid hsm
        cases hs : small src
        · have hsm := hsm.out
          rw [hs] at hsm
          have hlf := hno.out (by rw [hok.out, hs]; rfl)
          subst hlf
          replace hsm := Lib.hid hsm
          replace hs := Lib.hid hs
          go_wp2_with fail
          (with_reducible refine hsm.out.mono ?_)
          rintro e w' ⟨rfl, rfl⟩
          go_wp2
          go_ret
          exact ⟨rfl, hB2.out⟩
        · have hsm := hsm.out
          rw [hs] at hsm
          by_cases hq : nm.length ≤ 300
          · have hn2 := hnx.out (by rw [hok.out, hs, decide_eq_true hq]; rfl)
            have hq2 : ¬ 300 < (mkS nm).size := by omega
            have hq3 : ¬ (300 : Int) < ((mkS nm).size : Int) := by omega
            replace hsm := Lib.hid hsm
            replace hs := Lib.hid hs
            replace hn2 := Lib.hid hn2
            replace hq := Lib.hid hq
            replace hnz := Lib.hid hnz
            go_wp2_with fail
            (with_reducible refine hsm.out.mono ?_)
            rintro e w' ⟨rfl, rfl⟩
            go_wp2
            go_roundw
            case rel => exact ⟨k + 1, by go_num, by omega, hn2, hB2.out⟩
            case measure => simp [intOf]; omega
          · have hlf := hno.out (by rw [hok.out, hs, decide_eq_false hq]; rfl)
            subst hlf
            have hq2 : 300 < (mkS nm).size := by omega
            have hq3 : (300 : Int) < ((mkS nm).size : Int) := by omega
            replace hsm := Lib.hid hsm
            replace hs := Lib.hid hs
            replace hq := Lib.hid hq
            replace hnz := Lib.hid hnz
            go_wp2_with fail
            (with_reducible refine hsm.out.mono ?_)
            rintro e w' ⟨rfl, rfl⟩
            go_wp2
            go_ret
            exact ⟨rfl, hB2.out⟩
      · obtain rfl : k = l.length := by omega
        have hlf : lg = true := by
          rw [hlg.out, decide_eq_true hl, Bool.true_and, List.all_eq_true]
          intro a ha
          obtain ⟨j, hj, rfl⟩ := List.getElem_of_mem ha
          exact hn.out j hj hj
        subst hlf
        replace hB := Lib.hid hB
        go_wp2
        go_ret
        exact ⟨rfl, hB.out⟩
  · have hl2 : (12 : Int) < (l.length : Int) := by omega
    have hl3 : 12 < l.length := by omega
    have hlf : lg = false := by rw [hlg.out, decide_eq_false hl]; rfl
    subst hlf
    go_enter Tryz.func9, Tryz.ntmps9
    go_wp2
    go_ret
    exact ⟨rfl, Below.refl _ _⟩

set_option maxHeartbeats 4000000 in
set_option maxRecDepth 100000 in
theorem texts_calls (v1 v2 : Value) (l1 l2 : List Bytes) (w : World) (h1 : Rd w v1 l1) (h2 : Rd w v2 l2) :
    Calls Tryz.prog 22 #[v1, v2] w fun e w' => e = .returned (.bool (decide (l1 = l2))) ∧ Below w.heap.size w w' := by
  obtain ⟨A1, c1, rfl, _, hm1⟩ := h1.shape
  obtain ⟨A2, c2, rfl, _, hm2⟩ := h2.shape
  unfold maxLen at hm1 hm2
  generalize hd : decide (l1 = l2) = d at *
  replace h1 := Lib.hid h1
  replace h2 := Lib.hid h2
  replace hd := Lib.hid hd
  by_cases hl : l1.length = l2.length
  · have hl2 : ((l1.length : Int) != (l2.length : Int)) = false := by rw [bne_eq_false_iff_eq]; omega
    have hl3 : ((l1.length : Int) == (l2.length : Int)) = true := by rw [beq_iff_eq]; omega
    go_enter Tryz.func22, Tryz.ntmps22
    go_wp2_with fail
    go_loopw [13] (fun i wr => ∃ k : Nat, i = .int .i64 k ∧ k ≤ l1.length ∧ Hid (l1.take k = l2.take k) ∧ Below w.heap.size w wr) (fun i _ => l1.length - (intOf i).toNat)
    case atStart => exact ⟨0, rfl, Nat.zero_le _, rfl, Below.refl _ _⟩
    case round =>
      obtain ⟨k, rfl, hk, hn, hB⟩ := hrel
      by_cases hlt : k < l1.length
      · have hlt2 : k < l2.length := by omega
        obtain ⟨g, o, rfl, r1⟩ := (h1.out.below hB).cell hlt
        obtain ⟨g', o', rfl, r2⟩ := (h2.out.below hB).cell hlt2
        have hyes : l1[k] = l2[k] → l1.take (k + 1) = l2.take (k + 1) := fun h => by
          rw [List.take_succ_eq_append_getElem hlt, List.take_succ_eq_append_getElem hlt2, hn.out, h]
        have hno : l1[k] ≠ l2[k] → d = false := fun h => by
          rw [← hd.out, decide_eq_false_iff_not]
          rintro rfl
          exact h rfl
        generalize l1[k] = a at *
        generalize l2[k] = b at *
        have hki : (k : Int) < (l1.length : Int) := by omega
        have hki2 : (k : Int) < (l2.length : Int) := by omega
        by_cases hab : a = b
        · have hy := hyes hab
          subst hab
          have t1 : ((mkS a).toList == (mkS a).toList) = true := by simp
          replace hB := Lib.hid hB
          replace hn := Lib.hid hn
          replace hy := Lib.hid hy
          clear hyes hno
          go_wp2_with fail
          go_quiet (fail)
          rename_i nq
          have hB2 := below_step hB.out (below_drewN (Below.refl wr.heap.size wr) nq)
          replace hB2 := Lib.hid hB2
          go_wp2
          go_roundw
          case rel => exact ⟨k + 1, by go_num, by omega, hy, hB2.out⟩
          case measure => simp [intOf]; omega
        · have hdf := hno hab
          have t1 : ((mkS a).toList == (mkS b).toList) = false := strs_not hab
          subst hdf
          replace hB := Lib.hid hB
          replace hn := Lib.hid hn
          replace hab := Lib.hid hab
          clear hyes hno
          go_wp2_with fail
          go_quiet (fail)
          rename_i nq
          have hB2 := below_step hB.out (below_drewN (Below.refl wr.heap.size wr) nq)
          replace hB2 := Lib.hid hB2
          go_wp2
          go_ret
          exact ⟨rfl, hB2.out⟩
      · obtain rfl : k = l1.length := by omega
        have hdt : d = true := by
          have h := hn.out
          rw [List.take_length, hl, List.take_length] at h
          rw [← hd.out, h]
          simp
        subst hdt
        replace hB := Lib.hid hB
        go_wp2
        go_ret
        exact ⟨rfl, hB.out⟩
  · have hl2 : ((l1.length : Int) != (l2.length : Int)) = true := by rw [bne_iff_ne]; omega
    have hl3 : ((l1.length : Int) == (l2.length : Int)) = false := by rw [beq_eq_false_iff_ne]; omega
    have hdf : d = false := by
      rw [← hd.out, decide_eq_false_iff_not]
      rintro rfl
      exact hl rfl
    subst hdf
    replace hl := Lib.hid hl
    go_enter Tryz.func22, Tryz.ntmps22
    go_wp2
    go_ret
    exact ⟨rfl, Below.refl _ _⟩
end Go.Proofs.YtocbjhhnginebaaGreat

namespace Go.Proofs.YtocbjhhnginebaaGreat

theorem Laid.congr {S : Fs} {c : Pt} {V0 : Fs} {d : Pt} {D D' : Pt → Prop} {K : Tak} (h : Laid S c V0 d D K) (hD : ∀ t, D t ↔ D' t) : Laid S c V0 d D' K := by
  have : D = D' := funext fun t => propext (hD t)
  rwa [← this]
theorem cmpL_below : ∀ (x : List Bytes) (y : Bytes) (r : List Bytes), cmpL x (x ++ y :: r) < 0
  | [], y, r => by show (-1 : Int) < 0; decide
  | a :: x, y, r => by
    have ih := cmpL_below x y r
    show cmpL (a :: x) (a :: (x ++ y :: r)) < 0
    unfold cmpL
    rw [cmpB_self]
    simpa using ih
theorem mem_belowS {S : Fs} (hI : S.Inv) {top p : Bytes} : p ∈ S.belowS top ↔ right p = true ∧ p ≠ top ∧ p ≠ [] ∧ split top <+: split p ∧ ∃ i, (split p, i) ∈ S.names := by
  unfold Fs.belowS
  rw [List.mem_filter, mem_paths hI]
  unfold belowT
  simp only [Bool.and_eq_true, decide_eq_true_eq]
  rw [under_prefix]
  constructor
  · rintro ⟨⟨h1, _, h2⟩, ⟨h3, h4⟩, h5⟩
    exact ⟨h1, h3, h4, h5, h2⟩
  · rintro ⟨h1, h2, h3, h4, h5⟩
    exact ⟨⟨h1, h3, h5⟩, ⟨h2, h3⟩, h4⟩
theorem belowS_rising {S : Fs} (hI : S.Inv) (top : Bytes) : (S.belowS top).Pairwise fun a b => cmpP a b < 0 := by
  have h := (paths_rising hI).filter (belowT top)
  exact h.imp fun h => of_decide_eq_true h
/-- What stands below a path, in terms of its rest. -/
theorem belowS_rest {S : Fs} (hI : S.Inv) {top p : Bytes} (h : p ∈ S.belowS top) : right p = true ∧ ∃ t i, t ≠ [] ∧ split p = split top ++ t ∧ (split top ++ t, i) ∈ S.names := by
  obtain ⟨h1, h2, _, ⟨t, ht⟩, i, hi⟩ := (mem_belowS hI).1 h
  refine ⟨h1, t, i, fun e => h2 ?_, ht.symm, by rw [ht]; exact hi⟩
  subst e
  rw [List.append_nil] at ht
  exact split_inj ht.symm
theorem rest_belowS {S : Fs} (hI : S.Inv) {top : Bytes} {t : Pt} {i : Nat} (ht : t ≠ []) (hi : (split top ++ t, i) ∈ S.names) : glue (split top ++ t) ∈ S.belowS top ∧ split (glue (split top ++ t)) = split top ++ t := by
  have hP := hI.pth _ _ hi
  obtain ⟨h1, h2⟩ := hP.text
  refine ⟨(mem_belowS hI).2 ⟨h1, fun e => ?_, fun e => ?_, by rw [h2]; exact List.prefix_append _ _, i, by rw [h2]; exact hi⟩, h2⟩
  · rw [e] at h2
    have := congrArg List.length h2
    rw [List.length_append] at this
    exact ht (List.eq_nil_of_length_eq_zero (by omega))
  · rw [e, split_nil] at h2
    exact ht (List.append_eq_nil_iff.1 h2.symm).2

theorem laid_fold {S : Fs} {top : Bytes} {V0 : Fs} {d : Pt} {a : Bytes} {f : Bytes → Bytes} {K0 : Tak} (hS : S.Inv) (hSo : S.Ok) (hV0 : V0.Inv) {r : Nat} (hr : (d, r) ∈ V0.names) (hrk : (V0.nd r).kind = 2)
    (hf : ∀ p t, p ∈ S.belowS top → split p = split top ++ t → right (f p) = true ∧ split (f p) = d ++ t) (hA : a ≠ [] → ∀ p ∈ S.belowS top, ¬ d <+: split (a ++ p)) (h0 : Laid S (split top) V0 d (fun _ => False) K0) :
    ∀ k, k ≤ (S.belowS top).length → Laid S (split top) V0 d (fun t => ∃ p ∈ (S.belowS top).take k, split p = split top ++ t) (layK S a f K0 ((S.belowS top).take k)) := by
  have hris := belowS_rising hS top
  have hmem := fun p (h : p ∈ S.belowS top) => belowS_rest hS h
  have hall := fun t i ht hi => rest_belowS hS (top := top) (t := t) (i := i) ht hi
  generalize S.belowS top = l at *
  intro k
  induction k with
  | zero =>
    intro _
    refine h0.congr fun t => ⟨fun h => h.elim, ?_⟩
    rintro ⟨p, hp, _⟩
    cases hp
  | succ k ih =>
    intro hk
    have hk' : k < l.length := by omega
    have ih := ih (by omega)
    rw [layK_snoc S a f K0 hk']
    have hin := List.getElem_mem hk'
    obtain ⟨h1, t, i, h2, h3, h4⟩ := hmem _ hin
    obtain ⟨h5, h6⟩ := hf _ t hin h3
    have hidx : ∀ p ∈ l.take k, cmpP p l[k] < 0 := fun p hp => by
      obtain ⟨j, hj, rfl⟩ := List.getElem_of_mem hp
      rw [List.getElem_take]
      rw [List.length_take] at hj
      exact (List.pairwise_iff_getElem.1 hris) j k (by omega) hk' (by omega)
    have hst := thing_step hS hSo hV0 ih hr hrk h1 h3 h5 h6 h2 (fun ⟨p, hp, e⟩ => by
      have := hidx p hp
      rw [split_inj (e.trans h3.symm), cmpP_self] at this
      omega) h4 (by
      by_cases hd : t.dropLast = []
      · exact Or.inl hd
      · right
        obtain ⟨m, hm, _⟩ := hS.up _ _ h4 (by simp [h2])
        rw [append_dropLast h2] at hm
        obtain ⟨q1, q2⟩ := hall _ m hd hm
        refine ⟨_, ?_, q2⟩
        obtain ⟨j, hj, e⟩ := List.getElem_of_mem q1
        have hlt : cmpP l[j] l[k] < 0 := by
          unfold cmpP
          rw [e, q2, h3]
          have := cmpL_below (split top ++ t.dropLast) (t.getLast h2) []
          rw [List.append_assoc, List.dropLast_concat_getLast h2] at this
          exact this
        rcases Nat.lt_trichotomy j k with h | h | h
        · rw [← e]
          exact List.mem_take_iff_getElem.2 ⟨j, by omega, rfl⟩
        · subst h
          rw [cmpP_self] at hlt
          omega
        · have := (List.pairwise_iff_getElem.1 hris) k j hk' hj h
          have h9 := cmpP_trans hlt this
          rw [cmpP_self] at h9
          omega) (fun ha => hA ha _ hin)
    refine hst.congr fun u => ?_
    rw [List.take_succ_eq_append_getElem hk']
    constructor
    · rintro (⟨p, hp, e⟩ | rfl)
      · exact ⟨p, List.mem_append_left _ hp, e⟩
      · exact ⟨_, List.mem_append_right _ (List.mem_singleton.2 rfl), h3⟩
    · rintro ⟨p, hp, e⟩
      rcases List.mem_append.1 hp with hp | hp
      · exact Or.inl ⟨p, hp, e⟩
      · rw [List.mem_singleton] at hp
        subst hp
        exact Or.inr (List.append_cancel_left (e.symm.trans h3))
end Go.Proofs.YtocbjhhnginebaaGreat

namespace Go.Proofs.YtocbjhhnginebaaGreat

theorem may_name {nm : Bytes} (h : mayS nm = true) : right nm = true ∧ split nm = [nm] ∧ (47 : UInt8) ∉ nm := by
  unfold mayS at h
  simp only [Bool.and_eq_true, decide_eq_true_eq] at h
  obtain ⟨⟨h1, h2⟩, _⟩ := h
  have h3 := glue_split nm
  match hs : split nm, h2 with
  | [x], _ =>
    rw [hs] at h3
    have hx : x = nm := h3
    subst hx
    exact ⟨h1, rfl, split_parts x x (by rw [hs]; simp)⟩
theorem right_ne_slash {x : Bytes} (h : split x = [x]) : (47 : UInt8) ∉ x := split_parts x x (by rw [h]; simp)
theorem split_belowName {nm p : Bytes} (h : (47 : UInt8) ∉ nm) (hp : p ≠ []) : split (belowName nm p) = nm :: split p := by
  unfold belowName
  rw [split_ne (by simp), splitL_append nm p h, split_ne hp]
theorem mem_tops {T : Fs} (hI : T.Inv) {x : Bytes} : x ∈ T.tops ↔ ∃ i, ([x], i) ∈ T.names := by
  constructor
  · intro h
    exact (top_name hI h).2.2
  · rintro ⟨i, hi⟩
    unfold Fs.tops
    rw [(sortP_perm _).mem_iff, list_top hI]
    show x ∈ sortB _
    rw [(sortB_perm _).mem_iff]
    exact List.mem_map.2 ⟨(x, i), mem_kidsL.2 (by simpa using hi), rfl⟩
theorem mem_rows {T : Fs} {y : Sh.Shot} : y ∈ T.tops.filterMap T.shotOf ↔ y.1 ∈ T.tops ∧ T.shotOf y.1 = some y := by
  rw [List.mem_filterMap]
  constructor
  · rintro ⟨x, hx, h⟩
    have e := shotOf_name h
    rw [e]
    exact ⟨hx, h⟩
  · rintro ⟨h1, h2⟩
    exact ⟨_, h1, h2⟩
theorem rows_nodup {T : Fs} (hI : T.Inv) : (T.tops.filterMap T.shotOf).Nodup := (shots_bef hI).imp fun {a b} h e => by
  unfold Sh.Bef at h
  rw [e, cmpP_self] at h
  omega
/-- A snapshot, by its name. -/
theorem shotOf_at {T : Fs} (hI : T.Inv) {x : Bytes} {i : Nat} (hx : split x = [x]) (hr : right x = true) (hi : ([x], i) ∈ T.names) : T.shotOf x = if (T.nd i).kind = 2 ∧ 1 ≤ (T.nd i).mt.sec ∧ mayS x = true then some (x, (T.nd i).mt.sec) else none := by
  unfold Fs.shotOf
  rw [stat_name hI hr (by rw [hx]; exact hi)]
  simp [Fs.tell]
theorem lastNum_top {V : Fs} {y : Sh.Shot} (h : y ∈ V.shots) : y.2 ≤ V.lastNum := by
  obtain ⟨k, hk⟩ : ∃ k, V.shots.length = k + 1 := ⟨V.shots.length - 1, by have := List.length_pos_of_mem h; omega⟩
  rw [(lastNum_at hk).1]
  obtain ⟨j, hj, rfl⟩ := List.getElem_of_mem h
  by_cases e : j = k
  · subst e; exact Int.le_refl _
  · have hs : Sh.Sorted V.shots := Sh.sortS_sorted _
    have := (List.pairwise_iff_getElem.1 hs) j k hj (by omega) (by omega)
    unfold Sh.leS at this
    omega
theorem lastNum_bounds {V : Fs} (hM : MtAll V) : 0 ≤ V.lastNum ∧ V.lastNum ≤ 1099511627776 := by
  by_cases h : V.shots = []
  · rw [(lastNum_nil h).1]; omega
  · obtain ⟨k, hk⟩ : ∃ k, V.shots.length = k + 1 := ⟨V.shots.length - 1, by have := List.length_pos_iff.2 h; omega⟩
    rw [(lastNum_at hk).1]
    have := shotOf_ok hM (shots_mem.1 (List.getElem_mem (show k < V.shots.length by omega))).2
    omega

/-- What a Take has done. -/
structure Took (V : Fs) (nm : Bytes) (S V' : Fs) : Prop where
  may : mayS nm = true
  new : ∀ i, ([nm], i) ∉ V.names
  inv : V'.Inv
  ok : V'.Ok
  adds : Adds [nm] V V'
  low : V.lastNum < 1099511627776
  top : ∃ r, ([nm], r) ∈ V'.names ∧ (V'.nd r).kind = 2 ∧ (V'.nd r).mt = ⟨493, V.lastNum + 1, 0, 0, 0⟩
  names : ∀ t, t ≠ [] → ((∃ j, ([nm] ++ t, j) ∈ V'.names) ↔ ∃ i, (t, i) ∈ S.names)
  like : ∀ t i j, t ≠ [] → (t, i) ∈ S.names → ([nm] ++ t, j) ∈ V'.names → Lk S V' i j
  one : ∀ t u i i' j j', t ≠ [] → u ≠ [] → (t, i) ∈ S.names → (u, i') ∈ S.names → ([nm] ++ t, j) ∈ V'.names → ([nm] ++ u, j') ∈ V'.names → (i = i' ↔ j = j')

/-- The state ahead of what is laid. -/
theorem take_start {V : Fs} (hV : V.Inv) (hVo : V.Ok) {nm : Bytes} (hm : mayS nm = true) (hst : (V.stat nm).2 ≠ 0) (hlow : V.lastNum < 1099511627776) (S : Fs) :
    (∀ i, ([nm], i) ∉ V.names) ∧ (V.mkdir nm ⟨493, V.lastNum + 1, 0, 0, 0⟩).1 = V.add [nm] ⟨2, 1, ⟨493, V.lastNum + 1, 0, 0, 0⟩, [], []⟩ ∧
    (V.add [nm] ⟨2, 1, ⟨493, V.lastNum + 1, 0, 0, 0⟩, [], []⟩).Inv ∧ Laid S [] (V.add [nm] ⟨2, 1, ⟨493, V.lastNum + 1, 0, 0, 0⟩, [], []⟩) [nm] (fun _ => False) (takeStart V nm) := by
  obtain ⟨hr, hs, hsl⟩ := may_name hm
  have hne : nm ≠ [] := fun e => by rw [e, split_nil] at hs; cases hs
  have hno : ∀ i, ([nm], i) ∉ V.names := fun i hi => by
    rw [stat_name hV hr (by rw [hs]; exact hi)] at hst
    exact hst rfl
  have hat : V.at (split nm) = none := Fs.at_none.2 fun i hi => hno i (by rwa [hs] at hi)
  have hb := lastNum_bounds hVo.mt
  have hmt : metaOk ⟨493, V.lastNum + 1, 0, 0, 0⟩ = true := by
    unfold metaOk within
    simp
    omega
  have hroot : ((split nm).dropLast, 1) ∈ V.names := by rw [hs]; exact hV.one
  have hmk := mkdir_new hV hr hne hroot hV.topKind hat hmt
  rw [hs] at hmk
  have hI1 : (V.add [nm] ⟨2, 1, ⟨493, V.lastNum + 1, 0, 0, 0⟩, [], []⟩).Inv := add_inv hV (by simp) ⟨nm, hr, hs⟩ (d := 1) hV.one hV.topKind (by rwa [hs] at hat) rfl ⟨Or.inr (Or.inl rfl), by simp, by simp, by simp, by simp⟩
  have e : takeStart V nm = ⟨V.add [nm] ⟨2, 1, ⟨493, V.lastNum + 1, 0, 0, 0⟩, [], []⟩, [], []⟩ := by unfold takeStart; rw [hmk]
  refine ⟨hno, by rw [hmk], hI1, ?_⟩
  rw [e]
  refine ⟨hI1, ok_add hVo hmt (by simp), Adds.refl _ _, fun t (h : False) => h.elim, fun t j ht hj => ?_, fun t (h : False) => h.elim, fun t i j (h : False) => h.elim, fun t u i i' j j' (h : False) => h.elim, (fun i q hq => by cases hq), fun t n (h : False) => h.elim, fun t j (h : False) => h.elim⟩
  simp only [Fs.add, List.mem_append, List.mem_singleton, Prod.mk.injEq] at hj
  rcases hj with hj | ⟨hj, _⟩
  · obtain ⟨k, hk⟩ := hV.above hj
    exact hno k hk
  · exact ht (by simpa using hj)

theorem take_done {V : Fs} (hV : V.Inv) (hVo : V.Ok) {nm : Bytes} {S : Fs} (hS : S.Inv) (hSo : S.Ok) (h : (takeE V nm S).2 = 0) : Took V nm S (takeE V nm S).1 := by
  unfold takeE at h ⊢
  by_cases hm : mayS nm = false
  · rw [if_pos hm] at h; exact absurd h (by simp)
  rw [if_neg hm] at h ⊢
  have hm : mayS nm = true := by simpa using hm
  by_cases hst : (V.stat nm).2 = 0
  · rw [if_pos hst] at h; exact absurd h (by simp)
  rw [if_neg hst] at h ⊢
  by_cases hbig : 1099511627776 ≤ V.lastNum ∨ (S.belowS []).any (tooBig nm) = true
  · rw [if_pos hbig] at h; exact absurd h (by simp)
  rw [if_neg hbig]
  dsimp only
  have hlow : V.lastNum < 1099511627776 := by
    rcases Int.lt_or_le V.lastNum 1099511627776 with h | h
    · exact h
    · exact absurd (Or.inl h) hbig
  have hany : ∀ p ∈ S.belowS [], right (belowName nm p) = true := fun p hp => by
    have h1 : tooBig nm p ≠ true := fun h => hbig (Or.inr (List.any_eq_true.2 ⟨p, hp, h⟩))
    unfold tooBig at h1
    unfold belowName
    simpa using h1
  obtain ⟨hr, hs, hsl⟩ := may_name hm
  obtain ⟨hno, hmk, hI1, h0⟩ := take_start hV hVo hm hst hlow S
  have hadd := adds_add (d := [nm]) (p := [nm]) V ⟨2, 1, ⟨493, V.lastNum + 1, 0, 0, 0⟩, [], []⟩ (List.prefix_refl _)
  have hself : (V.add [nm] ⟨2, 1, ⟨493, V.lastNum + 1, 0, 0, 0⟩, [], []⟩).nd V.next = ⟨2, 1, ⟨493, V.lastNum + 1, 0, 0, 0⟩, [], []⟩ := if_pos rfl
  have hin : ([nm], V.next) ∈ (V.add [nm] ⟨2, 1, ⟨493, V.lastNum + 1, 0, 0, 0⟩, [], []⟩).names := by simp [Fs.add]
  have hnx : V.next < (V.add [nm] ⟨2, 1, ⟨493, V.lastNum + 1, 0, 0, 0⟩, [], []⟩).next := Nat.lt_succ_self _
  generalize hV1 : V.add [nm] ⟨2, 1, ⟨493, V.lastNum + 1, 0, 0, 0⟩, [], []⟩ = V1 at *
  have hfold := laid_fold (top := []) (a := V.lastTop) (f := belowName nm) hS hSo hI1 (r := V.next) hin (by rw [hself]) (fun p t hp ht => by
    rw [split_nil, List.nil_append] at ht
    have hp0 := ((mem_belowS hS).1 hp).2.2.1
    exact ⟨hany p hp, by rw [split_belowName hsl hp0, ht]; rfl⟩) (fun ha p hp hpre => by
    by_cases hsh : V.shots = []
    · exact ha (lastNum_nil hsh).2
    · obtain ⟨k, hk⟩ : ∃ k, V.shots.length = k + 1 := ⟨V.shots.length - 1, by have := List.length_pos_iff.2 hsh; omega⟩
      have hy := List.getElem_mem (show k < V.shots.length by omega)
      obtain ⟨_, e2, i, hi⟩ := top_name hV (shots_mem.1 hy).1
      have hp0 := ((mem_belowS hS).1 hp).2.2.1
      rw [(lastNum_at hk).2] at hpre
      have e3 : (V.shots[k]).1 ++ [47] ++ p = belowName (V.shots[k]).1 p := by unfold belowName; rw [List.append_assoc]; rfl
      rw [e3, split_belowName (right_ne_slash e2) hp0] at hpre
      obtain ⟨z, hz⟩ := hpre
      have : nm = (V.shots[k]).1 := by simpa using (List.cons.inj hz).1
      rw [← this] at hi
      exact hno i hi) h0 (S.belowS []).length (Nat.le_refl _)
  rw [List.take_length] at hfold
  have hD : ∀ t, (∃ p ∈ S.belowS [], split p = split [] ++ t) ↔ t ≠ [] ∧ ∃ i, (t, i) ∈ S.names := fun t => by
    constructor
    · rintro ⟨p, hp, e⟩
      obtain ⟨_, u, i, h1, h2, h3⟩ := belowS_rest hS hp
      have : u = t := List.append_cancel_left (h2.symm.trans e)
      subst this
      exact ⟨h1, i, by simpa [split_nil] using h3⟩
    · rintro ⟨h1, i, hi⟩
      obtain ⟨q1, q2⟩ := rest_belowS hS (top := []) h1 (i := i) (by simpa [split_nil] using hi)
      exact ⟨_, q1, q2⟩
  have hL := hfold.congr hD
  rw [split_nil] at hL
  have e : layK S V.lastTop (belowName nm) (takeStart V nm) (S.belowS []) = takeK V nm S (S.belowS []) := rfl
  rw [e] at hL
  refine ⟨hm, hno, hL.inv, hL.ok, hadd.trans hL.adds, hlow, ⟨V.next, hL.adds.old hin, ?_, ?_⟩, fun t ht => ⟨fun ⟨j, hj⟩ => (hL.names t j ht hj).2, fun hi => hL.there t ⟨ht, hi⟩⟩, fun t i j ht hi hj => hL.like t i j ⟨ht, i, hi⟩ hi hj, fun t u i i' j j' ht hu hi hi' hj hj' => hL.one t u i i' j j' ⟨ht, i, hi⟩ ⟨hu, i', hi'⟩ hi hi' hj hj'⟩
  · rw [← (hL.adds.same V.next hnx).1, hself]
  · rw [← (hL.adds.same V.next hnx).2.1, hself]

theorem Took.shots {V : Fs} {nm : Bytes} {S V' : Fs} (hV : V.Inv) (hVo : V.Ok) (h : Took V nm S V') : V'.shots = V.shots ++ [(nm, V.lastNum + 1)] := by
  obtain ⟨hr, hs, hsl⟩ := may_name h.may
  obtain ⟨r, r1, r2, r3⟩ := h.top
  have hb := lastNum_bounds hVo.mt
  have hne : ∀ x, x ≠ nm → ¬ [nm] <+: [x] := fun x hx ⟨z, hz⟩ => hx (by simpa using (List.cons.inj hz).1.symm)
  have hold : ∀ x, x ≠ nm → (x ∈ V'.tops ↔ x ∈ V.tops) ∧ (x ∈ V.tops → V'.shotOf x = V.shotOf x) := fun x hx => by
    constructor
    · rw [mem_tops h.inv, mem_tops hV]
      exact ⟨fun ⟨i, hi⟩ => ⟨i, (h.adds.out (hne x hx)).1 hi⟩, fun ⟨i, hi⟩ => ⟨i, h.adds.old hi⟩⟩
    · intro hx2
      obtain ⟨q1, q2, i, hi⟩ := top_name hV hx2
      rw [shotOf_at h.inv q2 q1 (h.adds.old hi), shotOf_at hV q2 q1 hi]
      have hl := h.adds.same i (hV.lt _ _ hi).2
      rw [hl.1, hl.2.1]
  have hnew : V'.shotOf nm = some (nm, V.lastNum + 1) := by
    rw [shotOf_at h.inv hs hr r1, r2, r3, if_pos ⟨rfl, by dsimp only; omega, h.may⟩]
  have hnot : ∀ y ∈ V.shots, y.1 ≠ nm := fun y hy e => by
    obtain ⟨_, _, i, hi⟩ := top_name hV (shots_mem.1 hy).1
    rw [e] at hi
    exact h.new i hi
  have hnd : (V.shots ++ [(nm, V.lastNum + 1)]).Nodup := by
    refine List.nodup_append.2 ⟨(Sh.sortS_perm _).nodup_iff.2 (rows_nodup hV), by simp, fun a ha b hb e => ?_⟩
    rw [List.mem_singleton] at hb
    subst hb e
    exact hnot _ ha rfl
  refine (Sh.sortS_eq ((List.perm_ext_iff_of_nodup hnd (rows_nodup h.inv)).2 fun y => ?_) ?_).symm
  · rw [mem_rows, List.mem_append, shots_mem, List.mem_singleton]
    by_cases hy : y.1 = nm
    · constructor
      · rintro (h1 | rfl)
        · exact absurd hy (hnot y (shots_mem.2 h1))
        · exact ⟨(mem_tops h.inv).2 ⟨r, r1⟩, hnew⟩
      · rintro ⟨_, h2⟩
        rw [hy, hnew] at h2
        exact Or.inr (Option.some.inj h2).symm
    · obtain ⟨q1, q2⟩ := hold _ hy
      constructor
      · rintro (⟨h1, h2⟩ | rfl)
        · exact ⟨q1.2 h1, by rw [q2 h1]; exact h2⟩
        · exact absurd rfl hy
      · rintro ⟨h1, h2⟩
        have h1 := q1.1 h1
        exact Or.inl ⟨h1, by rw [← q2 h1]; exact h2⟩
  · refine List.pairwise_append.2 ⟨Sh.sortS_sorted _, by simp, fun a ha b hb => ?_⟩
    rw [List.mem_singleton] at hb
    subst hb
    have := lastNum_top ha
    unfold Sh.leS
    dsimp only
    omega
theorem Took.snaps {V : Fs} {nm : Bytes} {S V' : Fs} (hV : V.Inv) (hVo : V.Ok) (h : Took V nm S V') : V'.snaps = V.snaps ++ [nm] := by
  unfold Fs.snaps
  rw [h.shots hV hVo, List.map_append]
  rfl
theorem shot_stat {T : Fs} (hI : T.Inv) {y : Sh.Shot} (h : y ∈ T.shots) : ∃ i, ([y.1], i) ∈ T.names ∧ T.stat y.1 = (T.tell [y.1] i, 0) ∧ (T.nd i).kind = 2 ∧ (T.nd i).mt.sec = y.2 ∧ mayS y.1 = true := by
  obtain ⟨h1, h2⟩ := shots_mem.1 h
  obtain ⟨q1, q2, i, hi⟩ := top_name hI h1
  rw [shotOf_at hI q2 q1 hi] at h2
  split at h2
  · rename_i hc
    have := Option.some.inj h2
    refine ⟨i, hi, ?_, hc.1, by rw [← this], hc.2.2⟩
    have := stat_name hI q1 (i := i) (by rw [q2]; exact hi)
    rwa [q2] at this
  · cases h2
/-- Each new snapshot is the newest one. -/
theorem Took.newest {V : Fs} {nm : Bytes} {S V' : Fs} (hV : V.Inv) (h : Took V nm S V') : (V'.stat nm).1.mt = ⟨493, V.lastNum + 1, 0, 0, 0⟩ ∧ (V'.stat nm).2 = 0 ∧ ∀ x ∈ V.snaps, (V'.stat x).1.mt.sec < V.lastNum + 1 := by
  obtain ⟨hr, hs, hsl⟩ := may_name h.may
  obtain ⟨r, r1, r2, r3⟩ := h.top
  have hst := stat_name h.inv hr (by rw [hs]; exact r1)
  refine ⟨by rw [hst]; exact r3, by rw [hst], fun x hx => ?_⟩
  obtain ⟨y, hy, rfl⟩ := List.mem_map.1 hx
  obtain ⟨q1, q2, _⟩ := top_name hV (shots_mem.1 hy).1
  obtain ⟨i, hi, _, _, h3, _⟩ := shot_stat hV hy
  have hl := h.adds.same i (hV.lt _ _ hi).2
  rw [stat_name h.inv q1 (by rw [q2]; exact h.adds.old hi)]
  show (V'.nd i).mt.sec < _
  rw [← hl.2.1, h3]
  have := lastNum_top hy
  omega
end Go.Proofs.YtocbjhhnginebaaGreat

namespace Go.Proofs.YtocbjhhnginebaaGreat
open Go.RowKit

/-- A tree that has just been built. -/
theorem build_small {l : List Act17} (h : small l = true) : (Fs.build l).names.length ≤ 41 ∧ (Fs.build l).next ≤ 42 := by
  have h1 := acts_grow Fs.start l
  have h2 := (small_at h).1
  have h3 : Fs.start.names.length = 1 := rfl
  have h4 : Fs.start.next = 2 := rfl
  unfold Fs.build
  omega
/-- A Restore of a snapshot that is there. -/
theorem restore_yes (tb : Nat) (A M : Nat → Nat) (V : Fs) (nm : Bytes) (w : World) (hR : Rep w tb A M V) (hM : MtAll V) (hn : nm.length ≤ 1000000) (hf : V.names.length ≤ 500000) (hz : (findE V nm).2.2 = 0) :
    Calls Tryz.prog 13 #[.pointer (some ⟨tb, 0, none⟩), .string (mkS nm)] w fun e w' => ∃ tc C MC, e = .returned (.tuple #[.pointer (some ⟨tc, 0, none⟩), .int .i64 0]) ∧ Rep w' tc C MC (restE V nm) ∧ (∀ b, Own tc C MC (restE V nm) b → w.heap.size ≤ b) ∧ Below w.heap.size w w' := by
  refine (restore_calls tb A M V nm w hR hM hn hf).mono ?_
  intro e w' hr
  unfold RestRes at hr
  rwa [if_pos hz] at hr
/-- .. and of one that is not. -/
theorem restore_no (tb : Nat) (A M : Nat → Nat) (V : Fs) (nm : Bytes) (w : World) (hR : Rep w tb A M V) (hM : MtAll V) (hn : nm.length ≤ 1000000) (hf : V.names.length ≤ 500000) (hz : (findE V nm).2.2 ≠ 0) :
    Calls Tryz.prog 13 #[.pointer (some ⟨tb, 0, none⟩), .string (mkS nm)] w fun e w' => e = .returned (.tuple #[.pointer none, .int .i64 (findE V nm).2.2]) ∧ Below w.heap.size w w' := by
  refine (restore_calls tb A M V nm w hR hM hn hf).mono ?_
  intro e w' hr
  unfold RestRes at hr
  rwa [if_neg hz] at hr
end Go.Proofs.YtocbjhhnginebaaGreat

namespace Go.Proofs.YtocbjhhnginebaaGreat

/-- What stands below d in V is what stands below c in S. -/
structure Img (V : Fs) (d : Pt) (S : Fs) (c : Pt) : Prop where
  names : ∀ t, t ≠ [] → ((∃ j, (d ++ t, j) ∈ V.names) ↔ ∃ i, (c ++ t, i) ∈ S.names)
  like : ∀ t i j, t ≠ [] → (c ++ t, i) ∈ S.names → (d ++ t, j) ∈ V.names → Lk S V i j
  one : ∀ t u i i' j j', t ≠ [] → u ≠ [] → (c ++ t, i) ∈ S.names → (c ++ u, i') ∈ S.names → (d ++ t, j) ∈ V.names → (d ++ u, j') ∈ V.names → (i = i' ↔ j = j')
theorem Img.symm {V S : Fs} {d c : Pt} (h : Img V d S c) : Img S c V d :=
  ⟨fun t ht => (h.names t ht).symm, fun t i j ht hi hj => (h.like t j i ht hj hi).symm, fun t u i i' j j' ht hu hi hi' hj hj' => (h.one t u j j' i i' ht hu hj hj' hi hi').symm⟩
theorem Img.trans {V S R : Fs} {d c b : Pt} (h : Img V d S c) (k : Img S c R b) : Img V d R b := by
  refine ⟨fun t ht => (h.names t ht).trans (k.names t ht), fun t i j ht hi hj => ?_, fun t u i i' j j' ht hu hi hi' hj hj' => ?_⟩
  · obtain ⟨m, hm⟩ := (k.names t ht).2 ⟨i, hi⟩
    exact (k.like t i m ht hi hm).trans (h.like t m j ht hm hj)
  · obtain ⟨m, hm⟩ := (k.names t ht).2 ⟨i, hi⟩
    obtain ⟨m', hm'⟩ := (k.names u hu).2 ⟨i', hi'⟩
    exact (k.one t u i i' m m' ht hu hi hi' hm hm').trans (h.one t u m m' j j' ht hu hm hm' hj hj')
theorem Took.img {V : Fs} {nm : Bytes} {S V' : Fs} (h : Took V nm S V') : Img V' [nm] S [] := ⟨h.names, h.like, h.one⟩
/-- What is added elsewhere changes nothing below a name. -/
theorem Adds.img {V V' : Fs} {d e : Pt} (hV : V.Inv) (h : Adds d V V') (hn : ∀ t, t ≠ [] → ¬ d <+: e ++ t) (hV' : V'.Inv) : Img V' e V e := by
  refine ⟨fun t ht => ⟨fun ⟨j, hj⟩ => ⟨j, (h.out (hn t ht)).1 hj⟩, fun ⟨i, hi⟩ => ⟨i, h.old hi⟩⟩, fun t i j ht hi hj => ?_, fun t u i i' j j' ht hu hi hi' hj hj' => ?_⟩
  · obtain rfl := hV'.at_one (h.old hi) hj
    exact h.same i (hV.lt _ _ hi).2
  · obtain rfl := hV'.at_one (h.old hi) hj
    obtain rfl := hV'.at_one (h.old hi') hj'
    exact Iff.rfl
theorem other_name {a b : Bytes} (h : a ≠ b) (t : Pt) : ¬ [b] <+: [a] ++ t := fun ⟨z, hz⟩ => h (by simpa using (List.cons.inj hz).1.symm)

/-- The rest of a path is a path. -/
theorem right_rest {p x : Bytes} {t : Pt} (hp : right p = true) (hs : split p = x :: t) (ht : t ≠ []) : p = x ++ 47 :: glue t ∧ right (glue t) = true ∧ split (glue t) = t := by
  have hg : p = x ++ 47 :: glue t := by
    rw [← glue_cons x ht, ← hs, glue_split]
  have hparts := right_part hp
  rw [hs] at hparts
  have h2 : split (glue t) = t := split_glue (fun y hy => split_parts p y (by rw [hs]; exact List.mem_cons_of_mem _ hy)) (fun y hy => partOk_ne (hparts y (List.mem_cons_of_mem _ hy)))
  refine ⟨hg, ?_, h2⟩
  simp only [right, Bool.and_eq_true, decide_eq_true_eq, List.all_eq_true] at hp ⊢
  obtain ⟨⟨h3, h4⟩, h5⟩ := hp
  rw [h2]
  rw [hs, List.length_cons] at h4
  rw [hg, List.length_append, List.length_cons] at h5
  exact ⟨⟨fun y hy => hparts y (List.mem_cons_of_mem _ hy), by omega⟩, by omega⟩
theorem fromName_at {nm p : Bytes} {r : Bytes} (hp : p = nm ++ 47 :: r) : fromName nm p = r := by
  unfold fromName trimP
  have e : p = (nm ++ [47]) ++ r := by rw [hp, List.append_assoc]; rfl
  rw [e, if_pos (by simp [List.isPrefixOf_iff_prefix]), List.drop_left' rfl]

/-- What is restored is as it was. -/
theorem rest_done {V : Fs} (hV : V.Inv) (hVo : V.Ok) {nm : Bytes} (hm : mayS nm = true) : (restE V nm).Inv ∧ (restE V nm).Ok ∧ Img (restE V nm) [] V [nm] ∧ ((restE V nm).nd 1).mt = ⟨493, 0, 0, 0, 0⟩ := by
  obtain ⟨hr, hs, hsl⟩ := may_name hm
  have h0 : Laid V (split nm) Fs.start [] (fun _ => False) ⟨Fs.start, [], []⟩ := by
    refine ⟨start_inv, ok_start, Adds.refl _ _, fun t (h : False) => h.elim, fun t j ht hj => ?_, fun t (h : False) => h.elim, fun t i j (h : False) => h.elim, fun t u i i' j j' (h : False) => h.elim, (fun i q hq => by cases hq), fun t n (h : False) => h.elim, fun t j (h : False) => h.elim⟩
    simp only [Fs.start, List.nil_append, List.mem_singleton, Prod.mk.injEq] at hj
    exact ht hj.1
  have hfold := laid_fold (top := nm) (a := []) (f := fromName nm) hV hVo start_inv (r := 1) start_inv.one start_inv.topKind (fun p t hp ht => by
    have hp1 := ((mem_belowS hV).1 hp).1
    have ht0 : t ≠ [] := fun e => by
      subst e
      rw [List.append_nil] at ht
      exact ((mem_belowS hV).1 hp).2.1 (split_inj ht)
    rw [hs] at ht
    obtain ⟨g1, g2, g3⟩ := right_rest hp1 (x := nm) (t := t) ht ht0
    rw [fromName_at g1]
    exact ⟨g2, by rw [g3]; rfl⟩) (fun h => absurd rfl h) h0 (V.belowS nm).length (Nat.le_refl _)
  rw [List.take_length] at hfold
  have hD : ∀ t, (∃ p ∈ V.belowS nm, split p = split nm ++ t) ↔ t ≠ [] ∧ ∃ i, ([nm] ++ t, i) ∈ V.names := fun t => by
    constructor
    · rintro ⟨p, hp, e⟩
      obtain ⟨_, u, i, h1, h2, h3⟩ := belowS_rest hV hp
      have : u = t := List.append_cancel_left (h2.symm.trans e)
      subst this
      exact ⟨h1, i, by rwa [hs] at h3⟩
    · rintro ⟨h1, i, hi⟩
      obtain ⟨q1, q2⟩ := rest_belowS hV (top := nm) h1 (i := i) (by rwa [hs])
      exact ⟨_, q1, q2⟩
  have hL := hfold.congr hD
  rw [hs] at hL
  have e : (layK V [] (fromName nm) ⟨Fs.start, [], []⟩ (V.belowS nm)).V = restE V nm := rfl
  have hLi := hL.inv
  have hLo := hL.ok
  have hLa := hL.adds
  have hLn := hL.names
  have hLt := hL.there
  have hLl := hL.like
  have hL1 := hL.one
  rw [e] at hLi hLo hLa hLn hLt hLl hL1
  refine ⟨hLi, hLo, ⟨fun t ht => ⟨fun ⟨j, hj⟩ => (hLn t j ht hj).2, fun hi => hLt t ⟨ht, hi⟩⟩, fun t i j ht hi hj => hLl t i j ⟨ht, i, hi⟩ hi hj, fun t u i i' j j' ht hu hi hi' hj hj' => hL1 t u i i' j j' ⟨ht, i, hi⟩ ⟨hu, i', hi'⟩ hi hi' hj hj'⟩, ?_⟩
  exact (hLa.same 1 (by decide)).2.1.symm

theorem only_top {T : Fs} (hI : T.Inv) {p : Pt} (h : (p, 1) ∈ T.names) : p = [] := hI.single _ _ hI.one (by rw [hI.topKind]; decide) _ h
/-- Two whole trees that are images are the same, if their tops are. -/
theorem img_same {T S : Fs} (hT : T.Inv) (hS : S.Inv) (h : Img T [] S []) (hm : (T.nd 1).mt = (S.nd 1).mt) : SameFs T S := by
  have htop : ∀ {U : Fs}, U.Inv → ∀ {i : Nat}, ([], i) ∈ U.names → i = 1 := fun {U} hU {i} hi => hU.at_one hi hU.one
  have ht := hT.ok hT.one
  have hs := hS.ok hS.one
  have hroot : Lk T S 1 1 := by
    refine ⟨hT.topKind.trans hS.topKind.symm, hm, ?_, ?_⟩
    · rw [ht.plain.2.1 (by rw [hT.topKind]; decide), hs.plain.2.1 (by rw [hS.topKind]; decide)]
    · rw [ht.plain.1 (by rw [hT.topKind]; decide), hs.plain.1 (by rw [hS.topKind]; decide)]
  refine ⟨fun p i hi => ?_, fun p j hj => ?_, fun p i j hi hj => ?_, fun p q i j h1 h2 h3 => ?_, fun p q i j h1 h2 h3 => ?_⟩
  · by_cases hp : p = []
    · subst hp; exact ⟨1, hS.one⟩
    · exact (h.names p hp).1 ⟨i, hi⟩
  · by_cases hp : p = []
    · subst hp; exact ⟨1, hT.one⟩
    · exact (h.names p hp).2 ⟨j, hj⟩
  · by_cases hp : p = []
    · subst hp
      rw [htop hT hi, htop hS hj]
      exact hroot
    · exact (h.like p j i hp hj hi).symm
  · by_cases hp : p = []
    · subst hp
      obtain rfl := htop hT h1
      obtain rfl := only_top hT h2
      exact h3
    · by_cases hq : q = []
      · subst hq
        obtain rfl := htop hT h2
        exact absurd (only_top hT h1) hp
      · obtain ⟨j', hj'⟩ := (h.names q hq).1 ⟨i, h2⟩
        obtain rfl := (h.one p q j j' i i hp hq h3 hj' h1 h2).2 rfl
        exact hj'
  · by_cases hp : p = []
    · subst hp
      obtain rfl := htop hS h2
      obtain rfl := only_top hS h3
      exact h1
    · by_cases hq : q = []
      · subst hq
        obtain rfl := htop hS h3
        exact absurd (only_top hS h2) hp
      · obtain ⟨i', hi'⟩ := (h.names q hq).2 ⟨j, h3⟩
        obtain rfl := (h.one p q j j i i' hp hq h2 h3 h1 hi').1 rfl
        exact hi'
end Go.Proofs.YtocbjhhnginebaaGreat

namespace Go.Proofs.YtocbjhhnginebaaGreat

theorem link_inv {T : Fs} {o q : Bytes} {p : Pt} {j : Nat} (hI : T.Inv) (h : (p, j) ∈ (T.link o q).1.names) : (p, j) ∈ T.names ∨ (p = split q ∧ (split o, j) ∈ T.names) := by
  unfold Fs.link at h
  split at h
  · exact Or.inl h
  · split at h
    · exact Or.inl h
    · rename_i hz
      obtain ⟨_, i, e1, e2⟩ := there_zero hI (by simpa using hz)
      rw [e1] at h
      dsimp only at h
      split at h
      · exact Or.inl h
      · split at h
        · exact Or.inl h
        · simp only [Fs.name, List.mem_append, List.mem_singleton, Prod.mk.injEq] at h
          rcases h with h | ⟨rfl, rfl⟩
          · exact Or.inl h
          · exact Or.inr ⟨rfl, e2⟩
theorem mkdir_mono (T : Fs) (q : Bytes) (m : Mt) {x : Pt × Nat} (h : x ∈ T.names) : x ∈ (T.mkdir q m).1.names := by
  unfold Fs.mkdir
  (repeat' split)
  all_goals first | exact h | exact List.mem_append_left _ h
theorem symlink_mono (T : Fs) (q t : Bytes) (m : Mt) {x : Pt × Nat} (h : x ∈ T.names) : x ∈ (T.symlink q t m).1.names := by
  unfold Fs.symlink
  (repeat' split)
  all_goals first | exact h | exact List.mem_append_left _ h
theorem write_mono (T : Fs) (q b : Bytes) (m : Mt) {x : Pt × Nat} (h : x ∈ T.names) : x ∈ (T.write q b m).1.names := by
  unfold Fs.write
  (repeat' split)
  all_goals first | exact h | exact List.mem_append_left _ h
theorem link_mono (T : Fs) (o q : Bytes) {x : Pt × Nat} (h : x ∈ T.names) : x ∈ (T.link o q).1.names := by
  unfold Fs.link
  (repeat' split)
  all_goals first | exact h | exact List.mem_append_left _ h
theorem thing_mono (S : Fs) (a : Bytes) (K : Tak) (p q : Bytes) {x : Pt × Nat} (h : x ∈ K.V.names) : x ∈ (thingE S a K p q).V.names := by
  unfold thingE
  split
  · exact h
  · split
    · exact mkdir_mono _ _ _ h
    · split
      · exact symlink_mono _ _ _ _ h
      · unfold fileE
        split
        · exact link_mono _ _ _ h
        · split
          · exact link_mono _ _ _ h
          · exact write_mono _ _ _ _ h

/-- The files that are laid below d are those below e. -/
structure Shr (S : Fs) (d e : Pt) (D : Pt → Prop) (K : Tak) : Prop where
  shr : ∀ t i j, D t → (t, i) ∈ S.names → (S.nd i).kind = 1 → (d ++ t, j) ∈ K.V.names → (e ++ t, j) ∈ K.V.names
  used : ∀ k ∈ K.U, ∃ (t : Pt) (n : Nat), D t ∧ k = (n : Int) ∧ (d ++ t, n) ∈ K.V.names

theorem share_step {S V0 : Fs} {d e : Pt} {D D' : Pt → Prop} {K : Tak} {a p q : Bytes} {t : Pt} {i : Nat} (hS : S.Inv) (hV0 : V0.Inv) (h : Laid S [] V0 d D K) (h' : Laid S [] V0 d D' (thingE S a K p q)) (hD' : ∀ u, D' u ↔ D u ∨ u = t) (hD : ¬ D t) (hDS : ∀ u, D u → ∃ i, (u, i) ∈ S.names)
    (hs : Shr S d e D K) (hImg : Img V0 e S []) (he : ∀ u, ¬ d <+: e ++ u) (ht : t ≠ []) (hi : (t, i) ∈ S.names) (hp : right p = true) (hps : split p = t) (hqs : split q = d ++ t) (ha : a ≠ []) (hap : split (a ++ p) = e ++ t) (hra : right (a ++ p) = true) :
    Shr S d e D' (thingE S a K p q) := by
  have hI := h.inv
  have hI' := h'.inv
  have himg : Img K.V e S [] := (h.adds.img hV0 (fun u _ => he u) hI).trans hImg
  have hst : S.stat p = (S.tell (split p) i, 0) := stat_name hS hp (by rw [hps]; exact hi)
  obtain ⟨j1, hj1⟩ := (himg.names t ht).2 ⟨i, hi⟩
  have hl1 := himg.like t i j1 ht hi hj1
  have hmono : ∀ {x : Pt × Nat}, x ∈ K.V.names → x ∈ (thingE S a K p q).V.names := fun hx => thing_mono S a K p q hx
  obtain ⟨jt, hjt⟩ := h'.there t ((hD' t).2 (Or.inr rfl))
  have hjtn : (d ++ t, jt) ∉ K.V.names := fun hx => hD (h.names t jt ht hx)
  -- the file's own node, and what has been used then
  have hkey : (S.nd i).kind = 1 → jt = j1 ∧ ∀ k ∈ (thingE S a K p q).U, k ∈ K.U ∨ k = (j1 : Int) := by
    intro k1
    have hE : thingE S a K p q = fileE S a K p q (S.tell (split p) i) := by
      unfold thingE
      rw [hst]
      dsimp only
      rw [if_neg (by simp), if_neg (show ¬ (S.tell (split p) i).kind = 2 by dsimp only [Fs.tell]; rw [k1]; decide), if_neg (show ¬ (S.tell (split p) i).kind = 3 by dsimp only [Fs.tell]; rw [k1]; decide)]
    have hE2 : fileE S a K p q (S.tell (split p) i) = match laidAt K.L i with
      | some o => ⟨(K.V.link o q).1, K.L, K.U⟩
      | none => match sharedE K.V a K.U p (S.tell (split p) i) (S.read p).1 with
        | (some o, U) => ⟨(K.V.link o q).1, K.L ++ [((i : Int), q)], U⟩
        | (none, U) => ⟨(K.V.write q (S.read p).1 (S.nd i).mt).1, K.L ++ [((i : Int), q)], U⟩ := rfl
    rw [hE, hE2] at hjt
    rw [hE, hE2]
    cases hla : laidAt K.L i with
    | some o =>
      rw [hla] at hjt
      dsimp only at hjt ⊢
      obtain ⟨u, n, e1, e2, e3, e4, e5, e6⟩ := h.laid _ _ (laidAt_some hla)
      obtain rfl : i = n := by omega
      refine ⟨?_, fun k hk => Or.inl hk⟩
      rcases link_inv hI hjt with hx | ⟨_, hx⟩
      · exact absurd hx hjtn
      · rw [e6] at hx
        have := hs.shr u i jt e2 e3 k1 hx
        exact (himg.one t u i i j1 jt ht (h.ne u e2) hi e3 hj1 this).1 rfl |>.symm
    | none =>
      rw [hla] at hjt
      dsimp only at hjt ⊢
      have hlk := hl1
      have hkj : (K.V.nd j1).kind = 1 := hlk.1.symm.trans k1
      have hsj : K.V.stat (a ++ p) = (K.V.tell (split (a ++ p)) j1, 0) := stat_name hI hra (by rw [hap]; exact hj1)
      have hrj : K.V.read (a ++ p) = ((K.V.nd j1).data, 0) := read_name hI hra (by rw [hap]; exact hj1) hkj
      have hrs : S.read p = ((S.nd i).data, 0) := read_name hS hp (by rw [hps]; exact hi) k1
      have hnu : (j1 : Int) ∉ K.U := fun hk => by
        obtain ⟨u, n, u1, u2, u3⟩ := hs.used _ hk
        obtain rfl : j1 = n := by omega
        obtain ⟨i2, hi2⟩ := hDS u u1
        have hl2 := h.like u i2 j1 u1 hi2 u3
        have h5 := hs.shr u i2 j1 u1 hi2 (hl2.1.trans hkj) u3
        have h6 := (himg.one t u i i2 j1 j1 ht (h.ne u u1) hi hi2 hj1 h5).2 rfl
        subst h6
        exact h.all u i u1 hi2 k1 hla
      have hsE : sharedE K.V a K.U p (S.tell (split p) i) (S.read p).1 = (some (a ++ p), K.U ++ [(j1 : Int)]) := by
        unfold sharedE
        rw [if_neg ha, hsj, hrj, hrs]
        dsimp only [Fs.tell]
        exact if_pos ⟨rfl, hkj, hlk.2.1.symm, hnu, rfl, hlk.2.2.2⟩
      rw [hsE] at hjt ⊢
      dsimp only at hjt ⊢
      refine ⟨?_, fun k hk => ?_⟩
      · rcases link_inv hI hjt with hx | ⟨_, hx⟩
        · exact absurd hx hjtn
        · rw [hap] at hx
          exact hI.at_one hx hj1
      · rcases List.mem_append.1 hk with hk | hk
        · exact Or.inl hk
        · exact Or.inr (by simpa using hk)
  have hU0 : (S.nd i).kind ≠ 1 → (thingE S a K p q).U = K.U := fun k1 => by
    have hok := (hS.ok hi).kind
    unfold thingE
    rw [hst]
    dsimp only
    rw [if_neg (by simp)]
    by_cases k2 : (S.nd i).kind = 2
    · rw [if_pos (show (S.tell (split p) i).kind = 2 from k2)]
    · rw [if_neg (show ¬ (S.tell (split p) i).kind = 2 from k2)]
      have k3 : (S.nd i).kind = 3 := by rcases hok with h | h | h; exact absurd h k1; exact absurd h k2; exact h
      rw [if_pos (show (S.tell (split p) i).kind = 3 from k3)]
  refine ⟨fun u i' j hu hi' hk hj => ?_, fun k hk => ?_⟩
  · rcases (hD' u).1 hu with hu | rfl
    · obtain ⟨j0, hj0⟩ := h.there u hu
      obtain rfl := hI'.at_one (hmono hj0) hj
      exact hmono (hs.shr u i' j0 hu hi' hk hj0)
    · obtain rfl := hS.at_one hi' hi
      obtain rfl := hI'.at_one hjt hj
      rw [(hkey hk).1]
      exact hmono hj1
  · have hold : k ∈ K.U → ∃ (t : Pt) (n : Nat), D' t ∧ k = (n : Int) ∧ (d ++ t, n) ∈ (thingE S a K p q).V.names := fun hk => by
      obtain ⟨u, n, u1, u2, u3⟩ := hs.used _ hk
      exact ⟨u, n, (hD' u).2 (Or.inl u1), u2, hmono u3⟩
    by_cases k1 : (S.nd i).kind = 1
    · rcases (hkey k1).2 k hk with hk | rfl
      · exact hold hk
      · exact ⟨t, j1, (hD' t).2 (Or.inr rfl), rfl, by rw [← (hkey k1).1]; exact hjt⟩
    · rw [hU0 k1] at hk
      exact hold hk
end Go.Proofs.YtocbjhhnginebaaGreat

namespace Go.Proofs.YtocbjhhnginebaaGreat

theorem take_conds {V : Fs} {nm : Bytes} {S : Fs} (h : (takeE V nm S).2 = 0) : mayS nm = true ∧ (V.stat nm).2 ≠ 0 ∧ V.lastNum < 1099511627776 ∧ (∀ p ∈ S.belowS [], right (belowName nm p) = true) ∧ (takeE V nm S).1 = (takeK V nm S (S.belowS [])).V := by
  unfold takeE at h ⊢
  by_cases hm : mayS nm = false
  · rw [if_pos hm] at h; exact absurd h (by simp)
  rw [if_neg hm] at h ⊢
  by_cases hst : (V.stat nm).2 = 0
  · rw [if_pos hst] at h; exact absurd h (by simp)
  rw [if_neg hst] at h ⊢
  by_cases hbig : 1099511627776 ≤ V.lastNum ∨ (S.belowS []).any (tooBig nm) = true
  · rw [if_pos hbig] at h; exact absurd h (by simp)
  rw [if_neg hbig]
  refine ⟨by simpa using hm, hst, ?_, fun p hp => ?_, rfl⟩
  · rcases Int.lt_or_le V.lastNum 1099511627776 with h | h
    · exact h
    · exact absurd (Or.inl h) hbig
  · have h1 : tooBig nm p ≠ true := fun h => hbig (Or.inr (List.any_eq_true.2 ⟨p, hp, h⟩))
    unfold tooBig at h1
    unfold belowName
    simpa using h1

theorem share_fold {S V0 : Fs} {d e : Pt} {a : Bytes} {f : Bytes → Bytes} {K0 : Tak} (hS : S.Inv) (hSo : S.Ok) (hV0 : V0.Inv) {r : Nat} (hr : (d, r) ∈ V0.names) (hrk : (V0.nd r).kind = 2)
    (hf : ∀ p t, p ∈ S.belowS [] → split p = split [] ++ t → right (f p) = true ∧ split (f p) = d ++ t) (hA : a ≠ [] → ∀ p ∈ S.belowS [], ¬ d <+: split (a ++ p)) (h0 : Laid S (split []) V0 d (fun _ => False) K0)
    (hImg : Img V0 e S []) (he : ∀ u, ¬ d <+: e ++ u) (ha : a ≠ []) (hap : ∀ p ∈ S.belowS [], right (a ++ p) = true ∧ split (a ++ p) = e ++ split p) (hs0 : Shr S d e (fun _ => False) K0) :
    ∀ k, k ≤ (S.belowS []).length → Shr S d e (fun t => ∃ p ∈ (S.belowS []).take k, split p = split [] ++ t) (layK S a f K0 ((S.belowS []).take k)) := by
  have hL := laid_fold hS hSo hV0 hr hrk hf hA h0
  have hris := belowS_rising hS []
  have hmem := fun p (h : p ∈ S.belowS []) => belowS_rest hS h
  rw [split_nil] at *
  generalize S.belowS [] = l at *
  intro k
  induction k with
  | zero =>
    intro _
    have e1 : (fun t => ∃ p ∈ l.take 0, split p = [] ++ t) = fun _ => False := funext fun t => propext ⟨(fun ⟨p, hp, _⟩ => by cases hp), fun (h : False) => h.elim⟩
    rw [e1]
    exact hs0
  | succ k ih =>
    intro hk
    have hk' : k < l.length := by omega
    have ih := ih (by omega)
    have h := hL k (by omega)
    have h' := hL (k + 1) hk
    rw [layK_snoc S a f K0 hk'] at h' ⊢
    have hin := List.getElem_mem hk'
    obtain ⟨h1, t, i, h2, h3, h4⟩ := hmem _ hin
    rw [List.nil_append] at h3 h4
    obtain ⟨h5, h6⟩ := hf _ t hin (by rw [h3]; rfl)
    obtain ⟨h7, h8⟩ := hap _ hin
    have hidx : ∀ p ∈ l.take k, cmpP p l[k] < 0 := fun p hp => by
      obtain ⟨j, hj, rfl⟩ := List.getElem_of_mem hp
      rw [List.getElem_take]
      rw [List.length_take] at hj
      exact (List.pairwise_iff_getElem.1 hris) j k (by omega) hk' (by omega)
    refine share_step (t := t) (i := i) hS hV0 h h' (fun u => ?_) (fun ⟨p, hp, e⟩ => ?_) (fun u ⟨p, hp, e⟩ => ?_) ih hImg he h2 h4 h1 h3 h6 ha (by rw [h8, h3]) h7
    · rw [List.take_succ_eq_append_getElem hk']
      constructor
      · rintro ⟨p, hp, e⟩
        rcases List.mem_append.1 hp with hp | hp
        · exact Or.inl ⟨p, hp, e⟩
        · rw [List.mem_singleton] at hp
          subst hp
          exact Or.inr (by rw [h3] at e; simpa using e.symm)
      · rintro (⟨p, hp, e⟩ | rfl)
        · exact ⟨p, List.mem_append_left _ hp, e⟩
        · exact ⟨_, List.mem_append_right _ (List.mem_singleton.2 rfl), by rw [h3]; rfl⟩
    · have := hidx p hp
      rw [split_inj (e.trans (by rw [h3]; rfl)), cmpP_self] at this
      omega
    · obtain ⟨_, u', i', g1, g2, g3⟩ := hmem p (List.mem_of_mem_take hp)
      rw [List.nil_append] at g2 g3 e
      rw [← e, g2]
      exact ⟨i', g3⟩

theorem name_apart {V V1 : Fs} {a b : Bytes} {S : Fs} (h1 : Took V a S V1) (hb : ∀ i, ([b], i) ∉ V1.names) : a ≠ b := fun e => by
  obtain ⟨r, hr, _⟩ := h1.top
  rw [e] at hr
  exact hb r hr
theorem took_lastTop {V : Fs} {a : Bytes} {S V1 : Fs} (hV : V.Inv) (hVo : V.Ok) (h : Took V a S V1) : V1.lastTop = a ++ [47] := by
  unfold Fs.lastTop
  rw [h.shots hV hVo, List.getLast?_append]
  rfl
/-- All files are shared. -/
theorem twice_shared {V V1 : Fs} {a b : Bytes} {S : Fs} (hV : V.Inv) (hVo : V.Ok) (hS : S.Inv) (hSo : S.Ok) (h1 : Took V a S V1) (h2 : (takeE V1 b S).2 = 0) {t : Pt} {i j1 j2 : Nat} (ht : t ≠ []) (hi : (t, i) ∈ S.names) (hk : (S.nd i).kind = 1)
    (hj1 : ([a] ++ t, j1) ∈ (takeE V1 b S).1.names) (hj2 : ([b] ++ t, j2) ∈ (takeE V1 b S).1.names) : j1 = j2 := by
  have hT := take_done h1.inv h1.ok hS hSo h2
  obtain ⟨hm, hst, hlow, hany, hE⟩ := take_conds h2
  obtain ⟨hr, hs, hsl⟩ := may_name hm
  obtain ⟨hra, hsa, hsla⟩ := may_name h1.may
  obtain ⟨hno, hmk, hI1, h0⟩ := take_start h1.inv h1.ok hm hst hlow S
  have hab : a ≠ b := name_apart h1 hno
  have hself : (V1.add [b] ⟨2, 1, ⟨493, V1.lastNum + 1, 0, 0, 0⟩, [], []⟩).nd V1.next = ⟨2, 1, ⟨493, V1.lastNum + 1, 0, 0, 0⟩, [], []⟩ := if_pos rfl
  have hin : ([b], V1.next) ∈ (V1.add [b] ⟨2, 1, ⟨493, V1.lastNum + 1, 0, 0, 0⟩, [], []⟩).names := by simp [Fs.add]
  have hadd := adds_add (d := [b]) (p := [b]) V1 ⟨2, 1, ⟨493, V1.lastNum + 1, 0, 0, 0⟩, [], []⟩ (List.prefix_refl _)
  have hImg : Img (V1.add [b] ⟨2, 1, ⟨493, V1.lastNum + 1, 0, 0, 0⟩, [], []⟩) [a] S [] := (hadd.img h1.inv (fun t _ => other_name hab t) hI1).trans h1.img
  have hlt := took_lastTop hV hVo h1
  have e3 : ∀ p, V1.lastTop ++ p = belowName a p := fun p => by rw [hlt]; unfold belowName; rw [List.append_assoc]; rfl
  generalize hW : V1.add [b] ⟨2, 1, ⟨493, V1.lastNum + 1, 0, 0, 0⟩, [], []⟩ = W at *
  have hsh := share_fold (a := V1.lastTop) (f := belowName b) (d := [b]) (e := [a]) hS hSo hI1 (r := V1.next) hin (by rw [hself]) (fun p t hp ht => by
    rw [split_nil, List.nil_append] at ht
    have hp0 := ((mem_belowS hS).1 hp).2.2.1
    exact ⟨hany p hp, by rw [split_belowName hsl hp0, ht]; rfl⟩) (fun _ p hp => by
    have hp0 := ((mem_belowS hS).1 hp).2.2.1
    rw [e3, split_belowName hsla hp0]
    exact other_name hab (split p)) h0 hImg (fun u => other_name hab u) (by rw [hlt]; simp) (fun p hp => by
    have hp0 := ((mem_belowS hS).1 hp).2.2.1
    rw [e3, split_belowName hsla hp0]
    refine ⟨?_, rfl⟩
    obtain ⟨_, t', i', g1, g2, g3⟩ := belowS_rest hS hp
    rw [split_nil, List.nil_append] at g2 g3
    obtain ⟨j, hj⟩ := (hImg.names t' g1).2 ⟨i', g3⟩
    obtain ⟨q1, q2⟩ := (hI1.pth _ _ hj).text
    have : belowName a p = glue ([a] ++ t') := by rw [← glue_split (belowName a p), split_belowName hsla hp0, g2]; rfl
    rw [this]
    exact q1) ⟨fun t i j (h : False) => h.elim, fun k hk => by cases hk⟩ (S.belowS []).length (Nat.le_refl _)
  rw [List.take_length] at hsh
  obtain ⟨q1, q2⟩ := rest_belowS hS (top := []) ht (i := i) (by simpa [split_nil] using hi)
  have e : (layK S V1.lastTop (belowName b) (takeStart V1 b) (S.belowS [])).V = (takeE V1 b S).1 := hE.symm
  have := hsh.shr t i j2 ⟨_, q1, q2⟩ hi hk (by rw [e]; exact hj2)
  rw [e] at this
  exact hT.inv.at_one hj1 this
end Go.Proofs.YtocbjhhnginebaaGreat

namespace Go.Proofs.YtocbjhhnginebaaGreat

def Fs.files (S : Fs) : Nat := (S.paths.filter fun p => decide ((S.stat p).1.kind = 1)).length

theorem text_below {V : Fs} (hV : V.Inv) {x p : Bytes} {t : Pt} {j : Nat} (hx : (47 : UInt8) ∉ x) (hp : p ≠ []) (hs : split p = t) (hj : ([x] ++ t, j) ∈ V.names) : right (belowName x p) = true ∧ split (belowName x p) = [x] ++ t := by
  have e : split (belowName x p) = [x] ++ t := by rw [split_belowName hx hp, hs]; rfl
  obtain ⟨q1, q2⟩ := (hV.pth _ _ hj).text
  have : belowName x p = glue ([x] ++ t) := by rw [← glue_split (belowName x p), e]
  rw [this]
  exact ⟨q1, q2⟩
theorem find_at {T : Fs} {nm : Bytes} {k : Nat} (hm : mayS nm = true) (hk : k < T.shots.length) (h : T.shots[k].1 = nm) (hn : ∀ j (hj : j < T.shots.length), j < k → T.shots[j].1 ≠ nm) : findE T nm = (T.shots, k, 0) := by
  unfold findE
  rw [if_pos hm, whereI_some hk h hn]
theorem find_any {T : Fs} {nm : Bytes} (hm : mayS nm = true) (h : nm ∈ T.snaps) : (findE T nm).2.2 = 0 := by
  unfold findE
  rw [if_pos hm]
  cases hw : whereI T.shots nm with
  | some k => rfl
  | none =>
    obtain ⟨y, hy, e⟩ := List.mem_map.1 h
    unfold whereI at hw
    rw [List.findIdx?_eq_none_iff] at hw
    have := hw y hy
    simp [e] at this
theorem trimP_at {x r : Bytes} : trimP (x ++ r) x = r := by
  unfold trimP
  rw [if_pos (by simp [List.isPrefixOf_iff_prefix]), List.drop_left' rfl]

theorem below_perm {V S : Fs} (hV : V.Inv) (hS : S.Inv) {x : Bytes} (hx : split x = [x]) (h : Img V [x] S []) : (V.belowS x).Perm (S.paths.map (belowName x)) := by
  have hsl := right_ne_slash hx
  have hx0 : x ≠ [] := fun e => by rw [e, split_nil] at hx; cases hx
  have hinj : ∀ p q, p ≠ [] → q ≠ [] → belowName x p = belowName x q → p = q := fun p q _ _ e => by
    unfold belowName at e
    simpa using List.append_cancel_left e
  have hn1 : (V.belowS x).Nodup := (belowS_rising hV x).imp fun {a b} h e => by rw [e, cmpP_self] at h; omega
  have hn2 : (S.paths.map (belowName x)).Nodup := by
    rw [List.Nodup, List.pairwise_map]
    refine List.Pairwise.imp_of_mem ?_ (paths_nodup hS)
    intro a b ha hb hne e
    exact hne (hinj a b ((mem_paths hS).1 ha).2.1 ((mem_paths hS).1 hb).2.1 e)
  refine (List.perm_ext_iff_of_nodup hn1 hn2).2 fun p => ?_
  rw [List.mem_map]
  constructor
  · intro hp
    obtain ⟨h1, t, j, h2, h3, h4⟩ := belowS_rest hV hp
    rw [hx] at h3 h4
    obtain ⟨g1, g2, g3⟩ := right_rest h1 (x := x) (t := t) h3 h2
    obtain ⟨i, hi⟩ := (h.names t h2).1 ⟨j, h4⟩
    refine ⟨glue t, (mem_paths hS).2 ⟨g2, fun e => ?_, i, by rw [g3]; exact hi⟩, g1.symm⟩
    rw [e, split_nil] at g3
    exact h2 g3.symm
  · rintro ⟨q, hq, rfl⟩
    obtain ⟨h1, h2, i, hi⟩ := (mem_paths hS).1 hq
    obtain ⟨j, hj⟩ := (h.names (split q) (split_ne_nil h2)).2 ⟨i, hi⟩
    obtain ⟨q1, q2⟩ := text_below hV hsl h2 rfl hj
    refine (mem_belowS hV).2 ⟨q1, fun e => ?_, fun e => ?_, by rw [q2, hx]; exact List.prefix_append _ _, j, by rw [q2]; exact hj⟩
    · rw [e, hx] at q2
      exact split_ne_nil h2 (by simpa using q2)
    · rw [e, split_nil] at q2
      cases q2

/-- What the law of two Takes asks. -/
theorem twice_done {V V1 : Fs} {a b : Bytes} {S : Fs} (hV : V.Inv) (hVo : V.Ok) (hS : S.Inv) (hSo : S.Ok) (h1 : Took V a S V1) (h2 : (takeE V1 b S).2 = 0) :
    sharedN (takeE V1 b S).1 b = ((S.files : Int), 0) ∧ (findE (takeE V1 b S).1 a).2.2 = 0 ∧ (findE (takeE V1 b S).1 b).2.2 = 0 ∧ SameFs (restE (takeE V1 b S).1 a) (restE (takeE V1 b S).1 b) ∧ (takeE V1 b S).1.snaps = V.snaps ++ [a] ++ [b] := by
  have hT := take_done h1.inv h1.ok hS hSo h2
  have hsh := fun t i j1 j2 ht hi hk hj1 hj2 => twice_shared (t := t) (i := i) (j1 := j1) (j2 := j2) hV hVo hS hSo h1 h2 ht hi hk hj1 hj2
  generalize (takeE V1 b S).1 = V2 at *
  obtain ⟨hra, hsa, hsla⟩ := may_name h1.may
  obtain ⟨hrb, hsb, hslb⟩ := may_name hT.may
  have hab : a ≠ b := name_apart h1 hT.new
  have hs1 := h1.shots hV hVo
  have hs2 := hT.shots h1.inv h1.ok
  have hsn : V2.snaps = V.snaps ++ [a] ++ [b] := by rw [hT.snaps h1.inv h1.ok, h1.snaps hV hVo]
  have hia : Img V2 [a] S [] := (hT.adds.img h1.inv (fun t _ => other_name hab t) hT.inv).trans h1.img
  have hib := hT.img
  have hk : V.shots.length + 1 < V2.shots.length := by rw [hs2, hs1]; simp
  have hy : V2.shots[V.shots.length + 1] = (b, V1.lastNum + 1) := by simp [hs2, hs1]
  have hy0 : V2.shots[V.shots.length]? = some (a, V.lastNum + 1) := by simp [hs2, hs1]
  have hnb : ∀ y ∈ V1.shots, y.1 ≠ b := fun y hy e => by
    obtain ⟨_, _, i, hi⟩ := top_name h1.inv (shots_mem.1 hy).1
    rw [e] at hi
    exact hT.new i hi
  have hfb : findE V2 b = (V2.shots, V.shots.length + 1, 0) := find_at hT.may hk (by rw [hy]) (fun j hj hjk => by
    have hj2 : j < V1.shots.length := by rw [hs1]; simp; omega
    have e : V2.shots[j] = V1.shots[j] := by simp [hs2, List.getElem_append_left hj2]
    rw [e]
    exact hnb _ (List.getElem_mem hj2))
  have hah : aheadOf V2 b = a := by
    unfold aheadOf
    rw [hfb]
    dsimp only
    rw [show V.shots.length + 1 - 1 = V.shots.length by omega, hy0]
    rfl
  have hpt : ∀ p ∈ S.paths, sharedAt V2 a b (belowName b p) = decide ((S.stat p).1.kind = 1) := fun p hp => by
    obtain ⟨g1, g2, i, hi⟩ := (mem_paths hS).1 hp
    have ht := split_ne_nil g2
    obtain ⟨j1, hj1⟩ := (hia.names _ ht).2 ⟨i, hi⟩
    obtain ⟨j2, hj2⟩ := (hib.names _ ht).2 ⟨i, hi⟩
    obtain ⟨r1, r2⟩ := text_below hT.inv hsla g2 rfl hj1
    obtain ⟨r3, r4⟩ := text_below hT.inv hslb g2 rfl hj2
    have e1 : a ++ trimP (belowName b p) b = belowName a p := by unfold belowName; rw [trimP_at]
    unfold sharedAt
    rw [e1, stat_name hT.inv r1 (by rw [r2]; exact hj1), stat_name hT.inv r3 (by rw [r4]; exact hj2), stat_name hS g1 hi]
    have hkk := (hib.like _ i j2 ht hi hj2).1
    rw [Bool.eq_iff_iff]
    simp only [Bool.and_eq_true, decide_eq_true_eq]
    show True ∧ (V2.nd j2).kind = 1 ∧ (j1 : Int) = j2 ↔ (S.nd i).kind = 1
    constructor
    · rintro ⟨_, h, _⟩
      exact hkk.trans h
    · intro k1
      exact ⟨trivial, hkk.symm.trans k1, by rw [hsh _ i j1 j2 ht hi k1 hj1 hj2]⟩
  refine ⟨?_, find_any h1.may (by rw [hsn]; simp), by rw [hfb], ?_, hsn⟩
  · unfold sharedN
    rw [hah, hfb]
    dsimp only
    rw [if_neg (by simp)]
    congr 1
    have hperm := (below_perm hT.inv hS hsb hib).filter (sharedAt V2 a b)
    rw [hperm.length_eq, List.filter_map, List.length_map]
    unfold Fs.files
    congr 1
    exact congrArg List.length (List.filter_congr fun p hp => hpt p hp)
  · obtain ⟨a1, _, a3, a4⟩ := rest_done hT.inv hT.ok h1.may
    obtain ⟨b1, _, b3, b4⟩ := rest_done hT.inv hT.ok hT.may
    exact img_same a1 b1 ((a3.trans hia).trans (b3.trans hib).symm) (a4.trans b4.symm)
end Go.Proofs.YtocbjhhnginebaaGreat
