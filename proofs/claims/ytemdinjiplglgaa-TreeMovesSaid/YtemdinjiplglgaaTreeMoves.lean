/-
  remoralaw17.TreeMoves.
-/
import Derived.Test.YtemdinjiplglgaaB4
import Derived.Test.YtemdinjiplglgaaB1
namespace Go.Proofs.Ytemdinjiplglgaa
open Go.RowKit

theorem ren_err {T : Fs} {o p : Bytes} (h : (T.rename o p).2 ≠ 0) : (T.rename o p).1 = T := by
  have : ErrKeeps T (T.rename o p) := by unfold Fs.rename Fs.ren2 Fs.ren3; (repeat' split); all_goals first | exact err_same T _ | exact err_ok T _
  exact this h
theorem ren_few (T : Fs) (o p : Bytes) : (T.rename o p).1.names.length ≤ T.names.length + 1 := by
  have : Grow T (T.rename o p).1 := by unfold Fs.rename Fs.ren2 Fs.ren3; (repeat' split); all_goals first | exact grow_refl T | exact grow_move T _ _ | exact grow_over T _ _ _
  exact this.1
theorem paths_short {T : Fs} (hI : T.Inv) {q : Bytes} (h : q ∈ T.paths) : q.length ≤ 200 := by
  obtain ⟨h1, _⟩ := (mem_paths hI).1 h
  simp only [right, Bool.and_eq_true, decide_eq_true_eq] at h1
  exact h1.2
theorem Rd.at {W : World} {A : Option Addr} {n c : Nat} {l : List Bytes} (h : Rd W (.slice A n c) l) {j : Nat} (hj : j < l.length) : ∃ g o, A = some ⟨g, o, none⟩ ∧ ∀ k (hk : k < l.length), W.cell? ⟨g, o + k, none⟩ = some (.string (mkS l[k])) := by
  obtain ⟨g, o, e, _⟩ := h.cell hj
  refine ⟨g, o, e, fun k hk => ?_⟩
  obtain ⟨g', o', e', hc⟩ := h.cell hk
  rw [e] at e'
  cases e'
  exact hc

/-- What a Rename without an error tells of the two old Stats. -/
theorem ren_stats {T : Fs} (hI : T.Inv) {o p : Bytes} (h : (T.rename o p).2 = 0) : o ≠ [] ∧ (T.stat o).2 = 0 ∧
    (((T.stat p).2 = 0 ∧ (T.stat p).1.ino = (T.stat o).1.ino ∧ (T.rename o p).1 = T) ∨
     ((T.stat p).2 ≠ 0 ∧ (T.rename o p).1.rename p o = (T, 0) ∧ ∀ q ∈ T.paths, under q o = true → Told T (T.rename o p).1 q (p ++ q.drop o.length)) ∨
     ((T.stat p).2 = 0 ∧ (T.stat p).1.ino ≠ (T.stat o).1.ino ∧ ∀ q ∈ T.paths, under q o = true → Told T (T.rename o p).1 q (p ++ q.drop o.length))) := by
  obtain ⟨h1, h2, h3, h4, i, hi, hc⟩ := ren_zero hI h
  have hso := stat_name hI h1 hi
  refine ⟨h3, by rw [hso], ?_⟩
  have hno : ∀ k, k ≠ i → (split p, k) ∈ T.names → ∀ i', (split o, i') ∈ T.names → (split p, i') ∉ T.names := fun k hk hpk i' hi' hp' => by
    have e1 := hI.at_one hi hi'
    have e2 := hI.at_one hpk hp'
    subst e1
    exact hk e2
  rcases hc with ⟨d, hn, hM, e⟩ | ⟨hpi, e⟩ | ⟨d, k, hk, hki, hik, hIg, hM, e⟩
  · refine Or.inr (Or.inl ⟨stat_none hI fun k => Fs.at_none.1 hn k, by rw [e]; exact ren_back hI h1 h2 h3 h4 hM, fun q hq hu => ren_told hI h (fun i' _ => Fs.at_none.1 hn i') hq hu⟩)
  · exact Or.inl ⟨by rw [stat_name hI h2 hpi], by rw [stat_name hI h2 hpi, hso]; rfl, e⟩
  · refine Or.inr (Or.inr ⟨by rw [stat_name hI h2 hk], by rw [stat_name hI h2 hk, hso]; exact fun h => hki (Int.ofNat.inj h), fun q hq hu => ren_told hI h (hno k hki hk) hq hu⟩)

set_option maxHeartbeats 8000000 in
set_option maxRecDepth 100000 in
theorem treeMoves_walk (v : Value) (l : List Act17) (o p : ByteArray) (w : World) (hv : Acts w v l) :
    Calls Try.prog 7 #[v, .string o, .string p] w fun e w' => e = .returned (.bool true) ∧ Below w.heap.size w w' := by
  have haw := fun W => awake17_calls W
  have hsm := small_calls v l _ hv
  replace haw := Lib.hid haw
  by_cases hc : small l = true ∧ o.size ≤ 600 ∧ p.size ≤ 600
  · obtain ⟨hs1, hos, hps⟩ := hc
    rw [hs1] at hsm
    have hl40 := (small_at hs1).1
    have hbl := build_calls _ l _ hv hs1
    have hgr := acts_grow Fs.start l
    have hfew : (Fs.build l).names.length ≤ 1000 := by
      have : (Fs.build l).names.length ≤ Fs.start.names.length + l.length := hgr.1
      have h9 : Fs.start.names.length = 1 := rfl
      omega
    generalize Fs.build l = T at *
    have hcp := fun tb A M W (hR : Rep W tb A M T) => copy_calls tb A M T W hR
    have hsame := fun tb A M ub B N W (hR : Rep W tb A M T) (hS : Rep W ub B N T) => same_calls tb A M T ub B N T W hR hS
    have hpa := fun tb A M W (hR : Rep W tb A M T) => paths_calls tb A M T W hR (by omega)
    have hsto := fun tb A M W (hR : Rep W tb A M T) => stat_calls tb A M T o W hR (by omega)
    have hstp := fun tb A M W (hR : Rep W tb A M T) => stat_calls tb A M T p W hR (by omega)
    have hstat := fun tb A M T W (s : ByteArray) (hs : s.size ≤ 16777216) (hR : Rep W tb A M T) => stat_calls tb A M T s W hR hs
    have hread := fun tb A M T W (s : ByteArray) (hs : s.size ≤ 16777216) (hR : Rep W tb A M T) => read_calls tb A M T s W hR hs
    have hren := fun tb A M W (hR : Rep W tb A M T) => rename_calls tb A M T o p W hR (by omega) (by omega) (by omega)
    have hzero := fun hI => ren_stats (T := T) hI (o := bl o) (p := bl p)
    have herr := ren_err (T := T) (o := bl o) (p := bl p)
    have hfew2 : (T.rename (bl o) (bl p)).1.names.length ≤ 1000000 := Nat.le_trans (ren_few T (bl o) (bl p)) (by omega)
    generalize T.rename (bl o) (bl p) = ren at *
    obtain ⟨T', er⟩ := ren
    have hren2 := fun tb A M W (hR : Rep W tb A M T') => rename_calls tb A M T' p o W hR (by omega) (by omega) hfew2
    generalize T.stat (bl o) = so at *
    generalize T.stat (bl p) = sp at *
    obtain ⟨⟨a1, a2, a3, a4, ⟨a5, a6, a7, a8, a9⟩, a10⟩, ea⟩ := so
    obtain ⟨⟨b1, b2, b3, b4, ⟨b5, b6, b7, b8, b9⟩, b10⟩, eb⟩ := sp
    unfold statV statCells ptr at *
    dsimp only at *
    have hz1 : decide (600 < (o.size : Int)) = false := by simp; omega
    have hz2 : decide (600 < (p.size : Int)) = false := by simp; omega
    replace hsm := Lib.hid hsm
    replace hbl := Lib.hid hbl
    replace hcp := Lib.hid hcp
    replace hsame := Lib.hid hsame
    replace hpa := Lib.hid hpa
    replace hsto := Lib.hid hsto
    replace hstp := Lib.hid hstp
    replace hstat := Lib.hid hstat
    replace hread := Lib.hid hread
    replace hren := Lib.hid hren
    replace hren2 := Lib.hid hren2
    replace hzero := Lib.hid hzero
    replace herr := Lib.hid herr
    replace hfew2 := Lib.hid hfew2
    replace hv := Lib.hid hv
    replace hs1 := Lib.hid hs1
    clear hgr
    go_enter Try.func7, Try.ntmps7
    go_wp2_with fail
    refine hsm.out.mono ?_
    rintro e w1 ⟨rfl, rfl⟩
    go_wp2_with fail
    (with_reducible refine hbl.out.mono ?_)
    rintro e w2 ⟨tc, C, M, rfl, hR2, hO2, hB2⟩
    have hcp2 := hcp.out tc C M w2 hR2
    have hI := hR2.inv
    replace hcp2 := Lib.hid hcp2
    replace hR2 := Lib.hid hR2
    replace hO2 := Lib.hid hO2
    replace hB2 := Lib.hid hB2
    replace hI := Lib.hid hI
    clear hz1 hz2
    go_wp2_with fail
    (with_reducible refine hcp2.out.mono ?_)
    rintro e w3 ⟨cc, C3, M3, rfl, hR3c, hO3, hB3⟩
    have hR3 := hR2.out.below hB3
    have hdis : ∀ b, Own cc C3 M3 T b → ¬ Own tc C M T b := fun b h1 h2 => by
      have := hO3 b h1
      have := hR2.out.lt h2
      omega
    have hBw3 := below_step hB2.out hB3
    have hO3' : ∀ b, Own cc C3 M3 T b → w.heap.size ≤ b := fun b hb => Nat.le_trans hB2.out.size (hO3 b hb)
    have hst3 := hsto.out cc C3 M3 w3 hR3c
    replace hst3 := Lib.hid hst3
    replace hR3 := Lib.hid hR3
    replace hR3c := Lib.hid hR3c
    replace hO3 := Lib.hid hO3
    replace hO3' := Lib.hid hO3'
    replace hdis := Lib.hid hdis
    replace hBw3 := Lib.hid hBw3
    clear hcp2 hB3
    go_wp2_with fail
    (with_reducible refine hst3.out.mono ?_)
    rintro e w4 ⟨rfl, hB4⟩
    have hB34a := below_alloc hB4 (.cells #[.int .i64 a1, .int .i64 a2, .int .i64 a3, .int .i64 a4, .int .i64 a5, .int .i64 a6, .int .i64 a7, .int .i64 a8, .int .i64 a9, .string (mkS a10)] 38)
    have hblk4 := (MapKept.heap_alloc w4 (.cells #[.int .i64 a1, .int .i64 a2, .int .i64 a3, .int .i64 a4, .int .i64 a5, .int .i64 a6, .int .i64 a7, .int .i64 a8, .int .i64 a9, .string (mkS a10)] 38)).1
    have hst4 := hstp.out cc C3 M3 _ (hR3c.out.below hB34a)
    replace hst4 := Lib.hid hst4
    replace hB34a := Lib.hid hB34a
    replace hblk4 := Lib.hid hblk4
    clear hB4 hst3
    go_wp2_with fail
    (with_reducible refine hst4.out.mono ?_)
    rintro e w5 ⟨rfl, hB5⟩
    have hB35 := below_step hB34a.out hB5
    have hB35a := below_alloc hB35 (.cells #[.int .i64 b1, .int .i64 b2, .int .i64 b3, .int .i64 b4, .int .i64 b5, .int .i64 b6, .int .i64 b7, .int .i64 b8, .int .i64 b9, .string (mkS b10)] 38)
    have hblk5 := (MapKept.heap_alloc w5 (.cells #[.int .i64 b1, .int .i64 b2, .int .i64 b3, .int .i64 b4, .int .i64 b5, .int .i64 b6, .int .i64 b7, .int .i64 b8, .int .i64 b9, .string (mkS b10)] 38)).1
    have hlt4 : w4.heap.size < w5.heap.size := by have := hB5.size; simp at this; omega
    have hblk45 : (w5.alloc (.cells #[.int .i64 b1, .int .i64 b2, .int .i64 b3, .int .i64 b4, .int .i64 b5, .int .i64 b6, .int .i64 b7, .int .i64 b8, .int .i64 b9, .string (mkS b10)] 38)).heap[w4.heap.size]? = some (.cells #[.int .i64 a1, .int .i64 a2, .int .i64 a3, .int .i64 a4, .int .i64 a5, .int .i64 a6, .int .i64 a7, .int .i64 a8, .int .i64 a9, .string (mkS a10)] 38 (0, 0)) := by
      rw [(MapKept.heap_alloc w5 _).2 _ (by omega)]
      exact (hB5.block w4.heap.size (by simp)).trans hblk4.out
    have hre5 := hren.out tc C M _ (hR3.out.below hB35a)
    have hR5 := hR3.out.below hB35a
    have hR5c := hR3c.out.below hB35a
    have hBw5 := below_step hBw3.out hB35a
    have hdis5 := hdis.out
    replace hre5 := Lib.hid hre5
    replace hR5 := Lib.hid hR5
    replace hR5c := Lib.hid hR5c
    replace hBw5 := Lib.hid hBw5
    replace hblk45 := Lib.hid hblk45
    replace hblk5 := Lib.hid hblk5
    replace hdis5 := Lib.hid hdis5
    replace hB35a := Lib.hid hB35a
    clear hB5 hst4 hB35
    go_wp2_with fail
    (with_reducible refine hre5.out.mono ?_)
    rintro e w6 ⟨rfl, hst6⟩
    obtain ⟨hB6, _⟩ := Stp.mine hBw5.out hO2.out hst6
    obtain ⟨hR6c, A6, M6, hR6, hdis6, hown6⟩ := Stp.two hR5c.out hR5.out hdis5.out hst6
    have hO6 : ∀ b, Own tc A6 M6 T' b → w.heap.size ≤ b := fun b hb => by
      rcases hown6 b hb with h | h
      · exact hO2.out b h
      · exact Nat.le_trans hBw5.out.size h
    obtain ⟨A6', M6', hR6', hT6, hown6'⟩ := hst6
    have hk4 : w6.heap[w4.heap.size]? = some (.cells #[.int .i64 a1, .int .i64 a2, .int .i64 a3, .int .i64 a4, .int .i64 a5, .int .i64 a6, .int .i64 a7, .int .i64 a8, .int .i64 a9, .string (mkS a10)] 38 (0, 0)) := (hT6.block _ (by simp; omega) (hR5.out.not_own hblk45.out (by decide) (by decide))).trans hblk45.out
    have hk5 : w6.heap[w5.heap.size]? = some (.cells #[.int .i64 b1, .int .i64 b2, .int .i64 b3, .int .i64 b4, .int .i64 b5, .int .i64 b6, .int .i64 b7, .int .i64 b8, .int .i64 b9, .string (mkS b10)] 38 (0, 0)) := (hT6.block _ (by simp) (hR5.out.not_own hblk5.out (by decide) (by decide))).trans hblk5.out
    clear hown6 hown6' hR6' hT6
    replace hB6 := Lib.hid hB6
    replace hR6c := Lib.hid hR6c
    replace hR6 := Lib.hid hR6
    replace hdis6 := Lib.hid hdis6
    replace hO6 := Lib.hid hO6
    replace hk4 := Lib.hid hk4
    replace hk5 := Lib.hid hk5
    by_cases he : er = 0
    · obtain ⟨ho0, hea, hcs⟩ := hzero.out hI.out he
      subst he
      subst hea
      replace ho0 := Lib.hid ho0
      have x0 := cell_of (j := 1) hk4.out (v := .int .i64 a2) rfl
      have y0 := cell_of (j := 1) hk5.out (v := .int .i64 b2) rfl
      rcases hcs with ⟨hf, hino, hTT⟩ | ⟨hf, hback, htold⟩ | ⟨hf, hino, htold⟩
      · subst hf hTT
        have hino2 : (b2 == a2) = true := by simpa using hino
        have hsm6 := hsame.out tc A6 M6 cc C3 M3 w6 hR6.out hR6c.out
        replace hsm6 := Lib.hid hsm6
        replace hino := Lib.hid hino
        go_wp2_with fail
        (with_reducible refine hsm6.out.mono ?_)
        rintro e w7 ⟨⟨r, rfl, hr⟩, hB7⟩
        have hrt : r = true := hr.2 (SameFs.refl hR6.out.inv)
        subst hrt
        have hBw7 := below_step hB6.out hB7
        replace hBw7 := Lib.hid hBw7
        clear hr hB7
        go_wp2_with fail
        refine (haw.out _).mono ?_
        rintro e w8 ⟨rfl, hB8⟩
        go_wp2
        go_ret
        exact ⟨rfl, below_step hBw7.out hB8⟩

      · have hf1 : (eb == 0) = false := by simpa using hf
        have hf2 : (eb != 0) = true := by simpa using hf
        have hpa6 := hpa.out cc C3 M3 w6 hR6c.out
        replace htold := Lib.hid htold
        replace hback := Lib.hid hback
        replace hf := Lib.hid hf
        replace hpa6 := Lib.hid hpa6
        go_wp2_with fail
        (with_reducible refine hpa6.out.mono ?_)
        rintro e w7 ⟨⟨vp, rfl, hO7⟩, hB7⟩
        have hRd7 := hO7.rd
        obtain ⟨pA, pc, rfl, hpc1, hpc2⟩ := hRd7.shape
        unfold maxLen at hpc2
        have hBw7 := below_step hB6.out hB7
        have hR7 := hR6.out.below hB7
        have hR7c := hR6c.out.below hB7
        replace hRd7 := Lib.hid hRd7
        replace hR7 := Lib.hid hR7
        replace hR7c := Lib.hid hR7c
        replace hBw7 := Lib.hid hBw7
        replace hO7 := Lib.hid hO7
        clear hB7 hpa6 x0 y0
        go_wp2_with fail
        go_loopw [14] (fun i wr => ∃ k : Nat, i = .int .i64 k ∧ k ≤ T.paths.length ∧ Below w7.heap.size w7 wr) (fun i _ => T.paths.length - (intOf i).toNat)
        case atStart => exact ⟨0, rfl, Nat.zero_le _, Below.refl _ _⟩
        case round =>
          obtain ⟨k, rfl, hk, hB⟩ := hrel
          by_cases hlt : k < T.paths.length
          · have hRr := hR7.out.below hB
            have hRrc := hR7c.out.below hB
            have hRdr := hRd7.out.below hB
            obtain ⟨g, o', rfl, hcs⟩ := Rd.at hRdr hlt
            have hck := hcs k hlt
            have hmem : T.paths[k] ∈ T.paths := List.getElem_mem hlt
            have hrl : T.paths[k].length ≤ 200 := paths_short hI.out hmem
            have htold := htold.out T.paths[k] hmem
            generalize T.paths[k] = q at *
            have hsz := mkS_size q
            have hun := fun W => refunder_calls (mkS q) o W (by omega) (by omega)
            rw [bl_mkS] at hun
            have hkeep : ∀ W, Below wr.heap.size wr W → W.cell? ⟨g, o' + k, none⟩ = some (.string (mkS q)) := fun W hW => (hW.cell (cell_lt hck)).trans hck
            replace hRr := Lib.hid hRr
            replace hRrc := Lib.hid hRrc
            replace hRdr := Lib.hid hRdr
            replace hcs := Lib.hid hcs
            replace hun := Lib.hid hun
            replace htold := Lib.hid htold
            replace hmem := Lib.hid hmem
            replace hB := Lib.hid hB
            replace hkeep := Lib.hid hkeep
            by_cases hu : under q (bl o) = true
            · obtain ⟨_, _, hle, _⟩ := under_rest ho0.out hu
              rw [hu] at hun
              obtain ⟨⟨s1, s2, s3, s4, ⟨s5, s6, s7, s8, s9⟩, s10⟩, ex, ht1, ht2, ht3, ht4, ht5, ht6⟩ := htold.out hu
              have hle2 : decide (q.length < o.size) = false := by rw [bl_length] at hle; simp; omega
              replace hu := Lib.hid hu
              go_wp2_with fail
              (with_reducible refine (hun.out _).mono ?_)
              rintro e w8 ⟨rfl, hB8⟩
              have hq8 := hkeep.out _ hB8
              clear hck
              go_wp2_with fail
              generalize hnv : p ++ (mkS q).extract o.size q.length = nv
              have hbn : bl nv = bl p ++ q.drop (bl o).length := by rw [← hnv, bl_append, bl_extract, bl_mkS, List.take_length, bl_length]
              have hnl : nv.size ≤ 200 := by rw [← bl_length, hbn]; exact ht6
              rw [← hbn] at ht2 ht5
              have hB78 := below_step hB.out hB8
              have hst8 := hstat.out cc C3 M3 T w8 (mkS q) (by omega) (hR7c.out.below hB78)
              rw [bl_mkS, ht1] at hst8
              have hq9 : ∀ W, Below w8.heap.size w8 W → W.cell? ⟨g, o' + k, none⟩ = some (.string (mkS q)) := fun W hW => (hW.cell (cell_lt hq8)).trans hq8
              replace hst8 := Lib.hid hst8
              replace hnv := Lib.hid hnv
              replace hbn := Lib.hid hbn
              replace ht1 := Lib.hid ht1
              replace ht2 := Lib.hid ht2
              replace ht3 := Lib.hid ht3
              replace ht4 := Lib.hid ht4
              replace ht5 := Lib.hid ht5
              replace hq9 := Lib.hid hq9
              replace hB78 := Lib.hid hB78
              clear hB8 hkeep hun
              (with_reducible refine hst8.out.mono ?_)
              rintro e w9 ⟨rfl, hB9⟩
              have hB89a := below_alloc hB9 (.cells #[.int .i64 s1, .int .i64 s2, .int .i64 s3, .int .i64 s4, .int .i64 s5, .int .i64 s6, .int .i64 s7, .int .i64 s8, .int .i64 s9, .string (mkS s10)] 38)
              have hblk9 := (MapKept.heap_alloc w9 (.cells #[.int .i64 s1, .int .i64 s2, .int .i64 s3, .int .i64 s4, .int .i64 s5, .int .i64 s6, .int .i64 s7, .int .i64 s8, .int .i64 s9, .string (mkS s10)] 38)).1
              have hB79a := below_step hB78.out hB89a
              have hst9 := hstat.out tc A6 M6 T' _ nv (by omega) (hR7.out.below hB79a)
              rw [ht2.out] at hst9
              replace hst9 := Lib.hid hst9
              replace hblk9 := Lib.hid hblk9
              replace hB79a := Lib.hid hB79a
              replace hB89a := Lib.hid hB89a
              clear hB9 hst8 hq8
              go_wp2_with fail
              (with_reducible refine hst9.out.mono ?_)
              rintro e w10 ⟨rfl, hB10⟩
              have hB810 := below_step hB89a.out hB10
              have hB810a := below_alloc hB810 (.cells #[.int .i64 s1, .int .i64 s2, .int .i64 s3, .int .i64 s4, .int .i64 s5, .int .i64 s6, .int .i64 s7, .int .i64 s8, .int .i64 s9, .string (mkS s10)] 38)
              have hlt9 : w9.heap.size < w10.heap.size := by have := hB10.size; simp at this; omega
              have hk9 : (w10.alloc (.cells #[.int .i64 s1, .int .i64 s2, .int .i64 s3, .int .i64 s4, .int .i64 s5, .int .i64 s6, .int .i64 s7, .int .i64 s8, .int .i64 s9, .string (mkS s10)] 38)).heap[w9.heap.size]? = some (.cells #[.int .i64 s1, .int .i64 s2, .int .i64 s3, .int .i64 s4, .int .i64 s5, .int .i64 s6, .int .i64 s7, .int .i64 s8, .int .i64 s9, .string (mkS s10)] 38 (0, 0)) := by
                rw [(MapKept.heap_alloc w10 _).2 _ (by omega)]
                exact (hB10.block w9.heap.size (by simp)).trans hblk9.out
              have hk10 := (MapKept.heap_alloc w10 (.cells #[.int .i64 s1, .int .i64 s2, .int .i64 s3, .int .i64 s4, .int .i64 s5, .int .i64 s6, .int .i64 s7, .int .i64 s8, .int .i64 s9, .string (mkS s10)] 38)).1
              have hq10 := hq9.out _ hB810a
              have hB710a := below_step hB78.out hB810a
              have hrd10 := hread.out cc C3 M3 T _ (mkS q) (by omega) (hR7c.out.below hB710a)
              rw [bl_mkS] at hrd10
              replace hrd10 := Lib.hid hrd10
              replace hk9 := Lib.hid hk9
              replace hk10 := Lib.hid hk10
              replace hB810a := Lib.hid hB810a
              clear hB10 hst9 hB810 hB710a hblk9
              go_wp2_with fail
              (with_reducible refine hrd10.out.mono ?_)
              rintro e w11 ⟨⟨mv, rfl, hm11⟩, hB11⟩
              obtain ⟨mA, mc, rfl, _, _⟩ := own_shape hm11.own
              have hB811 := below_step hB810a.out hB11
              have hB711 := below_step hB78.out hB811
              have hrd11 := hread.out tc A6 M6 T' _ nv (by omega) (hR7.out.below hB711)
              rw [ht5.out] at hrd11
              replace hrd11 := Lib.hid hrd11
              replace hm11 := Lib.hid hm11
              replace hB811 := Lib.hid hB811
              replace hB11 := Lib.hid hB11
              clear hrd10 hB711 hq10
              go_wp2_with fail
              (with_reducible refine hrd11.out.mono ?_)
              rintro e w12 ⟨⟨nvv, rfl, hm12⟩, hB12⟩
              obtain ⟨nA, nc, rfl, _, _⟩ := own_shape hm12.own
              have hB812 := below_step hB811.out hB12
              have hB712 := below_step hB78.out hB812
              have hst12 := hstat.out tc A6 M6 T' w12 (mkS q) (by omega) (hR7.out.below hB712)
              rw [bl_mkS, ht3.out] at hst12
              have hq12 := hq9.out _ hB812
              have hB1012 := below_step hB11.out hB12
              replace hst12 := Lib.hid hst12
              replace hm12 := Lib.hid hm12
              replace hB812 := Lib.hid hB812
              replace hB712 := Lib.hid hB712
              replace hB12 := Lib.hid hB12
              replace hB1012 := Lib.hid hB1012
              generalize (T'.stat q).1 = sx at *
              obtain ⟨x1, x2, x3, x4, ⟨x5, x6, x7, x8, x9⟩, x10⟩ := sx
              dsimp only at hst12
              clear hrd11
              go_wp2_with fail
              (with_reducible refine hst12.out.mono ?_)
              rintro e w13 ⟨rfl, hB13⟩
              have hB1013 := below_step hB1012.out hB13
              have hB1013a := below_alloc hB1013 (.cells #[.int .i64 x1, .int .i64 x2, .int .i64 x3, .int .i64 x4, .int .i64 x5, .int .i64 x6, .int .i64 x7, .int .i64 x8, .int .i64 x9, .string (mkS x10)] 38)
              have hB13a := (Below.refl w13.heap.size w13).alloc (Nat.le_refl _) (.cells #[.int .i64 x1, .int .i64 x2, .int .i64 x3, .int .i64 x4, .int .i64 x5, .int .i64 x6, .int .i64 x7, .int .i64 x8, .int .i64 x9, .string (mkS x10)] 38)
              have hmb1 := Byts.string (own_below (own_below (own_below hm11.out hB12.out) hB13) hB13a)
              have hmb2 := Byts.string (own_below (own_below hm12.out hB13) hB13a)
              have hkk9 := (hB1013a.block w9.heap.size (by simp; omega)).trans hk9.out
              have hkk10 := (hB1013a.block w10.heap.size (by simp)).trans hk10.out
              have hB713 := below_alloc (below_step hB712.out hB13) (.cells #[.int .i64 x1, .int .i64 x2, .int .i64 x3, .int .i64 x4, .int .i64 x5, .int .i64 x6, .int .i64 x7, .int .i64 x8, .int .i64 x9, .string (mkS x10)] 38)
              have hxe : (ex == 0) = false := by simpa using ht4.out
              have g0 := cell_of (j := 0) hkk9 rfl
              have g1 := cell_of (j := 1) hkk9 rfl
              have g2 := cell_of (j := 2) hkk9 rfl
              have g3 := cell_of (j := 3) hkk9 rfl
              have g4 := cell_of (j := 4) hkk9 rfl
              have g5 := cell_of (j := 5) hkk9 rfl
              have g6 := cell_of (j := 6) hkk9 rfl
              have g7 := cell_of (j := 7) hkk9 rfl
              have g8 := cell_of (j := 8) hkk9 rfl
              have g9 := cell_of (j := 9) hkk9 rfl
              have h0 := cell_of (j := 0) hkk10 rfl
              have h1 := cell_of (j := 1) hkk10 rfl
              have h2 := cell_of (j := 2) hkk10 rfl
              have h3 := cell_of (j := 3) hkk10 rfl
              have h4 := cell_of (j := 4) hkk10 rfl
              have h5 := cell_of (j := 5) hkk10 rfl
              have h6 := cell_of (j := 6) hkk10 rfl
              have h7 := cell_of (j := 7) hkk10 rfl
              have h8 := cell_of (j := 8) hkk10 rfl
              have h9 := cell_of (j := 9) hkk10 rfl
              replace hkk9 := Lib.hid hkk9
              replace hkk10 := Lib.hid hkk10
              replace hB713 := Lib.hid hB713
              replace hB1013 := Lib.hid hB1013
              replace hB1013a := Lib.hid hB1013a
              replace hB13a := Lib.hid hB13a
              clear hB13 hq12 hst12
              go_wp2
              go_roundw
              case rel => exact ⟨k + 1, by go_num, by omega, hB713.out⟩
              case measure => simp [intOf]; omega
            · have hu' : under q (bl o) = false := by simpa using hu
              rw [hu'] at hun
              replace hu := Lib.hid hu
              replace hu' := Lib.hid hu'
              go_wp2_with fail
              (with_reducible refine (hun.out _).mono ?_)
              rintro e w8 ⟨rfl, hB8⟩
              have hB78 := below_step hB.out hB8
              replace hB78 := Lib.hid hB78
              clear hB8 hck
              go_wp2
              go_roundw
              case rel => exact ⟨k + 1, by go_num, by omega, hB78.out⟩
              case measure => simp [intOf]; omega
          · obtain rfl : k = T.paths.length := by omega
            have hRr := hR7.out.below hB
            have hRrc := hR7c.out.below hB
            have hBw := below_step hBw7.out hB
            replace hRr := Lib.hid hRr
            replace hRrc := Lib.hid hRrc
            replace hBw := Lib.hid hBw
            replace hB := Lib.hid hB
            have hre := hren2.out tc A6 M6 _ hRr.out
            rw [hback.out] at hre
            replace hre := Lib.hid hre
            go_wp2_with fail
            (with_reducible refine hre.out.mono ?_)
            rintro e w8 ⟨rfl, hst8⟩
            obtain ⟨hB8, _⟩ := Stp.mine hBw.out hO6.out hst8
            obtain ⟨hR8c, A8, M8, hR8, _, _⟩ := Stp.two hRrc.out hRr.out hdis6.out hst8
            have hsm8 := hsame.out tc A8 M8 cc C3 M3 w8 hR8 hR8c
            replace hsm8 := Lib.hid hsm8
            replace hB8 := Lib.hid hB8
            replace hR8 := Lib.hid hR8
            clear hst8
            go_wp2_with fail
            (with_reducible refine hsm8.out.mono ?_)
            rintro e w9 ⟨⟨r, rfl, hr⟩, hB9⟩
            have hrt : r = true := hr.2 (SameFs.refl hR8.out.inv)
            subst hrt
            have hBw9 := below_step hB8.out hB9
            replace hBw9 := Lib.hid hBw9
            clear hr hB9
            go_wp2_with fail
            refine (haw.out _).mono ?_
            rintro e w10 ⟨rfl, hB10⟩
            go_wp2
            go_ret
            exact ⟨rfl, below_step hBw9.out hB10⟩


      · subst hf
        have hino2 : (b2 == a2) = false := by simpa using hino
        have hpa6 := hpa.out cc C3 M3 w6 hR6c.out
        replace htold := Lib.hid htold
        replace hino := Lib.hid hino
        replace hpa6 := Lib.hid hpa6
        go_wp2_with fail
        (with_reducible refine hpa6.out.mono ?_)
        rintro e w7 ⟨⟨vp, rfl, hO7⟩, hB7⟩
        have hRd7 := hO7.rd
        obtain ⟨pA, pc, rfl, hpc1, hpc2⟩ := hRd7.shape
        unfold maxLen at hpc2
        have hBw7 := below_step hB6.out hB7
        have hR7 := hR6.out.below hB7
        have hR7c := hR6c.out.below hB7
        replace hRd7 := Lib.hid hRd7
        replace hR7 := Lib.hid hR7
        replace hR7c := Lib.hid hR7c
        replace hBw7 := Lib.hid hBw7
        replace hO7 := Lib.hid hO7
        clear hB7 hpa6 x0 y0 hino2
        go_wp2_with fail
        go_loopw [14] (fun i wr => ∃ k : Nat, i = .int .i64 k ∧ k ≤ T.paths.length ∧ Below w7.heap.size w7 wr) (fun i _ => T.paths.length - (intOf i).toNat)
        case atStart => exact ⟨0, rfl, Nat.zero_le _, Below.refl _ _⟩
        case round =>
          obtain ⟨k, rfl, hk, hB⟩ := hrel
          by_cases hlt : k < T.paths.length
          · have hRr := hR7.out.below hB
            have hRrc := hR7c.out.below hB
            have hRdr := hRd7.out.below hB
            obtain ⟨g, o', rfl, hcs⟩ := Rd.at hRdr hlt
            have hck := hcs k hlt
            have hmem : T.paths[k] ∈ T.paths := List.getElem_mem hlt
            have hrl : T.paths[k].length ≤ 200 := paths_short hI.out hmem
            have htold := htold.out T.paths[k] hmem
            generalize T.paths[k] = q at *
            have hsz := mkS_size q
            have hun := fun W => refunder_calls (mkS q) o W (by omega) (by omega)
            rw [bl_mkS] at hun
            have hkeep : ∀ W, Below wr.heap.size wr W → W.cell? ⟨g, o' + k, none⟩ = some (.string (mkS q)) := fun W hW => (hW.cell (cell_lt hck)).trans hck
            replace hRr := Lib.hid hRr
            replace hRrc := Lib.hid hRrc
            replace hRdr := Lib.hid hRdr
            replace hcs := Lib.hid hcs
            replace hun := Lib.hid hun
            replace htold := Lib.hid htold
            replace hmem := Lib.hid hmem
            replace hB := Lib.hid hB
            replace hkeep := Lib.hid hkeep
            by_cases hu : under q (bl o) = true
            · obtain ⟨_, _, hle, _⟩ := under_rest ho0.out hu
              rw [hu] at hun
              obtain ⟨⟨s1, s2, s3, s4, ⟨s5, s6, s7, s8, s9⟩, s10⟩, ex, ht1, ht2, ht3, ht4, ht5, ht6⟩ := htold.out hu
              have hle2 : decide (q.length < o.size) = false := by rw [bl_length] at hle; simp; omega
              replace hu := Lib.hid hu
              go_wp2_with fail
              (with_reducible refine (hun.out _).mono ?_)
              rintro e w8 ⟨rfl, hB8⟩
              have hq8 := hkeep.out _ hB8
              clear hck
              go_wp2_with fail
              generalize hnv : p ++ (mkS q).extract o.size q.length = nv
              have hbn : bl nv = bl p ++ q.drop (bl o).length := by rw [← hnv, bl_append, bl_extract, bl_mkS, List.take_length, bl_length]
              have hnl : nv.size ≤ 200 := by rw [← bl_length, hbn]; exact ht6
              rw [← hbn] at ht2 ht5
              have hB78 := below_step hB.out hB8
              have hst8 := hstat.out cc C3 M3 T w8 (mkS q) (by omega) (hR7c.out.below hB78)
              rw [bl_mkS, ht1] at hst8
              have hq9 : ∀ W, Below w8.heap.size w8 W → W.cell? ⟨g, o' + k, none⟩ = some (.string (mkS q)) := fun W hW => (hW.cell (cell_lt hq8)).trans hq8
              replace hst8 := Lib.hid hst8
              replace hnv := Lib.hid hnv
              replace hbn := Lib.hid hbn
              replace ht1 := Lib.hid ht1
              replace ht2 := Lib.hid ht2
              replace ht3 := Lib.hid ht3
              replace ht4 := Lib.hid ht4
              replace ht5 := Lib.hid ht5
              replace hq9 := Lib.hid hq9
              replace hB78 := Lib.hid hB78
              clear hB8 hkeep hun
              (with_reducible refine hst8.out.mono ?_)
              rintro e w9 ⟨rfl, hB9⟩
              have hB89a := below_alloc hB9 (.cells #[.int .i64 s1, .int .i64 s2, .int .i64 s3, .int .i64 s4, .int .i64 s5, .int .i64 s6, .int .i64 s7, .int .i64 s8, .int .i64 s9, .string (mkS s10)] 38)
              have hblk9 := (MapKept.heap_alloc w9 (.cells #[.int .i64 s1, .int .i64 s2, .int .i64 s3, .int .i64 s4, .int .i64 s5, .int .i64 s6, .int .i64 s7, .int .i64 s8, .int .i64 s9, .string (mkS s10)] 38)).1
              have hB79a := below_step hB78.out hB89a
              have hst9 := hstat.out tc A6 M6 T' _ nv (by omega) (hR7.out.below hB79a)
              rw [ht2.out] at hst9
              replace hst9 := Lib.hid hst9
              replace hblk9 := Lib.hid hblk9
              replace hB79a := Lib.hid hB79a
              replace hB89a := Lib.hid hB89a
              clear hB9 hst8 hq8
              go_wp2_with fail
              (with_reducible refine hst9.out.mono ?_)
              rintro e w10 ⟨rfl, hB10⟩
              have hB810 := below_step hB89a.out hB10
              have hB810a := below_alloc hB810 (.cells #[.int .i64 s1, .int .i64 s2, .int .i64 s3, .int .i64 s4, .int .i64 s5, .int .i64 s6, .int .i64 s7, .int .i64 s8, .int .i64 s9, .string (mkS s10)] 38)
              have hlt9 : w9.heap.size < w10.heap.size := by have := hB10.size; simp at this; omega
              have hk9 : (w10.alloc (.cells #[.int .i64 s1, .int .i64 s2, .int .i64 s3, .int .i64 s4, .int .i64 s5, .int .i64 s6, .int .i64 s7, .int .i64 s8, .int .i64 s9, .string (mkS s10)] 38)).heap[w9.heap.size]? = some (.cells #[.int .i64 s1, .int .i64 s2, .int .i64 s3, .int .i64 s4, .int .i64 s5, .int .i64 s6, .int .i64 s7, .int .i64 s8, .int .i64 s9, .string (mkS s10)] 38 (0, 0)) := by
                rw [(MapKept.heap_alloc w10 _).2 _ (by omega)]
                exact (hB10.block w9.heap.size (by simp)).trans hblk9.out
              have hk10 := (MapKept.heap_alloc w10 (.cells #[.int .i64 s1, .int .i64 s2, .int .i64 s3, .int .i64 s4, .int .i64 s5, .int .i64 s6, .int .i64 s7, .int .i64 s8, .int .i64 s9, .string (mkS s10)] 38)).1
              have hq10 := hq9.out _ hB810a
              have hB710a := below_step hB78.out hB810a
              have hrd10 := hread.out cc C3 M3 T _ (mkS q) (by omega) (hR7c.out.below hB710a)
              rw [bl_mkS] at hrd10
              replace hrd10 := Lib.hid hrd10
              replace hk9 := Lib.hid hk9
              replace hk10 := Lib.hid hk10
              replace hB810a := Lib.hid hB810a
              clear hB10 hst9 hB810 hB710a hblk9
              go_wp2_with fail
              (with_reducible refine hrd10.out.mono ?_)
              rintro e w11 ⟨⟨mv, rfl, hm11⟩, hB11⟩
              obtain ⟨mA, mc, rfl, _, _⟩ := own_shape hm11.own
              have hB811 := below_step hB810a.out hB11
              have hB711 := below_step hB78.out hB811
              have hrd11 := hread.out tc A6 M6 T' _ nv (by omega) (hR7.out.below hB711)
              rw [ht5.out] at hrd11
              replace hrd11 := Lib.hid hrd11
              replace hm11 := Lib.hid hm11
              replace hB811 := Lib.hid hB811
              replace hB11 := Lib.hid hB11
              clear hrd10 hB711 hq10
              go_wp2_with fail
              (with_reducible refine hrd11.out.mono ?_)
              rintro e w12 ⟨⟨nvv, rfl, hm12⟩, hB12⟩
              obtain ⟨nA, nc, rfl, _, _⟩ := own_shape hm12.own
              have hB812 := below_step hB811.out hB12
              have hB712 := below_step hB78.out hB812
              have hst12 := hstat.out tc A6 M6 T' w12 (mkS q) (by omega) (hR7.out.below hB712)
              rw [bl_mkS, ht3.out] at hst12
              have hq12 := hq9.out _ hB812
              have hB1012 := below_step hB11.out hB12
              replace hst12 := Lib.hid hst12
              replace hm12 := Lib.hid hm12
              replace hB812 := Lib.hid hB812
              replace hB712 := Lib.hid hB712
              replace hB12 := Lib.hid hB12
              replace hB1012 := Lib.hid hB1012
              generalize (T'.stat q).1 = sx at *
              obtain ⟨x1, x2, x3, x4, ⟨x5, x6, x7, x8, x9⟩, x10⟩ := sx
              dsimp only at hst12
              clear hrd11
              go_wp2_with fail
              (with_reducible refine hst12.out.mono ?_)
              rintro e w13 ⟨rfl, hB13⟩
              have hB1013 := below_step hB1012.out hB13
              have hB1013a := below_alloc hB1013 (.cells #[.int .i64 x1, .int .i64 x2, .int .i64 x3, .int .i64 x4, .int .i64 x5, .int .i64 x6, .int .i64 x7, .int .i64 x8, .int .i64 x9, .string (mkS x10)] 38)
              have hB13a := (Below.refl w13.heap.size w13).alloc (Nat.le_refl _) (.cells #[.int .i64 x1, .int .i64 x2, .int .i64 x3, .int .i64 x4, .int .i64 x5, .int .i64 x6, .int .i64 x7, .int .i64 x8, .int .i64 x9, .string (mkS x10)] 38)
              have hmb1 := Byts.string (own_below (own_below (own_below hm11.out hB12.out) hB13) hB13a)
              have hmb2 := Byts.string (own_below (own_below hm12.out hB13) hB13a)
              have hkk9 := (hB1013a.block w9.heap.size (by simp; omega)).trans hk9.out
              have hkk10 := (hB1013a.block w10.heap.size (by simp)).trans hk10.out
              have hB713 := below_alloc (below_step hB712.out hB13) (.cells #[.int .i64 x1, .int .i64 x2, .int .i64 x3, .int .i64 x4, .int .i64 x5, .int .i64 x6, .int .i64 x7, .int .i64 x8, .int .i64 x9, .string (mkS x10)] 38)
              have hxe : (ex == 0) = false := by simpa using ht4.out
              have g0 := cell_of (j := 0) hkk9 rfl
              have g1 := cell_of (j := 1) hkk9 rfl
              have g2 := cell_of (j := 2) hkk9 rfl
              have g3 := cell_of (j := 3) hkk9 rfl
              have g4 := cell_of (j := 4) hkk9 rfl
              have g5 := cell_of (j := 5) hkk9 rfl
              have g6 := cell_of (j := 6) hkk9 rfl
              have g7 := cell_of (j := 7) hkk9 rfl
              have g8 := cell_of (j := 8) hkk9 rfl
              have g9 := cell_of (j := 9) hkk9 rfl
              have h0 := cell_of (j := 0) hkk10 rfl
              have h1 := cell_of (j := 1) hkk10 rfl
              have h2 := cell_of (j := 2) hkk10 rfl
              have h3 := cell_of (j := 3) hkk10 rfl
              have h4 := cell_of (j := 4) hkk10 rfl
              have h5 := cell_of (j := 5) hkk10 rfl
              have h6 := cell_of (j := 6) hkk10 rfl
              have h7 := cell_of (j := 7) hkk10 rfl
              have h8 := cell_of (j := 8) hkk10 rfl
              have h9 := cell_of (j := 9) hkk10 rfl
              replace hkk9 := Lib.hid hkk9
              replace hkk10 := Lib.hid hkk10
              replace hB713 := Lib.hid hB713
              replace hB1013 := Lib.hid hB1013
              replace hB1013a := Lib.hid hB1013a
              replace hB13a := Lib.hid hB13a
              clear hB13 hq12 hst12
              go_wp2
              go_roundw
              case rel => exact ⟨k + 1, by go_num, by omega, hB713.out⟩
              case measure => simp [intOf]; omega
            · have hu' : under q (bl o) = false := by simpa using hu
              rw [hu'] at hun
              replace hu := Lib.hid hu
              replace hu' := Lib.hid hu'
              go_wp2_with fail
              (with_reducible refine (hun.out _).mono ?_)
              rintro e w8 ⟨rfl, hB8⟩
              have hB78 := below_step hB.out hB8
              replace hB78 := Lib.hid hB78
              clear hB8 hck
              go_wp2
              go_roundw
              case rel => exact ⟨k + 1, by go_num, by omega, hB78.out⟩
              case measure => simp [intOf]; omega
          · obtain rfl : k = T.paths.length := by omega
            have hRr := hR7.out.below hB
            have hRrc := hR7c.out.below hB
            have hBw := below_step hBw7.out hB
            replace hRr := Lib.hid hRr
            replace hRrc := Lib.hid hRrc
            replace hBw := Lib.hid hBw
            replace hB := Lib.hid hB
            go_wp2_with fail
            refine (haw.out _).mono ?_
            rintro e w8 ⟨rfl, hB8⟩
            go_wp2
            go_ret
            exact ⟨rfl, below_step hBw.out hB8⟩

    · have hT' : T' = T := herr.out he
      subst hT'
      have he2 : (er != 0) = true := by simpa using he
      have he3 : (er == 0) = false := by simpa using he
      have hsm6 := hsame.out tc A6 M6 cc C3 M3 w6 hR6.out hR6c.out
      replace hsm6 := Lib.hid hsm6
      replace he := Lib.hid he
      go_wp2_with fail
      (with_reducible refine hsm6.out.mono ?_)
      rintro e w7 ⟨⟨r, rfl, hr⟩, hB7⟩
      have hrt : r = true := hr.2 (SameFs.refl hR6.out.inv)
      subst hrt
      have hBw7 := below_step hB6.out hB7
      replace hBw7 := Lib.hid hBw7
      clear hr hB7
      go_wp2_with fail
      refine (haw.out _).mono ?_
      rintro e w8 ⟨rfl, hB8⟩
      go_wp2
      go_ret
      exact ⟨rfl, below_step hBw7.out hB8⟩
  · have hex : small l = false ∨ (small l = true ∧ decide (600 < (o.size : Int)) = true) ∨ (small l = true ∧ decide (600 < (o.size : Int)) = false ∧ decide (600 < (p.size : Int)) = true) := by
      by_cases h1 : small l = true
      · by_cases h2 : 600 < o.size
        · exact Or.inr (Or.inl ⟨h1, by simp; omega⟩)
        · refine Or.inr (Or.inr ⟨h1, by simp; omega, ?_⟩)
          have : ¬ p.size ≤ 600 := fun h3 => hc ⟨h1, by omega, h3⟩
          simp
          omega
      · exact Or.inl (small_not h1)
    replace hc := Lib.hid hc
    replace hv := Lib.hid hv
    rcases hex with hs1 | ⟨hs1, hz1⟩ | ⟨hs1, hz1, hz2⟩
    all_goals
      rw [hs1] at hsm
      replace hs1 := Lib.hid hs1
      replace hsm := Lib.hid hsm
      go_enter Try.func7, Try.ntmps7
      go_wp2_with fail
      refine hsm.out.mono ?_
      rintro e w1 ⟨rfl, rfl⟩
      go_wp2_with fail
      refine (haw.out _).mono ?_
      rintro e w1 ⟨rfl, hB1⟩
      go_wp2
      go_ret
      exact ⟨rfl, hB1⟩

end Go.Proofs.Ytemdinjiplglgaa
