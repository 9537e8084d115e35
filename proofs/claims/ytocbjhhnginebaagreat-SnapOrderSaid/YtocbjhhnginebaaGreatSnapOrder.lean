/-
  remoralaw42.SnapOrder.
-/
import Derived.Test.YtocbjhhnginebaaGreatB6
import Derived.Maps.AppendAt
namespace Go.Proofs.YtocbjhhnginebaaGreat
open Go.RowKit
set_option linter.unusedSimpArgs false
set_option linter.unusedVariables false

theorem step_append_src {ops : Array Oper} {o : Oper} {a : Act} {K : Act → World → Prop} {Q : Exit → Act → World → Prop} {E : Prop} {w : World} (hgd : o.guard = none) (s x : Operand) (t : TypeId)
    (ho : o.op = .call { callee := .builtin .append, args := #[s, x], argTypes := #[t, t] })
    (base : Nat) (e : TypeId) (z : Value) (size bytes : Nat) (ht : Tryz.prog.underlying t = some (.slice e)) (hinfo : (Tryz.prog.info? e).map (fun i => (i.zero, i.size, i.bytes)) = some (some z, size, bytes)) (hzs : z.cells.size = size) (hsz : 0 < size)
    (v : Value) (n : Nat) (xs : List Value) (hs : a.eval s = v) (hown : w.ownsRow base e size v n xs)
    (sv : Value) (m : Nat) (news : List Value) (hx : a.eval x = sv) (hsv : Src w sv size m news) (h1 : ∀ u ∈ news, u.oneCell' = true)
    (h63 : n + m ≤ maxLen) (hbytes : (n + m) * bytes ≤ 140737488355328) (hbase : base ≤ w.heap.size)
    (h : ∀ v1 w1, w1.ownsRow base e size v1 (n + m) (xs ++ news) → w.grownBy w1 v.ownBlock → K (a.put o.dst v1) w1) :
    if Region.wanted o (yielded ops a.tmps) = true then Oper.wp Tryz.prog o a w K Q else E := by
  obtain ⟨i0, hi, hzz⟩ := Option.map_eq_some_iff.1 hinfo
  simp only [Prod.mk.injEq] at hzz
  obtain ⟨hz0, hz1, hz2⟩ := hzz
  rcases hsv with ⟨rfl, rfl, A, c, rfl⟩ | ⟨ad, c, rfl, hl, hn⟩
  · obtain ⟨A0, c0, rfl, hc0, _⟩ := own_shape hown
    refine step_append_by hgd s x t ho _ _ hs hx _ w (run_append_zero w t e o.type i0 ht hi A0 A n c0 c hc0) (h _ _ ?_ ⟨rfl, rfl, rfl, Nat.le_refl _, fun _ _ _ => rfl⟩)
    rw [List.append_nil]
    exact hown
  · obtain ⟨v', w', hrun, r1, r2, _⟩ := run_append_own (P := Tryz.prog) w base t o.type e i0 z size bytes ht hi hz0 hz1 hz2 hzs hsz v n xs hown ad m c news hl hn h1 h63 hbytes hbase
    exact step_append_by hgd s x t ho _ _ hs hx v' w' hrun (h _ _ r1 r2)

/-- A row of texts, as something to be put behind another one. -/
theorem Rd.srcOf {W : World} {A : Option Addr} {n c : Nat} {l : List Bytes} (h : Rd W (.slice A n c) l) (hn : n = l.length) : Src W (.slice A n c) 1 l.length (strs l) := by
  subst hn
  by_cases h0 : l.length = 0
  · have : l = [] := List.eq_nil_of_length_eq_zero h0
    subst this
    exact Or.inl ⟨rfl, rfl, A, c, rfl⟩
  · obtain ⟨g, o, rfl, _⟩ := h.cell (show 0 < l.length by omega)
    refine Or.inr ⟨_, c, rfl, by simp [strs], fun j u hu => ?_⟩
    have hj : j < l.length := by
      have := (List.getElem?_eq_some_iff.1 hu).1
      simpa [strs] using this
    obtain ⟨g', o', e, hc⟩ := h.cell hj
    cases e
    have : u = .string (mkS l[j]) := by
      simp [strs, hj] at hu
      exact hu.symm
    rw [this]
    unfold Addr.add
    split
    · rename_i h0
      have h0 : j = 0 := by simpa using h0
      subst h0
      exact hc
    · exact hc
theorem strs_one (l : List Bytes) : ∀ u ∈ strs l, u.oneCell' = true := fun u hu => by
  simp only [strs, List.mem_map] at hu
  obtain ⟨x, _, rfl⟩ := hu
  rfl

set_option maxHeartbeats 1000000 in
set_option maxRecDepth 100000 in
theorem take_nil1 (s : ByteArray) (x : Value) (w : World) : Calls Tryz.prog 12 #[.pointer none, .string s, x] w fun e w' => e = .returned (.int .i64 1) ∧ Below w.heap.size w w' := by
  go_enter Tryz.func12, Tryz.ntmps12
  go_wp2
  go_ret
  exact ⟨rfl, below_alloc (Below.refl _ _) _⟩
set_option maxHeartbeats 1000000 in
set_option maxRecDepth 100000 in
theorem take_nil2 (tb : Nat) (s : ByteArray) (w : World) : Calls Tryz.prog 12 #[.pointer (some ⟨tb, 0, none⟩), .string s, .pointer none] w fun e w' => e = .returned (.int .i64 1) ∧ Below w.heap.size w w' := by
  go_enter Tryz.func12, Tryz.ntmps12
  go_wp2
  go_ret
  exact ⟨rfl, below_alloc (Below.refl _ _) _⟩

/-- A vault of the call's own, not too large. -/
def Vt (w W : World) (vb : Nat) (V : Fs) (n : Nat) : Prop := ∃ A M, Rep W vb A M V ∧ (∀ b, Own vb A M V b → w.heap.size ≤ b) ∧ Below w.heap.size w W ∧ V.Ok ∧ V.names.length ≤ n ∧ V.next ≤ n
theorem Vt.under {w W W' : World} {vb : Nat} {V : Fs} {n : Nat} (h : Vt w W vb V n) (hB : Below W.heap.size W W') : Vt w W' vb V n := by
  obtain ⟨A, M, h1, h2, h3, h4, h5⟩ := h
  exact ⟨A, M, h1.below hB, h2, below_step h3 hB, h4, h5⟩
theorem take_err {V : Fs} {nm : Bytes} {S : Fs} (h : (takeE V nm S).2 ≠ 0) : (takeE V nm S).1 = V := by
  unfold takeE at h ⊢
  (repeat' split)
  all_goals first | rfl | skip
  rename_i h1 h2 h3
  rw [if_neg h1, if_neg h2, if_neg h3] at h
  exact absurd rfl h
/-- Behind a Take: the vault, what it was, the act's record, the names as they were. -/
def Ord (w W : World) (vb : Nat) (V' : Fs) (cb : Nat) (V : Fs) (ab : Nat) (o : Obj) (base : Nat) (vn : Value) (names : List Bytes) : Prop :=
  ∃ A' M' C MC, Rep W vb A' M' V' ∧ (∀ b, Own vb A' M' V' b → w.heap.size ≤ b) ∧ Below w.heap.size w W ∧ Rep W cb C MC V ∧ W.heap[ab]? = some o ∧ Strs base W vn names
set_option maxHeartbeats 16000000 in
set_option maxRecDepth 100000 in
theorem snapOrder_walk (v : Value) (l : List Act17) (u : Value) (la : List A42) (w : World) (hv : Acts w v l) (hu : Acts42 w u la) :
    Calls Tryz.prog 5 #[v, u] w fun e w' => e = .returned (.bool true) ∧ Below w.heap.size w w' := by
  have haw := fun W => awake42_calls W
  have hsm := small_calls v l _ hv
  have hlg := light_calls u la w hu
  have hv0 := hv
  have hu0 := hu
  obtain ⟨vA, vc, rfl, -⟩ := hv
  obtain ⟨uA, uc, rfl, hu1, hu2, -⟩ := hu
  unfold maxLen at hu2
  have hptr := fun (W : World) (tb : Nat) => run_eql_nil_ptr (P := Tryz.prog) W ⟨tb, 0, none⟩ Tryz.underlying27
  cases hs : small l
  · rw [hs] at hsm
    replace haw := Lib.hid haw
    replace hsm := Lib.hid hsm
    replace hlg := Lib.hid hlg
    replace hv0 := Lib.hid hv0
    replace hu0 := Lib.hid hu0
    go_enter Tryz.func5, Tryz.ntmps5
    go_wp2_with fail
    (with_reducible refine (hsm.out).mono ?_)
    rintro e w1 ⟨rfl, rfl⟩
    go_wp2_with fail
    (with_reducible refine (haw.out _).mono ?_)
    rintro e w9 ⟨rfl, hB9⟩
    go_wp2
    go_ret
    exact ⟨rfl, hB9⟩
  · rw [hs] at hsm
    cases hg : light42 la
    · rw [hg] at hlg
      replace haw := Lib.hid haw
      replace hsm := Lib.hid hsm
      replace hlg := Lib.hid hlg
      replace hv0 := Lib.hid hv0
      replace hu0 := Lib.hid hu0
      go_enter Tryz.func5, Tryz.ntmps5
      go_wp2_with fail
      (with_reducible refine (hsm.out).mono ?_)
      rintro e w1 ⟨rfl, rfl⟩
      go_wp2_with fail
      (with_reducible refine (hlg.out).mono ?_)
      rintro e w2 ⟨rfl, hB2⟩
      go_wp2_with fail
      (with_reducible refine (haw.out _).mono ?_)
      rintro e w9 ⟨rfl, hB9⟩
      go_wp2
      go_ret
      exact ⟨rfl, below_step hB2 hB9⟩
    · rw [hg] at hlg
      obtain ⟨hla1, hla2⟩ := light_at hg
      have hbl := fun W hW => build_calls (.slice vA l.length vc) l W hW hs
      obtain ⟨hb1, hb2⟩ := build_small hs
      have hbo := ok_build l
      replace haw := Lib.hid haw
      replace hsm := Lib.hid hsm
      replace hlg := Lib.hid hlg
      replace hv0 := Lib.hid hv0
      replace hu0 := Lib.hid hu0
      replace hbl := Lib.hid hbl
      replace hs := Lib.hid hs
      replace hg := Lib.hid hg
      replace hla2 := Lib.hid hla2
      replace hbo := Lib.hid hbo
      replace hptr := Lib.hid hptr
      go_enter Tryz.func5, Tryz.ntmps5
      go_wp2_with fail
      (with_reducible refine (hsm.out).mono ?_)
      rintro e w1 ⟨rfl, rfl⟩
      go_wp2_with fail
      (with_reducible refine (hlg.out).mono ?_)
      rintro e w2 ⟨rfl, hB2⟩
      have hbl2 := hbl.out w2 (acts_under hv0.out hB2)
      replace hbl2 := Lib.hid hbl2
      replace hB2 := Lib.hid hB2
      go_wp2_with fail
      (with_reducible refine (hbl2.out).mono ?_)
      rintro e w3 ⟨vb, A0, M0, rfl, hR3, hO3, hB3⟩
      have hp3 := hptr.out w3 vb
      have hV3 : Vt w w3 vb (Fs.build l) 100 := ⟨A0, M0, hR3, fun b hb => Nat.le_trans hB2.out.size (hO3 b hb), below_step hB2.out hB3, hbo.out, by omega, by omega⟩
      clear hb1 hb2
      replace hV3 := Lib.hid hV3
      replace hR3 := Lib.hid hR3
      replace hO3 := Lib.hid hO3
      replace hB3 := Lib.hid hB3
      go_wp2_with fail
      clear hp3
      go_loopw [39] (fun i wr => ∃ (k : Nat) (V : Fs), i = .int .i64 k ∧ k ≤ la.length ∧ Vt w wr vb V (100 + 100 * k)) (fun i _ => la.length - (intOf i).toNat)
      case atStart => exact ⟨0, Fs.build l, rfl, Nat.zero_le _, hV3.out⟩
      case round =>
        obtain ⟨k, V, rfl, hk, hvt⟩ := hrel
        by_cases hlt : k < la.length
        · obtain ⟨A, M, hR, hO, hB, hok, hn1, hn2⟩ := id hvt
          have hvr := acts42_under hu0.out hB
          obtain ⟨g, o, sv, rfl, ha, c0, c1, c2, c3, c4⟩ := hvr.at hlt
          obtain ⟨hsa, hnl⟩ := hla2.out _ (List.getElem_mem hlt)
          generalize la[k] = a at *
          obtain ⟨d, nm, src, n1, n2⟩ := a
          dsimp only at *
          obtain ⟨ms1, ms2⟩ := build_small hsa
          have hso := ok_build src
          have hki : (k : Int) < (la.length : Int) := by omega
          obtain ⟨sA, sc, rfl, -⟩ := id ha
          have hBa := below_alloc (Below.refl wr.heap.size wr) (.cells #[.int .i64 d, .string (mkS nm), .slice sA src.length sc, .int .i64 n1, .int .i64 n2] 35)
          have hbk := heap_alloc_new wr (.cells #[.int .i64 d, .string (mkS nm), .slice sA src.length sc, .int .i64 n1, .int .i64 n2] 35)
          have ha3 := acts_under ha hBa
          have hv3 := hvt.under hBa
          have hR3 := hR.below hBa
          clear hvr ha
          replace hvt := Lib.hid hvt
          replace hR := Lib.hid hR
          replace hO := Lib.hid hO
          replace hB := Lib.hid hB
          replace hok := Lib.hid hok
          replace hn1 := Lib.hid hn1
          replace hn2 := Lib.hid hn2
          replace hsa := Lib.hid hsa
          replace hnl := Lib.hid hnl
          replace ms1 := Lib.hid ms1
          replace ms2 := Lib.hid ms2
          replace hso := Lib.hid hso
          replace hBa := Lib.hid hBa
          replace hbk := Lib.hid hbk
          replace ha3 := Lib.hid ha3
          replace hv3 := Lib.hid hv3
          replace hR3 := Lib.hid hR3
          go_upto_region 9 with fail
          generalize wr.alloc (.cells #[.int .i64 d, .string (mkS nm), .slice sA src.length sc, .int .i64 n1, .int .i64 n2] 35) = w3 at *
          clear c0 c1 c2 c3 c4
          have hcp := copy_calls vb A M V w3 hR3.out
          unfold ptr at hcp
          replace hcp := Lib.hid hcp
          go_wp2_with fail
          (with_reducible refine (hcp.out).mono ?_)
          rintro e w4 ⟨cb, C, MC, rfl, hC, hCo, hB4⟩
          have hR4 := hR3.out.below hB4
          have hnm := snapnames_calls vb A M V w4 hR4 hok.out.mt (by have := hn1.out; omega)
          unfold ptr at hnm
          replace hnm := Lib.hid hnm
          replace hC := Lib.hid hC
          replace hCo := Lib.hid hCo
          replace hB4 := Lib.hid hB4
          replace hR4 := Lib.hid hR4
          go_wp2_with fail
          (with_reducible refine (hnm.out).mono ?_)
          rintro e w5 ⟨⟨vn, rfl, hN⟩, hB5⟩
          have hB35 := below_step hB4.out hB5
          have hbk5 := (hB35.block wr.heap.size (Array.getElem?_eq_some_iff.1 hbk.out).1).trans hbk.out
          have d1 := cell_of (j := 1) (v := .string (mkS nm)) hbk5 rfl
          have d2 := cell_of (j := 2) (v := .slice sA src.length sc) hbk5 rfl
          have hR5 := hR4.out.below hB5
          have hC5 := hC.out.below hB5
          have hbl5 := build_calls _ src w5 (acts_under ha3.out hB35) hsa.out
          replace hN := Lib.hid hN
          replace hB5 := Lib.hid hB5
          replace hB35 := Lib.hid hB35
          replace hbk5 := Lib.hid hbk5
          replace hR5 := Lib.hid hR5
          replace hC5 := Lib.hid hC5
          replace hbl5 := Lib.hid hbl5
          go_upto_region 10 with fail
          go_cut [10] (fun x W => x = .int .i64 (takeE V nm (Fs.build src)).2 ∧ Ord w W vb (takeE V nm (Fs.build src)).1 cb V wr.heap.size (.cells #[.int .i64 d, .string (mkS nm), .slice sA src.length sc, .int .i64 n1, .int .i64 n2] 35 (0, 0)) w4.heap.size vn V.snaps ∧ (Fs.build src).Inv)
          case first =>
            have hBd : Below w5.heap.size w5 w5.drew := below_drewN (Below.refl w5.heap.size w5) 1
            have hbl6 := build_calls _ src w5.drew (acts_under (acts_under ha3.out hB35.out) hBd) hsa.out
            have hSS : ∀ W, Below w5.heap.size w5 W → W.cell? ⟨wr.heap.size, 1, none⟩ = some (.string (mkS nm)) ∧ W.cell? ⟨wr.heap.size, 2, none⟩ = some (.slice sA src.length sc) := fun W hW => ⟨(hW.cell (cell_lt d1)).trans d1, (hW.cell (cell_lt d2)).trans d2⟩
            have htk : ∀ W sb B N, Below w5.heap.size w5 W → Rep W sb B N (Fs.build src) → _ := fun W sb B N hW hS => take_calls vb A M V sb B N (Fs.build src) nm W (hR5.out.below hW) hS hok.out.mt (by have := hnl.out; omega) (by have := hn1.out; have := ms1.out; omega) (by have := hn2.out; have := ms1.out; omega)
            unfold ptr at htk
            clear d1 d2
            replace hBd := Lib.hid hBd
            replace hbl6 := Lib.hid hbl6
            replace hSS := Lib.hid hSS
            replace htk := Lib.hid htk
            go_region_held3 (fun W => W.cell? ⟨wr.heap.size, 1, none⟩ = some (.string (mkS nm)) ∧ W.cell? ⟨wr.heap.size, 2, none⟩ = some (.slice sA src.length sc)) (first | with_reducible exact hSS.out _ hBd.out | with_reducible exact hc7.out | with_reducible exact hSS.out _ hB56.out) (first
              | (go_at_call 11; (with_reducible refine hbl6.out.mono ?_); rintro e w6 ⟨sb, B, N, rfl, hS6, hSo6, hB6⟩; have hB56 := below_step hBd.out hB6; have htk6 := htk.out w6 sb B N hB56 hS6; replace htk6 := Lib.hid htk6; replace hB56 := Lib.hid hB56; replace hS6 := Lib.hid hS6; replace hSo6 := Lib.hid hSo6; replace hB6 := Lib.hid hB6)
              | (go_at_call 12; (with_reducible refine htk6.out.mono ?_); rintro e w7 ⟨rfl, hst⟩; have hbk7 := (hst.keeps (hR5.out.below hB56.out) ((hB56.out.block wr.heap.size (Array.getElem?_eq_some_iff.1 hbk5.out).1).trans hbk5.out) (by decide) (by decide)).trans ((hB56.out.block wr.heap.size (Array.getElem?_eq_some_iff.1 hbk5.out).1).trans hbk5.out); have hc7 := And.intro (cell_of (j := 1) (v := .string (mkS nm)) hbk7 rfl) (cell_of (j := 2) (v := .slice sA src.length sc) hbk7 rfl); replace hbk7 := Lib.hid hbk7; replace hc7 := Lib.hid hc7; replace hst := Lib.hid hst))
            try (rename_i hHeld; clear hHeld)
            have hfin : Ord w w7 vb (takeE V nm (Fs.build src)).1 cb V wr.heap.size (.cells #[.int .i64 d, .string (mkS nm), .slice sA src.length sc, .int .i64 n1, .int .i64 n2] 35 (0, 0)) w4.heap.size vn V.snaps := by
              have hB6w : Below w.heap.size w w6 := below_step (below_step (below_step hB.out hBa.out) hB35.out) hB56.out
              have hR6 := hR5.out.below hB56.out
              have hC6 := hC5.out.below hB56.out
              have hap : ∀ b, Own cb C MC V b → ¬ Own vb A M V b := fun b h1 h2 => by
                have := hCo.out b h1
                have := hR3.out.lt h2
                omega
              obtain ⟨g1, A', M', g2, g3, g4⟩ := Stp.two hC6 hR6 hap hst.out
              obtain ⟨hB7, _⟩ := Stp.mine hB6w hO.out hst.out
              refine ⟨A', M', C, MC, g2, fun b hb => ?_, hB7, g1, hbk7.out, Strs.stp hR6 hst.out (own_below hN.out hB56.out)⟩
              rcases g4 b hb with h | h
              · exact hO.out b h
              · exact Nat.le_trans hB6w.size h
            replace hfin := Lib.hid hfin
            go_wp2
            go_meet
            exact ⟨rfl, hfin.out, hS6.out.inv⟩
          case rest =>
            obtain ⟨rfl, hord, hS0⟩ := hcut
            have htg := take_grow V nm (Fs.build src)
            have herr := fun h => take_err (V := V) (nm := nm) (S := Fs.build src) h
            have htook := fun h => take_done (V := V) (nm := nm) (S := Fs.build src) hR5.out.inv hok.out hS0 hso.out h
            have hok2 := ok_take hok.out nm (Fs.build src)
            generalize takeE V nm (Fs.build src) = te at *
            obtain ⟨V2, ee⟩ := te
            dsimp only at *
            obtain ⟨A2, M2, C2, MC2, hR7, hO7, hB7, hC7, hbk7, hN7⟩ := hord
            have hn7 : V2.names.length ≤ 100 + 100 * (k + 1) ∧ V2.next ≤ 100 + 100 * (k + 1) := by
              have := hn1.out; have := hn2.out; have := ms1.out; omega
            have hnm8 := snapnames_calls vb A2 M2 V2 wc hR7 hok2.mt (by omega)
            have hV7 : Vt w wc vb V2 (100 + 100 * (k + 1)) := ⟨A2, M2, hR7, hO7, hB7, hok2, hn7⟩
            unfold ptr at hnm8
            clear d1 d2 htg hS0
            replace herr := Lib.hid herr
            replace htook := Lib.hid htook
            replace hok2 := Lib.hid hok2
            replace hR7 := Lib.hid hR7
            replace hO7 := Lib.hid hO7
            replace hB7 := Lib.hid hB7
            replace hC7 := Lib.hid hC7
            replace hbk7 := Lib.hid hbk7
            replace hN7 := Lib.hid hN7
            replace hn7 := Lib.hid hn7
            replace hnm8 := Lib.hid hnm8
            replace hV7 := Lib.hid hV7
            go_wp2_with fail
            (with_reducible refine (hnm8.out).mono ?_)
            rintro e w8 ⟨⟨vi, rfl, hI⟩, hB8⟩
            have hV8 := hV7.out.under hB8
            have hR8 := hR7.out.below hB8
            have hC8 := hC7.out.below hB8
            have hbk8 := (hB8.block wr.heap.size (Array.getElem?_eq_some_iff.1 hbk7.out).1).trans hbk7.out
            have hN8 := own_below hN7.out hB8
            by_cases hee : ee = 0
            · subst hee
              have hT := htook.out rfl
              obtain ⟨iA, ic, rfl, hi1, hi2⟩ := own_shape hI.own
              obtain ⟨nA, nc, rfl, hj1, hj2⟩ := own_shape hN8
              unfold maxLen at hi2 hj2
              have hsn : V2.snaps = V.snaps ++ [nm] := hT.snaps hR5.out.inv hok.out
              have hnew := hT.newest hR5.out.inv
              have hln : V.snaps.length ≤ 100000 := by
                unfold Fs.snaps
                rw [List.length_map]
                have := shots_few hR5.out.inv
                have := hn1.out
                omega
              have hrN := Strs.rd (l := V.snaps) hN8
              have hrI := Strs.rd hI
              have cn := cell_of (j := 1) (v := .string (mkS nm)) hbk8 rfl
              generalize hsn2 : V2.snaps = SN2 at *
              generalize hsn1 : V.snaps = SN at *
              replace hT := Lib.hid hT
              replace hsn := Lib.hid hsn
              replace hnew := Lib.hid hnew
              replace hln := Lib.hid hln
              replace hsn2 := Lib.hid hsn2
              replace hsn1 := Lib.hid hsn1
              replace hI := Lib.hid hI
              replace hB8 := Lib.hid hB8
              replace hV8 := Lib.hid hV8
              replace hR8 := Lib.hid hR8
              replace hC8 := Lib.hid hC8
              replace hbk8 := Lib.hid hbk8
              replace hN8 := Lib.hid hN8
              replace hrN := Lib.hid hrN
              replace hrI := Lib.hid hrI
              go_upto_region 15 with fail
              go_cut [71] (fun x W => x = .bool false ∧ Below w8.heap.size w8 W)
              case first =>
                have hBd : Below w8.heap.size w8 w8.drew := below_drewN (Below.refl w8.heap.size w8) 1
                have hBe : ∀ o, Below w8.heap.size w8 (w8.alloc o).drew := fun o => below_drewN (below_alloc (Below.refl _ _) o) 1
                have hBf : ∀ o o', Below w8.heap.size w8 ((w8.alloc o).alloc o').drew := fun o o' => below_drewN (below_alloc (below_alloc (Below.refl _ _) o) o') 1
                have hSS : ∀ W, Below w8.heap.size w8 W → W.cell? ⟨wr.heap.size, 1, none⟩ = some (.string (mkS nm)) := fun W hW => (hW.cell (cell_lt cn)).trans cn
                have hNN : ∀ W, Below w8.heap.size w8 W → Src W (.slice nA SN.length nc) 1 SN.length (strs SN) := fun W hW => (hrN.out.below hW).srcOf rfl
                have g1 : ∀ o : Obj, (w8.alloc o).drew.heap[w8.heap.size]? = some o := fun o => heap_alloc_new w8 o
                have g2 : ∀ o o' : Obj, ((w8.alloc o).alloc o').drew.heap[w8.heap.size]? = some o := fun o o' => ((below_alloc (Below.refl _ (w8.alloc o)) o').block w8.heap.size (by simp)).trans (heap_alloc_new w8 o)
                have g3 : ∀ o o' : Obj, ((w8.alloc o).alloc o').drew.heap[w8.heap.size + 1]? = some o' := fun o o' => by
                  have := heap_alloc_new (w8.alloc o) o'
                  rwa [show (w8.alloc o).heap.size = w8.heap.size + 1 by simp] at this
                have row0 : ∀ (W : World) (b : Nat), w8.heap.size ≤ b → W.heap[b]? = some (.cells #[] 9 (0, 0)) → W.ownsRow w8.heap.size 9 1 (.slice (some ⟨b, 0, none⟩) 0 0) 0 [] := fun W b hb h => ⟨rfl, Or.inr ⟨b, 0, #[], rfl, hb, h, Nat.le_refl _, Nat.zero_le _, rfl, rfl⟩⟩
                have o1 := row0 _ _ (Nat.le_refl _) (g1 (.cells #[] 9 (0, 0)))
                have o2 := fun o' => row0 _ _ (Nat.le_refl _) (g2 (.cells #[] 9 (0, 0)) o')
                have o3 := fun o => row0 _ _ (Nat.le_succ _) (g3 o (.cells #[] 9 (0, 0)))
                clear row0
                replace hBd := Lib.hid hBd
                replace hBe := Lib.hid hBe
                replace hBf := Lib.hid hBf
                replace hSS := Lib.hid hSS
                replace hNN := Lib.hid hNN
                replace g1 := Lib.hid g1
                replace g2 := Lib.hid g2
                replace g3 := Lib.hid g3
                replace o1 := Lib.hid o1
                replace o2 := Lib.hid o2
                replace o3 := Lib.hid o3
                clear cn
                have hse : (SN.length + 1) * 16 ≤ 140737488355328 := by have := hln.out; omega
                have hsf : SN.length + 1 ≤ maxLen := by have := hln.out; unfold maxLen; omega
                have hsg : (0 + SN.length) * 16 ≤ 140737488355328 := by have := hln.out; omega
                have hsh : 0 + SN.length ≤ maxLen := by have := hln.out; unfold maxLen; omega
                have hdec : decide (SN2 = SN ++ [nm]) = true := decide_eq_true hsn.out
                replace hse := Lib.hid hse
                replace hsf := Lib.hid hsf
                replace hsg := Lib.hid hsg
                replace hsh := Lib.hid hsh
                replace hdec := Lib.hid hdec
                go_region_held3 (fun W => W.cell? ⟨wr.heap.size, 1, none⟩ = some (.string (mkS nm))) (first | with_reducible exact hSS.out _ hBd.out | with_reducible exact hSS.out _ (hBe.out _) | with_reducible exact hSS.out _ (hBf.out _ _) | with_reducible exact hSS.out _ hB11.out | with_reducible exact hSS.out _ hB10.out | with_reducible exact hSS.out _ hB9.out | with_reducible exact hSS.out _ (below_alloc hB9.out _)) (first
                  | (go_at_call 22; (with_reducible refine (texts_calls _ _ SN2 (SN ++ [nm]) w10 (hrI.out.below hB10.out) hr10.out).mono ?_); rintro e w11 ⟨rfl, hB11⟩; replace hB11 := below_step hB10.out hB11; rw [hdec.out]; replace hB11 := Lib.hid hB11)
                  | ((with_reducible show (@ite _ _ _ (Oper.wp _ _ _ (w9.alloc (.cells #[.string (mkS nm)] 9 (0, 0))) _ _) _)); refine step_append_src (by rfl) _ _ 36 (by rfl) w8.heap.size 9 (.string ⟨#[]⟩) 1 16 Tryz.underlying36 info_string rfl (by decide) _ _ _ (by rfl) (own_below hr9.out (below_alloc (Below.refl _ _) (.cells #[.string (mkS nm)] 9 (0, 0)))) (.slice (some ⟨w9.heap.size, 0, none⟩) 1 1) 1 [.string (mkS nm)] (by rfl) (Or.inr ⟨⟨w9.heap.size, 0, none⟩, 1, rfl, rfl, World.news_of_block (heap_alloc_new w9 (.cells #[.string (mkS nm)] 9 (0, 0)))⟩) (strs_one [nm]) hsf.out hse.out (Nat.le_trans hB9.out.size (by simp)) ?_; intro v2 w10 r2 hg; have hB10 := (below_alloc hB9.out (.cells #[.string (mkS nm)] 9 (0, 0))).grown hg (Nat.le_trans hB9.out.size (by simp)) (own_base hr9.out); have hr10 := Strs.rd (Strs.snoc r2); clear r2 hg; replace hB10 := Lib.hid hB10; replace hr10 := Lib.hid hr10)
                  | ((with_reducible show (@ite _ _ _ (Oper.wp _ _ _ w9 _ _) _)); refine step_append_src (by rfl) _ _ 36 (by rfl) w8.heap.size 9 (.string ⟨#[]⟩) 1 16 Tryz.underlying36 info_string rfl (by decide) _ _ _ (by rfl) hr9.out (.slice (some ⟨w8.heap.size + 1, 0, none⟩) 1 1) 1 [.string (mkS nm)] (by rfl) (Or.inr ⟨⟨w8.heap.size + 1, 0, none⟩, 1, rfl, rfl, World.news_of_block hs9.out⟩) (strs_one [nm]) hsf.out hse.out hB9.out.size ?_; intro v2 w10 r2 hg; have hB10 := hB9.out.grown hg hB9.out.size (own_base hr9.out); have hr10 := Strs.rd (Strs.snoc r2); clear r2 hg; replace hB10 := Lib.hid hB10; replace hr10 := Lib.hid hr10)
                  | ((with_reducible show (@ite _ _ _ (Oper.wp _ _ _ w9 _ _) _)); refine step_append_src (by rfl) _ _ 36 (by rfl) w8.heap.size 9 (.string ⟨#[]⟩) 1 16 Tryz.underlying36 info_string rfl (by decide) _ _ _ (by rfl) hr9.out (.slice (some ⟨w8.heap.size, 0, none⟩) 1 1) 1 [.string (mkS nm)] (by rfl) (Or.inr ⟨⟨w8.heap.size, 0, none⟩, 1, rfl, rfl, World.news_of_block hs9.out⟩) (strs_one [nm]) hsf.out hse.out hB9.out.size ?_; intro v2 w10 r2 hg; have hB10 := hB9.out.grown hg hB9.out.size (own_base hr9.out); have hr10 := Strs.rd (Strs.snoc r2); clear r2 hg; replace hB10 := Lib.hid hB10; replace hr10 := Lib.hid hr10)
                  | ((with_reducible show (@ite _ _ _ (Oper.wp _ _ _ (w8.alloc (.cells #[] 9 (0, 0))).drew _ _) _)); refine step_append_src (by rfl) _ _ 36 (by rfl) w8.heap.size 9 (.string ⟨#[]⟩) 1 16 Tryz.underlying36 info_string rfl (by decide) _ _ _ (by rfl) o1.out (.slice nA SN.length nc) SN.length (strs SN) (by rfl) (hNN.out _ (hBe.out _)) (strs_one SN) hsh.out hsg.out (by simp) ?_; intro v1 w9 r1 hg; have hB9 := (hBe.out _).grown hg (by simp) (own_base o1.out); rw [Nat.zero_add, List.nil_append] at r1; have hr9 := Lib.hid r1; clear r1 hg; replace hB9 := Lib.hid hB9)
                  | ((with_reducible show (@ite _ _ _ (Oper.wp _ _ _ ((w8.alloc (.cells #[] 9 (0, 0))).alloc (.cells #[.string (mkS nm)] 9 (0, 0))).drew _ _) _)); refine step_append_src (by rfl) _ _ 36 (by rfl) w8.heap.size 9 (.string ⟨#[]⟩) 1 16 Tryz.underlying36 info_string rfl (by decide) _ _ _ (by rfl) (o2.out (.cells #[.string (mkS nm)] 9 (0, 0))) (.slice nA SN.length nc) SN.length (strs SN) (by rfl) (hNN.out _ (hBf.out _ _)) (strs_one SN) hsh.out hsg.out (by simp; omega) ?_; intro v1 w9 r1 hg; have hB9 := (hBf.out _ _).grown hg (by simp; omega) (own_base (o2.out (.cells #[.string (mkS nm)] 9 (0, 0)))); rw [Nat.zero_add, List.nil_append] at r1; have hr9 := Lib.hid r1; have hs9 := (hg.block (w8.heap.size + 1) (by simp) (by simp [Value.ownBlock])).trans (g3.out _ (.cells #[.string (mkS nm)] 9 (0, 0))); clear r1 hg; replace hB9 := Lib.hid hB9; replace hs9 := Lib.hid hs9)
                  | ((with_reducible show (@ite _ _ _ (Oper.wp _ _ _ ((w8.alloc (.cells #[.string (mkS nm)] 9 (0, 0))).alloc (.cells #[] 9 (0, 0))).drew _ _) _)); refine step_append_src (by rfl) _ _ 36 (by rfl) w8.heap.size 9 (.string ⟨#[]⟩) 1 16 Tryz.underlying36 info_string rfl (by decide) _ _ _ (by rfl) (o3.out (.cells #[.string (mkS nm)] 9 (0, 0))) (.slice nA SN.length nc) SN.length (strs SN) (by rfl) (hNN.out _ (hBf.out _ _)) (strs_one SN) hsh.out hsg.out (by simp; omega) ?_; intro v1 w9 r1 hg; have hB9 := (hBf.out _ _).grown hg (by simp; omega) (own_base (o3.out (.cells #[.string (mkS nm)] 9 (0, 0)))); rw [Nat.zero_add, List.nil_append] at r1; have hr9 := Lib.hid r1; have hs9 := (hg.block w8.heap.size (by simp; omega) (by simp [Value.ownBlock])).trans (g2.out (.cells #[.string (mkS nm)] 9 (0, 0)) _); clear r1 hg; replace hB9 := Lib.hid hB9; replace hs9 := Lib.hid hs9))
                all_goals try (rename_i hHeld; clear hHeld)
                all_goals (go_wp2; go_meet)
                all_goals exact ⟨rfl, hB11.out⟩
              case rest =>
                obtain ⟨rfl, hB9⟩ := hcut
                have hV9 := hV8.out.under hB9
                have hR9 := hR8.out.below hB9
                have hbk9 := (hB9.block wr.heap.size (Array.getElem?_eq_some_iff.1 hbk8.out).1).trans hbk8.out
                have hN9 := own_below hN8.out hB9
                have hst := fun W p hB (hp : p.length ≤ 1000) => stat_bl vb A2 M2 V2 p W (hR9.below hB) (by omega)
                have hsx : ∀ x ∈ SN, x.length ≤ 200 := fun x hx => by
                  rw [← hsn1.out] at hx
                  obtain ⟨y, hy, rfl⟩ := List.mem_map.1 hx
                  exact shots_short hR5.out.inv hy
                obtain ⟨wo, hwo⟩ : ∃ wo, wo = wc := ⟨_, rfl⟩
                subst hwo
                obtain ⟨wq, hwq⟩ : ∃ wq, wq = wr := ⟨_, rfl⟩
                subst hwq
                clear cn
                replace hB9 := Lib.hid hB9
                replace hV9 := Lib.hid hV9
                replace hR9 := Lib.hid hR9
                replace hbk9 := Lib.hid hbk9
                replace hN9 := Lib.hid hN9
                replace hst := Lib.hid hst
                replace hsx := Lib.hid hsx
                go_wp2_with fail
                go_loopw [74] (fun i wr2 => ∃ j : Nat, i = .int .i64 j ∧ j ≤ SN.length ∧ Below wo.heap.size wo wr2) (fun i _ => SN.length - (intOf i).toNat)
                case atStart => exact ⟨0, rfl, Nat.zero_le _, Below.refl _ _⟩
                case round =>
                  obtain ⟨j, rfl, hj, hB10⟩ := hrel
                  by_cases hlt2 : j < SN.length
                  · have hrN2 := Strs.rd (own_below hN9.out hB10)
                    obtain ⟨ga, oa, rfl, c1⟩ := hrN2.cell hlt2
                    have hx := List.getElem_mem hlt2
                    have hxs := hsx.out _ hx
                    obtain ⟨n1', n2', n3'⟩ := hnew.out
                    have hsec := n3' _ hx
                    generalize SN[j] = x at *
                    have hs1 := hst.out wr x hB10 (by omega)
                    have hs2 := fun W hB => hst.out W nm hB (by have := hnl.out; omega)
                    have hjj : (j : Int) < (SN.length : Int) := by omega
                    generalize V2.stat x = st1 at *
                    generalize V2.stat nm = st2 at *
                    obtain ⟨⟨s1, s2, s3, s4, ⟨m1, m2, m3, m4, m5⟩, s5⟩, se⟩ := st1
                    obtain ⟨⟨q1, q2, q3, q4, ⟨p1, p2, p3, p4, p5⟩, q5⟩, qe⟩ := st2
                    dsimp only at *
                    simp only [Mt.mk.injEq] at n1'
                    obtain ⟨rfl, rfl, rfl, rfl, rfl⟩ := n1'
                    unfold statV statCells ptr at hs1 hs2
                    dsimp only at hs1 hs2
                    clear hrN2 n2' n3'
                    generalize V.lastNum + 1 = ln at *
                    replace hx := Lib.hid hx
                    replace hxs := Lib.hid hxs
                    replace hs1 := Lib.hid hs1
                    replace hs2 := Lib.hid hs2
                    replace hB10 := Lib.hid hB10
                    go_wp2_with fail
                    (with_reducible refine (hs1.out).mono ?_)
                    rintro e w11 ⟨rfl, hB11⟩
                    have hB12 := below_step hB10.out (below_step hB11 (below_alloc (Below.refl w11.heap.size w11) (.cells #[.int .i64 s1, .int .i64 s2, .int .i64 s3, .int .i64 s4, .int .i64 m1, .int .i64 m2, .int .i64 m3, .int .i64 m4, .int .i64 m5, .string (mkS s5)] 42)))
                    have hb12 := heap_alloc_new w11 (.cells #[.int .i64 s1, .int .i64 s2, .int .i64 s3, .int .i64 s4, .int .i64 m1, .int .i64 m2, .int .i64 m3, .int .i64 m4, .int .i64 m5, .string (mkS s5)] 42)
                    have hs2' := hs2.out _ hB12
                    have cn2 := cell_of (j := 1) (v := .string (mkS nm)) ((hB12.block wq.heap.size (Array.getElem?_eq_some_iff.1 hbk9.out).1).trans hbk9.out) rfl
                    clear c1
                    replace hB11 := Lib.hid hB11
                    replace hB12 := Lib.hid hB12
                    replace hb12 := Lib.hid hb12
                    replace hs2' := Lib.hid hs2'
                    go_wp2_with fail
                    generalize w11.alloc (.cells #[.int .i64 s1, .int .i64 s2, .int .i64 s3, .int .i64 s4, .int .i64 m1, .int .i64 m2, .int .i64 m3, .int .i64 m4, .int .i64 m5, .string (mkS s5)] 42) = w12 at *
                    (with_reducible refine hs2'.out.mono ?_)
                    rintro e w13 ⟨rfl, hB13⟩
                    have hB14 := below_step hB13 (below_alloc (Below.refl w13.heap.size w13) (.cells #[.int .i64 q1, .int .i64 q2, .int .i64 q3, .int .i64 q4, .int .i64 493, .int .i64 ln, .int .i64 0, .int .i64 0, .int .i64 0, .string (mkS q5)] 42))
                    have hb14 := heap_alloc_new w13 (.cells #[.int .i64 q1, .int .i64 q2, .int .i64 q3, .int .i64 q4, .int .i64 493, .int .i64 ln, .int .i64 0, .int .i64 0, .int .i64 0, .string (mkS q5)] 42)
                    have hb12' := (hB14.block w11.heap.size (Array.getElem?_eq_some_iff.1 hb12.out).1).trans hb12.out
                    have x5 := cell_of (j := 5) (v := .int .i64 m2) hb12' rfl
                    have y4 := cell_of (j := 4) (v := .int .i64 493) hb14 rfl
                    have y5 := cell_of (j := 5) (v := .int .i64 ln) hb14 rfl
                    have hB15 := below_step hB12.out hB14
                    clear cn2 hb12'
                    replace hB13 := Lib.hid hB13
                    replace hB14 := Lib.hid hB14
                    replace hb14 := Lib.hid hb14
                    replace hB15 := Lib.hid hB15
                    go_wp2
                    go_roundw
                    case rel => exact ⟨j + 1, by go_num, by omega, hB15.out⟩
                    case measure => simp [intOf]; omega
                  · have hB11 := hV9.out.under hB10
                    replace hB10 := Lib.hid hB10
                    replace hB11 := Lib.hid hB11
                    go_wp2
                    go_roundw
                    case rel => exact ⟨k + 1, V2, by go_num, by omega, hB11.out⟩
                    case measure => simp [intOf]; omega
            · have hVV := herr.out hee
              subst hVV
              have hsm8 := same_calls vb A2 M2 V2 cb C2 MC2 V2 w8 hR8 hC8
              have hsf := SameFs.refl hR8.inv
              have t1 : (ee != 0) = true := by simpa using hee
              have t2 : (ee == 0) = false := by simpa using hee
              unfold ptr at hsm8
              replace hsm8 := Lib.hid hsm8
              replace hsf := Lib.hid hsf
              replace hee := Lib.hid hee
              replace hI := Lib.hid hI
              replace hB8 := Lib.hid hB8
              replace hV8 := Lib.hid hV8
              replace hR8 := Lib.hid hR8
              replace hC8 := Lib.hid hC8
              replace hbk8 := Lib.hid hbk8
              replace hN8 := Lib.hid hN8
              go_wp2_with fail
              (with_reducible refine (hsm8.out).mono ?_)
              rintro e w9 ⟨⟨r, rfl, hr⟩, hB9⟩
              obtain rfl : r = true := hr.2 hsf.out
              have hV9 := hV8.out.under hB9
              replace hV9 := Lib.hid hV9
              clear hr hB9
              go_wp2
              go_roundw
              case rel => exact ⟨k + 1, V2, by go_num, by omega, hV9.out⟩
              case measure => simp [intOf]; omega
        · obtain ⟨_, _, _, _, hB, _⟩ := hvt
          replace hB := Lib.hid hB
          have k1 := fun W => restore_nil ⟨#[115]⟩ W
          have k2 := fun W => snapshared_nil ⟨#[115]⟩ W
          have k3 := fun W => prune_nil 1 1 W
          have k4 := fun W => snapnames_nil W
          have k5 := fun W => take_nil1 ⟨#[115]⟩ (.pointer (some ⟨vb, 0, none⟩)) W
          have k6 := fun W => take_nil2 vb ⟨#[115]⟩ W
          replace k1 := Lib.hid k1
          replace k2 := Lib.hid k2
          replace k3 := Lib.hid k3
          replace k4 := Lib.hid k4
          replace k5 := Lib.hid k5
          replace k6 := Lib.hid k6
          go_wp2_with fail
          (with_reducible refine (k1.out _).mono ?_)
          rintro e w4 ⟨rfl, rfl⟩
          go_wp2_with fail
          (with_reducible refine (k2.out _).mono ?_)
          rintro e w4 ⟨rfl, rfl⟩
          go_wp2_with fail
          (with_reducible refine (k3.out _).mono ?_)
          rintro e w4 ⟨rfl, rfl⟩
          go_wp2_with fail
          (with_reducible refine (k4.out _).mono ?_)
          rintro e w4 ⟨rfl, rfl⟩
          go_wp2_with fail
          (with_reducible refine (k5.out _).mono ?_)
          rintro e w5 ⟨rfl, hB5⟩
          have hB6 := below_step hB.out hB5
          replace hB5 := Lib.hid hB5
          replace hB6 := Lib.hid hB6
          go_wp2_with fail
          (with_reducible refine (k6.out _).mono ?_)
          rintro e w6 ⟨rfl, hB7⟩
          have hB8 := below_step hB6.out hB7
          replace hB7 := Lib.hid hB7
          replace hB8 := Lib.hid hB8
          go_wp2_with fail
          (with_reducible refine (haw.out _).mono ?_)
          rintro e w7 ⟨rfl, hB9⟩
          have hB10 := below_step hB8.out hB9
          replace hB9 := Lib.hid hB9
          replace hB10 := Lib.hid hB10
          go_wp2
          go_ret
          exact ⟨rfl, hB10.out⟩
end Go.Proofs.YtocbjhhnginebaaGreat
