/-
  remoraref17.Copy.
  remoraref17.Same.
  remoralaw17.thing without the numbers, and Same: both trees hold the same.
-/
import Derived.Test.YtemdinjiplglgaaGreatB6
import Derived.Test.YtemdinjiplglgaaGreatB4
set_option linter.unusedVariables false
set_option linter.unusedSimpArgs false

namespace Go.Proofs.YtemdinjiplglgaaGreat
open Go.RowKit


/-- What stands of a copy: its row has k names, its things are those of the names l. -/
structure RCp (w W : World) (cb : Nat) (v : Value) (B : Nat → Nat) (T : Fs) (k : Nat) (l : List (Pt × Nat)) : Prop where
  lo : w.heap.size ≤ cb
  tree : W.heap[cb]? = some (.cells #[v, .int .i64 T.next] 85 (0, 0))
  row : W.ownsRow w.heap.size 82 2 v k (rrow B (T.names.take k))
  node : ∀ x ∈ l, w.heap.size ≤ B x.2 ∧ ∃ dv, Dat W dv (T.nd x.2).data ∧ W.heap[B x.2]? = some (.cells (rnode (T.nd x.2) x.2 dv) 80 (0, 0))
  inj : ∀ x ∈ l, ∀ y ∈ l, B x.2 = B y.2 → x.2 = y.2

section
variable {w W W' : World} {cb : Nat} {v : Value} {B : Nat → Nat} {T : Fs} {k : Nat} {l : List (Pt × Nat)}

theorem RCp.below (h : RCp w W cb v B T k l) (hb : Below W.heap.size W W') : RCp w W' cb v B T k l := by
  have hk : ∀ b, b < W.heap.size → W'.heap[b]? = W.heap[b]? := fun b hlt => hb.block b hlt
  refine ⟨h.lo, (hk _ (Array.getElem?_eq_some_iff.1 h.tree).1).trans h.tree, own_below h.row hb, fun x hx => ?_, h.inj⟩
  obtain ⟨h1, dv, h2, h3⟩ := h.node x hx
  exact ⟨h1, dv, h2.kept fun g ⟨cs, hc⟩ => hk g (Array.getElem?_eq_some_iff.1 hc).1, (hk _ (Array.getElem?_eq_some_iff.1 h3).1).trans h3⟩

/-- A thing whose number stands already. -/
theorem RCp.old (h : RCp w W cb v B T k l) {x : Pt × Nat} (hx : ∃ y ∈ l, y.2 = x.2) : RCp w W cb v B T k (l ++ [x]) := by
  obtain ⟨y, hy, hyx⟩ := hx
  have key : ∀ z ∈ l ++ [x], ∃ u ∈ l, u.2 = z.2 := fun z hz => by
    rcases List.mem_append.1 hz with hz | hz
    · exact ⟨z, hz, rfl⟩
    · rw [List.mem_singleton.1 hz]
      exact ⟨y, hy, hyx⟩
  refine ⟨h.lo, h.tree, h.row, fun z hz => ?_, fun z hz z' hz' e => ?_⟩
  · obtain ⟨u, hu, e⟩ := key z hz
    rw [← e]
    exact h.node u hu
  · obtain ⟨u, hu, e1⟩ := key z hz
    obtain ⟨u', hu', e2⟩ := key z' hz'
    rw [← e1, ← e2] at e ⊢
    exact h.inj u hu u' hu' e

/-- A thing that is new. -/
theorem RCp.new (h : RCp w W cb v B T k l) (hl : l = T.names.take k) {x : Pt × Nat} (hx : ∀ y ∈ l, y.2 ≠ x.2) {nb : Nat} (hnb : ∀ y ∈ l, B y.2 ≠ nb) (hlo : w.heap.size ≤ nb) {dv : Value} (hd : Dat W dv (T.nd x.2).data)
    (hn : W.heap[nb]? = some (.cells (rnode (T.nd x.2) x.2 dv) 80 (0, 0))) : RCp w W cb v (upd B x.2 nb) T k (l ++ [x]) := by
  have hu : ∀ y ∈ l, upd B x.2 nb y.2 = B y.2 := fun y hy => if_neg (hx y hy)
  have hx2 : upd B x.2 nb x.2 = nb := if_pos rfl
  refine ⟨h.lo, h.tree, ?_, fun z hz => ?_, fun z hz z' hz' e => ?_⟩
  · rw [rrow_congr (A := B) (A' := upd B x.2 nb) fun y hy => hu y (by rw [hl]; exact hy)]
    exact h.row
  · rcases List.mem_append.1 hz with hz | hz
    · rw [hu z hz]
      exact h.node z hz
    · rw [List.mem_singleton.1 hz, hx2]
      exact ⟨hlo, dv, hd, hn⟩
  · rcases List.mem_append.1 hz with hz | hz <;> rcases List.mem_append.1 hz' with hz' | hz'
    · rw [hu z hz, hu z' hz'] at e
      exact h.inj z hz z' hz' e
    · rw [List.mem_singleton.1 hz', hx2, hu z hz] at e
      exact absurd e (hnb z hz)
    · rw [List.mem_singleton.1 hz, hx2, hu z' hz'] at e
      exact absurd e.symm (hnb z' hz')
    · rw [List.mem_singleton.1 hz, List.mem_singleton.1 hz']

/-- A name more. -/
theorem RCp.name (h : RCp w W cb v B T k l) (hlk : l = T.names.take (k + 1)) {Wd W3 : World} (hB : Below W.heap.size W Wd) (hg : Wd.grownBy W3 v.ownBlock) {v1 : Value} {x : Pt × Nat} (hx : T.names[k]? = some x)
    (hv1 : W3.ownsRow w.heap.size 82 2 v1 (k + 1) (rrow B (T.names.take k) ++ [.string (mkS (glue x.1)), ptr (B x.2)])) : RCp w (W3.setCell ⟨cb, 0, none⟩ v1) cb v1 B T (k + 1) (T.names.take (k + 1)) := by
  have h2 := h.below hB
  have hrt : ∀ b, v.ownBlock = some b → ∃ cs, Wd.heap[b]? = some (.cells cs 82 (0, 0)) := fun b hb => (own_cells h2.row hb).2
  have hkeep : ∀ (b : Nat) (cs : Array Value) (t : TypeId) (f : Nat × Nat), Wd.heap[b]? = some (.cells cs t f) → t ≠ 82 → W3.heap[b]? = some (.cells cs t f) := fun b cs t f hb ht => by
    refine (hg.block b (Array.getElem?_eq_some_iff.1 hb).1 fun e => ?_).trans hb
    obtain ⟨ds, hd⟩ := hrt b e.symm
    exact types_apart hb hd ht rfl
  have ht3 := hkeep _ _ _ _ h2.tree (by decide)
  have hoth : ∀ (b : Nat) (cs : Array Value) (t : TypeId) (f : Nat × Nat), W3.heap[b]? = some (.cells cs t f) → t ≠ 85 → (W3.setCell ⟨cb, 0, none⟩ v1).heap[b]? = some (.cells cs t f) := fun b cs t f hb ht =>
    (heap_set_other W3 (types_apart hb ht3 ht) 0 v1).trans hb
  have hxk : T.names.take (k + 1) = T.names.take k ++ [x] := by
    obtain ⟨h1, h2⟩ := List.getElem?_eq_some_iff.1 hx
    rw [← h2]
    exact List.take_succ_eq_append_getElem h1
  refine ⟨h.lo, ?_, ?_, fun z hz => ?_, fun z hz z' hz' => h.inj z (by rw [hlk]; exact hz) z' (by rw [hlk]; exact hz')⟩
  · have := heap_set_same ht3 0 v1
    simpa using this
  · rw [hxk, rrow_append]
    refine own_blocks hv1 fun b hb => heap_set_other W3 (fun e => ?_) 0 v1
    obtain ⟨_, cur, hc⟩ := own_cells hv1 hb
    exact types_apart hc ht3 (by decide) e
  · obtain ⟨h4, dv, h5, h6⟩ := h2.node z (by rw [hlk]; exact hz)
    refine ⟨h4, dv, h5.kept fun g ⟨cs, hc⟩ => ?_, hoth _ _ _ _ (hkeep _ _ _ _ h6 (by decide)) (by decide)⟩
    rw [hoth _ _ _ _ (hkeep _ _ _ _ hc (by decide)) (by decide), hc]

/-- All names are there. -/
theorem RCp.fin (h : RCp w W cb v B T k (T.names.take k)) (hI : T.Inv) (hk : k = T.names.length) : RRep W cb v B T ∧ ∀ b, ROwn cb v B T b → w.heap.size ≤ b := by
  subst hk
  have hr := h.row
  have hn := h.node
  have hi := h.inj
  rw [List.take_length] at hr hn hi
  refine ⟨⟨hI, h.tree, own_low hr (Nat.zero_le _), fun i ⟨p, hp⟩ => (hn _ hp).2, fun i j ⟨p, hp⟩ ⟨q, hq⟩ e => hi _ hp _ hq e⟩, fun b hb => ?_⟩
  rcases hb with rfl | e | ⟨i, ⟨p, hp⟩, rfl⟩
  · exact h.lo
  · exact own_base hr b e
  · exact (hn _ hp).1

end

section
variable (rb : Nat) (v : Value) (A : Nat → Nat) (T : Fs)

set_option maxHeartbeats 4000000 in
set_option maxRecDepth 100000 in
theorem rcopy_calls (w : World) (hR : RRep w rb v A T) (hf : T.names.length ≤ 1000000) : Calls Tryz.prog 31 #[ptr rb] w (RNewTree w T) := by
  have hI := hR.inv
  have hB0 := below_alloc (Below.refl w.heap.size w) (.cells #[.slice none 0 0, .int .i64 T.next] 85)
  have hblk := (MapKept.heap_alloc w (.cells #[.slice none 0 0, .int .i64 T.next] 85)).1
  have hc0 : RCp w (w.alloc (.cells #[.slice none 0 0, .int .i64 T.next] 85)) w.heap.size (.slice none 0 0) A T 0 (T.names.take 0) := ⟨Nat.le_refl _, hblk, ⟨rfl, Or.inl ⟨rfl, rfl⟩⟩, fun x hx => by simp at hx, fun x hx => by simp at hx⟩
  have hn1 : w.cell? ⟨rb, 1, none⟩ = some (.int .i64 T.next) := cell_of hR.tree rfl
  obtain ⟨g, c, hv, hc1, hc2, hp, t0, hcs⟩ := hR.at_
  subst hv
  unfold maxLen at hc2
  unfold ptr at *
  replace hR := Lib.hid hR
  replace hB0 := Lib.hid hB0
  replace hc0 := Lib.hid hc0
  replace hblk := Lib.hid hblk
  replace hI := Lib.hid hI
  replace hcs := Lib.hid hcs
  go_enter Tryz.func31, Tryz.ntmps31
  go_wp2_with fail
  go_loopw [4] (fun i wr => ∃ (k : Nat) (u : Value) (B : Nat → Nat), i = .int .i64 k ∧ k ≤ T.names.length ∧ RCp w wr w.heap.size u B T k (T.names.take k) ∧ Below w.heap.size w wr) (fun i _ => T.names.length - (intOf i).toNat)
  case atStart => exact ⟨0, _, A, rfl, Nat.zero_le _, hc0.out, hB0.out⟩
  case round =>
    clear hc0 hB0 hblk hn1
    obtain ⟨k, u, B, rfl, hk, hc, hB⟩ := hrel
    have t0r := (hB.cell (cell_lt t0)).trans t0
    by_cases hlt : k < T.names.length
    · have hx := List.getElem?_eq_getElem hlt
      have htk : T.names.take (k + 1) = T.names.take k ++ [T.names[k]] := List.take_succ_eq_append_getElem hlt
      have hxm : T.names[k] ∈ T.names := List.getElem_mem hlt
      generalize T.names[k] = x at *
      obtain ⟨q, i⟩ := x
      obtain ⟨ca, cb⟩ := hcs.out k _ hx
      have hnode := hR.out.node i ⟨q, hxm⟩
      obtain ⟨dv, hdv, hnd⟩ := hnode
      have n1 : w.cell? ⟨A i, 1, none⟩ = some (.int .i64 i) := cell_of hnd rfl
      obtain ⟨uA, uc, hue, hu1, hu2⟩ := own_shape hc.row
      subst hue
      unfold maxLen at hu2
      have hkn : (k : Int) < (T.names.length : Int) := by omega
      dsimp only at *
      unfold ptr at *
      have hcx : k < k + 1 := Nat.lt_succ_self k
      replace hc := Lib.hid hc
      replace hB := Lib.hid hB
      replace hx := Lib.hid hx
      replace htk := Lib.hid htk
      replace hxm := Lib.hid hxm
      replace hdv := Lib.hid hdv
      replace hnd := Lib.hid hnd
      go_wp2_with fail
      obtain ⟨wo, rfl⟩ : ∃ wo : World, wo = wr := ⟨_, rfl⟩
      go_loopw [5, 6] (fun n m wr => ∃ j : Nat, m = .int .i64 j ∧ j ≤ k ∧ ((n = .pointer none ∧ ∀ y ∈ T.names.take j, y.2 ≠ i) ∨ (n = .pointer (some ⟨B i, 0, none⟩) ∧ ∃ y ∈ T.names.take k, y.2 = i)) ∧ Below wo.heap.size wo wr) (fun _ m _ => k - (intOf m).toNat)
      case atStart => exact ⟨0, rfl, Nat.zero_le _, Or.inl ⟨rfl, by simp⟩, Below.refl _ _⟩
      case round =>
        obtain ⟨j, rfl, hj, hn, hBq⟩ := hrel
        have hBw := below_step hB.out hBq
        have t0q := (hBw.cell (cell_lt t0)).trans t0
        have caq := (hBw.cell (cell_lt ca)).trans ca
        have cbq := (hBw.cell (cell_lt cb)).trans cb
        rcases hn with ⟨rfl, hno⟩ | ⟨rfl, hyes⟩
        · by_cases hjk : j < k
          · have hjl : j < T.names.length := by omega
            have hy := List.getElem?_eq_getElem hjl
            have hty : T.names.take (j + 1) = T.names.take j ++ [T.names[j]] := List.take_succ_eq_append_getElem hjl
            have hym : T.names[j] ∈ T.names := List.getElem_mem hjl
            have hyk : T.names[j] ∈ T.names.take k := by
              rw [List.mem_take_iff_getElem]
              exact ⟨j, by omega, rfl⟩
            generalize T.names[j] = y at *
            obtain ⟨qy, jj⟩ := y
            obtain ⟨_, cy⟩ := hcs.out j _ hy
            obtain ⟨_, _, _, m1, _⟩ := hR.out.cells ⟨qy, hym⟩
            obtain ⟨ug, uc', hue, _, _, _, _, hug⟩ := own_at hc.out.row (by omega)
            simp only [Value.slice.injEq, true_and] at hue
            obtain ⟨rfl, rfl⟩ := hue
            have hyt : (T.names.take k)[j]? = some (qy, jj) := by rw [List.getElem?_take, if_pos hjk, hy]
            have cu0 := hug _ _ (rrow_at B _ _ _ hyt).2
            have cyq := (hBw.cell (cell_lt cy)).trans cy
            have m1q := (hBw.cell (cell_lt m1)).trans m1
            have n1q := (hBw.cell (cell_lt n1)).trans n1
            have ct : wo.cell? ⟨w.heap.size, 0, none⟩ = some (.slice (some ⟨ug, 0, none⟩) k uc) := cell_of hc.out.tree rfl
            have ctq := (hBq.cell (cell_lt ct)).trans ct
            have cuq := (hBq.cell (cell_lt cu0)).trans cu0
            have hjn : (j : Int) < (T.names.length : Int) := by omega
            have hjk2 : (j : Int) < (k : Int) := by omega
            have hjk3 : decide (j < k) = true := by simpa using hjk
            have ctn := fun n : Nat => show (wr.drewN n).cell? ⟨w.heap.size, 0, none⟩ = _ from ctq
            have cun := fun n : Nat => show (wr.drewN n).cell? ⟨ug, j * 2 + 1, none⟩ = _ from cuq
            dsimp only at *
            unfold ptr at *
            clear t0 t0r ca cb cy m1 n1 ct cu0 ctq cuq
            replace hBq := Lib.hid hBq
            replace hBw := Lib.hid hBw
            replace hno := Lib.hid hno
            replace hy := Lib.hid hy
            replace hty := Lib.hid hty
            replace hym := Lib.hid hym
            replace hyk := Lib.hid hyk
            replace hug := Lib.hid hug
            replace hyt := Lib.hid hyt
            by_cases hji : jj = i
            · subst hji
              go_upto_region 9 with fail
              go_quiet (fail)
              go_wp2
              go_roundw
              case rel => exact ⟨j + 1, by go_num, by omega, Or.inr ⟨rfl, _, hyk.out, rfl⟩, below_drewN hBq.out _⟩
              case measure => simp [intOf]; omega
            · have hji2 : ((jj : Int) == (i : Int)) = false := by
                simp only [beq_eq_false_iff_ne, ne_eq]
                omega
              replace hji := Lib.hid hji
              go_upto_region 9 with fail
              go_quiet (fail)
              go_wp2
              go_roundw
              case rel =>
                refine ⟨j + 1, by go_num, by omega, Or.inl ⟨rfl, fun z hz => ?_⟩, below_drewN hBq.out _⟩
                rw [hty.out] at hz
                rcases List.mem_append.1 hz with hz | hz
                · exact hno.out z hz
                · rw [List.mem_singleton.1 hz]
                  exact hji.out
              case measure => simp [intOf]; omega
          · obtain rfl : k = j := by omega
            have hnew0 : ∀ y ∈ T.names.take k, y.2 ≠ i := hno
            obtain ⟨dv, hdv, n0, n1', n2, n3, n4, n5, n6, n7, n8⟩ := (hR.out.below hBw).cells ⟨q, hxm.out⟩
            have hdl := (hI.out.data _ _ hxm.out)
            generalize hnd2 : T.nd i = nd at *
            obtain ⟨nk, nl, ⟨m1, m2, m3, m4, m5⟩, nt, ndt⟩ := nd
            dsimp only at *
            obtain ⟨dA, dc, hdve, hd1, hd2⟩ := hdv.shape
            subst hdve
            unfold maxLen at hd2
            clear n1 t0r
            replace hno := Lib.hid hno
            replace hnew0 := Lib.hid hnew0
            replace hBq := Lib.hid hBq
            replace hBw := Lib.hid hBw
            replace hdv := Lib.hid hdv
            replace hnd2 := Lib.hid hnd2
            go_upto_region 13 with fail
            have hlt1 : wr.heap.size < (wr.alloc (.cells #[.int .i64 nk, .int .i64 i, .slice dA ndt.length dc, .string (mkS nt), .int .i64 m1, .int .i64 m2, .int .i64 m3, .int .i64 m4, .int .i64 m5] 80)).heap.size := by simp
            have hB10 := below_alloc (Below.refl wr.heap.size wr) (.cells #[.int .i64 nk, .int .i64 i, .slice dA ndt.length dc, .string (mkS nt), .int .i64 m1, .int .i64 m2, .int .i64 m3, .int .i64 m4, .int .i64 m5] 80)
            have hnd1 := (MapKept.heap_alloc wr (.cells #[.int .i64 nk, .int .i64 i, .slice dA ndt.length dc, .string (mkS nt), .int .i64 m1, .int .i64 m2, .int .i64 m3, .int .i64 m4, .int .i64 m5] 80)).1
            generalize wr.alloc (.cells #[.int .i64 nk, .int .i64 i, .slice dA ndt.length dc, .string (mkS nt), .int .i64 m1, .int .i64 m2, .int .i64 m3, .int .i64 m4, .int .i64 m5] 80) = W1 at *
            generalize hnx : wr.heap.size = nx at *
            have hB20 := below_alloc (Below.refl W1.heap.size W1) (.cells #[] 5)
            have hown := own_made W1 W1.heap.size 5 1 0 [] (Nat.le_refl _) rfl (by simp [maxLen])
            have hB10' : Below wr.heap.size wr W1 := by rw [hnx]; exact hB10
            have hB12 := below_step hB10' hB20
            have hsrc1 := ((hdv.out.rdb.below hB12)).src
            have hnd2' := (hB20.block _ hlt1).trans hnd1
            have e2x : (W1.alloc (.cells #[] 5)).cell? ⟨nx, 2, none⟩ = some (.slice dA ndt.length dc) := cell_of hnd2' rfl
            replace hlt1 := Lib.hid hlt1
            replace hB10 := Lib.hid hB10
            replace hnd1 := Lib.hid hnd1
            replace hnx := Lib.hid hnx
            replace hB20 := Lib.hid hB20
            replace hown := Lib.hid hown
            replace hB10' := Lib.hid hB10'
            replace hB12 := Lib.hid hB12
            replace hsrc1 := Lib.hid hsrc1
            replace hnd2' := Lib.hid hnd2'
            clear n0 n1' n2 n3 n4 n5 n6 n7 n8 caq cbq t0q
            go_wp2_with (at_builtin; refine wp_append_any W1.heap.size rfl (.tmp 75) (.tmp 77) 38 5 rfl Tryz.underlying38 (.int .u8 0) 1 1 info_u8 rfl (by decide) (.slice (some ⟨W1.heap.size, 0, none⟩) 0 0) 0 [] rfl (.slice dA ndt.length dc) ndt.length (byteCells ndt) rfl hsrc1.out hown.out ?_ ?_ ?_ (by simp) ?_)
            · simp [byteCells, Value.oneCell']
            · simp only [maxLen]; omega
            · omega
            · intro v1 w3 g1 hg hat
              obtain ⟨vA, vc, hv1, _, _⟩ := own_shape g1
              subst hv1
              try simp only [Nat.zero_add, List.nil_append] at g1
              have hB13 : Below W1.heap.size W1 w3 := hB20.out.grown hg hB20.out.size (own_base hown.out)
              have hB03 : Below wr.heap.size wr w3 := below_step hB10'.out hB13
              have hnd3 := (hB13.block _ hlt1.out).trans hnd1.out
              have f3 : w3.frozen? ⟨nx, 2, none⟩ = false := by simp [World.frozen?, hnd3]
              have e3 : w3.cell? ⟨nx, 2, none⟩ = some (.slice dA ndt.length dc) := cell_of hnd3 rfl
              have hB04 : Below wr.heap.size wr (w3.setCell ⟨nx, 2, none⟩ (.slice vA ndt.length vc)) := hB03.setCell (p := ⟨nx, 2, none⟩) (by rw [hnx.out]; exact Nat.le_refl nx) _
              have hnd4 := heap_set_same hnd3 2 (.slice vA ndt.length vc)
              have hown4 : (w3.setCell ⟨nx, 2, none⟩ (.slice vA ndt.length vc)).ownsRow W1.heap.size 5 1 (.slice vA ndt.length vc) ndt.length (byteCells ndt) := own_blocks g1 fun b hb => heap_set_other w3 (fun e => by
                obtain ⟨_, cur, hcr⟩ := own_cells g1 hb
                exact types_apart hcr hnd3 (by decide) e) 2 _
              have hdat : Dat (w3.setCell ⟨nx, 2, none⟩ (.slice vA ndt.length vc)) (.slice vA ndt.length vc) ndt := Byts.dat hown4
              have hBx := below_step hBw.out hB04
              clear hg hat e2x g1 hown4
              replace hB13 := Lib.hid hB13
              replace hB03 := Lib.hid hB03
              replace hnd3 := Lib.hid hnd3
              replace hB04 := Lib.hid hB04
              replace hnd4 := Lib.hid hnd4
              replace hdat := Lib.hid hdat
              replace hBx := Lib.hid hBx
              go_upto_region 15 with fail
              generalize w3.setCell ⟨nx, 2, none⟩ (.slice vA ndt.length vc) = wx at *
              have hcr := hc.out.below (below_step hBq.out hB04.out)
              have hcq := hc.out.below hBq.out
              have hch := hcr.new rfl (x := (q, i)) hnew0.out (nb := nx) (fun y hy e => by
                obtain ⟨_, _, _, hb⟩ := hcq.node y hy
                have := (Array.getElem?_eq_some_iff.1 hb).1
                rw [hnx.out, e] at this
                exact Nat.lt_irrefl _ this) (by rw [← hnx.out]; exact hBw.out.size) (dv := .slice vA ndt.length vc) (by dsimp only; rw [hnd2.out]; exact hdat.out) (by dsimp only; rw [hnd2.out]; simpa [rnode] using hnd4.out)
              rw [← htk.out] at hch
              have hbi : upd B i nx i = nx := if_pos rfl
              clear hcr hcq e3 f3
              replace hch := Lib.hid hch
              replace hbi := Lib.hid hbi
              have hB1 : Below wx.heap.size wx (wx.drew.alloc (.cells #[.string (mkS (glue q)), .pointer (some ⟨nx, 0, none⟩)] 82)) := below_alloc (below_drewN (Below.refl _ _) 1) _
              have hown1 := own_below hch.out.row hB1
              have hn1 := (MapKept.heap_alloc wx.drew (.cells #[.string (mkS (glue q)), .pointer (some ⟨nx, 0, none⟩)] 82)).1
              have hsrc : Src (wx.drew.alloc (.cells #[.string (mkS (glue q)), .pointer (some ⟨nx, 0, none⟩)] 82)) (.slice (some ⟨wx.drew.heap.size, 0, none⟩) 1 1) 2 1 [.string (mkS (glue q)), .pointer (some ⟨nx, 0, none⟩)] := Or.inr ⟨⟨wx.drew.heap.size, 0, none⟩, 1, rfl, rfl, fun j u hj => by
                rw [add_at, Nat.zero_add]
                refine cell_of hn1 ?_
                rw [← hj]
                simp⟩
              have hB01 := below_step hBx.out hB1
              obtain ⟨v1, w2, hrun, ho, hg, _⟩ := run_append_any w.heap.size 83 82 83 Tryz.underlying83 (.agg #[.string ⟨#[]⟩, .pointer none]) 2 24 info_name rfl (by decide) (.slice uA k uc) k (rrow (upd B i nx) (T.names.take k)) (.slice (some ⟨wx.drew.heap.size, 0, none⟩) 1 1) 1 _ hsrc hown1 (by simp [Value.oneCell']) (by simp only [maxLen]; omega) (by omega) hB01.size
              have hB02 : Below w.heap.size w w2 := hB01.grown hg hB01.size (own_base hown1)
              obtain ⟨vA, vc, hv1, _, _⟩ := own_shape ho
              subst hv1
              have hnew := hch.out.name rfl hB1 hg hx.out (show w2.ownsRow w.heap.size 82 2 (.slice vA (k + 1) vc) (k + 1) (rrow (upd B i nx) (T.names.take k) ++ [.string (mkS (glue q)), ptr ((upd B i nx) i)]) by rw [hbi.out]; exact ho)
              have ht1 := (hB1.block _ (Array.getElem?_eq_some_iff.1 hch.out.tree).1).trans hch.out.tree
              have ht2 : w2.heap[w.heap.size]? = some (.cells #[.slice uA k uc, .int .i64 T.next] 85 (0, 0)) := (hg.block _ (Array.getElem?_eq_some_iff.1 ht1).1 (fun e => by
                obtain ⟨_, cur, hcr⟩ := own_cells hown1 e.symm
                exact types_apart ht1 hcr (by decide) rfl)).trans ht1
              have hSk : ∀ W : World, W.heap[w.heap.size]? = some (.cells #[.slice uA k uc, .int .i64 T.next] 85 (0, 0)) → Below w.heap.size w W → (fun W : World => W.cell? ⟨w.heap.size, 0, none⟩ = some (.slice uA k uc) ∧ W.cell? ⟨rb, 0, none⟩ = some (.slice (some ⟨g, 0, none⟩) T.names.length c) ∧ W.cell? ⟨g, k * 2, none⟩ = some (.string (mkS (glue q)))) W := fun W h1 h2 => ⟨cell_of h1 rfl, (h2.cell (cell_lt t0)).trans t0, (h2.cell (cell_lt ca)).trans ca⟩
              have e0 : (fun W : World => W.cell? ⟨w.heap.size, 0, none⟩ = some (.slice uA k uc) ∧ W.cell? ⟨rb, 0, none⟩ = some (.slice (some ⟨g, 0, none⟩) T.names.length c) ∧ W.cell? ⟨g, k * 2, none⟩ = some (.string (mkS (glue q)))) wx.drew := hSk wx.drew hch.out.tree (below_drewN hBx.out 1)
              have e1 : (fun W : World => W.cell? ⟨w.heap.size, 0, none⟩ = some (.slice uA k uc) ∧ W.cell? ⟨rb, 0, none⟩ = some (.slice (some ⟨g, 0, none⟩) T.names.length c) ∧ W.cell? ⟨g, k * 2, none⟩ = some (.string (mkS (glue q)))) (wx.drew.alloc (.cells #[.string (mkS (glue q)), .pointer (some ⟨nx, 0, none⟩)] 82)) := hSk _ ht1 hB01
              have e2 : (fun W : World => W.cell? ⟨w.heap.size, 0, none⟩ = some (.slice uA k uc) ∧ W.cell? ⟨rb, 0, none⟩ = some (.slice (some ⟨g, 0, none⟩) T.names.length c) ∧ W.cell? ⟨g, k * 2, none⟩ = some (.string (mkS (glue q)))) w2 := hSk _ ht2 hB02
              have f2 : w2.frozen? ⟨w.heap.size, 0, none⟩ = false := by simp [World.frozen?, ht2]
              have e5 : w2.cell? ⟨w.heap.size, 0, none⟩ = some (.slice uA k uc) := cell_of ht2 rfl
              have hB3 := hB02.setCell (p := ⟨w.heap.size, 0, none⟩) (Nat.le_refl _) (.slice vA (k + 1) vc)
              dsimp only at e0 e1 e2
              replace hB1 := Lib.hid hB1
              replace hown1 := Lib.hid hown1
              replace hn1 := Lib.hid hn1
              replace hsrc := Lib.hid hsrc
              replace hB01 := Lib.hid hB01
              replace ho := Lib.hid ho
              replace hB02 := Lib.hid hB02
              replace hnew := Lib.hid hnew
              replace ht1 := Lib.hid ht1
              replace ht2 := Lib.hid ht2
              replace hSk := Lib.hid hSk
              replace e1 := Lib.hid e1
              replace e2 := Lib.hid e2
              replace hB3 := Lib.hid hB3
              replace hrun := Lib.hid hrun
              clear hg
              refine wp_region_held_tail (S := fun W : World => W.cell? ⟨w.heap.size, 0, none⟩ = some (.slice uA k uc) ∧ W.cell? ⟨rb, 0, none⟩ = some (.slice (some ⟨g, 0, none⟩) T.names.length c) ∧ W.cell? ⟨g, k * 2, none⟩ = some (.string (mkS (glue q)))) 17 (by kernel_rfl) (by kernel_rfl) e0 (fun hHeld => ?_)
              simp only [List.take_succ_cons, List.take_zero, List.drop_succ_cons, List.drop_zero]
              simp only [Array.replicate, List.replicate]
              clear e0
              try dsimp only at hHeld
              refine wpAnyH_take (i := 0) (v := ?_) rfl (by kernel_rfl) (by kernel_rfl) (by kernel_rfl) (fun _ _ _ h => h) (Or.inl ⟨by rfl, ?_⟩) (by assumption) ?_
              rotate_left 1
              · intro W hSw
                (try dsimp only at hSw)
                go_simp
                try with_reducible rfl
              simp only [Act.put, List.setIfInBounds_toArray, List.set_cons_zero, List.set_cons_succ]
              refine wpAnyH_take (i := 1) (v := ?_) rfl (by kernel_rfl) (by kernel_rfl) (by kernel_rfl) (fun _ _ _ h => h) (Or.inl ⟨by rfl, ?_⟩) (by assumption) ?_
              rotate_left 1
              · intro W hSw
                (try dsimp only at hSw)
                go_simp
                try with_reducible rfl
              simp only [Act.put, List.setIfInBounds_toArray, List.set_cons_zero, List.set_cons_succ]
              refine wpAnyH_take (i := 2) (v := ?_) rfl (by kernel_rfl) (by kernel_rfl) (by kernel_rfl) (fun _ _ _ h => h) (Or.inl ⟨by rfl, ?_⟩) (by assumption) ?_
              rotate_left 1
              · intro W hSw
                (try dsimp only at hSw)
                go_simp
                try with_reducible rfl
              simp only [Act.put, List.setIfInBounds_toArray, List.set_cons_zero, List.set_cons_succ]
              refine wpAnyH_take (i := 3) (v := ?_) rfl (by kernel_rfl) (by kernel_rfl) (by kernel_rfl) (fun _ _ _ h => h) (Or.inl ⟨by rfl, ?_⟩) (by assumption) ?_
              rotate_left 1
              · intro W hSw
                (try dsimp only at hSw)
                go_simp
                try with_reducible rfl
              simp only [Act.put, List.setIfInBounds_toArray, List.set_cons_zero, List.set_cons_succ]
              refine wpAnyH_take (i := 4) (v := ?_) rfl (by kernel_rfl) (by kernel_rfl) (by kernel_rfl) (fun _ _ _ h => h) (Or.inl ⟨by rfl, ?_⟩) (by assumption) ?_
              rotate_left 1
              · intro W hSw
                (try dsimp only at hSw)
                go_simp
                try with_reducible rfl
              simp only [Act.put, List.setIfInBounds_toArray, List.set_cons_zero, List.set_cons_succ]
              refine wpAnyH_take (i := 5) (v := ?_) rfl (by kernel_rfl) (by kernel_rfl) (by kernel_rfl) (fun _ _ _ h => h) (Or.inl ⟨by rfl, ?_⟩) (by assumption) ?_
              rotate_left 1
              · intro W hSw
                (try dsimp only at hSw)
                go_simp
                try with_reducible rfl
              simp only [Act.put, List.setIfInBounds_toArray, List.set_cons_zero, List.set_cons_succ]
              refine wpAnyH_take (i := 6) (v := ?_) rfl (by kernel_rfl) (by kernel_rfl) (by kernel_rfl) (fun _ _ _ h => h) (Or.inl ⟨by rfl, ?_⟩) (by assumption) ?_
              rotate_left 1
              · intro W hSw
                (try dsimp only at hSw)
                go_simp
                try with_reducible rfl
              simp only [Act.put, List.setIfInBounds_toArray, List.set_cons_zero, List.set_cons_succ]
              refine wpAnyH_take (i := 7) (v := ?_) rfl (by kernel_rfl) (by kernel_rfl) (by kernel_rfl) (fun _ _ _ h => h) (Or.inl ⟨by rfl, ?_⟩) (by assumption) ?_
              rotate_left 1
              · intro W hSw
                (try dsimp only at hSw)
                go_simp
                try with_reducible rfl
              simp only [Act.put, List.setIfInBounds_toArray, List.set_cons_zero, List.set_cons_succ]
              refine wpAnyH_take (i := 8) (v := ?_) rfl (by kernel_rfl) (by kernel_rfl) (by kernel_rfl) (fun _ _ _ h => h) (Or.inl ⟨by rfl, ?_⟩) (by assumption) ?_
              rotate_left 1
              · intro W hSw
                (try dsimp only at hSw)
                go_simp
                try with_reducible rfl
              simp only [Act.put, List.setIfInBounds_toArray, List.set_cons_zero, List.set_cons_succ]
              refine wpAnyH_take (i := 9) (v := ?_) rfl (by kernel_rfl) (by kernel_rfl) (by kernel_rfl) (fun _ _ _ h => h) (Or.inl ⟨by rfl, ?_⟩) (by assumption) ?_
              rotate_left 1
              · intro W hSw
                (try dsimp only at hSw)
                go_simp
                try with_reducible rfl
              simp only [Act.put, List.setIfInBounds_toArray, List.set_cons_zero, List.set_cons_succ]
              refine wpAnyH_take (i := 10) (v := ?_) rfl (by kernel_rfl) (by kernel_rfl) (by kernel_rfl) (fun _ _ _ h => h) (Or.inl ⟨by rfl, ?_⟩) (by assumption) ?_
              rotate_left 1
              · intro W hSw
                (try dsimp only at hSw)
                go_simp
                try with_reducible rfl
              simp only [Act.put, List.setIfInBounds_toArray, List.set_cons_zero, List.set_cons_succ]
              refine wpAnyH_take (i := 11) (v := ?_) rfl (by kernel_rfl) (by kernel_rfl) (by kernel_rfl) (fun _ _ _ h => h) (Or.inl ⟨by rfl, ?_⟩) (by assumption) ?_
              rotate_left 1
              · intro W hSw
                (try dsimp only at hSw)
                go_simp
                try with_reducible rfl
              simp only [Act.put, List.setIfInBounds_toArray, List.set_cons_zero, List.set_cons_succ]
              refine wpAnyH_take (i := 12) (v := ?_) rfl (by kernel_rfl) (by kernel_rfl) (by kernel_rfl) (fun _ _ _ h => h) (Or.inl ⟨by rfl, ?_⟩) (by assumption) ?_
              rotate_left 1
              · intro W hSw
                (try dsimp only at hSw)
                go_simp
                try with_reducible rfl
              simp only [Act.put, List.setIfInBounds_toArray, List.set_cons_zero, List.set_cons_succ]
              refine wpAnyH_take (i := 13) (v := ?_) rfl (by kernel_rfl) (by kernel_rfl) (by kernel_rfl) (fun _ _ _ h => h) (Or.inl ⟨by rfl, ?_⟩) (by assumption) ?_
              rotate_left 1
              · intro W hSw
                (try dsimp only at hSw)
                go_simp
                try with_reducible rfl
              simp only [Act.put, List.setIfInBounds_toArray, List.set_cons_zero, List.set_cons_succ]
              refine wpAnyH_take (i := 14) (v := ?_) rfl (by kernel_rfl) (by kernel_rfl) (by kernel_rfl) (fun _ _ _ h => h) (Or.inl ⟨by rfl, ?_⟩) (by assumption) ?_
              rotate_left 1
              · intro W hSw
                (try dsimp only at hSw)
                go_simp
                try with_reducible rfl
              simp only [Act.put, List.setIfInBounds_toArray, List.set_cons_zero, List.set_cons_succ]
              refine wpAnyH_ready (rs := [15]) (by kernel_rfl) (by simp) ?_
              refine AllReadyH.cons rfl (fun K hK => ?_) AllReadyH.nil
              go_simp
              refine hK.out _ _ e1.out (fun hHeld => ?_)
              clear hK K
              simp only [Act.put, List.setIfInBounds_toArray, List.set_cons_zero, List.set_cons_succ]
              refine wpAnyH_ready (rs := [16]) (by kernel_rfl) (by simp) ?_
              refine AllReadyH.cons rfl (fun K hK => ?_) AllReadyH.nil
              refine step_append_by rfl _ _ 83 rfl _ _ rfl rfl _ w2 hrun.out ?_
              refine hK.out _ _ e2.out (fun hHeld => ?_)
              clear hK K
              simp only [Act.put, List.setIfInBounds_toArray, List.set_cons_zero, List.set_cons_succ]
              refine wpAnyH_done (by kernel_rfl) ?_ _
              change wpList _ _ _ _ _ w2
              clear hHeld
              go_wp2
              go_roundw
              case rel => exact ⟨k + 1, .slice vA (k + 1) vc, (upd B i nx), by go_num, by omega, hnew.out, hB3.out⟩
              case measure => simp [intOf]; omega
        · have hch := (hc.out.below hBq).old (x := (q, i)) hyes
          rw [← htk.out] at hch
          have hbi : B i = B i := rfl
          generalize hwx : wr = wx at *
          have hBx := hBw
          clear t0r caq cbq t0q n1
          replace hch := Lib.hid hch
          replace hbi := Lib.hid hbi
          replace hBq := Lib.hid hBq
          replace hBw := Lib.hid hBw
          replace hyes := Lib.hid hyes
          replace hBx := Lib.hid hBx
          replace hwx := Lib.hid hwx
          by_cases hjk : j < k
          · have hjk3 : decide (j < k) = true := by simpa using hjk
            go_upto_region 15 with fail
            have hB1 : Below wx.heap.size wx (wx.drew.alloc (.cells #[.string (mkS (glue q)), .pointer (some ⟨B i, 0, none⟩)] 82)) := below_alloc (below_drewN (Below.refl _ _) 1) _
            have hown1 := own_below hch.out.row hB1
            have hn1 := (MapKept.heap_alloc wx.drew (.cells #[.string (mkS (glue q)), .pointer (some ⟨B i, 0, none⟩)] 82)).1
            have hsrc : Src (wx.drew.alloc (.cells #[.string (mkS (glue q)), .pointer (some ⟨B i, 0, none⟩)] 82)) (.slice (some ⟨wx.drew.heap.size, 0, none⟩) 1 1) 2 1 [.string (mkS (glue q)), .pointer (some ⟨B i, 0, none⟩)] := Or.inr ⟨⟨wx.drew.heap.size, 0, none⟩, 1, rfl, rfl, fun j u hj => by
              rw [add_at, Nat.zero_add]
              refine cell_of hn1 ?_
              rw [← hj]
              simp⟩
            have hB01 := below_step hBx.out hB1
            obtain ⟨v1, w2, hrun, ho, hg, _⟩ := run_append_any w.heap.size 83 82 83 Tryz.underlying83 (.agg #[.string ⟨#[]⟩, .pointer none]) 2 24 info_name rfl (by decide) (.slice uA k uc) k (rrow B (T.names.take k)) (.slice (some ⟨wx.drew.heap.size, 0, none⟩) 1 1) 1 _ hsrc hown1 (by simp [Value.oneCell']) (by simp only [maxLen]; omega) (by omega) hB01.size
            have hB02 : Below w.heap.size w w2 := hB01.grown hg hB01.size (own_base hown1)
            obtain ⟨vA, vc, hv1, _, _⟩ := own_shape ho
            subst hv1
            have hnew := hch.out.name rfl hB1 hg hx.out (show w2.ownsRow w.heap.size 82 2 (.slice vA (k + 1) vc) (k + 1) (rrow B (T.names.take k) ++ [.string (mkS (glue q)), ptr (B i)]) by rw [hbi.out]; exact ho)
            have ht1 := (hB1.block _ (Array.getElem?_eq_some_iff.1 hch.out.tree).1).trans hch.out.tree
            have ht2 : w2.heap[w.heap.size]? = some (.cells #[.slice uA k uc, .int .i64 T.next] 85 (0, 0)) := (hg.block _ (Array.getElem?_eq_some_iff.1 ht1).1 (fun e => by
              obtain ⟨_, cur, hcr⟩ := own_cells hown1 e.symm
              exact types_apart ht1 hcr (by decide) rfl)).trans ht1
            have hSk : ∀ W : World, W.heap[w.heap.size]? = some (.cells #[.slice uA k uc, .int .i64 T.next] 85 (0, 0)) → Below w.heap.size w W → (fun W : World => W.cell? ⟨w.heap.size, 0, none⟩ = some (.slice uA k uc) ∧ W.cell? ⟨rb, 0, none⟩ = some (.slice (some ⟨g, 0, none⟩) T.names.length c) ∧ W.cell? ⟨g, k * 2, none⟩ = some (.string (mkS (glue q)))) W := fun W h1 h2 => ⟨cell_of h1 rfl, (h2.cell (cell_lt t0)).trans t0, (h2.cell (cell_lt ca)).trans ca⟩
            have e0 : (fun W : World => W.cell? ⟨w.heap.size, 0, none⟩ = some (.slice uA k uc) ∧ W.cell? ⟨rb, 0, none⟩ = some (.slice (some ⟨g, 0, none⟩) T.names.length c) ∧ W.cell? ⟨g, k * 2, none⟩ = some (.string (mkS (glue q)))) wx.drew := hSk wx.drew hch.out.tree (below_drewN hBx.out 1)
            have e1 : (fun W : World => W.cell? ⟨w.heap.size, 0, none⟩ = some (.slice uA k uc) ∧ W.cell? ⟨rb, 0, none⟩ = some (.slice (some ⟨g, 0, none⟩) T.names.length c) ∧ W.cell? ⟨g, k * 2, none⟩ = some (.string (mkS (glue q)))) (wx.drew.alloc (.cells #[.string (mkS (glue q)), .pointer (some ⟨B i, 0, none⟩)] 82)) := hSk _ ht1 hB01
            have e2 : (fun W : World => W.cell? ⟨w.heap.size, 0, none⟩ = some (.slice uA k uc) ∧ W.cell? ⟨rb, 0, none⟩ = some (.slice (some ⟨g, 0, none⟩) T.names.length c) ∧ W.cell? ⟨g, k * 2, none⟩ = some (.string (mkS (glue q)))) w2 := hSk _ ht2 hB02
            have f2 : w2.frozen? ⟨w.heap.size, 0, none⟩ = false := by simp [World.frozen?, ht2]
            have e5 : w2.cell? ⟨w.heap.size, 0, none⟩ = some (.slice uA k uc) := cell_of ht2 rfl
            have hB3 := hB02.setCell (p := ⟨w.heap.size, 0, none⟩) (Nat.le_refl _) (.slice vA (k + 1) vc)
            dsimp only at e0 e1 e2
            replace hB1 := Lib.hid hB1
            replace hown1 := Lib.hid hown1
            replace hn1 := Lib.hid hn1
            replace hsrc := Lib.hid hsrc
            replace hB01 := Lib.hid hB01
            replace ho := Lib.hid ho
            replace hB02 := Lib.hid hB02
            replace hnew := Lib.hid hnew
            replace ht1 := Lib.hid ht1
            replace ht2 := Lib.hid ht2
            replace hSk := Lib.hid hSk
            replace e1 := Lib.hid e1
            replace e2 := Lib.hid e2
            replace hB3 := Lib.hid hB3
            replace hrun := Lib.hid hrun
            clear hg
            refine wp_region_held_tail (S := fun W : World => W.cell? ⟨w.heap.size, 0, none⟩ = some (.slice uA k uc) ∧ W.cell? ⟨rb, 0, none⟩ = some (.slice (some ⟨g, 0, none⟩) T.names.length c) ∧ W.cell? ⟨g, k * 2, none⟩ = some (.string (mkS (glue q)))) 17 (by kernel_rfl) (by kernel_rfl) e0 (fun hHeld => ?_)
            simp only [List.take_succ_cons, List.take_zero, List.drop_succ_cons, List.drop_zero]
            simp only [Array.replicate, List.replicate]
            clear e0
            try dsimp only at hHeld
            refine wpAnyH_take (i := 0) (v := ?_) rfl (by kernel_rfl) (by kernel_rfl) (by kernel_rfl) (fun _ _ _ h => h) (Or.inl ⟨by rfl, ?_⟩) (by assumption) ?_
            rotate_left 1
            · intro W hSw
              (try dsimp only at hSw)
              go_simp
              try with_reducible rfl
            simp only [Act.put, List.setIfInBounds_toArray, List.set_cons_zero, List.set_cons_succ]
            refine wpAnyH_take (i := 1) (v := ?_) rfl (by kernel_rfl) (by kernel_rfl) (by kernel_rfl) (fun _ _ _ h => h) (Or.inl ⟨by rfl, ?_⟩) (by assumption) ?_
            rotate_left 1
            · intro W hSw
              (try dsimp only at hSw)
              go_simp
              try with_reducible rfl
            simp only [Act.put, List.setIfInBounds_toArray, List.set_cons_zero, List.set_cons_succ]
            refine wpAnyH_take (i := 2) (v := ?_) rfl (by kernel_rfl) (by kernel_rfl) (by kernel_rfl) (fun _ _ _ h => h) (Or.inl ⟨by rfl, ?_⟩) (by assumption) ?_
            rotate_left 1
            · intro W hSw
              (try dsimp only at hSw)
              go_simp
              try with_reducible rfl
            simp only [Act.put, List.setIfInBounds_toArray, List.set_cons_zero, List.set_cons_succ]
            refine wpAnyH_take (i := 3) (v := ?_) rfl (by kernel_rfl) (by kernel_rfl) (by kernel_rfl) (fun _ _ _ h => h) (Or.inl ⟨by rfl, ?_⟩) (by assumption) ?_
            rotate_left 1
            · intro W hSw
              (try dsimp only at hSw)
              go_simp
              try with_reducible rfl
            simp only [Act.put, List.setIfInBounds_toArray, List.set_cons_zero, List.set_cons_succ]
            refine wpAnyH_take (i := 4) (v := ?_) rfl (by kernel_rfl) (by kernel_rfl) (by kernel_rfl) (fun _ _ _ h => h) (Or.inl ⟨by rfl, ?_⟩) (by assumption) ?_
            rotate_left 1
            · intro W hSw
              (try dsimp only at hSw)
              go_simp
              try with_reducible rfl
            simp only [Act.put, List.setIfInBounds_toArray, List.set_cons_zero, List.set_cons_succ]
            refine wpAnyH_take (i := 5) (v := ?_) rfl (by kernel_rfl) (by kernel_rfl) (by kernel_rfl) (fun _ _ _ h => h) (Or.inl ⟨by rfl, ?_⟩) (by assumption) ?_
            rotate_left 1
            · intro W hSw
              (try dsimp only at hSw)
              go_simp
              try with_reducible rfl
            simp only [Act.put, List.setIfInBounds_toArray, List.set_cons_zero, List.set_cons_succ]
            refine wpAnyH_take (i := 6) (v := ?_) rfl (by kernel_rfl) (by kernel_rfl) (by kernel_rfl) (fun _ _ _ h => h) (Or.inl ⟨by rfl, ?_⟩) (by assumption) ?_
            rotate_left 1
            · intro W hSw
              (try dsimp only at hSw)
              go_simp
              try with_reducible rfl
            simp only [Act.put, List.setIfInBounds_toArray, List.set_cons_zero, List.set_cons_succ]
            refine wpAnyH_take (i := 7) (v := ?_) rfl (by kernel_rfl) (by kernel_rfl) (by kernel_rfl) (fun _ _ _ h => h) (Or.inl ⟨by rfl, ?_⟩) (by assumption) ?_
            rotate_left 1
            · intro W hSw
              (try dsimp only at hSw)
              go_simp
              try with_reducible rfl
            simp only [Act.put, List.setIfInBounds_toArray, List.set_cons_zero, List.set_cons_succ]
            refine wpAnyH_take (i := 8) (v := ?_) rfl (by kernel_rfl) (by kernel_rfl) (by kernel_rfl) (fun _ _ _ h => h) (Or.inl ⟨by rfl, ?_⟩) (by assumption) ?_
            rotate_left 1
            · intro W hSw
              (try dsimp only at hSw)
              go_simp
              try with_reducible rfl
            simp only [Act.put, List.setIfInBounds_toArray, List.set_cons_zero, List.set_cons_succ]
            refine wpAnyH_take (i := 9) (v := ?_) rfl (by kernel_rfl) (by kernel_rfl) (by kernel_rfl) (fun _ _ _ h => h) (Or.inl ⟨by rfl, ?_⟩) (by assumption) ?_
            rotate_left 1
            · intro W hSw
              (try dsimp only at hSw)
              go_simp
              try with_reducible rfl
            simp only [Act.put, List.setIfInBounds_toArray, List.set_cons_zero, List.set_cons_succ]
            refine wpAnyH_take (i := 10) (v := ?_) rfl (by kernel_rfl) (by kernel_rfl) (by kernel_rfl) (fun _ _ _ h => h) (Or.inl ⟨by rfl, ?_⟩) (by assumption) ?_
            rotate_left 1
            · intro W hSw
              (try dsimp only at hSw)
              go_simp
              try with_reducible rfl
            simp only [Act.put, List.setIfInBounds_toArray, List.set_cons_zero, List.set_cons_succ]
            refine wpAnyH_take (i := 11) (v := ?_) rfl (by kernel_rfl) (by kernel_rfl) (by kernel_rfl) (fun _ _ _ h => h) (Or.inl ⟨by rfl, ?_⟩) (by assumption) ?_
            rotate_left 1
            · intro W hSw
              (try dsimp only at hSw)
              go_simp
              try with_reducible rfl
            simp only [Act.put, List.setIfInBounds_toArray, List.set_cons_zero, List.set_cons_succ]
            refine wpAnyH_take (i := 12) (v := ?_) rfl (by kernel_rfl) (by kernel_rfl) (by kernel_rfl) (fun _ _ _ h => h) (Or.inl ⟨by rfl, ?_⟩) (by assumption) ?_
            rotate_left 1
            · intro W hSw
              (try dsimp only at hSw)
              go_simp
              try with_reducible rfl
            simp only [Act.put, List.setIfInBounds_toArray, List.set_cons_zero, List.set_cons_succ]
            refine wpAnyH_take (i := 13) (v := ?_) rfl (by kernel_rfl) (by kernel_rfl) (by kernel_rfl) (fun _ _ _ h => h) (Or.inl ⟨by rfl, ?_⟩) (by assumption) ?_
            rotate_left 1
            · intro W hSw
              (try dsimp only at hSw)
              go_simp
              try with_reducible rfl
            simp only [Act.put, List.setIfInBounds_toArray, List.set_cons_zero, List.set_cons_succ]
            refine wpAnyH_take (i := 14) (v := ?_) rfl (by kernel_rfl) (by kernel_rfl) (by kernel_rfl) (fun _ _ _ h => h) (Or.inl ⟨by rfl, ?_⟩) (by assumption) ?_
            rotate_left 1
            · intro W hSw
              (try dsimp only at hSw)
              go_simp
              try with_reducible rfl
            simp only [Act.put, List.setIfInBounds_toArray, List.set_cons_zero, List.set_cons_succ]
            refine wpAnyH_ready (rs := [15]) (by kernel_rfl) (by simp) ?_
            refine AllReadyH.cons rfl (fun K hK => ?_) AllReadyH.nil
            go_simp
            refine hK.out _ _ e1.out (fun hHeld => ?_)
            clear hK K
            simp only [Act.put, List.setIfInBounds_toArray, List.set_cons_zero, List.set_cons_succ]
            refine wpAnyH_ready (rs := [16]) (by kernel_rfl) (by simp) ?_
            refine AllReadyH.cons rfl (fun K hK => ?_) AllReadyH.nil
            refine step_append_by rfl _ _ 83 rfl _ _ rfl rfl _ w2 hrun.out ?_
            refine hK.out _ _ e2.out (fun hHeld => ?_)
            clear hK K
            simp only [Act.put, List.setIfInBounds_toArray, List.set_cons_zero, List.set_cons_succ]
            refine wpAnyH_done (by kernel_rfl) ?_ _
            change wpList _ _ _ _ _ w2
            clear hHeld
            go_wp2
            go_roundw
            case rel => exact ⟨k + 1, .slice vA (k + 1) vc, B, by go_num, by omega, hnew.out, hB3.out⟩
            case measure => simp [intOf]; omega
          · obtain rfl : k = j := by omega
            go_upto_region 15 with fail
            have hB1 : Below wx.heap.size wx (wx.drew.alloc (.cells #[.string (mkS (glue q)), .pointer (some ⟨B i, 0, none⟩)] 82)) := below_alloc (below_drewN (Below.refl _ _) 1) _
            have hown1 := own_below hch.out.row hB1
            have hn1 := (MapKept.heap_alloc wx.drew (.cells #[.string (mkS (glue q)), .pointer (some ⟨B i, 0, none⟩)] 82)).1
            have hsrc : Src (wx.drew.alloc (.cells #[.string (mkS (glue q)), .pointer (some ⟨B i, 0, none⟩)] 82)) (.slice (some ⟨wx.drew.heap.size, 0, none⟩) 1 1) 2 1 [.string (mkS (glue q)), .pointer (some ⟨B i, 0, none⟩)] := Or.inr ⟨⟨wx.drew.heap.size, 0, none⟩, 1, rfl, rfl, fun j u hj => by
              rw [add_at, Nat.zero_add]
              refine cell_of hn1 ?_
              rw [← hj]
              simp⟩
            have hB01 := below_step hBx.out hB1
            obtain ⟨v1, w2, hrun, ho, hg, _⟩ := run_append_any w.heap.size 83 82 83 Tryz.underlying83 (.agg #[.string ⟨#[]⟩, .pointer none]) 2 24 info_name rfl (by decide) (.slice uA k uc) k (rrow B (T.names.take k)) (.slice (some ⟨wx.drew.heap.size, 0, none⟩) 1 1) 1 _ hsrc hown1 (by simp [Value.oneCell']) (by simp only [maxLen]; omega) (by omega) hB01.size
            have hB02 : Below w.heap.size w w2 := hB01.grown hg hB01.size (own_base hown1)
            obtain ⟨vA, vc, hv1, _, _⟩ := own_shape ho
            subst hv1
            have hnew := hch.out.name rfl hB1 hg hx.out (show w2.ownsRow w.heap.size 82 2 (.slice vA (k + 1) vc) (k + 1) (rrow B (T.names.take k) ++ [.string (mkS (glue q)), ptr (B i)]) by rw [hbi.out]; exact ho)
            have ht1 := (hB1.block _ (Array.getElem?_eq_some_iff.1 hch.out.tree).1).trans hch.out.tree
            have ht2 : w2.heap[w.heap.size]? = some (.cells #[.slice uA k uc, .int .i64 T.next] 85 (0, 0)) := (hg.block _ (Array.getElem?_eq_some_iff.1 ht1).1 (fun e => by
              obtain ⟨_, cur, hcr⟩ := own_cells hown1 e.symm
              exact types_apart ht1 hcr (by decide) rfl)).trans ht1
            have hSk : ∀ W : World, W.heap[w.heap.size]? = some (.cells #[.slice uA k uc, .int .i64 T.next] 85 (0, 0)) → Below w.heap.size w W → (fun W : World => W.cell? ⟨w.heap.size, 0, none⟩ = some (.slice uA k uc) ∧ W.cell? ⟨rb, 0, none⟩ = some (.slice (some ⟨g, 0, none⟩) T.names.length c) ∧ W.cell? ⟨g, k * 2, none⟩ = some (.string (mkS (glue q)))) W := fun W h1 h2 => ⟨cell_of h1 rfl, (h2.cell (cell_lt t0)).trans t0, (h2.cell (cell_lt ca)).trans ca⟩
            have e0 : (fun W : World => W.cell? ⟨w.heap.size, 0, none⟩ = some (.slice uA k uc) ∧ W.cell? ⟨rb, 0, none⟩ = some (.slice (some ⟨g, 0, none⟩) T.names.length c) ∧ W.cell? ⟨g, k * 2, none⟩ = some (.string (mkS (glue q)))) wx.drew := hSk wx.drew hch.out.tree (below_drewN hBx.out 1)
            have e1 : (fun W : World => W.cell? ⟨w.heap.size, 0, none⟩ = some (.slice uA k uc) ∧ W.cell? ⟨rb, 0, none⟩ = some (.slice (some ⟨g, 0, none⟩) T.names.length c) ∧ W.cell? ⟨g, k * 2, none⟩ = some (.string (mkS (glue q)))) (wx.drew.alloc (.cells #[.string (mkS (glue q)), .pointer (some ⟨B i, 0, none⟩)] 82)) := hSk _ ht1 hB01
            have e2 : (fun W : World => W.cell? ⟨w.heap.size, 0, none⟩ = some (.slice uA k uc) ∧ W.cell? ⟨rb, 0, none⟩ = some (.slice (some ⟨g, 0, none⟩) T.names.length c) ∧ W.cell? ⟨g, k * 2, none⟩ = some (.string (mkS (glue q)))) w2 := hSk _ ht2 hB02
            have f2 : w2.frozen? ⟨w.heap.size, 0, none⟩ = false := by simp [World.frozen?, ht2]
            have e5 : w2.cell? ⟨w.heap.size, 0, none⟩ = some (.slice uA k uc) := cell_of ht2 rfl
            have hB3 := hB02.setCell (p := ⟨w.heap.size, 0, none⟩) (Nat.le_refl _) (.slice vA (k + 1) vc)
            dsimp only at e0 e1 e2
            replace hB1 := Lib.hid hB1
            replace hown1 := Lib.hid hown1
            replace hn1 := Lib.hid hn1
            replace hsrc := Lib.hid hsrc
            replace hB01 := Lib.hid hB01
            replace ho := Lib.hid ho
            replace hB02 := Lib.hid hB02
            replace hnew := Lib.hid hnew
            replace ht1 := Lib.hid ht1
            replace ht2 := Lib.hid ht2
            replace hSk := Lib.hid hSk
            replace e1 := Lib.hid e1
            replace e2 := Lib.hid e2
            replace hB3 := Lib.hid hB3
            replace hrun := Lib.hid hrun
            clear hg
            refine wp_region_held_tail (S := fun W : World => W.cell? ⟨w.heap.size, 0, none⟩ = some (.slice uA k uc) ∧ W.cell? ⟨rb, 0, none⟩ = some (.slice (some ⟨g, 0, none⟩) T.names.length c) ∧ W.cell? ⟨g, k * 2, none⟩ = some (.string (mkS (glue q)))) 17 (by kernel_rfl) (by kernel_rfl) e0 (fun hHeld => ?_)
            simp only [List.take_succ_cons, List.take_zero, List.drop_succ_cons, List.drop_zero]
            simp only [Array.replicate, List.replicate]
            clear e0
            try dsimp only at hHeld
            refine wpAnyH_take (i := 0) (v := ?_) rfl (by kernel_rfl) (by kernel_rfl) (by kernel_rfl) (fun _ _ _ h => h) (Or.inl ⟨by rfl, ?_⟩) (by assumption) ?_
            rotate_left 1
            · intro W hSw
              (try dsimp only at hSw)
              go_simp
              try with_reducible rfl
            simp only [Act.put, List.setIfInBounds_toArray, List.set_cons_zero, List.set_cons_succ]
            refine wpAnyH_take (i := 1) (v := ?_) rfl (by kernel_rfl) (by kernel_rfl) (by kernel_rfl) (fun _ _ _ h => h) (Or.inl ⟨by rfl, ?_⟩) (by assumption) ?_
            rotate_left 1
            · intro W hSw
              (try dsimp only at hSw)
              go_simp
              try with_reducible rfl
            simp only [Act.put, List.setIfInBounds_toArray, List.set_cons_zero, List.set_cons_succ]
            refine wpAnyH_take (i := 2) (v := ?_) rfl (by kernel_rfl) (by kernel_rfl) (by kernel_rfl) (fun _ _ _ h => h) (Or.inl ⟨by rfl, ?_⟩) (by assumption) ?_
            rotate_left 1
            · intro W hSw
              (try dsimp only at hSw)
              go_simp
              try with_reducible rfl
            simp only [Act.put, List.setIfInBounds_toArray, List.set_cons_zero, List.set_cons_succ]
            refine wpAnyH_take (i := 3) (v := ?_) rfl (by kernel_rfl) (by kernel_rfl) (by kernel_rfl) (fun _ _ _ h => h) (Or.inl ⟨by rfl, ?_⟩) (by assumption) ?_
            rotate_left 1
            · intro W hSw
              (try dsimp only at hSw)
              go_simp
              try with_reducible rfl
            simp only [Act.put, List.setIfInBounds_toArray, List.set_cons_zero, List.set_cons_succ]
            refine wpAnyH_take (i := 4) (v := ?_) rfl (by kernel_rfl) (by kernel_rfl) (by kernel_rfl) (fun _ _ _ h => h) (Or.inl ⟨by rfl, ?_⟩) (by assumption) ?_
            rotate_left 1
            · intro W hSw
              (try dsimp only at hSw)
              go_simp
              try with_reducible rfl
            simp only [Act.put, List.setIfInBounds_toArray, List.set_cons_zero, List.set_cons_succ]
            refine wpAnyH_take (i := 5) (v := ?_) rfl (by kernel_rfl) (by kernel_rfl) (by kernel_rfl) (fun _ _ _ h => h) (Or.inl ⟨by rfl, ?_⟩) (by assumption) ?_
            rotate_left 1
            · intro W hSw
              (try dsimp only at hSw)
              go_simp
              try with_reducible rfl
            simp only [Act.put, List.setIfInBounds_toArray, List.set_cons_zero, List.set_cons_succ]
            refine wpAnyH_take (i := 6) (v := ?_) rfl (by kernel_rfl) (by kernel_rfl) (by kernel_rfl) (fun _ _ _ h => h) (Or.inl ⟨by rfl, ?_⟩) (by assumption) ?_
            rotate_left 1
            · intro W hSw
              (try dsimp only at hSw)
              go_simp
              try with_reducible rfl
            simp only [Act.put, List.setIfInBounds_toArray, List.set_cons_zero, List.set_cons_succ]
            refine wpAnyH_take (i := 7) (v := ?_) rfl (by kernel_rfl) (by kernel_rfl) (by kernel_rfl) (fun _ _ _ h => h) (Or.inl ⟨by rfl, ?_⟩) (by assumption) ?_
            rotate_left 1
            · intro W hSw
              (try dsimp only at hSw)
              go_simp
              try with_reducible rfl
            simp only [Act.put, List.setIfInBounds_toArray, List.set_cons_zero, List.set_cons_succ]
            refine wpAnyH_take (i := 8) (v := ?_) rfl (by kernel_rfl) (by kernel_rfl) (by kernel_rfl) (fun _ _ _ h => h) (Or.inl ⟨by rfl, ?_⟩) (by assumption) ?_
            rotate_left 1
            · intro W hSw
              (try dsimp only at hSw)
              go_simp
              try with_reducible rfl
            simp only [Act.put, List.setIfInBounds_toArray, List.set_cons_zero, List.set_cons_succ]
            refine wpAnyH_take (i := 9) (v := ?_) rfl (by kernel_rfl) (by kernel_rfl) (by kernel_rfl) (fun _ _ _ h => h) (Or.inl ⟨by rfl, ?_⟩) (by assumption) ?_
            rotate_left 1
            · intro W hSw
              (try dsimp only at hSw)
              go_simp
              try with_reducible rfl
            simp only [Act.put, List.setIfInBounds_toArray, List.set_cons_zero, List.set_cons_succ]
            refine wpAnyH_take (i := 10) (v := ?_) rfl (by kernel_rfl) (by kernel_rfl) (by kernel_rfl) (fun _ _ _ h => h) (Or.inl ⟨by rfl, ?_⟩) (by assumption) ?_
            rotate_left 1
            · intro W hSw
              (try dsimp only at hSw)
              go_simp
              try with_reducible rfl
            simp only [Act.put, List.setIfInBounds_toArray, List.set_cons_zero, List.set_cons_succ]
            refine wpAnyH_take (i := 11) (v := ?_) rfl (by kernel_rfl) (by kernel_rfl) (by kernel_rfl) (fun _ _ _ h => h) (Or.inl ⟨by rfl, ?_⟩) (by assumption) ?_
            rotate_left 1
            · intro W hSw
              (try dsimp only at hSw)
              go_simp
              try with_reducible rfl
            simp only [Act.put, List.setIfInBounds_toArray, List.set_cons_zero, List.set_cons_succ]
            refine wpAnyH_take (i := 12) (v := ?_) rfl (by kernel_rfl) (by kernel_rfl) (by kernel_rfl) (fun _ _ _ h => h) (Or.inl ⟨by rfl, ?_⟩) (by assumption) ?_
            rotate_left 1
            · intro W hSw
              (try dsimp only at hSw)
              go_simp
              try with_reducible rfl
            simp only [Act.put, List.setIfInBounds_toArray, List.set_cons_zero, List.set_cons_succ]
            refine wpAnyH_take (i := 13) (v := ?_) rfl (by kernel_rfl) (by kernel_rfl) (by kernel_rfl) (fun _ _ _ h => h) (Or.inl ⟨by rfl, ?_⟩) (by assumption) ?_
            rotate_left 1
            · intro W hSw
              (try dsimp only at hSw)
              go_simp
              try with_reducible rfl
            simp only [Act.put, List.setIfInBounds_toArray, List.set_cons_zero, List.set_cons_succ]
            refine wpAnyH_take (i := 14) (v := ?_) rfl (by kernel_rfl) (by kernel_rfl) (by kernel_rfl) (fun _ _ _ h => h) (Or.inl ⟨by rfl, ?_⟩) (by assumption) ?_
            rotate_left 1
            · intro W hSw
              (try dsimp only at hSw)
              go_simp
              try with_reducible rfl
            simp only [Act.put, List.setIfInBounds_toArray, List.set_cons_zero, List.set_cons_succ]
            refine wpAnyH_ready (rs := [15]) (by kernel_rfl) (by simp) ?_
            refine AllReadyH.cons rfl (fun K hK => ?_) AllReadyH.nil
            go_simp
            refine hK.out _ _ e1.out (fun hHeld => ?_)
            clear hK K
            simp only [Act.put, List.setIfInBounds_toArray, List.set_cons_zero, List.set_cons_succ]
            refine wpAnyH_ready (rs := [16]) (by kernel_rfl) (by simp) ?_
            refine AllReadyH.cons rfl (fun K hK => ?_) AllReadyH.nil
            refine step_append_by rfl _ _ 83 rfl _ _ rfl rfl _ w2 hrun.out ?_
            refine hK.out _ _ e2.out (fun hHeld => ?_)
            clear hK K
            simp only [Act.put, List.setIfInBounds_toArray, List.set_cons_zero, List.set_cons_succ]
            refine wpAnyH_done (by kernel_rfl) ?_ _
            change wpList _ _ _ _ _ w2
            clear hHeld
            go_wp2
            go_roundw
            case rel => exact ⟨k + 1, .slice vA (k + 1) vc, B, by go_num, by omega, hnew.out, hB3.out⟩
            case measure => simp [intOf]; omega
    · obtain rfl : k = T.names.length := by omega
      obtain ⟨g1, g2⟩ := hc.fin hI.out rfl
      clear t0
      replace g1 := Lib.hid g1
      replace g2 := Lib.hid g2
      replace hB := Lib.hid hB
      replace hc := Lib.hid hc
      replace hcs := Lib.hid hcs
      go_wp2
      go_ret
      exact ⟨w.heap.size, u, B, rfl, g1.out, g2.out, hB.out⟩

end

end Go.Proofs.YtemdinjiplglgaaGreat

namespace Go.Proofs.YtemdinjiplglgaaGreat
open Go.RowKit

section
variable (ab : Nat) (va : Value) (A : Nat → Nat) (T : Fs) (bb : Nat) (vb : Value) (B : Nat → Nat) (U : Fs)

set_option maxHeartbeats 4000000 in
set_option maxRecDepth 100000 in
theorem rsame_calls (w : World) (hR : RRep w ab va A T) (hS : RRep w bb vb B U) (hf : T.names.length ≤ 100000) (hg : U.names.length ≤ 100000) :
    Calls Tryz.prog 30 #[ptr ab, ptr bb] w (SameRes T U w) := by
  have hT := hR.inv
  have hU := hS.inv
  have hpa := fun W hW => rpaths_calls ab va A T W hW (by omega)
  have hpb := fun W hW => rpaths_calls bb vb B U W hW (by omega)
  have hla := fun W s hs hW => rlook_calls ab va A T s W hW hs
  have hlb := fun W s hs hW => rlook_calls bb vb B U s W hW hs
  have hna := fun W s hs hW => rnames_calls ab va A T s W hW hs (by omega)
  have hnb := fun W s hs hW => rnames_calls bb vb B U s W hW hs (by omega)
  have hPl : T.paths.length ≤ 1000000 := by rw [paths_len]; exact Nat.le_trans (below_few T []) (by omega)
  have hres : ∀ (W : World) (e : Ending) (r : Bool), e = .returned (.bool r) → (r = true ↔ SameFs T U) → Below w.heap.size w W → SameRes T U w e W := fun W e r he hr hB => ⟨⟨r, he, hr⟩, hB⟩
  unfold ptr at *
  replace hR := Lib.hid hR
  replace hS := Lib.hid hS
  replace hT := Lib.hid hT
  replace hU := Lib.hid hU
  replace hpa := Lib.hid hpa
  replace hpb := Lib.hid hpb
  replace hla := Lib.hid hla
  replace hlb := Lib.hid hlb
  replace hna := Lib.hid hna
  replace hnb := Lib.hid hnb
  replace hres := Lib.hid hres
  go_enter Tryz.func30, Tryz.ntmps30
  have hB0 := below_alloc (Below.refl w.heap.size w) (.cells #[.string ⟨#[]⟩] 9)
  have hown0 := own_made w w.heap.size 9 1 1 [.string ⟨#[]⟩] (Nat.le_refl _) rfl (by simp [maxLen])
  replace hB0 := Lib.hid hB0
  replace hown0 := Lib.hid hown0
  go_wp2_with fail
  (with_reducible refine (hpa.out _ (hR.out.below hB0.out)).mono ?_)
  rintro e w1 ⟨⟨pv, rfl, hS1⟩, hB1⟩
  obtain ⟨pA, pc, hpv, hpc1, hpc2⟩ := own_shape hS1.own
  subst hpv
  have hB01 := below_step hB0.out hB1
  have hown1 := own_below hown0.out hB1
  have hsrc := (Strs.rd hS1).src
  generalize hP : T.paths = P at *
  unfold maxLen at hpc2
  replace hB01 := Lib.hid hB01
  replace hown1 := Lib.hid hown1
  replace hsrc := Lib.hid hsrc
  replace hS1 := Lib.hid hS1
  replace hP := Lib.hid hP
  clear hB1 hB0 hown0
  go_wp2_with (at_builtin; refine wp_append_any w.heap.size rfl (.tmp 11) (.tmp 13) 45 9 rfl Tryz.underlying45 (.string ⟨#[]⟩) 1 16 info_string rfl (by decide) (.slice (some ⟨w.heap.size, 0, none⟩) 1 1) 1 [.string ⟨#[]⟩] rfl (.slice pA P.length pc) P.length (strs P) rfl hsrc.out hown1.out ?_ ?_ ?_ hB01.out.size ?_)
  · simp [strs, Value.oneCell']
  · simp only [maxLen]; omega
  · omega
  · intro v1 w2 g1 hg2 _
    have hS2 : Strs w.heap.size w2 v1 ([] :: P) := by
      unfold Strs
      have e : (([] : Bytes) :: P).length = 1 + P.length := by rw [List.length_cons]; omega
      rw [e]
      exact g1
    have hB02 := hB01.out.grown hg2 hB01.out.size (own_base hown1.out)
    have hRd := hS2.rd
    obtain ⟨lA, lc, hv1, hl1, hl2⟩ := own_shape hS2.own
    subst hv1
    unfold maxLen at hl2
    have hLp : ∀ s, s ∈ ([] : Bytes) :: P ↔ s = [] ∨ s ∈ P := fun s => List.mem_cons
    have hLn : (([] : Bytes) :: P).length ≤ 1000001 := by rw [List.length_cons]; omega
    generalize ([] : Bytes) :: P = L at *
    replace hRd := Lib.hid hRd
    replace hB02 := Lib.hid hB02
    replace hLp := Lib.hid hLp
    clear g1 hg2 hS2 hsrc hown1 hB01 hS1
    go_wp2_with fail
    (with_reducible refine (hpa.out _ (hR.out.below hB02.out)).mono ?_)
    rintro e w3 ⟨⟨p1, rfl, hS3⟩, hB3⟩
    obtain ⟨p1A, p1c, hp1, _, _⟩ := own_shape hS3.own
    subst hp1
    have hB03 := below_step hB02.out hB3
    replace hS3 := Lib.hid hS3
    replace hB03 := Lib.hid hB03
    replace hB3 := Lib.hid hB3
    go_wp2_with fail
    (with_reducible refine (hpb.out _ (hS.out.below hB03.out)).mono ?_)
    rintro e w4 ⟨⟨p2, rfl, hS4⟩, hB4⟩
    obtain ⟨p2A, p2c, hp2, _, _⟩ := own_shape hS4.own
    subst hp2
    have hB04 := below_step hB03.out hB4
    have hB24 := below_step hB3.out hB4
    have ht := rtexts_calls _ _ _ _ w4 ((Strs.rd hS3.out).below hB4) (Strs.rd hS4)
    have hRd4 := hRd.out.below hB24
    replace hB04 := Lib.hid hB04
    replace ht := Lib.hid ht
    replace hRd4 := Lib.hid hRd4
    clear hB4 hB24 hB3 hB03 hRd hB02 hS3 hS4
    by_cases hpp : T.paths = U.paths
    · have hpp1 : P = U.paths := by rw [← hP.out]; exact hpp
      rw [decide_eq_true hpp1] at ht
      replace hpp1 := Lib.hid hpp1
      replace hpp := Lib.hid hpp
      go_wp2_with fail
      (with_reducible refine (ht.out).mono ?_)
      rintro e w5 ⟨rfl, hB5⟩
      have hB05 := below_step hB04.out hB5
      have hRd5 := hRd4.out.below hB5
      replace hB05 := Lib.hid hB05
      replace hRd5 := Lib.hid hRd5
      clear hB5 hRd4 hB04 ht
      go_wp2_with fail
      go_loopw [6] (fun i wr => ∃ k : Nat, i = .int .i64 k ∧ k ≤ L.length ∧ (∀ s ∈ L.take k, SameAt T U s) ∧ Below w5.heap.size w5 wr) (fun i _ => L.length - (intOf i).toNat)
      case atStart => exact ⟨0, rfl, Nat.zero_le _, by simp, Below.refl _ _⟩
      case round =>
        obtain ⟨k, rfl, hk, hall, hB⟩ := hrel
        by_cases hlt : k < L.length
        · obtain ⟨g, o, rfl, hck⟩ := (hRd5.out.below hB).cell hlt
          have htk : L.take (k + 1) = L.take k ++ [L[k]] := List.take_succ_eq_append_getElem hlt
          have hs := (hLp.out L[k]).1 (List.getElem_mem hlt)
          generalize L[k] = s at *
          rw [← hP.out] at hs
          obtain ⟨i, hi1, hi2, hsr⟩ := look_path hT.out hs
          obtain ⟨j, hj1, hj2, _⟩ := look_path hU.out (by rw [← hpp.out]; exact hs)
          have hsl := right_len hsr
          have hsz := mkS_size s
          have hB0r := below_step hB05.out hB
          have c1 := hla.out wr (mkS s) (by omega) (hR.out.below hB0r)
          have c2 := fun W hW => hlb.out W (mkS s) (by omega) hW
          rw [bl_mkS, hi2, optPtr_some] at c1
          rw [bl_mkS, hj2, optPtr_some] at c2
          have hkn : (k : Int) < (L.length : Int) := by omega
          replace hall := Lib.hid hall
          replace hB := Lib.hid hB
          replace hB0r := Lib.hid hB0r
          replace c1 := Lib.hid c1
          replace c2 := Lib.hid c2
          replace hi1 := Lib.hid hi1
          replace hi2 := Lib.hid hi2
          replace hj1 := Lib.hid hj1
          replace hj2 := Lib.hid hj2
          replace hsr := Lib.hid hsr
          replace hs := Lib.hid hs
          replace htk := Lib.hid htk
          go_wp2_with fail
          (with_reducible refine (c1.out).mono ?_)
          rintro e w6 ⟨rfl, hB6⟩
          have hck6 := (hB6.cell (cell_lt hck)).trans hck
          have hB06 := below_step hB0r.out hB6
          have hBr6 := below_step hB.out hB6
          replace hB06 := Lib.hid hB06
          replace hBr6 := Lib.hid hBr6
          clear hB6 hB hB0r c1 hck
          go_wp2_with fail
          (with_reducible refine (c2.out _ (hS.out.below hB06.out)).mono ?_)
          rintro e w7 ⟨rfl, hB7⟩
          have hck7 := (hB7.cell (cell_lt hck6)).trans hck6
          have hB07 := below_step hB06.out hB7
          have hBr7 := below_step hBr6.out hB7
          have hR7 := hR.out.below hB07
          have hS7 := hS.out.below hB07
          obtain ⟨dv, hdv, x0, x1, x2, x3, x4, x5, x6, x7, x8⟩ := hR7.cells ⟨_, hi1.out⟩
          obtain ⟨ev, hev, y0, y1, y2, y3, y4, y5, y6, y7, y8⟩ := hS7.cells ⟨_, hj1.out⟩
          have cva := fun W (hW : Below w7.heap.size w7 W) => RdB.string (hdv.rdb.below hW)
          have cvb := fun W (hW : Below w7.heap.size w7 W) => RdB.string (hev.rdb.below hW)
          obtain ⟨dA, dc, hdve, _, _⟩ := hdv.shape
          obtain ⟨eA, ec, heve, _, _⟩ := hev.shape
          subst hdve heve
          have hsa : SameAt T U s ↔ (Lk T U i j ∧ T.nameList s = U.nameList s) := by
            constructor
            · rintro ⟨i', j', h1, h2, h3⟩
              rw [hT.out.at_one hi1.out h1, hU.out.at_one hj1.out h2]
              exact h3
            · intro h3
              exact ⟨i, j, hi1.out, hj1.out, h3⟩
          have hno : ¬ (Lk T U i j ∧ T.nameList s = U.nameList s) → ¬ SameFs T U := fun hn hsame => hn ⟨hsame.like _ _ _ hi1.out hj1.out, by
            rcases hs.out with rfl | hs2
            · rw [nameList_top, nameList_top]
            · exact same_names hT.out hU.out hsame hsr.out (((mem_paths hT.out).1 hs2).2.1) hi1.out hj1.out⟩
          have n1 := fun W hW => hna.out W (mkS s) (by omega) hW
          have n2 := fun W hW => hnb.out W (mkS s) (by omega) hW
          rw [bl_mkS] at n1 n2
          unfold Lk at hsa hno
          generalize hti : T.nd i = ni at *
          generalize huj : U.nd j = nj at *
          obtain ⟨k1, l1, ⟨m1, m2, m3, m4, m5⟩, t1, d1⟩ := ni
          obtain ⟨k2, l2, ⟨p1, p2, p3, p4, p5⟩, t2, d2⟩ := nj
          dsimp only at *
          generalize hNT : T.nameList s = NT at *
          generalize hNU : U.nameList s = NU at *
          have hmt := fun W => neq_mt W m1 m2 m3 m4 m5 p1 p2 p3 p4 p5
          replace hB07 := Lib.hid hB07
          replace hBr7 := Lib.hid hBr7
          replace hR7 := Lib.hid hR7
          replace hS7 := Lib.hid hS7
          replace hdv := Lib.hid hdv
          replace hev := Lib.hid hev
          replace cva := Lib.hid cva
          replace cvb := Lib.hid cvb
          replace hsa := Lib.hid hsa
          replace hno := Lib.hid hno
          replace n1 := Lib.hid n1
          replace n2 := Lib.hid n2
          replace hti := Lib.hid hti
          replace huj := Lib.hid huj
          replace hNT := Lib.hid hNT
          replace hNU := Lib.hid hNU
          clear hB7 hB06 hBr6 hck6 c2
          have cvan := fun n : Nat => cva.out (w7.drewN n) (below_drewN (Below.refl _ _) n)
          have cvbn := fun n : Nat => cvb.out (w7.drewN n) (below_drewN (Below.refl _ _) n)
          by_cases hk12 : k1 = k2
          · subst hk12
            have z1 : (k1 != k1) = false := by simp
            by_cases hd12 : d1 = d2
            · have z2 : ((mkS d1).toList == (mkS d2).toList) = true := strs_alike (by rw [hd12])
              by_cases ht12 : t1 = t2
              · have z3 : ((mkS t1).toList == (mkS t2).toList) = true := strs_alike (by rw [ht12])
                by_cases hm12 : m1 = p1 ∧ m2 = p2 ∧ m3 = p3 ∧ m4 = p4 ∧ m5 = p5
                · obtain ⟨rfl, rfl, rfl, rfl, rfl⟩ := hm12
                  subst hd12
                  subst ht12
                  simp only [and_self, decide_true, Bool.not_true] at hmt
                  have hSS : ∀ W, Below w7.heap.size w7 W → (fun W : World => W.cell? ⟨g, o + k, none⟩ = some (.string (mkS s)) ∧ (W.cell? ⟨A i, 0, none⟩ = some (.int .i64 k1) ∧ W.cell? ⟨A i, 2, none⟩ = some (.slice dA d1.length dc) ∧ W.cell? ⟨A i, 3, none⟩ = some (.string (mkS t1)) ∧ W.cell? ⟨A i, 4, none⟩ = some (.int .i64 m1) ∧ W.cell? ⟨A i, 5, none⟩ = some (.int .i64 m2) ∧ W.cell? ⟨A i, 6, none⟩ = some (.int .i64 m3) ∧ W.cell? ⟨A i, 7, none⟩ = some (.int .i64 m4) ∧ W.cell? ⟨A i, 8, none⟩ = some (.int .i64 m5)) ∧ (W.cell? ⟨B j, 0, none⟩ = some (.int .i64 k1) ∧ W.cell? ⟨B j, 2, none⟩ = some (.slice eA d1.length ec) ∧ W.cell? ⟨B j, 3, none⟩ = some (.string (mkS t1)) ∧ W.cell? ⟨B j, 4, none⟩ = some (.int .i64 m1) ∧ W.cell? ⟨B j, 5, none⟩ = some (.int .i64 m2) ∧ W.cell? ⟨B j, 6, none⟩ = some (.int .i64 m3) ∧ W.cell? ⟨B j, 7, none⟩ = some (.int .i64 m4) ∧ W.cell? ⟨B j, 8, none⟩ = some (.int .i64 m5)) ∧ (convert 38 9 (.slice dA d1.length dc)).run Tryz.prog W = .ok (.string (mkS d1)) W ∧ (convert 38 9 (.slice eA d1.length ec)).run Tryz.prog W = .ok (.string (mkS d1)) W) W := fun W hW => ⟨(hW.cell (cell_lt hck7)).trans hck7, ⟨(hW.cell (cell_lt x0)).trans x0, (hW.cell (cell_lt x2)).trans x2, (hW.cell (cell_lt x3)).trans x3, (hW.cell (cell_lt x4)).trans x4, (hW.cell (cell_lt x5)).trans x5, (hW.cell (cell_lt x6)).trans x6, (hW.cell (cell_lt x7)).trans x7, (hW.cell (cell_lt x8)).trans x8⟩, ⟨(hW.cell (cell_lt y0)).trans y0, (hW.cell (cell_lt y2)).trans y2, (hW.cell (cell_lt y3)).trans y3, (hW.cell (cell_lt y4)).trans y4, (hW.cell (cell_lt y5)).trans y5, (hW.cell (cell_lt y6)).trans y6, (hW.cell (cell_lt y7)).trans y7, (hW.cell (cell_lt y8)).trans y8⟩, cva.out W hW, cvb.out W hW⟩
                  have hBd := below_drewN (Below.refl w7.heap.size w7) 1
                  have hn1 := n1.out w7.drew (hR7.out.below hBd)
                  obtain ⟨bq, hbq⟩ : ∃ b : Bool, b = decide (NT = NU) := ⟨_, rfl⟩
                  have htx := fun W a b ha hb => rtexts_calls a b NT NU W ha hb
                  rw [← hbq] at htx
                  replace hSS := Lib.hid hSS
                  replace hBd := Lib.hid hBd
                  replace hn1 := Lib.hid hn1
                  replace hbq := Lib.hid hbq
                  replace htx := Lib.hid htx
                  clear cvan cvbn x0 x1 x2 x3 x4 x5 x6 x7 x8 y0 y1 y2 y3 y4 y5 y6 y7 y8 hck7
                  go_upto_region 9 with fail
                  go_region_held3 (fun W => (fun W : World => W.cell? ⟨g, o + k, none⟩ = some (.string (mkS s)) ∧ (W.cell? ⟨A i, 0, none⟩ = some (.int .i64 k1) ∧ W.cell? ⟨A i, 2, none⟩ = some (.slice dA d1.length dc) ∧ W.cell? ⟨A i, 3, none⟩ = some (.string (mkS t1)) ∧ W.cell? ⟨A i, 4, none⟩ = some (.int .i64 m1) ∧ W.cell? ⟨A i, 5, none⟩ = some (.int .i64 m2) ∧ W.cell? ⟨A i, 6, none⟩ = some (.int .i64 m3) ∧ W.cell? ⟨A i, 7, none⟩ = some (.int .i64 m4) ∧ W.cell? ⟨A i, 8, none⟩ = some (.int .i64 m5)) ∧ (W.cell? ⟨B j, 0, none⟩ = some (.int .i64 k1) ∧ W.cell? ⟨B j, 2, none⟩ = some (.slice eA d1.length ec) ∧ W.cell? ⟨B j, 3, none⟩ = some (.string (mkS t1)) ∧ W.cell? ⟨B j, 4, none⟩ = some (.int .i64 m1) ∧ W.cell? ⟨B j, 5, none⟩ = some (.int .i64 m2) ∧ W.cell? ⟨B j, 6, none⟩ = some (.int .i64 m3) ∧ W.cell? ⟨B j, 7, none⟩ = some (.int .i64 m4) ∧ W.cell? ⟨B j, 8, none⟩ = some (.int .i64 m5)) ∧ (convert 38 9 (.slice dA d1.length dc)).run Tryz.prog W = .ok (.string (mkS d1)) W ∧ (convert 38 9 (.slice eA d1.length ec)).run Tryz.prog W = .ok (.string (mkS d1)) W) W) (first | exact hSS.out _ hBd.out | exact hSS.out _ hBa.out | exact hSS.out _ hBb.out | exact hSS.out _ hBc.out) (first
                    | (go_at_call 66; first
                        | ((with_reducible refine hn1.out.mono ?_); rintro e wa ⟨⟨na, rfl, hNa⟩, hBa0⟩; obtain ⟨naA, nac, hnae, _, _⟩ := own_shape hNa.own; subst hnae; have hBa := below_step hBd.out hBa0; replace hBa := Lib.hid hBa; replace hNa := Lib.hid hNa; clear hBa0)
                        | ((with_reducible refine (n2.out _ (hS7.out.below hBa.out)).mono ?_); rintro e wb ⟨⟨nb, rfl, hNb⟩, hBb0⟩; obtain ⟨nbA, nbc, hnbe, _, _⟩ := own_shape hNb.own; subst hnbe; have hBb := below_step hBa.out hBb0; have hNa2 := (Strs.rd hNa.out).below hBb0; replace hBb := Lib.hid hBb; replace hNb := Lib.hid hNb; replace hNa2 := Lib.hid hNa2; clear hBb0))
                    | (go_at_call 22; (with_reducible refine (htx.out wb _ _ hNa2.out (Strs.rd hNb.out)).mono ?_); rintro e wc ⟨rfl, hBc0⟩; have hBc := below_step hBb.out hBc0; replace hBc := Lib.hid hBc; clear hBc0))
                  have hBrc := below_step hBr7.out hBc.out
                  have hB0c := below_step hB07.out hBc.out
                  replace hBrc := Lib.hid hBrc
                  replace hB0c := Lib.hid hB0c
                  clear hBa hBb hBc hNa hNb hNa2 hn1 hSS
                  cases bq with
                  | true =>
                    go_wp2
                    go_roundw
                    case rel =>
                      refine ⟨k + 1, by go_num, by omega, fun z hz => ?_, hBrc.out⟩
                      rw [htk.out] at hz
                      rcases List.mem_append.1 hz with hz | hz
                      · exact hall.out z hz
                      · rw [List.mem_singleton.1 hz]
                        exact hsa.out.2 ⟨by simp, of_decide_eq_true hbq.out.symm⟩
                    case measure => simp [intOf]; omega
                  | false =>
                    go_wp2
                    go_ret
                    exact hres.out _ _ false rfl (iff_of_false (by simp) (hno.out (fun h => (of_decide_eq_false hbq.out.symm) h.2))) hB0c.out
                · have hq := hm12
                  simp only [hm12, decide_false, Bool.not_false] at hmt
                  clear hm12
                  replace hd12 := Lib.hid hd12
                  replace ht12 := Lib.hid ht12
                  replace hq := Lib.hid hq
                  go_upto_region 9 with fail
                  go_quiet (fail)
                  go_wp2
                  go_ret
                  exact hres.out _ _ false rfl (iff_of_false (by simp) (hno.out (fun h => hq.out (by have := h.1.2.1; simpa using this)))) (below_drewN hB07.out _)
              · have z3 : ((mkS t1).toList == (mkS t2).toList) = false := strs_diff (fun e => ht12 (mkS_inj e))
                have hq := ht12
                clear ht12
                replace hd12 := Lib.hid hd12
                replace hq := Lib.hid hq
                go_upto_region 9 with fail
                go_quiet (fail)
                go_wp2
                go_ret
                exact hres.out _ _ false rfl (iff_of_false (by simp) (hno.out (fun h => hq.out h.1.2.2.1))) (below_drewN hB07.out _)
            · have z2 : ((mkS d1).toList == (mkS d2).toList) = false := strs_diff (fun e => hd12 (mkS_inj e))
              have hq := hd12
              clear hd12
              replace hq := Lib.hid hq
              go_upto_region 9 with fail
              go_quiet (fail)
              go_wp2
              go_ret
              exact hres.out _ _ false rfl (iff_of_false (by simp) (hno.out (fun h => hq.out h.1.2.2.2))) (below_drewN hB07.out _)
          · have z1 : (k1 != k2) = true := by simpa using hk12
            have hq := hk12
            clear hk12
            replace hq := Lib.hid hq
            go_upto_region 9 with fail
            go_quiet (fail)
            go_wp2
            go_ret
            exact hres.out _ _ false rfl (iff_of_false (by simp) (hno.out (fun h => hq.out h.1.1))) (below_drewN hB07.out _)
        · obtain rfl : k = L.length := by omega
          rw [List.take_length] at hall
          have hyes := same_of hT.out hU.out hpp.out (fun s hs => hall s ((hLp.out s).2 (by rw [← hP.out]; exact hs)))
          have hB0f := below_step hB05.out hB
          replace hyes := Lib.hid hyes
          replace hall := Lib.hid hall
          replace hB := Lib.hid hB
          replace hB0f := Lib.hid hB0f
          go_wp2
          go_ret
          exact hres.out _ _ true rfl (iff_of_true rfl hyes.out) hB0f.out
    · have hpp1 : ¬ P = U.paths := by rw [← hP.out]; exact hpp
      rw [decide_eq_false hpp1] at ht
      replace hpp1 := Lib.hid hpp1
      replace hpp := Lib.hid hpp
      go_wp2_with fail
      (with_reducible refine (ht.out).mono ?_)
      rintro e w5 ⟨rfl, hB5⟩
      have hB05 := below_step hB04.out hB5
      replace hB05 := Lib.hid hB05
      clear hB5
      go_wp2
      go_ret
      exact hres.out _ _ false rfl (iff_of_false (by simp) (fun h => hpp.out (same_paths hT.out hU.out h))) hB05.out

end

end Go.Proofs.YtemdinjiplglgaaGreat

namespace Go.Proofs.YtemdinjiplglgaaGreat
open Go.RowKit

set_option maxHeartbeats 2000000 in
set_option maxRecDepth 100000 in
theorem thing0_calls (tb rb : Nat) (v : Value) (A M B : Nat → Nat) (T : Fs) (s : ByteArray) (w : World) (hU : Rep w tb A M T) (hR : RRep w rb v B T) (hs : s.size ≤ 16777216) (hf : T.names.length ≤ 1000000) :
    Calls Tryz.prog 21 #[ptr tb, ptr rb, .string s, .bool false] w fun e w' => e = .returned (.bool true) ∧ Below w.heap.size w w' := by
  have h1 := fun W hW => stat_calls tb A M T s W hW hs
  have h2 := fun W hW => rstat_calls rb v B T s W hW hs hf
  have h3 := fun W hW => read_calls tb A M T s W hW hs
  have h4 := fun W hW => rread_calls rb v B T s W hW hs
  have h5 := fun W hW => list_calls tb A M T s W hW hs hf
  have h6 := fun W hW => rlist_calls rb v B T s W hW hs hf
  have h7 := fun W hW => namesof_calls tb A M T s W hW hs hf
  have h8 := fun W hW => rnames_calls rb v B T s W hW hs hf
  generalize T.stat (bl s) = st at *
  obtain ⟨st, se⟩ := st
  obtain ⟨kd, ino, sz, ln, mt, tg⟩ := st
  obtain ⟨m1, m2, m3, m4, m5⟩ := mt
  unfold statV statCells ptr at *
  dsimp only at *
  replace h1 := Lib.hid h1
  replace h2 := Lib.hid h2
  replace h3 := Lib.hid h3
  replace h4 := Lib.hid h4
  replace h5 := Lib.hid h5
  replace h6 := Lib.hid h6
  replace h7 := Lib.hid h7
  replace h8 := Lib.hid h8
  go_enter Tryz.func21, Tryz.ntmps21
  go_wp2_with fail
  (with_reducible refine (h1.out _ hU).mono ?_)
  rintro e w1 ⟨rfl, hB1⟩
  have e1 := (MapKept.heap_alloc w1 (.cells #[.int .i64 kd, .int .i64 ino, .int .i64 sz, .int .i64 ln, .int .i64 m1, .int .i64 m2, .int .i64 m3, .int .i64 m4, .int .i64 m5, .string (mkS tg)] 50)).1
  have hB2 := below_step hB1 (below_alloc (Below.refl _ _) (.cells #[.int .i64 kd, .int .i64 ino, .int .i64 sz, .int .i64 ln, .int .i64 m1, .int .i64 m2, .int .i64 m3, .int .i64 m4, .int .i64 m5, .string (mkS tg)] 50))
  have hU2 := hU.below hB2
  have hR2 := hR.below hB2
  have hsz1 := hB1.size
  go_upto_region 2 with fail
  generalize w1.alloc (.cells #[.int .i64 kd, .int .i64 ino, .int .i64 sz, .int .i64 ln, .int .i64 m1, .int .i64 m2, .int .i64 m3, .int .i64 m4, .int .i64 m5, .string (mkS tg)] 50) = W1 at *
  generalize w1.heap.size = n1 at *
  replace e1 := Lib.hid e1
  replace hB2 := Lib.hid hB2
  replace hU2 := Lib.hid hU2
  replace hR2 := Lib.hid hR2
  replace hB1 := Lib.hid hB1
  go_wp2_with fail
  (with_reducible refine (h2.out _ hR2.out).mono ?_)
  rintro e w2 ⟨rfl, hB3⟩
  have e2 := (hB3.block n1 (Array.getElem?_eq_some_iff.1 e1.out).1).trans e1.out
  have e3 := (MapKept.heap_alloc w2 (.cells #[.int .i64 kd, .int .i64 ino, .int .i64 sz, .int .i64 ln, .int .i64 m1, .int .i64 m2, .int .i64 m3, .int .i64 m4, .int .i64 m5, .string (mkS tg)] 50)).1
  have hA2 := below_alloc (Below.refl w2.heap.size w2) (.cells #[.int .i64 kd, .int .i64 ino, .int .i64 sz, .int .i64 ln, .int .i64 m1, .int .i64 m2, .int .i64 m3, .int .i64 m4, .int .i64 m5, .string (mkS tg)] 50)
  have hlt2 := (Array.getElem?_eq_some_iff.1 e2).1
  have e4 := (hA2.block n1 hlt2).trans e2
  have hB4 := below_step (below_step hB2.out hB3) hA2
  have hU4 := hU.below hB4
  have hR4 := hR.below hB4
  clear e2 hB3 hU2 hR2 e1 hA2
  go_upto_region 4 with fail
  generalize w2.alloc (.cells #[.int .i64 kd, .int .i64 ino, .int .i64 sz, .int .i64 ln, .int .i64 m1, .int .i64 m2, .int .i64 m3, .int .i64 m4, .int .i64 m5, .string (mkS tg)] 50) = W2 at *
  generalize w2.heap.size = n2 at *
  have hne : n1 ≠ n2 := Nat.ne_of_lt hlt2
  have f4 : W2.frozen? ⟨n1, 1, none⟩ = false := by simp [World.frozen?, e4]
  have f3 : W2.frozen? ⟨n2, 1, none⟩ = false := by simp [World.frozen?, e3]
  have f3' : (W2.setCell ⟨n1, 1, none⟩ (.int .i64 0)).frozen? ⟨n2, 1, none⟩ = false := by
    simp [World.frozen?, (heap_set_other W2 (Ne.symm hne) 1 (.int .i64 0)).trans e3]
  have c4 := cell_of (j := 1) e4 rfl
  have c3' : (W2.setCell ⟨n1, 1, none⟩ (.int .i64 0)).cell? ⟨n2, 1, none⟩ = some (.int .i64 ino) := cell_of ((heap_set_other W2 (Ne.symm hne) 1 (.int .i64 0)).trans e3) rfl
  have u4 := (heap_set_other (W2.setCell ⟨n1, 1, none⟩ (.int .i64 0)) hne 1 (.int .i64 0)).trans (heap_set_same e4 1 (.int .i64 0))
  have u3 := heap_set_same ((heap_set_other W2 (Ne.symm hne) 1 (.int .i64 0)).trans e3) 1 (.int .i64 0)
  have hB5 := (hB4.setCell (p := ⟨n1, 1, none⟩) hsz1 (.int .i64 0)).setCell (p := ⟨n2, 1, none⟩) (Nat.le_trans hsz1 (Nat.le_of_lt hlt2)) (.int .i64 0)
  replace e3 := Lib.hid e3
  replace e4 := Lib.hid e4
  replace hB4 := Lib.hid hB4
  replace hU4 := Lib.hid hU4
  replace hR4 := Lib.hid hR4
  replace hB5 := Lib.hid hB5
  replace u4 := Lib.hid u4
  replace u3 := Lib.hid u3
  clear hlt2
  replace hne := Lib.hid hne
  go_upto_region 5 with fail
  generalize (W2.setCell ⟨n1, 1, none⟩ (.int .i64 0)).setCell ⟨n2, 1, none⟩ (.int .i64 0) = W3 at *
  clear e3 e4 hB4 hU4 hR4 f4 f3 f3' c4 c3' hne
  have e4 : W3.heap[n1]? = some (.cells #[.int .i64 kd, .int .i64 0, .int .i64 sz, .int .i64 ln, .int .i64 m1, .int .i64 m2, .int .i64 m3, .int .i64 m4, .int .i64 m5, .string (mkS tg)] 50 (0, 0)) := u4.out
  have e3 : W3.heap[n2]? = some (.cells #[.int .i64 kd, .int .i64 0, .int .i64 sz, .int .i64 ln, .int .i64 m1, .int .i64 m2, .int .i64 m3, .int .i64 m4, .int .i64 m5, .string (mkS tg)] 50 (0, 0)) := u3.out
  have hB4 := hB5.out
  have hU4 := hU.below hB4
  have hR4 := hR.below hB4
  clear u4 u3 hB5
  replace e3 := Lib.hid e3
  replace e4 := Lib.hid e4
  replace hB4 := Lib.hid hB4
  replace hU4 := Lib.hid hU4
  replace hR4 := Lib.hid hR4
  go_wp2_with fail
  (with_reducible refine (h3.out _ hU4.out).mono ?_)
  rintro e w3 ⟨⟨v3, rfl, b3⟩, hB5⟩
  obtain ⟨a3, c3, hv3, _, _⟩ := own_shape b3.own
  subst hv3
  have hB5' := below_step hB4.out hB5
  have hR5 := hR.below hB5'
  replace b3 := Lib.hid b3
  replace hB5' := Lib.hid hB5'
  replace hR5 := Lib.hid hR5
  replace hB5 := Lib.hid hB5
  go_wp2_with fail
  (with_reducible refine (h4.out _ hR5.out).mono ?_)
  rintro e w4 ⟨⟨v4, rfl, b4⟩, hB6⟩
  obtain ⟨a4, c4, hv4, _, _⟩ := own_shape b4.own
  subst hv4
  have hB6' := below_step hB5'.out hB6
  have hU6 := hU.below hB6'
  replace b4 := Lib.hid b4
  replace hB6' := Lib.hid hB6'
  replace hU6 := Lib.hid hU6
  replace hB6 := Lib.hid hB6
  go_wp2_with fail
  (with_reducible refine (h5.out _ hU6.out).mono ?_)
  rintro e w5 ⟨⟨v5, rfl, s5⟩, hB7⟩
  obtain ⟨a5, c5, hv5, _, _⟩ := own_shape s5.own
  subst hv5
  have hB7' := below_step hB6'.out hB7
  have hR7 := hR.below hB7'
  replace s5 := Lib.hid s5
  replace hB7' := Lib.hid hB7'
  replace hR7 := Lib.hid hR7
  replace hB7 := Lib.hid hB7
  go_wp2_with fail
  (with_reducible refine (h6.out _ hR7.out).mono ?_)
  rintro e w6 ⟨⟨v6, rfl, s6⟩, hB8⟩
  obtain ⟨a6, c6, hv6, _, _⟩ := own_shape s6.own
  subst hv6
  have hB8' := below_step hB7'.out hB8
  replace s6 := Lib.hid s6
  replace hB8' := Lib.hid hB8'
  replace hB8 := Lib.hid hB8
  have hB68 := below_step hB7.out hB8.out
  have hB58 := below_step hB6.out hB68
  have hB48 := below_step hB5.out hB58
  have cv1 := RdB.string ((Byts.rdb b3.out).below hB58)
  have cv2 := RdB.string ((Byts.rdb b4.out).below hB68)
  have e3' := (hB48.block n2 (Array.getElem?_eq_some_iff.1 e3.out).1).trans e3.out
  have e4' := (hB48.block n1 (Array.getElem?_eq_some_iff.1 e4.out).1).trans e4.out
  have hU8 := hU.below hB8'.out
  have hR8 := hR.below hB8'.out
  have k1 := rtexts_calls _ _ _ _ w6 ((Strs.rd s5.out).below hB8.out) (Strs.rd s6.out)
  rw [decide_eq_true rfl] at k1
  have p0 := cell_of (j := 0) e4' rfl
  have q0 := cell_of (j := 0) e3' rfl
  have p1 := cell_of (j := 1) e4' rfl
  have q1 := cell_of (j := 1) e3' rfl
  have p2 := cell_of (j := 2) e4' rfl
  have q2 := cell_of (j := 2) e3' rfl
  have p3 := cell_of (j := 3) e4' rfl
  have q3 := cell_of (j := 3) e3' rfl
  have p4 := cell_of (j := 4) e4' rfl
  have q4 := cell_of (j := 4) e3' rfl
  have p5 := cell_of (j := 5) e4' rfl
  have q5 := cell_of (j := 5) e3' rfl
  have p6 := cell_of (j := 6) e4' rfl
  have q6 := cell_of (j := 6) e3' rfl
  have p7 := cell_of (j := 7) e4' rfl
  have q7 := cell_of (j := 7) e3' rfl
  have p8 := cell_of (j := 8) e4' rfl
  have q8 := cell_of (j := 8) e3' rfl
  have p9 := cell_of (j := 9) e4' rfl
  have q9 := cell_of (j := 9) e3' rfl
  replace cv1 := cv1
  replace e3' := Lib.hid e3'
  replace e4' := Lib.hid e4'
  replace hU8 := Lib.hid hU8
  replace hR8 := Lib.hid hR8
  replace k1 := Lib.hid k1
  clear hB68 hB58 hB48
  go_wp2_with fail
  (with_reducible refine (k1.out).mono ?_)
  rintro e w7 ⟨rfl, hB9⟩
  have hU9 := hU8.out.below hB9
  have hB9' := below_step hB8'.out hB9
  replace hU9 := Lib.hid hU9
  replace hB9' := Lib.hid hB9'
  replace hB9 := Lib.hid hB9
  go_wp2_with fail
  (with_reducible refine (h7.out _ hU9.out).mono ?_)
  rintro e w8 ⟨⟨v8, rfl, s8⟩, hB10⟩
  obtain ⟨a8, c8, hv8, _, _⟩ := own_shape s8.own
  subst hv8
  have hB10' := below_step hB9'.out hB10
  have hR10 := hR.below hB10'
  replace s8 := Lib.hid s8
  replace hR10 := Lib.hid hR10
  replace hB10' := Lib.hid hB10'
  replace hB10 := Lib.hid hB10
  go_wp2_with fail
  (with_reducible refine (h8.out _ hR10.out).mono ?_)
  rintro e w9 ⟨⟨v9, rfl, s9⟩, hB11⟩
  obtain ⟨a9, c9, hv9, _, _⟩ := own_shape s9.own
  subst hv9
  have hB11' := below_step hB10'.out hB11
  have k2 := rtexts_calls _ _ _ _ w9 ((Strs.rd s8.out).below hB11) (Strs.rd s9)
  rw [decide_eq_true rfl] at k2
  replace s9 := Lib.hid s9
  replace hB11' := Lib.hid hB11'
  replace hB11 := Lib.hid hB11
  replace k2 := Lib.hid k2
  go_wp2_with fail
  (with_reducible refine (k2.out).mono ?_)
  rintro e w10 ⟨rfl, hB12⟩
  have hB12' := below_step hB11'.out hB12
  replace hB12' := Lib.hid hB12'
  replace hB12 := Lib.hid hB12
  go_wp2
  go_ret
  exact ⟨rfl, hB12'.out⟩

set_option maxHeartbeats 2000000 in
set_option maxRecDepth 100000 in
theorem lsame_calls (tb rb : Nat) (v : Value) (A M B : Nat → Nat) (T : Fs) (w : World) (hU : Rep w tb A M T) (hR : RRep w rb v B T) (hf : T.names.length ≤ 100000) :
    Calls Tryz.prog 32 #[ptr tb, ptr rb] w fun e w' => e = .returned (.bool true) ∧ Below w.heap.size w w' := by
  have hI := hU.inv
  have h1 := fun W hW => paths_calls tb A M T W hW (by omega)
  have h2 := fun W hW => rpaths_calls rb v B T W hW (by omega)
  have h3 := fun W hW => count_same tb A M T W hW (by omega)
  have h4 := fun W hW => rcounted_calls rb v B T W hW (by omega)
  have h5 := fun W (s : ByteArray) (hs : s.size ≤ 16777216) hU hR => thing0_calls tb rb v A M B T s W hU hR hs (by omega)
  have hp1 := fun W : World => run_eql_nil_ptr (P := Tryz.prog) W ⟨tb, 0, none⟩ Tryz.underlying28
  have hp2 := fun W : World => run_eql_nil_ptr (P := Tryz.prog) W ⟨rb, 0, none⟩ Tryz.underlying31
  have hPl : T.paths.length ≤ 1000000 := by rw [paths_len]; exact Nat.le_trans (below_few T []) (by omega)
  unfold ptr at *
  generalize (T.names.length : Int) - 1 = cn at *
  replace h1 := Lib.hid h1
  replace h2 := Lib.hid h2
  replace h3 := Lib.hid h3
  replace h4 := Lib.hid h4
  replace h5 := Lib.hid h5
  replace hU := Lib.hid hU
  replace hR := Lib.hid hR
  replace hI := Lib.hid hI
  go_enter Tryz.func32, Tryz.ntmps32
  go_wp2_with fail
  (with_reducible refine (h1.out _ hU.out).mono ?_)
  rintro e w1 ⟨⟨v1, rfl, s1⟩, hB1⟩
  obtain ⟨a1, c1, hv1, _, _⟩ := own_shape s1.own
  subst hv1
  replace s1 := Lib.hid s1
  replace hB1 := Lib.hid hB1
  go_wp2_with fail
  (with_reducible refine (h2.out _ (hR.out.below hB1.out)).mono ?_)
  rintro e w2 ⟨⟨v2, rfl, s2⟩, hB2⟩
  obtain ⟨a2, c2, hv2, _, _⟩ := own_shape s2.own
  subst hv2
  have k1 := rtexts_calls _ _ _ _ w2 ((Strs.rd s1.out).below hB2) (Strs.rd s2)
  rw [decide_eq_true rfl] at k1
  have hB02 := below_step hB1.out hB2
  replace s2 := Lib.hid s2
  replace hB02 := Lib.hid hB02
  replace k1 := Lib.hid k1
  clear hB2 hB1 s1
  go_wp2_with fail
  (with_reducible refine (k1.out).mono ?_)
  rintro e w3 ⟨rfl, hB3⟩
  have hB03 := below_step hB02.out hB3
  replace hB03 := Lib.hid hB03
  clear hB3 s2 k1 hB02
  go_wp2_with fail
  (with_reducible refine (h3.out _ (hU.out.below hB03.out)).mono ?_)
  rintro e w4 ⟨rfl, hB4⟩
  have hB04 := below_step hB03.out hB4
  replace hB04 := Lib.hid hB04
  clear hB4 hB03
  go_wp2_with fail
  (with_reducible refine (h4.out _ (hR.out.below hB04.out)).mono ?_)
  rintro e w5 ⟨rfl, rfl⟩
  go_wp2_with fail
  (with_reducible refine (h5.out _ ⟨#[]⟩ (by decide) (hU.out.below hB04.out) (hR.out.below hB04.out)).mono ?_)
  rintro e w5 ⟨rfl, hB5⟩
  have hB05 := below_step hB04.out hB5
  replace hB05 := Lib.hid hB05
  clear hB5 hB04
  go_wp2_with fail
  (with_reducible refine (h2.out _ (hR.out.below hB05.out)).mono ?_)
  rintro e w6 ⟨⟨v6, rfl, s6⟩, hB6⟩
  have hRd := Strs.rd s6
  obtain ⟨a6, c6, hv6, hl1, hl2⟩ := own_shape s6.own
  subst hv6
  unfold maxLen at hl2
  have hB06 := below_step hB05.out hB6
  have hpr : ∀ s ∈ T.paths, s.length ≤ 200 := fun s hs => right_len ((mem_paths hI.out).1 hs).1
  generalize T.paths = P at *
  replace hRd := Lib.hid hRd
  replace hB06 := Lib.hid hB06
  replace hpr := Lib.hid hpr
  clear hB6 hB05 s6
  go_wp2_with fail
  go_loopw [6] (fun i wr => ∃ k : Nat, i = .int .i64 k ∧ k ≤ P.length ∧ Below w6.heap.size w6 wr) (fun i _ => P.length - (intOf i).toNat)
  case atStart => exact ⟨0, rfl, Nat.zero_le _, Below.refl _ _⟩
  case round =>
    obtain ⟨k, rfl, hk, hB⟩ := hrel
    by_cases hlt : k < P.length
    · obtain ⟨g, o, rfl, ck⟩ := ((hRd.out).below hB).cell hlt
      have hrl := hpr.out P[k] (List.getElem_mem hlt)
      generalize P[k] = s at *
      have hsz := mkS_size s
      have hB0r := below_step hB06.out hB
      have ht := h5.out wr (mkS s) (by omega) (hU.out.below hB0r) (hR.out.below hB0r)
      have hki : (k : Int) < (P.length : Int) := by omega
      replace hB := Lib.hid hB
      replace hB0r := Lib.hid hB0r
      replace ht := Lib.hid ht
      go_wp2_with fail
      (with_reducible refine (ht.out).mono ?_)
      rintro e w7 ⟨rfl, hB7⟩
      have hB67 := below_step hB.out hB7
      replace hB67 := Lib.hid hB67
      clear hB7
      go_wp2
      go_roundw
      case rel => exact ⟨k + 1, by go_num, by omega, hB67.out⟩
      case measure => simp [intOf]; omega
    · obtain rfl : k = P.length := by omega
      have hB0r := below_step hB06.out hB
      replace hB := Lib.hid hB
      replace hB0r := Lib.hid hB0r
      go_wp2
      go_ret
      exact ⟨rfl, hB0r.out⟩

end Go.Proofs.YtemdinjiplglgaaGreat
