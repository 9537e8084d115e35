/-
  tree.each: a closure is told all that is below a directory.
  tree.Count: how many names there are.
  tree.fits: may all that is below a directory stand elsewhere?
  Rename: the plain law, and the two last steps in memory.
  tree.Rename.
  tree.Paths and Names.
  tree.Names: all names of a file.
  A tree is copied: what holds while it goes on, with no code in sight.
  A tree is copied: a directory's round.
  tree.copied.
  tree.Copy and New.
  Two trees are held against one another: the plain law, and what holds while it goes on.
  tree.alike.
  tree.Same.
  remoralaw17.Do and Build: acts, on a tree.
  remoraref17.Small and remoralaw17.Build.
  Lists of entries: the plain law's own words, with no program in sight.
  What is to be done about each path of two lists: the plain law, with no program in sight.
  What acts do with two trees: the plain law's own words.
  What is told of a name: the plain law's Stat, Read, Names and Paths in terms of the names.
  remoralaw17.awake: the chapter's example.
  Acts as an argument.
  Calls that tell an error; two trees apart; an act as a list.
  The reference's tree in memory: which blocks hold the tree of the plain law, and what leaves them as they are.
  The reference's Right, and what it calls.
-/
import Derived.Test.YtcjlfkklpghjbaaGreatB2
import Derived.LaidEqlPtr
import Derived.Test.YtcjlfkklpghjbaaGreatB1
import Derived.Laws.IdiomRangeMap
import Derived.Lib.SlBytesConst
import Derived.Deep.Slices
import Derived.Deep.Fields
import Derived.ChangeSame
import Derived.ChangeSlices
import Derived.Carry
set_option linter.unusedVariables false
set_option linter.unusedSimpArgs false
open Go.Lib (hid)

namespace Go.Proofs.YtcjlfkklpghjbaaGreat
open Go.RowKit
/-- The blocks of a closure's own: its captured variable, and the row of the slice that lies in it. -/
def Cap (c : Nat) (W : World) (b : Nat) : Prop := b = c ∨ ∃ v, W.cell? ⟨c, 0, none⟩ = some v ∧ v.ownBlock = some b
structure Teller (tb : Nat) (A M : Nat → Nat) (T : Fs) (N : FuncId) (cs : Array Value) (c : Nat) (Inv : List (Bytes × Nat) → World → Prop) : Prop where
  enter : ∀ args W, (callFunc N args).run Tryz.prog W = .ok (.enter N args) W
  rep : ∀ {D W}, Inv D W → Rep W tb A M T
  lt : ∀ {D W b}, Inv D W → Cap c W b → b < W.heap.size
  below : ∀ {D W W'}, Inv D W → Below W.heap.size W W' → Inv D W'
  tell : ∀ {D W q j}, Inv D W → D.length ≤ 3000000 → q.length ≤ 16777216 → T.Live j → Calls Tryz.prog N (#[.string (mkS q), ptr (A j)] ++ cs) W fun e w' =>
    e = .returned (.tuple #[]) ∧ Inv (D ++ [(q, j)]) w' ∧ Turn W w' (Cap c W) ∧ ∀ b, Cap c w' b → Cap c W b ∨ W.heap.size ≤ b
theorem Cap.of_below {c : Nat} {W W' : World} (hb : Below W.heap.size W W') (hc : c < W.heap.size) {b : Nat} : Cap c W' b ↔ Cap c W b := by
 unfold Cap
 have : W'.cell? ⟨c, 0, none⟩ = W.cell? ⟨c, 0, none⟩ := by simp [World.cell?, hb.block c hc]
 rw [this]
/-- What is told of a directory's names. -/
def toldOf (T : Fs) (p : Pt) (pre : Bytes) (x : Bytes) : List (Bytes × Nat) :=
  match T.at (p ++ [x]) with
  | some j => (pre ++ x, j) :: (T.below (p ++ [x])).map fun y => (pre ++ x ++ 47 :: glue y.1, y.2)
  | none => []
theorem fl_congr {α β : Type} {f g : α → List β} : ∀ {l : List α}, (∀ x ∈ l, f x = g x) → l.flatMap f = l.flatMap g
 | [], _ => rfl
 | a :: l, h => by
  rw [List.flatMap_cons, List.flatMap_cons, h a (List.mem_cons_self ..), fl_congr fun x hx => h x (List.mem_cons_of_mem _ hx)]
theorem Pth.part {p : Pt} (h : Pth p) {x : Bytes} (hx : x ∈ p) : x.length ≤ 48 := by
 obtain ⟨s, h1, rfl⟩ := h
 have := right_part h1 x hx
 simp only [partOk, Bool.and_eq_true, decide_eq_true_eq] at this
 exact this.1.1.1.2
theorem below_file {T : Fs} (hI : T.Inv) {p : Pt} {i : Nat} (hi : (p, i) ∈ T.names) (hk : (T.nd i).kind ≠ 2) : T.below p = [] := by
 cases hc : T.below p with
 | nil => rfl
 | cons y r =>
  have : (y.1, y.2) ∈ T.below p := by rw [hc]; exact List.mem_cons_self ..
  obtain ⟨h1, h2⟩ := mem_below.1 this
  have h3 := hI.at_below y.1 h1 (fun j hj => by rw [hI.at_some.2 hi] at hj; cases hj; exact hk)
  rw [hI.at_some.2 h2] at h3
  cases h3
theorem told_all {T : Fs} (hI : T.Inv) (p : Pt) (pre : Bytes) {l : List Bytes} (hl : l.Perm ((T.kids p).map (·.1))) : (l.flatMap (toldOf T p pre)).Perm ((T.below p).map fun y => (pre ++ glue y.1, y.2)) := by
 have h1 : ((T.kids p).map (·.1)).flatMap (toldOf T p pre) = (T.kids p).flatMap fun x => (([x.1], x.2) :: (T.below (p ++ [x.1])).map fun y => (x.1 :: y.1, y.2)).map fun y => (pre ++ glue y.1, y.2) := by
  rw [List.flatMap_map]
  refine fl_congr fun x hx => ?_
  have hx' : (x.1, x.2) ∈ T.kids p := hx
  unfold toldOf
  rw [hI.kids_at.1 hx']
  dsimp only
  rw [List.map_cons, List.map_map]
  congr 1
  refine List.map_congr_left fun y hy => ?_
  have hy' : (y.1, y.2) ∈ T.below (p ++ [x.1]) := hy
  have hne := (mem_below.1 hy').1
  simp only [Function.comp_apply]
  rw [glue_cons x.1 hne]
  simp
 refine (hl.flatMap_right _).trans ?_
 rw [h1, ← List.map_flatMap]
 exact ((below_kids hI p).map _).symm
theorem fm_len {α β : Type} (f : α → List β) (l : List α) {k : Nat} (hk : k < l.length) : ((l.take k).flatMap f).length + (f l[k]).length ≤ (l.flatMap f).length := by
 have h : l = l.take k ++ l[k] :: l.drop (k + 1) := by rw [← List.drop_eq_getElem_cons hk, List.take_append_drop]
 have h2 : l.flatMap f = (l.take k).flatMap f ++ (f l[k] ++ (l.drop (k + 1)).flatMap f) := by
  conv => lhs; rw [h]
  rw [List.flatMap_append, List.flatMap_cons]
 rw [h2, List.length_append, List.length_append]
 omega
set_option maxHeartbeats 4000000 in
set_option maxRecDepth 100000 in
theorem each_calls {tb : Nat} {A M : Nat → Nat} {T : Fs} {N : FuncId} {cs : Array Value} {c : Nat} {Inv : List (Bytes × Nat) → World → Prop} (hT : Teller tb A M T N cs c Inv) (hf : T.names.length ≤ 1000000) :
  ∀ (n : Nat) (p : Pt) (i : Nat) (pre : Bytes) (D : List (Bytes × Nat)) (w : World), (p, i) ∈ T.names → (T.nd i).kind = 2 → (∀ t j, (p ++ t, j) ∈ T.names → t.length ≤ n) → pre.length + 50 * n ≤ 2000000 → D.length + (T.below p).length ≤ 3000000 → Inv D w →
  Calls Tryz.prog 58 #[ptr (A i), .string (mkS pre), .func (.func N) #[] cs] w fun e w' =>
   e = .returned (.tuple #[]) ∧ ∃ L, L.Perm ((T.below p).map fun y => (pre ++ glue y.1, y.2)) ∧ Inv (D ++ L) w' ∧ Turn w w' (Cap c w) ∧ ∀ b, Cap c w' b → Cap c w b ∨ w.heap.size ≤ b := by
 intro n
 induction n using Nat.strongRecOn with
 | _ n ih =>
  intro p i pre D w hp hk hlen hpre hcnt hInv
  have hR := hT.rep hInv
  have hI := hR.inv
  have h1 := names_calls tb A M T p i w hR hp hk hf
  have hcl : c < w.heap.size := hT.lt hInv (Or.inl rfl)
  have hlp : (sortB ((T.kids p).map (·.1))).Perm ((T.kids p).map (·.1)) := sortB_perm _
  generalize sortB ((T.kids p).map (·.1)) = l at *
  have htot := (told_all hI p pre hlp).length_eq
  rw [List.length_map] at htot
  replace htot := hid htot
  replace hcnt := hid hcnt
  replace h1 := hid h1
  replace hlp := hid hlp
  replace hI := hid hI
  replace hR := hid hR
  have hen := hT.enter
  replace hT := hid hT
  replace ih := hid ih
  replace hlen := hid hlen
  replace hInv := hid hInv
  unfold ptr at *
  go_enter Tryz.func58, Tryz.ntmps58
  go_wp2_with fail
  refine h1.out.mono ?_
  rintro e w1 ⟨⟨v1, rfl, hO1⟩, hB1⟩
  have hRd := hO1.rd
  obtain ⟨g, sc, rfl, hle, hmax⟩ := hRd.shape
  unfold maxLen at hmax
  have hInv1 := hT.out.below hInv.out hB1
  go_wp2
  go_loopw [7, 8, 12] (fun x kk ix wr => ∃ (k : Nat) (Lk : List (Bytes × Nat)), ix = .int .i64 k ∧ k ≤ l.length ∧ Lk.Perm ((l.take k).flatMap (toldOf T p pre)) ∧ Inv (D ++ Lk) wr ∧ Turn w1 wr (Cap c w1) ∧ ∀ b, Cap c wr b → Cap c w1 b ∨ w1.heap.size ≤ b) (fun x kk ix _ => l.length - (intOf ix).toNat)
  case atStart => exact ⟨0, [], rfl, Nat.zero_le _, by simp, by simpa using hInv1, Turn.refl _ _, fun b hb => Or.inl hb⟩
  case round =>
   obtain ⟨k, Lk, rfl, hkl, hLk, hInvk, hTk, hCk⟩ := hrel
   by_cases hlt : k < l.length
   ·obtain ⟨g0, c', e0, hg0, _, _, hob, hcells⟩ := own_at hO1.own (by omega)
    simp only [Value.slice.injEq] at e0
    obtain ⟨rfl, _, rfl⟩ := e0
    have hg1 := (hO1.own.lt g0 rfl).2
    have hcapg : ¬ Cap c w1 g0 := fun h => by
     have := hT.out.lt hInv.out ((Cap.of_below hB1 hcl).1 h)
     omega
    have hcx : wr.cell? ⟨g0, 0 + k, none⟩ = some (.string (mkS l[k])) := by
     obtain ⟨g', o', e1, h2⟩ := hRd.cell hlt
     simp only [Option.some.injEq, Addr.mk.injEq, and_true] at e1
     obtain ⟨rfl, rfl⟩ := e1
     simpa [World.cell?, hTk.block _ hg1 hcapg] using h2
    rw [Nat.zero_add] at hcx
    have hRk := hT.out.rep hInvk
    obtain ⟨⟨x', j⟩, hxj, hx⟩ : ∃ y ∈ T.kids p, y.1 = l[k] := by
     have := hlp.out.mem_iff.1 (List.getElem_mem hlt)
     obtain ⟨y, hy, e⟩ := List.mem_map.1 this
     exact ⟨y, hy, e⟩
    dsimp only at hx
    subst hx
    have hat := hI.out.kids_at.1 hxj
    have hjm := hI.out.at_some.1 hat
    have hlk := hRk.look hp hk l[k]
    rw [hat, optPtr_some] at hlk
    obtain ⟨dvi, _, hni⟩ := hRk.node i ⟨_, hp⟩
    have c11 : wr.cell? ⟨A i, 11, none⟩ = some (kidsV (T.nd i) (M i)) := cell_of hni rfl
    rw [kidsV, if_pos hk] at c11
    have hx48 : l[k].length ≤ 48 := (hI.out.pth _ _ hjm).part (by simp)
    have hmore : D.length + Lk.length + 1 + (T.below (p ++ [l[k]])).length ≤ 3000000 := by
     have h1 := fm_len (toldOf T p pre) l hlt
     have h2 := hLk.length_eq
     have h3 : (toldOf T p pre l[k]).length = 1 + (T.below (p ++ [l[k]])).length := by
      unfold toldOf
      rw [hat]
      simp
      omega
     have h4 := htot.out
     have h5 := hcnt.out
     omega
    have htell := hT.out.tell hInvk (q := pre ++ l[k]) (j := j) (by rw [List.length_append]; omega) (by simp; omega) ⟨_, hjm⟩
    replace hmore := hid hmore
    rw [← mkS_append] at htell
    have htk : l.take (k + 1) = l.take k ++ [l[k]] := by rw [List.take_add_one, List.getElem?_eq_getElem hlt]; rfl
    have htold : toldOf T p pre l[k] = (pre ++ l[k], j) :: (T.below (p ++ [l[k]])).map fun y => (pre ++ l[k] ++ 47 :: glue y.1, y.2) := by
     unfold toldOf
     rw [hat]
    have hsz := mkS_size pre
    have hsz2 := mkS_size l[k]
    unfold ptr at htell
    replace htell := hid htell
    replace htk := hid htk
    replace htold := hid htold
    replace hRk := hid hRk
    replace hLk := hid hLk
    replace hTk := hid hTk
    replace hCk := hid hCk
    replace hcapg := hid hcapg
    replace hRd := hid hRd
    replace hO1 := hid hO1
    clear hni hat hcells hob
    go_wp2_with fail
    refine htell.out.mono ?_
    rintro e w2 ⟨rfl, hInv2, hT2, hC2⟩
    have hR2 := hT.out.rep hInv2
    obtain ⟨dvj, _, hnj⟩ := hR2.node j ⟨_, hjm⟩
    have c11j : w2.cell? ⟨A j, 11, none⟩ = some (kidsV (T.nd j) (M j)) := cell_of hnj rfl
    have hmn := fun W m => map_not_nil W m
    have hTw : Turn w1 w2 (Cap c w1) := hTk.out.trans (hT2.mono fun b _ hb => hCk.out b hb)
    have hCw : ∀ b, Cap c w2 b → Cap c w1 b ∨ w1.heap.size ≤ b := fun b hb => by
     rcases hC2 b hb with h | h
     ·exact hCk.out b h
     ·exact Or.inr (Nat.le_trans hTk.out.size h)
    by_cases hkj : (T.nd j).kind = 2
    ·rw [kidsV, if_pos hkj] at c11j
     have hn1 : 1 ≤ n := by simpa using hlen.out [l[k]] j hjm
     have hrec := ih.out (n - 1) (by omega) (p ++ [l[k]]) j (pre ++ l[k] ++ [47]) (D ++ Lk ++ [(pre ++ l[k], j)]) w2 hjm hkj (fun t u hu => by
      have := hlen.out (l[k] :: t) u (by simpa using hu)
      simp at this
      omega) (by simp; omega) (by have := hmore.out; simp; omega) hInv2
     rw [← mkS_append, ← mkS_append, show mkS [47] = ⟨#[47]⟩ from rfl] at hrec
     have hfin : ∀ (L2 : List (Bytes × Nat)) (w3 : World), L2.Perm ((T.below (p ++ [l[k]])).map fun y => (pre ++ l[k] ++ [47] ++ glue y.1, y.2)) → Inv (D ++ Lk ++ [(pre ++ l[k], j)] ++ L2) w3 → Turn w2 w3 (Cap c w2) → (∀ b, Cap c w3 b → Cap c w2 b ∨ w2.heap.size ≤ b) →
       (Lk ++ (pre ++ l[k], j) :: L2).Perm ((l.take (k + 1)).flatMap (toldOf T p pre)) ∧ Inv (D ++ (Lk ++ (pre ++ l[k], j) :: L2)) w3 ∧ Turn w1 w3 (Cap c w1) ∧ ∀ b, Cap c w3 b → Cap c w1 b ∨ w1.heap.size ≤ b := by
      intro L2 w3 g1 g2 g3 g4
      refine ⟨?_, by simpa using g2, hTw.trans (g3.mono fun b _ hb => hCw b hb), fun b hb => ?_⟩
      ·rw [htk.out, List.flatMap_append, List.flatMap_singleton, htold.out]
       refine hLk.out.append (List.Perm.cons _ (g1.trans (List.Perm.of_eq (List.map_congr_left fun y _ => by simp))))
      ·rcases g4 b hb with h | h
       ·exact hCw b h
       ·exact Or.inr (Nat.le_trans hTw.size h)
     replace hrec := hid hrec
     replace hfin := hid hfin
     clear hInv2 hT2 hC2 hR2 hnj hInvk hkj hTw hCw
     go_wp2_with fail
     refine hrec.out.mono ?_
     rintro e w3 ⟨rfl, L2, q1, q2, q3, q4⟩
     obtain ⟨r1, r2, r3, r4⟩ := hfin.out L2 w3 q1 q2 q3 q4
     replace r1 := hid r1
     replace r2 := hid r2
     replace r3 := hid r3
     replace r4 := hid r4
     clear q1 q2 q3 q4
     go_wp2
     go_roundw
     case rel => exact ⟨k + 1, _, by go_num, by omega, r1.out, r2.out, r3.out, r4.out⟩
     case measure => simp [intOf]; omega
    ·rw [kidsV, if_neg hkj] at c11j
     have hb0 := below_file hI.out hjm hkj
     have hLk2 : (Lk ++ [(pre ++ l[k], j)]).Perm ((l.take (k + 1)).flatMap (toldOf T p pre)) := by
      rw [htk.out, List.flatMap_append, List.flatMap_singleton, htold.out, hb0]
      exact hLk.out.append_right _
     have hInv3 : Inv (D ++ (Lk ++ [(pre ++ l[k], j)])) w2 := by rw [← List.append_assoc]; exact hInv2
     replace hLk2 := hid hLk2
     replace hInv3 := hid hInv3
     replace hTw := hid hTw
     replace hCw := hid hCw
     clear hInv2 hT2 hC2 hR2 hnj hInvk hb0 hkj
     go_wp2
     go_roundw
     case rel => exact ⟨k + 1, _, by go_num, by omega, hLk2.out, hInv3.out, hTw.out, hCw.out⟩
     case measure => simp [intOf]; omega
   ·obtain rfl : k = l.length := by omega
    rw [List.take_length] at hLk
    have hend := hLk.trans (told_all hI.out p pre hlp.out)
    have hcap1 : ∀ b, Cap c w1 b ↔ Cap c w b := fun b => Cap.of_below hB1 hcl
    have hTt : Turn w wr (Cap c w) := (Turn.of_below hB1 _).trans (hTk.mono fun b _ hb => Or.inl ((hcap1 b).1 hb))
    have hCt : ∀ b, Cap c wr b → Cap c w b ∨ w.heap.size ≤ b := fun b hb => (hCk b hb).imp (hcap1 b).1 (fun h => Nat.le_trans hB1.size h)
    have hlt2 : ¬ (l.length : Int) < l.length := by omega
    replace hend := hid hend
    replace hInvk := hid hInvk
    replace hTt := hid hTt
    replace hCt := hid hCt
    clear hLk hTk hCk hcap1
    go_wp2
    go_end0
    exact ⟨rfl, Lk, hend.out, hInvk.out, hTt.out, hCt.out⟩
end Go.Proofs.YtcjlfkklpghjbaaGreat

namespace Go.Proofs.YtcjlfkklpghjbaaGreat
open Go.RowKit
theorem cap_plain {c : Nat} {W : World} {v : Value} (h : W.cell? ⟨c, 0, none⟩ = some v) (hv : v.ownBlock = none) {b : Nat} : Cap c W b ↔ b = c := by
 unfold Cap
 constructor
 ·rintro (h1 | ⟨u, h1, h2⟩)
  ·exact h1
  ·rw [h] at h1
   cases h1
   rw [hv] at h2
   cases h2
 ·exact Or.inl
def CountInv (tb : Nat) (A M : Nat → Nat) (T : Fs) (c : Nat) (D : List (Bytes × Nat)) (W : World) : Prop :=
  Rep W tb A M T ∧ W.heap[c]? = some (.cells #[.int .i64 (wrap64 (D.length : Int))] 3 (0, 0))
theorem wrap_again (n : Int) : IntKind.i64.wrap (wrap64 n + 1) = wrap64 (n + 1) := by
 rw [IntWalk.i64_left]
 unfold wrap64
 omega
theorem run_enter {P : Program} {f : FuncId} {fn : Func} {c : Code} (hf : P.funcs[f]? = some fn) (hname : (fn.name == "runtime.NumGoroutine") = false) (hb : fn.body = some c) (args : Array Value) (w : World) :
  (callFunc f args).run P w = .ok (.enter f args) w := by
 have h1 : fn.name ≠ "runtime.NumGoroutine" := by simpa using hname
 simp [callFunc, hf, h1, hb]
set_option maxRecDepth 100000 in
theorem count_teller (tb : Nat) (A M : Nat → Nat) (T : Fs) (c : Nat) : Teller tb A M T 62 #[ptr c] c (CountInv tb A M T c) := by
 refine ⟨fun args W => run_enter Tryz.func62 (by kernel_rfl) rfl args W, fun h => h.1, fun {D W b} h hb => ?_, fun {D W W'} h hb => ?_, fun {D W q j} h _ hq hj => ?_⟩
 ·rw [cap_plain (cell_of h.2 rfl) rfl] at hb
  subst hb
  exact (Array.getElem?_eq_some_iff.1 h.2).1
 ·exact ⟨h.1.below hb, (hb.block c (Array.getElem?_eq_some_iff.1 h.2).1).trans h.2⟩
 ·obtain ⟨hR, hc⟩ := h
  have hno : ¬ Own tb A M T c := hR.not_own hc (by decide) (by decide)
  have c0 : W.cell? ⟨c, 0, none⟩ = some (.int .i64 (wrap64 (D.length : Int))) := cell_of hc rfl
  have f0 : W.frozen? ⟨c, 0, none⟩ = false := by simp [World.frozen?, hc]
  have hwr := wrap_again (D.length : Int)
  have hT : Turn W (W.setCell ⟨c, 0, none⟩ (.int .i64 (wrap64 ((D.length : Int) + 1)))) (fun b => b = c) := turn_set (S := fun b => b = c) (Turn.refl _ _) rfl _ _
  have h2 := heap_set_same hc 0 (.int .i64 (wrap64 ((D.length : Int) + 1)))
  have hR2 : Rep (W.setCell ⟨c, 0, none⟩ (.int .i64 (wrap64 ((D.length : Int) + 1)))) tb A M T := hR.kept (fun b hb => hT.block b (hR.lt hb) (fun e => hno (by rw [← show b = c from e]; exact hb))) (by
   rintro g ⟨cs, hg⟩
   refine hT.block g (Array.getElem?_eq_some_iff.1 hg).1 ?_
   rintro rfl
   rw [hc] at hg
   simp at hg)
  have hInv : CountInv tb A M T c (D ++ [(q, j)]) (W.setCell ⟨c, 0, none⟩ (.int .i64 (wrap64 ((D.length : Int) + 1)))) := ⟨hR2, by simpa using h2⟩
  have hcap : ∀ b, Cap c (W.setCell ⟨c, 0, none⟩ (.int .i64 (wrap64 ((D.length : Int) + 1)))) b ↔ b = c := fun b => cap_plain (cell_of h2 rfl) rfl
  have hcap0 : ∀ b, Cap c W b ↔ b = c := fun b => cap_plain c0 rfl
  have hpost : CountInv tb A M T c (D ++ [(q, j)]) (W.setCell ⟨c, 0, none⟩ (.int .i64 (wrap64 ((D.length : Int) + 1)))) ∧ Turn W (W.setCell ⟨c, 0, none⟩ (.int .i64 (wrap64 ((D.length : Int) + 1)))) (Cap c W) ∧ ∀ b, Cap c (W.setCell ⟨c, 0, none⟩ (.int .i64 (wrap64 ((D.length : Int) + 1)))) b → Cap c W b ∨ W.heap.size ≤ b :=
   ⟨hInv, hT.mono fun b _ hb => (hcap0 b).2 hb, fun b hb => Or.inl ((hcap0 b).2 ((hcap b).1 hb))⟩
  generalize wrap64 ((D.length : Int) + 1) = n1 at *
  generalize wrap64 (D.length : Int) = n0 at *
  replace hpost := hid hpost
  clear hInv hcap hcap0 hR2 h2 hT hno hR hc
  unfold ptr
  go_enter Tryz.func62, Tryz.ntmps62
  go_wp2
  go_end0
  exact ⟨rfl, hpost.out⟩
theorem Pth.few {p : Pt} (h : Pth p) : p.length ≤ 12 := by
 obtain ⟨s, h1, rfl⟩ := h
 simp only [right, Bool.and_eq_true, decide_eq_true_eq] at h1
 exact h1.1.2
theorem below_few (T : Fs) (p : Pt) : (T.below p).length ≤ T.names.length := List.length_filterMap_le _ _
set_option maxHeartbeats 1000000 in
set_option maxRecDepth 100000 in
theorem count_calls (tb : Nat) (A M : Nat → Nat) (T : Fs) (w : World) (hR : Rep w tb A M T) (hf : T.names.length ≤ 1000000) :
  Calls Tryz.prog 26 #[ptr tb] w fun e w' => e = .returned (.int .i64 (T.below []).length) ∧ Below w.heap.size w w' := by
 have hI := hR.inv
 have hbf := below_few T []
 have hB0 : ∀ o, Below w.heap.size w (w.alloc o) := fun o => (Below.refl _ _).alloc (Nat.le_refl _) _
 have hblk := (MapKept.heap_alloc w (.cells #[.int .i64 0] 3)).1
 have hR1 := hR.below (hB0 (.cells #[.int .i64 0] 3))
 have hE := each_calls (count_teller tb A M T w.heap.size) hf 12 [] 1 [] [] (w.alloc (.cells #[.int .i64 0] 3)) hI.one hI.topKind (fun t j hm => (hI.pth _ _ hm).few) (by simp) (by simp; omega) ⟨hR1, by simpa [wrap64] using hblk⟩
 have c0 : w.cell? ⟨tb, 0, none⟩ = some (ptr (A 1)) := cell_of hR.tree rfl
 have htl : tb < w.heap.size := hR.lt (Or.inl rfl)
 unfold ptr at *
 rw [show mkS [] = ⟨#[]⟩ from rfl] at hE
 replace hE := hid hE
 replace hR1 := hid hR1
 replace hR := hid hR
 replace hblk := hid hblk
 go_enter Tryz.func26, Tryz.ntmps26
 go_wp2_with fail
 refine hE.out.mono ?_
 rintro e w1 ⟨rfl, L, hL, hInv, hT, _⟩
 have hcell : w1.cell? ⟨w.heap.size, 0, none⟩ = some (.int .i64 ((T.below []).length : Int)) := by
  have h1 := hL.length_eq
  rw [List.length_map] at h1
  have h2 : w1.cell? ⟨w.heap.size, 0, none⟩ = some (.int .i64 (wrap64 (([] ++ L).length : Int))) := cell_of hInv.2 rfl
  rw [List.nil_append, h1] at h2
  rw [h2]
  congr 2
  unfold wrap64
  omega
 have hB : Below w.heap.size w w1 := by
  refine (hB0 _).trans ⟨hT.os, hT.tape, hT.output, hT.size, fun k hk => hT.block k (by simp; omega) ?_⟩
  intro hc
  rw [cap_plain (cell_of hblk.out rfl) rfl] at hc
  omega
 replace hB := hid hB
 clear hInv hT hL
 go_wp2
 go_ret
 exact ⟨rfl, hB.out⟩
end Go.Proofs.YtcjlfkklpghjbaaGreat

namespace Go.Proofs.YtcjlfkklpghjbaaGreat
open Go.RowKit
def FitsInv (tb : Nat) (A M : Nat → Nat) (T : Fs) (c : Nat) (D : List (Bytes × Nat)) (W : World) : Prop :=
  Rep W tb A M T ∧ W.heap[c]? = some (.cells #[.bool (D.all fun x => right x.1)] 4 (0, 0))
/-- A store into a closure's one plain variable. -/
theorem cap_store {w W : World} {tb : Nat} {A M : Nat → Nat} {T : Fs} {c : Nat} {t : TypeId} {v0 v1 : Value} (hR : Rep W tb A M T) (hc : W.heap[c]? = some (.cells #[v0] t (0, 0))) (h1 : v1.ownBlock = none)
  (ht1 : t ≠ 82) (ht2 : t ≠ 87) (ht3 : t ≠ 5) (hB : Below w.heap.size w W) (hw : c < w.heap.size) :
  Rep (W.setCell ⟨c, 0, none⟩ v1) tb A M T ∧ (W.setCell ⟨c, 0, none⟩ v1).heap[c]? = some (.cells #[v1] t (0, 0)) ∧ Turn w (W.setCell ⟨c, 0, none⟩ v1) (Cap c w) ∧ ∀ b, Cap c (W.setCell ⟨c, 0, none⟩ v1) b → Cap c w b ∨ w.heap.size ≤ b := by
 have hno : ¬ Own tb A M T c := hR.not_own hc ht1 ht2
 have hT : Turn W (W.setCell ⟨c, 0, none⟩ v1) (fun b => b = c) := turn_set (S := fun b => b = c) (Turn.refl _ _) rfl _ _
 have h2 := heap_set_same hc 0 v1
 have hR2 : Rep (W.setCell ⟨c, 0, none⟩ v1) tb A M T := hR.kept (fun b hb => hT.block b (hR.lt hb) (fun e => hno (by rw [← show b = c from e]; exact hb))) (by
  rintro g ⟨cs, hg⟩
  refine hT.block g (Array.getElem?_eq_some_iff.1 hg).1 ?_
  rintro rfl
  rw [hc] at hg
  simp only [Option.some.injEq, Obj.cells.injEq] at hg
  exact ht3 hg.2.1)
 have hcap : ∀ b, Cap c (W.setCell ⟨c, 0, none⟩ v1) b ↔ b = c := fun b => cap_plain (cell_of h2 rfl) h1
 have hTw : Turn w (W.setCell ⟨c, 0, none⟩ v1) (fun b => b = c) := (Turn.of_below hB _).trans (hT.mono fun b _ hb => Or.inl hb)
 exact ⟨hR2, h2, hTw.mono fun b _ hb => Or.inl hb, fun b hb => Or.inl (Or.inl ((hcap b).1 hb))⟩
set_option maxHeartbeats 1000000 in
set_option maxRecDepth 100000 in
theorem fits_teller (tb : Nat) (A M : Nat → Nat) (T : Fs) (c : Nat) : Teller tb A M T 112 #[ptr c] c (FitsInv tb A M T c) := by
 refine ⟨fun args W => run_enter Tryz.func112 (by kernel_rfl) rfl args W, fun h => h.1, fun {D W b} h hb => ?_, fun {D W W'} h hb => ?_, fun {D W q j} h _ hq hj => ?_⟩
 ·rw [cap_plain (cell_of h.2 rfl) rfl] at hb
  subst hb
  exact (Array.getElem?_eq_some_iff.1 h.2).1
 ·exact ⟨h.1.below hb, (hb.block c (Array.getElem?_eq_some_iff.1 h.2).1).trans h.2⟩
 ·obtain ⟨hR, hc⟩ := h
  have hlt := (Array.getElem?_eq_some_iff.1 hc).1
  have hr := fun W => right_calls (mkS q) W (by rw [mkS_size]; exact hq)
  rw [bl_mkS] at hr
  have hall : (D ++ [(q, j)]).all (fun x => right x.1) = ((D.all fun x => right x.1) && right q) := by simp
  have hfin : ∀ W', Below W.heap.size W W' → ∀ b1 : Bool, b1 = ((D.all fun x => right x.1) && right q) → (FitsInv tb A M T c (D ++ [(q, j)]) (W'.setCell ⟨c, 0, none⟩ (.bool b1)) ∧ Turn W (W'.setCell ⟨c, 0, none⟩ (.bool b1)) (Cap c W) ∧ ∀ b, Cap c (W'.setCell ⟨c, 0, none⟩ (.bool b1)) b → Cap c W b ∨ W.heap.size ≤ b) ∧ W'.cell? ⟨c, 0, none⟩ = some (.bool (D.all fun x => right x.1)) ∧ W'.frozen? ⟨c, 0, none⟩ = false := by
   rintro W' hB b1 rfl
   have hc' := (hB.block c hlt).trans hc
   obtain ⟨g1, g2, g3, g4⟩ := cap_store (v1 := .bool ((D.all fun x => right x.1) && right q)) (hR.below hB) hc' rfl (by decide) (by decide) (by decide) hB hlt
   exact ⟨⟨⟨g1, by rw [hall]; exact g2⟩, g3, g4⟩, cell_of hc' rfl, by simp [World.frozen?, hc']⟩
  have c0 : W.cell? ⟨c, 0, none⟩ = some (.bool (D.all fun x => right x.1)) := cell_of hc rfl
  have f0 : W.frozen? ⟨c, 0, none⟩ = false := by simp [World.frozen?, hc]
  generalize (D.all fun x => right x.1) = b0 at *
  generalize right q = bq at *
  unfold ptr
  cases b0 with
  | false =>
   have hf := (hfin W (Below.refl _ _) false rfl).1
   replace hf := hid hf
   clear hfin hR hc hr hall
   go_enter Tryz.func112, Tryz.ntmps112
   go_wp2
   go_end0
   exact ⟨rfl, hf.out⟩
  | true =>
   replace hr := hid hr
   replace hfin := hid hfin
   clear hR hc hall
   go_enter Tryz.func112, Tryz.ntmps112
   go_wp2_with fail
   refine (hr.out _).mono ?_
   rintro e w1 ⟨rfl, hB1⟩
   obtain ⟨hf, c1, f1⟩ := hfin.out w1 hB1 bq (by simp)
   replace hf := hid hf
   go_wp2
   go_end0
   exact ⟨rfl, hf.out⟩
set_option maxHeartbeats 1000000 in
set_option maxRecDepth 100000 in
theorem fits_calls (tb : Nat) (A M : Nat → Nat) (T : Fs) (p : Pt) (i : Nat) (q : ByteArray) (w : World) (hR : Rep w tb A M T) (hp : (p, i) ∈ T.names) (hk : (T.nd i).kind = 2) (hq : q.size ≤ 1000000) (hf : T.names.length ≤ 1000000) :
  Calls Tryz.prog 86 #[ptr (A i), .string q] w fun e w' => e = .returned (.bool ((T.below p).all fun y => right (bl q ++ 47 :: glue y.1))) ∧ Below w.heap.size w w' := by
 have hI := hR.inv
 have hB0 : ∀ o, Below w.heap.size w (w.alloc o) := fun o => (Below.refl _ _).alloc (Nat.le_refl _) _
 have hblk := (MapKept.heap_alloc w (.cells #[.bool true] 4)).1
 have hR1 := hR.below (hB0 (.cells #[.bool true] 4))
 have hE := each_calls (fits_teller tb A M T w.heap.size) hf 12 p i (bl q ++ [47]) [] (w.alloc (.cells #[.bool true] 4)) hp hk (fun t j hm => by
  have := (hI.pth _ _ hm).few
  simp at this
  omega) (by simp [bl_length]; omega) (by have := below_few T p; simp; omega) ⟨hR1, hblk⟩
 rw [← mkS_append, mkS_bl, show mkS [47] = ⟨#[47]⟩ from rfl] at hE
 unfold ptr at *
 replace hE := hid hE
 replace hR1 := hid hR1
 replace hR := hid hR
 replace hblk := hid hblk
 go_enter Tryz.func86, Tryz.ntmps86
 go_wp2_with fail
 refine hE.out.mono ?_
 rintro e w1 ⟨rfl, L, hL, hInv, hT, _⟩
 have hcell : w1.cell? ⟨w.heap.size, 0, none⟩ = some (.bool ((T.below p).all fun y => right (bl q ++ 47 :: glue y.1))) := by
  have h2 : w1.cell? ⟨w.heap.size, 0, none⟩ = some (.bool (([] ++ L).all fun x => right x.1)) := cell_of hInv.2 rfl
  rw [h2, List.nil_append, hL.all_eq, List.all_map]
  simp [Function.comp_def]
 have hB : Below w.heap.size w w1 := by
  refine (hB0 _).trans ⟨hT.os, hT.tape, hT.output, hT.size, fun k hk => hT.block k (by simp; omega) ?_⟩
  intro hc
  rw [cap_plain (cell_of hblk.out rfl) rfl] at hc
  omega
 replace hB := hid hB
 clear hInv hT hL
 generalize hr : ((T.below p).all fun y => right (bl q ++ 47 :: glue y.1)) = r at hcell
 replace hr := hid hr
 go_wp2
 go_ret
 exact ⟨by rw [hr.out]; rfl, hB.out⟩
end Go.Proofs.YtcjlfkklpghjbaaGreat

namespace Go.Proofs.YtcjlfkklpghjbaaGreat
open Go.RowKit
def Fs.fits (T : Fs) (o p : Bytes) : Bool := (T.below (split o)).all fun y => right (p ++ 47 :: glue y.1)
/-- .. behind all that is looked up: the name's thing i; what stands at the new path, wn, and whether it could be looked up, le. -/
def Fs.ren3 (T : Fs) (o p : Bytes) (i : Nat) (wn : Option Nat) (le : Int) : Fs × Int :=
  if (T.nd i).kind = 2 ∧ p ≠ o ∧ under p o = true then (T, 2) else if le ≠ 0 then (T, le) else
  if (T.nd i).kind = 2 ∧ wn ≠ none then (T, 11) else if (T.nd i).kind = 2 ∧ T.fits o p = false then (T, 7) else
  match wn with
  | none => (T.move (split o) (split p), 0)
  | some j => if (T.nd j).kind = 2 then (T, 13) else if j = i then (T, 0) else ((T.gone (split p) j).move (split o) (split p), 0)
def Fs.ren2 (T : Fs) (o p : Bytes) (n : Option Nat) (te : Int) (wn : Option Nat) (le : Int) : Fs × Int :=
  if o = [] ∨ p = [] then (T, 2) else if te ≠ 0 then (T, te) else
  match n with
  | none => (T, 0)
  | some i => T.ren3 o p i wn le
def Fs.rename (T : Fs) (o p : Bytes) : Fs × Int :=
  if right o = false ∨ right p = false then (T, 9) else T.ren2 o p (T.there o).1 (T.there o).2.2 (T.look p).1 (T.look p).2.2
theorem split_below {p : Bytes} (hp : p ≠ []) {t : Pt} (ht : t ≠ []) (h47 : ∀ x ∈ t, (47 : UInt8) ∉ x) : split (p ++ 47 :: glue t) = split p ++ t := by
 have h1 : p ++ 47 :: glue t = glue (split p ++ t) := by
  have hs : split p ≠ [] := fun e => hp (split_eq_nil e)
  have := glue_split p
  conv => lhs; rw [← this]
  generalize split p = l at hs
  clear this
  induction l with
  | nil => exact absurd rfl hs
  | cons a r ih =>
   by_cases hr : r = []
   ·subst hr
    show a ++ 47 :: glue t = glue (a :: t)
    rw [glue_cons a ht]
   ·rw [List.cons_append, glue_cons a hr, glue_cons a (by simp [hr]), ← ih hr]
    simp
 rw [h1, split_ne (by rw [← h1]; simp)]
 exact splitL_glue (by simp [ht]) (fun x hx => by
  rcases List.mem_append.1 hx with h | h
  ·exact split_parts p x h
  ·exact h47 x h)
theorem Pth.no_slash {p : Pt} (h : Pth p) {x : Bytes} (hx : x ∈ p) : (47 : UInt8) ∉ x := by
 obtain ⟨s, _, rfl⟩ := h
 exact split_parts s x hx
/-- A file is above nothing. -/
theorem file_not_above {T : Fs} (hI : T.Inv) {o p : Pt} {i d : Nat} (hi : (o, i) ∈ T.names) (hk : (T.nd i).kind ≠ 2) (hd : (p.dropLast, d) ∈ T.names) (hdk : (T.nd d).kind = 2) (hne : p ≠ o) : ¬ o <+: p := by
 rintro ⟨t, rfl⟩
 have ht : t ≠ [] := fun e => hne (by rw [e, List.append_nil])
 rw [dropLast_append ht] at hd
 by_cases h0 : t.dropLast = []
 ·rw [h0, List.append_nil] at hd
  have := hI.at_one hi hd
  subst this
  exact hk hdk
 ·have := hI.at_below t.dropLast h0 (p := o) (fun j hj => by rw [hI.at_some.2 hi] at hj; cases hj; exact hk)
  rw [hI.at_some.2 hd] at this
  cases this
theorem under_prefix {p top : Bytes} : under p top = true ↔ split top <+: split p := List.isPrefixOf_iff_prefix
theorem moves_of {T : Fs} (hI : T.Inv) {o p : Bytes} {i d : Nat} (hp : right p = true) (ho0 : o ≠ []) (hp0 : p ≠ []) (hi : (split o, i) ∈ T.names) (hd : ((split p).dropLast, d) ∈ T.names) (hdk : (T.nd d).kind = 2) (hn : T.at (split p) = none)
  (h1 : ¬ ((T.nd i).kind = 2 ∧ p ≠ o ∧ under p o = true)) (h2 : ¬ ((T.nd i).kind = 2 ∧ T.fits o p = false)) : Moves T (split o) (split p) i d := by
 have hpo : split p ≠ split o := fun e => by
  rw [e] at hn
  rw [hI.at_some.2 hi] at hn
  cases hn
 refine ⟨hi, fun e => ho0 (split_eq_nil e), fun e => hp0 (split_eq_nil e), hn, hd, hdk, ?_, ?_⟩
 ·by_cases hk : (T.nd i).kind = 2
  ·exact fun h => h1 ⟨hk, fun e => hpo (by rw [e]), under_prefix.2 h⟩
  ·exact file_not_above hI hi hk hd hdk hpo
 ·intro t j hm
  by_cases ht : t = []
  ·subst ht
   rw [List.append_nil]
   exact ⟨p, hp, rfl⟩
  ·have hP := hI.pth _ _ hm
   by_cases hk : (T.nd i).kind = 2
   ·have hf : T.fits o p = true := by
     cases hf : T.fits o p with
     | true => rfl
     | false => exact absurd ⟨hk, hf⟩ h2
    have := List.all_eq_true.1 hf (t, j) (mem_below.2 ⟨ht, hm⟩)
    exact ⟨_, this, split_below hp0 ht fun x hx => hP.no_slash (List.mem_append_right _ hx)⟩
   ·have := hI.at_below t ht (p := split o) (fun j hj => by rw [hI.at_some.2 hi] at hj; cases hj; exact hk)
    rw [hI.at_some.2 hm] at this
    cases this
/-- .. and where a file is replaced. -/
theorem moves_over {T : Fs} (hI : T.Inv) {o p : Bytes} {i j d : Nat} (hp : right p = true) (ho0 : o ≠ []) (hp0 : p ≠ []) (hi : (split o, i) ∈ T.names) (hd : ((split p).dropLast, d) ∈ T.names) (hdk : (T.nd d).kind = 2) (hj : (split p, j) ∈ T.names) (hjk : (T.nd j).kind ≠ 2)
  (hij : j ≠ i) (hik : (T.nd i).kind ≠ 2) : (T.gone (split p) j).Inv ∧ Moves (T.gone (split p) j) (split o) (split p) i d := by
 have hp1 : split p ≠ [] := fun e => hp0 (split_eq_nil e)
 have hI1 := gone_inv hI hj hp1 (kids_file hI hj hjk)
 have hpo : split p ≠ split o := fun e => hij (hI.at_one hj (e ▸ hi))
 refine ⟨hI1, moves_of hI1 hp ho0 hp0 ((mem_gone _ _).2 ⟨hi, hpo.symm⟩) ((mem_gone _ _).2 ⟨hd, dropLast_ne hp1⟩) (by rw [gone_kind]; exact hdk) ?_ (fun h => hik (by rw [← gone_kind (p := split p) (i := j)]; exact h.1)) (fun h => hik (by rw [← gone_kind (p := split p) (i := j)]; exact h.1))⟩
 refine Fs.at_none.2 fun k hk => ?_
 exact ((mem_gone _ _).1 hk).2 rfl
theorem map_split {A : Nat → Nat} {K K0 : List (Bytes × Nat)} {x : Bytes} {i : Nat} (hk : K.Perm ((x, i) :: K0)) : (entries A K).Perm ((.string (mkS x), ptr (A i)) :: entries A K0) := hk.map _
theorem entries_miss {A : Nat → Nat} {K : List (Bytes × Nat)} {x : Bytes} (h : ∀ j, (x, j) ∉ K) : ∀ q ∈ entries A K, q.1 ≠ .string (mkS x) := by
 intro q hq e
 obtain ⟨⟨y, j⟩, hy, rfl⟩ := List.mem_map.1 hq
 simp only [Value.string.injEq] at e
 rw [mkS_inj e] at hy
 exact h j hy
/-- The two last steps of a Rename: the one name is taken out, the other one stored. -/
theorem move_end {w : World} {tb : Nat} {A M : Nat → Nat} {T : Fs} {o p : Bytes} {i d f : Nat} (hR : Rep w tb A M T) (h : Moves T (split o) (split p) i d) (hf : ((split o).dropLast, f) ∈ T.names) (hfk : (T.nd f).kind = 2) (ty : TypeId) :
  ∃ w1, (Builtin.delete_ #[85, 9] ty #[.map (some (M f)), .string (mkS (base o))]).run Tryz.prog w.drew = .ok (.tuple #[]) w1 ∧ w1.heap[A d]? = w.heap[A d]? ∧
   ∃ w2, (Instr.mapUpdate 85 (.map (some (M d))) (.string (mkS (base p))) (ptr (A i))).run Tryz.prog w1.drew = .ok () w2 ∧ Rep w2 tb A M (T.move (split o) (split p)) ∧ Turn w w2 (fun b => b = M f ∨ b = M d) := by
 have hI := hR.inv
 have hbo : base o = (split o).getLastD [] := rfl
 have hbp : base p = (split p).getLastD [] := rfl
 have hnf : ¬ split o <+: (split o).dropLast := fun hp => by
  obtain ⟨t, e⟩ := hp
  exact not_under_up h.one t e
 have hnd : ¬ split o <+: (split p).dropLast := fun hp => h.apart (hp.trans (List.dropLast_prefix _))
 obtain ⟨K0, k1, k2⟩ := kids_move_stay hI h hf hnf
 rw [if_pos rfl, List.singleton_append] at k1
 have hMf : MapIs w.drew (M f) (entries A (T.kids (split o).dropLast)) := hR.kids _ f hf hfk
 have hkey := keyable_string Tryz.underlying9 w.drew (mkS (base o)) (entries_keys A (T.kids (split o).dropLast))
 obtain ⟨w1, hrun1, hm1, ht1⟩ := hMf.drop_hit under_kids hkey (r := entries A K0) (by rw [hbo]; exact map_split k1) ty
 have hg1 := ht1.grown
 have hAd : w1.heap[A d]? = w.heap[A d]? := by
  obtain ⟨dv, _, hnode⟩ := hR.node d ⟨_, h.dir⟩
  exact hg1.block _ (Array.getElem?_eq_some_iff.1 hnode).1 (by have := hR.map_node hf hfk ⟨_, h.dir⟩ (j := d); simpa using this.symm)
 refine ⟨w1, hrun1, hAd, ?_⟩
 by_cases hfd : f = d
 ·subst hfd
  have hup := hI.dir_one hf h.dir hfk
  rw [if_pos hup, List.singleton_append] at k2
  have hm1' : MapIs w1.drew (M f) (entries A K0) := hm1
  have hmiss : ∀ q ∈ entries A K0, q.1 ≠ .string (mkS (base p)) := entries_miss fun j hj => by
   have : (base p, j) ∈ T.kids (split p).dropLast := by rw [hup]; exact k1.mem_iff.2 (List.mem_cons_of_mem _ hj)
   have := mem_kidsL.1 this
   rw [hbp, ← snoc_of h.two rfl] at this
   exact Fs.at_none.1 h.free j this
  have hkey2 := keyable_string Tryz.underlying9 w1.drew (mkS (base p)) (entries_keys A K0)
  obtain ⟨w2, hrun2, hm2, ht2⟩ := hm1'.store_new under_kids (v := ptr (A i)) hkey2 hmiss
  have hg2 := ht2.grown
  have htt : Turn w w2 (fun b => b = M f ∨ b = M f) := ((((Turn.refl w _).drewN 1).trans (Turn.of_grown hg1 (fun j e => by cases e; exact Or.inl (Or.inl rfl)))).drewN 1).trans (Turn.of_grown hg2 (fun j e => by cases e; exact Or.inl (Or.inl rfl)))
  have hm3 : MapIs w2 (M f) (entries A ((T.move (split o) (split p)).kids (split o).dropLast)) := hm2.perm (by rw [hbp]; exact k2.map _)
  exact ⟨w2, hrun2, rep_move hR h hf hfk htt hm3 (by rw [hup]; exact hm3), htt⟩
 ·have hup : (split p).dropLast ≠ (split o).dropLast := fun e => hfd (hI.at_one hf (e ▸ h.dir))
  rw [if_neg hup, List.nil_append] at k2
  obtain ⟨K1, g1, g2⟩ := kids_move_stay hI h h.dir hnd
  rw [if_neg hup.symm, List.nil_append] at g1
  rw [if_pos rfl, List.singleton_append] at g2
  have hMM : M d ≠ M f := fun e => hfd (hR.injM f d ⟨_, hf⟩ ⟨_, h.dir⟩ hfk h.kind e.symm)
  have hMd : MapIs w1.drew (M d) (entries A (T.kids (split p).dropLast)) := by
   have : MapIs w1 (M d) (entries A (T.kids (split p).dropLast)) := (show MapIs w.drew (M d) _ from hR.kids _ d h.dir h.kind).kept hg1 (by simpa using hMM)
   exact this
  have hmiss : ∀ q ∈ entries A (T.kids (split p).dropLast), q.1 ≠ .string (mkS (base p)) := entries_miss fun j hj => by
   have := mem_kidsL.1 hj
   rw [hbp, ← snoc_of h.two rfl] at this
   exact Fs.at_none.1 h.free j this
  have hkey2 := keyable_string Tryz.underlying9 w1.drew (mkS (base p)) (entries_keys A (T.kids (split p).dropLast))
  obtain ⟨w2, hrun2, hm2, ht2⟩ := hMd.store_new under_kids (v := ptr (A i)) hkey2 hmiss
  have hg2 := ht2.grown
  have htt : Turn w w2 (fun b => b = M f ∨ b = M d) := ((((Turn.refl w _).drewN 1).trans (Turn.of_grown hg1 (fun j e => by cases e; exact Or.inl (Or.inl rfl)))).drewN 1).trans (Turn.of_grown hg2 (fun j e => by cases e; exact Or.inl (Or.inr rfl)))
  have hm3 : MapIs w2 (M f) (entries A ((T.move (split o) (split p)).kids (split o).dropLast)) := (show MapIs w1.drew (M f) _ from hm1.perm (k2.map _)).kept hg2 (by simpa using hMM.symm)
  have hm4 : MapIs w2 (M d) (entries A ((T.move (split o) (split p)).kids (split p).dropLast)) := hm2.perm (by rw [hbp]; exact (g2.trans (g1.symm.cons _)).map _)
  exact ⟨w2, hrun2, rep_move hR h hf hfk htt hm3 hm4, htt⟩
end Go.Proofs.YtcjlfkklpghjbaaGreat

namespace Go.Proofs.YtcjlfkklpghjbaaGreat
open Go.RowKit
theorem Stp.of_two {w w' : World} {tb : Nat} {A M : Nat → Nat} {T T' : Fs} {S : Nat → Prop} (h : Rep w' tb A M T') (ht : Turn w w' S) (hS : ∀ b, S b → Own tb A M T b) (hown : ∀ b, Own tb A M T' b → Own tb A M T b) : Stp w w' tb A M T T' :=
 ⟨A, M, h, ht.mono fun b _ hb => hS b hb, fun _ hb => Or.inl (hown _ hb)⟩
theorem move_own {tb : Nat} {A M : Nat → Nat} {T : Fs} {o p : Pt} {b : Nat} (h : Own tb A M (T.move o p) b) : Own tb A M T b :=
 own_change (T := T) (T' := T.move o p) (fun j ⟨q, hm⟩ => by obtain ⟨r, hr, _⟩ := (mem_move q j).1 hm; exact ⟨r, hr⟩) (fun _ _ => rfl) h
theorem gone_own {tb : Nat} {A M : Nat → Nat} {T : Fs} {p : Pt} {i b : Nat} (h : Own tb A M (T.gone p i) b) : Own tb A M T b :=
 own_change (T' := T.gone p i) (fun _ hj => gone_live hj) (fun j _ => gone_kind j) h
/-- The steps behind all the errors: what stood there goes, the name moves. -/
def RenTail (w : World) (tb : Nat) (A M : Nat → Nat) (T T' : Fs) (o p : ByteArray) (i d f : Nat) : Prop :=
  Calls Tryz.prog 85 #[.pointer (some ⟨A d, 0, none⟩), .string p] w fun e w0 => e = .returned (.tuple #[]) ∧
    w0.cell? ⟨A f, 11, none⟩ = some (.map (some (M f))) ∧
    ∃ w1, (Builtin.delete_ #[85, 9] 0 #[.map (some (M f)), .string (mkS (base (bl o)))]).run Tryz.prog w0.drew = .ok (.tuple #[]) w1 ∧ w1.cell? ⟨A d, 11, none⟩ = some (.map (some (M d))) ∧
      ∃ w2, (Instr.mapUpdate 85 (.map (some (M d))) (.string (mkS (base (bl p)))) (.pointer (some ⟨A i, 0, none⟩))).run Tryz.prog w1.drew = .ok () w2 ∧ Stp w w2 tb A M T T'
theorem dir_cell {w : World} {tb : Nat} {A M : Nat → Nat} {T : Fs} (hR : Rep w tb A M T) {q : Pt} {d : Nat} (hd : (q, d) ∈ T.names) (hk : (T.nd d).kind = 2) : w.cell? ⟨A d, 11, none⟩ = some (.map (some (M d))) := by
 obtain ⟨dvd, _, hnd⟩ := hR.node d ⟨_, hd⟩
 have := cell_of (j := 11) hnd (v := kidsV (T.nd d) (M d)) rfl
 rwa [kidsV, if_pos hk] at this
theorem ren_tail {w w0 : World} {tb : Nat} {A M : Nat → Nat} {T T1 : Fs} {o p : ByteArray} {i d f : Nat} {S : Nat → Prop} (hR1 : Rep w0 tb A M T1) (h : Moves T1 (split (bl o)) (split (bl p)) i d) (hf : ((split (bl o)).dropLast, f) ∈ T1.names) (hfk : (T1.nd f).kind = 2)
  (ht : Turn w w0 S) (hS : ∀ b, S b → Own tb A M T b) (hown : ∀ b, Own tb A M T1 b → Own tb A M T b) :
  w0.cell? ⟨A f, 11, none⟩ = some (.map (some (M f))) ∧
  ∃ w1, (Builtin.delete_ #[85, 9] 0 #[.map (some (M f)), .string (mkS (base (bl o)))]).run Tryz.prog w0.drew = .ok (.tuple #[]) w1 ∧ w1.cell? ⟨A d, 11, none⟩ = some (.map (some (M d))) ∧
   ∃ w2, (Instr.mapUpdate 85 (.map (some (M d))) (.string (mkS (base (bl p)))) (.pointer (some ⟨A i, 0, none⟩))).run Tryz.prog w1.drew = .ok () w2 ∧ Stp w w2 tb A M T (T1.move (split (bl o)) (split (bl p))) := by
 obtain ⟨w1, g1, g2, w2, g3, g4, g5⟩ := move_end hR1 h hf hfk 0
 have c2 := dir_cell hR1 h.dir h.kind
 refine ⟨dir_cell hR1 hf hfk, w1, g1, ?_, w2, g3, ?_⟩
 ·rw [← c2]
  simp only [World.cell?, g2]
 ·have g6 : Turn w0 w2 (Own tb A M T) := g5.mono (by
   rintro b _ (rfl | rfl)
   ·exact hown _ (Or.inr (Or.inr ⟨f, ⟨_, hf⟩, hfk, rfl⟩))
   ·exact hown _ (Or.inr (Or.inr ⟨d, ⟨_, h.dir⟩, h.kind, rfl⟩)))
  exact Stp.of_two g4 ((ht.mono fun b _ hb => hS b hb).trans (g6.mono fun b _ hb => Or.inl hb)) (fun b hb => hb) (fun b hb => hown b (move_own hb))
theorem ren_free {w : World} {tb : Nat} {A M : Nat → Nat} {T : Fs} {o p : ByteArray} {i d f : Nat} (hR : Rep w tb A M T) (hps : p.size ≤ 16777216) (hp0 : bl p ≠ []) (h : Moves T (split (bl o)) (split (bl p)) i d) (hf : ((split (bl o)).dropLast, f) ∈ T.names) (hfk : (T.nd f).kind = 2) :
  RenTail w tb A M T (T.move (split (bl o)) (split (bl p))) o p i d f := by
 refine (out_none tb A M T p d w hR hps hp0 h.dir h.kind h.free).mono ?_
 rintro e w' ⟨rfl, rfl⟩
 exact ⟨rfl, ren_tail hR h hf hfk (Turn.refl _ (fun _ => False)) (fun _ h => h.elim) (fun _ h => h)⟩
theorem ren_over {w : World} {tb : Nat} {A M : Nat → Nat} {T : Fs} {o p : ByteArray} {i j d f : Nat} (hR : Rep w tb A M T) (hps : p.size ≤ 16777216) (hp0 : bl p ≠ []) (hfew : T.names.length ≤ 1000000)
  (hd : ((split (bl p)).dropLast, d) ∈ T.names) (hdk : (T.nd d).kind = 2) (hj : (split (bl p), j) ∈ T.names) (hjk : (T.nd j).kind ≠ 2)
  (h : Moves (T.gone (split (bl p)) j) (split (bl o)) (split (bl p)) i d) (hf : ((split (bl o)).dropLast, f) ∈ T.names) (hfk : (T.nd f).kind = 2) :
  RenTail w tb A M T ((T.gone (split (bl p)) j).move (split (bl o)) (split (bl p))) o p i d f := by
 have hk0 := kids_file hR.inv hj hjk
 refine (out_calls tb A M T p d j w hR hps hp0 hd hdk hj hk0 hfew).mono ?_
 rintro e w' ⟨rfl, hR1, ht⟩
 have hfp : (split (bl o)).dropLast ≠ split (bl p) := fun e => by
  rw [e] at hf
  have := hR.inv.at_one hf hj
  subst this
  exact hjk hfk
 refine ⟨rfl, ren_tail hR1 h ((mem_gone _ _).2 ⟨hf, hfp⟩) (by rw [gone_kind]; exact hfk) ht ?_ (fun _ h => gone_own h)⟩
 rintro b (rfl | rfl)
 ·exact Or.inr (Or.inl ⟨j, ⟨_, hj⟩, rfl⟩)
 ·exact Or.inr (Or.inr ⟨d, ⟨_, hd⟩, hdk, rfl⟩)
theorem info_node : Tryz.prog.info? 87 = some (Tryz.prog.types[87]'(by decide +kernel)) := by kernel_rfl
theorem node_size : (Tryz.prog.types[87]'(by decide +kernel)).size ≠ 0 := by decide +kernel
theorem run_eql_nil_ptr {P : Program} (w : World) {tp te : TypeId} (a : Addr) (hp : P.underlying tp = some (.pointer te)) :
  (binOp .eql tp (.pointer none) (.pointer (some a))).run P w = .ok (.bool false) w := by
 have h : ∀ d : Nat, (Op.equalIn (d + 1) tp (.pointer none) (.pointer (some a))).run P w = .ok false w := fun d => by
  simp [Op.equalIn, run_underlying hp, sizeOf, typeInfo]
 simp only [binOp]
 simp [Op.equal, Op.maxDepth, h 9999]
theorem str_same (a b : ByteArray) : a.toList = b.toList ↔ bl a = bl b := by rw [toList_bl, toList_bl]
set_option maxHeartbeats 8000000 in
set_option maxRecDepth 100000 in
theorem ren_main (tb : Nat) (A M : Nat → Nat) (T : Fs) (o p : ByteArray) (w : World) (res : Fs × Int) (i f : Nat) (wn wd : Option Nat) (le : Int) (hR : Rep w tb A M T)
  (h0 : Hid (∀ W, Calls Tryz.prog 82 #[.string o] W fun e w' => e = .returned (.bool true) ∧ Below W.heap.size W w'))
  (h1 : Hid (∀ W, Calls Tryz.prog 82 #[.string p] W fun e w' => e = .returned (.bool true) ∧ Below W.heap.size W w'))
  (h2 : Hid (∀ W, Rep W tb A M T → Calls Tryz.prog 83 #[.pointer (some ⟨tb, 0, none⟩), .string o] W fun e w' => e = .returned (.tuple #[optPtr A (some i), optPtr A (some f), .int .i64 0]) ∧ Below W.heap.size W w'))
  (h3 : Hid (∀ W, Rep W tb A M T → Calls Tryz.prog 79 #[.pointer (some ⟨tb, 0, none⟩), .string p] W fun e w' => e = .returned (.tuple #[optPtr A wn, optPtr A wd, .int .i64 le]) ∧ Below W.heap.size W w'))
  (h4 : Hid (∀ W, Calls Tryz.prog 35 #[.string p, .string o] W fun e w' => e = .returned (.bool (under (bl p) (bl o))) ∧ Below W.heap.size W w'))
  (hb1 : Hid (∀ W, Calls Tryz.prog 84 #[.string o] W fun e w' => e = .returned (.string (mkS (base (bl o)))) ∧ W = w'))
  (hb2 : Hid (∀ W, Calls Tryz.prog 84 #[.string p] W fun e w' => e = .returned (.string (mkS (base (bl p)))) ∧ W = w'))
  (hI : Hid T.Inv) (hi : (split (bl o), i) ∈ T.names) (hfm : ((split (bl o)).dropLast, f) ∈ T.names) (hfk : (T.nd f).kind = 2)
  (hlo : Hid (le = 0 → right (bl p) = true ∧ wn = T.at (split (bl p)) ∧ (bl p = [] ∧ wn = some 1 ∧ wd = none ∨ bl p ≠ [] ∧ ∃ d, wd = some d ∧ ((split (bl p)).dropLast, d) ∈ T.names ∧ (T.nd d).kind = 2)))
  (ho0 : Hid (¬ bl o = [])) (hp0 : Hid (¬ bl p = [])) (hno2 : o.toList.isEmpty = false) (hnp2 : p.toList.isEmpty = false) (hne : Hid (p.toList = o.toList ↔ bl p = bl o)) (_hr0 : Hid (right (bl o) = true)) (hr1 : Hid (right (bl p) = true))
  (_ho : o.size ≤ 1000000) (hp : p.size ≤ 1000000) (hf : T.names.length ≤ 1000000)
  (hres : Hid (res = T.ren3 (bl o) (bl p) i wn le)) :
  Calls Tryz.prog 42 #[.pointer (some ⟨tb, 0, none⟩), .string o, .string p] w fun e w' => e = .returned (.int .i64 res.2) ∧ Stp w w' tb A M T res.1 := by
 replace hR := hid hR
 replace hi := hid hi
 replace hfm := hid hfm
 replace hfk := hid hfk
 go_enter Tryz.func42, Tryz.ntmps42
 go_wp2_with fail
 refine (h0.out _).mono ?_
 rintro e w1 ⟨rfl, hB1⟩
 go_wp2_with fail
 refine (h1.out _).mono ?_
 rintro e w2 ⟨rfl, hB2⟩
 have hB12 := below_step hB1 hB2
 go_wp2_with fail
 refine (h2.out _ (hR.out.below hB12)).mono ?_
 rintro e w3 ⟨rfl, hB3⟩
 have hB := below_step hB12 hB3
 clear hB1 hB2 hB3 hB12
 rw [optPtr_some, optPtr_some]
 have hR3 := hR.out.below hB
 obtain ⟨dvi, _, hni⟩ := hR3.node i ⟨_, hi.out⟩
 have c0 : w3.cell? ⟨A i, 0, none⟩ = some (.int .i64 (T.nd i).kind) := cell_of hni rfl
 replace hR3 := hid hR3
 replace hni := hid hni
 by_cases hk : (T.nd i).kind = 2
 ·have hk2 : ((T.nd i).kind == 2) = true := by simpa using hk
  have hft := fun W hW => fits_calls tb A M T (split (bl o)) i p W hW hi.out hk hp hf
  unfold ptr at hft
  replace hft := hid hft
  replace hk := hid hk
  by_cases hpo : bl p = bl o
  ·have hne2 : p.toList = o.toList := hne.out.2 hpo
   clear hne
   have hg1 : ¬ ((T.nd i).kind = 2 ∧ bl p ≠ bl o ∧ under (bl p) (bl o) = true) := fun h => h.2.1 hpo
   replace hg1 := hid hg1
   have hbad : le = 0 → wn = some i := fun h => by
    rw [(hlo.out h).2.1, hpo]
    exact hI.out.at_some.2 hi.out
   replace hbad := hid hbad
   replace hpo := hid hpo
   go_wp2_with fail
   refine (h3.out _ hR3.out).mono ?_
   rintro e w4 ⟨rfl, hB4⟩
   have hB04 := below_step hB hB4
   have hR4 := hR3.out.below hB4
   replace hR4 := hid hR4
   clear hB hB4
   by_cases hle : le = 0
   ·have hle2 : (le != 0) = false := by simpa using hle
    have hwi := hbad.out hle
    rw [hwi, optPtr_some]
    replace hwi := hid hwi
    replace hle := hid hle
    go_wp2
    go_ret
    have e1 : res = (T, 11) := by rw [hres.out]; unfold Fs.ren3; rw [if_neg hg1.out, if_neg (fun h => h hle.out), if_pos ⟨hk.out, by rw [hwi.out]; simp⟩]
    rw [e1]
    exact ⟨rfl, Stp.same hR.out hB04⟩
   ·have hle2 : (le != 0) = true := by simpa using hle
    replace hle := hid hle
    go_wp2
    go_ret
    have e1 : res = (T, le) := by rw [hres.out]; unfold Fs.ren3; rw [if_neg hg1.out, if_pos hle.out]
    rw [e1]
    exact ⟨rfl, Stp.same hR.out hB04⟩
  ·have hne2 : ¬ p.toList = o.toList := fun e => hpo (hne.out.1 e)
   have hne3 : (p.toList == o.toList) = false := by simpa using hne2
   clear hne
   replace hpo := hid hpo
   go_wp2_with fail
   refine (h4.out _).mono ?_
   rintro e w4 ⟨rfl, hB4⟩
   have hB04 := below_step hB hB4
   have hR4 := hR3.out.below hB4
   replace hR4 := hid hR4
   clear hB hB4 c0 hR3 hni
   cases hu : under (bl p) (bl o) with
   | true =>
    replace hu := hid hu
    go_wp2
    go_ret
    have e1 : res = (T, 2) := by rw [hres.out]; unfold Fs.ren3; rw [if_pos ⟨hk.out, hpo.out, hu.out⟩]
    rw [e1]
    exact ⟨rfl, Stp.same hR.out hB04⟩
   | false =>
    replace hu := hid hu
    have hg1 : ¬ ((T.nd i).kind = 2 ∧ bl p ≠ bl o ∧ under (bl p) (bl o) = true) := fun h => by rw [hu.out] at h; cases h.2.2
    replace hg1 := hid hg1
    go_wp2_with fail
    refine (h3.out _ hR4.out).mono ?_
    rintro e w5 ⟨rfl, hB5⟩
    have hB05 := below_step hB04 hB5
    have hR5 := hR4.out.below hB5
    replace hR5 := hid hR5
    clear hB04 hB5 hR4
    by_cases hle : le = 0
    ·have hle2 : (le != 0) = false := by simpa using hle
     obtain ⟨_, hwn, hwd⟩ := hlo.out hle
     rcases hwd with ⟨hwd, _⟩ | ⟨_, d, hwd, hdm, hdk⟩
     ·exact absurd hwd hp0.out
     rw [hwd, optPtr_some]
     replace hle := hid hle
     replace hdm := hid hdm
     replace hdk := hid hdk
     replace hwn := hid hwn
     replace hwd := hid hwd
     cases hwj : wn with
     | some j =>
      rw [optPtr_some]
      replace hwj := hid hwj
      go_wp2
      go_ret
      have e1 : res = (T, 11) := by rw [hres.out]; unfold Fs.ren3; rw [if_neg hg1.out, if_neg (fun h => h hle.out), if_pos ⟨hk.out, by rw [hwj.out]; simp⟩]
      rw [e1]
      exact ⟨rfl, Stp.same hR.out hB05⟩
     | none =>
      rw [optPtr_none]
      replace hwj := hid hwj
      go_wp2_with fail
      refine (hft.out _ hR5.out).mono ?_
      rintro e w6 ⟨rfl, hB6⟩
      have hB06 := below_step hB05 hB6
      have hR6 := hR5.out.below hB6
      replace hR6 := hid hR6
      clear hB05 hB6 hR5
      cases hfi : ((T.below (split (bl o))).all fun y => right (bl p ++ 47 :: glue y.1)) with
      | false =>
       replace hfi := hid hfi
       go_wp2
       go_ret
       have e1 : res = (T, 7) := by rw [hres.out]; unfold Fs.ren3; rw [if_neg hg1.out, if_neg (fun h => h hle.out), if_neg (fun h => h.2 hwj.out), if_pos ⟨hk.out, hfi.out⟩]
       rw [e1]
       exact ⟨rfl, Stp.same hR.out hB06⟩
      | true =>
       have hg2 : ¬ ((T.nd i).kind = 2 ∧ T.fits (bl o) (bl p) = false) := fun h => by
        have h2 := h.2
        unfold Fs.fits at h2
        rw [hfi] at h2
        cases h2
       replace hg2 := hid hg2
       replace hfi := hid hfi
       have hT := ren_free hR6.out (by omega) hp0.out (moves_of hI.out hr1.out ho0.out hp0.out hi.out hdm.out hdk.out (by rw [← hwn.out, hwj.out]) hg1.out hg2.out) hfm.out hfk.out
       unfold RenTail at hT
       replace hT := hid hT
       have hptr := fun W : World => run_eql_nil_ptr (P := Tryz.prog) W ⟨A i, 0, none⟩ Tryz.underlying80
       go_wp2_with fail
       refine hT.out.mono ?_
       rintro e w7 ⟨rfl, cf, w8, hd6, cd6, w9, hs7, hst⟩
       replace hst := hid hst
       replace hd6 := hid hd6
       replace hs7 := hid hs7
       replace cd6 := hid cd6
       clear hT
       go_wp2_with fail
       refine wp_region_still_tail 6 (by kernel_rfl) (by kernel_rfl) ?_
       simp only [List.take_succ_cons, List.take_zero, List.drop_succ_cons, List.drop_zero]
       iterate 5 still_step
       still_call ((hb1.out w7.drew).mono fun e w' hh => ⟨hh.1, hh.2.symm⟩)
       refine wpStill_nil ?_
       change wpList _ _ _ _ _ w7.drew
       refine wp_drop _ rfl _ _ 85 9 rfl (.map (some (M f))) (.string (mkS (base (bl o)))) rfl rfl w8 hd6.out ?_
       have cd7 := cd6.out
       clear cf
       go_wp2_with fail
       refine wp_region_still_tail 7 (by kernel_rfl) (by kernel_rfl) ?_
       simp only [List.take_succ_cons, List.take_zero, List.drop_succ_cons, List.drop_zero]
       iterate 5 still_step
       still_call ((hb2.out w8.drew).mono fun e w' hh => ⟨hh.1, hh.2.symm⟩)
       still_step
       refine wpStill_nil ?_
       change wpList _ _ _ _ _ w8.drew
       refine wp_store _ rfl _ _ _ 85 rfl (.map (some (M d))) (.string (mkS (base (bl p)))) (.pointer (some ⟨A i, 0, none⟩)) rfl rfl rfl w9 hs7.out ?_
       go_wp2
       go_ret
       have e1 : res = (T.move (split (bl o)) (split (bl p)), 0) := by rw [hres.out]; unfold Fs.ren3; rw [if_neg hg1.out, if_neg (fun h => h hle.out), if_neg (fun h => h.2 hwj.out), if_neg hg2.out, hwj.out]
       rw [e1]
       exact ⟨rfl, hst.out.after hB06⟩
    ·have hle2 : (le != 0) = true := by simpa using hle
     replace hle := hid hle
     go_wp2
     go_ret
     have e1 : res = (T, le) := by rw [hres.out]; unfold Fs.ren3; rw [if_neg hg1.out, if_pos hle.out]
     rw [e1]
     exact ⟨rfl, Stp.same hR.out hB05⟩
 ·have hk2 : ((T.nd i).kind == 2) = false := by simpa using hk
  replace hk := hid hk
  go_wp2_with fail
  refine (h3.out _ hR3.out).mono ?_
  rintro e w4 ⟨rfl, hB4⟩
  have hB04 := below_step hB hB4
  have hR4 := hR3.out.below hB4
  replace hR4 := hid hR4
  clear hB hB4
  by_cases hle : le = 0
  ·have hle2 : (le != 0) = false := by simpa using hle
   obtain ⟨_, hwn, hwd⟩ := hlo.out hle
   rcases hwd with ⟨hwd, _⟩ | ⟨_, d, hwd, hdm, hdk⟩
   ·exact absurd hwd hp0.out
   rw [hwd, optPtr_some]
   replace hle := hid hle
   replace hdm := hid hdm
   replace hdk := hid hdk
   replace hwn := hid hwn
   replace hwd := hid hwd
   cases hwj : wn with
   | none =>
    rw [optPtr_none]
    replace hwj := hid hwj
    have hT := ren_free hR4.out (by omega) hp0.out (moves_of hI.out hr1.out ho0.out hp0.out hi.out hdm.out hdk.out (by rw [← hwn.out, hwj.out]) (fun h => hk.out h.1) (fun h => hk.out h.1)) hfm.out hfk.out
    unfold RenTail at hT
    replace hT := hid hT
    have hptr := fun W : World => run_eql_nil_ptr (P := Tryz.prog) W ⟨A i, 0, none⟩ Tryz.underlying80
    go_wp2_with fail
    refine hT.out.mono ?_
    rintro e w5 ⟨rfl, cf, w6, hd6, cd6, w7, hs7, hst⟩
    replace hst := hid hst
    replace hd6 := hid hd6
    replace hs7 := hid hs7
    replace cd6 := hid cd6
    clear hT
    go_wp2_with fail
    refine wp_region_still_tail 6 (by kernel_rfl) (by kernel_rfl) ?_
    simp only [List.take_succ_cons, List.take_zero, List.drop_succ_cons, List.drop_zero]
    iterate 5 still_step
    still_call ((hb1.out w5.drew).mono fun e w' hh => ⟨hh.1, hh.2.symm⟩)
    refine wpStill_nil ?_
    change wpList _ _ _ _ _ w5.drew
    refine wp_drop _ rfl _ _ 85 9 rfl (.map (some (M f))) (.string (mkS (base (bl o)))) rfl rfl w6 hd6.out ?_
    have cd7 := cd6.out
    clear cf
    go_wp2_with fail
    refine wp_region_still_tail 7 (by kernel_rfl) (by kernel_rfl) ?_
    simp only [List.take_succ_cons, List.take_zero, List.drop_succ_cons, List.drop_zero]
    iterate 5 still_step
    still_call ((hb2.out w6.drew).mono fun e w' hh => ⟨hh.1, hh.2.symm⟩)
    still_step
    refine wpStill_nil ?_
    change wpList _ _ _ _ _ w6.drew
    refine wp_store _ rfl _ _ _ 85 rfl (.map (some (M d))) (.string (mkS (base (bl p)))) (.pointer (some ⟨A i, 0, none⟩)) rfl rfl rfl w7 hs7.out ?_
    go_wp2
    go_ret
    have e1 : res = (T.move (split (bl o)) (split (bl p)), 0) := by rw [hres.out]; unfold Fs.ren3; rw [if_neg (fun h => hk.out h.1), if_neg (fun h => h hle.out), if_neg (fun h => hk.out h.1), if_neg (fun h => hk.out h.1), hwj.out]
    rw [e1]
    exact ⟨rfl, hst.out.after hB04⟩
   | some j =>
    rw [optPtr_some]
    have hj : (split (bl p), j) ∈ T.names := hI.out.at_some.1 (by rw [← hwn.out, hwj])
    replace hwj := hid hwj
    obtain ⟨dvj, _, hnj⟩ := hR4.out.node j ⟨_, hj⟩
    have c0j : w4.cell? ⟨A j, 0, none⟩ = some (.int .i64 (T.nd j).kind) := cell_of hnj rfl
    by_cases hjk : (T.nd j).kind = 2
    ·have hjk2 : ((T.nd j).kind == 2) = true := by simpa using hjk
     replace hjk := hid hjk
     replace hj := hid hj
     replace hnj := hid hnj
     go_wp2
     go_ret
     have e1 : res = (T, 13) := by rw [hres.out]; unfold Fs.ren3; rw [if_neg (fun h => hk.out h.1), if_neg (fun h => h hle.out), if_neg (fun h => hk.out h.1), if_neg (fun h => hk.out h.1), hwj.out]; exact if_pos hjk.out
     rw [e1]
     exact ⟨rfl, Stp.same hR.out hB04⟩
    ·have hjk2 : ((T.nd j).kind == 2) = false := by simpa using hjk
     by_cases hij : j = i
     ·subst hij
      have hptr := fun W : World => run_eql_ptr_same (P := Tryz.prog) W ⟨A j, 0, none⟩ Tryz.underlying80 info_node
      replace hjk := hid hjk
      replace hj := hid hj
      replace hnj := hid hnj
      go_wp2
      go_ret
      have e1 : res = (T, 0) := by rw [hres.out]; unfold Fs.ren3; rw [if_neg (fun h => hk.out h.1), if_neg (fun h => h hle.out), if_neg (fun h => hk.out h.1), if_neg (fun h => hk.out h.1), hwj.out]; exact (if_neg hjk.out).trans (if_pos rfl)
      rw [e1]
      exact ⟨rfl, Stp.same hR.out hB04⟩
     ·obtain ⟨dvi4, _, hni4⟩ := hR4.out.node i ⟨_, hi.out⟩
      have hptr := run_eql_ptr_other (P := Tryz.prog) w4 (a := ⟨A j, 0, none⟩) (b := ⟨A i, 0, none⟩) Tryz.underlying80 info_node node_size (fun e => hij (hR4.out.injA j i ⟨_, hj⟩ ⟨_, hi.out⟩ (by simpa using e))) hnj hni4
      have hT := ren_over hR4.out (by omega) hp0.out hf hdm.out hdk.out hj hjk (moves_over hI.out hr1.out ho0.out hp0.out hi.out hdm.out hdk.out hj hjk hij hk.out).2 hfm.out hfk.out
      unfold RenTail at hT
      replace hT := hid hT
      replace hjk := hid hjk
      replace hj := hid hj
      replace hij := hid hij
      clear hnj hni4
      go_wp2_with fail
      refine hT.out.mono ?_
      rintro e w5 ⟨rfl, cf, w6, hd6, cd6, w7, hs7, hst⟩
      replace hst := hid hst
      replace hd6 := hid hd6
      replace hs7 := hid hs7
      replace cd6 := hid cd6
      clear hT
      go_wp2_with fail
      refine wp_region_still_tail 6 (by kernel_rfl) (by kernel_rfl) ?_
      simp only [List.take_succ_cons, List.take_zero, List.drop_succ_cons, List.drop_zero]
      iterate 5 still_step
      still_call ((hb1.out w5.drew).mono fun e w' hh => ⟨hh.1, hh.2.symm⟩)
      refine wpStill_nil ?_
      change wpList _ _ _ _ _ w5.drew
      refine wp_drop _ rfl _ _ 85 9 rfl (.map (some (M f))) (.string (mkS (base (bl o)))) rfl rfl w6 hd6.out ?_
      have cd7 := cd6.out
      clear cf
      go_wp2_with fail
      refine wp_region_still_tail 7 (by kernel_rfl) (by kernel_rfl) ?_
      simp only [List.take_succ_cons, List.take_zero, List.drop_succ_cons, List.drop_zero]
      iterate 5 still_step
      still_call ((hb2.out w6.drew).mono fun e w' hh => ⟨hh.1, hh.2.symm⟩)
      still_step
      refine wpStill_nil ?_
      change wpList _ _ _ _ _ w6.drew
      refine wp_store _ rfl _ _ _ 85 rfl (.map (some (M d))) (.string (mkS (base (bl p)))) (.pointer (some ⟨A i, 0, none⟩)) rfl rfl rfl w7 hs7.out ?_
      go_wp2
      go_ret
      have e1 : res = ((T.gone (split (bl p)) j).move (split (bl o)) (split (bl p)), 0) := by rw [hres.out]; unfold Fs.ren3; rw [if_neg (fun h => hk.out h.1), if_neg (fun h => h hle.out), if_neg (fun h => hk.out h.1), if_neg (fun h => hk.out h.1), hwj.out]; exact (if_neg hjk.out).trans (if_neg hij.out)
      rw [e1]
      exact ⟨rfl, hst.out.after hB04⟩
  ·have hle2 : (le != 0) = true := by simpa using hle
   replace hle := hid hle
   go_wp2
   go_ret
   have e1 : res = (T, le) := by rw [hres.out]; unfold Fs.ren3; rw [if_neg (fun h => hk.out h.1), if_pos hle.out]
   rw [e1]
   exact ⟨rfl, Stp.same hR.out hB04⟩
set_option maxHeartbeats 4000000 in
set_option maxRecDepth 100000 in
theorem rename_calls (tb : Nat) (A M : Nat → Nat) (T : Fs) (o p : ByteArray) (w : World) (hR : Rep w tb A M T) (ho : o.size ≤ 1000000) (hp : p.size ≤ 1000000) (hf : T.names.length ≤ 1000000) :
  Calls Tryz.prog 42 #[ptr tb, .string o, .string p] w fun e w' => e = .returned (.int .i64 (T.rename (bl o) (bl p)).2) ∧ Stp w w' tb A M T (T.rename (bl o) (bl p)).1 := by
 have h0 := fun W => right_calls o W (by omega)
 have h1 := fun W => right_calls p W (by omega)
 have h2 := fun W hW => there_calls tb A M T o W hW (by omega)
 have h3 := fun W hW => look_calls tb A M T p W hW (by omega)
 have h4 := fun W => under_calls p o W (by omega) (by omega)
 have hb1 := fun W => base_calls o W (by unfold maxLen; omega)
 have hb2 := fun W => base_calls p W (by unfold maxLen; omega)
 have hto := hR.inv.there_ok (s := bl o)
 have hlo := hR.inv.look_ok (s := bl p)
 have hno := str_nil o
 have hnp := str_nil p
 have hne := hid (str_same p o)
 have hres : T.rename (bl o) (bl p) = T.rename (bl o) (bl p) := rfl
 conv at hres => rhs; unfold Fs.rename
 generalize T.rename (bl o) (bl p) = res at *
 generalize T.there (bl o) = th at *
 obtain ⟨n, dd, te⟩ := th
 generalize T.look (bl p) = lk at *
 obtain ⟨wn, wd, le⟩ := lk
 have hI := hR.inv
 unfold ptr at *
 dsimp only at *
 replace h0 := hid h0
 replace h1 := hid h1
 replace h2 := hid h2
 replace h3 := hid h3
 replace h4 := hid h4
 replace hb1 := hid hb1
 replace hb2 := hid hb2
 replace hR := hid hR
 replace hI := hid hI
 replace hto := hid hto
 replace hlo := hid hlo
 replace hres := hid hres
 cases hr0 : right (bl o) with
 | false =>
  rw [hr0] at h0
  replace hr0 := hid hr0
  clear hne hno hnp
  go_enter Tryz.func42, Tryz.ntmps42
  go_wp2_with fail
  refine (h0.out _).mono ?_
  rintro e w1 ⟨rfl, hB1⟩
  go_wp2
  go_ret
  have e1 : res = (T, 9) := by rw [hres.out]; rw [if_pos (Or.inl hr0.out)]
  rw [e1]
  exact ⟨rfl, Stp.same hR.out hB1⟩
 | true =>
  rw [hr0] at h0
  replace hr0 := hid hr0
  cases hr1 : right (bl p) with
  | false =>
   rw [hr1] at h1
   replace hr1 := hid hr1
   clear hne hno hnp
   go_enter Tryz.func42, Tryz.ntmps42
   go_wp2_with fail
   refine (h0.out _).mono ?_
   rintro e w1 ⟨rfl, hB1⟩
   go_wp2_with fail
   refine (h1.out _).mono ?_
   rintro e w2 ⟨rfl, hB2⟩
   go_wp2
   go_ret
   have e1 : res = (T, 9) := by rw [hres.out]; rw [if_pos (Or.inr hr1.out)]
   rw [e1]
   exact ⟨rfl, Stp.same hR.out (below_step hB1 hB2)⟩
  | true =>
   rw [hr1] at h1
   replace hr1 := hid hr1
   replace hres : Hid (res = T.ren2 (bl o) (bl p) n te wn le) := by
    have e := hres.out
    rw [if_neg (by simp [hr0.out, hr1.out])] at e
    exact hid e
   by_cases ho0 : bl o = []
   ·rw [ho0] at hno
    replace ho0 := hid ho0
    have hno2 : o.toList.isEmpty = true := by rw [hno]; rfl
    clear hno hnp hne
    go_enter Tryz.func42, Tryz.ntmps42
    go_wp2_with fail
    refine (h0.out _).mono ?_
    rintro e w1 ⟨rfl, hB1⟩
    go_wp2_with fail
    refine (h1.out _).mono ?_
    rintro e w2 ⟨rfl, hB2⟩
    go_wp2
    go_ret
    have e1 : res = (T, 2) := by rw [hres.out]; unfold Fs.ren2; rw [if_pos (Or.inl ho0.out)]
    rw [e1]
    exact ⟨rfl, Stp.same hR.out (below_step hB1 hB2)⟩
   ·have hno2 : o.toList.isEmpty = false := by rw [hno]; simpa using ho0
    clear hno
    replace ho0 := hid ho0
    by_cases hp0 : bl p = []
    ·have hnp2 : p.toList.isEmpty = true := by rw [hnp, hp0]; rfl
     clear hnp hne
     replace hp0 := hid hp0
     go_enter Tryz.func42, Tryz.ntmps42
     go_wp2_with fail
     refine (h0.out _).mono ?_
     rintro e w1 ⟨rfl, hB1⟩
     go_wp2_with fail
     refine (h1.out _).mono ?_
     rintro e w2 ⟨rfl, hB2⟩
     go_wp2
     go_ret
     have e1 : res = (T, 2) := by rw [hres.out]; unfold Fs.ren2; rw [if_pos (Or.inr hp0.out)]
     rw [e1]
     exact ⟨rfl, Stp.same hR.out (below_step hB1 hB2)⟩
    ·have hnp2 : p.toList.isEmpty = false := by rw [hnp]; simpa using hp0
     clear hnp
     replace hp0 := hid hp0
     by_cases he : te = 0
     ·subst he
      obtain ⟨_, i, rfl, hi, hc⟩ := hto.out rfl
      rcases hc with ⟨hc, _⟩ | ⟨_, f, rfl, hfm, hfk⟩
      ·exact absurd hc ho0.out
      replace hres : Hid (res = T.ren3 (bl o) (bl p) i wn le) := by
       have e := hres.out
       unfold Fs.ren2 at e
       rw [if_neg (by simp [ho0.out, hp0.out]), if_neg (by simp)] at e
       exact hid e
      exact ren_main tb A M T o p w res i f wn wd le hR.out h0 h1 h2 h3 h4 hb1 hb2 hI hi hfm hfk hlo ho0 hp0 hno2 hnp2 hne hr0 hr1 ho hp hf hres
     ·have he2 : (te != 0) = true := by simpa using he
      clear hne
      replace he := hid he
      go_enter Tryz.func42, Tryz.ntmps42
      go_wp2_with fail
      refine (h0.out _).mono ?_
      rintro e w1 ⟨rfl, hB1⟩
      go_wp2_with fail
      refine (h1.out _).mono ?_
      rintro e w2 ⟨rfl, hB2⟩
      have hB12 := below_step hB1 hB2
      go_wp2_with fail
      refine (h2.out _ (hR.out.below hB12)).mono ?_
      rintro e w3 ⟨rfl, hB3⟩
      go_wp2
      go_ret
      have e1 : res = (T, te) := by rw [hres.out]; unfold Fs.ren2; rw [if_neg (by simp [ho0.out, hp0.out]), if_pos he.out]
      rw [e1]
      exact ⟨rfl, Stp.same hR.out (below_step hB12 hB3)⟩
end Go.Proofs.YtcjlfkklpghjbaaGreat

namespace Go.Proofs.YtcjlfkklpghjbaaGreat
open Go.RowKit
theorem sortP_of_perm {l l' : List Bytes} (h : l.Perm l') : sortP l = sortP l' := sortP_eq ((sortP_perm l).trans h) (sortP_sorted l)
def Fs.paths (T : Fs) : List Bytes := sortP ((T.below []).map fun y => glue y.1)
/-- The names of a path's thing. -/
def Fs.nameList (T : Fs) (s : Bytes) : List Bytes :=
  if (T.there s).2.2 ≠ 0 ∨ s = [] then [] else match (T.there s).1 with
  | none => []
  | some i => if (T.nd i).kind = 1 then sortP (((T.below []).filter fun y => y.2 = i).map fun y => glue y.1) else [s]
/-- What a closure that collects texts keeps: the texts, in a row of its own from block B on; beside it plain variables that stay. -/
structure LInv (tb : Nat) (A M : Nat → Nat) (T : Fs) (B c : Nat) (F : List (Bytes × Nat) → List Bytes) (xs : List (Nat × Value)) (D : List (Bytes × Nat)) (W : World) : Prop where
  rep : Rep W tb A M T
  low : ∀ b, Own tb A M T b → b < B
  cB : c < B
  BW : B ≤ W.heap.size
  row : ∃ v, W.heap[c]? = some (.cells #[v] 62 (0, 0)) ∧ Strs B W v (F D)
  others : ∀ x ∈ xs, x.1 < B ∧ W.heap[x.1]? = some (.cells #[x.2] 80 (0, 0))
theorem strs_block_type {B : Nat} {W : World} {v : Value} {l : List Bytes} {b : Nat} (h : Strs B W v l) (hb : v.ownBlock = some b) : B ≤ b ∧ b < W.heap.size ∧ ∃ cur, W.heap[b]? = some (.cells cur 9 (0, 0)) := by
 rcases h.block with ⟨_, rfl, _⟩ | ⟨g, c, pad, rfl, h1, h2, _⟩
 ·cases hb
 ·cases hb
  exact ⟨h1, (Array.getElem?_eq_some_iff.1 h2).1, _, h2⟩
variable {tb : Nat} {A M : Nat → Nat} {T : Fs} {B c : Nat} {F : List (Bytes × Nat) → List Bytes} {xs : List (Nat × Value)} {D D' : List (Bytes × Nat)}
theorem LInv.lt {W : World} (h : LInv tb A M T B c F xs D W) {b : Nat} (hb : Cap c W b) : b < W.heap.size := by
 obtain ⟨v, h1, h2⟩ := h.row
 rcases hb with rfl | ⟨u, hu, hb⟩
 ·exact Nat.lt_of_lt_of_le h.cB h.BW
 ·rw [cell_of (j := 0) h1 rfl] at hu
  cases hu
  exact (strs_block_type h2 hb).2.1
theorem LInv.below {W W' : World} (h : LInv tb A M T B c F xs D W) (hb : Below W.heap.size W W') : LInv tb A M T B c F xs D W' := by
 obtain ⟨v, h1, h2⟩ := h.row
 exact ⟨h.rep.below hb, h.low, h.cB, Nat.le_trans h.BW hb.size, ⟨v, (hb.block c (Nat.lt_of_lt_of_le h.cB h.BW)).trans h1, own_below h2 hb⟩,
  fun x hx => ⟨(h.others x hx).1, (hb.block _ (Nat.lt_of_lt_of_le (h.others x hx).1 h.BW)).trans (h.others x hx).2⟩⟩
/-- Nothing is kept. -/
theorem LInv.skip {W : World} (h : LInv tb A M T B c F xs D W) (hF : F D' = F D) : LInv tb A M T B c F xs D' W :=
 ⟨h.rep, h.low, h.cB, h.BW, by rw [hF]; exact h.row, h.others⟩
/-- A text more. -/
theorem LInv.more {W w1 : World} (h : LInv tb A M T B c F xs D W) {v v1 : Value} {q : Bytes} (hc : W.heap[c]? = some (.cells #[v] 62 (0, 0))) (hO : Strs B W v (F D)) (hg : W.grownBy w1 v.ownBlock)
  (hO1 : Strs B w1 v1 (F D ++ [q])) (hat : v1.ownBlock = v.ownBlock ∨ ∃ b, v1.ownBlock = some b ∧ W.heap.size ≤ b) (hF : F D' = F D ++ [q]) :
  LInv tb A M T B c F xs D' (w1.setCell ⟨c, 0, none⟩ v1) ∧ Turn W (w1.setCell ⟨c, 0, none⟩ v1) (Cap c W) ∧ (∀ b, Cap c (w1.setCell ⟨c, 0, none⟩ v1) b → Cap c W b ∨ W.heap.size ≤ b) ∧
   w1.cell? ⟨c, 0, none⟩ = some v ∧ w1.frozen? ⟨c, 0, none⟩ = false := by
 have hcW := Nat.lt_of_lt_of_le h.cB h.BW
 have hrow : ∀ b, v.ownBlock = some b → B ≤ b ∧ ∃ cur, W.heap[b]? = some (.cells cur 9 (0, 0)) := fun b hb => ⟨(strs_block_type hO hb).1, (strs_block_type hO hb).2.2⟩
 have hc1 : w1.heap[c]? = some (.cells #[v] 62 (0, 0)) := (hg.block c hcW (fun e => by have := (hrow c e.symm).1; have := h.cB; omega)).trans hc
 have hc2 : (w1.setCell ⟨c, 0, none⟩ v1).heap[c]? = some (.cells #[v1] 62 (0, 0)) := heap_set_same hc1 0 v1
 have hcap : ∀ b, v.ownBlock = some b → Cap c W b := fun b hb => Or.inr ⟨v, cell_of hc rfl, hb⟩
 have ht : Turn W (w1.setCell ⟨c, 0, none⟩ v1) (Cap c W) := turn_set (Turn.of_grown hg (fun j e => hcap j e)) (Or.inl rfl) _ _
 have hno : ∀ b, Own tb A M T b → ¬ Cap c W b := by
  rintro b ho (rfl | ⟨u, hu, hb⟩)
  ·exact h.rep.not_own hc (by decide) (by decide) ho
  ·rw [cell_of (j := 0) hc rfl] at hu
   cases hu
   have := (hrow b hb).1
   have := h.low b ho
   omega
 have hR : Rep (w1.setCell ⟨c, 0, none⟩ v1) tb A M T := h.rep.kept (fun b ho => ht.block b (h.rep.lt ho) (hno b ho)) (by
  rintro g ⟨cs, hgc⟩
  refine ht.block g (Array.getElem?_eq_some_iff.1 hgc).1 ?_
  rintro (rfl | ⟨u, hu, hb⟩)
  ·rw [hc] at hgc; simp at hgc
  ·rw [cell_of (j := 0) hc rfl] at hu
   cases hu
   obtain ⟨_, cur, h3⟩ := hrow g hb
   rw [hgc] at h3
   simp at h3)
 have hO2 : Strs B (w1.setCell ⟨c, 0, none⟩ v1) v1 (F D ++ [q]) := by
  refine own_kept hO1 (row := some c) ⟨rfl, rfl, rfl, by rw [heap_set_size]; exact Nat.le_refl _, fun k hk hne => heap_set_other w1 (fun e => hne (by rw [e])) 0 v1⟩ (fun b hb => ?_)
  intro e
  cases e
  have := (strs_block_type hO1 hb).1
  have := h.cB
  omega
 refine ⟨⟨hR, h.low, h.cB, Nat.le_trans h.BW ht.size, ⟨v1, hc2, by rw [hF]; exact hO2⟩, fun x hx => ?_⟩, ht, ?_, cell_of hc1 rfl, by simp [World.frozen?, hc1]⟩
 ·obtain ⟨g1, g2⟩ := h.others x hx
  refine ⟨g1, (ht.block _ (Nat.lt_of_lt_of_le g1 h.BW) ?_).trans g2⟩
  rintro (e | ⟨u, hu, hb⟩)
  ·rw [e, hc] at g2
   simp at g2
  ·rw [cell_of (j := 0) hc rfl] at hu
   cases hu
   have := (hrow _ hb).1
   omega
 ·rintro b (rfl | ⟨u, hu, hb⟩)
  ·exact Or.inl (Or.inl rfl)
  ·rw [cell_of (j := 0) hc2 rfl] at hu
   cases hu
   have hb2 : v1.ownBlock = some b := hb
   rcases hat with e | ⟨b', e, h4⟩
   ·exact Or.inl (hcap b (by rw [← e]; exact hb2))
   ·rw [e] at hb2
    cases hb2
    exact Or.inr h4
def PathsF (D : List (Bytes × Nat)) : List Bytes := D.map (·.1)
def NamesF (i : Nat) (D : List (Bytes × Nat)) : List Bytes := (D.filter fun y => y.2 = i).map (·.1)
set_option maxHeartbeats 1000000 in
set_option maxRecDepth 100000 in
theorem paths_teller (tb : Nat) (A M : Nat → Nat) (T : Fs) (B c : Nat) : Teller tb A M T 59 #[ptr c] c (LInv tb A M T B c PathsF []) := by
 refine ⟨fun args W => run_enter Tryz.func59 (by kernel_rfl) rfl args W, fun h => h.rep, fun h hb => h.lt hb, fun h hb => h.below hb, fun {D W q j} h hD hq hj => ?_⟩
 obtain ⟨v, hc, hO⟩ := h.row
 have hl : (PathsF D).length = D.length := by simp [PathsF]
 have hmore := fun v1 w1 => h.more (D' := D ++ [(q, j)]) (v1 := v1) (w1 := w1) (q := q) hc hO
 have hF : PathsF (D ++ [(q, j)]) = PathsF D ++ [q] := by simp [PathsF]
 obtain ⟨A', c', rfl, _, _⟩ := hO.rd.shape
 have c0 : W.cell? ⟨c, 0, none⟩ = some (.slice A' (PathsF D).length c') := cell_of hc rfl
 have hBW := h.BW
 generalize PathsF D = l at *
 replace hmore := hid hmore
 replace hO := hid hO
 replace hF := hid hF
 replace hl := hid hl
 clear h hc
 unfold ptr
 go_enter Tryz.func59, Tryz.ntmps59
 go_wp2_with (at_builtin; refine wp_append1 B rfl (.tmp 5) (.tmp 7) 62 9 rfl Tryz.underlying62 (.string ⟨#[]⟩) 1 16 info_string rfl (by decide) (.slice A' l.length c') l.length (strs l) rfl [.string (mkS q)] rfl hO.out.own rfl ?_ ?_ ?_ ?_ ?_)
 ·simp [Value.oneCell']
 ·have := hl.out; simp [maxLen]; omega
 ·have := hl.out; omega
 ·exact hBW
 ·intro v1 w1 ho1 hg1 hat
  obtain ⟨A1, c1, rfl, _, _⟩ := own_shape ho1
  obtain ⟨g1, g2, g3, g4, g5⟩   := hmore.out _ w1 hg1 (Strs.snoc ho1) hat hF.out
  replace g1 := hid g1
  replace g2 := hid g2
  replace g3 := hid g3
  clear hmore ho1 hg1 hat
  go_wp2
  go_end0
  exact ⟨rfl, g1.out, g2.out, g3.out⟩
set_option maxHeartbeats 1000000 in
set_option maxRecDepth 100000 in
theorem paths_calls (tb : Nat) (A M : Nat → Nat) (T : Fs) (w : World) (hR : Rep w tb A M T) (hf : T.names.length ≤ 1000000) :
  Calls Tryz.prog 24 #[ptr tb] w fun e w' => (∃ v, e = .returned v ∧ Strs w.heap.size w' v T.paths) ∧ Below w.heap.size w w' := by
 have hI := hR.inv
 have hbf := below_few T []
 have hB0 : ∀ o, Below w.heap.size w (w.alloc o) := fun o => (Below.refl _ _).alloc (Nat.le_refl _) _
 have hblk := (MapKept.heap_alloc w (.cells #[.slice none 0 0] 62)).1
 have hR1 := hR.below (hB0 (.cells #[.slice none 0 0] 62))
 have hE := each_calls (paths_teller tb A M T (w.heap.size + 1) w.heap.size) hf 12 [] 1 [] [] (w.alloc (.cells #[.slice none 0 0] 62)) hI.one hI.topKind (fun t j hm => (hI.pth _ _ hm).few) (by simp) (by simp; omega)
  ⟨hR1, fun b hb => Nat.lt_succ_of_lt (hR.lt hb), Nat.lt_succ_self _, by simp, ⟨_, hblk, World.ownsRow_nil _ _ _ _⟩, by simp⟩
 have c0 : w.cell? ⟨tb, 0, none⟩ = some (ptr (A 1)) := cell_of hR.tree rfl
 have htl : tb < w.heap.size := hR.lt (Or.inl rfl)
 have hsz : ∀ y ∈ T.below [], (glue y.1).length ≤ 16777216 := by
  intro y hy
  obtain ⟨s, hs1, hs2⟩ := hI.pth _ _ (mem_below.1 (show (y.1, y.2) ∈ T.below [] from hy)).2
  rw [List.nil_append] at hs2
  rw [← hs2, glue_split]
  simp only [right, Bool.and_eq_true, decide_eq_true_eq] at hs1
  omega
 unfold ptr at *
 rw [show mkS [] = ⟨#[]⟩ from rfl] at hE
 replace hE := hid hE
 replace hR1 := hid hR1
 replace hR := hid hR
 replace hblk := hid hblk
 replace hsz := hid hsz
 go_enter Tryz.func24, Tryz.ntmps24
 go_wp2_with fail
 refine hE.out.mono ?_
 rintro e w1 ⟨rfl, L, hL, hInv, hT, _⟩
 obtain ⟨v, hcv, hOv⟩ := hInv.row
 have hcell : w1.cell? ⟨w.heap.size, 0, none⟩ = some v := cell_of hcv rfl
 have hB : Below w.heap.size w w1 := by
  refine (hB0 _).trans ⟨hT.os, hT.tape, hT.output, hT.size, fun k hk => hT.block k (by simp; omega) ?_⟩
  intro hc
  rw [cap_plain (cell_of hblk.out rfl) rfl] at hc
  omega
 have hLm : PathsF ([] ++ L) = L.map (·.1) := rfl
 have hLp : (L.map (·.1)).Perm ((T.below []).map fun y => glue y.1) := by
  have := hL.map (·.1)
  rw [List.map_map] at this
  exact this
 have hS := sort_calls v (PathsF ([] ++ L)) w1 hOv.rd (by rw [hLm, hLp.length_eq, List.length_map]; omega) (by
  rw [hLm]
  intro y hy
  obtain ⟨z, hz, rfl⟩ := List.mem_map.1 (hLp.mem_iff.1 hy)
  exact hsz.out z hz)
 rw [hLm, sortP_of_perm hLp] at hS
 replace hS := hid hS
 replace hB := hid hB
 clear hInv hT hL hcv hOv hLp hLm
 go_wp2_with fail
 refine hS.out.mono ?_
 rintro e w2 ⟨⟨v2, rfl, hO2⟩, hB2⟩
 go_wp2
 go_ret
 exact ⟨⟨v2, rfl, own_low hO2 hB.out.size⟩, below_step hB.out hB2⟩
end Go.Proofs.YtcjlfkklpghjbaaGreat

namespace Go.Proofs.YtcjlfkklpghjbaaGreat
open Go.RowKit
set_option maxHeartbeats 2000000 in
set_option maxRecDepth 100000 in
theorem names_teller (tb : Nat) (A M : Nat → Nat) (T : Fs) (B c cn i : Nat) (hi : T.Live i) : Teller tb A M T 107 #[ptr cn, ptr c] c (LInv tb A M T B c (NamesF i) [(cn, ptr (A i))]) := by
 refine ⟨fun args W => run_enter Tryz.func107 (by kernel_rfl) rfl args W, fun h => h.rep, fun h hb => h.lt hb, fun h hb => h.below hb, fun {D W q j} h hD hq hj => ?_⟩
 obtain ⟨v, hc, hO⟩ := h.row
 have hl : (NamesF i D).length ≤ D.length := by simp only [NamesF, List.length_map]; exact List.length_filter_le _ _
 have hcn := (h.others (cn, ptr (A i)) (by simp)).2
 have cn0 : W.cell? ⟨cn, 0, none⟩ = some (.pointer (some ⟨A i, 0, none⟩)) := cell_of hcn rfl
 obtain ⟨A', c', rfl, _, _⟩ := hO.rd.shape
 have c0 : W.cell? ⟨c, 0, none⟩ = some (.slice A' (NamesF i D).length c') := cell_of hc rfl
 have hBW := h.BW
 unfold ptr
 by_cases hij : j = i
 ·subst hij
  have hF : NamesF j (D ++ [(q, j)]) = NamesF j D ++ [q] := by simp [NamesF]
  have hmore := fun v1 w1 => h.more (D' := D ++ [(q, j)]) (v1 := v1) (w1 := w1) (q := q) hc hO
  have hptr := fun W : World => run_eql_ptr_same (P := Tryz.prog) W ⟨A j, 0, none⟩ Tryz.underlying80 info_node
  generalize hll : NamesF j D = l at *
  replace hll := hid hll
  replace hmore := hid hmore
  replace hO := hid hO
  replace hF := hid hF
  replace hl := hid hl
  clear h hc hcn
  go_enter Tryz.func107, Tryz.ntmps107
  go_wp2_with (at_builtin; refine wp_append1 B rfl (.tmp 9) (.tmp 11) 62 9 rfl Tryz.underlying62 (.string ⟨#[]⟩) 1 16 info_string rfl (by decide) (.slice A' l.length c') l.length (strs l) rfl [.string (mkS q)] rfl hO.out.own rfl ?_ ?_ ?_ ?_ ?_)
  ·simp [Value.oneCell']
  ·have := hl.out; simp [maxLen]; omega
  ·have := hl.out; omega
  ·exact hBW
  ·intro v1 w1 ho1 hg1 hat
   obtain ⟨A1, c1, rfl, _, _⟩ := own_shape ho1
   obtain ⟨g1, g2, g3, g4, g5⟩ := hmore.out _ w1 hg1 (Strs.snoc ho1) hat hF.out
   replace g1 := hid g1
   replace g2 := hid g2
   replace g3 := hid g3
   clear hmore ho1 hg1 hat
   go_wp2
   go_end0
   exact ⟨rfl, g1.out, g2.out, g3.out⟩
 ·have hF : NamesF i (D ++ [(q, j)]) = NamesF i D := by simp [NamesF, hij]
  have hsk := h.skip (D' := D ++ [(q, j)]) hF
  obtain ⟨dvi, _, hni⟩ := h.rep.node i hi
  obtain ⟨dvj, _, hnj⟩ := h.rep.node j hj
  have hptr := run_eql_ptr_other (P := Tryz.prog) W (a := ⟨A j, 0, none⟩) (b := ⟨A i, 0, none⟩) Tryz.underlying80 info_node node_size (fun e => hij (h.rep.injA j i hj hi (by simpa using e))) hnj hni
  replace hsk := hid hsk
  replace hij := hid hij
  clear h hc hcn hF hni hnj hO
  go_enter Tryz.func107, Tryz.ntmps107
  go_wp2
  go_end0
  exact ⟨rfl, hsk.out, Turn.refl _ _, fun b hb => Or.inl hb⟩
theorem top_nil {T : Fs} (hI : T.Inv) {p : Pt} (h : (p, 1) ∈ T.names) : p = [] := hI.dir_one hI.one h hI.topKind
theorem names_below (w1 : World) (p : Value) (nq : Nat) : Below w1.heap.size w1 (((w1.alloc (.cells #[p] 80)).drewN nq).alloc (.cells #[.slice none 0 0] 62)) :=
 below_alloc (below_drewN (below_alloc (Below.refl _ _) _) nq) _
theorem names_block (w1 : World) (p : Value) (nq : Nat) : (((w1.alloc (.cells #[p] 80)).drewN nq).alloc (.cells #[.slice none 0 0] 62)).heap[w1.heap.size + 1]? = some (.cells #[.slice none 0 0] 62 (0, 0)) := by
 have := (MapKept.heap_alloc ((w1.alloc (.cells #[p] 80)).drewN nq) (.cells #[.slice none 0 0] 62)).1
 rwa [show ((w1.alloc (.cells #[p] 80)).drewN nq).heap.size = w1.heap.size + 1 by simp] at this
theorem names_start {tb : Nat} {A M : Nat → Nat} {T : Fs} {w1 : World} (hR : Rep w1 tb A M T) (i nq : Nat) :
  LInv tb A M T (w1.heap.size + 2) (w1.heap.size + 1) (NamesF i) [(w1.heap.size, ptr (A i))] [] (((w1.alloc (.cells #[.pointer (some ⟨A i, 0, none⟩)] 80)).drewN nq).alloc (.cells #[.slice none 0 0] 62)) := by
 have hB := names_below w1 (.pointer (some ⟨A i, 0, none⟩)) nq
 refine ⟨hR.below hB, fun b hb => ?_, by omega, by simp, ⟨_, names_block w1 _ nq, World.ownsRow_nil _ _ _ _⟩, ?_⟩
 ·have := hR.lt hb
  omega
 ·intro x hx
  obtain rfl := List.mem_singleton.1 hx
  refine ⟨by omega, ?_⟩
  have h0 := (MapKept.heap_alloc w1 (.cells #[.pointer (some ⟨A i, 0, none⟩)] 80)).1
  refine (Below.block (B := w1.heap.size + 1) (w := (w1.alloc (.cells #[.pointer (some ⟨A i, 0, none⟩)] 80)).drewN nq) ?_ w1.heap.size (by omega)).trans h0
  exact (Below.refl _ _).alloc (by simp) _
set_option maxHeartbeats 4000000 in
set_option maxRecDepth 100000 in
theorem namesof_calls (tb : Nat) (A M : Nat → Nat) (T : Fs) (s : ByteArray) (w : World) (hR : Rep w tb A M T) (hs : s.size ≤ 16777216) (hf : T.names.length ≤ 1000000) :
  Calls Tryz.prog 68 #[ptr tb, .string s] w fun e w' => (∃ v, e = .returned v ∧ Strs w.heap.size w' v (T.nameList (bl s))) ∧ Below w.heap.size w w' := by
 have hI := hR.inv
 have h1 := fun W hW => there_calls tb A M T s W hW hs
 have hto := hI.there_ok (s := bl s)
 have c0 : ∀ W, Rep W tb A M T → W.cell? ⟨tb, 0, none⟩ = some (ptr (A 1)) := fun W hW => cell_of hW.tree rfl
 unfold Fs.nameList
 generalize T.there (bl s) = th at *
 obtain ⟨n, dd, te⟩ := th
 unfold ptr at *
 dsimp only at *
 replace hR := hid hR
 replace c0 := hid c0
 by_cases he : te = 0
 ·subst he
  obtain ⟨hr, i, rfl, hi, hc⟩ := hto rfl
  dsimp only
  replace h1 := hid h1
  by_cases hnil : bl s = []
  ·rw [if_pos (Or.inr hnil)]
   have : i = 1 := hI.at_one hi (by rw [hnil]; exact hI.one)
   subst this
   have hptr := fun W : World => run_eql_ptr_same (P := Tryz.prog) W ⟨A 1, 0, none⟩ Tryz.underlying80 info_node
   clear hto hi hc hnil hr
   replace hI := hid hI
   go_enter Tryz.func68, Tryz.ntmps68
   go_wp2_with fail
   refine (h1.out _ hR.out).mono ?_
   rintro e w1 ⟨rfl, hB1⟩
   rw [optPtr_some]
   have hR1 := hR.out.below hB1
   have c01 := c0.out _ hR1
   have hlt := hR1.lt (Or.inl rfl)
   replace hR1 := hid hR1
   go_wp2_with fail
   go_quiet (fail)
   go_wp2
   go_ret
   exact ⟨⟨_, rfl, World.ownsRow_nil _ _ _ _⟩, below_drewN (below_alloc hB1 _) _⟩
  ·rw [if_neg (by simp [hnil])]
   have hi1 : i ≠ 1 := fun e => by
    subst e
    exact hnil (split_eq_nil (top_nil hI hi))
   by_cases hk : (T.nd i).kind = 1
   ·rw [if_pos hk]
    have hbf := below_few T []
    have hsz : ∀ y ∈ T.below [], (glue y.1).length ≤ 16777216 := by
     intro y hy
     obtain ⟨s, hs1, hs2⟩ := hI.pth _ _ (mem_below.1 (show (y.1, y.2) ∈ T.below [] from hy)).2
     rw [List.nil_append] at hs2
     rw [← hs2, glue_split]
     simp only [right, Bool.and_eq_true, decide_eq_true_eq] at hs1
     omega
    clear hto hc hnil hr
    replace hI := hid hI
    replace hsz := hid hsz
    go_enter Tryz.func68, Tryz.ntmps68
    go_wp2_with fail
    refine (h1.out _ hR.out).mono ?_
    rintro e w1 ⟨rfl, hB1⟩
    rw [optPtr_some]
    have hR1 := hR.out.below hB1
    have c01 := c0.out _ hR1
    obtain ⟨dvi, _, hni⟩ := hR1.node i ⟨_, hi⟩
    obtain ⟨dv1, _, hn1⟩ := hR1.node 1 ⟨_, hI.out.one⟩
    have c0i : w1.cell? ⟨A i, 0, none⟩ = some (.int .i64 (T.nd i).kind) := cell_of hni rfl
    rw [hk] at c0i
    have hlt := hR1.lt (Or.inl rfl)
    have hli := hR1.lt (Or.inr (Or.inl ⟨i, ⟨_, hi⟩, rfl⟩))
    have hptr := fun n : Nat => run_eql_ptr_other (P := Tryz.prog) ((w1.alloc (.cells #[.pointer (some ⟨A i, 0, none⟩)] 80)).drewN n) (a := ⟨A i, 0, none⟩) (b := ⟨A 1, 0, none⟩) Tryz.underlying80 info_node node_size (fun e => hi1 (hR1.injA i 1 ⟨_, hi⟩ ⟨_, hI.out.one⟩ (by simpa using e))) (((Below.refl w1.heap.size w1).alloc (Nat.le_refl _) _).block _ hli |>.trans hni) (((Below.refl w1.heap.size w1).alloc (Nat.le_refl _) _).block _ (hR1.lt (Or.inr (Or.inl ⟨1, ⟨_, hI.out.one⟩, rfl⟩))) |>.trans hn1)
    replace hR1 := hid hR1
    replace hni := hid hni
    replace hn1 := hid hn1
    replace hi := hid hi
    have hE := fun nq : Nat => each_calls (names_teller tb A M T (w1.heap.size + 2) (w1.heap.size + 1) w1.heap.size i ⟨_, hi.out⟩) hf 12 [] 1 [] [] (((w1.alloc (.cells #[.pointer (some ⟨A i, 0, none⟩)] 80)).drewN nq).alloc (.cells #[.slice none 0 0] 62)) hI.out.one hI.out.topKind (fun t j hm => (hI.out.pth _ _ hm).few) (by simp) (by simp; omega)
     (names_start hR1.out i nq)
    have hB1a := fun nq : Nat => names_below w1 (.pointer (some ⟨A i, 0, none⟩)) nq
    have hblk := fun nq : Nat => names_block w1 (.pointer (some ⟨A i, 0, none⟩)) nq
    unfold ptr at hE
    rw [show mkS [] = ⟨#[]⟩ from rfl] at hE
    replace hE := hid hE
    replace hB1a := hid hB1a
    replace hblk := hid hblk
    go_wp2_with fail
    go_quiet (fail)
    go_wp2_with fail
    refine (hE.out nq).mono ?_
    rintro e w2 ⟨rfl, L, hL, hInv, hT, _⟩
    obtain ⟨v, hcv, hOv⟩ := hInv.row
    have hcell : w2.cell? ⟨w1.heap.size + 1, 0, none⟩ = some v := cell_of hcv rfl
    have hB : Below w1.heap.size w1 w2 := by
     refine (hB1a.out nq).trans ⟨hT.os, hT.tape, hT.output, hT.size, fun k hk => hT.block k (by simp; omega) ?_⟩
     intro hc
     rw [cap_plain (cell_of (hblk.out nq) rfl) rfl] at hc
     omega
    have hLp : (NamesF i ([] ++ L)).Perm (((T.below []).filter fun y => y.2 = i).map fun y => glue y.1) := by
     rw [List.nil_append]
     have := (hL.filter (fun y => y.2 = i)).map (·.1)
     unfold NamesF
     refine this.trans (List.Perm.of_eq ?_)
     rw [List.filter_map, List.map_map]
     rfl
    have hlen2 : (((T.below []).filter fun y => y.2 = i).map fun y => glue y.1).length ≤ (T.below []).length := by rw [List.length_map]; exact List.length_filter_le _ _
    have hS := sort_calls v (NamesF i ([] ++ L)) w2 hOv.rd (by rw [hLp.length_eq]; omega) (by
     intro y hy
     obtain ⟨z, hz, rfl⟩ := List.mem_map.1 (hLp.mem_iff.1 hy)
     exact hsz.out z (List.mem_filter.1 hz).1)
    rw [sortP_of_perm hLp] at hS
    replace hS := hid hS
    replace hB := hid hB
    clear hInv hT hL hcv hOv hLp
    go_wp2_with fail
    refine hS.out.mono ?_
    rintro e w3 ⟨⟨v2, rfl, hO2⟩, hB2⟩
    go_wp2
    go_ret
    exact ⟨⟨v2, rfl, own_low hO2 (Nat.le_trans hB1.size hB.out.size)⟩, below_step (below_step hB1 hB.out) hB2⟩
   ·rw [if_neg hk]
    have hk2 : ((T.nd i).kind != 1) = true := by simpa using hk
    clear hto hc hnil hr hk
    replace hI := hid hI
    go_enter Tryz.func68, Tryz.ntmps68
    go_wp2_with fail
    refine (h1.out _ hR.out).mono ?_
    rintro e w1 ⟨rfl, hB1⟩
    rw [optPtr_some]
    have hR1 := hR.out.below hB1
    have hRa := hR1.below ((Below.refl w1.heap.size w1).alloc (Nat.le_refl _) (.cells #[.pointer (some ⟨A i, 0, none⟩)] 80))
    have c01 := c0.out _ hR1
    obtain ⟨dvi, _, hni⟩ := hR1.node i ⟨_, hi⟩
    obtain ⟨dv1, _, hn1⟩ := hR1.node 1 ⟨_, hI.out.one⟩
    have c0i : w1.cell? ⟨A i, 0, none⟩ = some (.int .i64 (T.nd i).kind) := cell_of hni rfl
    have hlt := hR1.lt (Or.inl rfl)
    have hli := hR1.lt (Or.inr (Or.inl ⟨i, ⟨_, hi⟩, rfl⟩))
    have hptr := fun n : Nat => run_eql_ptr_other (P := Tryz.prog) ((w1.alloc (.cells #[.pointer (some ⟨A i, 0, none⟩)] 80)).drewN n) (a := ⟨A i, 0, none⟩) (b := ⟨A 1, 0, none⟩) Tryz.underlying80 info_node node_size (fun e => hi1 (hR1.injA i 1 ⟨_, hi⟩ ⟨_, hI.out.one⟩ (by simpa using e))) (((Below.refl w1.heap.size w1).alloc (Nat.le_refl _) _).block _ hli |>.trans hni) (((Below.refl w1.heap.size w1).alloc (Nat.le_refl _) _).block _ (hR1.lt (Or.inr (Or.inl ⟨1, ⟨_, hI.out.one⟩, rfl⟩))) |>.trans hn1)
    replace hR1 := hid hR1
    replace hRa := hid hRa
    replace hni := hid hni
    replace hn1 := hid hn1
    replace hi := hid hi
    go_wp2_with fail
    go_quiet (fail)
    go_wp2
    go_ret
    have hBq := below_drewN (below_alloc hB1 (.cells #[.pointer (some ⟨A i, 0, none⟩)] 80)) nq
    have hO := own_made ((w1.alloc (.cells #[.pointer (some ⟨A i, 0, none⟩)] 80)).drewN nq) w.heap.size 9 1 1 [.string s] hBq.size rfl (by simp [maxLen])
    have hs1 : strs [bl s] = [.string s] := by simp [strs, mkS_bl]
    have e1 : ((w1.alloc (.cells #[.pointer (some ⟨A i, 0, none⟩)] 80)).drewN nq).heap.size = w1.heap.size + 1 := by simp
    rw [e1] at hO
    exact ⟨⟨.slice (some ⟨w1.heap.size + 1, 0, none⟩) 1 1, rfl, by unfold Strs; rw [hs1]; exact hO⟩, below_alloc hBq _⟩
 ·rw [if_pos (Or.inl he)]
  have he2 : (te != 0) = true := by simpa using he
  clear hto he
  replace hI := hid hI
  cases n with
  | none =>
   rw [optPtr_none] at h1
   replace h1 := hid h1
   go_enter Tryz.func68, Tryz.ntmps68
   go_wp2_with fail
   refine (h1.out _ hR.out).mono ?_
   rintro e w1 ⟨rfl, hB1⟩
   go_wp2_with fail
   go_quiet (fail)
   go_wp2
   go_ret
   exact ⟨⟨_, rfl, World.ownsRow_nil _ _ _ _⟩, below_drewN (below_alloc hB1 _) _⟩
  | some n =>
   rw [optPtr_some] at h1
   replace h1 := hid h1
   go_enter Tryz.func68, Tryz.ntmps68
   go_wp2_with fail
   refine (h1.out _ hR.out).mono ?_
   rintro e w1 ⟨rfl, hB1⟩
   go_wp2_with fail
   go_quiet (fail)
   go_wp2
   go_ret
   exact ⟨⟨_, rfl, World.ownsRow_nil _ _ _ _⟩, below_drewN (below_alloc hB1 _) _⟩
end Go.Proofs.YtcjlfkklpghjbaaGreat

namespace Go.Proofs.YtcjlfkklpghjbaaGreat
open Go.RowKit
/-- Which thing has which copy, as the map that the program keeps has it. -/
def metL (A C : Nat → Nat) (Dn : List Nat) : List (Value × Value) := Dn.map fun j => (ptr (A j), ptr (C j))
/-- The copy of a thing is whole. -/
structure Fin1 (w : World) (C MC : Nat → Nat) (T : Fs) (j : Nat) : Prop where
  node : ∃ dv, Dat w dv (T.nd j).data ∧ w.heap[C j]? = some (.cells (nodeCells (T.nd j) j dv (kidsV (T.nd j) (MC j))) 87 (0, 0))
  kids : ∀ q, (q, j) ∈ T.names → (T.nd j).kind = 2 → MapIs w (MC j) (entries C (T.kids q))
/-- The copies of New lie in blocks that came between w and w', each in its own. -/
structure Fresh1 (w w' : World) (C MC : Nat → Nat) (T : Fs) (New : List Nat) : Prop where
  node : ∀ j ∈ New, w.heap.size ≤ C j ∧ C j < w'.heap.size
  kids : ∀ j ∈ New, (T.nd j).kind = 2 → w.heap.size ≤ MC j ∧ MC j < w'.heap.size
  injC : ∀ i ∈ New, ∀ j ∈ New, C i = C j → i = j
  injM : ∀ i ∈ New, ∀ j ∈ New, (T.nd i).kind = 2 → (T.nd j).kind = 2 → MC i = MC j → i = j
/-- What copied leaves. -/
structure CopyDone (w w' : World) (A C MC : Nat → Nat) (T : Fs) (mb : Nat) (p : Pt) (i : Nat) (Dn : List Nat) (C' MC' : Nat → Nat) (New : List Nat) : Prop where
  mem : i ∈ Dn ++ New
  old : ∀ j ∈ Dn, C' j = C j ∧ MC' j = MC j
  met : MapIs w' mb (metL A C' (Dn ++ New))
  fin : ∀ j ∈ New, Fin1 w' C' MC' T j ∧ ∃ t, (p ++ t, j) ∈ T.names
  fresh : Fresh1 w w' C' MC' T New
  cov : ∀ t j, (p ++ t, j) ∈ T.names → j ∈ Dn ++ New
  turn : Turn w w' (fun b => b = mb)
structure CpInv (w wr : World) (A C MC : Nat → Nat) (T : Fs) (mb cb m : Nat) (p : Pt) (i : Nat) (Dn : List Nat) (K1 : List (Bytes × Nat)) (C1 MC1 : Nat → Nat) (New1 : List Nat) : Prop where
  old : ∀ j ∈ Dn, C1 j = C j ∧ MC1 j = MC j
  ci : C1 i = cb
  mi : MC1 i = m
  met : MapIs wr mb (metL A C1 (Dn ++ i :: New1))
  node : ∃ dv, Dat wr dv (T.nd i).data ∧ wr.heap[cb]? = some (.cells (nodeCells (T.nd i) i dv (.map (some m))) 87 (0, 0))
  map : MapIs wr m (entries C1 K1)
  kin : ∀ x ∈ K1, x.2 ∈ Dn ++ i :: New1
  fin : ∀ j ∈ New1, Fin1 wr C1 MC1 T j ∧ ∃ y ∈ K1, ∃ t, (p ++ y.1 :: t, j) ∈ T.names
  fresh : Fresh1 w wr C1 MC1 T (i :: New1)
  cov : ∀ x ∈ K1, ∀ t j, (p ++ x.1 :: t, j) ∈ T.names → j ∈ Dn ++ i :: New1
  turn : Turn w wr (fun b => b = mb)
theorem entries_congr {C C' : Nat → Nat} {l : List (Bytes × Nat)} (h : ∀ x ∈ l, C' x.2 = C x.2) : entries C' l = entries C l := List.map_congr_left fun x hx => by rw [h x hx]
section
variable {w w2 w' : World} {A C MC : Nat → Nat} {T : Fs} {mb cb m : Nat} {p : Pt} {i : Nat} {Dn : List Nat} {C' MC' : Nat → Nat} {New : List Nat}
theorem Fin1.turn (h : Fin1 w C MC T i) {S : Nat → Prop} (ht : Turn w w' S) (hC : ¬ S (C i)) (hM : (T.nd i).kind = 2 → ¬ S (MC i)) (hb : ∀ g cs, w.heap[g]? = some (Obj.cells cs 5 (0, 0)) → ¬ S g) : Fin1 w' C MC T i := by
 obtain ⟨⟨dv, h1, h2⟩, h3⟩ := h
 refine ⟨⟨dv, h1.kept fun g ⟨cs, hg⟩ => ht.block g (Array.getElem?_eq_some_iff.1 hg).1 (hb g cs hg), (ht.block _ (Array.getElem?_eq_some_iff.1 h2).1 hC).trans h2⟩, fun q hq hk => ?_⟩
 have := h3 q hq hk
 exact this.of_block (ht.block _ this.lt (hM hk))
theorem Fin1.congr (h : Fin1 w C MC T i) (h1 : C' i = C i) (h2 : MC' i = MC i) (hk : ∀ q, (q, i) ∈ T.names → (T.nd i).kind = 2 → ∀ x ∈ T.kids q, C' x.2 = C x.2) : Fin1 w C' MC' T i := by
 obtain ⟨h3, h4⟩ := h
 exact ⟨by rw [h1, h2]; exact h3, fun q hq h2k => by rw [h2, entries_congr (hk q hq h2k)]; exact h4 q hq h2k⟩
/-- A file's copy, or a link's. -/
theorem copy_leaf (hI : T.Inv) (hi : (p, i) ∈ T.names) (hk : (T.nd i).kind ≠ 2) (hold : ∀ j ∈ Dn, C' j = C j ∧ MC' j = MC j) (hm : MapIs w' mb (metL A C' (Dn ++ [i]))) {dv : Value} (h1 : Dat w' dv (T.nd i).data)
  (h2 : w'.heap[C' i]? = some (.cells (nodeCells (T.nd i) i dv (.map none)) 87 (0, 0))) (h3 : w.heap.size ≤ C' i) (ht : Turn w w' (fun b => b = mb)) : CopyDone w w' A C MC T mb p i Dn C' MC' [i] := by
 refine ⟨by simp, hold, hm, ?_, ⟨?_, ?_, ?_, ?_⟩, ?_, ht⟩
 ·intro j hj
  obtain rfl := List.mem_singleton.1 hj
  refine ⟨⟨⟨dv, h1, ?_⟩, fun q _ h => absurd h hk⟩, [], by simpa using hi⟩
  rw [kidsV, if_neg hk]
  exact h2
 ·intro j hj
  obtain rfl := List.mem_singleton.1 hj
  exact ⟨h3, (Array.getElem?_eq_some_iff.1 h2).1⟩
 ·intro j hj h
  obtain rfl := List.mem_singleton.1 hj
  exact absurd h hk
 ·intro a ha b hb _
  rw [List.mem_singleton.1 ha, List.mem_singleton.1 hb]
 ·intro a ha b hb _ _ _
  rw [List.mem_singleton.1 ha, List.mem_singleton.1 hb]
 ·intro t j hm
  by_cases h : t = []
  ·subst h
   rw [List.append_nil] at hm
   have := hI.at_one hm hi
   subst this
   simp
  ·have := hI.at_below t h (p := p) (fun j hj => by rw [hI.at_some.2 hi] at hj; cases hj; exact hk)
   rw [hI.at_some.2 hm] at this
   cases this
/-- One that is copied already. -/
theorem copy_again (hI : T.Inv) (hi : (p, i) ∈ T.names) (hk : (T.nd i).kind ≠ 2) (hin : i ∈ Dn) (hm : MapIs w mb (metL A C Dn)) : CopyDone w w A C MC T mb p i Dn C MC [] := by
 refine ⟨by simpa using hin, fun _ _ => ⟨rfl, rfl⟩, by simpa using hm, by simp, ⟨by simp, by simp, by simp, by simp⟩, ?_, Turn.refl _ _⟩
 intro t j hm
 by_cases h : t = []
 ·subst h
  rw [List.append_nil] at hm
  have := hI.at_one hm hi
  subst this
  simpa using hin
 ·have := hI.at_below t h (p := p) (fun j hj => by rw [hI.at_some.2 hi] at hj; cases hj; exact hk)
  rw [hI.at_some.2 hm] at this
  cases this
end
end Go.Proofs.YtcjlfkklpghjbaaGreat

namespace Go.Proofs.YtcjlfkklpghjbaaGreat
open Go.RowKit
section
variable {w w2 w3 w4 : World} {A C MC : Nat → Nat} {T : Fs} {mb cb m : Nat} {p : Pt} {i : Nat} {Dn : List Nat} {K1 : List (Bytes × Nat)} {C1 MC1 C2 MC2 : Nat → Nat} {New1 New2 : List Nat}
theorem nodup_of_map {α β : Type} {f : α → β} {l : List α} (h : (l.map f).Nodup) : l.Nodup := by
 rw [List.Nodup, List.pairwise_map] at h
 exact h.imp fun h e => h (by rw [e])
theorem metL_nodup {b : Nat} {D : List Nat} (h : MapIs w b (metL A C D)) : D.Nodup := by
 have := h.nodup
 unfold metL at this
 rw [List.map_map] at this
 exact nodup_of_map this
theorem map_ne_cells {w : World} {b b' : Nat} {l : List (Value × Value)} {cs : Array Value} {t : TypeId} {f : Nat × Nat} (h : MapIs w b l) (h2 : w.heap[b']? = some (.cells cs t f)) : b' ≠ b := by
 rintro rfl
 obtain ⟨es, c, h3, _⟩ := h
 rw [h2] at h3
 cases h3
/-- Blocks that hold neither cells nor a map may turn. -/
theorem CpInv.other (h : CpInv w w2 A C MC T mb cb m p i Dn K1 C1 MC1 New1) {S : Nat → Prop} (ht : Turn w2 w3 S) (hS : ∀ b, S b → w.heap.size ≤ b ∧ (∀ cs t, w2.heap[b]? ≠ some (Obj.cells cs t (0, 0))) ∧ ∀ es c, w2.heap[b]? ≠ some (Obj.map es c)) : CpInv w w3 A C MC T mb cb m p i Dn K1 C1 MC1 New1 := by
 have hmap : ∀ {b l}, MapIs w2 b l → MapIs w3 b l := fun {b l} hb => hb.of_block (ht.block _ hb.lt fun hs => by
  obtain ⟨es, c, h1, _⟩ := hb
  exact (hS _ hs).2.2 es c h1)
 have hcell : ∀ {b : Nat} {cs t}, w2.heap[b]? = some (Obj.cells cs t (0, 0)) → w3.heap[b]? = some (Obj.cells cs t (0, 0)) := fun {b cs t} hb => (ht.block _ (Array.getElem?_eq_some_iff.1 hb).1 fun hs => (hS _ hs).2.1 cs t hb).trans hb
 have hby : ∀ g : Nat, (∃ cs, w2.heap[g]? = some (Obj.cells cs 5 (0, 0))) → w3.heap[g]? = w2.heap[g]? := fun g ⟨cs, hg⟩ => (hcell hg).trans hg.symm
 obtain ⟨dv, h1, h2⟩ := h.node
 refine ⟨h.old, h.ci, h.mi, hmap h.met, ⟨dv, h1.kept hby, hcell h2⟩, hmap h.map, h.kin, fun j hj => ?_, ?_, h.cov, ?_⟩
 ·obtain ⟨⟨⟨dv, g1, g2⟩, g3⟩, g4⟩ := h.fin j hj
  exact ⟨⟨⟨dv, g1.kept hby, hcell g2⟩, fun q hq hk => hmap (g3 q hq hk)⟩, g4⟩
 ·exact ⟨fun j hj => ⟨(h.fresh.node j hj).1, Nat.lt_of_lt_of_le (h.fresh.node j hj).2 ht.size⟩, fun j hj hk => ⟨(h.fresh.kids j hj hk).1, Nat.lt_of_lt_of_le (h.fresh.kids j hj hk).2 ht.size⟩, h.fresh.injC, h.fresh.injM⟩
 ·exact h.turn.trans (ht.mono fun b _ hs => Or.inr (hS b hs).1)
theorem cp_step (hI : T.Inv) (hp : (p, i) ∈ T.names) (hik : (T.nd i).kind = 2) (hmb : mb < w.heap.size) (h : CpInv w w2 A C MC T mb cb m p i Dn K1 C1 MC1 New1) {x : Bytes} {k : Nat}
  (hd : CopyDone w2 w3 A C1 MC1 T mb (p ++ [x]) k (Dn ++ i :: New1) C2 MC2 New2) :
  MapIs w3 m (entries C2 K1) ∧ (∃ dv, Dat w3 dv (T.nd i).data ∧ w3.heap[cb]? = some (.cells (nodeCells (T.nd i) i dv (.map (some m))) 87 (0, 0))) ∧
   ∀ w4, MapIs w4 m (entries C2 (K1 ++ [(x, k)])) → Turn w3 w4 (fun b => b = m) → CpInv w w4 A C MC T mb cb m p i Dn (K1 ++ [(x, k)]) C2 MC2 (New1 ++ New2) := by
 have hC : ∀ j ∈ Dn ++ i :: New1, C2 j = C1 j ∧ MC2 j = MC1 j := hd.old
 have hi : i ∈ Dn ++ i :: New1 := by simp
 have hnew : ∀ j ∈ New1, j ∈ Dn ++ i :: New1 := fun j hj => by simp [hj]
 have hnd := metL_nodup h.met
 have hiN : i ∉ New1 := (List.nodup_cons.1 (List.nodup_append.1 hnd).2.1).1
 have hfi := h.fresh.kids i (List.mem_cons_self ..) hik
 rw [h.mi] at hfi
 have hci := (h.fresh.node i (List.mem_cons_self ..)).1
 rw [h.ci] at hci
 have hww2 : w.heap.size ≤ w2.heap.size := h.turn.size
 have hw23 : w2.heap.size ≤ w3.heap.size := hd.turn.size
 have hmm : m ≠ mb := by omega
 have hcm : cb ≠ mb := by omega
 have hent : entries C2 K1 = entries C1 K1 := entries_congr fun y hy => (hC _ (h.kin y hy)).1
 have hm3 : MapIs w3 m (entries C2 K1) := by
  rw [hent]
  exact h.map.of_block (hd.turn.block _ h.map.lt hmm)
 have hby : ∀ g : Nat, (∃ cs, w2.heap[g]? = some (Obj.cells cs 5 (0, 0))) → w3.heap[g]? = w2.heap[g]? := fun g ⟨cs, hg⟩ => hd.turn.block g (Array.getElem?_eq_some_iff.1 hg).1 (map_ne_cells h.met hg)
 have hn3 : ∃ dv, Dat w3 dv (T.nd i).data ∧ w3.heap[cb]? = some (.cells (nodeCells (T.nd i) i dv (.map (some m))) 87 (0, 0)) := by
  obtain ⟨dv, h1, h2⟩ := h.node
  exact ⟨dv, h1.kept hby, (hd.turn.block _ (Array.getElem?_eq_some_iff.1 h2).1 hcm).trans h2⟩
 refine ⟨hm3, hn3, fun w4 hm4 ht => ?_⟩
 have hw34 := ht.size
 have hby4 : ∀ g cs, w3.heap[g]? = some (Obj.cells cs 5 (0, 0)) → g ≠ m := fun g cs hg => map_ne_cells hm3 hg
 refine ⟨?_, ?_, ?_, ?_, ?_, hm4, ?_, ?_, ?_, ?_, ?_⟩
 ·intro j hj
  have h1 := hC j (List.mem_append_left _ hj)
  rw [h1.1, h1.2]
  exact h.old j hj
 ·rw [(hC i hi).1, h.ci]
 ·rw [(hC i hi).2, h.mi]
 ·have := hd.met.of_block (ht.block mb hd.met.lt (Ne.symm hmm))
  simpa using this
 ·obtain ⟨dv, h1, h2⟩ := hn3
  exact ⟨dv, h1.kept fun g ⟨cs, hg⟩ => ht.block g (Array.getElem?_eq_some_iff.1 hg).1 (hby4 g cs hg), (ht.block _ (Array.getElem?_eq_some_iff.1 h2).1 (map_ne_cells hm3 h2)).trans h2⟩
 ·intro y hy
  rcases List.mem_append.1 hy with hy | hy
  ·have := h.kin y hy
   simp only [List.mem_append, List.mem_cons] at this ⊢
   grind
  ·obtain rfl := List.mem_singleton.1 hy
   have := hd.mem
   simp only [List.mem_append, List.mem_cons] at this ⊢
   grind
 ·intro j hj
  rcases List.mem_append.1 hj with hj | hj
  ·obtain ⟨h1, y, hy, t, hyt⟩ := h.fin j hj
   refine ⟨?_, y, List.mem_append_left _ hy, t, hyt⟩
   have h2 : Fin1 w2 C2 MC2 T j := h1.congr (hC j (hnew j hj)).1 (hC j (hnew j hj)).2 (fun q hq hk2 z hz => by
    refine (hC z.2 ?_).1
    have hq2 := hI.dir_one hyt hq hk2
    subst hq2
    have : ((p ++ y.1 :: t) ++ [z.1], z.2) ∈ T.names := mem_kidsL.1 (show (z.1, z.2) ∈ T.kids _ from hz)
    exact h.cov y hy (t ++ [z.1]) z.2 (by simpa using this))
   have hb1 := h.fresh.node j (List.mem_cons_of_mem _ hj)
   have h3 : Fin1 w3 C2 MC2 T j := h2.turn hd.turn (by rw [(hC j (hnew j hj)).1]; omega) (fun hk2 => by
    have := h.fresh.kids j (List.mem_cons_of_mem _ hj) hk2
    rw [(hC j (hnew j hj)).2]
    omega) (fun g cs hg => map_ne_cells h.met hg)
   refine h3.turn ht ?_ (fun hk2 => ?_) hby4
   ·obtain ⟨⟨dv, _, h4⟩, _⟩ := h3
    exact map_ne_cells hm3 h4
   ·rw [(hC j (hnew j hj)).2]
    intro e
    have := h.fresh.injM j (List.mem_cons_of_mem _ hj) i (List.mem_cons_self ..) hk2 hik (by rw [e, h.mi])
    subst this
    exact hiN hj
  ·obtain ⟨h1, t, ht1⟩ := hd.fin j hj
   refine ⟨h1.turn ht ?_ (fun hk2 => ?_) hby4, (x, k), by simp, t, by simpa using ht1⟩
   ·obtain ⟨⟨dv, _, h4⟩, _⟩ := h1
    exact map_ne_cells hm3 h4
   ·have := hd.fresh.kids j hj hk2
    omega
 ·have hmem : ∀ j ∈ i :: (New1 ++ New2), j ∈ i :: New1 ∨ j ∈ New2 := fun j hj => by
   simp only [List.mem_append, List.mem_cons] at hj ⊢
   grind
  have hin : ∀ j ∈ i :: New1, j ∈ Dn ++ i :: New1 := fun j hj => List.mem_append_right _ hj
  refine ⟨?_, ?_, ?_, ?_⟩
  ·intro j hj
   rcases hmem j hj with h1 | h1
   ·have := h.fresh.node j h1
    rw [(hC j (hin j h1)).1]
    omega
   ·have := hd.fresh.node j h1
    omega
  ·intro j hj hk2
   rcases hmem j hj with h1 | h1
   ·have := h.fresh.kids j h1 hk2
    rw [(hC j (hin j h1)).2]
    omega
   ·have := hd.fresh.kids j h1 hk2
    omega
  ·intro a ha b hb e
   rcases hmem a ha with h1 | h1 <;> rcases hmem b hb with h2 | h2
   ·rw [(hC a (hin a h1)).1, (hC b (hin b h2)).1] at e
    exact h.fresh.injC a h1 b h2 e
   ·rw [(hC a (hin a h1)).1] at e
    have := h.fresh.node a h1
    have := hd.fresh.node b h2
    omega
   ·rw [(hC b (hin b h2)).1] at e
    have := h.fresh.node b h2
    have := hd.fresh.node a h1
    omega
   ·exact hd.fresh.injC a h1 b h2 e
  ·intro a ha b hb hka hkb e
   rcases hmem a ha with h1 | h1 <;> rcases hmem b hb with h2 | h2
   ·rw [(hC a (hin a h1)).2, (hC b (hin b h2)).2] at e
    exact h.fresh.injM a h1 b h2 hka hkb e
   ·rw [(hC a (hin a h1)).2] at e
    have := h.fresh.kids a h1 hka
    have := hd.fresh.kids b h2 hkb
    omega
   ·rw [(hC b (hin b h2)).2] at e
    have := h.fresh.kids b h2 hkb
    have := hd.fresh.kids a h1 hka
    omega
   ·exact hd.fresh.injM a h1 b h2 hka hkb e
 ·intro y hy t j hm
  rcases List.mem_append.1 hy with hy | hy
  ·have := h.cov y hy t j hm
   simp only [List.mem_append, List.mem_cons] at this ⊢
   grind
  ·obtain rfl := List.mem_singleton.1 hy
   have := hd.cov t j (by simpa using hm)
   simp only [List.mem_append, List.mem_cons] at this ⊢
   grind
 ·refine (h.turn.trans (hd.turn.mono fun b _ hb => Or.inl hb)).trans (ht.mono fun b _ hb => Or.inr ?_)
  rw [hb]
  exact hfi.1
/-- .. and its beginning, and its end. -/
theorem cp_start (hiD : i ∉ Dn) (hm : MapIs w2 mb (metL A (upd C i cb) (Dn ++ [i]))) {dv : Value} (h1 : Dat w2 dv (T.nd i).data)
  (h2 : w2.heap[cb]? = some (.cells (nodeCells (T.nd i) i dv (.map (some m))) 87 (0, 0))) (h3 : w.heap.size ≤ cb) (h4 : MapIs w2 m []) (h5 : w.heap.size ≤ m) (ht : Turn w w2 (fun b => b = mb)) :
  CpInv w w2 A C MC T mb cb m p i Dn [] (upd C i cb) (upd MC i m) [] := by
 refine ⟨fun j hj => ?_, upd_same .., upd_same .., hm, ⟨dv, h1, h2⟩, h4, by simp, by simp, ⟨?_, ?_, ?_, ?_⟩, by simp, ht⟩
 ·have : j ≠ i := fun e => hiD (e ▸ hj)
  exact ⟨upd_other _ _ _ this, upd_other _ _ _ this⟩
 ·intro j hj
  obtain rfl := List.mem_singleton.1 hj
  rw [upd_same]
  exact ⟨h3, (Array.getElem?_eq_some_iff.1 h2).1⟩
 ·intro j hj _
  obtain rfl := List.mem_singleton.1 hj
  rw [upd_same]
  exact ⟨h5, h4.lt⟩
 ·intro a ha b hb _
  rw [List.mem_singleton.1 ha, List.mem_singleton.1 hb]
 ·intro a ha b hb _ _ _
  rw [List.mem_singleton.1 ha, List.mem_singleton.1 hb]
theorem cp_end (hI : T.Inv) (hp : (p, i) ∈ T.names) (hik : (T.nd i).kind = 2) (h : CpInv w w2 A C MC T mb cb m p i Dn K1 C1 MC1 New1) (hK : (T.kids p).Perm K1) : CopyDone w w2 A C MC T mb p i Dn C1 MC1 (i :: New1) := by
 refine ⟨by simp, h.old, h.met, ?_, h.fresh, ?_, h.turn⟩
 ·intro j hj
  rcases List.mem_cons.1 hj with rfl | hj
  ·refine ⟨⟨?_, fun q hq hk => ?_⟩, [], by simpa using hp⟩
   ·obtain ⟨dv, h1, h2⟩ := h.node
    refine ⟨dv, h1, ?_⟩
    rw [h.ci, kidsV, if_pos hik, h.mi]
    exact h2
   ·have := hI.dir_one hp hq hk
    subst this
    rw [h.mi]
    exact h.map.perm (hK.map _)
  ·obtain ⟨h1, y, _, t, h2⟩ := h.fin j hj
   exact ⟨h1, y.1 :: t, h2⟩
 ·intro t j hm
  cases t with
  | nil =>
   rw [List.append_nil] at hm
   have := hI.at_one hm hp
   subst this
   simp
  | cons x t =>
   obtain ⟨k, hk⟩ := hI.above (r := p ++ [x]) (t := t) (i := j) (by simpa using hm)
   have := h.cov (x, k) (hK.mem_iff.1 (mem_kidsL.2 hk)) t j hm
   exact this
end
end Go.Proofs.YtcjlfkklpghjbaaGreat

namespace Go.Proofs.YtcjlfkklpghjbaaGreat
open Go.RowKit
theorem under_met : Tryz.prog.underlying 102 = some (.map 80 80) := Tryz.underlying102
theorem Rep.ptrAt {w : World} {tb : Nat} {A M : Nat → Nat} {T : Fs} (h : Rep w tb A M T) {i : Nat} (hi : T.Live i) : PtrAt w (ptr (A i)) := by
 obtain ⟨dv, _, h2⟩ := h.node i hi
 exact ⟨_, _, _, rfl, h2⟩
theorem met_key {w : World} {tb : Nat} {A M C : Nat → Nat} {T : Fs} (h : Rep w tb A M T) {i : Nat} (hi : T.Live i) {Dn : List Nat} (hD : ∀ j ∈ Dn, T.Live j) : Keyable Tryz.prog 80 w (ptr (A i)) ((metL A C Dn).map (·.1)) := by
 refine keyable_ptr Tryz.underlying80 info_node node_size (h.ptrAt hi) ?_
 intro v hv
 unfold metL at hv
 rw [List.map_map] at hv
 obtain ⟨j, hj, rfl⟩ := List.mem_map.1 hv
 exact h.ptrAt (hD j hj)
theorem met_hit {w : World} {tb : Nat} {A M C : Nat → Nat} {T : Fs} {mb i : Nat} {Dn : List Nat} (h : Rep w tb A M T) (hi : T.Live i) (hD : ∀ j ∈ Dn, T.Live j) (hm : MapIs w mb (metL A C Dn)) (hin : i ∈ Dn) :
  (Instr.lookup 102 (.map (some mb)) (ptr (A i)) true).run Tryz.prog w = .ok (.tuple #[ptr (C i), .bool true]) w :=
 hm.look_hit under_met (met_key h hi hD) (List.mem_map.2 ⟨i, hin, rfl⟩) true
theorem met_none {tb : Nat} {A M C : Nat → Nat} {T : Fs} {w : World} {i : Nat} {Dn : List Nat} (h : Rep w tb A M T) (hi : T.Live i) (hD : ∀ j ∈ Dn, T.Live j) (hin : i ∉ Dn) : ∀ q ∈ metL A C Dn, q.1 ≠ ptr (A i) := by
 intro q hq e
 obtain ⟨j, hj, rfl⟩ := List.mem_map.1 hq
 have : A j = A i := by
  simp only [ptr] at e
  injection e with e
  injection e with e
  injection e
 rw [h.injA j i (hD j hj) hi this] at hj
 exact hin hj
theorem met_miss {w : World} {tb : Nat} {A M C : Nat → Nat} {T : Fs} {mb i : Nat} {Dn : List Nat} (h : Rep w tb A M T) (hi : T.Live i) (hD : ∀ j ∈ Dn, T.Live j) (hm : MapIs w mb (metL A C Dn)) (hin : i ∉ Dn) :
  (Instr.lookup 102 (.map (some mb)) (ptr (A i)) true).run Tryz.prog w = .ok (.tuple #[.pointer none, .bool false]) w :=
 hm.look_miss under_met (met_key h hi hD) (met_none h hi hD hin) (zero_node w) true
theorem metL_snoc {A C : Nat → Nat} {i cb : Nat} {Dn : List Nat} (hin : i ∉ Dn) : metL A (upd C i cb) (Dn ++ [i]) = metL A C Dn ++ [(ptr (A i), ptr cb)] := by
 unfold metL
 rw [List.map_append, List.map_singleton, upd_same]
 congr 1
 refine List.map_congr_left fun j hj => ?_
 rw [upd_other C i cb (show j ≠ i from fun e => hin (e ▸ hj))]
theorem met_store {w : World} {tb : Nat} {A M C : Nat → Nat} {T : Fs} {mb i cb : Nat} {Dn : List Nat} (h : Rep w tb A M T) (hi : T.Live i) (hD : ∀ j ∈ Dn, T.Live j) (hm : MapIs w mb (metL A C Dn)) (hin : i ∉ Dn) :
  ∃ w', (Instr.mapUpdate 102 (.map (some mb)) (ptr (A i)) (ptr cb)).run Tryz.prog w = .ok () w' ∧ MapIs w' mb (metL A (upd C i cb) (Dn ++ [i])) ∧ w.mapTurned w' mb := by
 obtain ⟨w', h1, h2, h3⟩ := hm.store_new under_met (v := ptr cb) (met_key h hi hD) (met_none h hi hD hin)
 refine ⟨w', h1, h2.perm ?_, h3⟩
 rw [metL_snoc hin]
 exact List.perm_append_singleton _ _
theorem ret_ptr {a b : Nat} (h : a = b) : Ending.returned (.pointer (some ⟨a, 0, none⟩)) = .returned (.pointer (some ⟨b, 0, none⟩)) := by rw [h]
theorem run_makeMap_hint {P : Program} {t k e : TypeId} (ht : P.underlying t = some (.map k e)) (n : Int) (w : World) : (Instr.makeMap t (some (.int .i64 n))).run P w = .ok (.map (some w.heap.size)) (w.alloc (.map #[] 0)) := by
 simp [Instr.makeMap, run_underlying ht, Result.andThen, asInt, asIntOf]
def CopyPost (w : World) (A C MC : Nat → Nat) (T : Fs) (mb : Nat) (p : Pt) (i : Nat) (Dn : List Nat) (e : Ending) (w' : World) : Prop :=
  ∃ C' MC' New, e = .returned (.pointer (some ⟨C' i, 0, none⟩)) ∧ CopyDone w w' A C MC T mb p i Dn C' MC' New
theorem Fs.Inv.kids_nodup {T : Fs} (h : T.Inv) (p : Pt) : ((T.kids p).map (·.1)).Nodup := kidsL_nodup h.nodup p
theorem copied_dir_start {w w3 : World} {A M C MC : Nat → Nat} {T : Fs} {mb cb i : Nat} {p : Pt} {Dn : List Nat} {dv : Value} (hmlt : mb < w.heap.size) (hin : i ∉ Dn)
  (hbm : M i ≠ cb) (hm3 : MapIs w3 mb (metL A (upd C i cb) (Dn ++ [i]))) (hDt3 : Dat w3 dv (T.nd i).data) (hblk3 : w3.heap[cb]? = some (.cells (nodeCells (T.nd i) i dv (.map none)) 87 (0, 0))) (hcbw : w.heap.size ≤ cb) (hT3 : Turn w w3 (fun b => b = mb))
  (hM3 : MapIs w3 (M i) (entries A (T.kids p))) :
  CpInv w ((w3.setCell ⟨cb, 11, none⟩ (.map (some w3.heap.size))).alloc (.map #[] 0)) A C MC T mb cb w3.heap.size p i Dn [] (upd C i cb) (upd MC i w3.heap.size) [] ∧ MapIs ((w3.setCell ⟨cb, 11, none⟩ (.map (some w3.heap.size))).alloc (.map #[] 0)) (M i) (entries A (T.kids p)) ∧
   ((w3.setCell ⟨cb, 11, none⟩ (.map (some w3.heap.size))).alloc (.map #[] 0)).heap.size = w3.heap.size + 1 := by
 have hlt3 := (Array.getElem?_eq_some_iff.1 hblk3).1
 have hsz : (w3.setCell ⟨cb, 11, none⟩ (.map (some w3.heap.size))).heap.size = w3.heap.size := heap_set_size _ _ _
 have hTs : Turn w3 ((w3.setCell ⟨cb, 11, none⟩ (.map (some w3.heap.size))).alloc (.map #[] 0)) (fun b => b = cb) := by
  refine (turn_set (S := fun b => b = cb) (Turn.refl w3 _) rfl 11 (.map (some w3.heap.size))).trans ?_
  exact Turn.of_below ((Below.refl _ _).alloc (Nat.le_refl _) _) _
 have hkeep : ∀ b, b < w3.heap.size → b ≠ cb → ((w3.setCell ⟨cb, 11, none⟩ (.map (some w3.heap.size))).alloc (.map #[] 0)).heap[b]? = w3.heap[b]? := fun b h1 h2 => hTs.block b h1 h2
 have hblka : ((w3.setCell ⟨cb, 11, none⟩ (.map (some w3.heap.size))).alloc (.map #[] 0)).heap[cb]? = some (.cells ((nodeCells (T.nd i) i dv (.map none)).setIfInBounds 11 (.map (some w3.heap.size))) 87 (0, 0)) :=
  (Below.block ((Below.refl _ _).alloc (Nat.le_refl _) _) cb (by rw [hsz]; exact hlt3)).trans (heap_set_same hblk3 11 _)
 have hnew : MapIs ((w3.setCell ⟨cb, 11, none⟩ (.map (some w3.heap.size))).alloc (.map #[] 0)) w3.heap.size [] := by
  have := mapIs_made (w3.setCell ⟨cb, 11, none⟩ (.map (some w3.heap.size)))
  rwa [hsz] at this
 refine ⟨cp_start hin (dv := dv) (hm3.of_block (hkeep mb hm3.lt (by omega))) (hDt3.kept fun g ⟨cs, hg⟩ => hkeep g (Array.getElem?_eq_some_iff.1 hg).1 ?_) hblka hcbw hnew hT3.size ?_, hM3.of_block (hkeep _ hM3.lt hbm), by simp [hsz]⟩
 ·rintro rfl
  rw [hg] at hblk3
  simp at hblk3
 ·exact hT3.trans (hTs.mono fun b _ hb => Or.inr (by rw [hb]; exact hcbw))
theorem Ranges.iter {w : World} {b r : Nat} {l left : List (Value × Value)} (h : Ranges w b r l left) : (∀ cs t, w.heap[r]? ≠ some (Obj.cells cs t (0, 0))) ∧ ∀ es c, w.heap[r]? ≠ some (Obj.map es c) := by
 obtain ⟨es, clock, since, seen, c0, hb, hs, hl, hr, _⟩ := h
 constructor
 ·intro cs t e
  rw [hr] at e
  cases e
 ·intro es c e
  rw [hr] at e
  cases e
/-- A round behind the copy of what stands there: it is stored. -/
theorem cp_round {w w6 : World} {tb : Nat} {A M C MC : Nat → Nat} {T : Fs} {mb cb m r i j : Nat} {p : Pt} {Dn : List Nat} {K1 L' : List (Bytes × Nat)} {y : Bytes} {C1 MC1 : Nat → Nat} {New1 : List Nat} {left : List (Value × Value)} (hI : T.Inv) (hp : (p, i) ∈ T.names) (hk : (T.nd i).kind = 2) (hmb : mb < w.heap.size)
  (hno : ¬ Own tb A M T mb) (hMi : M i < w.heap.size) (hr : w.heap.size ≤ r) (hC : CpInv w w6 A C MC T mb cb m p i Dn K1 C1 MC1 New1) (hK : (T.kids p).Perm ((K1 ++ [(y, j)]) ++ L')) (hrg : Ranges w6 (M i) r (entries A (T.kids p)) left)
  {w7 : World} {C2 MC2 : Nat → Nat} {New2 : List Nat} (hd : CopyDone w6 w7 A C1 MC1 T mb (p ++ [y]) j (Dn ++ i :: New1) C2 MC2 New2) :
  w7.cell? ⟨cb, 11, none⟩ = some (.map (some m)) ∧ ∃ w8, (Instr.mapUpdate 85 (.map (some m)) (.string (mkS y)) (.pointer (some ⟨C2 j, 0, none⟩))).run Tryz.prog w7 = .ok () w8 ∧ w8.cell? ⟨cb, 11, none⟩ = some (.map (some m)) ∧
   CpInv w w8 A C MC T mb cb m p i Dn (K1 ++ [(y, j)]) C2 MC2 (New1 ++ New2) ∧ Ranges w8 (M i) r (entries A (T.kids p)) left := by
 obtain ⟨q1, ⟨dv7, q2, q3⟩, q4⟩ := cp_step hI hp hk hmb hC hd
 have hnd := (hK.map (·.1)).nodup_iff.1 (hI.kids_nodup p)
 have hyK : ∀ k, (y, k) ∉ K1 := fun k hk => by
  rw [List.map_append, List.map_append, List.append_assoc] at hnd
  exact (List.nodup_append.1 hnd).2.2 y (List.mem_map.2 ⟨_, hk, rfl⟩) y (by simp) rfl
 have hkey := keyable_string Tryz.underlying9 w7 (mkS y) (entries_keys C2 K1)
 obtain ⟨w8, hrun, hm8, ht8⟩ := q1.store_new under_kids (v := ptr (C2 j)) hkey (entries_miss hyK)
 have hg8 := ht8.grown
 have hT8 : Turn w7 w8 (fun b => b = m) := Turn.of_grown hg8 (fun j e => by cases e; rfl)
 have hm8' : MapIs w8 m (entries C2 (K1 ++ [(y, j)])) := hm8.perm (by
  unfold entries
  rw [List.map_append]
  exact List.perm_append_singleton _ _)
 have hC8 := q4 w8 hm8' hT8
 obtain ⟨dv8, _, q6⟩ := hC8.node
 have hmi := hC.fresh.kids i (List.mem_cons_self ..) hk
 rw [hC.mi] at hmi
 refine ⟨cell_of q3 rfl, w8, hrun, cell_of q6 rfl, hC8, ?_⟩
 have hrg7 : Ranges w7 (M i) r (entries A (T.kids p)) left := hrg.of_blocks (hd.turn.block _ hrg.is.lt fun e => hno (by rw [← show M i = mb from e]; exact Or.inr (Or.inr ⟨i, ⟨p, hp⟩, hk, rfl⟩))) (hd.turn.block _ hrg.lt (by omega))
 refine hrg7.of_blocks (hT8.block _ hrg7.is.lt (by omega)) (hT8.block _ hrg7.lt ?_)
 rintro rfl
 obtain ⟨es, c, h, _⟩ := q1
 exact hrg7.iter.2 es c h
set_option maxHeartbeats 4000000 in
set_option maxRecDepth 100000 in
theorem copied_calls (tb : Nat) (A M : Nat → Nat) (T : Fs) (mb : Nat) :
  ∀ (n : Nat) (p : Pt) (i : Nat) (C MC : Nat → Nat) (Dn : List Nat) (w : World), Rep w tb A M T → (p, i) ∈ T.names → (∀ t j, (p ++ t, j) ∈ T.names → t.length ≤ n) → MapIs w mb (metL A C Dn) → ¬ Own tb A M T mb → (∀ j ∈ Dn, T.Live j) →
   (∀ t j, (p ++ t, j) ∈ T.names → (T.nd j).kind = 2 → j ∉ Dn) →
  Calls Tryz.prog 55 #[ptr (A i), .map (some mb)] w (CopyPost w A C MC T mb p i Dn) := by
 intro n
 induction n using Nat.strongRecOn with
 | _ n ih =>
  intro p i C MC Dn w hR hp hlen hm hno hD hdir
  have hI := hR.inv
  by_cases hin : i ∈ Dn
  ·have hk : (T.nd i).kind ≠ 2 := fun hk => hdir [] i (by simpa using hp) hk hin
   have hlk := met_hit hR ⟨_, hp⟩ hD hm hin
   have hfin := copy_again (MC := MC) hI hp hk hin hm
   replace hfin := hid hfin
   clear hR hm hno ih hlen
   unfold ptr at *
   go_enter Tryz.func55, Tryz.ntmps55
   go_wp2
   go_ret
   exact ⟨C, MC, [], rfl, hfin.out⟩
  ·have hlk := met_miss hR ⟨_, hp⟩ hD hm hin
   obtain ⟨dv, hDv, c0, c1, c2, c3, c4, c5, c6, c7, c8, c9, c10, c11⟩ := hR.cells ⟨p, hp⟩
   have hdl := hI.data p i hp
   have hdk := hDv.rdb
   obtain ⟨dA, dc, rfl, hd1, hd2⟩ := hDv.shape
   have hAlt : A i < w.heap.size := hR.lt (Or.inr (Or.inl ⟨i, ⟨p, hp⟩, rfl⟩))
   have hkeep : ∀ W, Below w.heap.size w W → W.cell? ⟨A i, 0, none⟩ = some (.int .i64 (T.nd i).kind) ∧ W.cell? ⟨A i, 1, none⟩ = some (.int .i64 i) ∧ W.cell? ⟨A i, 2, none⟩ = some (.int .i64 0) ∧ W.cell? ⟨A i, 3, none⟩ = some (.int .i64 (T.nd i).links) ∧
     W.cell? ⟨A i, 4, none⟩ = some (.int .i64 (T.nd i).mt.mode) ∧ W.cell? ⟨A i, 5, none⟩ = some (.int .i64 (T.nd i).mt.sec) ∧ W.cell? ⟨A i, 6, none⟩ = some (.int .i64 (T.nd i).mt.nano) ∧ W.cell? ⟨A i, 7, none⟩ = some (.int .i64 (T.nd i).mt.uid) ∧ W.cell? ⟨A i, 8, none⟩ = some (.int .i64 (T.nd i).mt.gid) ∧
     W.cell? ⟨A i, 9, none⟩ = some (.string (mkS (T.nd i).target)) ∧ W.cell? ⟨A i, 10, none⟩ = some (.slice dA (T.nd i).data.length dc) := by
    intro W hB
    have e : ∀ o, W.cell? ⟨A i, o, none⟩ = w.cell? ⟨A i, o, none⟩ := fun o => hB.cell (p := ⟨A i, o, none⟩) hAlt
    simp only [e]
    exact ⟨c0, c1, c2, c3, c4, c5, c6, c7, c8, c9, c10⟩
   have hcl := fun W => bclone_rd (.slice dA (T.nd i).data.length dc) (T.nd i).data W
   have hrd := fun (W : World) (hB : Below w.heap.size w W) => hdk.below hB
   replace hcl := hid hcl
   replace hrd := hid hrd
   replace hkeep := hid hkeep
   replace hDv := hid hDv
   replace hm := hid hm
   replace hR := hid hR
   replace ih := hid ih
   replace hlen := hid hlen
   replace hD := hid hD
   replace hdir := hid hdir
   replace hdk := hid hdk
   clear c0 c1 c2 c3 c4 c5 c6 c7 c8 c9 c10
   unfold ptr at *
   go_enter Tryz.func55, Tryz.ntmps55
   go_wp2_with fail
   go_region_held3 (fun W => W.cell? ⟨A i, 0, none⟩ = some (.int .i64 (T.nd i).kind) ∧ W.cell? ⟨A i, 1, none⟩ = some (.int .i64 i) ∧ W.cell? ⟨A i, 2, none⟩ = some (.int .i64 0) ∧ W.cell? ⟨A i, 3, none⟩ = some (.int .i64 (T.nd i).links) ∧
     W.cell? ⟨A i, 4, none⟩ = some (.int .i64 (T.nd i).mt.mode) ∧ W.cell? ⟨A i, 5, none⟩ = some (.int .i64 (T.nd i).mt.sec) ∧ W.cell? ⟨A i, 6, none⟩ = some (.int .i64 (T.nd i).mt.nano) ∧ W.cell? ⟨A i, 7, none⟩ = some (.int .i64 (T.nd i).mt.uid) ∧ W.cell? ⟨A i, 8, none⟩ = some (.int .i64 (T.nd i).mt.gid) ∧
     W.cell? ⟨A i, 9, none⟩ = some (.string (mkS (T.nd i).target)) ∧ W.cell? ⟨A i, 10, none⟩ = some (.slice dA (T.nd i).data.length dc)) (first | (exact hkeep.out _ (below_drewN (Below.refl _ _) 1)) | (exact hkeep.out _ hBc) | (exact hkeep.out _ (below_alloc hBc _)))
    ((go_at_call 81; refine (hcl.out _ (hrd.out _ (below_drewN (Below.refl _ _) 1)) (by omega)).mono ?_; rintro e w1 ⟨⟨v1, rfl, hO1⟩, hB1⟩; obtain ⟨A1, c1, rfl, _, _⟩ := own_shape hO1.own; have hBc := below_step (below_drewN (Below.refl w.heap.size w) 1) hB1))
   rename_i hHeld
   clear hHeld
   have hB2 : Below w.heap.size w (w1.alloc (.cells (nodeCells (T.nd i) i (.slice A1 (T.nd i).data.length c1) (.map none)) 87)) := below_alloc hBc _
   have hblk := (MapKept.heap_alloc w1 (.cells (nodeCells (T.nd i) i (.slice A1 (T.nd i).data.length c1) (.map none)) 87)).1
   have hcbw : w.heap.size ≤ w1.heap.size := hBc.size
   have hDt : Dat (w1.alloc (.cells (nodeCells (T.nd i) i (.slice A1 (T.nd i).data.length c1) (.map none)) 87)) (.slice A1 (T.nd i).data.length c1) (T.nd i).data :=
    hO1.dat.kept fun g ⟨cs, hg⟩ => ((Below.refl w1.heap.size w1).alloc (Nat.le_refl _) _).block g (Array.getElem?_eq_some_iff.1 hg).1
   have hR2 := hR.out.below hB2
   have hmlt := hm.out.lt
   have hm2 : MapIs (w1.alloc (.cells (nodeCells (T.nd i) i (.slice A1 (T.nd i).data.length c1) (.map none)) 87)) mb (metL A C Dn) := hm.out.of_block (hB2.block mb hmlt)
   obtain ⟨w3, hrun3, hm3, ht3⟩ := met_store (cb := w1.heap.size) hR2 ⟨_, hp⟩ hD.out hm2 hin
   have hg3 := ht3.grown
   have hT3 : Turn w w3 (fun b => b = mb) := (Turn.of_below hB2 _).trans (Turn.of_grown hg3 fun j e => by cases e; exact Or.inl rfl)
   have hblk3 : w3.heap[w1.heap.size]? = some (.cells (nodeCells (T.nd i) i (.slice A1 (T.nd i).data.length c1) (.map none)) 87 (0, 0)) := (hg3.block _ (Array.getElem?_eq_some_iff.1 hblk).1 (by simp; omega)).trans hblk
   have hDt3 : Dat w3 (.slice A1 (T.nd i).data.length c1) (T.nd i).data := hDt.kept fun g ⟨cs, hg⟩ => hg3.block g (Array.getElem?_eq_some_iff.1 hg).1 (by have := map_ne_cells hm2 hg; simpa using this)
   have hcb3 := (Array.getElem?_eq_some_iff.1 hblk3).1
   have hR3 : Rep w3 tb A M T := hR.out.kept (fun b hb => hT3.block b (hR.out.lt hb) (fun e => hno (by rw [← show b = mb from e]; exact hb))) (fun g ⟨cs, hg⟩ => hT3.block g (Array.getElem?_eq_some_iff.1 hg).1 (map_ne_cells hm.out hg))
   obtain ⟨cb, hcb⟩ : ∃ x, x = w1.heap.size := ⟨_, rfl⟩
   rw [← hcb] at hcbw hrun3 hblk3 hcb3 hm3
   obtain ⟨dvi3, _, hni3⟩ := hR3.node i ⟨_, hp⟩
   have c11' : w3.cell? ⟨A i, 11, none⟩ = some (kidsV (T.nd i) (M i)) := cell_of hni3 rfl
   have hbm : M i ≠ cb ∨ (T.nd i).kind ≠ 2 := by
    by_cases hk : (T.nd i).kind = 2
    ·have := (hR.out.kids p i hp hk).lt
     exact Or.inl (by omega)
    ·exact Or.inr hk
   have hstore : Hid ((Instr.mapUpdate 102 (.map (some mb)) (.pointer (some ⟨A i, 0, none⟩)) (.pointer (some ⟨cb, 0, none⟩))).run Tryz.prog (w1.alloc (.cells (nodeCells (T.nd i) i (.slice A1 (T.nd i).data.length c1) (.map none)) 87)) = .ok () w3) := hid hrun3
   replace hblk3 := hid hblk3
   replace hDt3 := hid hDt3
   replace hm3 := hid hm3
   replace hT3 := hid hT3
   replace hR3 := hid hR3
   replace hni3 := hid hni3
   replace hcb := hid hcb
   clear hblk hDt hR2 hm2 hrun3 ht3 hg3 hB2 hO1 hB1 hBc hlk
   by_cases hk : (T.nd i).kind = 2
   ·have hM3 := hR3.out.kids p i hp hk
    have hlen3 : ∀ ty, (Builtin.len_ #[85] ty #[.map (some (M i))]).run Tryz.prog w3 = .ok (.int .i64 (T.kids p).length) w3 := fun ty => by
     rw [hM3.len under_kids ty]
     simp [entries]
    have hMlt : M i < w.heap.size := (hR.out.kids p i hp hk).lt
    have hnd := hI.kids_nodup p
    rw [kidsV, if_pos hk] at c11'
    have hmn := fun W m => map_not_nil W m
    have hmk := fun n W => run_makeMap_hint (P := Tryz.prog) under_kids n W
    have cc : w3.cell? ⟨cb, 11, none⟩ = some (.map none) := cell_of hblk3.out rfl
    have fc : w3.frozen? ⟨cb, 11, none⟩ = false := by have := hblk3.out; simp [World.frozen?, this]
    have hA3 : A i < w3.heap.size := Nat.lt_of_lt_of_le hAlt hT3.out.size
    have hww3 := hT3.out.size
    obtain ⟨hst1, hst2, hst3⟩ := copied_dir_start (MC := MC) hmlt hin (by rcases hbm with h | h; exact h; exact absurd hk h) hm3.out hDt3.out hblk3.out hcbw hT3.out hM3
    replace hst1 := hid hst1
    replace hst2 := hid hst2
    replace hst3 := hid hst3
    replace hM3 := hid hM3
    replace hnd := hid hnd
    replace hI := hid hI
    replace hk := hid hk
    rw [← hcb.out]
    go_wp2_with (first | (at_mapUpdate; refine wp_store _ rfl _ _ _ 102 rfl (.map (some mb)) (.pointer (some ⟨A i, 0, none⟩)) (.pointer (some ⟨cb, 0, none⟩)) rfl rfl rfl w3 hstore.out ?_) | (at_range; refine wp_range _ rfl _ 85 rfl 9 80 under_kids (M i) _ rfl hst2.out ?_))
    intro w5 hrg5 hg5 _
    have hst5 := hst1.out.other (S := fun _ => False) (Turn.of_grown hg5 (fun j e => by cases e)) (fun b hb => hb.elim)
    clear hst3 hst2 hst1 hg5 hstore hlen3 hmk cc fc hM3 hblk3 hDt3 hm3 hT3 hR3 hni3 c11' hcb hdk hcl hrd hkeep hDv hbm
    generalize w3.heap.size = m at *
    obtain ⟨r, hr⟩ : ∃ x, x = m + 1 := ⟨_, rfl⟩
    rw [← hr] at hrg5 ⊢
    have hrw : w.heap.size ≤ r := by omega
    replace hr := hid hr
    go_wp2
    go_loopw [8, 9] (fun x kk wr => ∃ (K1 K2 : List (Bytes × Nat)) (left : List (Value × Value)) (C1 MC1 : Nat → Nat) (New1 : List Nat), Ranges wr (M i) r (entries A (T.kids p)) left ∧ left.Perm (entries A K2) ∧ (T.kids p).Perm (K1 ++ K2) ∧ CpInv w wr A C MC T mb cb m p i Dn K1 C1 MC1 New1) (fun _ _ wr => wr.rangeLeft (M i) r)
    case atStart => exact ⟨[], T.kids p, _, _, _, [], hrg5, .refl _, .refl _, hst5⟩
    case round =>
     clear hst5 hrg5
     obtain ⟨K1, K2, left, C1, MC1, New1, hrg, hL, hK, hC⟩ := hrel
     replace hL := hid hL
     replace hK := hid hK
     replace hC := hid hC
     go_wp2_with (at_next; refine wp_next _ rfl _ rfl (M i) r _ _ rfl hrg ?_ ?_)
     ·intro hl0
      have hLK : K2 = [] := entries_nil (A := A) (by have := hL.out; rwa [hl0] at this)
      have hKd : (T.kids p).Perm K1 := by
       have := hK.out
       rwa [hLK, List.append_nil] at this
      have hfin := cp_end hI.out hp hk.out hC.out hKd
      have hci := hC.out.ci
      replace hfin := hid hfin
      replace hci := hid hci
      clear hL hK hC hLK hKd hl0 hrg
      go_wp2
      go_ret
      exact ⟨C1, MC1, i :: New1, ret_ptr hci.out.symm, hfin.out⟩
     ·intro x v left' w6 hp2 hmem hrg6 hg6 hs6 hen
      obtain ⟨y, j, L', hL1, rfl, rfl, hL2⟩ := entries_pick hL.out hp2
      have hK2 : (T.kids p).Perm ((K1 ++ [(y, j)]) ++ L') := hK.out.trans (by simpa using hL1.append_left K1)
      have hjm : (p ++ [y], j) ∈ T.names := mem_kidsL.1 (hK2.mem_iff.2 (by simp))
      have hit := hrg.iter
      have hC6 : CpInv w w6.drew A C MC T mb cb m p i Dn K1 C1 MC1 New1 := by
       refine CpInv.other (w2 := w6) (S := fun _ => False) ?_ ((Turn.refl _ _).drewN 1) (fun b hb => hb.elim)
       refine hC.out.other (S := fun b => b = r) (Turn.of_grown hg6 (fun j e => by cases e; rfl)) ?_
       rintro b rfl
       exact ⟨hrw, hit.1, hit.2⟩
      have hT6 := hC6.turn
      have hR6 : Rep w6.drew tb A M T := hR.out.kept (fun b hb => hT6.block b (hR.out.lt hb) (fun e => hno (by rw [← show b = mb from e]; exact hb))) (fun g ⟨cs, hg⟩ => hT6.block g (Array.getElem?_eq_some_iff.1 hg).1 (map_ne_cells hm.out hg))
      have hn1 : 1 ≤ n := by simpa using hlen.out [y] j hjm
      have hyK : ∀ k, (y, k) ∉ K1 := fun k hk => by
       have hnd := (hK2.map (·.1)).nodup_iff.1 (hI.out.kids_nodup p)
       rw [List.map_append, List.map_append, List.append_assoc] at hnd
       exact (List.nodup_append.1 hnd).2.2 y (List.mem_map.2 ⟨_, hk, rfl⟩) y (by simp) rfl
      have hrec := ih.out (n - 1) (by omega) (p ++ [y]) j C1 MC1 (Dn ++ i :: New1) w6.drew hR6 hjm (fun t u hu => by
       have := hlen.out (y :: t) u (by simpa using hu)
       simp at this
       omega) hC6.met hno (fun u hu => by
        rcases List.mem_append.1 hu with hu | hu
        ·exact hD.out u hu
        ·rcases List.mem_cons.1 hu with rfl | hu
         ·exact ⟨_, hp⟩
         ·obtain ⟨_, z, _, t, hz⟩ := hC6.fin u hu
          exact ⟨_, hz⟩) (fun t u hu hk2 hin2 => by
        have hu' : (p ++ y :: t, u) ∈ T.names := by simpa using hu
        rcases List.mem_append.1 hin2 with h | h
        ·exact hdir.out (y :: t) u hu' hk2 h
        ·rcases List.mem_cons.1 h with rfl | h
         ·have := hI.out.dir_one hp hu' hk2
          simp at this
         ·obtain ⟨_, z, hz, t', hzt⟩ := hC6.fin u h
          have := hI.out.dir_one hzt hu' hk2
          rw [List.append_cancel_left_eq, List.cons.injEq] at this
          exact hyK z.2 (by rw [this.1]; exact hz))
      have hrg6d : Ranges w6.drew (M i) r (entries A (T.kids p)) left' := hrg6
      have hround := fun (w7 : World) (C2 MC2 : Nat → Nat) (New2 : List Nat) hd => cp_round (w7 := w7) (C2 := C2) (MC2 := MC2) (New2 := New2) hI.out hp hk.out hmlt hno hMlt hrw hC6 hK2 hrg6d hd
      have c6 : w6.drew.cell? ⟨cb, 11, none⟩ = some (.map (some m)) := by
       obtain ⟨dv6, _, h6⟩ := hC6.node
       exact cell_of h6 rfl
      have hmeas : wr.rangeLeft (M i) r = left.length := hrg.left_eq
      have hlt : left'.length < left.length := by have := hp2.length_eq; simp at this; omega
      unfold ptr at hrec hen
      replace hrec := hid hrec
      replace hround := hid hround
      replace hK2 := hid hK2
      replace hL2 := hid hL2
      replace hmeas := hid hmeas
      replace hjm := hid hjm
      replace hyK := hid hyK
      clear hK hL hC hL1 hp2 hmem hrg hg6 hs6 hrg6 hrg6d hit hT6 hR6 hC6
      go_wp2_with fail
      go_region_held3 (fun W => W.cell? ⟨cb, 11, none⟩ = some (.map (some m))) (first | exact c6 | exact c7 | exact c8)
       ((go_at_call 55; refine hrec.out.mono ?_; rintro e w7 ⟨C2, MC2, New2, rfl, hd⟩; obtain ⟨c7, w8, hrun8, c8, hC8, hrg8⟩ := hround.out w7 C2 MC2 New2 hd; replace hC8 := hid hC8; clear hd hrec hround))
      rename_i hHeld
      clear hHeld
      go_wp2
      go_roundw
      case rel => exact ⟨K1 ++ [(y, j)], L', left', C2, MC2, New1 ++ New2, hrg8, hL2.out, hK2.out, hC8.out⟩
      case measure => rw [hrg8.left_eq, hmeas.out]; exact hlt
   ·rw [kidsV, if_neg hk] at c11'
    have hmn := fun W m => map_not_nil W m
    have hfin : CopyDone w w3 A C MC T mb p i Dn (upd C i cb) MC [i] := copy_leaf hI hp hk (fun j hj => ⟨upd_other _ _ _ (fun e => hin (e ▸ hj)), rfl⟩) hm3.out hDt3.out (by rw [upd_same]; exact hblk3.out) (by rw [upd_same]; exact hcbw) hT3.out
    replace hfin := hid hfin
    replace hk := hid hk
    rw [← hcb.out]
    go_wp2_with (at_mapUpdate; refine wp_store _ rfl _ _ _ 102 rfl (.map (some mb)) (.pointer (some ⟨A i, 0, none⟩)) (.pointer (some ⟨cb, 0, none⟩)) rfl rfl rfl w3 hstore.out ?_)
    go_wp2
    go_ret
    exact ⟨upd C i cb, MC, [i], ret_ptr (upd_same C i cb).symm, hfin.out⟩
end Go.Proofs.YtcjlfkklpghjbaaGreat

namespace Go.Proofs.YtcjlfkklpghjbaaGreat
open Go.RowKit
/-- A tree of the call's own. -/
def NewTree (w : World) (T : Fs) (e : Ending) (w' : World) : Prop :=
  ∃ tc C MC, e = .returned (.pointer (some ⟨tc, 0, none⟩)) ∧ Rep w' tc C MC T ∧ (∀ b, Own tc C MC T b → w.heap.size ≤ b) ∧ Below w.heap.size w w'
theorem copy_rep {w w1 w2 : World} {A C MC C' MC' : Nat → Nat} {T : Fs} {mb tc : Nat} {New : List Nat} (hI : T.Inv) (hd : CopyDone w w1 A C MC T mb [] 1 [] C' MC' New) (hb : Below w1.heap.size w1 w2) (ht : w2.heap[tc]? = some (.cells #[ptr (C' 1), .int .i64 T.next] 82 (0, 0))) :
  Rep w2 tc C' MC' T ∧ ∀ b, Own tc C' MC' T b → b = tc ∨ w.heap.size ≤ b := by
 have hall : ∀ j, T.Live j → j ∈ New := fun j ⟨q, hq⟩ => by simpa using hd.cov q j (by simpa using hq)
 refine ⟨⟨hI, ht, fun j hj => ?_, fun q j hq hk => ?_, fun a b ha hb e => hd.fresh.injC a (hall a ha) b (hall b hb) e, fun a b ha hb hka hkb e => hd.fresh.injM a (hall a ha) b (hall b hb) hka hkb e⟩, ?_⟩
 ·obtain ⟨dv, h1, h2⟩ := (hd.fin j (hall j hj)).1.node
  exact ⟨dv, h1.kept fun g ⟨cs, hg⟩ => hb.block g (Array.getElem?_eq_some_iff.1 hg).1, (hb.block _ (Array.getElem?_eq_some_iff.1 h2).1).trans h2⟩
 ·have := (hd.fin j (hall j ⟨q, hq⟩)).1.kids q hq hk
  exact this.of_block (hb.block _ this.lt)
 ·rintro b (rfl | ⟨j, hj, rfl⟩ | ⟨j, hj, hk, rfl⟩)
  ·exact Or.inl rfl
  ·exact Or.inr (hd.fresh.node j (hall j hj)).1
  ·exact Or.inr (hd.fresh.kids j (hall j hj) hk).1
set_option maxHeartbeats 2000000 in
set_option maxRecDepth 100000 in
theorem copy_calls (tb : Nat) (A M : Nat → Nat) (T : Fs) (w : World) (hR : Rep w tb A M T) :
  Calls Tryz.prog 19 #[ptr tb] w (NewTree w T) := by
 have hI := hR.inv
 have hkeep : ∀ W, Below w.heap.size w W → W.cell? ⟨tb, 0, none⟩ = some (.pointer (some ⟨A 1, 0, none⟩)) ∧ W.cell? ⟨tb, 1, none⟩ = some (.int .i64 T.next) := fun W hB => ⟨cell_of (hR.below hB).tree rfl, cell_of (hR.below hB).tree rfl⟩
 have hB0 : Below w.heap.size w (w.drew.alloc (.map #[] 0)) := below_alloc (below_drewN (Below.refl _ _) 1) _
 have hno : ¬ Own tb A M T w.heap.size := fun h => by have := hR.lt h; omega
 have hcall := copied_calls tb A M T w.heap.size 12 [] 1 (fun _ => 0) (fun _ => 0) [] (w.drew.alloc (.map #[] 0)) (hR.below hB0) hI.one (fun t j hm => (hI.pth _ _ hm).few) (mapIs_made w.drew) hno (by simp) (by simp)
 have hmk := @run_makeMap Tryz.prog
 have hB1 : ∀ w1, Turn (w.drew.alloc (.map #[] 0)) w1 (fun b => b = w.heap.size) → Below w.heap.size w w1 := fun w1 ht => hB0.trans ⟨ht.os, ht.tape, ht.output, ht.size, fun k hk => ht.block k (by simp; omega) (by omega)⟩
 unfold ptr at *
 replace hB1 := hid hB1
 replace hcall := hid hcall
 replace hkeep := hid hkeep
 replace hB0 := hid hB0
 replace hR := hid hR
 go_enter Tryz.func19, Tryz.ntmps19
 go_wp2_with fail
 go_region_held3 (fun W => W.cell? ⟨tb, 0, none⟩ = some (.pointer (some ⟨A 1, 0, none⟩)) ∧ W.cell? ⟨tb, 1, none⟩ = some (.int .i64 T.next)) (first | (exact hkeep.out _ (below_drewN (Below.refl _ _) 1)) | (exact hkeep.out _ hB0.out) | (exact hkeep.out _ hBc) | (exact hkeep.out _ (below_alloc hBc _)))
  ((go_at_call 55; refine hcall.out.mono ?_; rintro e w1 ⟨C', MC', New, rfl, hd⟩; have hBc := hB1.out w1 hd.turn; replace hd := hid hd; clear hcall))
 rename_i hHeld
 clear hHeld
 go_wp2
 go_ret
 have hblk := (MapKept.heap_alloc w1 (.cells #[ptr (C' 1), .int .i64 T.next] 82)).1
 obtain ⟨g1, g2⟩ := copy_rep hI hd.out ((Below.refl w1.heap.size w1).alloc (Nat.le_refl _) _) hblk
 refine ⟨w1.heap.size, C', MC', rfl, g1, fun b hb => ?_, below_alloc hBc _⟩
 rcases g2 b hb with rfl | h
 ·exact hBc.size
 ·simp at h
  omega
/-- The top alone. -/
def Fs.start : Fs := ⟨[([], 1)], fun _ => ⟨2, 1, ⟨493, 0, 0, 0, 0⟩, [], []⟩, 2⟩
theorem start_inv : Fs.start.Inv := by
 have hm : ∀ p i, (p, i) ∈ Fs.start.names → p = [] ∧ i = 1 := fun p i h => by simpa [Fs.start] using h
 refine ⟨⟨[], rfl⟩, by simp [Fs.start], rfl, ?_, ?_, ?_, ?_, ?_, ?_, ?_, ?_⟩
 ·intro p i h hp
  exact absurd (hm p i h).1 hp
 ·intro p i h
  obtain ⟨rfl, _⟩ := hm p i h
  exact ⟨[], by decide, rfl⟩
 ·intro p i h
  exact Or.inr (Or.inl rfl)
 ·intro p i h
  obtain ⟨_, rfl⟩ := hm p i h
  exact ⟨by decide, by decide⟩
 ·intro p i h
  obtain ⟨_, rfl⟩ := hm p i h
  simp [Fs.start, namesOf]
 ·intro p i h _ q hq
  rw [(hm p i h).1, (hm q i hq).1]
 ·intro p i h
  simp [Fs.start]
 ·intro p i h
  simp [Fs.start]
theorem new_rep (w : World) : Rep (((w.alloc (.cells #[ptr (w.heap.size + 1 + 1), .int .i64 2] 82)).alloc (.map #[] 0)).alloc (.cells (nodeCells ⟨2, 1, ⟨493, 0, 0, 0, 0⟩, [], []⟩ 1 (.slice none 0 0) (.map (some (w.heap.size + 1)))) 87)) w.heap.size (fun _ => w.heap.size + 1 + 1) (fun _ => w.heap.size + 1) Fs.start ∧
  ∀ b, Own w.heap.size (fun _ => w.heap.size + 1 + 1) (fun _ => w.heap.size + 1) Fs.start b → w.heap.size ≤ b := by
 obtain ⟨o1, h1⟩ : ∃ x, x = Obj.cells #[ptr (w.heap.size + 1 + 1), .int .i64 2] 82 (0, 0) := ⟨_, rfl⟩
 obtain ⟨o3, h3⟩ : ∃ x, x = Obj.cells (nodeCells ⟨2, 1, ⟨493, 0, 0, 0, 0⟩, [], []⟩ 1 (.slice none 0 0) (.map (some (w.heap.size + 1)))) 87 (0, 0) := ⟨_, rfl⟩
 rw [← h1, ← h3]
 have a1 := (MapKept.heap_alloc w o1).1
 have s1 : (w.alloc o1).heap.size = w.heap.size + 1 := by simp
 have a2 := (MapKept.heap_alloc (w.alloc o1) (.map #[] 0)).2 w.heap.size (by rw [s1]; omega)
 have s2 : ((w.alloc o1).alloc (.map #[] 0)).heap.size = w.heap.size + 1 + 1 := by simp
 have a3 := (MapKept.heap_alloc ((w.alloc o1).alloc (.map #[] 0)) o3).2 w.heap.size (by rw [s2]; omega)
 have a4 := (MapKept.heap_alloc ((w.alloc o1).alloc (.map #[] 0)) o3).1
 rw [s2] at a4
 have m1 : MapIs ((w.alloc o1).alloc (.map #[] 0)) (w.heap.size + 1) [] := by have := mapIs_made (w.alloc o1); rwa [s1] at this
 have m2 := m1.of_block ((MapKept.heap_alloc ((w.alloc o1).alloc (.map #[] 0)) o3).2 (w.heap.size + 1) (by rw [s2]; omega))
 have hone : ∀ j, Fs.start.Live j → j = 1 := fun j ⟨q, hq⟩ => by simp [Fs.start] at hq; exact hq.2
 refine ⟨⟨start_inv, ?_, fun i hi => ⟨.slice none 0 0, dat_nil _, ?_⟩, fun p i hp _ => ?_, fun a b ha hb _ => (hone a ha).trans (hone b hb).symm, fun a b ha hb _ _ _ => (hone a ha).trans (hone b hb).symm⟩, ?_⟩
 ·rw [a3, a2, a1, h1]
  rfl
 ·rw [a4, h3, hone i hi]
  rfl
 ·have : Fs.start.kids p = [] := by simp [Fs.start, Fs.kids, kidsL, kidOf]
  rw [this]
  exact m2
 ·rintro b (rfl | ⟨_, _, rfl⟩ | ⟨_, _, _, rfl⟩)
  ·exact Nat.le_refl _
  ·show w.heap.size ≤ w.heap.size + 1 + 1
   omega
  ·show w.heap.size ≤ w.heap.size + 1
   omega
set_option maxHeartbeats 1000000 in
set_option maxRecDepth 100000 in
theorem new_calls (w : World) : Calls Tryz.prog 14 #[] w (NewTree w Fs.start) := by
 have hmk := @run_makeMap Tryz.prog
 go_enter Tryz.func14, Tryz.ntmps14
 go_wp2
 go_ret
 exact ⟨w.heap.size, _, _, rfl, (new_rep w).1, (new_rep w).2, (((Below.refl _ _).alloc (Nat.le_refl _) _).alloc (by simp) _).alloc (by simp; omega) _⟩
end Go.Proofs.YtcjlfkklpghjbaaGreat

namespace Go.Proofs.YtcjlfkklpghjbaaGreat
open Go.RowKit
/-- Two things are alike by themselves. -/
def Lk (T U : Fs) (i j : Nat) : Prop := (T.nd i).kind = (U.nd j).kind ∧ (T.nd i).mt = (U.nd j).mt ∧ (T.nd i).target = (U.nd j).target ∧ (T.nd i).data = (U.nd j).data
/-- Two trees are the same: the same names, alike things, and the same names of one thing. -/
structure SameFs (T U : Fs) : Prop where
  there : ∀ p i, (p, i) ∈ T.names → ∃ j, (p, j) ∈ U.names
  back : ∀ p j, (p, j) ∈ U.names → ∃ i, (p, i) ∈ T.names
  like : ∀ p i j, (p, i) ∈ T.names → (p, j) ∈ U.names → Lk T U i j
  one : ∀ p q i j, (p, i) ∈ T.names → (q, i) ∈ T.names → (p, j) ∈ U.names → (q, j) ∈ U.names
  two : ∀ p q i j, (p, i) ∈ T.names → (p, j) ∈ U.names → (q, j) ∈ U.names → (q, i) ∈ T.names
/-- The pairs that the program keeps: which thing of the one is which of the other. -/
def prL (A B : Nat → Nat) (Pr : List (Nat × Nat)) : List (Value × Value) := Pr.map fun x => (ptr (A x.1), ptr (B x.2))
def prR (A B : Nat → Nat) (Pr : List (Nat × Nat)) : List (Value × Value) := Pr.map fun x => (ptr (B x.2), ptr (A x.1))
structure AlkDone (w w' : World) (A B : Nat → Nat) (T U : Fs) (pb kb : Nat) (p : Pt) (i j : Nat) (Pr : List (Nat × Nat)) (r : Bool) (Pr' : List (Nat × Nat)) : Prop where
  m1 : MapIs w' pb (prL A B Pr')
  m2 : MapIs w' kb (prR A B Pr')
  old : ∀ x ∈ Pr, x ∈ Pr'
  wit : ∀ x ∈ Pr', ∃ q, (q, x.1) ∈ T.names ∧ (q, x.2) ∈ U.names
  low : ∀ x ∈ Pr', x ∈ Pr ∨ ∃ t, (p ++ t, x.1) ∈ T.names
  turn : Turn w w' (fun b => b = pb ∨ b = kb)
  yes : r = true → (i, j) ∈ Pr' ∧ (∀ x ∈ Pr', Lk T U x.1 x.2) ∧ (∀ t i', (p ++ t, i') ∈ T.names → ∃ j', (p ++ t, j') ∈ U.names ∧ (i', j') ∈ Pr') ∧ ∀ t j', (p ++ t, j') ∈ U.names → ∃ i', (p ++ t, i') ∈ T.names
  no : r = false → ¬ SameFs T U
structure AlkInv (w wr : World) (A B : Nat → Nat) (T U : Fs) (pb kb : Nat) (p : Pt) (i j : Nat) (Pr : List (Nat × Nat)) (K1 : List (Bytes × Nat)) (Pr1 : List (Nat × Nat)) : Prop where
  m1 : MapIs wr pb (prL A B Pr1)
  m2 : MapIs wr kb (prR A B Pr1)
  old : ∀ x ∈ Pr, x ∈ Pr1
  own : (i, j) ∈ Pr1
  wit : ∀ x ∈ Pr1, ∃ q, (q, x.1) ∈ T.names ∧ (q, x.2) ∈ U.names
  low : ∀ x ∈ Pr1, x ∈ Pr ∨ x = (i, j) ∨ ∃ y ∈ K1, ∃ t, (p ++ y.1 :: t, x.1) ∈ T.names
  like : ∀ x ∈ Pr1, Lk T U x.1 x.2
  cov : ∀ y ∈ K1, ∀ t i', (p ++ y.1 :: t, i') ∈ T.names → ∃ j', (p ++ y.1 :: t, j') ∈ U.names ∧ (i', j') ∈ Pr1
  cov2 : ∀ y ∈ K1, ∀ t j', (p ++ y.1 :: t, j') ∈ U.names → ∃ i', (p ++ y.1 :: t, i') ∈ T.names
  turn : Turn w wr (fun b => b = pb ∨ b = kb)
section
variable {w w2 w3 : World} {A B : Nat → Nat} {T U : Fs} {pb kb : Nat} {p : Pt} {i j : Nat} {Pr Pr1 Pr2 : List (Nat × Nat)} {K1 : List (Bytes × Nat)}
end
end Go.Proofs.YtcjlfkklpghjbaaGreat

namespace Go.Proofs.YtcjlfkklpghjbaaGreat
open Go.RowKit
section
variable {w : World} {tb ub : Nat} {A M B N : Nat → Nat} {T U : Fs} {pb kb i j : Nat} {Pr : List (Nat × Nat)}
end
theorem neq_mt (W : World) (a1 a2 a3 a4 a5 b1 b2 b3 b4 b5 : Int) :
  (binOp .neq 41 (.agg #[.int .i64 a1, .int .i64 a2, .int .i64 a3, .int .i64 a4, .int .i64 a5]) (.agg #[.int .i64 b1, .int .i64 b2, .int .i64 b3, .int .i64 b4, .int .i64 b5])).run Tryz.prog W = .ok (.bool (!decide (a1 = b1 ∧ a2 = b2 ∧ a3 = b3 ∧ a4 = b4 ∧ a5 = b5))) W := by
 go_simp
 by_cases h1 : a1 = b1 <;> by_cases h2 : a2 = b2 <;> by_cases h3 : a3 = b3 <;> by_cases h4 : a4 = b4 <;> by_cases h5 : a5 = b5 <;> simp [h1, h2, h3, h4, h5]
theorem mt_eq {a b : Mt} : (a.mode = b.mode ∧ a.sec = b.sec ∧ a.nano = b.nano ∧ a.uid = b.uid ∧ a.gid = b.gid) ↔ a = b := by
 cases a
 cases b
 simp
theorem mkS_toList (l : Bytes) : (mkS l).toList = l := by rw [toList_bl, bl_mkS]
def AlkPost (w : World) (A B : Nat → Nat) (T U : Fs) (pb kb : Nat) (p : Pt) (i j : Nat) (Pr : List (Nat × Nat)) (e : Ending) (w' : World) : Prop :=
  ∃ r Pr', e = .returned (.bool r) ∧ AlkDone w w' A B T U pb kb p i j Pr r Pr'
def statA (n : Nd) (i : Nat) : Array Value :=
  #[.int .i64 n.kind, .int .i64 i, .int .i64 0, .int .i64 n.links, .int .i64 n.mt.mode, .int .i64 n.mt.sec, .int .i64 n.mt.nano, .int .i64 n.mt.uid, .int .i64 n.mt.gid, .string (mkS n.target)]
/-- What stands in the two variables that hold a copy of each thing's Stat. -/
def TwoStats (w W : World) (T U : Fs) (i j : Nat) (x y : Value) : Prop :=
  ∃ bx by', x = .pointer (some ⟨bx, 0, none⟩) ∧ y = .pointer (some ⟨by', 0, none⟩) ∧ W.heap[bx]? = some (.cells (statA (T.nd i) i) 84 (0, 0)) ∧ W.heap[by']? = some (.cells (statA (U.nd j) j) 84 (0, 0)) ∧ Below w.heap.size w W
end Go.Proofs.YtcjlfkklpghjbaaGreat

namespace Go.Proofs.YtcjlfkklpghjbaaGreat
open Go.RowKit
def SameRes (T U : Fs) (w : World) (e : Ending) (w' : World) : Prop := (∃ r : Bool, e = .returned (.bool r) ∧ (r = true ↔ SameFs T U)) ∧ Below w.heap.size w w'
end Go.Proofs.YtcjlfkklpghjbaaGreat

namespace Go.Proofs.YtcjlfkklpghjbaaGreat
open Go.RowKit
/-- A call on a tree. -/
structure Act17 where
  d : Int
  path : Bytes
  arg : Bytes
  data : Bytes
  mt : Mt
def Fs.act (T : Fs) (a : Act17) : Fs × Int :=
  if a.d = 0 then T.mkdir a.path a.mt else if a.d = 1 then T.write a.path a.data a.mt else if a.d = 2 then T.symlink a.path a.arg a.mt else if a.d = 3 then T.link a.path a.arg else
  if a.d = 4 then T.remove a.path else if a.d = 5 then T.rename a.path a.arg else if a.d = 6 then T.setM a.path a.mt else if a.d = 7 then T.append a.path a.data else (T, 0)
def actCells (a : Act17) (v : Value) : List Value := [.int .i64 a.d, .string (mkS a.path), .string (mkS a.arg), v, .int .i64 a.mt.mode, .int .i64 a.mt.sec, .int .i64 a.mt.nano, .int .i64 a.mt.uid, .int .i64 a.mt.gid]
def actV (a : Act17) (v : Value) : Value := .agg (actCells a v).toArray
set_option maxHeartbeats 2000000 in
set_option maxRecDepth 100000 in
theorem do_calls (tb : Nat) (A M : Nat → Nat) (T : Fs) (a : Act17) (v : Value) (w : World) (hR : Rep w tb A M T) (hp : a.path.length ≤ 1000000) (ht : a.arg.length ≤ 1000000) (hv : RdB w v a.data) (hd : a.data.length ≤ 1000000) (hnx : T.next < 4611686018427387904) (hf : T.names.length ≤ 1000000) :
  Calls Tryz.prog 15 #[ptr tb, actV a v] w fun e w' => e = .returned (.int .i64 (T.act a).2) ∧ Stp w w' tb A M T (T.act a).1 := by
 obtain ⟨d, p, t, b, m⟩ := a
 obtain ⟨m1, m2, m3, m4, m5⟩ := m
 dsimp only at hp ht hv hd
 have hps := mkS_size p
 have hts := mkS_size t
 obtain ⟨dA, dc, rfl, hl1, hl2⟩ : ∃ A c, v = .slice A b.length c ∧ b.length ≤ c ∧ c ≤ maxLen := by
  obtain ⟨A', c, h1, h2, h3, _⟩ := hv
  exact ⟨A', c, h1, h2, h3⟩
 have hB0 : Below w.heap.size w (w.alloc (.cells #[.int .i64 d, .string (mkS p), .string (mkS t), .slice dA b.length dc, .int .i64 m1, .int .i64 m2, .int .i64 m3, .int .i64 m4, .int .i64 m5] 43)) := (Below.refl _ _).alloc (Nat.le_refl _) _
 have hR0 := hR.below hB0
 have hv0 := hv.below hB0
 have q0 := mkdir_calls tb A M T (mkS p) ⟨m1, m2, m3, m4, m5⟩ _ hR0 (by omega) hnx
 have q1 := write_calls tb A M T (mkS p) _ b ⟨m1, m2, m3, m4, m5⟩ _ hR0 (by omega) hv0 (by omega) hnx
 have q2 := symlink_calls tb A M T (mkS p) (mkS t) ⟨m1, m2, m3, m4, m5⟩ _ hR0 (by omega) hnx
 have q3 := link_calls tb A M T (mkS p) (mkS t) _ hR0 (by omega) (by omega) hf
 have q4 := remove_calls tb A M T (mkS p) _ hR0 (by omega) hf
 have q5 := rename_calls tb A M T (mkS p) (mkS t) _ hR0 (by omega) (by omega) hf
 have q6 := set_calls tb A M T (mkS p) ⟨m1, m2, m3, m4, m5⟩ _ hR0 (by omega)
 have q7 := append_calls tb A M T (mkS p) _ b _ hR0 (by omega) hv0 (by omega)
 simp only [bl_mkS] at q0 q1 q2 q3 q4 q5 q6 q7
 unfold mtV mtCells ptr at *
 unfold actV actCells Fs.act
 dsimp only at *
 replace q0 := hid q0
 replace q1 := hid q1
 replace q2 := hid q2
 replace q3 := hid q3
 replace q4 := hid q4
 replace q5 := hid q5
 replace q6 := hid q6
 replace q7 := hid q7
 replace hR0 := hid hR0
 replace hR := hid hR
 replace hv0 := hid hv0
 replace hv := hid hv
 replace hB0 := hid hB0
 by_cases e0 : d = 0
 ·subst e0
  rw [if_pos rfl]
  go_enter Tryz.func15, Tryz.ntmps15
  go_wp2_with fail
  refine q0.out.mono ?_
  rintro e w1 ⟨rfl, hst⟩
  replace hst := hid hst
  go_wp2
  go_ret
  exact ⟨rfl, hst.out.after hB0.out⟩
 by_cases e1 : d = 1
 ·subst e1
  rw [if_neg (by decide)]; rw [if_pos rfl]
  go_enter Tryz.func15, Tryz.ntmps15
  go_wp2_with fail
  refine q1.out.mono ?_
  rintro e w1 ⟨rfl, hst⟩
  replace hst := hid hst
  go_wp2
  go_ret
  exact ⟨rfl, hst.out.after hB0.out⟩
 by_cases e2 : d = 2
 ·subst e2
  rw [if_neg (by decide)]; rw [if_neg (by decide)]; rw [if_pos rfl]
  go_enter Tryz.func15, Tryz.ntmps15
  go_wp2_with fail
  refine q2.out.mono ?_
  rintro e w1 ⟨rfl, hst⟩
  replace hst := hid hst
  go_wp2
  go_ret
  exact ⟨rfl, hst.out.after hB0.out⟩
 by_cases e3 : d = 3
 ·subst e3
  rw [if_neg (by decide)]; rw [if_neg (by decide)]; rw [if_neg (by decide)]; rw [if_pos rfl]
  go_enter Tryz.func15, Tryz.ntmps15
  go_wp2_with fail
  refine q3.out.mono ?_
  rintro e w1 ⟨rfl, hst⟩
  replace hst := hid hst
  go_wp2
  go_ret
  exact ⟨rfl, hst.out.after hB0.out⟩
 by_cases e4 : d = 4
 ·subst e4
  rw [if_neg (by decide)]; rw [if_neg (by decide)]; rw [if_neg (by decide)]; rw [if_neg (by decide)]; rw [if_pos rfl]
  go_enter Tryz.func15, Tryz.ntmps15
  go_wp2_with fail
  refine q4.out.mono ?_
  rintro e w1 ⟨rfl, hst⟩
  replace hst := hid hst
  go_wp2
  go_ret
  exact ⟨rfl, hst.out.after hB0.out⟩
 by_cases e5 : d = 5
 ·subst e5
  rw [if_neg (by decide)]; rw [if_neg (by decide)]; rw [if_neg (by decide)]; rw [if_neg (by decide)]; rw [if_neg (by decide)]; rw [if_pos rfl]
  go_enter Tryz.func15, Tryz.ntmps15
  go_wp2_with fail
  refine q5.out.mono ?_
  rintro e w1 ⟨rfl, hst⟩
  replace hst := hid hst
  go_wp2
  go_ret
  exact ⟨rfl, hst.out.after hB0.out⟩
 by_cases e6 : d = 6
 ·subst e6
  rw [if_neg (by decide)]; rw [if_neg (by decide)]; rw [if_neg (by decide)]; rw [if_neg (by decide)]; rw [if_neg (by decide)]; rw [if_neg (by decide)]; rw [if_pos rfl]
  go_enter Tryz.func15, Tryz.ntmps15
  go_wp2_with fail
  refine q6.out.mono ?_
  rintro e w1 ⟨rfl, hst⟩
  replace hst := hid hst
  go_wp2
  go_ret
  exact ⟨rfl, hst.out.after hB0.out⟩
 by_cases e7 : d = 7
 ·subst e7
  rw [if_neg (by decide)]; rw [if_neg (by decide)]; rw [if_neg (by decide)]; rw [if_neg (by decide)]; rw [if_neg (by decide)]; rw [if_neg (by decide)]; rw [if_neg (by decide)]; rw [if_pos rfl]
  go_enter Tryz.func15, Tryz.ntmps15
  go_wp2_with fail
  refine q7.out.mono ?_
  rintro e w1 ⟨rfl, hst⟩
  replace hst := hid hst
  go_wp2
  go_ret
  exact ⟨rfl, hst.out.after hB0.out⟩
 have f0 : (d == 0) = false := by simpa using e0
 have f1 : (d == 1) = false := by simpa using e1
 have f2 : (d == 2) = false := by simpa using e2
 have f3 : (d == 3) = false := by simpa using e3
 have f4 : (d == 4) = false := by simpa using e4
 have f5 : (d == 5) = false := by simpa using e5
 have f6 : (d == 6) = false := by simpa using e6
 have f7 : (d == 7) = false := by simpa using e7
 rw [if_neg e0, if_neg e1, if_neg e2, if_neg e3, if_neg e4, if_neg e5, if_neg e6, if_neg e7]
 clear e0 e1 e2 e3 e4 e5 e6 e7 q0 q1 q2 q3 q4 q5 q6 q7
 go_enter Tryz.func15, Tryz.ntmps15
 go_wp2
 go_ret
 exact ⟨rfl, Stp.same hR.out hB0.out⟩
end Go.Proofs.YtcjlfkklpghjbaaGreat

namespace Go.Proofs.YtcjlfkklpghjbaaGreat
open Go.RowKit
/-- v reads as the acts l. -/
def Acts (W : World) (v : Value) (l : List Act17) : Prop :=
  ∃ A c, v = .slice A l.length c ∧ l.length ≤ c ∧ c ≤ maxLen ∧ ∀ k (h : k < l.length), ∃ g o dv, A = some ⟨g, o, none⟩ ∧ RdB W dv (l[k]).data ∧ ∀ j, j < 9 → W.cell? ⟨g, o + k * 9 + j, none⟩ = (actCells l[k] dv)[j]?
theorem cell_lt {W : World} {a : Addr} {v : Value} (h : W.cell? a = some v) : a.block < W.heap.size := by
 rcases Nat.lt_or_ge a.block W.heap.size with h1 | h1
 ·exact h1
 ·simp [World.cell?, Array.getElem?_eq_none h1] at h
theorem Acts.below {W W' : World} {v : Value} {l : List Act17} (h : Acts W v l) (hb : Below W.heap.size W W') : Acts W' v l := by
 obtain ⟨A, c, h1, h2, h3, h4⟩ := h
 refine ⟨A, c, h1, h2, h3, fun k hk => ?_⟩
 obtain ⟨g, o, dv, e, h5, h6⟩ := h4 k hk
 refine ⟨g, o, dv, e, h5.below hb, fun j hj => ?_⟩
 have h7 := h6 0 (by omega)
 have hlt : g < W.heap.size := cell_lt (a := ⟨g, o + k * 9 + 0, none⟩) h7
 rw [← h6 j hj]
 simp only [World.cell?, hb.block g hlt]
def actOk (a : Act17) : Bool := decide (a.data.length ≤ 400) && decide (a.path.length ≤ 600) && decide (a.arg.length ≤ 600)
def small (l : List Act17) : Bool := l.all actOk && decide (l.length ≤ 40)
theorem ret_bool {a b : Bool} (h : a = b) : Ending.returned (.bool a) = .returned (.bool b) := by rw [h]
theorem all_take_snoc {α : Type} (f : α → Bool) (l : List α) {k : Nat} (hk : k < l.length) : (l.take (k + 1)).all f = ((l.take k).all f && f l[k]) := by
 rw [List.take_succ_eq_append_getElem hk, List.all_append]
 simp
theorem all_not {α : Type} {f : α → Bool} {l : List α} {k : Nat} (hk : k < l.length) (h : f l[k] = false) : l.all f = false := by
 rw [Bool.eq_false_iff]
 intro h2
 have := List.all_eq_true.1 h2 _ (List.getElem_mem hk)
 rw [h] at this
 cases this
set_option maxHeartbeats 2000000 in
set_option maxRecDepth 100000 in
theorem small_calls (v : Value) (l : List Act17) (w : World) (hv : Acts w v l) :
    Calls Tryz.prog 4 #[v] w fun e w' => e = .returned (.bool (small l)) ∧ w = w' := by
  obtain ⟨A, c, rfl, h2, h3, h4⟩ := hv
  unfold maxLen at h3
  replace h4 := hid h4
  go_enter Tryz.func4, Tryz.ntmps4
  go_wp2_with fail
  go_loop [3] (fun i => ∃ k : Nat, i = .int .i64 k ∧ k ≤ l.length ∧ (l.take k).all actOk = true) (fun i => l.length - (intOf i).toNat)
  case atStart => exact ⟨0, rfl, Nat.zero_le _, by simp⟩
  case round =>
    obtain ⟨k, rfl, hk, hall⟩ := hrel
    replace hall := hid hall
    by_cases hlt : k < l.length
    · obtain ⟨g, o, dv, rfl, hdv, hc⟩ := h4.out k hlt
      obtain ⟨dA, dc, rfl, _, _⟩ := hdv
      have c1 : w.cell? ⟨g, o + k * 9 + 1, none⟩ = some (.string (mkS (l[k]).path)) := hc 1 (by decide)
      have c2 : w.cell? ⟨g, o + k * 9 + 2, none⟩ = some (.string (mkS (l[k]).arg)) := hc 2 (by decide)
      have c3 : w.cell? ⟨g, o + k * 9 + 3, none⟩ = some (.slice dA (l[k]).data.length dc) := hc 3 (by decide)
      clear hc
      have hs1 := mkS_size (l[k]).path
      have hs2 := mkS_size (l[k]).arg
      have hat := all_take_snoc actOk l hlt
      have hno := all_not (f := actOk) (l := l) hlt
      replace hat := hid hat
      replace hno := hid hno
      have hbad : actOk l[k] = false → small l = false := fun h => by unfold small; rw [hno.out h]; rfl
      have hgood : actOk l[k] = true → (l.take (k + 1)).all actOk = true := fun h => by rw [hat.out, hall.out, h]; rfl
      replace hbad := hid hbad
      replace hgood := hid hgood
      go_wp2
      all_goals first
        | (go_round
           case rel => exact ⟨k + 1, by go_num, by omega, hgood.out (by unfold actOk; simp only [Bool.and_eq_true, decide_eq_true_eq]; omega)⟩
           case measure => simp [intOf]; omega)
        | (go_ret
           rw [hbad.out (by unfold actOk; simp only [Bool.and_eq_false_iff, decide_eq_false_iff_not]; omega)]
           exact ⟨rfl, rfl⟩)
    · obtain rfl : k = l.length := by omega
      rw [List.take_length] at hall
      have hfin : small l = decide (l.length ≤ 40) := by unfold small; rw [hall.out]; rfl
      replace hfin := hid hfin
      go_wp2
      go_ret
      rw [hfin.out]
      exact ⟨ret_bool (by rw [Bool.eq_iff_iff]; simp only [decide_eq_true_eq]; omega), rfl⟩
/-! ### how much an act adds -/
def Grow (T T' : Fs) : Prop := T'.names.length ≤ T.names.length + 1 ∧ T'.next ≤ T.next + 1
theorem grow_refl (T : Fs) : Grow T T := ⟨Nat.le_succ _, Nat.le_succ _⟩
theorem grow_add (T : Fs) (p : Pt) (n : Nd) : Grow T (T.add p n) := ⟨by simp [Fs.add], by simp [Fs.add]⟩
theorem grow_set (T : Fs) (i : Nat) (n : Nd) : Grow T (T.set i n) := ⟨by simp [Fs.set], by simp [Fs.set]⟩
theorem grow_name (T : Fs) (p : Pt) (i : Nat) : Grow T (T.name p i) := ⟨by simp [Fs.name], by simp [Fs.name]⟩
theorem gone_few (T : Fs) (p : Pt) (i : Nat) : (T.gone p i).names.length ≤ T.names.length := List.length_filter_le _ _
theorem grow_gone (T : Fs) (p : Pt) (i : Nat) : Grow T (T.gone p i) := ⟨Nat.le_succ_of_le (gone_few T p i), by simp [Fs.gone]⟩
theorem grow_move (T : Fs) (o p : Pt) : Grow T (T.move o p) := ⟨by simp [Fs.move], by simp [Fs.move]⟩
theorem grow_over (T : Fs) (o p : Pt) (j : Nat) : Grow T ((T.gone p j).move o p) := ⟨by have := gone_few T p j; simp [Fs.move]; omega, by simp [Fs.move, Fs.gone]⟩
theorem grow_act (T : Fs) (a : Act17) : Grow T (T.act a).1 := by
 have g1 : ∀ s m, Grow T (T.mkdir s m).1 := fun s m => by unfold Fs.mkdir; (repeat' split); all_goals first | exact grow_refl T | exact grow_add T _ _
 have g2 : ∀ s b m, Grow T (T.write s b m).1 := fun s b m => by unfold Fs.write; (repeat' split); all_goals first | exact grow_refl T | exact grow_add T _ _ | exact grow_set T _ _
 have g3 : ∀ s t m, Grow T (T.symlink s t m).1 := fun s t m => by unfold Fs.symlink; (repeat' split); all_goals first | exact grow_refl T | exact grow_add T _ _
 have g4 : ∀ o p, Grow T (T.link o p).1 := fun o p => by unfold Fs.link; (repeat' split); all_goals first | exact grow_refl T | exact grow_name T _ _
 have g5 : ∀ s, Grow T (T.remove s).1 := fun s => by unfold Fs.remove; (repeat' split); all_goals first | exact grow_refl T | exact grow_gone T _ _
 have g6 : ∀ o p, Grow T (T.rename o p).1 := fun o p => by unfold Fs.rename Fs.ren2 Fs.ren3; (repeat' split); all_goals first | exact grow_refl T | exact grow_move T _ _ | exact grow_over T _ _ _
 have g7 : ∀ s m, Grow T (T.setM s m).1 := fun s m => by unfold Fs.setM; (repeat' split); all_goals first | exact grow_refl T | exact grow_set T _ _
 have g8 : ∀ s b, Grow T (T.append s b).1 := fun s b => by unfold Fs.append; (repeat' split); all_goals first | exact grow_refl T | exact grow_set T _ _
 unfold Fs.act
 repeat' split
 all_goals first | exact g1 _ _ | exact g2 _ _ _ | exact g3 _ _ _ | exact g4 _ _ | exact g5 _ | exact g6 _ _ | exact g7 _ _ | exact g8 _ _ | exact grow_refl T
def Fs.acts (T : Fs) (l : List Act17) : Fs := l.foldl (fun T a => (T.act a).1) T
def Fs.build (l : List Act17) : Fs := Fs.start.acts l
theorem acts_snoc (T : Fs) (l : List Act17) (a : Act17) : T.acts (l ++ [a]) = ((T.acts l).act a).1 := by simp [Fs.acts]
theorem acts_grow (T : Fs) : ∀ l : List Act17, (T.acts l).names.length ≤ T.names.length + l.length ∧ (T.acts l).next ≤ T.next + l.length := by
 refine snoc_rec (by simp [Fs.acts]) fun l a ih => ?_
 rw [acts_snoc]
 have := grow_act (T.acts l) a
 obtain ⟨h1, h2⟩ := this
 simp only [List.length_append, List.length_singleton]
 omega
/-- A call on a tree of one's own leaves what was there. -/
theorem Stp.mine {w wr w' : World} {tb : Nat} {A M : Nat → Nat} {T T' : Fs} (hB : Below w.heap.size w wr) (hown : ∀ b, Own tb A M T b → w.heap.size ≤ b) (hs : Stp wr w' tb A M T T') : Below w.heap.size w w' ∧ ∃ A' M', Rep w' tb A' M' T' ∧ ∀ b, Own tb A' M' T' b → w.heap.size ≤ b := by
 obtain ⟨A', M', h1, h2, h3⟩ := hs
 refine ⟨hB.trans ⟨h2.os, h2.tape, h2.output, h2.size, fun k hk => h2.block k (Nat.lt_of_lt_of_le hk hB.size) (fun h => by have := hown k h; omega)⟩, A', M', h1, fun b hb => ?_⟩
 rcases h3 b hb with h | h
 ·exact hown b h
 ·exact Nat.le_trans hB.size h
theorem small_at {l : List Act17} (h : small l = true) : l.length ≤ 40 ∧ ∀ a ∈ l, a.data.length ≤ 400 ∧ a.path.length ≤ 600 ∧ a.arg.length ≤ 600 := by
 unfold small at h
 simp only [Bool.and_eq_true, decide_eq_true_eq, List.all_eq_true] at h
 refine ⟨h.2, fun a ha => ?_⟩
 have := h.1 a ha
 unfold actOk at this
 simp only [Bool.and_eq_true, decide_eq_true_eq] at this
 exact ⟨this.1.1, this.1.2, this.2⟩
set_option maxHeartbeats 4000000 in
set_option maxRecDepth 100000 in
theorem build_calls (v : Value) (l : List Act17) (w : World) (hv : Acts w v l) (hs : small l = true) :
  Calls Tryz.prog 6 #[v] w (NewTree w (Fs.build l)) := by
 obtain ⟨hl40, hsm⟩ := small_at hs
 have hv0 := hv
 obtain ⟨A, c, rfl, h2, h3, h4⟩ := hv
 unfold maxLen at h3
 have hnew := new_calls w
 replace h4 := hid h4
 replace hsm := hid hsm
 replace hnew := hid hnew
 replace hv0 := hid hv0
 clear hs
 go_enter Tryz.func6, Tryz.ntmps6
 go_wp2_with fail
 refine hnew.out.mono ?_
 rintro e w0 ⟨tc, C, MC, rfl, hR0, hO0, hB0⟩
 replace hR0 := hid hR0
 replace hO0 := hid hO0
 replace hB0 := hid hB0
 go_wp2_with fail
 go_loopw [4] (fun i wr => ∃ (k : Nat) (C1 MC1 : Nat → Nat), i = .int .i64 k ∧ k ≤ l.length ∧ Rep wr tc C1 MC1 (Fs.build (l.take k)) ∧ (∀ b, Own tc C1 MC1 (Fs.build (l.take k)) b → w.heap.size ≤ b) ∧ Below w.heap.size w wr) (fun i _ => l.length - (intOf i).toNat)
 case atStart => exact ⟨0, C, MC, rfl, Nat.zero_le _, hR0.out, hO0.out, hB0.out⟩
 case round =>
  clear hR0 hO0 hB0
  obtain ⟨k, C1, MC1, rfl, hk, hR, hO, hB⟩ := hrel
  by_cases hlt : k < l.length
  ·obtain ⟨g, o, dv, rfl, hdv, hc⟩ := h4.out k hlt
   obtain ⟨h5, h6, h7⟩ := hsm.out _ (List.getElem_mem hlt)
   have hgr := acts_grow Fs.start (l.take k)
   have hnm : (Fs.build (l.take k)).names.length ≤ 1000000 := by
    have h8 : (l.take k).length ≤ k := List.length_take_le _ _
    have : (Fs.build (l.take k)).names.length ≤ Fs.start.names.length + (l.take k).length := hgr.1
    have h9 : Fs.start.names.length = 1 := rfl
    omega
   have hnx : (Fs.build (l.take k)).next < 4611686018427387904 := by
    have h8 : (l.take k).length ≤ k := List.length_take_le _ _
    have : (Fs.build (l.take k)).next ≤ Fs.start.next + (l.take k).length := hgr.2
    have h9 : Fs.start.next = 2 := rfl
    omega
   have hdv' := hdv.below hB
   have hglt : g < w.heap.size := cell_lt (a := ⟨g, o + k * 9 + 0, none⟩) (hc 0 (by decide))
   have hc' : ∀ j, j < 9 → wr.cell? ⟨g, o + k * 9 + j, none⟩ = (actCells l[k] dv)[j]? := fun j hj => by
    rw [← hc j hj]
    simp only [World.cell?, hB.block g hglt]
   have hcall := do_calls tc C1 MC1 (Fs.build (l.take k)) l[k] dv wr hR (by omega) (by omega) hdv' (by omega) hnx hnm
   have hbs : ((Fs.build (l.take k)).act l[k]).1 = Fs.build (l.take (k + 1)) := by
    rw [List.take_succ_eq_append_getElem hlt]
    exact (acts_snoc _ _ _).symm
   rw [hbs] at hcall
   have d0 : wr.cell? ⟨g, o + k * 9, none⟩ = some (.int .i64 (l[k]).d) := hc' 0 (by decide)
   have d1 : wr.cell? ⟨g, o + k * 9 + 1, none⟩ = some (.string (mkS (l[k]).path)) := hc' 1 (by decide)
   have d2 : wr.cell? ⟨g, o + k * 9 + 2, none⟩ = some (.string (mkS (l[k]).arg)) := hc' 2 (by decide)
   have d3 : wr.cell? ⟨g, o + k * 9 + 3, none⟩ = some dv := hc' 3 (by decide)
   have d4 : wr.cell? ⟨g, o + k * 9 + 4, none⟩ = some (.int .i64 (l[k]).mt.mode) := hc' 4 (by decide)
   have d5 : wr.cell? ⟨g, o + k * 9 + 5, none⟩ = some (.int .i64 (l[k]).mt.sec) := hc' 5 (by decide)
   have d6 : wr.cell? ⟨g, o + k * 9 + 6, none⟩ = some (.int .i64 (l[k]).mt.nano) := hc' 6 (by decide)
   have d7 : wr.cell? ⟨g, o + k * 9 + 7, none⟩ = some (.int .i64 (l[k]).mt.uid) := hc' 7 (by decide)
   have d8 : wr.cell? ⟨g, o + k * 9 + 8, none⟩ = some (.int .i64 (l[k]).mt.gid) := hc' 8 (by decide)
   have hfin := fun w' (hst : Stp wr w' tc C1 MC1 (Fs.build (l.take k)) (Fs.build (l.take (k + 1)))) => Stp.mine hB hO hst
   unfold actV actCells ptr at hcall
   replace hcall := hid hcall
   replace hfin := hid hfin
   clear hR hO hB hc hc' hdv hdv' hbs hgr hnm hnx
   go_wp2_with fail
   refine hcall.out.mono ?_
   rintro e w1 ⟨rfl, hst⟩
   obtain ⟨hB1, C2, MC2, hR2, hO2⟩ := hfin.out w1 hst
   replace hB1 := hid hB1
   replace hR2 := hid hR2
   replace hO2 := hid hO2
   clear hst hfin hcall
   go_wp2
   go_roundw
   case rel => exact ⟨k + 1, C2, MC2, by go_num, by omega, hR2.out, hO2.out, hB1.out⟩
   case measure => simp [intOf]; omega
  ·obtain rfl : k = l.length := by omega
   rw [List.take_length] at hR hO
   replace hR := hid hR
   replace hO := hid hO
   replace hB := hid hB
   go_wp2
   go_ret
   exact ⟨tc, C1, MC1, rfl, hR.out, hO.out, hB.out⟩
end Go.Proofs.YtcjlfkklpghjbaaGreat

namespace Go.Proofs.YtcjlfkklpghjbaaGreat
structure Ent where
  path : Bytes
  kind : Int
  size : Int
  mt : Mt
  target : Bytes
  sum : Bytes
  group : Int
deriving DecidableEq
/-- What is wrong with an entry's arguments. -/
def entBad (x : Ent) : Bool :=
  !metaOk x.mt || decide (x.size < 0) || decide (x.kind = 1 ∧ 65536 < x.size) || decide (x.kind = 2 ∧ 2147483647 < x.size) || decide (x.kind ≠ 3 ∧ x.target ≠ []) ||
  decide (x.kind = 3 ∧ (x.target = [] ∨ 200 < x.target.length ∨ x.size ≠ (x.target.length : Int))) || decide (x.sum ≠ [] ∧ (x.kind ≠ 1 ∨ x.sum.length ≠ 32)) || decide (x.group < 0) || decide (0 < x.group ∧ x.kind ≠ 1)
/-- What is wrong with an entry by itself. -/
def entE (x : Ent) : Int := if right x.path = false ∨ x.path = [] then 9 else if x.kind ≠ 1 ∧ x.kind ≠ 2 ∧ x.kind ≠ 3 then 17 else if entBad x = true then 2 else 0
def dirIn (done : List Ent) (up : Bytes) : Bool := decide (up = []) || done.any fun y => decide (y.path = up) && decide (y.kind = 2)
def mostG (done : List Ent) : Int := done.foldl (fun m y => max m y.group) 0
/-- What is wrong with an entry behind others. -/
def stepE (done : List Ent) (x : Ent) : Int :=
  if entE x ≠ 0 then entE x else
  match done.getLast? with
  | none => if dirIn done (parent x.path) = false then 12 else if mostG done + 1 < x.group then 5 else 0
  | some y => if x.path = y.path then 11 else if lessP x.path y.path = true then 3 else if dirIn done (parent x.path) = false then 12 else if mostG done + 1 < x.group then 5 else 0
def chkFrom (done : List Ent) : List Ent → Int
  | [] => 0
  | x :: r => if stepE done x = 0 then chkFrom (done ++ [x]) r else stepE done x
/-- May a list be? -/
def chk (l : List Ent) : Int := chkFrom [] l
theorem chk_start (l : List Ent) : chk l = chkFrom (l.take 0) (l.drop 0) := by simp [chk]
theorem chk_step {l : List Ent} {k : Nat} (hk : k < l.length) (h : chk l = chkFrom (l.take k) (l.drop k)) (h0 : stepE (l.take k) l[k] = 0) : chk l = chkFrom (l.take (k + 1)) (l.drop (k + 1)) := by
 rw [h, List.drop_eq_getElem_cons hk, chkFrom, if_pos h0, List.take_succ_eq_append_getElem hk]
theorem chk_stop {l : List Ent} {k : Nat} (hk : k < l.length) (h : chk l = chkFrom (l.take k) (l.drop k)) (h0 : stepE (l.take k) l[k] ≠ 0) : chk l = stepE (l.take k) l[k] := by
 rw [h, List.drop_eq_getElem_cons hk, chkFrom, if_neg h0]
theorem chk_end {l : List Ent} (h : chk l = chkFrom (l.take l.length) (l.drop l.length)) : chk l = 0 := by
 rw [h, List.drop_length]
 rfl
/-- All rising. -/
def Rise (l : List Ent) : Prop := l.Pairwise fun a b => lessP a.path b.path = true
theorem lessP_trans {a b c : Bytes} (h : lessP a b = true) (k : lessP b c = true) : lessP a c = true := by
 unfold lessP at *
 simp only [decide_eq_true_eq] at *
 exact cmpP_trans h k
theorem lessP_ne {a b : Bytes} (h : lessP a b = true) : a ≠ b := fun e => by
 subst e
 unfold lessP at h
 simp only [decide_eq_true_eq, cmpP_self] at h
 omega
theorem lessP_tri {a b : Bytes} (h1 : a ≠ b) (h2 : lessP a b = false) : lessP b a = true := by
 unfold lessP at *
 simp only [decide_eq_true_eq, decide_eq_false_iff_not] at *
 have h3 : cmpP a b ≠ 0 := fun e => h1 (cmpP_eq e)
 rw [cmpP_swap a b]
 omega
theorem rise_snoc {l : List Ent} {x : Ent} (h : Rise l) (hx : ∀ y, l.getLast? = some y → lessP y.path x.path = true) : Rise (l ++ [x]) := by
 unfold Rise at *
 rw [List.pairwise_append]
 refine ⟨h, List.pairwise_singleton _ _, fun a ha b hb => ?_⟩
 rw [List.mem_singleton.1 hb]
 have hne : l ≠ [] := List.ne_nil_of_mem ha
 have hl := hx _ (List.getLast?_eq_some_getLast hne)
 rw [← List.dropLast_concat_getLast hne] at ha h
 rw [List.pairwise_append] at h
 rcases List.mem_append.1 ha with h1 | h1
 ·exact lessP_trans (h.2.2 a h1 _ (List.mem_singleton_self _)) hl
 ·rw [List.mem_singleton.1 h1]
  exact hl
theorem stepE_zero {done : List Ent} {x : Ent} (h : stepE done x = 0) : entE x = 0 ∧ (∀ y, done.getLast? = some y → lessP y.path x.path = true) ∧ dirIn done (parent x.path) = true ∧ x.group ≤ mostG done + 1 := by
 unfold stepE at h
 by_cases h1 : entE x = 0
 ·rw [if_neg (by simp [h1])] at h
  cases hl : done.getLast? with
  | none =>
   rw [hl] at h
   dsimp only at h
   by_cases h2 : dirIn done (parent x.path) = false
   ·rw [if_pos h2] at h
    cases h
   ·rw [if_neg h2] at h
    by_cases h3 : mostG done + 1 < x.group
    ·rw [if_pos h3] at h
     cases h
    ·exact ⟨h1, (by intro y hy; cases hy), by simpa using h2, by omega⟩
  | some y =>
   rw [hl] at h
   dsimp only at h
   by_cases h4 : x.path = y.path
   ·rw [if_pos h4] at h
    cases h
   ·rw [if_neg h4] at h
    by_cases h5 : lessP x.path y.path = true
    ·rw [if_pos h5] at h
     cases h
    ·rw [if_neg h5] at h
     by_cases h2 : dirIn done (parent x.path) = false
     ·rw [if_pos h2] at h
      cases h
     ·rw [if_neg h2] at h
      by_cases h3 : mostG done + 1 < x.group
      ·rw [if_pos h3] at h
       cases h
      ·refine ⟨h1, ?_, by simpa using h2, by omega⟩
       intro z hz
       cases hz
       exact lessP_tri h4 (by simpa using h5)
 ·rw [if_pos h1] at h
  exact absurd h h1
/-- What all entries of a list that may be have. -/
structure ChkOk (l : List Ent) : Prop where
  rise : Rise l
  each : ∀ x ∈ l, entE x = 0
theorem chkOk_nil : ChkOk [] := ⟨List.Pairwise.nil, by simp⟩
theorem ChkOk.snoc {l : List Ent} {x : Ent} (h : ChkOk l) (h0 : stepE l x = 0) : ChkOk (l ++ [x]) := by
 obtain ⟨h1, h2, _, _⟩ := stepE_zero h0
 refine ⟨rise_snoc h.rise h2, fun y hy => ?_⟩
 rcases List.mem_append.1 hy with hy | hy
 ·exact h.each y hy
 ·rw [List.mem_singleton.1 hy]
  exact h1
theorem entE_path {x : Ent} (h : entE x = 0) : right x.path = true ∧ x.path ≠ [] := by
 unfold entE at h
 by_cases h1 : right x.path = false ∨ x.path = []
 ·rw [if_pos h1] at h
  cases h
 ·refine ⟨?_, fun e => h1 (Or.inr e)⟩
  cases hr : right x.path with
  | true => rfl
  | false => exact absurd (Or.inl hr) h1
theorem mostG_snoc (l : List Ent) (x : Ent) : mostG (l ++ [x]) = max (mostG l) x.group := by simp [mostG]
/-- The first entry of a path. -/
def entAt (l : List Ent) (p : Bytes) : Option Ent := l.find? fun x => decide (x.path = p)
theorem entAt_some {l : List Ent} {p : Bytes} {x : Ent} (h : entAt l p = some x) : x ∈ l ∧ x.path = p := by
 unfold entAt at h
 exact ⟨List.mem_of_find?_eq_some h, by simpa using List.find?_some h⟩
theorem entAt_none {l : List Ent} {p : Bytes} (h : entAt l p = none) : ∀ x ∈ l, x.path ≠ p := by
 unfold entAt at h
 rw [List.find?_eq_none] at h
 intro x hx
 simpa using h x hx
/-- Two states of a path are alike. -/
def alikeE : Option Ent → Option Ent → Bool
  | none, none => true
  | some a, some b => decide (a.kind = b.kind) && decide (a.mt = b.mt) && decide (a.target = b.target) && (decide (a.kind ≠ 1) || (decide (a.size = b.size) && decide (a.sum = b.sum)))
  | _, _ => false
theorem alikeE_comm (a b : Option Ent) : alikeE a b = alikeE b a := by
 cases a <;> cases b <;> simp only [alikeE]
 rename_i a b
 rw [Bool.eq_iff_iff]
 simp only [Bool.and_eq_true, Bool.or_eq_true, decide_eq_true_eq]
 constructor
 ·rintro ⟨⟨⟨h1, h2⟩, h3⟩, h4⟩
  refine ⟨⟨⟨h1.symm, h2.symm⟩, h3.symm⟩, ?_⟩
  rw [← h1]
  exact h4.imp id fun ⟨h5, h6⟩ => ⟨h5.symm, h6.symm⟩
 ·rintro ⟨⟨⟨h1, h2⟩, h3⟩, h4⟩
  refine ⟨⟨⟨h1.symm, h2.symm⟩, h3.symm⟩, ?_⟩
  rw [← h1]
  exact h4.imp id fun ⟨h5, h6⟩ => ⟨h5.symm, h6.symm⟩
def isDirE : Option Ent → Bool
  | some a => decide (a.kind = 2)
  | none => false
/-- Is the time of the first one later? -/
def laterM (a b : Mt) : Bool := decide (b.sec < a.sec) || (decide (a.sec = b.sec) && decide (b.nano < a.nano))
def wishE (w a b : Option Ent) (policy : Int) : Int :=
  if alikeE b w = true then 1 else if alikeE a w = true then 2 else if policy ≠ 3 then policy else
  match a, b with
  | none, _ => 2
  | some x, some y => if laterM y.mt x.mt = true then 2 else 1
  | some _, none => 1
end Go.Proofs.YtcjlfkklpghjbaaGreat

namespace Go.Proofs.YtcjlfkklpghjbaaGreat
/-! ### all paths, each once -/
/-- The first k of a row, each that is not like the one ahead of it. -/
def uniqTo (l : List Bytes) : Nat → List Bytes
  | 0 => []
  | k + 1 => match l[k]? with
    | none => uniqTo l k
    | some x => if k = 0 ∨ l[k - 1]? ≠ some x then uniqTo l k ++ [x] else uniqTo l k
theorem uniqTo_new {l : List Bytes} {k : Nat} (hk : k < l.length) (h : k = 0 ∨ l[k - 1]? ≠ some l[k]) : uniqTo l (k + 1) = uniqTo l k ++ [l[k]] := by
 rw [uniqTo, List.getElem?_eq_getElem hk]
 exact if_pos h
theorem uniqTo_old {l : List Bytes} {k : Nat} (hk : k < l.length) (h : ¬ (k = 0 ∨ l[k - 1]? ≠ some l[k])) : uniqTo l (k + 1) = uniqTo l k := by
 rw [uniqTo, List.getElem?_eq_getElem hk]
 exact if_neg h
structure UniqIs (l : List Bytes) (k : Nat) (u : List Bytes) : Prop where
  rise : u.Pairwise fun a b => lessP a b = true
  mem : ∀ x, x ∈ u ↔ x ∈ l.take k
  last : ∀ x ∈ u, ∀ y, l[k - 1]? = some y → x = y ∨ lessP x y = true
theorem leP_less {a b : Bytes} (h : leP a b) : a = b ∨ lessP a b = true := by
 unfold leP at h
 unfold lessP
 rcases Int.lt_or_eq_of_le h with h1 | h1
 ·exact Or.inr (by simpa using h1)
 ·exact Or.inl (cmpP_eq h1)
theorem uniq_is {l : List Bytes} (hs : Sorted l) : ∀ k, k ≤ l.length → UniqIs l k (uniqTo l k)
 | 0, _ => ⟨List.Pairwise.nil, by simp [uniqTo], by simp [uniqTo]⟩
 | k + 1, hk => by
  have ih := uniq_is hs k (by omega)
  have hlt : k < l.length := hk
  have hle : ∀ i (hi : i < k), leP (l[i]'(by omega)) l[k] := fun i hi => List.pairwise_iff_getElem.1 hs i k (by omega) hlt hi
  by_cases h : k = 0 ∨ l[k - 1]? ≠ some l[k]
  ·rw [uniqTo_new hlt h]
   have hnew : ∀ x ∈ uniqTo l k, lessP x l[k] = true := fun x hx => by
    have hx2 := (ih.mem x).1 hx
    have hk0 : k ≠ 0 := fun e => by subst e; simp at hx2
    have h2 := h.resolve_left hk0
    have hlk : k - 1 < l.length := by omega
    rw [List.getElem?_eq_getElem hlk] at h2
    have h3 : l[k - 1] ≠ l[k] := fun e => h2 (by rw [e])
    have h4 := (leP_less (hle (k - 1) (by omega))).resolve_left h3
    rcases ih.last x hx _ (List.getElem?_eq_getElem hlk) with e | h5
    ·rw [e]
     exact h4
    ·exact lessP_trans h5 h4
   refine ⟨?_, fun x => ?_, fun x hx y hy => ?_⟩
   ·rw [List.pairwise_append]
    exact ⟨ih.rise, List.pairwise_singleton _ _, fun a ha b hb => by rw [List.mem_singleton.1 hb]; exact hnew a ha⟩
   ·rw [List.take_succ_eq_append_getElem hlt, List.mem_append, List.mem_append, ih.mem]
   ·rw [Nat.add_sub_cancel, List.getElem?_eq_getElem hlt] at hy
    cases hy
    rcases List.mem_append.1 hx with hx | hx
    ·exact Or.inr (hnew x hx)
    ·exact Or.inl (List.mem_singleton.1 hx)
  ·rw [uniqTo_old hlt h]
   have hk0 : k ≠ 0 := fun e => h (Or.inl e)
   have h2 : l[k - 1]? = some l[k] := Classical.byContradiction fun e => h (Or.inr e)
   refine ⟨ih.rise, fun x => ?_, fun x hx y hy => ?_⟩
   ·rw [ih.mem, List.take_succ_eq_append_getElem hlt, List.mem_append]
    constructor
    ·exact Or.inl
    ·rintro (h3 | h3)
     ·exact h3
     ·rw [List.mem_singleton.1 h3, List.mem_take_iff_getElem]
      obtain ⟨hl, he⟩ := List.getElem?_eq_some_iff.1 h2
      exact ⟨k - 1, by omega, he⟩
   ·rw [Nat.add_sub_cancel, List.getElem?_eq_getElem hlt] at hy
    cases hy
    exact ih.last x hx _ h2
def entPaths (l : List Ent) : List Bytes := l.map (·.path)
/-- All paths of two lists, rising. -/
def upaths (L R : List Ent) : List Bytes := uniqTo (sortP (entPaths L ++ entPaths R)) (sortP (entPaths L ++ entPaths R)).length
theorem upaths_is (L R : List Ent) : (upaths L R).Pairwise (fun a b => lessP a b = true) ∧ ∀ x, x ∈ upaths L R ↔ x ∈ entPaths L ∨ x ∈ entPaths R := by
 have h := uniq_is (sortP_sorted (entPaths L ++ entPaths R)) _ (Nat.le_refl _)
 refine ⟨h.rise, fun x => ?_⟩
 unfold upaths
 rw [h.mem, List.take_length, (sortP_perm _).mem_iff, List.mem_append]
theorem rise_nodup {l : List Bytes} (h : l.Pairwise fun a b => lessP a b = true) : l.Nodup := h.imp fun h => lessP_ne h
theorem rise_sorted {l : List Bytes} (h : l.Pairwise fun a b => lessP a b = true) : Sorted l := h.imp fun h => by
 unfold lessP at h
 unfold leP
 simp only [decide_eq_true_eq] at h
 omega
/-- What a row with the same paths, each once, is sorted to. -/
theorem sort_upaths {L R : List Ent} {o : List Bytes} (hn : o.Nodup) (hm : ∀ x, x ∈ o ↔ x ∈ entPaths L ∨ x ∈ entPaths R) : sortP o = upaths L R := by
 obtain ⟨h1, h2⟩ := upaths_is L R
 exact (sortP_eq ((List.perm_ext_iff_of_nodup (rise_nodup h1) hn).2 fun x => by rw [h2, hm]) (rise_sorted h1)).symm
/-! ### the acts -/
abbrev Acts44 := List (Bytes × Int)
def differs (L R : List Ent) (p : Bytes) : Bool := !alikeE (entAt L p) (entAt R p)
def wishAt (W L R : List Ent) (policy : Int) (p : Bytes) : Int := wishE (entAt W p) (entAt L p) (entAt R p) policy
/-- The wishes. -/
def actsOf (W L R : List Ent) (policy : Int) (u : List Bytes) : Acts44 := (u.filter (differs L R)).map fun p => (p, wishAt W L R policy p)
theorem actsOf_snoc (W L R : List Ent) (policy : Int) (u : List Bytes) (p : Bytes) : actsOf W L R policy (u ++ [p]) = actsOf W L R policy u ++ (if differs L R p = true then [(p, wishAt W L R policy p)] else []) := by
 unfold actsOf
 rw [List.filter_append, List.map_append]
 congr 1
 by_cases h : differs L R p = true
 ·rw [if_pos h, List.filter_cons_of_pos h]
  rfl
 ·rw [if_neg h, List.filter_cons_of_neg h]
  rfl
/-- Is there an act below a path with another wish, whose path stands in a list? -/
def belowA (l : Acts44) (list : List Ent) (p : Bytes) (tw : Int) : Bool := l.any fun y => decide (y.1 ≠ p) && under y.1 p && decide (y.2 ≠ tw) && (entAt list y.1).isSome
def heldA (l : Acts44) (L R : List Ent) (y : Bytes × Int) : Int :=
  if isDirE (entAt L y.1) = true ∧ isDirE (entAt R y.1) = false ∧ y.2 = 2 ∧ belowA l L y.1 2 = true then (if (entAt R y.1).isSome = true then 0 else 1)
  else if isDirE (entAt R y.1) = true ∧ isDirE (entAt L y.1) = false ∧ y.2 = 1 ∧ belowA l R y.1 1 = true then (if (entAt L y.1).isSome = true then 0 else 2)
  else y.2
def heldL (l : Acts44) (L R : List Ent) : Acts44 := l.map fun y => (y.1, heldA l L R y)
/-- Does an act hold all that is below it? -/
def sticks (L R : List Ent) (y : Bytes × Int) : Bool := decide (y.2 = 0) && !(isDirE (entAt L y.1) && isDirE (entAt R y.1))
def stuckL (L R : List Ent) (l : Acts44) : List Bytes := (l.filter (sticks L R)).map (·.1)
def markTo (L R : List Ent) (l : Acts44) : Nat → Acts44
  | 0 => []
  | k + 1 => match l[k]? with
    | none => markTo L R l k
    | some y => markTo L R l k ++ [(y.1, if (stuckL L R (l.take k)).any (fun q => under y.1 q) = true then 0 else y.2)]
def markL (L R : List Ent) (l : Acts44) : Acts44 := markTo L R l l.length
def planL (W L R : List Ent) (policy : Int) : Acts44 := markL L R (heldL (actsOf W L R policy (upaths L R)) L R)
def planE (W L R : List Ent) (policy : Int) : Acts44 × Int :=
  if chk W ≠ 0 then ([], chk W) else if chk L ≠ 0 then ([], chk L) else if chk R ≠ 0 then ([], chk R) else if policy < 0 ∨ 3 < policy then ([], 2) else (planL W L R policy, 0)
def clashL (l : Acts44) : List Bytes := (l.filter fun y => decide (y.2 = 0)).map (·.1)
theorem markTo_step {L R : List Ent} {l : Acts44} {k : Nat} (hk : k < l.length) : markTo L R l (k + 1) = markTo L R l k ++ [(l[k].1, if (stuckL L R (l.take k)).any (fun q => under l[k].1 q) = true then 0 else l[k].2)] := by
 rw [markTo, List.getElem?_eq_getElem hk]
theorem markTo_len {L R : List Ent} {l : Acts44} : ∀ k, k ≤ l.length → (markTo L R l k).length = k
 | 0, _ => rfl
 | k + 1, hk => by
  rw [markTo_step hk, List.length_append, markTo_len k (by omega)]
  rfl
theorem stuckL_snoc (L R : List Ent) (l : Acts44) (y : Bytes × Int) : stuckL L R (l ++ [y]) = stuckL L R l ++ (if sticks L R y = true then [y.1] else []) := by
 unfold stuckL
 rw [List.filter_append, List.map_append]
 congr 1
 by_cases h : sticks L R y = true
 ·rw [if_pos h, List.filter_cons_of_pos h]
  rfl
 ·rw [if_neg h, List.filter_cons_of_neg h]
  rfl
/-! ### the reference marks in place -/
/-- The row where all acts ahead of i have marked what is below them. -/
def inPlace (L R : List Ent) (l : Acts44) (i : Nat) (k : Nat) (y : Bytes × Int) : Bytes × Int :=
  (y.1, if (stuckL L R (l.take (min i k))).any (fun q => under y.1 q) = true then 0 else y.2)
def placeL (L R : List Ent) (l : Acts44) (i : Nat) : Acts44 := l.mapIdx (inPlace L R l i)
end Go.Proofs.YtcjlfkklpghjbaaGreat

namespace Go.Proofs.YtcjlfkklpghjbaaGreat
/-- What stands at a path, whether anything does, and why nothing can be told. -/
def Fs.standing (T : Fs) (p : Bytes) : St × Bool × Int :=
  if (T.stat p).2 = 10 ∨ (T.stat p).2 = 12 then ((T.stat p).1, false, 0) else ((T.stat p).1, decide ((T.stat p).2 = 0), (T.stat p).2)
theorem look_codes (T : Fs) (s : Bytes) : (right s = true ∧ ((T.look s).2.2 = 0 ∨ (T.look s).2.2 = 10 ∨ (T.look s).2.2 = 12)) ∨ (right s = false ∧ (T.look s).2.2 = 9) := by
 unfold Fs.look
 cases hr : right s with
 | false => exact Or.inr ⟨rfl, rfl⟩
 | true =>
  refine Or.inl ⟨rfl, ?_⟩
  rw [if_pos rfl]
  split
  ·exact Or.inl rfl
  ·split
   ·exact Or.inr (Or.inl rfl)
   ·split
    ·exact Or.inl rfl
    ·exact Or.inr (Or.inr rfl)
theorem stat_codes (T : Fs) (s : Bytes) : (right s = true ∧ ((T.stat s).2 = 0 ∨ (T.stat s).2 = 10 ∨ (T.stat s).2 = 12)) ∨ (right s = false ∧ (T.stat s).2 = 9) := by
 have hl := look_codes T s
 have ht : (T.there s).2.2 = if (T.look s).2.2 = 0 ∧ (T.look s).1 = none then 10 else (T.look s).2.2 := rfl
 have hs : (T.stat s).2 = (T.there s).2.2 := by
  unfold Fs.stat
  split
  ·rename_i h
   rw [h]
   split <;> rfl
  ·rfl
 rw [hs, ht]
 rcases hl with ⟨h1, h2⟩ | ⟨h1, h2⟩
 ·refine Or.inl ⟨h1, ?_⟩
  split
  ·exact Or.inr (Or.inl rfl)
  ·exact h2
 ·refine Or.inr ⟨h1, ?_⟩
  rw [if_neg (by rw [h2]; simp)]
  exact h2
/-- Why nothing can be told hangs on the path alone. -/
theorem standing_e (T : Fs) (p : Bytes) : (T.standing p).2.2 = if right p = true then 0 else 9 := by
 unfold Fs.standing
 rcases stat_codes T p with ⟨h1, h2⟩ | ⟨h1, h2⟩
 ·rw [if_pos h1]
  split
  ·rfl
  ·rename_i h
   dsimp only
   omega
 ·rw [if_neg (by rw [h2]; decide), if_neg (by rw [h1]; simp)]
  exact h2
theorem stat_err {T : Fs} {s : Bytes} (h : (T.stat s).2 ≠ 0) : (T.stat s).1 = noSt := by
 unfold Fs.stat at h ⊢
 by_cases h0 : (T.there s).2.2 = 0
 ·rw [if_pos h0] at h ⊢
  cases hh : (T.there s).1 with
  | none => rfl
  | some i =>
   rw [hh] at h
   exact absurd rfl h
 ·rw [if_neg h0]
theorem standing_none {T : Fs} {p : Bytes} (h : (T.standing p).2.1 = false) : (T.standing p).1 = noSt := by
 have hs : (T.stat p).2 ≠ 0 := by
  unfold Fs.standing at h
  split at h
  ·omega
  ·simpa using h
 have : (T.standing p).1 = (T.stat p).1 := by unfold Fs.standing; split <;> rfl
 rw [this]
 exact stat_err hs
/-- The taker behind an act's first half. -/
def outF (G T : Fs) (p : Bytes) : Fs × Int :=
  if (T.standing p).2.2 ≠ 0 ∨ (T.standing p).2.1 = false then (T, (T.standing p).2.2)
  else if (G.standing p).2.2 ≠ 0 ∨ ((G.standing p).2.1 = true ∧ (T.standing p).1.kind = (G.standing p).1.kind) then (T, (G.standing p).2.2)
  else T.remove p
def putF (G T : Fs) (p : Bytes) (s : St) : Fs × Int :=
  if s.kind = 3 then T.symlink p s.target s.mt else if (G.read p).2 ≠ 0 then (T, (G.read p).2) else T.write p (G.read p).1 s.mt
/-- .. and behind its second half. -/
def overF (G T : Fs) (p : Bytes) : Fs × Int :=
  if (G.standing p).2.2 ≠ 0 ∨ (G.standing p).2.1 = false then (T, (G.standing p).2.2)
  else if (T.standing p).2.2 ≠ 0 then (T, (T.standing p).2.2)
  else if (G.standing p).1.kind = 2 then (if (T.standing p).2.1 = true ∧ (T.standing p).1.kind = 2 then T.setM p (G.standing p).1.mt else T.mkdir p (G.standing p).1.mt)
  else if (T.standing p).2.1 = true then (if (T.remove p).2 ≠ 0 then T.remove p else putF G (T.remove p).1 p (G.standing p).1)
  else putF G T p (G.standing p).1
theorem grow_setM (T : Fs) (p : Bytes) (m : Mt) : Grow T (T.setM p m).1 := grow_act T ⟨6, p, [], [], m⟩
theorem grow_mkdir (T : Fs) (p : Bytes) (m : Mt) : Grow T (T.mkdir p m).1 := grow_act T ⟨0, p, [], [], m⟩
theorem grow_write (T : Fs) (p b : Bytes) (m : Mt) : Grow T (T.write p b m).1 := grow_act T ⟨1, p, [], b, m⟩
theorem grow_symlink (T : Fs) (p t : Bytes) (m : Mt) : Grow T (T.symlink p t m).1 := grow_act T ⟨2, p, t, [], m⟩
/-- A removal makes nothing. -/
theorem remove_less (T : Fs) (p : Bytes) : (T.remove p).1.names.length ≤ T.names.length ∧ (T.remove p).1.next = T.next := by
 unfold Fs.remove
 (repeat' split) <;> first
  | exact ⟨Nat.le_refl _, rfl⟩
  | exact ⟨List.length_filter_le _ _, rfl⟩
theorem grow_outF (G T : Fs) (p : Bytes) : Grow T (outF G T p).1 := by
 unfold outF
 (repeat' split) <;> first
  | exact grow_refl T
  | exact ⟨Nat.le_succ_of_le (remove_less T p).1, by rw [(remove_less T p).2]; exact Nat.le_succ _⟩
theorem grow_putF (G T : Fs) (p : Bytes) (s : St) : Grow T (putF G T p s).1 := by
 unfold putF
 (repeat' split) <;> first
  | exact grow_refl T
  | exact grow_symlink T p _ _
  | exact grow_write T p _ _
theorem grow_overF (G T : Fs) (p : Bytes) : Grow T (overF G T p).1 := by
  have h1 := remove_less T p
  unfold overF
  (repeat' split) <;> first
    | exact grow_refl T
    | exact grow_setM T p _
    | exact grow_mkdir T p _
    | exact ⟨Nat.le_succ_of_le h1.1, by rw [h1.2]; exact Nat.le_succ _⟩
    | exact grow_putF _ _ _ _
    | (have h2 := grow_putF G (T.remove p).1 p (G.standing p).1
       unfold Grow at h2 ⊢
       omega)
/-- One act's half. -/
def onHalf (f : Fs → Fs → Bytes → Fs × Int) (S : Fs × Fs) (y : Bytes × Int) : (Fs × Fs) × Int :=
  if y.2 = 0 then (S, 0) else if y.2 = 2 then (((f S.2 S.1 y.1).1, S.2), (f S.2 S.1 y.1).2) else ((S.1, (f S.1 S.2 y.1).1), (f S.1 S.2 y.1).2)
/-- Acts one behind another, up to the first that tells an error. -/
def runF (f : Fs → Fs → Bytes → Fs × Int) : Acts44 → Fs × Fs → (Fs × Fs) × Int
  | [], S => (S, 0)
  | y :: l, S => if (onHalf f S y).2 ≠ 0 then onHalf f S y else runF f l (onHalf f S y).1
def doF (S : Fs × Fs) (l : Acts44) : (Fs × Fs) × Int :=
  if (runF outF l.reverse S).2 ≠ 0 then runF outF l.reverse S else runF overF l (runF outF l.reverse S).1
def Small2 (n : Nat) (S : Fs × Fs) : Prop := S.1.names.length + n ≤ 1000000 ∧ S.2.names.length + n ≤ 1000000 ∧ S.1.next + n < 4611686018427387904 ∧ S.2.next + n < 4611686018427387904
theorem Small2.half {f : Fs → Fs → Bytes → Fs × Int} (hf : ∀ G T p, Grow T (f G T p).1) {S : Fs × Fs} {n : Nat} (h : Small2 (n + 1) S) (y : Bytes × Int) : Small2 n (onHalf f S y).1 := by
 unfold Small2 at *
 unfold onHalf
 have h1 := hf S.2 S.1 y.1
 have h2 := hf S.1 S.2 y.1
 unfold Grow at h1 h2
 split
 ·dsimp only
  omega
 ·split
  ·dsimp only
   omega
  ·dsimp only
   omega
theorem take_reverse {l : Acts44} {k : Nat} (hk : k < l.length) : (l.take (k + 1)).reverse = l[k] :: (l.take k).reverse := by
 rw [List.take_succ_eq_append_getElem hk, List.reverse_append]
 rfl
end Go.Proofs.YtcjlfkklpghjbaaGreat

namespace Go.Proofs.YtcjlfkklpghjbaaGreat
section
variable {T : Fs}
theorem split_ne_nil {s : Bytes} (h : s ≠ []) : split s ≠ [] := fun e => h (split_eq_nil e)
theorem look_name (hI : T.Inv) {s : Bytes} {i : Nat} (hr : right s = true) (hm : (split s, i) ∈ T.names) : (T.look s).1 = some i ∧ (T.look s).2.2 = 0 := by
 unfold Fs.look
 rw [if_pos hr]
 by_cases hs : s = []
 ·subst hs
  rw [if_pos rfl]
  exact ⟨by rw [hI.at_one hm hI.one], rfl⟩
 ·rw [if_neg hs]
  obtain ⟨d, hd, hk⟩ := hI.up _ _ hm (split_ne_nil hs)
  rw [hI.at_some.2 hd]
  dsimp only
  rw [if_pos hk]
  exact ⟨hI.at_some.2 hm, rfl⟩
theorem there_name (hI : T.Inv) {s : Bytes} {i : Nat} (hr : right s = true) (hm : (split s, i) ∈ T.names) : (T.there s).1 = some i ∧ (T.there s).2.2 = 0 := by
 obtain ⟨h1, h2⟩ := look_name hI hr hm
 unfold Fs.there
 exact ⟨h1, by dsimp only; rw [if_neg (fun h => by rw [h1] at h; cases h.2), h2]⟩
theorem there_zero (hI : T.Inv) {s : Bytes} (h : (T.there s).2.2 = 0) : right s = true ∧ ∃ i, (T.there s).1 = some i ∧ (split s, i) ∈ T.names := by
 obtain ⟨h1, i, h2, h3, _⟩ := hI.there_ok h
 exact ⟨h1, i, h2, h3⟩
/-- A name as a text. -/
theorem Pth.text {p : Pt} (h : Pth p) : right (glue p) = true ∧ split (glue p) = p := by
 obtain ⟨s, h1, rfl⟩ := h
 rw [glue_split]
 exact ⟨h1, rfl⟩
theorem glue_ne {p : Pt} (h : Pth p) (hp : p ≠ []) : glue p ≠ [] := fun e => by
 have := h.text.2
 rw [e] at this
 exact hp this.symm
theorem mem_paths (hI : T.Inv) {s : Bytes} : s ∈ T.paths ↔ right s = true ∧ s ≠ [] ∧ ∃ i, (split s, i) ∈ T.names := by
 unfold Fs.paths
 rw [(sortP_perm _).mem_iff, List.mem_map]
 constructor
 ·rintro ⟨⟨t, j⟩, hm, rfl⟩
  obtain ⟨h1, h2⟩ := mem_below.1 hm
  rw [List.nil_append] at h2
  have hP := hI.pth _ _ h2
  obtain ⟨h3, h4⟩ := hP.text
  exact ⟨h3, glue_ne hP h1, j, by rw [h4]; exact h2⟩
 ·rintro ⟨h1, h2, i, hi⟩
  exact ⟨(split s, i), mem_below.2 ⟨split_ne_nil h2, by simpa using hi⟩, glue_split s⟩
theorem paths_len (T : Fs) : T.paths.length = (T.below []).length := by
 unfold Fs.paths
 rw [(sortP_perm _).length_eq, List.length_map]
theorem below_top_map (hI : T.Inv) : ∃ r, T.names = ([], 1) :: r ∧ T.below [] = r := by
 obtain ⟨r, e⟩ := hI.top
 refine ⟨r, e, ?_⟩
 have hnd := hI.nodup
 rw [e, List.map_cons] at hnd
 have hr : ∀ x ∈ r, x.1 ≠ [] := fun x hx h => (List.nodup_cons.1 hnd).1 (List.mem_map.2 ⟨x, hx, h⟩)
 unfold Fs.below
 rw [e, List.filterMap_cons]
 have h0 : (if ([] : Pt).isPrefixOf ([] : Pt) = true ∧ ([] : Pt) ≠ [] then some (([] : Pt).drop ([] : Pt).length, 1) else none : Option (Pt × Nat)) = none := if_neg (fun h => h.2 rfl)
 simp only [h0]
 clear e hnd h0
 induction r with
 | nil => rfl
 | cons a l ih =>
  have ha := hr a (List.mem_cons_self ..)
  rw [List.filterMap_cons]
  have : (if ([] : Pt).isPrefixOf a.1 = true ∧ a.1 ≠ [] then some (a.1.drop ([] : Pt).length, a.2) else none : Option (Pt × Nat)) = some a := by
   rw [if_pos ⟨by simp, ha⟩]
   simp
  rw [this]
  dsimp only
  rw [ih (fun x hx => hr x (List.mem_cons_of_mem _ hx))]
end
end Go.Proofs.YtcjlfkklpghjbaaGreat

namespace Go.Proofs.YtcjlfkklpghjbaaGreat
open Go.RowKit
def aw1 : Fs := (Fs.start.write [97] [120] noMt).1
def aw2 : Fs := (aw1.link [97] [98]).1
def aw3 : Fs := (aw2.write [98] [121, 122] ⟨0, 3, 0, 0, 0⟩).1
end Go.Proofs.YtcjlfkklpghjbaaGreat

namespace Go.Proofs.YtcjlfkklpghjbaaGreat
open Go.RowKit Go.ChangeShapes Go.WideShapes Go.Deep
section
variable {H : Type} {enc : TypeId × Value → H} {W : World} {spare : Nat → Bool} {held : Bool}
theorem laid_ok : laidOutB Tryz.prog = true := by kernel_rfl
theorem open_bytes {fuel : Nat} {cs : List Value} {x : DataW H × List MemPlace} (h : DataW.trod enc Tryz.prog W 0 spare held fuel 39 cs = some x) : ∃ v l, cs = [v] ∧ RdB W v l := by
 rcases open_ints Tryz.underlying39 Tryz.underlying5 (by kernel_rfl) h with ⟨rfl, _⟩ | ⟨a, len, cap, zs, rfl, _, h1, h2, h3, _, h5, h6⟩
 ·exact ⟨_, [], rfl, none, 0, rfl, Nat.le_refl _, Nat.zero_le _, fun j hj => by simp at hj⟩
 ·have hle : len ≤ zs.length := by rw [h3]; split <;> omega
  refine ⟨_, (zs.take len).map fun n => UInt8.ofNat n.toNat, rfl, some a, cap, ?_, ?_, h2, fun j hj => ?_⟩
  ·simp; omega
  ·simp; omega
  ·have hj' : j < len := by simp at hj; omega
   have hc := h5 j (by omega)
   have hsp := World.cell?_spot (h5 0 (by omega))
   obtain ⟨g, o, s⟩ := a
   have hs : s = none := by
    have e : (⟨g, o, s⟩ : Addr).add 0 = ⟨g, o, s⟩ := by simp [Addr.add]
    rw [e] at hsp
    exact hsp
   subst hs
   refine ⟨g, o, rfl, ?_⟩
   rw [add_plain] at hc
   rw [hc]
   have hwf := h6 (zs.getD j 0) (by simp [List.getD]; rw [List.getElem?_eq_getElem (by omega)]; simp)
   simp only [Lit.wf, Bool.and_eq_true, decide_eq_true_eq] at hwf
   have h0 : (0 : Int) ≤ zs.getD j 0 := hwf.1
   have h255 : zs.getD j 0 ≤ 255 := hwf.2
   congr 2
   simp only [List.getElem_map, List.getElem_take]
   have hz : zs.getD j 0 = zs[j] := by simp [List.getD]; rw [List.getElem?_eq_getElem (by omega)]; rfl
   rw [hz] at h0 h255 ⊢
   simp only [UInt8.toNat_ofNat']
   omega
set_option maxRecDepth 100000 in
theorem act_of_cells {fuel : Nat} {cs : List Value} {x : DataW H × List MemPlace} (h : DataW.trod enc Tryz.prog W 0 spare held fuel 43 cs = some x) : ∃ a dv, cs = actCells a dv ∧ RdB W dv a.data := by
 obtain ⟨xs, n, _, _, hl, hxl, hf⟩ := DataW.trod_struct Tryz.underlying43 h
 have hl9 : cs.length = 9 := hl.trans (by kernel_rfl)
 match cs, hl9 with
 | [c0, c1, c2, c3, c4, c5, c6, c7, c8], _ =>
  have hx : ∀ i, i < 5 → ∃ y, xs[i]? = some y := fun i hi => ⟨_, List.getElem?_eq_getElem (by rw [hxl]; exact hi)⟩
  obtain ⟨y0, e0⟩ := hx 0 (by decide)
  obtain ⟨y1, e1⟩ := hx 1 (by decide)
  obtain ⟨y2, e2⟩ := hx 2 (by decide)
  obtain ⟨y3, e3⟩ := hx 3 (by decide)
  obtain ⟨y4, e4⟩ := hx 4 (by decide)
  have f0 : DataW.trod enc Tryz.prog W 0 spare held n 3 (([c0, c1, c2, c3, c4, c5, c6, c7, c8].drop 0).take (Tryz.prog.cellsOf 3)) = some y0 := (hf 0 _ rfl).trans e0
  have f1 : DataW.trod enc Tryz.prog W 0 spare held n 9 (([c0, c1, c2, c3, c4, c5, c6, c7, c8].drop 1).take (Tryz.prog.cellsOf 9)) = some y1 := (hf 1 _ rfl).trans e1
  have f2 : DataW.trod enc Tryz.prog W 0 spare held n 9 (([c0, c1, c2, c3, c4, c5, c6, c7, c8].drop 2).take (Tryz.prog.cellsOf 9)) = some y2 := (hf 2 _ rfl).trans e2
  have f3 : DataW.trod enc Tryz.prog W 0 spare held n 39 (([c0, c1, c2, c3, c4, c5, c6, c7, c8].drop 3).take (Tryz.prog.cellsOf 39)) = some y3 := (hf 3 _ rfl).trans e3
  have f4 : DataW.trod enc Tryz.prog W 0 spare held n 41 (([c0, c1, c2, c3, c4, c5, c6, c7, c8].drop 4).take (Tryz.prog.cellsOf 41)) = some y4 := (hf 4 _ rfl).trans e4
  have k1 : Tryz.prog.cellsOf 3 = 1 := by kernel_rfl
  have k2 : Tryz.prog.cellsOf 9 = 1 := by kernel_rfl
  have k3 : Tryz.prog.cellsOf 39 = 1 := by kernel_rfl
  have k4 : Tryz.prog.cellsOf 41 = 5 := by kernel_rfl
  rw [k1] at f0
  rw [k2] at f1 f2
  rw [k3] at f3
  rw [k4] at f4
  simp only [List.drop_zero, List.drop_succ_cons, List.take_succ_cons, List.take_zero] at f0 f1 f2 f3 f4
  obtain ⟨d, q0, _⟩ := DataW.trod_int Tryz.underlying3 f0
  obtain ⟨p, q1, _⟩ := DataW.trod_string Tryz.underlying9 f1
  obtain ⟨t, q2, _⟩ := DataW.trod_string Tryz.underlying9 f2
  obtain ⟨dv, l, q3, hrd⟩ := open_bytes f3
  obtain ⟨zs, n', _, _, _, hzl, hg⟩ := DataW.trod_struct Tryz.underlying41 f4
  have hz : ∀ i, i < 5 → ∃ y, zs[i]? = some y := fun i hi => ⟨_, List.getElem?_eq_getElem (by rw [hzl]; exact hi)⟩
  obtain ⟨z0, u0⟩ := hz 0 (by decide)
  obtain ⟨z1, u1⟩ := hz 1 (by decide)
  obtain ⟨z2, u2⟩ := hz 2 (by decide)
  obtain ⟨z3, u3⟩ := hz 3 (by decide)
  obtain ⟨z4, u4⟩ := hz 4 (by decide)
  have g0 : DataW.trod enc Tryz.prog W 0 spare held n' 3 (([c4, c5, c6, c7, c8].drop 0).take (Tryz.prog.cellsOf 3)) = some z0 := (hg 0 _ rfl).trans u0
  have g1 : DataW.trod enc Tryz.prog W 0 spare held n' 3 (([c4, c5, c6, c7, c8].drop 1).take (Tryz.prog.cellsOf 3)) = some z1 := (hg 1 _ rfl).trans u1
  have g2 : DataW.trod enc Tryz.prog W 0 spare held n' 3 (([c4, c5, c6, c7, c8].drop 2).take (Tryz.prog.cellsOf 3)) = some z2 := (hg 2 _ rfl).trans u2
  have g3 : DataW.trod enc Tryz.prog W 0 spare held n' 3 (([c4, c5, c6, c7, c8].drop 3).take (Tryz.prog.cellsOf 3)) = some z3 := (hg 3 _ rfl).trans u3
  have g4 : DataW.trod enc Tryz.prog W 0 spare held n' 3 (([c4, c5, c6, c7, c8].drop 4).take (Tryz.prog.cellsOf 3)) = some z4 := (hg 4 _ rfl).trans u4
  rw [k1] at g0 g1 g2 g3 g4
  simp only [List.drop_zero, List.drop_succ_cons, List.take_succ_cons, List.take_zero] at g0 g1 g2 g3 g4
  obtain ⟨m0, v0, _⟩ := DataW.trod_int Tryz.underlying3 g0
  obtain ⟨m1, v1, _⟩ := DataW.trod_int Tryz.underlying3 g1
  obtain ⟨m2, v2, _⟩ := DataW.trod_int Tryz.underlying3 g2
  obtain ⟨m3, v3, _⟩ := DataW.trod_int Tryz.underlying3 g3
  obtain ⟨m4, v4, _⟩ := DataW.trod_int Tryz.underlying3 g4
  refine ⟨⟨d, bl p, bl t, l, ⟨m0, m1, m2, m3, m4⟩⟩, dv, ?_, hrd⟩
  simp only [List.cons.injEq, and_true] at q0 q1 q2 q3 v0 v1 v2 v3 v4
  subst q0 q1 q2 q3 v0 v1 v2 v3 v4
  simp [actCells, mkS_bl]
theorem choose_acts {m : Nat} {p : Nat → Act17 → Value → Prop} (h : ∀ i, i < m → ∃ a v, p i a v) : ∃ l : List Act17, l.length = m ∧ ∀ i (hi : i < l.length), ∃ v, p i l[i] v := by
 induction m with
 | zero => exact ⟨[], rfl, fun i hi => by simp at hi⟩
 | succ m ih =>
  obtain ⟨l, h1, h2⟩ := ih (fun i hi => h i (by omega))
  obtain ⟨a, v, hav⟩ := h m (by omega)
  refine ⟨l ++ [a], by simp [h1], fun i hi => ?_⟩
  by_cases hl : i < l.length
  ·rw [List.getElem_append_left hl]
   exact h2 i hl
  ·have : i = l.length := by simp at hi; omega
   subst this
   rw [List.getElem_append_right (Nat.le_refl _)]
   simp only [Nat.sub_self, List.getElem_cons_zero]
   exact ⟨v, by rw [h1]; exact hav⟩
end
end Go.Proofs.YtcjlfkklpghjbaaGreat

namespace Go.Proofs.YtcjlfkklpghjbaaGreat
open Go.RowKit
def ErrKeeps (T : Fs) (r : Fs × Int) : Prop := r.2 ≠ 0 → r.1 = T
/-- A tree apart from another one stays where the other one turns. -/
theorem Rep.beside {w w' : World} {tb ub : Nat} {A M B N : Nat → Nat} {T U : Fs} (hU : Rep w ub B N U) (hT : Rep w tb A M T) (hd : ∀ b, Own ub B N U b → ¬ Own tb A M T b) (ht : Turn w w' (Own tb A M T)) : Rep w' ub B N U :=
 hU.kept (fun b hb => ht.block b (hU.lt hb) (hd b hb)) (fun g ⟨cs, hg⟩ => ht.block g (Array.getElem?_eq_some_iff.1 hg).1 (hT.not_own hg (by decide) (by decide)))
/-- .. and so do both, apart still. -/
theorem Stp.two {w w' : World} {tb ub : Nat} {A M B N : Nat → Nat} {T T' U : Fs} (hU : Rep w ub B N U) (hT : Rep w tb A M T) (hd : ∀ b, Own ub B N U b → ¬ Own tb A M T b) (hs : Stp w w' tb A M T T') :
  Rep w' ub B N U ∧ ∃ A' M', Rep w' tb A' M' T' ∧ (∀ b, Own ub B N U b → ¬ Own tb A' M' T' b) ∧ ∀ b, Own tb A' M' T' b → Own tb A M T b ∨ w.heap.size ≤ b := by
 obtain ⟨A', M', h1, h2, h3⟩ := hs
 refine ⟨hU.beside hT hd h2, A', M', h1, fun b hb hb2 => ?_, h3⟩
 rcases h3 b hb2 with h | h
 ·exact hd b hb h
 ·have := hU.lt hb
  omega
end Go.Proofs.YtcjlfkklpghjbaaGreat

namespace Go.Proofs.YtcjlfkklpghjbaaGreat
open Go.RowKit
def rrow (A : Nat → Nat) (l : List (Pt × Nat)) : List Value := l.flatMap fun x => [.string (mkS (glue x.1)), ptr (A x.2)]
def rnode (n : Nd) (i : Nat) (dv : Value) : Array Value :=
  #[.int .i64 n.kind, .int .i64 i, dv, .string (mkS n.target), .int .i64 n.mt.mode, .int .i64 n.mt.sec, .int .i64 n.mt.nano, .int .i64 n.mt.uid, .int .i64 n.mt.gid]
theorem rrow_append (A : Nat → Nat) (l r : List (Pt × Nat)) : rrow A (l ++ r) = rrow A l ++ rrow A r := by simp [rrow]
theorem rrow_at (A : Nat → Nat) : ∀ (l : List (Pt × Nat)) (k : Nat) (x : Pt × Nat), l[k]? = some x → (rrow A l)[k * 2]? = some (.string (mkS (glue x.1))) ∧ (rrow A l)[k * 2 + 1]? = some (ptr (A x.2))
 | [], k, x, h => by simp at h
 | y :: l, 0, x, h => by
  simp only [List.getElem?_cons_zero, Option.some.injEq] at h
  subst h
  exact ⟨rfl, rfl⟩
 | y :: l, k + 1, x, h => by
  simp only [List.getElem?_cons_succ] at h
  obtain ⟨h1, h2⟩ := rrow_at A l k x h
  have e : rrow A (y :: l) = [.string (mkS (glue y.1)), ptr (A y.2)] ++ rrow A l := rfl
  rw [e, List.getElem?_append_right (by simp; omega), List.getElem?_append_right (by simp; omega)]
  rw [show (k + 1) * 2 - [Value.string (mkS (glue y.1)), ptr (A y.2)].length = k * 2 by simp; omega, show (k + 1) * 2 + 1 - [Value.string (mkS (glue y.1)), ptr (A y.2)].length = k * 2 + 1 by simp; omega]
  exact ⟨h1, h2⟩
theorem rrow_congr {A A' : Nat → Nat} : ∀ {l : List (Pt × Nat)}, (∀ x ∈ l, A' x.2 = A x.2) → rrow A' l = rrow A l
 | [], _ => rfl
 | x :: l, h => by
  have ih := rrow_congr (A := A) (A' := A') (l := l) fun y hy => h y (List.mem_cons_of_mem _ hy)
  have e1 : rrow A' (x :: l) = [.string (mkS (glue x.1)), ptr (A' x.2)] ++ rrow A' l := rfl
  have e2 : rrow A (x :: l) = [.string (mkS (glue x.1)), ptr (A x.2)] ++ rrow A l := rfl
  rw [e1, e2, ih, h x (List.mem_cons_self ..)]
/-- Block rb of w is the reference's tree T: its names' row is v, its thing i lies in block A i. -/
structure RRep (w : World) (rb : Nat) (v : Value) (A : Nat → Nat) (T : Fs) : Prop where
  inv : T.Inv
  tree : w.heap[rb]? = some (.cells #[v, .int .i64 T.next] 60 (0, 0))
  row : w.ownsRow 0 98 2 v T.names.length (rrow A T.names)
  node : ∀ i, T.Live i → ∃ dv, Dat w dv (T.nd i).data ∧ w.heap[A i]? = some (.cells (rnode (T.nd i) i dv) 96 (0, 0))
  injA : ∀ i j, T.Live i → T.Live j → A i = A j → i = j
/-- The blocks that its calls may write. -/
def ROwn (rb : Nat) (v : Value) (A : Nat → Nat) (T : Fs) (b : Nat) : Prop := b = rb ∨ v.ownBlock = some b ∨ ∃ i, T.Live i ∧ b = A i
theorem own_blocks {w w' : World} {base : Nat} {e : TypeId} {size n : Nat} {v : Value} {xs : List Value} (h : w.ownsRow base e size v n xs) (hk : ∀ g, v.ownBlock = some g → w'.heap[g]? = w.heap[g]?) : w'.ownsRow base e size v n xs := by
 obtain ⟨h1, h | ⟨g, cap, cur, rfl, hb, hh, r⟩⟩ := h
 ·exact ⟨h1, Or.inl h⟩
 ·exact ⟨h1, Or.inr ⟨g, cap, cur, rfl, hb, (hk g rfl).trans hh, r⟩⟩
theorem own_cells {w : World} {base : Nat} {e : TypeId} {size n : Nat} {v : Value} {xs : List Value} (h : w.ownsRow base e size v n xs) {g : Nat} (hg : v.ownBlock = some g) : base ≤ g ∧ ∃ cur, w.heap[g]? = some (.cells cur e (0, 0)) := by
 obtain ⟨h1, ⟨rfl, h⟩ | ⟨g', cap, cur, rfl, hb, hh, r⟩⟩ := h
 ·cases hg
 ·cases hg
  exact ⟨hb, cur, hh⟩
section
variable {w w' : World} {rb : Nat} {v : Value} {A : Nat → Nat} {T : Fs}
theorem RRep.kept (h : RRep w rb v A T) (hk : ∀ b, ROwn rb v A T b → w'.heap[b]? = w.heap[b]?)
  (hb : ∀ i, T.Live i → ∀ dv, Dat w dv (T.nd i).data → w.heap[A i]? = some (.cells (rnode (T.nd i) i dv) 96 (0, 0)) → Dat w' dv (T.nd i).data) : RRep w' rb v A T := by
 refine ⟨h.inv, (hk rb (Or.inl rfl)).trans h.tree, own_blocks h.row fun g hg => hk g (Or.inr (Or.inl hg)), fun i hi => ?_, h.injA⟩
 obtain ⟨dv, h1, h2⟩ := h.node i hi
 exact ⟨dv, hb i hi dv h1 h2, (hk _ (Or.inr (Or.inr ⟨i, hi, rfl⟩))).trans h2⟩
theorem RRep.lt (h : RRep w rb v A T) {b : Nat} (hb : ROwn rb v A T b) : b < w.heap.size := by
 rcases hb with rfl | hb | ⟨i, hi, rfl⟩
 ·exact (Array.getElem?_eq_some_iff.1 h.tree).1
 ·obtain ⟨_, cur, hc⟩ := own_cells h.row hb
  exact (Array.getElem?_eq_some_iff.1 hc).1
 ·obtain ⟨dv, _, h2⟩ := h.node i hi
  exact (Array.getElem?_eq_some_iff.1 h2).1
theorem RRep.below (h : RRep w rb v A T) (hb : Below w.heap.size w w') : RRep w' rb v A T :=
 h.kept (fun b ho => hb.block b (h.lt ho)) (fun _ _ _ hd _ => hd.kept fun g ⟨_, hc⟩ => hb.block g (Array.getElem?_eq_some_iff.1 hc).1)
theorem RRep.drewN (h : RRep w rb v A T) (n : Nat) : RRep (w.drewN n) rb v A T := h.below (below_drewN (Below.refl _ _) n)
theorem RRep.not_own (h : RRep w rb v A T) {g : Nat} {cs : Array Value} {t : TypeId} {f : Nat × Nat} (hg : w.heap[g]? = some (.cells cs t f)) (h1 : t ≠ 60) (h2 : t ≠ 98) (h3 : t ≠ 96) : ¬ ROwn rb v A T g := by
 rintro (rfl | hv | ⟨i, hi, rfl⟩)
 ·rw [h.tree] at hg
  cases hg
  exact h1 rfl
 ·obtain ⟨_, cur, hc⟩ := own_cells h.row hv
  rw [hc] at hg
  cases hg
  exact h2 rfl
 ·obtain ⟨dv, _, h4⟩ := h.node i hi
  rw [h4] at hg
  cases hg
  exact h3 rfl
theorem RRep.bytes_kept (hR : RRep w rb v A T) (ht : Turn w w' (ROwn rb v A T)) {g : Nat} (hg : ∃ cs, w.heap[g]? = some (Obj.cells cs 5 (0, 0))) : w'.heap[g]? = w.heap[g]? := by
 obtain ⟨cs, h⟩ := hg
 exact ht.block g (Array.getElem?_eq_some_iff.1 h).1 (hR.not_own h (by decide) (by decide) (by decide))
/-- The row's cells. -/
theorem RRep.at_ (h : RRep w rb v A T) : ∃ g c, v = .slice (some ⟨g, 0, none⟩) T.names.length c ∧ T.names.length ≤ c ∧ c ≤ maxLen ∧ 0 < T.names.length ∧ w.cell? ⟨rb, 0, none⟩ = some (.slice (some ⟨g, 0, none⟩) T.names.length c) ∧
  ∀ k x, T.names[k]? = some x → w.cell? ⟨g, k * 2, none⟩ = some (.string (mkS (glue x.1))) ∧ w.cell? ⟨g, k * 2 + 1, none⟩ = some (ptr (A x.2)) := by
 have hp : 0 < T.names.length := by
  obtain ⟨r, e⟩ := h.inv.top
  rw [e]
  simp
 obtain ⟨g, c, h1, _, h2, h3, _, h4⟩ := own_at h.row hp
 refine ⟨g, c, h1, h2, h3, hp, cell_of (j := 0) h.tree (by rw [← h1]; rfl), fun k x hx => ?_⟩
 obtain ⟨g1, g2⟩ := rrow_at A _ _ _ hx
 exact ⟨h4 _ _ g1, h4 _ _ g2⟩
/-- A thing's cells. -/
theorem RRep.cells (h : RRep w rb v A T) {i : Nat} (hi : T.Live i) :
  ∃ dv, Dat w dv (T.nd i).data ∧ w.cell? ⟨A i, 0, none⟩ = some (.int .i64 (T.nd i).kind) ∧ w.cell? ⟨A i, 1, none⟩ = some (.int .i64 i) ∧ w.cell? ⟨A i, 2, none⟩ = some dv ∧ w.cell? ⟨A i, 3, none⟩ = some (.string (mkS (T.nd i).target)) ∧
   w.cell? ⟨A i, 4, none⟩ = some (.int .i64 (T.nd i).mt.mode) ∧ w.cell? ⟨A i, 5, none⟩ = some (.int .i64 (T.nd i).mt.sec) ∧ w.cell? ⟨A i, 6, none⟩ = some (.int .i64 (T.nd i).mt.nano) ∧ w.cell? ⟨A i, 7, none⟩ = some (.int .i64 (T.nd i).mt.uid) ∧ w.cell? ⟨A i, 8, none⟩ = some (.int .i64 (T.nd i).mt.gid) := by
 obtain ⟨dv, h1, h2⟩ := h.node i hi
 exact ⟨dv, h1, cell_of h2 rfl, cell_of h2 rfl, cell_of h2 rfl, cell_of h2 rfl, cell_of h2 rfl, cell_of h2 rfl, cell_of h2 rfl, cell_of h2 rfl, cell_of h2 rfl⟩
end
/-- .. and where a record of another type is written. -/
theorem RRep.setCell {w : World} {rb : Nat} {v : Value} {A : Nat → Nat} {T : Fs} (h : RRep w rb v A T) {x : Nat} {cs : Array Value} {t : TypeId} {f : Nat × Nat} (hx : w.heap[x]? = some (.cells cs t f)) (h1 : t ≠ 5) (h2 : t ≠ 60) (h3 : t ≠ 98) (h4 : t ≠ 96) (k : Nat) (u : Value) : RRep (w.setCell ⟨x, k, none⟩ u) rb v A T := by
 refine h.kept (fun b hb => heap_set_other w (by rintro rfl; exact h.not_own hx h2 h3 h4 hb) k u) (fun _ _ _ hd _ => hd.kept fun g ⟨cs', hg⟩ => heap_set_other w (fun e => ?_) k u)
 subst e
 rw [hx] at hg
 cases hg
 exact h1 rfl
/-- A call on the reference's tree. -/
def RStp (w w' : World) (rb : Nat) (v : Value) (A : Nat → Nat) (T T' : Fs) : Prop :=
  ∃ v' A', RRep w' rb v' A' T' ∧ Turn w w' (ROwn rb v A T) ∧ ∀ b, ROwn rb v' A' T' b → ROwn rb v A T b ∨ w.heap.size ≤ b
theorem RStp.same {w w' : World} {rb : Nat} {v : Value} {A : Nat → Nat} {T : Fs} (h : RRep w rb v A T) (hb : Below w.heap.size w w') : RStp w w' rb v A T T :=
 ⟨v, A, h.below hb, Turn.of_below hb _, fun _ h => Or.inl h⟩
theorem RStp.after {w w1 w' : World} {rb : Nat} {v : Value} {A : Nat → Nat} {T T' : Fs} (hb : Below w.heap.size w w1) (h : RStp w1 w' rb v A T T') : RStp w w' rb v A T T' := by
 obtain ⟨v', A', h1, h2, h3⟩ := h
 exact ⟨v', A', h1, (Turn.of_below hb _).trans (h2.mono fun i _ hi => Or.inl hi), fun b hb2 => (h3 b hb2).imp id (fun h => Nat.le_trans hb.size h)⟩
theorem RStp.then {w w1 w' : World} {rb : Nat} {v : Value} {A : Nat → Nat} {T T' : Fs} (h : RStp w w1 rb v A T T') (hb : Below w1.heap.size w1 w') : RStp w w' rb v A T T' := by
 obtain ⟨v', A', h1, h2, h3⟩ := h
 exact ⟨v', A', h1.below hb, h2.trans (Turn.of_below hb _), h3⟩
theorem RStp.mine {w wr w' : World} {rb : Nat} {v : Value} {A : Nat → Nat} {T T' : Fs} (hB : Below w.heap.size w wr) (hown : ∀ b, ROwn rb v A T b → w.heap.size ≤ b) (hs : RStp wr w' rb v A T T') : Below w.heap.size w w' ∧ ∃ v' A', RRep w' rb v' A' T' ∧ ∀ b, ROwn rb v' A' T' b → w.heap.size ≤ b := by
 obtain ⟨v', A', h1, h2, h3⟩ := hs
 refine ⟨hB.trans ⟨h2.os, h2.tape, h2.output, h2.size, fun k hk => h2.block k (Nat.lt_of_lt_of_le hk hB.size) (fun h => by have := hown k h; omega)⟩, v', A', h1, fun b hb => ?_⟩
 rcases h3 b hb with h | h
 ·exact hown b h
 ·exact Nat.le_trans hB.size h
end Go.Proofs.YtcjlfkklpghjbaaGreat

namespace Go.Proofs.YtcjlfkklpghjbaaGreat
open Go.RowKit Go.Lib
set_option linter.unusedVariables false
set_option linter.unusedSimpArgs false
theorem take_contains (l : Bytes) (k : Nat) (h : k < l.length) (c : UInt8) : (l.take (k + 1)).contains c = ((l.take k).contains c || l[k] == c) := by
 rw [List.take_succ_eq_append_getElem h, Bool.eq_iff_iff]
 simp only [List.contains_iff_mem, List.mem_append, List.mem_singleton, Bool.or_eq_true, beq_iff_eq]
 exact or_congr Iff.rfl ⟨Eq.symm, Eq.symm⟩
def hasZero (l : Bytes) : Bool := l.contains 0
set_option maxHeartbeats 1000000 in
set_option maxRecDepth 100000 in
theorem nought_calls (s : ByteArray) (w : World) (hs : s.size ≤ maxLen) :
  Calls Tryz.prog 116 #[.string s] w fun e w' => e = .returned (.bool (hasZero (bl s))) ∧ w = w' := by
 unfold maxLen at hs
 have hl := bl_length s
 go_enter Tryz.func116, Tryz.ntmps116
 go_wp2
 go_loop [3] (fun i => ∃ k : Nat, k ≤ s.size ∧ i = .int .i64 k ∧ Hid (((bl s).take k).contains 0 = false)) (fun i => s.size - (intOf i).toNat)
 case atStart => exact ⟨0, Nat.zero_le _, rfl, by simp [Hid]⟩
 case round =>
  obtain ⟨k, hk, rfl, hc⟩ := hrel
  by_cases hlt : k < s.size
  ·have hb := byte_is s k 0 hlt
   have hst := take_contains (bl s) k (by rw [hl]; exact hlt) 0
   rw [hc.out, Bool.false_or] at hst
   rcases hb with ⟨h1, h2⟩ | ⟨h1, h2⟩
   ·have h1' : ((s[k].toNat : Int) == 0) = true := h1
    have hf : Hid (hasZero (bl s) = true) := by
     unfold Hid hasZero
     rw [List.contains_iff_mem]
     exact List.mem_of_getElem? h2
    clear h1 h2 hst hc
    go_wp2
    go_ret
    exact ⟨by rw [hf.out]; rfl, rfl⟩
   ·have h1' : ((s[k].toNat : Int) == 0) = false := h1
    have hf : Hid (((bl s).take (k + 1)).contains 0 = false) := by
     unfold Hid
     rw [hst]
     rw [List.getElem?_eq_getElem (by rw [hl]; exact hlt)] at h2
     simpa using h2
    clear h1 h2 hst hc
    go_wp2
    go_round
    case rel => exact ⟨k + 1, by omega, by go_num, hf⟩
    case measure => simp [intOf]; omega
  ·obtain rfl : k = s.size := by omega
   have hf : Hid (hasZero (bl s) = false) := by
    have := hc.out
    rw [← hl, List.take_length] at this; exact this
   clear hc
   go_wp2
   go_ret
   exact ⟨by rw [hf.out]; rfl, rfl⟩
theorem nought_mk (p : Bytes) (w : World) (hs : p.length ≤ 16777217) : Calls Tryz.prog 116 #[.string (mkS p)] w fun e w' => e = .returned (.bool (hasZero p)) ∧ w = w' := by
 have h := nought_calls (mkS p) w (by rw [mkS_size]; simp [maxLen]; omega)
 rwa [bl_mkS] at h
theorem partOk_not (p : Bytes) : partOk p = !((mkS p).toList.isEmpty || (mkS p).toList == [46] || (mkS p).toList == [46, 46] || decide (48 < ((mkS p).size : Int)) || hasZero p) := by
 rw [beq_str, beq_str, str_empty, mkS_size, bl_mkS]
 unfold partOk hasZero
 have h1 : (decide (p ≠ [])) = !decide (p.length = 0) := by cases p <;> simp
 have h2 : decide (p.length ≤ 48) = !decide (48 < (p.length : Int)) := by
  rw [← decide_not, decide_eq_decide]; omega
 rw [h1, h2]
 cases decide (p.length = 0) <;> cases decide (48 < (p.length : Int)) <;> simp
theorem part_le (s : Bytes) : ∀ p ∈ split s, p.length ≤ s.length := by
 intro p hp
 have go : ∀ (l : List Bytes) (p : Bytes), p ∈ l → p.length ≤ (glue l).length := by
  intro l
  induction l with
  | nil => simp
  | cons q qs ih =>
   intro p hp
   cases qs with
   | nil => simp at hp; subst hp; simp [glue]
   | cons r rs =>
    rw [glue_cons _ (by simp)]
    rcases List.mem_cons.1 hp with h | h
    ·subst h; simp
    ·have := ih p h; simp; omega
 have := go _ p hp
 rwa [glue_split] at this
set_option maxHeartbeats 4000000 in
set_option maxRecDepth 100000 in
theorem refright_calls (s : ByteArray) (w : World) (hs : s.size ≤ 16777216) :
  Calls Tryz.prog 91 #[.string s] w fun e w' => e = .returned (.bool (right (bl s))) ∧ Below w.heap.size w w' := by
 have h0 := fun W => refsplit_calls s W hs
 have hr : right (bl s) = ((split (bl s)).all partOk && decide (((split (bl s)).length : Int) ≤ 12) && decide ((s.size : Int) ≤ 200)) := by
  unfold right
  rw [bl_length]
  congr 1
  ·congr 1; rw [decide_eq_decide]; omega
  ·rw [decide_eq_decide]; omega
 have hln := split_len (bl s)
 have hpl := part_le (bl s)
 rw [bl_length] at hln hpl
 generalize split (bl s) = l at *
 generalize right (bl s) = r at *
 replace hr := hid hr
 replace h0 := hid h0
 go_enter Tryz.func91, Tryz.ntmps91
 go_wp2_with fail
 refine (h0.out _).mono ?_
 rintro e w1 ⟨⟨v, rfl, hO⟩, hB⟩
 have hR := hO.rd
 obtain ⟨A, c, rfl, hc1, hc2⟩ := hR.shape
 clear hO h0
 unfold maxLen at hc2
 by_cases h12 : (l.length : Int) ≤ 12
 ·by_cases h200 : (s.size : Int) ≤ 200
  ·have hrr : Hid (r = l.all partOk) := by rw [hr.out]; simp [Hid, h12, h200]
   clear hr
   have h12' : ¬ 12 < (l.length : Int) := by omega
   have h200' : ¬ 200 < (s.size : Int) := by omega
   go_wp2
   go_loop [4] (fun i => ∃ k : Nat, i = .int .i64 k ∧ k ≤ l.length ∧ Hid ((l.take k).all partOk = true)) (fun i => l.length - (intOf i).toNat)
   case atStart => exact ⟨0, rfl, Nat.zero_le _, by simp [Hid]⟩
   case round =>
    obtain ⟨k, rfl, hk, hall⟩ := hrel
    by_cases hlt : k < l.length
    ·obtain ⟨g, o, rfl, hcell⟩ := hR.cell hlt
     have hp := fun W => nought_mk l[k] W (by have := hpl l[k] (List.getElem_mem hlt); omega)
     have hpn := partOk_not l[k]
     have hstep : Hid ((l.take (k + 1)).all partOk = partOk l[k]) := by
      unfold Hid
      rw [List.take_succ_eq_append_getElem hlt, List.all_append, hall.out]; simp
     have hfal : Hid (partOk l[k] = false → r = false) := fun h => by
      rw [hrr.out, List.all_eq_false]
      exact ⟨l[k], List.getElem_mem hlt, by simp [h]⟩
     clear hR hall hpl
     generalize partOk l[k] = pk at *
     generalize hasZero l[k] = hz at *
     generalize mkS l[k] = x at *
     replace hp := hid hp
     replace hpn := hid hpn
     have bad : Hid (pk = false → r = false) := hfal
     cases b1 : x.toList.isEmpty with
     | true =>
      have hf : Hid (r = false) := hfal.out (by rw [hpn.out, b1]; rfl)
      clear hpn hstep hfal bad hp
      go_wp2
      go_ret
      exact ⟨by rw [hf.out]; rfl, hB⟩
     | false =>
     cases b2 : (x.toList == [46]) with
     | true =>
      have hf : Hid (r = false) := hfal.out (by rw [hpn.out, b1, b2]; rfl)
      clear hpn hstep hfal bad hp
      go_wp2
      go_ret
      exact ⟨by rw [hf.out]; rfl, hB⟩
     | false =>
     cases b3 : (x.toList == [46, 46]) with
     | true =>
      have hf : Hid (r = false) := hfal.out (by rw [hpn.out, b1, b2, b3]; rfl)
      clear hpn hstep hfal bad hp
      go_wp2
      go_ret
      exact ⟨by rw [hf.out]; rfl, hB⟩
     | false =>
     by_cases b4 : 48 < (x.size : Int)
     ·have hf : Hid (r = false) := hfal.out (by rw [hpn.out, b1, b2, b3]; simp [b4])
      clear hpn hstep hfal bad hp
      go_wp2
      go_ret
      exact ⟨by rw [hf.out]; rfl, hB⟩
     ·have b4' : decide (48 < (x.size : Int)) = false := by simpa using b4
      have hpk : Hid (pk = !hz) := by unfold Hid; rw [hpn.out, b1, b2, b3, b4']; simp
      clear hpn bad
      cases hz with
      | true =>
       have hf : Hid (r = false) := hfal.out hpk.out
       clear hstep hfal hpk
       go_wp2_with fail
       refine (hp.out _).mono ?_
       rintro e w2 ⟨rfl, rfl⟩
       go_wp2
       go_ret
       exact ⟨by rw [hf.out]; rfl, hB⟩
      | false =>
       have hst : Hid ((l.take (k + 1)).all partOk = true) := by unfold Hid; rw [hstep.out, hpk.out]; rfl
       clear hstep hfal hpk
       go_wp2_with fail
       refine (hp.out _).mono ?_
       rintro e w2 ⟨rfl, rfl⟩
       go_wp2
       go_round
       case rel => exact ⟨k + 1, by go_num, by omega, hst⟩
       case measure => simp [intOf]; omega
    ·obtain rfl : k = l.length := by omega
     have hf : Hid (r = true) := by
      have := hall.out
      rw [List.take_length] at this
      unfold Hid
      rw [hrr.out, this]
     clear hall hR hlt hk hrr
     go_wp2
     go_ret
     exact ⟨by rw [hf.out]; rfl, hB⟩
  ·have hf : Hid (r = false) := by rw [hr.out]; simp [Hid]; omega
   clear hr hR
   have h12' : ¬ 12 < (l.length : Int) := by omega
   have h200' : 200 < (s.size : Int) := by omega
   go_wp2
   go_ret
   exact ⟨by rw [hf.out]; rfl, hB⟩
 ·have hf : Hid (r = false) := by rw [hr.out]; simp [Hid]; omega
  clear hr hR
  have h12' : 12 < (l.length : Int) := by omega
  go_wp2
  go_ret
  exact ⟨by rw [hf.out]; rfl, hB⟩
end Go.Proofs.YtcjlfkklpghjbaaGreat
