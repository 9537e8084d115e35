/-
  What a Prune leaves: the plain law.
-/
import Derived.Test.YtocbjhhnginebaaGreatB6
namespace Go.Proofs.YtocbjhhnginebaaGreat
set_option linter.unusedSimpArgs false
set_option linter.unusedVariables false

/-- V' is V without the names of P. -/
structure CutP (P : Pt → Prop) (V V' : Fs) : Prop where
  names : ∀ p i, (p, i) ∈ V'.names ↔ (p, i) ∈ V.names ∧ ¬ P p
  like : ∀ i, Lk V V' i i
  inv : V'.Inv
theorem CutP.congr {P P' : Pt → Prop} {V V' : Fs} (h : CutP P V V') (hp : ∀ p i, (p, i) ∈ V.names → (P p ↔ P' p)) : CutP P' V V' :=
  ⟨fun p i => (h.names p i).trans ⟨fun ⟨a, b⟩ => ⟨a, fun c => b ((hp p i a).2 c)⟩, fun ⟨a, b⟩ => ⟨a, fun c => b ((hp p i a).1 c)⟩⟩, h.like, h.inv⟩
theorem CutP.trans {P Q : Pt → Prop} {V V1 V2 : Fs} (h : CutP P V V1) (k : CutP Q V1 V2) : CutP (fun p => P p ∨ Q p) V V2 :=
  ⟨fun p i => by rw [k.names, h.names]; exact ⟨fun ⟨⟨a, b⟩, c⟩ => ⟨a, fun d => d.elim b c⟩, fun ⟨a, b⟩ => ⟨⟨a, fun d => b (Or.inl d)⟩, fun d => b (Or.inr d)⟩⟩, fun i => (h.like i).trans (k.like i), k.inv⟩
theorem CutP.none {V : Fs} (hV : V.Inv) : CutP (fun _ => False) V V := ⟨fun p i => ⟨fun h => ⟨h, id⟩, fun h => h.1⟩, fun i => Lk.refl V i, hV⟩
theorem gone_lk (V : Fs) (p : Pt) (i j : Nat) : Lk V (V.gone p i) j j := by
  unfold Lk Fs.gone
  dsimp only
  split
  · rename_i h; subst h; exact ⟨rfl, rfl, rfl, rfl⟩
  · exact ⟨rfl, rfl, rfl, rfl⟩
theorem remove_leaf {V : Fs} (hI : V.Inv) {p : Bytes} {i : Nat} (hr : right p = true) (hp : p ≠ []) (hi : (split p, i) ∈ V.names) (hk : V.kids (split p) = []) : CutP (fun q => q = split p) V (V.remove p).1 := by
  obtain ⟨t1, t2⟩ := there_name hI hr hi
  have e : V.remove p = (V.gone (split p) i, 0) := by
    unfold Fs.remove
    rw [if_neg (by rw [hr]; decide), if_neg hp, if_neg (by rw [t2]; decide), t1]
    dsimp only
    rw [if_neg (by rw [hk]; simp)]
  rw [e]
  exact ⟨fun q j => mem_gone q j, fun j => gone_lk V _ _ j, gone_inv hI hi (split_ne_nil hp) hk⟩
theorem no_kids {V : Fs} {p : Pt} (h : ∀ s k, (p ++ [s], k) ∉ V.names) : V.kids p = [] := by
  cases hc : V.kids p with
  | nil => rfl
  | cons x r =>
    have : (p ++ [x.1], x.2) ∈ V.names := mem_kidsL.1 (by show (x.1, x.2) ∈ V.kids p; rw [hc]; exact List.mem_cons_self ..)
    exact absurd this (h _ _)

/-- What stands below a name goes, the last first. -/
theorem removeAll_cut {V : Fs} (hV : V.Inv) (x : Bytes) : ∀ n, n ≤ (V.belowS x).length → CutP (fun p => ∃ q ∈ (V.belowS x).drop ((V.belowS x).length - n), split q = p) V (removeAll V ((V.belowS x).drop ((V.belowS x).length - n))) := by
  have hris := belowS_rising hV x
  have hmem := fun p => mem_belowS (S := V) hV (top := x) (p := p)
  generalize V.belowS x = l at *
  intro n
  induction n with
  | zero =>
    intro _
    rw [Nat.sub_zero, List.drop_length]
    refine (CutP.none hV).congr fun p i _ => ⟨fun h => h.elim, ?_⟩
    rintro ⟨q, hq, _⟩
    cases hq
  | succ n ih =>
    intro hn
    have ih := ih (by omega)
    obtain ⟨j, hj⟩ : ∃ j, l.length - (n + 1) = j := ⟨_, rfl⟩
    have hj1 : l.length - n = j + 1 := by omega
    have hjl : j < l.length := by omega
    rw [hj1] at ih
    rw [hj, removeAll_drop V hjl]
    obtain ⟨h1, h2, h3, h4, i, hi⟩ := (hmem _).1 (List.getElem_mem hjl)
    have hnot : ¬ ∃ q ∈ l.drop (j + 1), split q = split l[j] := by
      rintro ⟨q, hq, e⟩
      obtain ⟨m, hm, rfl⟩ := List.getElem_of_mem hq
      rw [List.getElem_drop] at e
      rw [List.length_drop] at hm
      have := (List.pairwise_iff_getElem.1 hris) j (j + 1 + m) hjl (by omega) (by omega)
      rw [split_inj e, cmpP_self] at this
      omega
    have hin : (split l[j], i) ∈ (removeAll V (l.drop (j + 1))).names := (ih.names _ _).2 ⟨hi, hnot⟩
    have hk : (removeAll V (l.drop (j + 1))).kids (split l[j]) = [] := no_kids fun s k hs => by
      obtain ⟨g1, g2⟩ := (ih.names _ _).1 hs
      obtain ⟨q1, q2⟩ := (hV.pth _ _ g1).text
      have hq : glue (split l[j] ++ [s]) ∈ l := by
        refine (hmem _).2 ⟨q1, fun e => ?_, fun e => ?_, by rw [q2]; exact h4.trans (List.prefix_append _ _), k, by rw [q2]; exact g1⟩
        · rw [e] at q2
          obtain ⟨z, hz⟩ := h4
          rw [q2, List.append_assoc] at hz
          have := congrArg List.length hz
          simp at this
        · rw [e, split_nil] at q2
          simp at q2
      obtain ⟨m, hm, e⟩ := List.getElem_of_mem hq
      have hlt : cmpP l[j] l[m] < 0 := by
        unfold cmpP
        rw [e, q2]
        exact cmpL_below _ _ _
      rcases Nat.lt_trichotomy m j with h | h | h
      · have h5 := (List.pairwise_iff_getElem.1 hris) m j hm hjl h
        have h9 := cmpP_trans hlt h5
        rw [cmpP_self] at h9
        omega
      · subst h
        rw [cmpP_self] at hlt
        omega
      · refine g2 ⟨l[m], ?_, by rw [e, q2]⟩
        rw [List.mem_drop_iff_getElem]
        exact ⟨m - (j + 1), by omega, by congr 1; omega⟩
    refine (ih.trans (remove_leaf ih.inv h1 h3 hin hk)).congr fun p k _ => ?_
    rw [List.drop_eq_getElem_cons hjl]
    constructor
    · rintro (⟨q, hq, e⟩ | rfl)
      · exact ⟨q, List.mem_cons_of_mem _ hq, e⟩
      · exact ⟨_, List.mem_cons_self .., rfl⟩
    · rintro ⟨q, hq, e⟩
      rcases List.mem_cons.1 hq with rfl | hq
      · exact Or.inr e.symm
      · exact Or.inl ⟨q, hq, e⟩

theorem pruneOne_cut {V : Fs} (hV : V.Inv) {x : Bytes} {r : Nat} (hr : right x = true) (hx : split x = [x]) (hi : ([x], r) ∈ V.names) : CutP (fun p => [x] <+: p) V (pruneOne V x) := by
  have hx0 : x ≠ [] := fun e => by rw [e, split_nil] at hx; cases hx
  have h := removeAll_cut hV x (V.belowS x).length (Nat.le_refl _)
  rw [Nat.sub_self, List.drop_zero] at h
  have hall : ∀ t i, t ≠ [] → ([x] ++ t, i) ∈ V.names → ∃ q ∈ V.belowS x, split q = [x] ++ t := fun t i ht hm => by
    obtain ⟨q1, q2⟩ := rest_belowS hV (top := x) ht (i := i) (by rwa [hx])
    rw [hx] at q1 q2
    exact ⟨_, q1, q2⟩
  have hown : ¬ ∃ q ∈ V.belowS x, split q = [x] := by
    rintro ⟨q, hq, e⟩
    exact ((mem_belowS hV).1 hq).2.1 (split_inj (e.trans hx.symm))
  have hin : (split x, r) ∈ (removeAll V (V.belowS x)).names := by
    rw [hx]
    exact (h.names _ _).2 ⟨hi, hown⟩
  have hk : (removeAll V (V.belowS x)).kids (split x) = [] := no_kids fun s k hs => by
    rw [hx] at hs
    obtain ⟨g1, g2⟩ := (h.names _ _).1 hs
    exact g2 (hall [s] k (by simp) g1)
  refine (h.trans (remove_leaf h.inv hr hx0 hin hk)).congr fun p i hp => ?_
  rw [hx]
  constructor
  · rintro (⟨q, hq, rfl⟩ | rfl)
    · have := ((mem_belowS hV).1 hq).2.2.2.1
      rwa [hx] at this
    · exact List.prefix_refl _
  · rintro ⟨t, rfl⟩
    by_cases ht : t = []
    · subst ht
      exact Or.inr (by simp)
    · exact Or.inl (hall t i ht hp)

theorem shots_names_nodup {V : Fs} (hV : V.Inv) : (V.shots.map (·.1)).Nodup := by
  have h : ((V.tops.filterMap V.shotOf).map (·.1)).Nodup := by
    rw [List.Nodup, List.pairwise_map]
    exact (shots_bef hV).imp fun {a b} h e => by
      unfold Sh.Bef at h
      rw [e, cmpP_self] at h
      omega
  exact ((Sh.sortS_perm _).map _).nodup_iff.2 h
/-- What a Prune leaves. -/
theorem pruneK_cut {V : Fs} (hV : V.Inv) (newest every : Int) : ∀ k, k ≤ V.shots.length → CutP (fun p => ∃ x ∈ (pruneK V.shots newest every V k).2, [x] <+: p) V (pruneK V.shots newest every V k).1 ∧ ∀ x ∈ (pruneK V.shots newest every V k).2, ∃ y ∈ V.shots.take k, y.1 = x := by
  intro k
  induction k with
  | zero =>
    intro _
    exact ⟨(CutP.none hV).congr fun p i _ => ⟨fun h => h.elim, fun ⟨x, hx, _⟩ => by cases hx⟩, fun x hx => by cases hx⟩
  | succ k ih =>
    intro hk
    have hk' : k < V.shots.length := by omega
    obtain ⟨ih1, ih2⟩ := ih (by omega)
    have hsub : ∀ x, (∃ y ∈ V.shots.take k, y.1 = x) → ∃ y ∈ V.shots.take (k + 1), y.1 = x := fun x ⟨y, hy, e⟩ => by
      refine ⟨y, ?_, e⟩
      rw [List.take_succ_eq_append_getElem hk']
      exact List.mem_append_left _ hy
    cases hs : stays V.shots.length newest every k V.shots[k]
    · rw [pruneK_go hk' hs]
      dsimp only
      obtain ⟨q1, q2, r, hr⟩ := top_name hV (shots_mem.1 (List.getElem_mem hk')).1
      have hnot : ∀ x ∈ (pruneK V.shots newest every V k).2, x ≠ (V.shots[k]).1 := fun x hx e => by
        obtain ⟨y, hy, rfl⟩ := ih2 x hx
        obtain ⟨j, hj, rfl⟩ := List.getElem_of_mem hy
        rw [List.getElem_take] at e
        rw [List.length_take] at hj
        have := (List.pairwise_iff_getElem.1 (shots_names_nodup hV)) j k (by rw [List.length_map]; omega) (by rw [List.length_map]; omega) (by omega)
        rw [List.getElem_map, List.getElem_map] at this
        exact this e
      have hin : ([(V.shots[k]).1], r) ∈ (pruneK V.shots newest every V k).1.names := (ih1.names _ _).2 ⟨hr, fun ⟨x, hx, z, hz⟩ => hnot x hx (by simpa using (List.cons.inj hz).1)⟩
      refine ⟨(ih1.trans (pruneOne_cut ih1.inv q1 q2 hin)).congr fun p i _ => ?_, fun x hx => ?_⟩
      · constructor
        · rintro (⟨x, hx, h⟩ | h)
          · exact ⟨x, List.mem_append_left _ hx, h⟩
          · exact ⟨_, List.mem_append_right _ (List.mem_singleton.2 rfl), h⟩
        · rintro ⟨x, hx, h⟩
          rcases List.mem_append.1 hx with hx | hx
          · exact Or.inl ⟨x, hx, h⟩
          · rw [List.mem_singleton] at hx
            subst hx
            exact Or.inr h
      · rcases List.mem_append.1 hx with hx | hx
        · exact hsub x (ih2 x hx)
        · rw [List.mem_singleton] at hx
          subst hx
          refine ⟨V.shots[k], ?_, rfl⟩
          rw [List.take_succ_eq_append_getElem hk']
          exact List.mem_append_right _ (List.mem_singleton.2 rfl)
    · rw [pruneK_stay hk' hs]
      exact ⟨ih1, fun x hx => hsub x (ih2 x hx)⟩
theorem CutP.img {P : Pt → Prop} {V V' : Fs} (h : CutP P V V') {e : Pt} (he : ∀ t, t ≠ [] → ¬ P (e ++ t)) : Img V' e V e := by
  refine ⟨fun t ht => ⟨fun ⟨j, hj⟩ => ⟨j, ((h.names _ _).1 hj).1⟩, fun ⟨j, hj⟩ => ⟨j, (h.names _ _).2 ⟨hj, he t ht⟩⟩⟩, fun t i j ht hi hj => ?_, fun t u i i' j j' ht hu hi hi' hj hj' => ?_⟩
  · obtain rfl := h.inv.at_one ((h.names _ _).2 ⟨hi, he t ht⟩) hj
    exact h.like i
  · obtain rfl := h.inv.at_one ((h.names _ _).2 ⟨hi, he t ht⟩) hj
    obtain rfl := h.inv.at_one ((h.names _ _).2 ⟨hi', he u hu⟩) hj'
    exact Iff.rfl
/-- A snapshot of this name is there, and holds S. -/
structure Holds (V : Fs) (nm : Bytes) (S : Fs) : Prop where
  may : mayS nm = true
  top : ∃ r, ([nm], r) ∈ V.names ∧ (V.nd r).kind = 2 ∧ 1 ≤ (V.nd r).mt.sec
  img : Img V [nm] S []
theorem Holds.snap {V : Fs} (hV : V.Inv) {nm : Bytes} {S : Fs} (h : Holds V nm S) : nm ∈ V.snaps := by
  obtain ⟨q1, q2, _⟩ := may_name h.may
  obtain ⟨r, r1, r2, r3⟩ := h.top
  refine List.mem_map.2 ⟨(nm, (V.nd r).mt.sec), shots_mem.2 ⟨(mem_tops hV).2 ⟨r, r1⟩, ?_⟩, rfl⟩
  rw [shotOf_at hV q2 q1 r1, if_pos ⟨r2, r3, h.may⟩]
theorem Took.holds {V : Fs} (hVo : V.Ok) {nm : Bytes} {S V' : Fs} (h : Took V nm S V') : Holds V' nm S := by
  obtain ⟨r, r1, r2, r3⟩ := h.top
  have := lastNum_bounds hVo.mt
  exact ⟨h.may, ⟨r, r1, r2, by rw [r3]; dsimp only; omega⟩, h.img⟩
/-- Whatever is taken besides. -/
theorem Holds.take {V : Fs} (hV : V.Inv) (hVo : V.Ok) {nm : Bytes} {S : Fs} (h : Holds V nm S) {nm2 : Bytes} {S2 : Fs} (hS : S2.Inv) (hSo : S2.Ok) : Holds (takeE V nm2 S2).1 nm S ∧ (takeE V nm2 S2).1.Inv := by
  by_cases he : (takeE V nm2 S2).2 = 0
  · have hT := take_done hV hVo hS hSo he
    obtain ⟨r, r1, r2, r3⟩ := h.top
    have hne : nm ≠ nm2 := fun e => hT.new r (by rw [← e]; exact r1)
    have hl := hT.adds.same r (hV.lt _ _ r1).2
    exact ⟨⟨h.may, ⟨r, hT.adds.old r1, hl.1.symm.trans r2, by rw [← hl.2.1]; exact r3⟩, (hT.adds.img hV (fun t _ => other_name hne t) hT.inv).trans h.img⟩, hT.inv⟩
  · have : (takeE V nm2 S2).1 = V := by
      unfold takeE at he ⊢
      (repeat' split)
      all_goals first | rfl | skip
      rename_i h1 h2 h3
      rw [if_neg h1, if_neg h2, if_neg h3] at he
      exact absurd rfl he
    rw [this]
    exact ⟨h, hV⟩
/-- Whatever is pruned, as long as its name is there. -/
theorem Holds.prune {V : Fs} (hV : V.Inv) {nm : Bytes} {S : Fs} (h : Holds V nm S) (newest every : Int) : (pruneE V newest every).1.Inv ∧ (((pruneE V newest every).1.stat nm).2 = 0 → Holds (pruneE V newest every).1 nm S) := by
  unfold pruneE
  split
  · exact ⟨hV, fun _ => h⟩
  · dsimp only
    obtain ⟨hc, _⟩ := pruneK_cut hV newest every V.shots.length (Nat.le_refl _)
    refine ⟨hc.inv, fun hz => ?_⟩
    obtain ⟨q1, q2, _⟩ := may_name h.may
    obtain ⟨_, i, hi, _⟩ := stat_zero hc.inv hz
    rw [q2] at hi
    obtain ⟨g1, g2⟩ := (hc.names _ _).1 hi
    have hne : ∀ x ∈ (pruneK V.shots newest every V V.shots.length).2, x ≠ nm := fun x hx e => g2 ⟨x, hx, by rw [e]; exact List.prefix_refl _⟩
    obtain ⟨r, r1, r2, r3⟩ := h.top
    obtain rfl := hV.at_one g1 r1
    have hl := hc.like i
    refine ⟨h.may, ⟨i, hi, hl.1.symm.trans r2, by rw [← hl.2.1]; exact r3⟩, (hc.img (e := [nm]) fun t _ ⟨x, hx, hp⟩ => ?_).trans h.img⟩
    exact other_name (hne x hx).symm t hp
/-- What is restored, with the top's Meta laid upon it, is what was taken. -/
theorem Holds.back {V : Fs} (hV : V.Inv) (hVo : V.Ok) {nm : Bytes} {S : Fs} (hS : S.Inv) (hSo : S.Ok) (h : Holds V nm S) : ((restE V nm).setM [] (S.stat []).1.mt).2 = 0 ∧ SameFs ((restE V nm).setM [] (S.stat []).1.mt).1 S := by
  obtain ⟨r1, _, r3, _⟩ := rest_done hV hVo h.may
  have hst : S.stat [] = (S.tell (split []) 1, 0) := stat_name hS (by decide) (by rw [split_nil]; exact hS.one)
  have hm : (S.stat []).1.mt = (S.nd 1).mt := by rw [hst]; rfl
  rw [hm]
  have hmt := hSo.mt 1
  generalize restE V nm = T at *
  obtain ⟨t1, t2⟩ := there_name r1 (s := []) (by decide) (by rw [split_nil]; exact r1.one)
  have e : T.setM [] (S.nd 1).mt = (T.set 1 { T.nd 1 with mt := (S.nd 1).mt }, 0) := by
    unfold Fs.setM
    rw [mayE_ok (by decide) hmt, if_neg (by decide), if_neg (by rw [t2]; decide), t1]
  rw [e]
  refine ⟨rfl, ?_⟩
  have hI : (T.set 1 { T.nd 1 with mt := (S.nd 1).mt }).Inv := set_inv r1 ⟨(r1.ok r1.one).kind, (r1.ok r1.one).data, (r1.ok r1.one).plain⟩ rfl rfl
  have hnd : ∀ t i, t ≠ [] → (t, i) ∈ T.names → (T.set 1 { T.nd 1 with mt := (S.nd 1).mt }).nd i = T.nd i := fun t i ht hi => by
    unfold Fs.set
    exact if_neg (fun e => ht (only_top r1 (by rw [← e]; exact hi)))
  refine img_same hI hS ⟨fun t ht => (r3.trans h.img).names t ht, fun t i j ht hi hj => ?_, fun t u i i' j j' ht hu hi hi' hj hj' => (r3.trans h.img).one t u i i' j j' ht hu hi hi' hj hj'⟩ ?_
  · have := (r3.trans h.img).like t i j ht hi hj
    unfold Lk at this ⊢
    rw [hnd t j ht hj]
    exact this
  · unfold Fs.set
    dsimp only
    rw [if_pos rfl]
end Go.Proofs.YtocbjhhnginebaaGreat
