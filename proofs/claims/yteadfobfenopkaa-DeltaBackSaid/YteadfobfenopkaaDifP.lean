
/- Plain laws on what two tables part by: the acts that make the one of the other. -/
import Derived.Test.YteadfobfenopkaaQLastP
import Derived.Test.YteadfobfenopkaaOrdP
set_option linter.unusedVariables false
set_option linter.unusedSimpArgs false
namespace Go.Proofs.Yteadfobfenopkaa
open Go Go.RowKit Wc

theorem nodup_le {α : Type} [DecidableEq α] : ∀ {l m : List α}, l.Nodup → (∀ x ∈ l, x ∈ m) → l.length ≤ m.length
  | [], m, _, _ => Nat.zero_le _
  | x :: l, m, hn, h => by
    rw [List.nodup_cons] at hn
    have hx := h x (by simp)
    have h1 := nodup_le (m := m.erase x) hn.2 (fun y hy => (List.mem_erase_of_ne (by rintro rfl; exact hn.1 hy)).2 (h y (by simp [hy])))
    rw [List.length_erase_of_mem hx] at h1
    have h2 := List.length_pos_of_mem hx
    simp only [List.length_cons]; omega
theorem nodup_map {α β : Type} {f : α → β} : ∀ {l : List α}, l.Pairwise (fun x y => f x ≠ f y) → (l.map f).Nodup
  | [], _ => by simp
  | x :: l, h => by
    rw [List.pairwise_cons] at h
    rw [List.map_cons, List.nodup_cons]
    refine ⟨fun hm => ?_, nodup_map h.2⟩
    obtain ⟨y, hy, he⟩ := List.mem_map.1 hm
    exact h.1 y hy he.symm
def keyOf (x : Nat × Nat × Nat) : Nat × Nat := (x.1, x.2.1)
def keysL (L : List (Nat × Nat × Nat)) : List (Nat × Nat) := L.map keyOf
theorem keys_nodup {L : List (Nat × Nat × Nat)} (hs : Srt L) : (keysL L).Nodup := by
  refine nodup_map (hs.imp (fun {x y} h e => ?_))
  unfold keyOf at e
  simp only [Prod.mk.injEq] at e
  unfold lt3 at h; omega
theorem key_has {L : List (Nat × Nat × Nat)} (hh : Hops L) {n k : Nat} : (n, k) ∈ keysL L ↔ hasL L n k ≠ 0 := by
  unfold keysL
  rw [List.mem_map]
  constructor
  · rintro ⟨x, hx, he⟩ h0
    unfold keyOf at he
    simp only [Prod.mk.injEq] at he
    exact (has_none hh).1 h0 x hx he
  · intro h
    exact ⟨_, mem_hasL h, rfl⟩

def AllOk (L : List (Nat × Nat × Nat)) (q : List ActD) : Prop := ∀ a ∈ trun L q, a.code = 0
theorem AllOk.app {L : List (Nat × Nat × Nat)} {a b : List ActD} (h1 : AllOk L a) (h2 : AllOk (tend L a) b) : AllOk L (a ++ b) := by
  intro x hx
  rw [trun_app] at hx
  rcases List.mem_append.1 hx with hx | hx
  · exact h1 x hx
  · exact h2 x hx
theorem AllOk.at {L : List (Nat × Nat × Nat)} {q : List ActD} (h : AllOk L q) {i : Nat} {x : ActD} (hx : q[i]? = some x) : (tstep (tend L (q.take i)) x).2.code = 0 :=
  h _ (List.mem_of_getElem? (trun_at hx).1)
theorem AllOk.left {L : List (Nat × Nat × Nat)} {a b : List ActD} (h : AllOk L (a ++ b)) : AllOk L a := fun x hx => h x (by rw [trun_app]; exact List.mem_append_left _ hx)
theorem AllOk.right {L : List (Nat × Nat × Nat)} {a b : List ActD} (h : AllOk L (a ++ b)) : AllOk (tend L a) b := fun x hx => h x (by rw [trun_app]; exact List.mem_append_right _ hx)
theorem put_one {T : List (Nat × Nat × Nat)} (t : TabOk T) {x : ActD} (hx : x.fit) (hk : x.kind = 1) (hl : T.length < 60 ∨ hasL T x.n x.k ≠ 0) :
    (tstep T x).2.code = 0 ∧ ∀ n k, hasL (tstep T x).1 n k = if x.n = n ∧ x.k = k then eff x else hasL T n k := by
  have e : tstep T x = (putL T x.n x.k x.hop, ⟨0, hasL T x.n x.k, 0⟩) := by
    unfold tstep
    rw [if_neg (by omega), if_neg (by omega), if_neg (by omega), if_neg (fun h => by omega)]
  rw [e]
  refine ⟨rfl, fun n k => ?_⟩
  rw [hasL_put t.srt t.hops (by have := hx.hop hk; omega)]
  have ee : eff x = x.hop := by unfold eff; rw [if_pos hk]
  by_cases h : x.n = n ∧ x.k = k
  · rw [if_pos (show n = x.n ∧ k = x.k from ⟨h.1.symm, h.2.symm⟩), if_pos h, ee]
  · rw [if_neg (show ¬ (n = x.n ∧ k = x.k) from fun g => h ⟨g.1.symm, g.2.symm⟩), if_neg h]
theorem cut_one {T : List (Nat × Nat × Nat)} (t : TabOk T) {x : ActD} (hk : x.kind = 2) (hl : hasL T x.n x.k ≠ 0) :
    (tstep T x).2.code = 0 ∧ ∀ n k, hasL (tstep T x).1 n k = if x.n = n ∧ x.k = k then eff x else hasL T n k := by
  have e : tstep T x = (cutL T x.n x.k, ⟨0, hasL T x.n x.k, 0⟩) := by
    unfold tstep
    rw [if_neg (by omega), if_pos hk]
    unfold hadA
    rw [if_neg hl]
  rw [e]
  refine ⟨rfl, fun n k => ?_⟩
  rw [hasL_cut t.srt t.hops]
  have ee : eff x = 0 := by unfold eff; rw [if_neg (by omega)]
  by_cases h : x.n = n ∧ x.k = k
  · rw [if_pos (show n = x.n ∧ k = x.k from ⟨h.1.symm, h.2.symm⟩), if_pos h, ee]
  · rw [if_neg (show ¬ (n = x.n ∧ k = x.k) from fun g => h ⟨g.1.symm, g.2.symm⟩), if_neg h]
/-- Puts of prefixes of a list of at most 60. -/
theorem puts_in {K : List (Nat × Nat)} (hK : K.length ≤ 60) : ∀ (q : List ActD) {T : List (Nat × Nat × Nat)}, TabOk T → (∀ y ∈ T, keyOf y ∈ K) → (∀ x ∈ q, x.fit ∧ x.kind = 1 ∧ x.pre ∈ K) →
    AllOk T q ∧ ∀ n k, hasL (tend T q) n k = lastE n k (hasL T n k) q
  | [], T, t, _, _ => ⟨(fun a h => (List.not_mem_nil h).elim), fun n k => rfl⟩
  | x :: q, T, t, hT, hq => by
    obtain ⟨hf, hk, hp⟩ := hq x (by simp)
    have hl : T.length < 60 ∨ hasL T x.n x.k ≠ 0 := by
      by_cases h0 : hasL T x.n x.k = 0
      · refine .inl ?_
        have hnd : (x.pre :: keysL T).Nodup := by
          rw [List.nodup_cons]
          exact ⟨fun hm => (key_has t.hops).1 hm h0, keys_nodup t.srt⟩
        have := nodup_le (m := K) hnd (fun y hy => by
          rcases List.mem_cons.1 hy with rfl | hy
          · exact hp
          · obtain ⟨z, hz, rfl⟩ := List.mem_map.1 hy
            exact hT z hz)
        unfold keysL at this
        simp at this; omega
      · exact .inr h0
    obtain ⟨c0, hh⟩ := put_one t hf hk hl
    have t' := t.step hf
    obtain ⟨ha, hr⟩ := puts_in hK q t' (fun y hy => by
      have h1 : hasL (tstep T x).1 y.1 y.2.1 ≠ 0 := (key_has t'.hops).1 (List.mem_map.2 ⟨y, hy, rfl⟩)
      rw [hh] at h1
      split at h1
      · rename_i e
        have : keyOf y = x.pre := by unfold keyOf ActD.pre; rw [e.1, e.2]
        rw [this]; exact hp
      · obtain ⟨z, hz, he⟩ := List.mem_map.1 ((key_has t.hops).2 h1)
        have := hT z hz
        rw [he] at this
        exact this) (fun y hy => hq y (by simp [hy]))
    refine ⟨fun a hm => ?_, fun n k => ?_⟩
    · have hm : a ∈ (tstep T x).2 :: trun (tstep T x).1 q := hm
      rcases List.mem_cons.1 hm with rfl | hm
      · exact c0
      · exact ha a hm
    · show hasL (tend (tstep T x).1 q) n k = lastE n k (if x.n = n ∧ x.k = k then eff x else hasL T n k) q
      rw [hr, hh]
/-- Cuts of prefixes that are there. -/
theorem cuts_in : ∀ (q : List ActD) {T : List (Nat × Nat × Nat)}, TabOk T → (q.map ActD.pre).Nodup → (∀ x ∈ q, x.fit ∧ x.kind = 2 ∧ hasL T x.n x.k ≠ 0) →
    AllOk T q ∧ ∀ n k, hasL (tend T q) n k = lastE n k (hasL T n k) q
  | [], T, t, _, _ => ⟨(fun a h => (List.not_mem_nil h).elim), fun n k => rfl⟩
  | x :: q, T, t, hn, hq => by
    obtain ⟨hf, hk, hp⟩ := hq x (by simp)
    rw [List.map_cons, List.nodup_cons] at hn
    obtain ⟨c0, hh⟩ := cut_one t hk hp
    have t' := t.step hf
    obtain ⟨ha, hr⟩ := cuts_in q t' hn.2 (fun y hy => by
      obtain ⟨yf, yk, yp⟩ := hq y (by simp [hy])
      refine ⟨yf, yk, ?_⟩
      rw [hh, if_neg (fun e => hn.1 (List.mem_map.2 ⟨y, hy, by unfold ActD.pre; rw [e.1, e.2]⟩))]
      exact yp)
    refine ⟨fun a hm => ?_, fun n k => ?_⟩
    · have hm : a ∈ (tstep T x).2 :: trun (tstep T x).1 q := hm
      rcases List.mem_cons.1 hm with rfl | hm
      · exact c0
      · exact ha a hm
    · show hasL (tend (tstep T x).1 q) n k = lastE n k (if x.n = n ∧ x.k = k then eff x else hasL T n k) q
      rw [hr, hh]
theorem lastE_mem (n k : Nat) : ∀ (q : List ActD) (d : Nat) (x : ActD), (q.map ActD.pre).Nodup → x ∈ q → x.n = n ∧ x.k = k → lastE n k d q = eff x
  | y :: q, d, x, hn, hx, he => by
    rw [List.map_cons, List.nodup_cons] at hn
    show lastE n k (if y.n = n ∧ y.k = k then eff y else d) q = eff x
    rcases List.mem_cons.1 hx with rfl | hx
    · rw [if_pos he]
      refine lastE_far n k q _ (fun z hz hez => hn.1 (List.mem_map.2 ⟨z, hz, ?_⟩))
      unfold ActD.pre; rw [hez.1, hez.2, he.1, he.2]
    · exact lastE_mem n k q _ x hn.2 hx he

def cutAct (x : Nat × Nat × Nat) : ActD := ⟨2, x.1, x.2.1, 0, 0⟩
def cutsOf (L M : List (Nat × Nat × Nat)) : List ActD := (L.filter (fun x => decide (hasL M x.1 x.2.1 = 0))).map cutAct
def putsOf (L M : List (Nat × Nat × Nat)) : List ActD := (M.filter (fun y => decide (hasL L y.1 y.2.1 ≠ y.2.2))).map putAct
def diffL (L M : List (Nat × Nat × Nat)) : List ActD := cutsOf L M ++ putsOf L M
theorem mem_cutsOf {L M : List (Nat × Nat × Nat)} {x : ActD} : x ∈ cutsOf L M ↔ ∃ y ∈ L, hasL M y.1 y.2.1 = 0 ∧ x = cutAct y := by
  unfold cutsOf
  rw [List.mem_map]
  constructor
  · rintro ⟨y, hy, rfl⟩
    rw [List.mem_filter, decide_eq_true_iff] at hy
    exact ⟨y, hy.1, hy.2, rfl⟩
  · rintro ⟨y, hy, h0, rfl⟩
    exact ⟨y, by rw [List.mem_filter, decide_eq_true_iff]; exact ⟨hy, h0⟩, rfl⟩
theorem mem_putsOf {L M : List (Nat × Nat × Nat)} {x : ActD} : x ∈ putsOf L M ↔ ∃ y ∈ M, hasL L y.1 y.2.1 ≠ y.2.2 ∧ x = putAct y := by
  unfold putsOf
  rw [List.mem_map]
  constructor
  · rintro ⟨y, hy, rfl⟩
    rw [List.mem_filter, decide_eq_true_iff] at hy
    exact ⟨y, hy.1, hy.2, rfl⟩
  · rintro ⟨y, hy, h0, rfl⟩
    exact ⟨y, by rw [List.mem_filter, decide_eq_true_iff]; exact ⟨hy, h0⟩, rfl⟩
theorem cutAct_fit {L : List (Nat × Nat × Nat)} (t : TabOk L) {y : Nat × Nat × Nat} (hy : y ∈ L) : (cutAct y).fit := by
  refine ⟨t.vp y hy, ?_, (by decide : 1 ≤ 2 ∧ 2 ≤ 4), (fun h => by cases h), (by decide : 0 ≤ 999)⟩
  show Fits false 0
  unfold Fits wd; simp
theorem cuts_nodup {L : List (Nat × Nat × Nat)} (hs : Srt L) (M : List (Nat × Nat × Nat)) : ((cutsOf L M).map ActD.pre).Nodup := by
  unfold cutsOf
  rw [List.map_map]
  exact (keys_nodup hs).sublist (List.filter_sublist.map _)
theorem puts_nodup {M : List (Nat × Nat × Nat)} (hs : Srt M) (L : List (Nat × Nat × Nat)) : ((putsOf L M).map ActD.pre).Nodup := by
  unfold putsOf
  rw [List.map_map]
  exact (keys_nodup hs).sublist (List.filter_sublist.map _)
theorem diff_nodup {L M : List (Nat × Nat × Nat)} (t : TabOk L) (s : TabOk M) : ((diffL L M).map ActD.pre).Nodup := by
  unfold diffL
  rw [List.map_append, List.nodup_append]
  refine ⟨cuts_nodup t.srt M, puts_nodup s.srt L, ?_⟩
  rintro a ha b hb rfl
  obtain ⟨x, hx, rfl⟩ := List.mem_map.1 ha
  obtain ⟨y, hy, he⟩ := List.mem_map.1 hb
  obtain ⟨u, hu, h0, rfl⟩ := mem_cutsOf.1 hx
  obtain ⟨v, hv, _, rfl⟩ := mem_putsOf.1 hy
  have e : v.1 = u.1 ∧ v.2.1 = u.2.1 := by
    have he : (v.1, v.2.1) = (u.1, u.2.1) := he
    simpa using he
  exact (has_none s.hops).1 h0 v hv e
theorem diff_fit {L M : List (Nat × Nat × Nat)} (t : TabOk L) (s : TabOk M) : ∀ x ∈ diffL L M, x.fit := by
  intro x hx
  rcases List.mem_append.1 hx with hx | hx
  · obtain ⟨u, hu, _, rfl⟩ := mem_cutsOf.1 hx
    exact cutAct_fit t hu
  · obtain ⟨v, hv, _, rfl⟩ := mem_putsOf.1 hx
    exact putAct_fit (RtOk.of_tab s) v hv
theorem diff_len (L M : List (Nat × Nat × Nat)) : (diffL L M).length ≤ L.length + M.length := by
  unfold diffL cutsOf putsOf
  rw [List.length_append, List.length_map, List.length_map]
  have := List.length_filter_le (fun x => decide (hasL M x.1 x.2.1 = 0)) L
  have := List.length_filter_le (fun y : Nat × Nat × Nat => decide (hasL L y.1 y.2.1 ≠ y.2.2)) M
  omega
/-- The prefixes of the acts are those at which the tables part. -/
theorem diff_keys {L M : List (Nat × Nat × Nat)} (t : TabOk L) (s : TabOk M) (n k : Nat) : (n, k) ∈ (diffL L M).map ActD.pre ↔ hasL L n k ≠ hasL M n k := by
  rw [List.mem_map]
  constructor
  · rintro ⟨x, hx, he⟩
    rcases List.mem_append.1 hx with hx | hx
    · obtain ⟨u, hu, h0, rfl⟩ := mem_cutsOf.1 hx
      have he : (u.1, u.2.1) = (n, k) := he
      simp only [Prod.mk.injEq] at he
      obtain ⟨rfl, rfl⟩ := he
      rw [h0]
      exact (key_has t.hops).1 (List.mem_map.2 ⟨u, hu, rfl⟩)
    · obtain ⟨v, hv, h0, rfl⟩ := mem_putsOf.1 hx
      have he : (v.1, v.2.1) = (n, k) := he
      simp only [Prod.mk.injEq] at he
      obtain ⟨rfl, rfl⟩ := he
      rw [hasL_mem s.srt (show (v.1, v.2.1, v.2.2) ∈ M from hv)]
      exact h0
  · intro h
    by_cases h0 : hasL M n k = 0
    · have hl : hasL L n k ≠ 0 := by rw [h0] at h; exact h
      exact ⟨_, List.mem_append_left _ (mem_cutsOf.2 ⟨_, mem_hasL hl, h0, rfl⟩), rfl⟩
    · exact ⟨_, List.mem_append_right _ (mem_putsOf.2 ⟨_, mem_hasL h0, h, rfl⟩), rfl⟩
/-- Cuts and puts of them, in part. -/
theorem dif_part {L M : List (Nat × Nat × Nat)} (t : TabOk L) (s : TabOk M) {cs ps : List ActD} {K : List (Nat × Nat)} (hK : K.length ≤ 60) (hM : ∀ y ∈ M, keyOf y ∈ K)
    (hc : cs.Sublist (cutsOf L M)) (hp : ps.Sublist (putsOf L M)) (hall : ∀ x ∈ cutsOf L M, x ∈ cs ∨ x.pre ∈ K) :
    AllOk L (cs ++ ps) ∧ (∀ n k, hasL (tend L (cs ++ ps)) n k = lastE n k (hasL L n k) (cs ++ ps)) ∧ TabOk (tend L (cs ++ ps)) := by
  have hcf : ∀ x ∈ cs, x.fit ∧ x.kind = 2 ∧ hasL L x.n x.k ≠ 0 := fun x hx => by
    obtain ⟨u, hu, _, rfl⟩ := mem_cutsOf.1 (hc.subset hx)
    exact ⟨cutAct_fit t hu, rfl, (key_has t.hops).1 (List.mem_map.2 ⟨u, hu, rfl⟩)⟩
  have hcn : (cs.map ActD.pre).Nodup := (cuts_nodup t.srt M).sublist (hc.map _)
  obtain ⟨a1, b1⟩ := cuts_in cs t hcn hcf
  have t1 := tend_ok t (l := cs) (fun x hx => (hcf x hx).1)
  have hpf : ∀ x ∈ ps, x.fit ∧ x.kind = 1 ∧ x.pre ∈ K := fun x hx => by
    obtain ⟨v, hv, _, rfl⟩ := mem_putsOf.1 (hp.subset hx)
    exact ⟨putAct_fit (RtOk.of_tab s) v hv, rfl, hM v hv⟩
  obtain ⟨a2, b2⟩ := puts_in hK ps t1 (fun y hy => by
    have h1 : hasL (tend L cs) y.1 y.2.1 ≠ 0 := (key_has t1.hops).1 (List.mem_map.2 ⟨y, hy, rfl⟩)
    rw [b1] at h1
    by_cases hL : hasL L y.1 y.2.1 = 0
    · exfalso
      rw [lastE_far] at h1
      · exact h1 hL
      · rintro x hx ⟨e1, e2⟩
        rw [← e1, ← e2] at hL
        exact (hcf x hx).2.2 hL
    · by_cases hM0 : hasL M y.1 y.2.1 = 0
      · rcases hall _ (mem_cutsOf.2 ⟨_, mem_hasL hL, hM0, rfl⟩) with h | h
        · exfalso
          rw [lastE_mem y.1 y.2.1 cs _ _ hcn h ⟨rfl, rfl⟩] at h1
          exact h1 rfl
        · exact h
      · exact hM (y.1, y.2.1, hasL M y.1 y.2.1) (mem_hasL hM0)) hpf
  refine ⟨a1.app a2, fun n k => ?_, ?_⟩
  · rw [tend_app, b2, b1, lastE_app]
  · rw [tend_app]
    exact tend_ok t1 (fun x hx => (hpf x hx).1)
/-- All of them: the other table. -/
theorem dif_all {L M : List (Nat × Nat × Nat)} (t : TabOk L) (s : TabOk M) : AllOk L (diffL L M) ∧ tend L (diffL L M) = M := by
  obtain ⟨a, b, t'⟩ := dif_part t s (cs := cutsOf L M) (ps := putsOf L M) (K := keysL M) (by unfold keysL; rw [List.length_map]; exact s.len) (fun y hy => List.mem_map.2 ⟨y, hy, rfl⟩) (List.Sublist.refl _) (List.Sublist.refl _) (fun x hx => .inl hx)
  refine ⟨a, tab_ext t'.srt t'.hops s.srt s.hops (fun n k => ?_)⟩
  show hasL (tend L (cutsOf L M ++ putsOf L M)) n k = _
  rw [b]
  by_cases h : hasL L n k = hasL M n k
  · rw [lastE_far, h]
    rintro x hx ⟨e1, e2⟩
    exact (diff_keys t s n k).1 (List.mem_map.2 ⟨x, hx, by unfold ActD.pre; rw [e1, e2]⟩) h
  · by_cases h0 : hasL M n k = 0
    · have hl : hasL L n k ≠ 0 := by rw [h0] at h; exact h
      rw [lastE_mem n k (cutsOf L M ++ putsOf L M) _ (cutAct (n, k, hasL L n k)) (diff_nodup t s) (List.mem_append_left _ (mem_cutsOf.2 ⟨_, mem_hasL hl, h0, rfl⟩)) ⟨rfl, rfl⟩, h0]
      rfl
    · rw [lastE_mem n k (cutsOf L M ++ putsOf L M) _ (putAct (n, k, hasL M n k)) (diff_nodup t s) (List.mem_append_right _ (mem_putsOf.2 ⟨_, mem_hasL h0, h, rfl⟩)) ⟨rfl, rfl⟩]
      rfl
/-- All but one: another table. -/
theorem dif_less {L M : List (Nat × Nat × Nat)} (t : TabOk L) (s : TabOk M) (hM : M.length ≤ 59) {i : Nat} (hi : i < (diffL L M).length) :
    AllOk L ((diffL L M).take i ++ (diffL L M).drop (i + 1)) ∧ tend L ((diffL L M).take i ++ (diffL L M).drop (i + 1)) ≠ M ∧ TabOk (tend L ((diffL L M).take i ++ (diffL L M).drop (i + 1))) := by
  obtain ⟨x, hx⟩ : ∃ x, (diffL L M)[i]? = some x := ⟨_, List.getElem?_eq_getElem hi⟩
  have e : diffL L M = (diffL L M).take i ++ x :: (diffL L M).drop (i + 1) := by
    obtain ⟨h1, h2⟩ := List.getElem?_eq_some_iff.1 hx
    rw [← h2, ← List.drop_eq_getElem_cons h1, List.take_append_drop]
  have hsub : ((diffL L M).take i ++ (diffL L M).drop (i + 1)).Sublist (diffL L M) := by
    conv => rhs; rw [e]
    exact (List.Sublist.refl _).append (List.sublist_cons_self _ _)
  have hnd := diff_nodup t s
  have hno : ∀ y ∈ (diffL L M).take i ++ (diffL L M).drop (i + 1), y.pre ≠ x.pre := by
    rw [e, List.map_append, List.map_cons, List.nodup_append] at hnd
    obtain ⟨_, h2, h3⟩ := hnd
    rw [List.nodup_cons] at h2
    intro y hy he
    rcases List.mem_append.1 hy with hy | hy
    · exact h3 _ (List.mem_map.2 ⟨y, hy, rfl⟩) _ List.mem_cons_self he
    · exact h2.1 (List.mem_map.2 ⟨y, hy, he⟩)
  have hxm : x ∈ diffL L M := List.mem_of_getElem? hx
  have hmem : ∀ y ∈ diffL L M, y = x ∨ y ∈ (diffL L M).take i ++ (diffL L M).drop (i + 1) := fun y hy => by
    rw [e] at hy
    rcases List.mem_append.1 hy with hy | hy
    · exact .inr (List.mem_append_left _ hy)
    · rcases List.mem_cons.1 hy with rfl | hy
      · exact .inl rfl
      · exact .inr (List.mem_append_right _ hy)
  generalize (diffL L M).take i ++ (diffL L M).drop (i + 1) = q at *
  obtain ⟨cs, ps, rfl, hc, hp⟩ := List.sublist_append_iff.1 hsub
  obtain ⟨a, b, t'⟩ := dif_part t s (cs := cs) (ps := ps) (K := x.pre :: keysL M) (by unfold keysL; simp; omega) (fun y hy => List.mem_cons_of_mem _ (List.mem_map.2 ⟨y, hy, rfl⟩)) hc hp (fun y hy => by
    rcases hmem y (List.mem_append_left _ hy) with rfl | h
    · exact .inr List.mem_cons_self
    · rcases List.mem_append.1 h with h | h
      · exact .inl h
      · exfalso
        obtain ⟨u, _, _, rfl⟩ := mem_cutsOf.1 hy
        obtain ⟨v, _, _, he⟩ := mem_putsOf.1 (hp.subset h)
        cases he)
  refine ⟨a, fun he => ?_, t'⟩
  have h1 := b x.n x.k
  rw [he, lastE_far _ _ _ _ (fun y hy hee => hno y hy (by unfold ActD.pre; rw [hee.1, hee.2]))] at h1
  exact (diff_keys t s x.n x.k).1 (List.mem_map.2 ⟨x, hxm, rfl⟩) h1.symm
/-- Lengths. -/
theorem diff_tri {L M N : List (Nat × Nat × Nat)} (t : TabOk L) (s : TabOk M) (r : TabOk N) : (diffL L N).length ≤ (diffL L M).length + (diffL M N).length := by
  have := nodup_le (m := (diffL L M).map ActD.pre ++ (diffL M N).map ActD.pre) (diff_nodup t r) (fun p hp => by
    obtain ⟨n, k⟩ := p
    rw [diff_keys t r] at hp
    rw [List.mem_append, diff_keys t s, diff_keys s r]
    by_cases h : hasL L n k = hasL M n k
    · exact .inr (fun e => hp (h.trans e))
    · exact .inl h)
  simpa using this
theorem diff_back {L M : List (Nat × Nat × Nat)} (t : TabOk L) (s : TabOk M) : (diffL M L).length = (diffL L M).length := by
  have h1 := nodup_le (m := (diffL L M).map ActD.pre) (diff_nodup s t) (fun p hp => by
    obtain ⟨n, k⟩ := p
    rw [diff_keys s t] at hp
    rw [diff_keys t s]
    exact fun e => hp e.symm)
  have h2 := nodup_le (m := (diffL M L).map ActD.pre) (diff_nodup t s) (fun p hp => by
    obtain ⟨n, k⟩ := p
    rw [diff_keys t s] at hp
    rw [diff_keys s t]
    exact fun e => hp e.symm)
  simp at h1 h2
  omega
theorem diff_self {L : List (Nat × Nat × Nat)} (t : TabOk L) : diffL L L = [] := by
  have : (diffL L L).length ≤ 0 := by
    have := nodup_le (m := []) (diff_nodup t t) (fun p hp => by
      obtain ⟨n, k⟩ := p
      rw [diff_keys t t] at hp
      exact absurd rfl hp)
    simpa using this
  exact List.eq_nil_of_length_eq_zero (by omega)
/-- Puts alone, few of them. -/
theorem puts_small {T : List (Nat × Nat × Nat)} (t : TabOk T) {q : List ActD} (hq : ∀ x ∈ q, x.fit ∧ x.kind = 1) (hl : T.length + q.length ≤ 60) : AllOk T q :=
  (puts_in (K := keysL T ++ q.map ActD.pre) (by unfold keysL; simp; omega) q t (fun y hy => List.mem_append_left _ (List.mem_map.2 ⟨y, hy, rfl⟩)) (fun x hx => ⟨(hq x hx).1, (hq x hx).2, List.mem_append_right _ (List.mem_map.2 ⟨x, hx, rfl⟩)⟩)).1

/-- Two lists in order, merged: how far one is. -/
structure Mrg (L M : List (Nat × Nat × Nat)) (i j : Nat) : Prop where
  lo : ∀ u ∈ L.take i, ∀ v ∈ M.drop j, lt3 u v
  hi : ∀ v ∈ M.take j, ∀ u ∈ L.drop i, lt3 v u
theorem Mrg.zero (L M : List (Nat × Nat × Nat)) : Mrg L M 0 0 := ⟨fun u hu => by simp at hu, fun u hu => by simp at hu⟩
theorem Mrg.swap {L M : List (Nat × Nat × Nat)} {i j : Nat} (h : Mrg L M i j) : Mrg M L j i := ⟨h.hi, h.lo⟩
theorem take_one {α : Type} {l : List α} {i : Nat} {x : α} (h : l[i]? = some x) : l.take (i + 1) = l.take i ++ [x] := by rw [List.take_add_one, h]; rfl
theorem drop_one {α : Type} {l : List α} {i : Nat} {x : α} (h : l[i]? = some x) : l.drop i = x :: l.drop (i + 1) := by
  obtain ⟨h1, h2⟩ := List.getElem?_eq_some_iff.1 h
  rw [← h2, ← List.drop_eq_getElem_cons h1]
theorem lt3_trans {x y z : Nat × Nat × Nat} (h : lt3 x y) (g : lt3 y z) : lt3 x z := by unfold lt3 at *; omega
theorem Mrg.left {L M : List (Nat × Nat × Nat)} {i j : Nat} (h : Mrg L M i j) (t : TabOk L) (s : TabOk M) {x : Nat × Nat × Nat} (hx : L[i]? = some x) (hy : ∀ y, M[j]? = some y → lt3 x y) :
    Mrg L M (i + 1) j ∧ hasL M x.1 x.2.1 = 0 := by
  have hA : ∀ v ∈ M.drop j, lt3 x v := by
    intro v hv
    cases hm : M[j]? with
    | none =>
      rw [List.getElem?_eq_none_iff] at hm
      rw [List.drop_eq_nil_of_le hm] at hv
      cases hv
    | some y =>
      have hs := s.srt
      unfold Srt at hs
      have e : M = M.take j ++ y :: M.drop (j + 1) := by rw [← drop_one hm, List.take_append_drop]
      rw [drop_one hm] at hv
      rcases List.mem_cons.1 hv with rfl | hv
      · exact hy _ hm
      · rw [e, List.pairwise_append, List.pairwise_cons] at hs
        exact lt3_trans (hy _ hm) (hs.2.1.1 v hv)
  have hxd : x ∈ L.drop i := by rw [drop_one hx]; exact List.mem_cons_self
  refine ⟨⟨fun u hu v hv => ?_, fun v hv u hu => h.hi v hv u (by rw [drop_one hx]; exact List.mem_cons_of_mem _ hu)⟩, ?_⟩
  · rw [take_one hx] at hu
    rcases List.mem_append.1 hu with hu | hu
    · exact h.lo u hu v hv
    · simp at hu; subst hu; exact hA v hv
  · rw [has_none s.hops]
    intro v hv e
    rw [← List.take_append_drop j M] at hv
    rcases List.mem_append.1 hv with hv | hv
    · have := h.hi v hv x hxd
      unfold lt3 at this; omega
    · have := hA v hv
      unfold lt3 at this; omega
theorem Mrg.both {L M : List (Nat × Nat × Nat)} {i j : Nat} (h : Mrg L M i j) (t : TabOk L) (s : TabOk M) {x y : Nat × Nat × Nat} (hx : L[i]? = some x) (hy : M[j]? = some y) (he : x.1 = y.1 ∧ x.2.1 = y.2.1) :
    Mrg L M (i + 1) (j + 1) ∧ hasL M x.1 x.2.1 = y.2.2 ∧ hasL L y.1 y.2.1 = x.2.2 ∧ y.2.2 ≠ 0 := by
  have after : ∀ {N : List (Nat × Nat × Nat)} {k : Nat} {z : Nat × Nat × Nat}, Srt N → N[k]? = some z → ∀ v ∈ N.drop (k + 1), lt3 z v := by
    intro N k z hs hz v hv
    unfold Srt at hs
    have e : N = N.take k ++ z :: N.drop (k + 1) := by rw [← drop_one hz, List.take_append_drop]
    rw [e, List.pairwise_append, List.pairwise_cons] at hs
    exact hs.2.1.1 v hv
  have hym := List.mem_of_getElem? hy
  have hxm := List.mem_of_getElem? hx
  refine ⟨⟨fun u hu v hv => ?_, fun v hv u hu => ?_⟩, ?_, ?_, s.hops y hym⟩
  · have hv' : v ∈ M.drop j := by rw [drop_one hy]; exact List.mem_cons_of_mem _ hv
    rw [take_one hx] at hu
    rcases List.mem_append.1 hu with hu | hu
    · exact h.lo u hu v hv'
    · simp at hu; subst hu
      have := after s.srt hy v hv
      unfold lt3 at this ⊢; omega
  · have hu' : u ∈ L.drop i := by rw [drop_one hx]; exact List.mem_cons_of_mem _ hu
    rw [take_one hy] at hv
    rcases List.mem_append.1 hv with hv | hv
    · exact h.hi v hv u hu'
    · simp at hv; subst hv
      have := after t.srt hx u hu
      unfold lt3 at this ⊢; omega
  · rw [he.1, he.2]; exact hasL_mem s.srt (show (y.1, y.2.1, y.2.2) ∈ M from hym)
  · rw [← he.1, ← he.2]; exact hasL_mem t.srt (show (x.1, x.2.1, x.2.2) ∈ L from hxm)
theorem cutsOf_snoc {L : List (Nat × Nat × Nat)} (M : List (Nat × Nat × Nat)) {i : Nat} {x : Nat × Nat × Nat} (hx : L[i]? = some x) : cutsOf (L.take (i + 1)) M = cutsOf (L.take i) M ++ (if hasL M x.1 x.2.1 = 0 then [cutAct x] else []) := by
  unfold cutsOf
  rw [take_one hx, List.filter_append, List.map_append]
  congr 1
  by_cases h : hasL M x.1 x.2.1 = 0
  · rw [if_pos h, List.filter_cons_of_pos (by simpa using h)]; rfl
  · rw [if_neg h, List.filter_cons_of_neg (by simpa using h)]; rfl
theorem putsOf_snoc (L : List (Nat × Nat × Nat)) {M : List (Nat × Nat × Nat)} {j : Nat} {y : Nat × Nat × Nat} (hy : M[j]? = some y) : putsOf L (M.take (j + 1)) = putsOf L (M.take j) ++ (if hasL L y.1 y.2.1 ≠ y.2.2 then [putAct y] else []) := by
  unfold putsOf
  rw [take_one hy, List.filter_append, List.map_append]
  congr 1
  by_cases h : hasL L y.1 y.2.1 ≠ y.2.2
  · rw [if_pos h, List.filter_cons_of_pos (by simpa using h)]; rfl
  · rw [if_neg h, List.filter_cons_of_neg (by simpa using h)]; rfl
end Go.Proofs.Yteadfobfenopkaa
