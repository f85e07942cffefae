
/- FewestOrder: plain laws: as few routes in whatever order; a route that says what stands above it needs none more. -/
import Derived.Test.YtoecmoicaklbaaaFgC
import Derived.Test.YtoecmoicaklbaaaOrdP
set_option linter.unusedVariables false
set_option linter.unusedSimpArgs false
namespace Go.Proofs.Ytoecmoicaklbaaa
open Go Go.RowKit Go.Sort Wc Wk

theorem few_same {rs ms ys zs : List (Nat × Nat × Nat)} (hok : RtOk rs) (hom : RtOk ms) (hs : SortL rs ys) (ht : SortL ms zs) (hex : ∃ x ∈ rs, x.2.1 = 0) (hex' : ∃ x ∈ ms, x.2.1 = 0) (h : ∀ a, Fits false a → (goesL (putAll ms) a).1 = (goesL (putAll rs) a).1) : (fewL ys).length = (fewL zs).length :=
  Nat.le_antisymm (few_least hok hs (few_ok hom ht hex') (fun a ha => (few_goes hom ht hex' ha).trans (h a ha)))
    (few_least hom ht (few_ok hok hs hex) (fun a ha => (few_goes hok hs hex ha).trans (h a ha).symm))
theorem goes_mem {L M : List (Nat × Nat × Nat)} (hL : RtOk L) (hM : RtOk M) (e : ∀ y, y ∈ L ↔ y ∈ M) (a : Nat) : (goesL (putAll L) a).1 = (goesL (putAll M) a).1 :=
  BestIs.one hM.keys ((best_keys hL a).mem e) (best_keys hM a)
theorem rtok_rev {L : List (Nat × Nat × Nat)} (h : RtOk L) : RtOk L.reverse :=
  ⟨fun x hx => h.vp x (List.mem_reverse.1 hx), fun x hx => h.lo x (List.mem_reverse.1 hx), fun x hx => h.hi x (List.mem_reverse.1 hx), by rw [List.pairwise_reverse]; exact h.keys.imp (fun {x y} k e => k ⟨e.1.symm, e.2.symm⟩), by rw [List.length_reverse]; exact h.len⟩
/-- The routes of a list, from the t-th on, around. -/
def rotF (L : List (Nat × Nat × Nat)) (t m : Nat) : List (Nat × Nat × Nat) := (around L t m).reverse
theorem rotF_succ (L : List (Nat × Nat × Nat)) (t m : Nat) : rotF L t (m + 1) = rotF L t m ++ [L.getD ((m + t) % L.length) (0, 0, 0)] := by
  unfold rotF; rw [around_succ, List.reverse_cons]
theorem rotF_len (L : List (Nat × Nat × Nat)) (t m : Nat) : (rotF L t m).length = m := by unfold rotF; rw [List.length_reverse, around_len]
theorem rotF_ok {L : List (Nat × Nat × Nat)} (h : RtOk L) (t : Nat) : RtOk (rotF L t L.length) := rtok_rev (around_ok h t L.length (Nat.le_refl _)).1
theorem rotF_mem {L : List (Nat × Nat × Nat)} (h : RtOk L) (t : Nat) (y : Nat × Nat × Nat) : y ∈ rotF L t L.length ↔ y ∈ L := by
  have hm : ∀ x ∈ rotF L t L.length, x ∈ L := fun x hx => (around_ok h t L.length (Nat.le_refl _)).2 x (List.mem_reverse.1 hx)
  have hk : ∀ {M : List (Nat × Nat × Nat)}, RtOk M → M.Nodup := fun k => k.keys.imp (fun {x y} g e => g (by rw [e]; exact ⟨rfl, rfl⟩))
  refine ⟨hm y, fun hy => ?_⟩
  apply Classical.byContradiction
  intro hno
  have hsub : (y :: rotF L t L.length).length ≤ L.length := (List.nodup_cons.2 ⟨hno, hk (rotF_ok h t)⟩).length_le_of_subset (fun z hz => by
    rcases List.mem_cons.1 hz with rfl | hz
    · exact hy
    · exact hm z hz)
  rw [List.length_cons, rotF_len] at hsub
  omega
/-- What stands above a prefix: its length and its hop; -1 and 0: nothing. -/
def AboveIs (L : List (Nat × Nat × Nat)) (n k : Nat) (lo : Int) (v : Nat) : Prop :=
  (lo = -1 ∧ v = 0 ∧ ∀ z ∈ L, ¬ cov false z.1 z.2.1 n k) ∨ ∃ y ∈ L, cov false y.1 y.2.1 n k ∧ lo = y.2.1 ∧ v = y.2.2 ∧ ∀ z ∈ L, cov false z.1 z.2.1 n k → z.2.1 ≤ y.2.1
theorem AboveIs.low {L : List (Nat × Nat × Nat)} {n k v : Nat} {lo : Int} (h : AboveIs L n k lo v) : -1 ≤ lo ∧ lo ≤ k := by
  rcases h with ⟨h, _⟩ | ⟨y, _, h1, h2, _⟩
  · omega
  · have := h1.1; omega
theorem AboveIs.stay {L : List (Nat × Nat × Nat)} {n k v : Nat} {lo : Int} {x : Nat × Nat × Nat} (h : AboveIs L n k lo v) (hx : ¬ (cov false x.1 x.2.1 n k ∧ lo < x.2.1)) : AboveIs (L ++ [x]) n k lo v := by
  rcases h with ⟨h1, h2, h3⟩ | ⟨y, hy, h1, h2, h3, h4⟩
  · refine .inl ⟨h1, h2, fun z hz => ?_⟩
    rcases List.mem_append.1 hz with hz | hz
    · exact h3 z hz
    · simp only [List.mem_singleton] at hz
      subst hz
      intro c
      exact hx ⟨c, by omega⟩
  · refine .inr ⟨y, List.mem_append_left _ hy, h1, h2, h3, fun z hz c => ?_⟩
    rcases List.mem_append.1 hz with hz | hz
    · exact h4 z hz c
    · simp only [List.mem_singleton] at hz
      subst hz
      apply Classical.byContradiction
      intro hn
      exact hx ⟨c, by omega⟩
theorem AboveIs.next {L : List (Nat × Nat × Nat)} {n k v : Nat} {lo : Int} {x : Nat × Nat × Nat} (h : AboveIs L n k lo v) (hx : cov false x.1 x.2.1 n k) (hl : lo < x.2.1) : AboveIs (L ++ [x]) n k x.2.1 x.2.2 := by
  refine .inr ⟨x, by simp, hx, rfl, rfl, fun z hz c => ?_⟩
  rcases List.mem_append.1 hz with hz | hz
  · rcases h with ⟨_, _, h3⟩ | ⟨y, hy, h1, h2, h3, h4⟩
    · exact absurd c (h3 z hz)
    · have := h4 z hz c; omega
  · simp only [List.mem_singleton] at hz
    subst hz
    exact Nat.le_refl _
/-- A route that says what stands above it changes nothing. -/
theorem goes_more {R : List (Nat × Nat × Nat)} {n k v : Nat} {lo : Int} (hok : RtOk R) (hex : ∃ x ∈ R, x.2.1 = 0) (hv : VP false n k) (hno : ∀ x ∈ R, ¬ (x.1 = n ∧ x.2.1 = k)) (h : AboveIs R n k lo v) (hl : R.length < 60) :
    RtOk (R ++ [(n, k, v)]) ∧ ∀ a, Fits false a → (goesL (putAll (R ++ [(n, k, v)])) a).1 = (goesL (putAll R) a).1 := by
  have hk32 : k ≤ 32 := (vp_iff.1 hv).2.1
  have zero_cov : ∀ {x : Nat × Nat × Nat}, x ∈ R → x.2.1 = 0 → ∀ m, Fits false m → cutN 32 m x.2.1 = x.1 := fun {x} hx h0 m hm => by
    have hx1 := hok.vp x hx
    rw [cov_tp hx1, h0, tp_zero hm, tp_zero (vp_iff.1 hx1).1]
  obtain ⟨y, hy, y1, y2, y3, y4⟩ : ∃ y ∈ R, cov false y.1 y.2.1 n k ∧ lo = y.2.1 ∧ v = y.2.2 ∧ ∀ z ∈ R, cov false z.1 z.2.1 n k → z.2.1 ≤ y.2.1 := by
    rcases h with ⟨_, _, h3⟩ | h
    · obtain ⟨x, hx, h0⟩ := hex
      exact absurd ⟨by rw [h0]; exact Nat.zero_le _, zero_cov hx h0 n (vp_iff.1 hv).1⟩ (h3 x hx)
    · exact h
  have hok2 : RtOk (R ++ [(n, k, v)]) := by
    have one : ∀ {P : Nat × Nat × Nat → Prop}, (∀ x ∈ R, P x) → P (n, k, v) → ∀ x ∈ R ++ [(n, k, v)], P x := fun {P} h1 h2 x hx => by
      rcases List.mem_append.1 hx with hx | hx
      · exact h1 x hx
      · simp only [List.mem_singleton] at hx
        rw [hx]; exact h2
    refine ⟨one hok.vp hv, one hok.lo ?_, one hok.hi ?_, ?_, by simp; omega⟩
    · rw [y3]; exact hok.lo y hy
    · rw [y3]; exact hok.hi y hy
    · refine List.pairwise_append.2 ⟨hok.keys, List.pairwise_singleton _ _, fun x hx z hz => ?_⟩
      simp only [List.mem_singleton] at hz
      subst hz
      exact hno x hx
  refine ⟨hok2, fun a ha => ?_⟩
  have hb := best_keys hok a
  generalize (goesL (putAll R) a).1 = u at *
  refine BestIs.one hok2.keys (best_keys hok2 a) ?_
  rcases hb with ⟨x, hx, h1, h2, h3⟩ | ⟨h1, _⟩
  · by_cases c : cutN 32 a k = n
    · have ct := (cov_tp hv).1 c
      have through : ∀ z ∈ R, z.2.1 ≤ k → (cutN 32 a z.2.1 = z.1 ↔ cutN 32 n z.2.1 = z.1) := fun z hz hzk => by
        have hz1 := hok.vp z hz
        rw [cov_tp hz1, cov_tp hz1, tp_mono ct hzk hk32]
      by_cases hlt : x.2.1 ≤ k
      · have xc : cov false x.1 x.2.1 n k := ⟨hlt, (through x hx hlt).1 h1⟩
        have e1 := y4 x hx xc
        have ya : cutN 32 a y.2.1 = y.1 := (through y hy y1.1).2 y1.2
        have e2 := h3 y hy ya
        have e3 : y.2.1 = x.2.1 := by omega
        have e4 : y = x := keys_one hok.keys y hy x hx (by rw [← ya, ← h1, e3]) e3
        subst e4
        refine .inl ⟨(n, k, v), by simp, c, by rw [← h2]; exact y3, fun z hz hc => ?_⟩
        rcases List.mem_append.1 hz with hz | hz
        · have := h3 z hz hc
          show z.2.1 ≤ k
          omega
        · simp only [List.mem_singleton] at hz
          rw [hz]; exact Nat.le_refl _
      · refine .inl ⟨x, List.mem_append_left _ hx, h1, h2, fun z hz hc => ?_⟩
        rcases List.mem_append.1 hz with hz | hz
        · exact h3 z hz hc
        · simp only [List.mem_singleton] at hz
          rw [hz]
          show k ≤ x.2.1
          omega
    · refine .inl ⟨x, List.mem_append_left _ hx, h1, h2, fun z hz hc => ?_⟩
      rcases List.mem_append.1 hz with hz | hz
      · exact h3 z hz hc
      · simp only [List.mem_singleton] at hz
        rw [hz] at hc
        exact absurd hc c
  · obtain ⟨x, hx, h0⟩ := hex
    exact absurd (zero_cov hx h0 a ha) (h1 x hx)
end Go.Proofs.Ytoecmoicaklbaaa
