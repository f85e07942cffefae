
/- fewest.Same: plain law: where addresses change their way is where a prefix begins, or just behind one. -/
import Derived.Test.YtoecmoicaklbaaaFgC
import Derived.Test.YtoecmoicaklbaaaSm1
import Derived.Test.YtoecmoicaklbaaaDifP
set_option linter.unusedVariables false
set_option linter.unusedSimpArgs false
namespace Go.Proofs.Ytoecmoicaklbaaa
open Go Go.RowKit Go.Sort Wc Wk

theorem in_range {n k a : Nat} (h : VP false n k) : cutN 32 a k = n ↔ n ≤ a ∧ a ≤ lastN 32 n k := by
  have hd := dvd_of_cut h.2.2
  have hp := Nat.two_pow_pos (32 - k)
  unfold cutN lastN
  have h1 := Nat.div_add_mod a (2 ^ (32 - k))
  have h2 := Nat.mod_lt a hp
  have h3 := Nat.div_add_mod n (2 ^ (32 - k))
  have hd' : n % 2 ^ (32 - k) = 0 := hd
  rw [hd'] at h3
  rw [Nat.mul_comm]
  constructor
  · intro e; omega
  · rintro ⟨a1, a2⟩
    have : a / 2 ^ (32 - k) = n / 2 ^ (32 - k) := by
      apply Nat.div_eq_of_lt_le
      · rw [Nat.mul_comm]; omega
      · rw [Nat.succ_mul, Nat.mul_comm]; omega
    rw [this]; omega
/-- The addresses that a route's prefix adds. -/
def probe (x : Nat × Nat × Nat) : List (Bool × Nat) := (false, x.1) :: (if lastN 32 x.1 x.2.1 + 1 < 2 ^ 32 then [(false, lastN 32 x.1 x.2.1 + 1)] else [])
def probes (rs : List (Nat × Nat × Nat)) : List (Bool × Nat) := [(false, 0), (true, 0)] ++ (rs.map probe).flatten
theorem probes_snoc (rs : List (Nat × Nat × Nat)) (x : Nat × Nat × Nat) : probes (rs ++ [x]) = probes rs ++ probe x := by simp [probes]
theorem probes_ok {rs : List (Nat × Nat × Nat)} (h : ∀ x ∈ rs, VP false x.1 x.2.1) : ∀ p ∈ probes rs, prOk p := fun p hp => by
  simp only [probes, List.mem_append, List.mem_cons, List.not_mem_nil, or_false, List.mem_flatten, List.mem_map] at hp
  rcases hp with (rfl | rfl) | ⟨_, ⟨x, hx, rfl⟩, hp⟩
  · exact .inr ⟨rfl, Nat.two_pow_pos _⟩
  · exact .inl ⟨rfl, rfl⟩
  · simp only [probe, List.mem_cons] at hp
    rcases hp with rfl | hp
    · exact .inr ⟨rfl, (h x hx).1⟩
    · split at hp
      · simp only [List.mem_singleton] at hp
        subst hp
        rename_i hl
        exact .inr ⟨rfl, hl⟩
      · cases hp
theorem probe_len (x : Nat × Nat × Nat) : (probe x).length ≤ 2 := by unfold probe; split <;> simp
theorem probes_len : ∀ rs : List (Nat × Nat × Nat), (probes rs).length ≤ 2 + 2 * rs.length
  | [] => by simp [probes]
  | x :: rs => by
    have ih := probes_len rs
    have h1 := probe_len x
    simp only [probes, List.length_append, List.map_cons, List.flatten_cons, List.length_cons] at ih ⊢
    omega
/-- Two lists of routes lead to the same hops. -/
def Like (l m : List (Nat × Nat × Nat)) : Prop := ∀ a, Fits false a → (goesL (putAll l) a).1 = (goesL (putAll m) a).1
theorem Like.refl (l : List (Nat × Nat × Nat)) : Like l l := fun _ _ => rfl
theorem Like.symm {l m : List (Nat × Nat × Nat)} (h : Like l m) : Like m l := fun a ha => (h a ha).symm
theorem Like.trans {l m n : List (Nat × Nat × Nat)} (h : Like l m) (k : Like m n) : Like l n := fun a ha => (h a ha).trans (k a ha)
theorem goes_eqv {l : List (Nat × Nat × Nat)} (hok : RtOk l) {a b : Nat} (h : ∀ x ∈ l, (cutN 32 a x.2.1 = x.1 ↔ cutN 32 b x.2.1 = x.1)) : (goesL (putAll l) a).1 = (goesL (putAll l) b).1 := by
  refine BestIs.one hok.keys (best_keys hok a) ?_
  rcases best_keys hok b with ⟨y, hy, h1, h2, h3⟩ | ⟨h1, h2⟩
  · exact .inl ⟨y, hy, (h y hy).2 h1, h2, fun z hz hc => h3 z hz ((h z hz).1 hc)⟩
  · exact .inr ⟨fun z hz hc => h1 z hz ((h z hz).1 hc), h2⟩
theorem like_probes {l m : List (Nat × Nat × Nat)} (hl : RtOk l) (hm : RtOk m) (h : ∀ p ∈ probes (l ++ m), goesP (putAll l) p = goesP (putAll m) p) : Like l m := by
  have at_ : ∀ a, (false, a) ∈ probes (l ++ m) → (goesL (putAll l) a).1 = (goesL (putAll m) a).1 := fun a ha => h _ ha
  intro a
  induction a with
  | zero => intro _; exact at_ 0 (by simp [probes])
  | succ a ih =>
    intro ha
    have ha0 : Fits false a := Nat.lt_of_succ_lt ha
    by_cases hp : (false, a + 1) ∈ probes (l ++ m)
    · exact at_ _ hp
    · have same : ∀ x ∈ l ++ m, VP false x.1 x.2.1 → (cutN 32 (a + 1) x.2.1 = x.1 ↔ cutN 32 a x.2.1 = x.1) := fun x hx hv => by
        have q1 : (false, a + 1) ∉ probe x := fun e => hp (by
          simp only [probes, List.mem_append, List.mem_flatten, List.mem_map]
          exact .inr ⟨_, ⟨x, by simpa using hx, rfl⟩, e⟩)
        have q2 : a + 1 ≠ x.1 := fun e => q1 (by rw [e]; simp [probe])
        have q3 : a + 1 ≠ lastN 32 x.1 x.2.1 + 1 := fun e => q1 (by
          have : a + 1 < 2 ^ 32 := ha
          rw [e] at this
          unfold probe
          rw [if_pos this, e]
          simp)
        rw [in_range hv, in_range hv]
        omega
      rw [goes_eqv hl (fun x hx => same x (List.mem_append_left _ hx) (hl.vp x hx)), goes_eqv hm (fun x hx => same x (List.mem_append_right _ hx) (hm.vp x hx))]
      exact ih ha0
theorem differs_iff {l m : List (Nat × Nat × Nat)} (hl : RtOk l) (hm : RtOk m) : differs (putAll l) (putAll m) (probes (l ++ m)) = false ↔ Like l m := by
  constructor
  · intro h
    refine like_probes hl hm (fun p hp => ?_)
    have := List.any_eq_false.1 h p hp
    simpa using this
  · intro h
    refine List.any_eq_false.2 (fun p hp => ?_)
    have ok := probes_ok (rs := l ++ m) (fun x hx => (List.mem_append.1 hx).elim (hl.vp x) (hm.vp x)) p hp
    have : goesP (putAll l) p = goesP (putAll m) p := by
      obtain ⟨s, n⟩ := p
      rcases ok with ⟨h1, h2⟩ | ⟨h1, h2⟩
      · dsimp only at h1
        subst h1
        rfl
      · dsimp only at h1 h2
        subst h1
        exact h n h2
    simp [this]
/-- What fewest.Same answers. -/
def likeB (l m : List (Nat × Nat × Nat)) : Bool := !differs (putAll l) (putAll m) (probes (l ++ m))
theorem likeB_iff {l m : List (Nat × Nat × Nat)} (hl : RtOk l) (hm : RtOk m) : likeB l m = true ↔ Like l m := by
  rw [← differs_iff hl hm]
  unfold likeB
  cases differs (putAll l) (putAll m) (probes (l ++ m)) <;> simp
end Go.Proofs.Ytoecmoicaklbaaa

/- FewestOrder: plain laws: as few routes in whatever order; a route that says what stands above it needs none more. -/
set_option linter.unusedVariables false
set_option linter.unusedSimpArgs false
namespace Go.Proofs.Ytoecmoicaklbaaa
open Go Go.RowKit Go.Sort Wc Wk

theorem few_same {rs ms ys zs : List (Nat × Nat × Nat)} (hok : RtOk rs) (hom : RtOk ms) (hs : SortL rs ys) (ht : SortL ms zs) (hex : ∃ x ∈ rs, x.2.1 = 0) (hex' : ∃ x ∈ ms, x.2.1 = 0) (h : ∀ a, Fits false a → (goesL (putAll ms) a).1 = (goesL (putAll rs) a).1) : (fewL ys).length = (fewL zs).length :=
  Nat.le_antisymm (few_least hok hs (few_ok hom ht hex') (fun a ha => (few_goes hom ht hex' ha).trans (h a ha)))
    (few_least hom ht (few_ok hok hs hex) (fun a ha => (few_goes hok hs hex ha).trans (h a ha).symm))
theorem goes_mem {L M : List (Nat × Nat × Nat)} (hL : RtOk L) (hM : RtOk M) (e : ∀ y, y ∈ L ↔ y ∈ M) (a : Nat) : (goesL (putAll L) a).1 = (goesL (putAll M) a).1 :=
  BestIs.one hM.keys ((best_keys hL a).mem e) (best_keys hM a)
theorem rtok_rev {L : List (Nat × Nat × Nat)} (h : RtOk L) : RtOk L.reverse :=
  ⟨fun x hx => h.vp x (List.mem_reverse.1 hx), fun x hx => h.lo x (List.mem_reverse.1 hx), fun x hx => h.hi x (List.mem_reverse.1 hx), by rw [List.pairwise_reverse]; exact h.keys.imp (fun {x y} k e => k ⟨e.1.symm, e.2.symm⟩), by rw [List.length_reverse]; exact h.len⟩
/-- The routes of a list, from the t-th on, around. -/
def rotF (L : List (Nat × Nat × Nat)) (t m : Nat) : List (Nat × Nat × Nat) := (around L t m).reverse
theorem rotF_succ (L : List (Nat × Nat × Nat)) (t m : Nat) : rotF L t (m + 1) = rotF L t m ++ [L.getD ((m + t) % L.length) (0, 0, 0)] := by
  unfold rotF; rw [around_succ, List.reverse_cons]
theorem rotF_len (L : List (Nat × Nat × Nat)) (t m : Nat) : (rotF L t m).length = m := by unfold rotF; rw [List.length_reverse, around_len]
theorem rotF_ok {L : List (Nat × Nat × Nat)} (h : RtOk L) (t : Nat) : RtOk (rotF L t L.length) := rtok_rev (around_ok h t L.length (Nat.le_refl _)).1
theorem rotF_mem {L : List (Nat × Nat × Nat)} (h : RtOk L) (t : Nat) (y : Nat × Nat × Nat) : y ∈ rotF L t L.length ↔ y ∈ L := by
  have hm : ∀ x ∈ rotF L t L.length, x ∈ L := fun x hx => (around_ok h t L.length (Nat.le_refl _)).2 x (List.mem_reverse.1 hx)
  have hk : ∀ {M : List (Nat × Nat × Nat)}, RtOk M → M.Nodup := fun k => k.keys.imp (fun {x y} g e => g (by rw [e]; exact ⟨rfl, rfl⟩))
  refine ⟨hm y, fun hy => ?_⟩
  apply Classical.byContradiction
  intro hno
  have hsub : (y :: rotF L t L.length).length ≤ L.length := (List.nodup_cons.2 ⟨hno, hk (rotF_ok h t)⟩).length_le_of_subset (fun z hz => by
    rcases List.mem_cons.1 hz with rfl | hz
    · exact hy
    · exact hm z hz)
  rw [List.length_cons, rotF_len] at hsub
  omega
/-- What stands above a prefix: its length and its hop; -1 and 0: nothing. -/
def AboveIs (L : List (Nat × Nat × Nat)) (n k : Nat) (lo : Int) (v : Nat) : Prop :=
  (lo = -1 ∧ v = 0 ∧ ∀ z ∈ L, ¬ cov false z.1 z.2.1 n k) ∨ ∃ y ∈ L, cov false y.1 y.2.1 n k ∧ lo = y.2.1 ∧ v = y.2.2 ∧ ∀ z ∈ L, cov false z.1 z.2.1 n k → z.2.1 ≤ y.2.1
theorem AboveIs.low {L : List (Nat × Nat × Nat)} {n k v : Nat} {lo : Int} (h : AboveIs L n k lo v) : -1 ≤ lo ∧ lo ≤ k := by
  rcases h with ⟨h, _⟩ | ⟨y, _, h1, h2, _⟩
  · omega
  · have := h1.1; omega
theorem AboveIs.stay {L : List (Nat × Nat × Nat)} {n k v : Nat} {lo : Int} {x : Nat × Nat × Nat} (h : AboveIs L n k lo v) (hx : ¬ (cov false x.1 x.2.1 n k ∧ lo < x.2.1)) : AboveIs (L ++ [x]) n k lo v := by
  rcases h with ⟨h1, h2, h3⟩ | ⟨y, hy, h1, h2, h3, h4⟩
  · refine .inl ⟨h1, h2, fun z hz => ?_⟩
    rcases List.mem_append.1 hz with hz | hz
    · exact h3 z hz
    · simp only [List.mem_singleton] at hz
      subst hz
      intro c
      exact hx ⟨c, by omega⟩
  · refine .inr ⟨y, List.mem_append_left _ hy, h1, h2, h3, fun z hz c => ?_⟩
    rcases List.mem_append.1 hz with hz | hz
    · exact h4 z hz c
    · simp only [List.mem_singleton] at hz
      subst hz
      apply Classical.byContradiction
      intro hn
      exact hx ⟨c, by omega⟩
theorem AboveIs.next {L : List (Nat × Nat × Nat)} {n k v : Nat} {lo : Int} {x : Nat × Nat × Nat} (h : AboveIs L n k lo v) (hx : cov false x.1 x.2.1 n k) (hl : lo < x.2.1) : AboveIs (L ++ [x]) n k x.2.1 x.2.2 := by
  refine .inr ⟨x, by simp, hx, rfl, rfl, fun z hz c => ?_⟩
  rcases List.mem_append.1 hz with hz | hz
  · rcases h with ⟨_, _, h3⟩ | ⟨y, hy, h1, h2, h3, h4⟩
    · exact absurd c (h3 z hz)
    · have := h4 z hz c; omega
  · simp only [List.mem_singleton] at hz
    subst hz
    exact Nat.le_refl _
/-- A route that says what stands above it changes nothing. -/
theorem goes_more {R : List (Nat × Nat × Nat)} {n k v : Nat} {lo : Int} (hok : RtOk R) (hex : ∃ x ∈ R, x.2.1 = 0) (hv : VP false n k) (hno : ∀ x ∈ R, ¬ (x.1 = n ∧ x.2.1 = k)) (h : AboveIs R n k lo v) (hl : R.length < 60) :
    RtOk (R ++ [(n, k, v)]) ∧ ∀ a, Fits false a → (goesL (putAll (R ++ [(n, k, v)])) a).1 = (goesL (putAll R) a).1 := by
  have hk32 : k ≤ 32 := (vp_iff.1 hv).2.1
  have zero_cov : ∀ {x : Nat × Nat × Nat}, x ∈ R → x.2.1 = 0 → ∀ m, Fits false m → cutN 32 m x.2.1 = x.1 := fun {x} hx h0 m hm => by
    have hx1 := hok.vp x hx
    rw [cov_tp hx1, h0, tp_zero hm, tp_zero (vp_iff.1 hx1).1]
  obtain ⟨y, hy, y1, y2, y3, y4⟩ : ∃ y ∈ R, cov false y.1 y.2.1 n k ∧ lo = y.2.1 ∧ v = y.2.2 ∧ ∀ z ∈ R, cov false z.1 z.2.1 n k → z.2.1 ≤ y.2.1 := by
    rcases h with ⟨_, _, h3⟩ | h
    · obtain ⟨x, hx, h0⟩ := hex
      exact absurd ⟨by rw [h0]; exact Nat.zero_le _, zero_cov hx h0 n (vp_iff.1 hv).1⟩ (h3 x hx)
    · exact h
  have hok2 : RtOk (R ++ [(n, k, v)]) := by
    have one : ∀ {P : Nat × Nat × Nat → Prop}, (∀ x ∈ R, P x) → P (n, k, v) → ∀ x ∈ R ++ [(n, k, v)], P x := fun {P} h1 h2 x hx => by
      rcases List.mem_append.1 hx with hx | hx
      · exact h1 x hx
      · simp only [List.mem_singleton] at hx
        rw [hx]; exact h2
    refine ⟨one hok.vp hv, one hok.lo ?_, one hok.hi ?_, ?_, by simp; omega⟩
    · rw [y3]; exact hok.lo y hy
    · rw [y3]; exact hok.hi y hy
    · refine List.pairwise_append.2 ⟨hok.keys, List.pairwise_singleton _ _, fun x hx z hz => ?_⟩
      simp only [List.mem_singleton] at hz
      subst hz
      exact hno x hx
  refine ⟨hok2, fun a ha => ?_⟩
  have hb := best_keys hok a
  generalize (goesL (putAll R) a).1 = u at *
  refine BestIs.one hok2.keys (best_keys hok2 a) ?_
  rcases hb with ⟨x, hx, h1, h2, h3⟩ | ⟨h1, _⟩
  · by_cases c : cutN 32 a k = n
    · have ct := (cov_tp hv).1 c
      have through : ∀ z ∈ R, z.2.1 ≤ k → (cutN 32 a z.2.1 = z.1 ↔ cutN 32 n z.2.1 = z.1) := fun z hz hzk => by
        have hz1 := hok.vp z hz
        rw [cov_tp hz1, cov_tp hz1, tp_mono ct hzk hk32]
      by_cases hlt : x.2.1 ≤ k
      · have xc : cov false x.1 x.2.1 n k := ⟨hlt, (through x hx hlt).1 h1⟩
        have e1 := y4 x hx xc
        have ya : cutN 32 a y.2.1 = y.1 := (through y hy y1.1).2 y1.2
        have e2 := h3 y hy ya
        have e3 : y.2.1 = x.2.1 := by omega
        have e4 : y = x := keys_one hok.keys y hy x hx (by rw [← ya, ← h1, e3]) e3
        subst e4
        refine .inl ⟨(n, k, v), by simp, c, by rw [← h2]; exact y3, fun z hz hc => ?_⟩
        rcases List.mem_append.1 hz with hz | hz
        · have := h3 z hz hc
          show z.2.1 ≤ k
          omega
        · simp only [List.mem_singleton] at hz
          rw [hz]; exact Nat.le_refl _
      · refine .inl ⟨x, List.mem_append_left _ hx, h1, h2, fun z hz hc => ?_⟩
        rcases List.mem_append.1 hz with hz | hz
        · exact h3 z hz hc
        · simp only [List.mem_singleton] at hz
          rw [hz]
          show k ≤ x.2.1
          omega
    · refine .inl ⟨x, List.mem_append_left _ hx, h1, h2, fun z hz hc => ?_⟩
      rcases List.mem_append.1 hz with hz | hz
      · exact h3 z hz hc
      · simp only [List.mem_singleton] at hz
        rw [hz] at hc
        exact absurd hc c
  · obtain ⟨x, hx, h0⟩ := hex
    exact absurd (zero_cov hx h0 a ha) (h1 x hx)
end Go.Proofs.Ytoecmoicaklbaaa

/- FewestBest, FewestLikeness: plain laws: the fewest of the fewest are as many; a route left out. -/
set_option linter.unusedVariables false
set_option linter.unusedSimpArgs false
namespace Go.Proofs.Ytoecmoicaklbaaa
open Go Go.RowKit Go.Sort Wc Wk

theorem few_has0 {rs ys : List (Nat × Nat × Nat)} (hok : RtOk rs) (hs : SortL rs ys) (hex : ∃ x ∈ rs, x.2.1 = 0) : ∃ x ∈ fewL ys, x.2.1 = 0 := by
  have h0 : (0 : Nat) ∉ (growL ys).set := fun h => by
    obtain ⟨z, hz, e⟩ := grow_hops hs hex _ (set_hops _ _ h)
    have := hok.lo z (hs.1.mem_iff.1 hz)
    omega
  refine ⟨(0, 0, (growL ys).hd), ?_, rfl⟩
  unfold fewL
  cases h : growL ys with
  | leaf a =>
    rw [h] at h0
    show _ ∈ (HT.leaf a).own1 0 0 0
    unfold HT.own1
    rw [if_neg h0]
    exact List.mem_singleton.2 rfl
  | node l r =>
    rw [h] at h0
    show _ ∈ (HT.node l r).own1 0 0 0 ++ _
    unfold HT.own1
    rw [if_neg h0]
    simp
theorem few_like {rs ys : List (Nat × Nat × Nat)} (hok : RtOk rs) (hs : SortL rs ys) (hex : ∃ x ∈ rs, x.2.1 = 0) : Like (fewL ys) rs := fun _ ha => few_goes hok hs hex ha
theorem few_again {rs ys zs : List (Nat × Nat × Nat)} (hok : RtOk rs) (hs : SortL rs ys) (hex : ∃ x ∈ rs, x.2.1 = 0) (ht : SortL (fewL ys) zs) : (fewL zs).length = (fewL ys).length :=
  (few_same hok (few_ok hok hs hex) hs ht hex (few_has0 hok hs hex) (few_like hok hs hex)).symm
/-- A list without its i-th route. -/
def lessL (L : List (Nat × Nat × Nat)) (i : Nat) : List (Nat × Nat × Nat) := L.take i ++ L.drop (i + 1)
theorem less_sub (L : List (Nat × Nat × Nat)) (i : Nat) : (lessL L i).Sublist L := by
  unfold lessL
  rw [← List.eraseIdx_eq_take_drop_succ]
  exact List.eraseIdx_sublist L i
theorem less_len {L : List (Nat × Nat × Nat)} {i : Nat} (h : i < L.length) : (lessL L i).length + 1 = L.length := by
  unfold lessL
  rw [List.length_append, List.length_take, List.length_drop]
  omega
theorem less_ok {L : List (Nat × Nat × Nat)} (h : RtOk L) (i : Nat) : RtOk (lessL L i) := by
  have s := less_sub L i
  exact ⟨fun x hx => h.vp x (s.subset hx), fun x hx => h.lo x (s.subset hx), fun x hx => h.hi x (s.subset hx), h.keys.sublist s, Nat.le_trans s.length_le h.len⟩
theorem likeB_refl {l : List (Nat × Nat × Nat)} (h : RtOk l) : likeB l l = true := (likeB_iff h h).2 (Like.refl l)
theorem likeB_comm {l m : List (Nat × Nat × Nat)} (hl : RtOk l) (hm : RtOk m) : likeB l m = likeB m l := by
  rw [Bool.eq_iff_iff, likeB_iff hl hm, likeB_iff hm hl]
  exact ⟨Like.symm, Like.symm⟩
theorem likeB_few {l rs ys : List (Nat × Nat × Nat)} (hl : RtOk l) (hok : RtOk rs) (hs : SortL rs ys) (hex : ∃ x ∈ rs, x.2.1 = 0) : likeB l (fewL ys) = likeB l rs := by
  rw [Bool.eq_iff_iff, likeB_iff hl (few_ok hok hs hex), likeB_iff hl hok]
  exact ⟨fun h => h.trans (few_like hok hs hex), fun h => h.trans (few_like hok hs hex).symm⟩
theorem likeB_mine {rs ys : List (Nat × Nat × Nat)} (hok : RtOk rs) (hs : SortL rs ys) (hex : ∃ x ∈ rs, x.2.1 = 0) : likeB rs (fewL ys) = true := by
  rw [likeB_few hok hok hs hex]
  exact likeB_refl hok
/-- What is left of a table when routes that tell nothing of their own are left out. -/
structure LeftOk (rs L : List (Nat × Nat × Nat)) (i : Nat) : Prop where
  ok : RtOk L
  like : Like L rs
  pos : i < L.length
theorem LeftOk.start {rs : List (Nat × Nat × Nat)} (h : RtOk rs) (hp : 0 < rs.length) : LeftOk rs rs (rs.length - 1) := ⟨h, Like.refl _, by omega⟩
theorem LeftOk.stay {rs L : List (Nat × Nat × Nat)} {i : Nat} (h : LeftOk rs L (i + 1)) : LeftOk rs L i := ⟨h.ok, h.like, by have := h.pos; omega⟩
theorem LeftOk.next {rs L : List (Nat × Nat × Nat)} {i : Nat} (h : LeftOk rs L (i + 1)) (hr : RtOk rs) (hy : likeB rs (lessL L (i + 1)) = true) : LeftOk rs (lessL L (i + 1)) i :=
  ⟨less_ok h.ok _, ((likeB_iff hr (less_ok h.ok _)).1 hy).symm, by have := less_len h.pos; have := h.pos; omega⟩
theorem LeftOk.least {rs L ys : List (Nat × Nat × Nat)} {i : Nat} (h : LeftOk rs L i) (hr : RtOk rs) (hs : SortL rs ys) : (fewL ys).length ≤ L.length := few_least hr hs h.ok h.like
theorem sl_lt {w : World} {sz : Nat} {a : Option Addr} {n cap : Nat} {xs : List (List Value)} (h : Sl w sz (.slice a n cap) xs) (hp : 0 < xs.length) : ∀ x, a = some x → x.block < w.heap.size := fun x hx => by
  obtain ⟨b, off, ha, hlt, _⟩ := Sl.at h (i := 0) (c := xs[0]) (List.getElem?_eq_getElem hp)
  rw [hx] at ha
  cases ha
  exact hlt
theorem fewest_ret (a : Option Addr) (cap n : Nat) (rs : List (Nat × Nat × Nat)) (w : World) (hn : n = rs.length) (hs : Sl w 5 (.slice a n cap) (rs.map routeCells)) (hok : RtOk rs) (hex : ∃ x ∈ rs, x.2.1 = 0) :
    Calls Try.prog 22 #[.slice a n cap] w fun e w' => ∃ v ys, e = .returned (.tuple #[v, .int .i64 0]) ∧ SortL rs ys ∧ Wk.Own w' w.heap.size 49 5 v ((fewL ys).map routeCells) ∧ Below w.heap.size w w' := by
  subst hn
  refine (fewest_any a cap rs w hs hok hex (sl_lt hs (by rw [List.length_map]; obtain ⟨x, hx, _⟩ := hex; exact List.length_pos_iff.2 (List.ne_nil_of_mem hx)))).mono ?_
  rintro e w' ⟨a', c', ys, rfl, h1, h2, h3⟩
  exact ⟨_, ys, rfl, h1, h2, h3⟩
end Go.Proofs.Ytoecmoicaklbaaa
