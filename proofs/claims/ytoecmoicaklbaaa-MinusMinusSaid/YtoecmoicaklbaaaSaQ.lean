
/- Plain laws: prefixes near 10.0.0.0 that are the one plain list of a set of addresses. -/
import Derived.Test.YtoecmoicaklbaaaSaP
set_option linter.unusedVariables false
set_option linter.unusedSimpArgs false
namespace Go.Proofs.Ytoecmoicaklbaaa
open Go.RowKit Go.Sort Wc Wk

/-- The plain list of a set of addresses. -/
structure Res (P : Nat → Prop) (xs : List (Nat × Nat)) : Prop where
  near : NearL xs
  ins : ∀ a, InP false xs a ↔ P a
  cut : ∃ S, SepS S ∧ (∀ s ∈ S, s.1 ≤ s.2) ∧ CutR false S xs
theorem Res.one {P Q : Nat → Prop} {xs ys : List (Nat × Nat)} (h : Res P xs) (k : Res Q ys) (e : ∀ a, P a ↔ Q a) : xs = ys := by
  obtain ⟨S, s1, s2, s3⟩ := h.cut
  obtain ⟨T, t1, t2, t3⟩ := k.cut
  obtain rfl : S = T := sep_eq _ _ s1 s2 t1 t2 fun a => by rw [← s3.inP, ← t3.inP, h.ins, k.ins, e]
  exact s3.one t3
theorem Res.nei {P : Nat → Prop} {xs : List (Nat × Nat)} (h : Res P xs) : ∀ i x y, xs[i]? = some x → xs[i + 1]? = some y → Nei false x y := by
  obtain ⟨S, s1, s2, s3⟩ := h.cut
  exact cut_nei s1 s2 s3
theorem Res.few {P : Nat → Prop} {xs l : List (Nat × Nat)} (h : Res P xs) (hv : ∀ x ∈ l, VP false x.1 x.2) (e : ∀ a, P a ↔ InP false l a) : xs.length ≤ l.length := by
  obtain ⟨S, s1, s2, s3⟩ := h.cut
  exact few_of (s3.apart s1) (fun x hx => cut_holds s1 hv s3 (fun a => by rw [← s3.inP, h.ins, e]) hx)
theorem inc_len : ∀ (l : List Nat) (a b : Nat), l.Pairwise (· < ·) → (∀ x ∈ l, a ≤ x ∧ x < b) → l.length ≤ b - a
  | [], a, b, _, _ => Nat.zero_le _
  | x :: l, a, b, h, k => by
    obtain ⟨h1, h2⟩ := List.pairwise_cons.1 h
    have ih := inc_len l (x + 1) b h2 (fun y hy => ⟨h1 y hy, (k y (List.mem_cons_of_mem _ hy)).2⟩)
    have := k x List.mem_cons_self
    simp only [List.length_cons]
    omega
theorem Res.len {P : Nat → Prop} {xs : List (Nat × Nat)} (h : Res P xs) : xs.length ≤ 1024 := by
  obtain ⟨S, s1, s2, s3⟩ := h.cut
  have hp : (xs.map Prod.fst).Pairwise (· < ·) := by
    rw [List.pairwise_map]
    exact (s3.apart s1).imp (fun {x y} hxy => by unfold lastN at hxy; have := Nat.one_le_two_pow (n := wd false - x.2); omega)
  have := inc_len (xs.map Prod.fst) 167772160 167773184 hp (fun y hy => by
    obtain ⟨x, hx, rfl⟩ := List.mem_map.1 hy
    have h1 := h.near x hx
    have h2 : x.1 ≤ lastN 32 x.1 x.2 := by unfold lastN; have := Nat.one_le_two_pow (n := 32 - x.2); omega
    omega)
  rw [List.length_map] at this
  omega
theorem Res.has {P : Nat → Prop} {xs : List (Nat × Nat)} (h : Res P xs) (a : Nat) : hasB false xs a = true ↔ P a := (hasB_iff h.near.vp).trans (h.ins a)
theorem Res.le {P Q : Nat → Prop} {xs : List (Nat × Nat)} (h : Res P xs) (e : ∀ a, P a ↔ Q a) : Res Q xs := ⟨h.near, fun a => (h.ins a).trans (e a), h.cut⟩
theorem near_at {l : List (Nat × Nat)} (h : NearL l) {a : Nat} (ha : InP false l a) : 167772160 ≤ a ∧ a < 167773184 := by
  obtain ⟨x, hx, h1, h2⟩ := ha
  have := h x hx
  have e : wd false = 32 := rfl
  rw [e] at h2
  omega
/-- Spans of such prefixes lie near as well. -/
theorem near_spans {l S : List (Nat × Nat)} (h : NearL l) (hS : ∀ s ∈ S, s.1 ≤ s.2) (hi : ∀ a, InS S a → InP false l a) : ∀ s ∈ S, 167772160 ≤ s.1 ∧ s.2 < 167773184 := fun s hs =>
  ⟨(near_at h (hi s.1 ⟨s, hs, Nat.le_refl _, hS s hs⟩)).1, (near_at h (hi s.2 ⟨s, hs, hS s hs, Nat.le_refl _⟩)).2⟩
theorem res_of {l S xs : List (Nat × Nat)} {P : Nat → Prop} (h : NearL l) (s1 : SepS S) (s2 : ∀ s ∈ S, s.1 ≤ s.2) (s3 : ∀ a, InS S a ↔ P a) (hP : ∀ a, P a → InP false l a) (hc : CutR false S xs) : Res P xs := by
  have hin : ∀ a, InP false xs a ↔ P a := fun a => (hc.inP a).trans (s3 a)
  refine ⟨fun x hx => ?_, hin, S, s1, s2, hc⟩
  have h1 := near_at h (hP _ ((hin x.1).1 (InP.mem hx)))
  have h2 := near_at h (hP _ ((hin _).1 (InP.last hx)))
  have e : wd false = 32 := rfl
  rw [e] at h2
  exact ⟨hc.each x hx, h1.1, h2.2⟩
theorem merge_res {l ys xs : List (Nat × Nat)} (h : NearL l) (hs : SortR l ys) (hc : CutR false (spansL false ys) xs) : Res (InP false l) xs := by
  have hv : ∀ x ∈ ys, VP false x.1 x.2 := fun x hx => h.vp x (hs.1.mem_iff.1 hx)
  obtain ⟨c1, c2, _, c4⟩ := spans_canon ys hv hs.fst
  exact res_of h c1 (fun s hs => (c4 s hs).1) (fun a => (c2 a).trans (InP.perm hs.1)) (fun a h => h) hc
/-- Spans of two lists, as the walks have them. -/
structure Spd (l S : List (Nat × Nat)) : Prop where
  sep : SepS S
  le : ∀ s ∈ S, s.1 ≤ s.2
  ins : ∀ a, InS S a ↔ InP false l a
  near : ∀ s ∈ S, 167772160 ≤ s.1 ∧ s.2 < 167773184
  len : S.length ≤ l.length
theorem spd_of {l ys : List (Nat × Nat)} (h : NearL l) (hs : SortR l ys) : Spd l (spansL false ys) := by
  have hv : ∀ x ∈ ys, VP false x.1 x.2 := fun x hx => h.vp x (hs.1.mem_iff.1 hx)
  obtain ⟨c1, c2, _, c4⟩ := spans_canon ys hv hs.fst
  have hin : ∀ a, InS (spansL false ys) a ↔ InP false l a := fun a => (c2 a).trans (InP.perm hs.1)
  exact ⟨c1, fun s hs => (c4 s hs).1, hin, near_spans h (fun s hs => (c4 s hs).1) (fun a => (hin a).1), by rw [← hs.1.length_eq]; exact (spansL_good ys hv).1⟩
/-- The last address of the family. -/
abbrev topA : Nat := 4294967295
theorem Spd.rest {l S : List (Nat × Nat)} (h : Spd l S) : Rests topA 0 S (restL topA 0 S) := restL_says S 0 h.sep (fun s hs => by have := h.le s hs; have := h.near s hs; unfold topA; omega) (by decide)
theorem Spd.sum {l S A : List (Nat × Nat)} (h : Spd l S) (B : List (Nat × Nat)) (hA : ∀ s ∈ A, ∃ x ∈ S, x.1 ≤ s.1 ∧ s.2 ≤ x.2) (hl : A.length ≤ 500) : sumS A ≤ 1048575 := by
  refine Nat.le_trans (sum_le (K := 1024) fun s hs => ?_) (by omega)
  obtain ⟨x, hx, h1, h2⟩ := hA s hs
  have := h.near x hx
  omega
theorem both_res {l m S T xs : List (Nat × Nat)} (hl : NearL l) (h : Spd l S) (k : Spd m T) (hc : CutR false (meetL S T) xs) : Res (fun a => InP false l a ∧ InP false m a) xs := by
  have hm := meetL_says S T h.sep k.sep h.le k.le
  exact res_of hl hm.sep hm.le (fun a => by rw [hm.ins, h.ins, k.ins]) (fun a h => h.1) hc
theorem minus_res {l m S T xs : List (Nat × Nat)} (hl : NearL l) (h : Spd l S) (k : Spd m T) (hc : CutR false (meetL S (restL topA 0 T)) xs) : Res (fun a => InP false l a ∧ ¬ InP false m a) xs := by
  have hr := k.rest
  have hm := meetL_says S (restL topA 0 T) h.sep hr.sep h.le (fun s hs => (hr.le s hs).2.1)
  refine res_of hl hm.sep hm.le (fun a => ?_) (fun a h => h.1) hc
  rw [hm.ins, hr.ins, h.ins, k.ins]
  refine ⟨fun ⟨h1, _, _, h2⟩ => ⟨h1, h2⟩, fun ⟨h1, h2⟩ => ⟨h1, Nat.zero_le _, ?_, h2⟩⟩
  have := near_at hl h1
  unfold topA
  omega
/-- Of two prefixes that share an address the longer one lies in the shorter one. -/
theorem nested32 {n k m j a : Nat} (h : VP false n k) (g : VP false m j) (hjk : j ≤ k) (a1 : n ≤ a) (a2 : a ≤ lastN 32 n k) (a3 : m ≤ a) (a4 : a ≤ lastN 32 m j) : m ≤ n ∧ lastN 32 n k ≤ lastN 32 m j := by
  obtain ⟨_, h2, h3⟩ := vp_iff.1 h
  obtain ⟨_, g2, g3⟩ := vp_iff.1 g
  rw [show wd false = 32 from rfl] at h2 h3 g2 g3
  have e : 2 ^ (32 - j) = 2 ^ (32 - k) * 2 ^ (k - j) := by rw [← Nat.pow_add]; congr 1; omega
  have d1 : 2 ^ (32 - j) % 2 ^ (32 - k) = 0 := by rw [e]; exact Nat.mul_mod_right _ _
  have d2 : m % 2 ^ (32 - k) = 0 := Nat.mod_eq_zero_of_dvd (Nat.dvd_trans (Nat.dvd_of_mod_eq_zero d1) (Nat.dvd_of_mod_eq_zero g3))
  have d3 : (m + 2 ^ (32 - j)) % 2 ^ (32 - k) = 0 := by rw [Nat.add_mod, d1, d2]; simp
  have p1 := Nat.one_le_two_pow (n := 32 - k)
  have p2 := Nat.one_le_two_pow (n := 32 - j)
  unfold lastN at *
  clear e d1 g3 h g
  generalize 2 ^ (32 - k) = d at *
  generalize 2 ^ (32 - j) = D at *
  refine ⟨Nat.le_of_not_lt fun hlt => ?_, ?_⟩
  · have := mult_lt h3 d2 hlt
    omega
  · have := mult_lt h3 d3 (show n < m + D by omega)
    omega
/-- What two lists have together is told by prefixes of theirs. -/
theorem both_few {l m xs : List (Nat × Nat)} (hl : NearL l) (hm : NearL m) (h : Res (fun a => InP false l a ∧ InP false m a) xs) : xs.length ≤ l.length + m.length := by
  classical
  obtain ⟨u, hu⟩ : ∃ u, u = l.filter (fun x => decide (∃ y ∈ m, y.1 ≤ x.1 ∧ lastN 32 x.1 x.2 ≤ lastN 32 y.1 y.2)) := ⟨_, rfl⟩
  obtain ⟨v, hv⟩ : ∃ v, v = m.filter (fun x => decide (∃ y ∈ l, y.1 ≤ x.1 ∧ lastN 32 x.1 x.2 ≤ lastN 32 y.1 y.2)) := ⟨_, rfl⟩
  have mu : ∀ x, x ∈ u ↔ x ∈ l ∧ ∃ y ∈ m, y.1 ≤ x.1 ∧ lastN 32 x.1 x.2 ≤ lastN 32 y.1 y.2 := fun x => by rw [hu, List.mem_filter, decide_eq_true_iff]
  have mv : ∀ x, x ∈ v ↔ x ∈ m ∧ ∃ y ∈ l, y.1 ≤ x.1 ∧ lastN 32 x.1 x.2 ≤ lastN 32 y.1 y.2 := fun x => by rw [hv, List.mem_filter, decide_eq_true_iff]
  have hlen : (u ++ v).length ≤ l.length + m.length := by
    rw [List.length_append, hu, hv]
    have h1 := List.length_filter_le (fun x => decide (∃ y ∈ m, y.1 ≤ x.1 ∧ lastN 32 x.1 x.2 ≤ lastN 32 y.1 y.2)) l
    have h2 := List.length_filter_le (fun x => decide (∃ y ∈ l, y.1 ≤ x.1 ∧ lastN 32 x.1 x.2 ≤ lastN 32 y.1 y.2)) m
    omega
  clear hu hv
  have e : wd false = 32 := rfl
  refine Nat.le_trans (h.few (l := u ++ v) (fun x hx => ?_) (fun a => ?_)) hlen
  · rcases List.mem_append.1 hx with hx | hx
    · exact hl.vp x ((mu x).1 hx).1
    · exact hm.vp x ((mv x).1 hx).1
  · rw [InP.append]
    constructor
    · rintro ⟨⟨x, hx, a1, a2⟩, ⟨y, hy, a3, a4⟩⟩
      rw [e] at a2 a4
      by_cases c : y.2 ≤ x.2
      · have := nested32 (hl.vp x hx) (hm.vp y hy) c a1 a2 a3 a4
        exact .inl ⟨x, (mu x).2 ⟨hx, y, hy, this⟩, a1, a2⟩
      · have := nested32 (hm.vp y hy) (hl.vp x hx) (by omega) a3 a4 a1 a2
        exact .inr ⟨y, (mv y).2 ⟨hy, x, hx, this⟩, a3, a4⟩
    · rintro (⟨x, hx, a1, a2⟩ | ⟨x, hx, a1, a2⟩)
      · obtain ⟨h1, y, hy, h2, h3⟩ := (mu x).1 hx
        rw [e] at a2
        exact ⟨⟨x, h1, a1, a2⟩, ⟨y, hy, Nat.le_trans h2 a1, by rw [e]; exact Nat.le_trans a2 h3⟩⟩
      · obtain ⟨h1, y, hy, h2, h3⟩ := (mv x).1 hx
        rw [e] at a2
        exact ⟨⟨y, hy, Nat.le_trans h2 a1, by rw [e]; exact Nat.le_trans a2 h3⟩, ⟨x, h1, a1, a2⟩⟩
end Go.Proofs.Ytoecmoicaklbaaa
