
/- Contract: cidr.Merge. -/
import Derived.Test.YtoecmoicaklbaaaMg1
set_option linter.unusedVariables false
set_option linter.unusedSimpArgs false
namespace Go.Proofs.Ytoecmoicaklbaaa
open Go.RowKit Go.Sort Wc Wk

theorem spansL_good {six : Bool} : ∀ (ys : List (Nat × Nat)), (∀ x ∈ ys, VP six x.1 x.2) → (spansL six ys).length ≤ ys.length ∧ ∀ s ∈ spansL six ys, s.1 ≤ s.2 ∧ Fits six s.2 := by
  have step : ∀ n (ys : List (Nat × Nat)), ys.length = n → (∀ x ∈ ys, VP six x.1 x.2) → (spansL six ys).length ≤ ys.length ∧ ∀ s ∈ spansL six ys, s.1 ≤ s.2 ∧ Fits six s.2 := by
    intro n
    induction n with
    | zero => intro ys h _; obtain rfl := List.eq_nil_of_length_eq_zero h; exact ⟨Nat.le_refl _, fun s hs => by simp [spansL] at hs⟩
    | succ n ih =>
      intro ys h hv
      rcases List.eq_nil_or_concat ys with rfl | ⟨zs, x, rfl⟩
      · simp at h
      · rw [List.concat_eq_append] at *
        obtain ⟨i1, i2⟩ := ih zs (by simpa using h) (fun x hx => hv x (List.mem_append_left _ hx))
        have hx := hv x (by simp)
        have hl := last_fits hx
        have hp := Nat.one_le_two_pow (n := wd six - x.2)
        have hle : x.1 ≤ lastN (wd six) x.1 x.2 := by unfold lastN; omega
        rw [spansL_snoc]
        generalize spansL six zs = S at *
        rcases List.eq_nil_or_concat S with rfl | ⟨U, t, rfl⟩
        · rw [spStep_none]
          exact ⟨by simp, fun s hs => by simp at hs; subst hs; exact ⟨hle, hl⟩⟩
        · rw [List.concat_eq_append] at *
          rw [spStep_some]
          have ht := i2 t (by simp)
          split
          · split
            · rename_i h2
              refine ⟨by simp at i1 ⊢; omega, fun s hs => ?_⟩
              rcases List.mem_append.1 hs with hs | hs
              · exact i2 s (List.mem_append_left _ hs)
              · simp at hs; subst hs; exact ⟨by have := ht.1; dsimp only; omega, hl⟩
            · exact ⟨by simp at i1 ⊢; omega, i2⟩
          · refine ⟨by simp at i1 ⊢; omega, fun s hs => ?_⟩
            rcases List.mem_append.1 hs with hs | hs
            · exact i2 s hs
            · simp at hs; subst hs; exact ⟨hle, hl⟩
  exact fun ys h => step _ ys rfl h


set_option maxRecDepth 100000 in
set_option maxHeartbeats 4000000 in
theorem merge_any (six : Bool) (a : Option Addr) (cap : Nat) (l : List (Nat × Nat)) (w : World) (hs : Sl w 4 (.slice a l.length cap) (l.map (pfC six))) (hlen : l.length ≤ 80) (hok : ∀ x ∈ l, VP six x.1 x.2) (ha : ∀ x, a = some x → x.block < w.heap.size) (hsum : ∀ ys, SortR l ys → sumS (spansL six ys) ≤ 1048575) :
    Calls Try.prog 17 #[.slice a l.length cap] w fun e w' => ∃ a' cap' ys xs, e = .returned (.tuple #[.slice a' xs.length cap', .int .i64 0]) ∧ SortR l ys ∧ CutR six (spansL six ys) xs ∧ Wk.Own w' w.heap.size 30 4 (.slice a' xs.length cap') (xs.map (pfxRow six)) ∧ Below w.heap.size w w' := by
  have HF := Lib.hid (fun W (hb : Below w.heap.size w W) (b : Nat) (hbl : b < W.heap.size) (hc : W.cell? ⟨b, 0, none⟩ = some (.slice a l.length cap)) => fault_any six b 1 [(a, cap, l)] W hbl (fun i q hq => by
    match i, hq with
    | 0, hq => simp at hq; subst hq; exact ⟨hc, hs.below hb, hlen, hok, fun x hx => Nat.lt_of_lt_of_le (ha x hx) hb.size⟩
    | i + 1, hq => simp at hq) (by simp))
  have HS := Lib.hid (fun W (hb : Below w.heap.size w W) => spans_any six a cap l W (hs.below hb) (by omega) hok (fun x hx => Nat.lt_of_lt_of_le (ha x hx) hb.size))
  have HSM := Lib.hid hsum
  have HK := Lib.hid hok
  clear hs hok ha hsum
  go_enter Try.func17, Try.ntmps17
  go_wp2_with fail
  refine (HF.out (w.alloc (.cells #[.slice a l.length cap] 47)) ((Below.refl _ _).alloc (Nat.le_refl _) _) w.heap.size (by simp) (by simp)).mono ?_
  rintro e w1 ⟨rfl, hb1⟩; (repeat (with_reducible (replace hb1 := Below.undrew hb1))); obtain ⟨hc1, hf1⟩ := bcell hb1; have hz1 := hb1.size; (repeat (first | rw [World.size_alloc] at hz1 | rw [World.size_drew] at hz1 | rw [World.size_setCell] at hz1)); (try have : w.heap.size < w1.heap.size := by omega); (try have : w.heap.size < w1.heap.size + 1 := by omega); (try have : w.heap.size < w1.heap.size + 1 + 1 := by omega); (try have : w.heap.size < w1.heap.size + 1 + 1 + 1 := by omega); (try have : w.heap.size + 1 < w1.heap.size := by omega); (try have : w.heap.size + 1 < w1.heap.size + 1 := by omega); (try have : w.heap.size + 1 < w1.heap.size + 1 + 1 := by omega); (try have : w.heap.size + 1 < w1.heap.size + 1 + 1 + 1 := by omega)
  have HB1 : Below w.heap.size w w1 := ((Below.refl _ _).alloc (Nat.le_refl _) _).trans (hb1.mono (by simp))
  clear HF hb1 hc1 hf1
  go_wp2_with fail
  refine (HS.out w1 HB1).mono ?_
  rintro e w2 ⟨v2, ys, rfl, hsr, ho2, hb2⟩
  obtain ⟨hz2, -⟩ : w1.heap.size ≤ w2.heap.size ∧ True := ⟨hb2.size, trivial⟩
  have HG := spansL_good (six := six) ys (fun x hx => HK.out x (hsr.1.mem_iff.1 hx))
  have hyl : ys.length ≤ 80 := by rw [hsr.1.length_eq]; exact hlen
  have HP := prefixes_any six
  obtain ⟨a3, c3, rfl⟩ := ho2.shape
  rw [List.length_map] at ho2 ⊢
  have HO2 := Lib.hid ho2
  have HSR := Lib.hid hsr
  have HQ := Lib.hid (prefixes_any six a3 c3 (spansL six ys) w2 ho2.sl (by have := HG.1; omega) HG.2 (HSM.out ys hsr) (fun x hx => (ho2.lt x.block (by rw [hx]; rfl)).2))
  have HB2 := Lib.hid (HB1.trans (hb2.mono HB1.size))
  clear hb2 ho2 hsr HS HP HG HB1
  go_wp2_with fail
  refine HQ.out.mono ?_
  rintro e w3 ⟨a4, c4, xs, rfl, hcr, ho3, hb3⟩
  have HO3 := Lib.hid ho3
  have HC3 := Lib.hid hcr
  have HB3 := Lib.hid (HB2.out.trans (hb3.mono HB2.out.size))
  clear hb3 ho3 hcr HQ
  go_wp2_with fail
  exact bodyPost_ret (v := .tuple #[.slice a4 xs.length c4, .int .i64 0]) (by simp [results, Try.results17, go_sem]) rfl ⟨_, _, ys, xs, rfl, HSR.out, HC3.out, own_base HO3.out HB2.out.size, HB3.out⟩
end Go.Proofs.Ytoecmoicaklbaaa

/- Plain laws: spans of prefixes are the one separate list with these addresses; what they are cut into is determined. -/
set_option linter.unusedVariables false
set_option linter.unusedSimpArgs false
namespace Go.Proofs.Ytoecmoicaklbaaa
open Go.RowKit Go.Sort Wc Wk

def InS (S : List (Nat × Nat)) (a : Nat) : Prop := ∃ s ∈ S, s.1 ≤ a ∧ a ≤ s.2
def InP (six : Bool) (xs : List (Nat × Nat)) (a : Nat) : Prop := ∃ x ∈ xs, x.1 ≤ a ∧ a ≤ lastN (wd six) x.1 x.2
def SepS (S : List (Nat × Nat)) : Prop := S.Pairwise (fun s t => s.2 + 1 < t.1)
theorem InS.cons {s : Nat × Nat} {S : List (Nat × Nat)} {a : Nat} : InS (s :: S) a ↔ (s.1 ≤ a ∧ a ≤ s.2) ∨ InS S a := by simp [InS]
theorem InS.append {S T : List (Nat × Nat)} {a : Nat} : InS (S ++ T) a ↔ InS S a ∨ InS T a := by
  simp only [InS, List.mem_append, or_and_right, exists_or]
theorem InP.append {six : Bool} {S T : List (Nat × Nat)} {a : Nat} : InP six (S ++ T) a ↔ InP six S a ∨ InP six T a := by
  simp only [InP, List.mem_append, or_and_right, exists_or]
theorem InP.perm {six : Bool} {S T : List (Nat × Nat)} (h : S.Perm T) {a : Nat} : InP six S a ↔ InP six T a := by
  simp only [InP, h.mem_iff]
theorem sep_eq : ∀ (S T : List (Nat × Nat)), SepS S → (∀ s ∈ S, s.1 ≤ s.2) → SepS T → (∀ s ∈ T, s.1 ≤ s.2) → (∀ a, InS S a ↔ InS T a) → S = T
  | [], [], _, _, _, _, _ => rfl
  | [], t :: T, _, _, _, ht, h => by
    have := (h t.1).2 ⟨t, by simp, Nat.le_refl _, ht t (by simp)⟩
    obtain ⟨s, hs, _⟩ := this
    cases hs
  | s :: S, [], _, hs, _, _, h => by
    have := (h s.1).1 ⟨s, by simp, Nat.le_refl _, hs s (by simp)⟩
    obtain ⟨t, ht, _⟩ := this
    cases ht
  | s :: S, t :: T, h1, g1, h2, g2, h => by
    have a1 := List.pairwise_cons.1 h1
    have a2 := List.pairwise_cons.1 h2
    have hs := g1 s (by simp)
    have ht := g2 t (by simp)
    have key : ∀ {s t : Nat × Nat} {S T : List (Nat × Nat)}, (∀ x ∈ S, s.2 + 1 < x.1) → (∀ x ∈ T, t.2 + 1 < x.1) → s.1 ≤ s.2 → t.1 ≤ t.2 → (∀ a, InS (s :: S) a ↔ InS (t :: T) a) → t.1 ≤ s.1 := by
      intro s t S T _ hT hs ht h
      obtain ⟨x, hx, h3, h4⟩ := (h s.1).1 ⟨s, by simp, Nat.le_refl _, hs⟩
      rcases List.mem_cons.1 hx with rfl | hx
      · exact h3
      · have := hT x hx; omega
    have e1 : s.1 = t.1 := Nat.le_antisymm (key a2.1 a1.1 ht hs (fun a => (h a).symm)) (key a1.1 a2.1 hs ht h)
    have key2 : ∀ {s t : Nat × Nat} {S T : List (Nat × Nat)}, (∀ x ∈ S, s.2 + 1 < x.1) → s.1 ≤ s.2 → s.1 = t.1 → (∀ a, InS (s :: S) a ↔ InS (t :: T) a) → t.2 ≤ s.2 := by
      intro s t S T hS hs e h
      refine Nat.le_of_not_lt fun hlt => ?_
      obtain ⟨x, hx, h3, h4⟩ := (h (s.2 + 1)).2 ⟨t, by simp, by omega, by omega⟩
      rcases List.mem_cons.1 hx with rfl | hx
      · omega
      · have := hS x hx; omega
    have e2 : s.2 = t.2 := Nat.le_antisymm (key2 a2.1 ht e1.symm (fun a => (h a).symm)) (key2 a1.1 hs e1 h)
    have e : s = t := Prod.ext e1 e2
    subst e
    have hrest : ∀ a, InS S a ↔ InS T a := by
      intro a
      have one : ∀ {S T : List (Nat × Nat)}, (∀ x ∈ S, s.2 + 1 < x.1) → (InS (s :: S) a → InS (s :: T) a) → InS S a → InS T a := by
        intro S T hS h1 h2
        rcases InS.cons.1 (h1 (InS.cons.2 (.inr h2))) with h3 | h3
        · obtain ⟨x, hx, h4, h5⟩ := h2
          have := hS x hx; omega
        · exact h3
      exact ⟨one a1.1 (h a).1, one a2.1 (h a).2⟩
    rw [sep_eq S T a1.2 (fun x hx => g1 x (List.mem_cons_of_mem _ hx)) a2.2 (fun x hx => g2 x (List.mem_cons_of_mem _ hx)) hrest]

theorem spans_canon {six : Bool} : ∀ (ys : List (Nat × Nat)), (∀ x ∈ ys, VP six x.1 x.2) → ys.Pairwise (fun a b => a.1 ≤ b.1) →
    SepS (spansL six ys) ∧ (∀ a, InS (spansL six ys) a ↔ InP six ys a) ∧ (∀ s ∈ spansL six ys, ∃ y ∈ ys, s.1 = y.1) ∧ ∀ s ∈ spansL six ys, s.1 ≤ s.2 ∧ s.2 < 2 ^ wd six := by
  have step : ∀ n (ys : List (Nat × Nat)), ys.length = n → (∀ x ∈ ys, VP six x.1 x.2) → ys.Pairwise (fun a b => a.1 ≤ b.1) → SepS (spansL six ys) ∧ (∀ a, InS (spansL six ys) a ↔ InP six ys a) ∧ (∀ s ∈ spansL six ys, ∃ y ∈ ys, s.1 = y.1) ∧ ∀ s ∈ spansL six ys, s.1 ≤ s.2 ∧ s.2 < 2 ^ wd six := by
    intro n
    induction n with
    | zero =>
      intro ys h _ _; obtain rfl := List.eq_nil_of_length_eq_zero h
      exact ⟨List.Pairwise.nil, fun a => by simp [InS, InP, spansL], fun s hs => by simp [spansL] at hs, fun s hs => by simp [spansL] at hs⟩
    | succ n ih =>
      intro ys h hv hsort
      rcases List.eq_nil_or_concat ys with rfl | ⟨zs, x, rfl⟩
      · simp at h
      · rw [List.concat_eq_append] at *
        obtain ⟨hs1, -, hs3⟩ := List.pairwise_append.1 hsort
        obtain ⟨i1, i2, i3, i4⟩ := ih zs (by simpa using h) (fun x hx => hv x (List.mem_append_left _ hx)) hs1
        have hfirst : ∀ s ∈ spansL six zs, s.1 ≤ x.1 := fun s hs => by
          obtain ⟨y, hy, e⟩ := i3 s hs
          have := hs3 y hy x (by simp)
          omega
        have hx := hv x (by simp)
        have hl : lastN (wd six) x.1 x.2 < 2 ^ wd six := last_fits hx
        have hp := Nat.one_le_two_pow (n := wd six - x.2)
        have hle : x.1 ≤ lastN (wd six) x.1 x.2 := by unfold lastN; omega
        have hone : ∀ a, InP six [x] a ↔ x.1 ≤ a ∧ a ≤ lastN (wd six) x.1 x.2 := fun a => by simp [InP]
        have hmono : ∀ s ∈ spansL six zs, ∃ y ∈ zs ++ [x], s.1 = y.1 := fun s hs => by
          obtain ⟨y, hy, e⟩ := i3 s hs
          exact ⟨y, List.mem_append_left _ hy, e⟩
        rw [spansL_snoc]
        generalize spansL six zs = S at *
        rcases List.eq_nil_or_concat S with rfl | ⟨U, t, rfl⟩
        · rw [spStep_none]
          refine ⟨List.pairwise_singleton _ _, fun a => ?_, fun s hs => ?_, fun s hs => ?_⟩
          · rw [InP.append, ← i2, hone]
            simp [InS, spOf]
          · simp at hs; subst hs; exact ⟨x, by simp, rfl⟩
          · simp at hs; subst hs; exact ⟨hle, hl⟩
        · rw [List.concat_eq_append] at *
          rw [spStep_some]
          obtain ⟨p1, -, p3⟩ := List.pairwise_append.1 i1
          have ht := i4 t (by simp)
          have hft := hfirst t (by simp)
          split
          · rename_i hj
            split
            · rename_i h2
              refine ⟨List.pairwise_append.2 ⟨p1, List.pairwise_singleton _ _, fun s hs r hr => ?_⟩, fun a => ?_, fun s hs => ?_, fun s hs => ?_⟩
              · simp at hr; subst hr; exact p3 s hs t (by simp)
              · rw [InP.append, ← i2, hone, InS.append, InS.append]
                simp only [InS, List.mem_singleton, exists_eq_left]
                constructor
                · rintro (h1 | ⟨h1, h3⟩)
                  · exact .inl (.inl h1)
                  · by_cases h4 : a ≤ t.2
                    · exact .inl (.inr ⟨h1, h4⟩)
                    · exact .inr ⟨by omega, h3⟩
                · rintro ((h1 | ⟨h1, h3⟩) | ⟨h1, h3⟩)
                  · exact .inl h1
                  · exact .inr ⟨h1, by omega⟩
                  · exact .inr ⟨by omega, h3⟩
              · rcases List.mem_append.1 hs with hs | hs
                · exact hmono s (List.mem_append_left _ hs)
                · simp at hs; subst hs; exact hmono t (by simp)
              · rcases List.mem_append.1 hs with hs | hs
                · exact i4 s (List.mem_append_left _ hs)
                · simp at hs; subst hs; exact ⟨by have := ht.1; dsimp only; omega, hl⟩
            · rename_i h2
              refine ⟨i1, fun a => ?_, hmono, i4⟩
              rw [InP.append, ← i2, hone]
              refine ⟨.inl, fun h => h.elim id fun h => ⟨t, by simp, by omega, by omega⟩⟩
          · rename_i hj
            refine ⟨List.pairwise_append.2 ⟨i1, List.pairwise_singleton _ _, fun s hs r hr => ?_⟩, fun a => ?_, fun s hs => ?_, fun s hs => ?_⟩
            · simp at hr; subst hr
              rcases List.mem_append.1 hs with hs | hs
              · have := p3 s hs t (by simp)
                have := ht.1
                simp only [spOf]; omega
              · simp at hs; subst hs
                simp only [spOf]; omega
            · rw [InP.append, ← i2, hone, InS.append]
              simp only [InS, List.mem_singleton, exists_eq_left, spOf]
            · rcases List.mem_append.1 hs with hs | hs
              · exact hmono s hs
              · simp at hs; subst hs; exact ⟨x, by simp, rfl⟩
            · rcases List.mem_append.1 hs with hs | hs
              · exact i4 s hs
              · simp at hs; subst hs; exact ⟨hle, hl⟩
  exact fun ys h => step _ ys rfl h

theorem SortR.fst {xs ys : List (Nat × Nat)} (h : SortR xs ys) : ys.Pairwise (fun a b => a.1 ≤ b.1) := h.2.imp (fun hab => by omega)
/-- Spans of a list of prefixes in whatever order: the one separate list. -/
theorem spans_is {six : Bool} {l ys S : List (Nat × Nat)} (hv : ∀ x ∈ l, VP six x.1 x.2) (hs : SortR l ys) (h1 : SepS S) (h2 : ∀ s ∈ S, s.1 ≤ s.2) (h3 : ∀ a, InP six l a ↔ InS S a) : spansL six ys = S := by
  obtain ⟨c1, c2, _, c4⟩ := spans_canon ys (fun x hx => hv x (hs.1.mem_iff.1 hx)) hs.fst
  exact sep_eq _ _ c1 (fun s hs => (c4 s hs).1) h1 h2 (fun a => (c2 a).trans ((InP.perm hs.1).trans (h3 a)))

/-- The greatest prefix is one. -/
theorem MaxP.one {six : Bool} {m n k k' : Nat} (h : MaxP six m n k) (h' : MaxP six m n k') : k = k' := by
  have up : ∀ {k k' : Nat}, MaxP six m n k → MaxP six m n k' → k ≤ k' := by
    intro k k' h h'
    refine Nat.le_of_not_lt fun hlt => ?_
    obtain ⟨h1, h2, h3⟩ := h
    rcases h3 with h3 | h3
    · omega
    · refine h3 ⟨?_, ?_⟩
      · obtain ⟨f1, f2, f3⟩ := vp_iff.1 h'.1
        refine vp_iff.2 ⟨f1, by have := (vp_iff.1 h1).2.1; omega, ?_⟩
        have e : 2 ^ (wd six - k') = 2 ^ (wd six - (k - 1)) * 2 ^ (k - 1 - k') := by rw [← Nat.pow_add]; congr 1; have := (vp_iff.1 h1).2.1; omega
        rw [e] at f3
        exact Nat.mod_eq_zero_of_dvd (Nat.dvd_trans (Nat.dvd_mul_right _ _) (Nat.dvd_of_mod_eq_zero f3))
      · have := h'.2.1
        unfold lastN at *
        have := pow_le (a := wd six - (k - 1)) (b := wd six - k') (by omega)
        omega
  exact Nat.le_antisymm (up h h') (up h' h)
theorem MaxP.first_le {six : Bool} {m n k : Nat} (h : MaxP six m n k) : n ≤ m := by
  have := h.2.1
  unfold lastN at this
  omega
theorem RunP.one {six : Bool} {m : Nat} : ∀ {xs ys : List (Nat × Nat)} {n : Nat}, RunP six m n xs (m + 1) → RunP six m n ys (m + 1) → xs = ys
  | [], [], _, _, _ => rfl
  | [], y :: t, n, h, k => by have : n = m + 1 := h; have := k.2.1.first_le; omega
  | x :: t, [], n, h, k => by have : n = m + 1 := k; have := h.2.1.first_le; omega
  | x :: t, y :: t', n, h, k => by
    have e2 := h.2.1.one k.2.1
    have e : x = y := Prod.ext (h.1.trans k.1.symm) e2
    subst e
    rw [RunP.one h.2.2 k.2.2]
theorem CutR.one {six : Bool} : ∀ {S xs ys : List (Nat × Nat)}, CutR six S xs → CutR six S ys → xs = ys
  | [], xs, ys, h, k => by have h1 : xs = [] := h; have h2 : ys = [] := k; rw [h1, h2]
  | s :: S, xs, ys, h, k => by
    obtain ⟨p, q, rfl, hp, hq⟩ := h
    obtain ⟨p', q', rfl, hp', hq'⟩ := k
    rw [hp.one hp', hq.one hq']
theorem RunP.inP {six : Bool} {m : Nat} : ∀ {xs : List (Nat × Nat)} {n e : Nat}, RunP six m n xs e → ∀ a, InP six xs a ↔ n ≤ a ∧ a < e
  | [], n, e, h, a => by have : n = e := h; simp [InP]; omega
  | x :: t, n, e, h, a => by
    have ih := RunP.inP h.2.2 a
    have hle := h.2.2.le
    have hp := Nat.one_le_two_pow (n := wd six - x.2)
    have e1 := h.1
    rw [show x :: t = [x] ++ t from rfl, InP.append, ih]
    simp only [InP, List.mem_singleton, exists_eq_left, lastN]
    omega
theorem CutR.inP {six : Bool} : ∀ {S xs : List (Nat × Nat)}, CutR six S xs → ∀ a, InP six xs a ↔ InS S a
  | [], xs, h, a => by have h1 : xs = [] := h; subst h1; simp [InP, InS]
  | s :: S, xs, h, a => by
    obtain ⟨p, q, rfl, hp, hq⟩ := h
    rw [InP.append, hp.inP, CutR.inP hq, InS.cons, Nat.lt_succ_iff]
theorem CutR.each {six : Bool} : ∀ {S xs : List (Nat × Nat)}, CutR six S xs → ∀ x ∈ xs, VP six x.1 x.2
  | [], xs, h, x, hx => by have h1 : xs = [] := h; subst h1; cases hx
  | s :: S, xs, h, x, hx => by
    obtain ⟨p, q, rfl, hp, hq⟩ := h
    rcases List.mem_append.1 hx with hx | hx
    · exact hp.each x hx
    · exact CutR.each hq x hx
end Go.Proofs.Ytoecmoicaklbaaa

/- Contracts: copiedPres; samePres of lists that are the same. -/
set_option linter.unusedVariables false
set_option linter.unusedSimpArgs false
namespace Go.Proofs.Ytoecmoicaklbaaa
open Go.RowKit Go.Sort Wc Wk


set_option maxHeartbeats 1000000 in
theorem copiedPres_any (six : Bool) (a : Option Addr) (cap : Nat) (l : List (Nat × Nat)) (w : World) (hs : Sl w 4 (.slice a l.length cap) (l.map (pfC six))) (hlen : l.length ≤ 1000) :
    Calls Try.prog 29 #[.slice a l.length cap] w fun e w' => ∃ a' cap', e = .returned (.slice a' l.length cap') ∧ Wk.Own w' w.heap.size 30 4 (.slice a' l.length cap') (l.map (pfC six)) ∧ Below w.heap.size w w' := by
  have HS := Lib.hid hs
  clear hs
  go_enter Try.func29, Try.ntmps29
  go_wp2_with (at_builtin; refine stop_at ?_; intro G hG)
  rw [← hG.out]; clear hG G
  refine wpList_append_any rfl _ _ 47 30 4 32 _ rfl eiPre w.heap.size _ ((([] : List (Nat × Nat))).map (pfC six)) rfl (Wk.Own.nil _ _ _ _) _ ((l).map (pfC six)) rfl (HS.out) (by intro c hc; obtain ⟨r, _, rfl⟩ := List.mem_map.1 hc; exact pfC_one six r) (by simp only [List.length_map, List.map_nil, List.length_nil]; first | omega | (simp; omega)) (by decide) (by first | omega | (simp; done) | (simp; omega)) ?_
  intro v2 w2 hown2 hb2
  rw [← List.map_append] at hown2
  obtain ⟨xs2, hxs2⟩ : ∃ x : List (Nat × Nat), x = (([] : List (Nat × Nat))) ++ (l) := ⟨_, rfl⟩
  rw [← hxs2] at hown2
  have hl2 : xs2.length = (([] : List (Nat × Nat))).length + (l).length := by rw [hxs2, List.length_append]
  have HX2 := Lib.hid hxs2
  clear hxs2
  have HL2 := Lib.hid hl2
  clear hl2
  obtain ⟨a2, cap2, rfl⟩ := hown2.shape
  rw [List.length_map] at hown2 ⊢
  have HO2 := Lib.hid hown2
  clear hown2
  obtain ⟨hc2, hf2⟩ := bcellB hb2; have hz2 := hb2.size; (repeat (first | rw [World.size_alloc] at hz2 | rw [World.size_drew] at hz2 | rw [World.size_setCell] at hz2)); (try have : w.heap.size < w2.heap.size := by omega); (try have : w.heap.size < w2.heap.size + 1 := by omega); (try have : w.heap.size < w2.heap.size + 1 + 1 := by omega); (try have : w.heap.size < w2.heap.size + 1 + 1 + 1 := by omega)
  rw [List.nil_append] at HX2
  have e := HX2.out
  subst e
  go_wp2
  go_returns
  exact ⟨_, _, rfl, HO2.out, hb2⟩


set_option maxRecDepth 100000 in
set_option maxHeartbeats 2000000 in
theorem samePres_same (six : Bool) (a1 a2 : Option Addr) (cap1 cap2 : Nat) (l : List (Nat × Nat)) (w : World) (hs1 : Sl w 4 (.slice a1 l.length cap1) (l.map (pfC six))) (hs2 : Sl w 4 (.slice a2 l.length cap2) (l.map (pfC six))) (hlen : l.length ≤ 1048576)
    (ha1 : ∀ x, a1 = some x → x.block < w.heap.size) (ha2 : ∀ x, a2 = some x → x.block < w.heap.size) :
    Calls Try.prog 32 #[.slice a1 l.length cap1, .slice a2 l.length cap2] w fun e w' => e = .returned (.bool true) ∧ Below w.heap.size w w' := by
  have H1 := Lib.hid hs1
  have H2 := Lib.hid hs2
  have A1 := Lib.hid ha1
  have A2 := Lib.hid ha2
  clear hs1 hs2 ha1 ha2
  go_enter Try.func32, Try.ntmps32
  go_wp2_with fail
  go_loopw [5] (fun i wr => ∃ j : Nat, j ≤ l.length ∧ i = .int .i64 j ∧ Hid (Below w.heap.size w wr)) (fun i _ => l.length - (intOf i).toNat)
  case atStart => exact ⟨0, Nat.zero_le _, rfl, Below.refl _ _⟩
  case round =>
    obtain ⟨k, hk, rfl, HB⟩ := hrel
    have hzr := HB.out.size
    by_cases hkt : k < l.length
    · obtain ⟨px, hx⟩ : ∃ s, l[k]? = some s := ⟨_, List.getElem?_eq_getElem hkt⟩
      obtain ⟨g, off, rfl, hg, hgw, d0, d1, d2, d3⟩ := Sl.pf H1.out HB.out A1.out hx
      obtain ⟨g', off', rfl, hg', hgw', e0, e1, e2, e3⟩ := Sl.pf H2.out HB.out A2.out hx
      clear hx
      go_wp2_with fail
      refine wp_region_qb (by kernel_rfl) (by kernel_rfl) (fun kq => ?_)
      repeat (first | go_big_quiet_step (fail) | quiet_step (fail))
      clear kq
      refine wpQuiet_nil ?_; intro w2 hb2; (repeat (with_reducible (replace hb2 := Below.undrew hb2))); obtain ⟨hc2, hf2⟩ := bcell hb2; have hz2 := hb2.size; (repeat (first | rw [World.size_alloc] at hz2 | rw [World.size_drew] at hz2 | rw [World.size_setCell] at hz2)); (try have : w.heap.size < w2.heap.size := by omega); (try have : w.heap.size < w2.heap.size + 1 := by omega); (try have : w.heap.size < w2.heap.size + 1 + 1 := by omega); (try have : w.heap.size < w2.heap.size + 1 + 1 + 1 := by omega); (try have : wr.heap.size < w2.heap.size := by omega); (try have : wr.heap.size < w2.heap.size + 1 := by omega); (try have : wr.heap.size < w2.heap.size + 1 + 1 := by omega); (try have : wr.heap.size < w2.heap.size + 1 + 1 + 1 := by omega)
      have HB2 : Below w.heap.size w w2 := HB.out.trans (hb2.mono hzr)
      clear d0 d1 d2 d3 e0 e1 e2 e3 hc2 hf2 hb2
      go_wp2_with fail
      go_roundw
      case rel => exact ⟨k + 1, by omega, by go_num, HB2⟩
      case measure => simp [intOf]; omega
    · obtain rfl : k = l.length := by omega
      go_wp2_with fail
      exact bodyPost_ret (v := _) (by simp [results, Try.results32, go_sem]) rfl ⟨rfl, HB.out⟩
end Go.Proofs.Ytoecmoicaklbaaa
