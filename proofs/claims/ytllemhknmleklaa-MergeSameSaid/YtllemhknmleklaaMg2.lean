
/- Contract: cidr.Merge. -/
import Derived.Test.YtllemhknmleklaaMg1
set_option linter.unusedVariables false
set_option linter.unusedSimpArgs false
namespace Go.Proofs.Ytllemhknmleklaa
open Go.RowKit Go.Sort Wc Wk

theorem spansL_good {six : Bool} : ∀ (ys : List (Nat × Nat)), (∀ x ∈ ys, VP six x.1 x.2) → (spansL six ys).length ≤ ys.length ∧ ∀ s ∈ spansL six ys, s.1 ≤ s.2 ∧ Fits six s.2 := by
  have step : ∀ n (ys : List (Nat × Nat)), ys.length = n → (∀ x ∈ ys, VP six x.1 x.2) → (spansL six ys).length ≤ ys.length ∧ ∀ s ∈ spansL six ys, s.1 ≤ s.2 ∧ Fits six s.2 := by
    intro n
    induction n with
    | zero => intro ys h _; obtain rfl := List.eq_nil_of_length_eq_zero h; exact ⟨Nat.le_refl _, fun s hs => by simp [spansL] at hs⟩
    | succ n ih =>
      intro ys h hv
      rcases List.eq_nil_or_concat ys with rfl | ⟨zs, x, rfl⟩
      · simp at h
      · rw [List.concat_eq_append] at *
        obtain ⟨i1, i2⟩ := ih zs (by simpa using h) (fun x hx => hv x (List.mem_append_left _ hx))
        have hx := hv x (by simp)
        have hl := last_fits hx
        have hp := Nat.one_le_two_pow (n := wd six - x.2)
        have hle : x.1 ≤ lastN (wd six) x.1 x.2 := by unfold lastN; omega
        rw [spansL_snoc]
        generalize spansL six zs = S at *
        rcases List.eq_nil_or_concat S with rfl | ⟨U, t, rfl⟩
        · rw [spStep_none]
          exact ⟨by simp, fun s hs => by simp at hs; subst hs; exact ⟨hle, hl⟩⟩
        · rw [List.concat_eq_append] at *
          rw [spStep_some]
          have ht := i2 t (by simp)
          split
          · split
            · rename_i h2
              refine ⟨by simp at i1 ⊢; omega, fun s hs => ?_⟩
              rcases List.mem_append.1 hs with hs | hs
              · exact i2 s (List.mem_append_left _ hs)
              · simp at hs; subst hs; exact ⟨by have := ht.1; dsimp only; omega, hl⟩
            · exact ⟨by simp at i1 ⊢; omega, i2⟩
          · refine ⟨by simp at i1 ⊢; omega, fun s hs => ?_⟩
            rcases List.mem_append.1 hs with hs | hs
            · exact i2 s hs
            · simp at hs; subst hs; exact ⟨hle, hl⟩
  exact fun ys h => step _ ys rfl h


set_option maxRecDepth 100000 in
set_option maxHeartbeats 4000000 in
theorem merge_any (six : Bool) (a : Option Addr) (cap : Nat) (l : List (Nat × Nat)) (w : World) (hs : Sl w 4 (.slice a l.length cap) (l.map (pfC six))) (hlen : l.length ≤ 80) (hok : ∀ x ∈ l, VP six x.1 x.2) (ha : ∀ x, a = some x → x.block < w.heap.size) (hsum : ∀ ys, SortR l ys → sumS (spansL six ys) ≤ 1048575) :
    Calls Try.prog 23 #[.slice a l.length cap] w fun e w' => ∃ a' cap' ys xs, e = .returned (.tuple #[.slice a' xs.length cap', .int .i64 0]) ∧ SortR l ys ∧ CutR six (spansL six ys) xs ∧ Wk.Own w' w.heap.size 29 4 (.slice a' xs.length cap') (xs.map (pfxRow six)) ∧ Below w.heap.size w w' := by
  have HF := Lib.hid (fun W (hb : Below w.heap.size w W) (b : Nat) (hbl : b < W.heap.size) (hc : W.cell? ⟨b, 0, none⟩ = some (.slice a l.length cap)) => fault_any six b 1 [(a, cap, l)] W hbl (fun i q hq => by
    match i, hq with
    | 0, hq => simp at hq; subst hq; exact ⟨hc, hs.below hb, hlen, hok, fun x hx => Nat.lt_of_lt_of_le (ha x hx) hb.size⟩
    | i + 1, hq => simp at hq) (by simp))
  have HS := Lib.hid (fun W (hb : Below w.heap.size w W) => spans_any six a cap l W (hs.below hb) (by omega) hok (fun x hx => Nat.lt_of_lt_of_le (ha x hx) hb.size))
  have HSM := Lib.hid hsum
  have HK := Lib.hid hok
  clear hs hok ha hsum
  go_enter Try.func23, Try.ntmps23
  go_wp2_with fail
  refine (HF.out (w.alloc (.cells #[.slice a l.length cap] 62)) ((Below.refl _ _).alloc (Nat.le_refl _) _) w.heap.size (by simp) (by simp)).mono ?_
  rintro e w1 ⟨rfl, hb1⟩; (repeat (with_reducible (replace hb1 := Below.undrew hb1))); obtain ⟨hc1, hf1⟩ := bcell hb1; have hz1 := hb1.size; (repeat (first | rw [World.size_alloc] at hz1 | rw [World.size_drew] at hz1 | rw [World.size_setCell] at hz1)); (try have : w.heap.size < w1.heap.size := by omega); (try have : w.heap.size < w1.heap.size + 1 := by omega); (try have : w.heap.size < w1.heap.size + 1 + 1 := by omega); (try have : w.heap.size < w1.heap.size + 1 + 1 + 1 := by omega); (try have : w.heap.size + 1 < w1.heap.size := by omega); (try have : w.heap.size + 1 < w1.heap.size + 1 := by omega); (try have : w.heap.size + 1 < w1.heap.size + 1 + 1 := by omega); (try have : w.heap.size + 1 < w1.heap.size + 1 + 1 + 1 := by omega)
  have HB1 : Below w.heap.size w w1 := ((Below.refl _ _).alloc (Nat.le_refl _) _).trans (hb1.mono (by simp))
  clear HF hb1 hc1 hf1
  go_wp2_with fail
  refine (HS.out w1 HB1).mono ?_
  rintro e w2 ⟨v2, ys, rfl, hsr, ho2, hb2⟩
  obtain ⟨hz2, -⟩ : w1.heap.size ≤ w2.heap.size ∧ True := ⟨hb2.size, trivial⟩
  have HG := spansL_good (six := six) ys (fun x hx => HK.out x (hsr.1.mem_iff.1 hx))
  have hyl : ys.length ≤ 80 := by rw [hsr.1.length_eq]; exact hlen
  have HP := prefixes_any six
  obtain ⟨a3, c3, rfl⟩ := ho2.shape
  rw [List.length_map] at ho2 ⊢
  have HO2 := Lib.hid ho2
  have HSR := Lib.hid hsr
  have HQ := Lib.hid (prefixes_any six a3 c3 (spansL six ys) w2 ho2.sl (by have := HG.1; omega) HG.2 (HSM.out ys hsr) (fun x hx => (ho2.lt x.block (by rw [hx]; rfl)).2))
  have HB2 := Lib.hid (HB1.trans (hb2.mono HB1.size))
  clear hb2 ho2 hsr HS HP HG HB1
  go_wp2_with fail
  refine HQ.out.mono ?_
  rintro e w3 ⟨a4, c4, xs, rfl, hcr, ho3, hb3⟩
  have HO3 := Lib.hid ho3
  have HC3 := Lib.hid hcr
  have HB3 := Lib.hid (HB2.out.trans (hb3.mono HB2.out.size))
  clear hb3 ho3 hcr HQ
  go_wp2_with fail
  exact bodyPost_ret (v := .tuple #[.slice a4 xs.length c4, .int .i64 0]) (by simp [results, Try.results23, go_sem]) rfl ⟨_, _, ys, xs, rfl, HSR.out, HC3.out, own_base HO3.out HB2.out.size, HB3.out⟩
end Go.Proofs.Ytllemhknmleklaa
