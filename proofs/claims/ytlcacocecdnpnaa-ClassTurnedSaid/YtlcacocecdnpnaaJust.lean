
/- RulesJust: the walk. -/
import Derived.Test.YtlcacocecdnpnaaPassed
set_option linter.unusedVariables false
namespace Go.Proofs.Ytlcacocecdnpnaa
open Go.RowKit Go.Sort Wc Wk

theorem passY_one (r : RuleD) (n k : Nat) : passY [r] n k = (decide (r.fits n k) && r.yes) := by
  unfold passY
  by_cases h : r.fits n k <;> simp [List.findIdx?_cons, h]
theorem sl_rule {W : World} {b : Nat} (r : RuleD) (hb : b = W.heap.size) : Sl (W.alloc (.cells #[.bool r.yes, .bool false, .int .u64 (hiOf false r.n), .int .u64 (loOf r.n), .int .i64 r.k, .int .i64 r.least, .int .i64 r.most] 46)) 7 (.slice (some ⟨b, 0, none⟩) 1 1) ([r].map ruleCells) :=
  sl_new (c := ruleCells r) hb rfl


set_option maxRecDepth 100000 in
set_option maxHeartbeats 4000000 in
theorem rulesJust_core (p q : Int) (w : World) (hp : -9223372036854775808 ≤ p ∧ p ≤ 9223372036854775807) (hq : -9223372036854775808 ≤ q ∧ q ≤ 9223372036854775807) (N M K L : Nat) (c : Bool) (i j : Int)
    (eN : presN p = N) (eM : presN q = M) (eK : presK p = K) (eL : presK q = L)
    (PA : Hid (∀ a cap w, Sl w 7 (.slice a 1 cap) ([(⟨true, N, K, K, K⟩ : RuleD)].map ruleCells) → Calls Try.prog 23 #[.slice a 1 cap, Value.agg #[.bool false, .int .u64 (hiOf false M), .int .u64 (loOf M), .int .i64 L]] w fun e w' => e = .returned (.tuple #[.bool (decide (loOf N = loOf M ∧ hiOf false N = hiOf false M ∧ (K : Int) = L)), .int .i64 i, .bool true]) ∧ Below w.heap.size w w'))
    (PB : Hid (∀ a cap w, Sl w 7 (.slice a 1 cap) ([(⟨true, N, K, K, 32⟩ : RuleD)].map ruleCells) → Calls Try.prog 23 #[.slice a 1 cap, Value.agg #[.bool false, .int .u64 (hiOf false M), .int .u64 (loOf M), .int .i64 L]] w fun e w' => e = .returned (.tuple #[.bool c, .int .i64 j, .bool true]) ∧ Below w.heap.size w w'))
    (CV : Hid (∀ w, Calls Try.prog 24 #[Value.agg #[.bool false, .int .u64 (hiOf false N), .int .u64 (loOf N), .int .i64 K], Value.agg #[.bool false, .int .u64 (hiOf false M), .int .u64 (loOf M), .int .i64 L]] w fun e w' => e = .returned (.tuple #[.bool c, .int .i64 0]) ∧ Below w.heap.size w w')) :
    Calls Try.prog 8 #[.int .i64 p, .int .i64 q] w fun e w' => e = .returned (.bool true) ∧ Below w.heap.size w w' := by
  have PP := Lib.hid fun b w hc => pres_one b p w hc hp
  have PQ := Lib.hid fun b w hc => pres_one b q w hc hq
  rw [eN, eK] at PP
  rw [eM, eL] at PQ
  clear eN eM eK eL
  go_enter Try.func8, Try.ntmps8
  go_wp2_with fail
  refine (PP.out _ _ (by simp)).mono ?_
  rintro e w1 ⟨g1, c1, rfl, hg1, hl1, d0, d1, d2, d3, hb1⟩; (repeat (with_reducible (replace hb1 := Below.undrew hb1))); obtain ⟨hc1, hf1⟩ := bcell hb1; have hz1 := hb1.size; (repeat (first | rw [World.size_alloc] at hz1 | rw [World.size_drew] at hz1 | rw [World.size_setCell] at hz1)); (try have : w.heap.size < w1.heap.size := by omega); (try have : w.heap.size < w1.heap.size + 1 := by omega); (try have : w.heap.size < w1.heap.size + 1 + 1 := by omega); (try have : w.heap.size < w1.heap.size + 1 + 1 + 1 := by omega)
  go_wp2_with fail
  refine (PQ.out _ _ (by simp)).mono ?_
  rintro e w2 ⟨g2, c2, rfl, hg2, hl2, e0, e1, e2, e3, hb2⟩; (repeat (with_reducible (replace hb2 := Below.undrew hb2))); obtain ⟨hc2, hf2⟩ := bcell hb2; have hz2 := hb2.size; (repeat (first | rw [World.size_alloc] at hz2 | rw [World.size_drew] at hz2 | rw [World.size_setCell] at hz2)); (try have : w.heap.size < w2.heap.size := by omega); (try have : w.heap.size < w2.heap.size + 1 := by omega); (try have : w.heap.size < w2.heap.size + 1 + 1 := by omega); (try have : w.heap.size < w2.heap.size + 1 + 1 + 1 := by omega); (try have : w1.heap.size < w2.heap.size := by omega); (try have : w1.heap.size < w2.heap.size + 1 := by omega); (try have : w1.heap.size < w2.heap.size + 1 + 1 := by omega); (try have : w1.heap.size < w2.heap.size + 1 + 1 + 1 := by omega); (try have : w1.heap.size + 1 < w2.heap.size := by omega); (try have : w1.heap.size + 1 < w2.heap.size + 1 := by omega); (try have : w1.heap.size + 1 < w2.heap.size + 1 + 1 := by omega); (try have : w1.heap.size + 1 < w2.heap.size + 1 + 1 + 1 := by omega)
  go_wp2_with fail
  refine (PA.out _ _ _ (sl_rule ⟨true, N, K, K, K⟩ (by simp))).mono ?_; rintro e w3 ⟨rfl, hb3⟩; (repeat (with_reducible (replace hb3 := Below.undrew hb3))); obtain ⟨hc3, hf3⟩ := bcell hb3; have hz3 := hb3.size; (repeat (first | rw [World.size_alloc] at hz3 | rw [World.size_drew] at hz3 | rw [World.size_setCell] at hz3)); (try have : w.heap.size < w3.heap.size := by omega); (try have : w.heap.size < w3.heap.size + 1 := by omega); (try have : w.heap.size < w3.heap.size + 1 + 1 := by omega); (try have : w.heap.size < w3.heap.size + 1 + 1 + 1 := by omega); (try have : w1.heap.size < w3.heap.size := by omega); (try have : w1.heap.size < w3.heap.size + 1 := by omega); (try have : w1.heap.size < w3.heap.size + 1 + 1 := by omega); (try have : w1.heap.size < w3.heap.size + 1 + 1 + 1 := by omega); (try have : w1.heap.size + 1 < w3.heap.size := by omega); (try have : w1.heap.size + 1 < w3.heap.size + 1 := by omega); (try have : w1.heap.size + 1 < w3.heap.size + 1 + 1 := by omega); (try have : w1.heap.size + 1 < w3.heap.size + 1 + 1 + 1 := by omega); (try have : w2.heap.size < w3.heap.size := by omega); (try have : w2.heap.size < w3.heap.size + 1 := by omega); (try have : w2.heap.size < w3.heap.size + 1 + 1 := by omega); (try have : w2.heap.size < w3.heap.size + 1 + 1 + 1 := by omega); (try have : w2.heap.size + 1 < w3.heap.size := by omega); (try have : w2.heap.size + 1 < w3.heap.size + 1 := by omega); (try have : w2.heap.size + 1 < w3.heap.size + 1 + 1 := by omega); (try have : w2.heap.size + 1 < w3.heap.size + 1 + 1 + 1 := by omega)
  go_wp2_with fail
  refine (PB.out _ _ _ (sl_rule ⟨true, N, K, K, 32⟩ (by simp))).mono ?_; rintro e w4 ⟨rfl, hb4⟩; (repeat (with_reducible (replace hb4 := Below.undrew hb4))); obtain ⟨hc4, hf4⟩ := bcell hb4; have hz4 := hb4.size; (repeat (first | rw [World.size_alloc] at hz4 | rw [World.size_drew] at hz4 | rw [World.size_setCell] at hz4)); (try have : w.heap.size < w4.heap.size := by omega); (try have : w.heap.size < w4.heap.size + 1 := by omega); (try have : w.heap.size < w4.heap.size + 1 + 1 := by omega); (try have : w.heap.size < w4.heap.size + 1 + 1 + 1 := by omega); (try have : w1.heap.size < w4.heap.size := by omega); (try have : w1.heap.size < w4.heap.size + 1 := by omega); (try have : w1.heap.size < w4.heap.size + 1 + 1 := by omega); (try have : w1.heap.size < w4.heap.size + 1 + 1 + 1 := by omega); (try have : w1.heap.size + 1 < w4.heap.size := by omega); (try have : w1.heap.size + 1 < w4.heap.size + 1 := by omega); (try have : w1.heap.size + 1 < w4.heap.size + 1 + 1 := by omega); (try have : w1.heap.size + 1 < w4.heap.size + 1 + 1 + 1 := by omega); (try have : w2.heap.size < w4.heap.size := by omega); (try have : w2.heap.size < w4.heap.size + 1 := by omega); (try have : w2.heap.size < w4.heap.size + 1 + 1 := by omega); (try have : w2.heap.size < w4.heap.size + 1 + 1 + 1 := by omega); (try have : w2.heap.size + 1 < w4.heap.size := by omega); (try have : w2.heap.size + 1 < w4.heap.size + 1 := by omega); (try have : w2.heap.size + 1 < w4.heap.size + 1 + 1 := by omega); (try have : w2.heap.size + 1 < w4.heap.size + 1 + 1 + 1 := by omega); (try have : w3.heap.size < w4.heap.size := by omega); (try have : w3.heap.size < w4.heap.size + 1 := by omega); (try have : w3.heap.size < w4.heap.size + 1 + 1 := by omega); (try have : w3.heap.size < w4.heap.size + 1 + 1 + 1 := by omega)
  go_wp2_with fail
  refine (CV.out _).mono ?_; rintro e w5 ⟨rfl, hb5⟩; (repeat (with_reducible (replace hb5 := Below.undrew hb5))); obtain ⟨hc5, hf5⟩ := bcell hb5; have hz5 := hb5.size; (repeat (first | rw [World.size_alloc] at hz5 | rw [World.size_drew] at hz5 | rw [World.size_setCell] at hz5)); (try have : w.heap.size < w5.heap.size := by omega); (try have : w.heap.size < w5.heap.size + 1 := by omega); (try have : w.heap.size < w5.heap.size + 1 + 1 := by omega); (try have : w.heap.size < w5.heap.size + 1 + 1 + 1 := by omega); (try have : w1.heap.size < w5.heap.size := by omega); (try have : w1.heap.size < w5.heap.size + 1 := by omega); (try have : w1.heap.size < w5.heap.size + 1 + 1 := by omega); (try have : w1.heap.size < w5.heap.size + 1 + 1 + 1 := by omega); (try have : w1.heap.size + 1 < w5.heap.size := by omega); (try have : w1.heap.size + 1 < w5.heap.size + 1 := by omega); (try have : w1.heap.size + 1 < w5.heap.size + 1 + 1 := by omega); (try have : w1.heap.size + 1 < w5.heap.size + 1 + 1 + 1 := by omega); (try have : w2.heap.size < w5.heap.size := by omega); (try have : w2.heap.size < w5.heap.size + 1 := by omega); (try have : w2.heap.size < w5.heap.size + 1 + 1 := by omega); (try have : w2.heap.size < w5.heap.size + 1 + 1 + 1 := by omega); (try have : w2.heap.size + 1 < w5.heap.size := by omega); (try have : w2.heap.size + 1 < w5.heap.size + 1 := by omega); (try have : w2.heap.size + 1 < w5.heap.size + 1 + 1 := by omega); (try have : w2.heap.size + 1 < w5.heap.size + 1 + 1 + 1 := by omega); (try have : w3.heap.size < w5.heap.size := by omega); (try have : w3.heap.size < w5.heap.size + 1 := by omega); (try have : w3.heap.size < w5.heap.size + 1 + 1 := by omega); (try have : w3.heap.size < w5.heap.size + 1 + 1 + 1 := by omega); (try have : w4.heap.size < w5.heap.size := by omega); (try have : w4.heap.size < w5.heap.size + 1 := by omega); (try have : w4.heap.size < w5.heap.size + 1 + 1 := by omega); (try have : w4.heap.size < w5.heap.size + 1 + 1 + 1 := by omega)
  go_wp2
  all_goals go_returns
  all_goals exact ⟨rfl, by (repeat' (first | (with_reducible exact Below.refl _ _) | (with_reducible assumption) | (with_reducible refine Below.al ?_ _) | (with_reducible refine Below.dr ?_) | (with_reducible refine Below.step ?_ (by assumption)) | (with_reducible refine Below.set ?_ ?_ _) | omega | (dsimp only; omega) | (simp; done) | (simp; omega)))⟩

theorem rulesJust_walk (p q : Int) (w : World) (hp : -9223372036854775808 ≤ p ∧ p ≤ 9223372036854775807) (hq : -9223372036854775808 ≤ q ∧ q ≤ 9223372036854775807) :
    Calls Try.prog 8 #[.int .i64 p, .int .i64 q] w fun e w' => e = .returned (.bool true) ∧ Below w.heap.size w w' := by
  have vp := pres_vp p
  have vq := pres_vp q
  refine rulesJust_core p q w hp hq _ _ _ _ (decide (cov false (presN p) (presK p) (presN q) (presK q))) (passI [⟨true, presN p, presK p, presK p, presK p⟩] (presN q) (presK q)) (passI [⟨true, presN p, presK p, presK p, 32⟩] (presN q) (presK q)) rfl rfl rfl rfl ?_ ?_ (fun w => covers_ok false _ _ _ _ w vp vq)
  all_goals generalize presN p = N at *
  all_goals generalize presN q = M at *
  all_goals generalize presK p = K at *
  all_goals generalize presK q = L at *
  all_goals have hK := vp.2.1
  all_goals have hL := vq.2.1
  all_goals rw [show wd false = 32 from rfl] at hK hL
  · intro a cap w hs
    have := passed_any a cap [⟨true, N, K, K, K⟩] M L w hs (by simp) (by intro r hr; simp at hr; subst hr; exact ⟨vp, Nat.le_refl _, Nat.le_refl _, hK⟩) vq
    have hx : passY [⟨true, N, K, K, K⟩] M L = decide (loOf N = loOf M ∧ hiOf false N = hiOf false M ∧ (K : Int) = L) := by
      rw [passY_one, Bool.and_true]
      simp only [RuleD.fits, cov]
      apply decide_eq_decide.2
      constructor
      · rintro ⟨h1, h2, h3, h4⟩
        obtain rfl : L = K := by omega
        have : M = N := by rw [← h4]; exact vq.2.2.symm
        subst this
        exact ⟨rfl, rfl, rfl⟩
      · rintro ⟨h1, h2, h3⟩
        obtain rfl := (addr_eq vp.1 vq.1).1 ⟨h2, h1⟩
        obtain rfl : K = L := by omega
        exact ⟨Nat.le_refl _, Nat.le_refl _, Nat.le_refl _, vq.2.2⟩
    rwa [hx] at this
  · intro a cap w hs
    have := passed_any a cap [⟨true, N, K, K, 32⟩] M L w hs (by simp) (by intro r hr; simp at hr; subst hr; exact ⟨vp, Nat.le_refl _, hK, Nat.le_refl _⟩) vq
    have hy : passY [⟨true, N, K, K, 32⟩] M L = decide (cov false N K M L) := by
      rw [passY_one, Bool.and_true]
      simp only [RuleD.fits, cov]
      apply decide_eq_decide.2
      constructor
      · rintro ⟨h1, h2, h3, h4⟩; exact ⟨h3, h4⟩
      · rintro ⟨h3, h4⟩; exact ⟨h3, hL, h3, h4⟩
    rwa [hy] at this
end Go.Proofs.Ytlcacocecdnpnaa
