
/- The laws' wholeTable: a default route and the routes of the table behind the acts. -/
import Derived.Test.YtoecmoicaklbaaaRo
import Derived.Test.YtoecmoicaklbaaaLk
set_option linter.unusedVariables false
set_option linter.unusedSimpArgs false
namespace Go.Proofs.Ytoecmoicaklbaaa
open Go Go.RowKit Go.Sort Wc Wk

theorem tend_key {P : Nat → Nat → Prop} : ∀ {L : List (Nat × Nat × Nat)} (t : TabOk L) {al : List ActD}, (∀ x ∈ al, x.fit) → (∀ x ∈ al, x.kind = 1 → P x.n x.k) → (∀ y ∈ L, P y.1 y.2.1) → ∀ y ∈ tend L al, P y.1 y.2.1
  | L, t, [], _, _, h, y, hy => h y hy
  | L, t, x :: l, hf, hp, h, y, hy => by
    have hx := hf x List.mem_cons_self
    refine tend_key (t.step hx) (fun z hz => hf z (List.mem_cons_of_mem _ hz)) (fun z hz => hp z (List.mem_cons_of_mem _ hz)) ?_ y hy
    intro z hz
    unfold tstep at hz
    split at hz
    · exact h z hz
    · split at hz
      · exact h z (mem_cutL.1 hz).1
      · split at hz
        · exact h z hz
        · rename_i h3 h2 h4
          have hk : x.kind = 1 := by have := hx.kd; omega
          split at hz
          · exact h z hz
          · rcases (mem_putL t.srt).1 hz with rfl | ⟨h1, _⟩
            · exact hp x List.mem_cons_self hk
            · exact h z h1
theorem tend_k (js : List RawJ) (n : Nat) : ∀ y ∈ tend [] (actsOf js n), 24 ≤ y.2.1 :=
  tend_key (P := fun _ k => 24 ≤ k) TabOk.nil actsOf_fit (fun x hx hk => by
    obtain ⟨r, _, rfl⟩ := List.mem_map.1 hx
    unfold actOf at hk ⊢
    split at hk
    · cases hk
    · split at hk
      · cases hk
      · split at hk
        · cases hk
        · rename_i a b c
          rw [if_neg a, if_neg b, if_neg c]
          show 24 ≤ presK r.pre
          unfold presK
          omega) (fun _ h => absurd h List.not_mem_nil)
/-- A default route ahead of the table's routes. -/
def wholeR (js : List RawJ) (h : Nat) : List (Nat × Nat × Nat) := (0, 0, 1 + h) :: tend [] (actsOf js 50)
theorem whole_ok (js : List RawJ) {h : Nat} (hh : h < 5) : RtOk (wholeR js h) := by
  have T := RtOk.of_tab (tend_ok TabOk.nil (actsOf_fit (js := js) (n := 50)))
  have K := tend_k js 50
  have L := tend_len TabOk.nil (actsOf_fit (js := js) (n := 50))
  have L2 := actsOf_len js 50
  simp only [List.length_nil] at L
  unfold wholeR
  generalize tend [] (actsOf js 50) = R at *
  refine ⟨fun x hx => ?_, fun x hx => ?_, fun x hx => ?_, List.pairwise_cons.2 ⟨fun y hy e => ?_, T.keys⟩, by simp only [List.length_cons]; omega⟩
  · rcases List.mem_cons.1 hx with rfl | hx
    · exact vp00
    · exact T.vp x hx
  · rcases List.mem_cons.1 hx with rfl | hx
    · show 1 ≤ 1 + h; omega
    · exact T.lo x hx
  · rcases List.mem_cons.1 hx with rfl | hx
    · show 1 + h ≤ 999; omega
    · exact T.hi x hx
  · have := K y hy
    have e2 : (0 : Nat) = y.2.1 := e.2
    omega
theorem whole_zero (js : List RawJ) (h : Nat) : ∃ x ∈ wholeR js h, x.2.1 = 0 := ⟨(0, 0, 1 + h), by simp [wholeR], rfl⟩
def hopOf (hz : Int) : Nat := (hz % 5).toNat
theorem hopOf_lt (hz : Int) : hopOf hz < 5 := by unfold hopOf; omega
theorem own_newW {W : World} {B sz b : Nat} {c : List Value} {E : TypeId} (hb : b = W.heap.size) (hB : B ≤ b) (hc : c.length = sz) (hm : sz ≤ 1000) : Wk.Own (W.alloc (.cells c.toArray E)) B E sz (.slice (some ⟨b, 0, none⟩) 1 1) [c] := by
  subst hb
  refine ⟨by simpa using hc, by simpa using hc, .inr ⟨W.heap.size, 1, _, rfl, hB, World.alloc_heap_new W _, Nat.le_refl _, by unfold maxLen; omega, by simpa using hc, ?_⟩⟩
  simp [hc]
  rw [← hc, List.take_length]

set_option maxHeartbeats 2000000 in
theorem whole_any (a0 : Option Addr) (len0 cap0 : Nat) (z0 : List RawJ) (hz : Int) (w : World) (h0 : IsJobs w a0 len0 cap0 z0) (hh : -9223372036854775808 ≤ hz ∧ hz ≤ 9223372036854775807) :
    Calls Try.prog 37 #[.slice a0 len0 cap0, .int .i64 hz] w (RetRts w (wholeR z0 (hopOf hz))) := by
  have H0 := Lib.hid h0
  have P1 := Lib.hid (fun w => picked_any hz 5 w (by decide) (by decide))
  have q1 := Int.emod_nonneg hz (show (5 : Int) ≠ 0 by decide)
  have l1 := Int.emod_lt_of_pos hz (show (0 : Int) < 5 by decide)
  obtain ⟨h, e1⟩ := Int.eq_ofNat_of_zero_le q1
  have hho : hopOf hz = h := by unfold hopOf; rw [e1]; rfl
  rw [e1] at P1 l1
  rw [hho]
  have ew1 : IntKind.i64.wrap (1 + (h : Int)) = 1 + (h : Int) := IntWalk.i64_in _ (by omega)
  clear e1 q1 hh h0 hho
  have HT := tend_len TabOk.nil (actsOf_fit (js := z0) (n := 50))
  have hal := actsOf_len z0 50
  have hRl : (tend [] (actsOf z0 50)).length ≤ 50 := by simp only [List.length_nil] at HT; omega
  have RO := Lib.hid (fun aa ac w1 hs => routesOf_any aa ac (actsOf z0 50).length (actsOf z0 50) w1 rfl hs (by omega) actsOf_fit)
  have HW : wholeR z0 h = (0, 0, 1 + h) :: tend [] (actsOf z0 50) := rfl
  rw [HW]
  clear HT HW
  generalize tend [] (actsOf z0 50) = R at *
  go_enter Try.func37, Try.ntmps37
  go_wp2_with fail
  refine (acts_any a0 len0 cap0 z0 50 w H0.out (by decide)).mono ?_
  rintro e w1 ⟨v1, rfl, ho1, hb1⟩
  (repeat (with_reducible (replace hb1 := Below.undrew hb1))); obtain ⟨hc1, hf1⟩ := bcell hb1; have hz1 := hb1.size; (repeat (first | rw [World.size_alloc] at hz1 | rw [World.size_drew] at hz1 | rw [World.size_setCell] at hz1)); (try have : w.heap.size < w1.heap.size := by omega); (try have : w.heap.size < w1.heap.size + 1 := by omega); (try have : w.heap.size < w1.heap.size + 1 + 1 := by omega); (try have : w.heap.size < w1.heap.size + 1 + 1 + 1 := by omega)
  obtain ⟨aa, ac, rfl⟩ := ho1.shape
  rw [List.length_map] at ho1 ⊢
  have HA1 := Lib.hid ho1
  have HB1 := Lib.hid hb1
  clear ho1 hb1 hc1 hf1 H0
  go_wp2_with fail
  refine (RO.out aa ac w1 HA1.out.sl).mono ?_
  rintro e w2 ⟨v2, rfl, ho2, hb2⟩
  (repeat (with_reducible (replace hb2 := Below.undrew hb2))); obtain ⟨hc2, hf2⟩ := bcell hb2; have hz2 := hb2.size; (repeat (first | rw [World.size_alloc] at hz2 | rw [World.size_drew] at hz2 | rw [World.size_setCell] at hz2)); (try have : w.heap.size < w2.heap.size := by omega); (try have : w.heap.size < w2.heap.size + 1 := by omega); (try have : w.heap.size < w2.heap.size + 1 + 1 := by omega); (try have : w.heap.size < w2.heap.size + 1 + 1 + 1 := by omega); (try have : w1.heap.size < w2.heap.size := by omega); (try have : w1.heap.size < w2.heap.size + 1 := by omega); (try have : w1.heap.size < w2.heap.size + 1 + 1 := by omega); (try have : w1.heap.size < w2.heap.size + 1 + 1 + 1 := by omega)
  obtain ⟨ra, rc, rfl⟩ := ho2.shape
  rw [List.length_map] at ho2 ⊢
  have HR2 := Lib.hid ho2
  have HB2 := Lib.hid (HB1.out.trans (hb2.mono hz1))
  have hz2' := HB2.out.size
  clear ho2 hb2 hc2 hf2 HA1 HB1 hal
  go_wp2_with (first | ((with_reducible refine (P1.out _).mono ?_); rintro e w' ⟨rfl, rfl⟩) | (at_builtin; refine stop_at ?_; intro G hG))
  have HO := own_newW (W := w2) (B := w2.heap.size) (sz := 5) (c := routeCells (0, 0, 1 + h)) (E := 49) rfl (Nat.le_refl _) rfl (by decide)
  have HOH : Hid (Wk.Own (w2.alloc (.cells #[.bool false, .int .u64 0, .int .u64 0, .int .i64 0, .int .i64 (1 + (h : Int))] 49)) w2.heap.size 49 5 (.slice (some ⟨w2.heap.size, 0, none⟩) 1 1) [routeCells (0, 0, 1 + h)]) := HO
  clear HO
  have HW3 : Below w2.heap.size w2 (w2.alloc (.cells #[.bool false, .int .u64 0, .int .u64 0, .int .i64 0, .int .i64 (1 + (h : Int))] 49)) := (Below.refl _ _).alloc (Nat.le_refl _) _
  have HRY := Lib.hid (HR2.out.below HW3)
  have hz3 := HW3.size
  have HWW := Lib.hid (HB2.out.trans (HW3.mono hz2'))
  clear HW3 HR2 HB2
  generalize w2.alloc (.cells #[.bool false, .int .u64 0, .int .u64 0, .int .i64 0, .int .i64 (1 + (h : Int))] 49) = w3 at *
  rw [← hG.out]; clear hG G
  refine wpList_append_any rfl _ _ 43 49 5 40 _ rfl eiRoute w2.heap.size _ (([((0 : Nat), (0 : Nat), 1 + h)]).map routeCells) rfl (HOH.out) _ ((R).map routeCells) rfl (HRY.out.sl) (by intro c hc; obtain ⟨r, _, rfl⟩ := List.mem_map.1 hc; exact routeCells_one r) (by simp only [List.length_map, List.length_cons, List.length_nil]; first | omega | (simp; omega)) (by decide) (by first | omega | (simp; done) | (simp; omega)) ?_
  intro v4 w4 hown4 hb4
  rw [← List.map_append] at hown4
  obtain ⟨xs4, hxs4⟩ : ∃ x : List (Nat × Nat × Nat), x = ([((0 : Nat), (0 : Nat), 1 + h)]) ++ (R) := ⟨_, rfl⟩
  rw [← hxs4] at hown4
  have hl4 : xs4.length = ([((0 : Nat), (0 : Nat), 1 + h)]).length + (R).length := by rw [hxs4, List.length_append]
  have HX4 := Lib.hid hxs4
  clear hxs4
  have HL4 := Lib.hid hl4
  clear hl4
  obtain ⟨a4, cap4, rfl⟩ := hown4.shape
  rw [List.length_map] at hown4 ⊢
  have HO4 := Lib.hid hown4
  clear hown4
  obtain ⟨hc4, hf4⟩ := bcellB hb4; have hz4 := hb4.size; (repeat (first | rw [World.size_alloc] at hz4 | rw [World.size_drew] at hz4 | rw [World.size_setCell] at hz4)); (try have : w.heap.size < w4.heap.size := by omega); (try have : w.heap.size < w4.heap.size + 1 := by omega); (try have : w.heap.size < w4.heap.size + 1 + 1 := by omega); (try have : w.heap.size < w4.heap.size + 1 + 1 + 1 := by omega); (try have : w1.heap.size < w4.heap.size := by omega); (try have : w1.heap.size < w4.heap.size + 1 := by omega); (try have : w1.heap.size < w4.heap.size + 1 + 1 := by omega); (try have : w1.heap.size < w4.heap.size + 1 + 1 + 1 := by omega); (try have : w2.heap.size < w4.heap.size := by omega); (try have : w2.heap.size < w4.heap.size + 1 := by omega); (try have : w2.heap.size < w4.heap.size + 1 + 1 := by omega); (try have : w2.heap.size < w4.heap.size + 1 + 1 + 1 := by omega)
  have HF := Lib.hid (HWW.out.trans (hb4.mono (Nat.le_trans hz2' (Nat.le_refl _))))
  have hx := HX4.out
  rw [List.singleton_append] at hx
  subst hx
  clear hb4 hc4 hf4
  go_wp2_with fail
  go_returns
  exact ⟨_, rfl, by simpa using HO4.out.base hz2', HF.out⟩
end Go.Proofs.Ytoecmoicaklbaaa

