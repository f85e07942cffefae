
/- Package whipcordkeep: strided. -/
import Derived.Test.YtoecmoicaklbaaaDoorSt9
import Derived.Test.YtoecmoicaklbaaaDoorStR
import Derived.Test.YtoecmoicaklbaaaDoorGoes
set_option linter.unusedVariables false
set_option linter.unusedSimpArgs false
namespace Go.Proofs.YtoecmoicaklbaaaDoor
open Go Go.RowKit Go.Sort Wc Wk

theorem treeOf_length (R : List (Nat × Nat × Nat)) : (treeOf R).length = bT R := by unfold treeOf; exact treeL_len _ _ _
theorem walk_treeOf {R : List (Nat × Nat × Nat)} (hR : RtOk R) : ∃ S b, walkF (treeOf R) 9 (treeOf R).length 0 0 0 = some (S, b) ∧ RtOk S ∧ (∀ x, x ∈ S ↔ x ∈ R) ∧ treeOf S = treeOf R := by
  obtain ⟨S, h1, h2, h3⟩ := walk_root hR (bT_done hR) (t := treeOf R) (fun i _ => rfl) (b := (treeOf R).length) (by rw [treeOf_length]; exact Nat.le_refl _)
  exact ⟨S, _, h1, h2, h3, treeOf_same h2 hR h3⟩
theorem treeOf_small {R : List (Nat × Nat × Nat)} (hR : RtOk R) : (treeOf R).length ≤ 1000 := by
  have h1 := bT_le hR
  have h2 := hR.len
  rw [treeOf_length]
  omega
def one7 : List (Nat × Nat × Nat) := [(0, 0, 7)]
theorem one7_ok : RtOk one7 := by
  refine ⟨?_, ?_, ?_, ?_, ?_⟩
  · intro x hx
    obtain rfl := List.mem_singleton.1 hx
    exact ⟨by show 0 < 2 ^ wd false; decide, Nat.zero_le _, by simp [cutN]⟩
  · intro x hx; obtain rfl := List.mem_singleton.1 hx; decide
  · intro x hx; obtain rfl := List.mem_singleton.1 hx; decide
  · exact List.pairwise_singleton _ _
  · decide
theorem one7_tree : treeOf one7 = [⟨[1], [], [7], []⟩] := by kernel_rfl

set_option maxHeartbeats 2000000 in
theorem may_of {a : Option Addr} {n c : Nat} {w : World} {v : Value} {ok : Bool} (h : Calls Tryd.prog 22 #[.slice a n c] w fun e w' => (∃ v, e = .returned (.tuple #[v, .bool ok])) ∧ Below w.heap.size w w') :
    Calls Tryd.prog 12 #[.slice a n c] w fun e w' => e = .returned (.bool ok) ∧ Below w.heap.size w w' := by
  have H := Lib.hid h
  clear h
  go_enter Tryd.func12, Tryd.ntmps12
  go_wp2_with fail
  refine H.out.mono ?_
  rintro e w1 ⟨⟨v1, rfl⟩, hb1⟩
  go_wp2_with fail
  go_returns
  exact ⟨rfl, hb1⟩
theorem may_yes (a : Option Addr) (n c : Nat) (R : List (Nat × Nat × Nat)) (rows : List (List Value)) (w : World) (hR : RtOk R) (E : WkEnv w a n c (treeOf R) rows) :
    Calls Tryd.prog 12 #[.slice a n c] w fun e w' => e = .returned (.bool true) ∧ Below w.heap.size w w' := by
  obtain ⟨S, b, h1, h2, h3, h4⟩ := walk_treeOf hR
  have hn := E.nr.nl
  have hs := treeOf_small hR
  refine may_of (v := .int .i64 0) ((routes_ok a n c (treeOf R) rows S b w E (by omega) (by rw [hn]; exact h1) h2 h4).mono ?_)
  rintro e w1 ⟨v, rfl, _, hb⟩
  exact ⟨⟨v, rfl⟩, hb⟩

set_option maxHeartbeats 4000000 in
theorem strided_any (a : Option Addr) (cap n : Nat) (R : List (Nat × Nat × Nat)) (w : World) (hn : n = R.length) (hs : Sl w 5 (.slice a n cap) (R.map routeCells)) (hR : RtOk R) (hT : TabAt 0 Lib.deBruijn64tab w) (hz : 0 < w.heap.size) :
    Calls Tryd.prog 9 #[.slice a n cap] w fun e w' => ∃ v, e = .returned (.tuple #[v, .bool true]) ∧ RetNodes w (treeOf R) v w' := by
  subst hn
  have HS := Lib.hid hs
  have HR := Lib.hid hR
  have HT := Lib.hid hT
  have HZ := Lib.hid hz
  have hl := hR.len
  clear hs hR hT hz
  go_enter Tryd.func9, Tryd.ntmps9
  go_wp2_with (at_builtin; refine stop_at ?_; intro G hG)
  rw [← hG.out]; clear hG G
  refine wpList_append_any rfl _ _ 23 41 5 40 _ rfl eiRoute (w.heap.size) _ ((([] : List (Nat × Nat × Nat))).map routeCells) rfl (Wk.Own.nil _ _ _ _) _ ((R).map routeCells) rfl (HS.out) (by intro c hc; obtain ⟨r, _, rfl⟩ := List.mem_map.1 hc; exact routeCells_one r) (by skip; first | omega | (simp; omega)) (by decide) (by first | omega | (simp; done) | (simp; omega)) ?_
  intro v1 w1 hown1 hb1
  rw [← List.map_append] at hown1
  obtain ⟨xs1, hxs1⟩ : ∃ x : List (Nat × Nat × Nat), x = (([] : List (Nat × Nat × Nat))) ++ (R) := ⟨_, rfl⟩
  rw [← hxs1] at hown1
  have hl1 : xs1.length = (([] : List (Nat × Nat × Nat))).length + (R).length := by rw [hxs1, List.length_append]
  have HX1 := Lib.hid hxs1
  clear hxs1
  have HL1 := Lib.hid hl1
  clear hl1
  obtain ⟨a1, cap1, rfl⟩ := hown1.shape
  rw [List.length_map] at hown1 ⊢
  have HO1 := Lib.hid hown1
  clear hown1
  obtain ⟨hc1, hf1⟩ := bcellB hb1; have hz1 := hb1.size; (repeat (first | rw [World.size_alloc] at hz1 | rw [World.size_drew] at hz1 | rw [World.size_setCell] at hz1))
  have hx := HX1.out
  rw [List.nil_append] at hx
  replace hx := hx.symm
  subst hx
  go_wp2_with fail
  have HW1S := Lib.hid (show w.heap.size ≤ w1.heap.size from (show Below w.heap.size w w1 by (repeat' (first | (with_reducible exact Below.refl _ _) | (with_reducible assumption) | (with_reducible refine Below.al ?_ _) | (with_reducible refine Below.dr ?_) | (with_reducible refine Below.step ?_ (by assumption)) | (with_reducible refine Below.set ?_ ?_ _) | omega | (dsimp only; omega) | (simp; done) | (simp; omega)))).size)
  refine (make_any _ _ _ R _ rfl HO1.out.sl HR.out).mono ?_
  rintro e w2 ⟨v, rfl, rows, q2, n2, b2⟩
  obtain ⟨va, vc, rfl⟩ := q2.shape
  obtain ⟨tl, htl⟩ : ∃ m, m = rows.length := ⟨_, rfl⟩
  have HQ2 := Lib.hid q2
  have HN2 := Lib.hid n2
  have HB2 := Lib.hid b2
  have HW2 := Lib.hid (show Below w.heap.size w w2 by (repeat' (first | (with_reducible exact Below.refl _ _) | (with_reducible assumption) | (with_reducible refine Below.al ?_ _) | (with_reducible refine Below.dr ?_) | (with_reducible refine Below.step ?_ (by assumption)) | (with_reducible refine Below.set ?_ ?_ _) | omega | (dsimp only; omega) | (simp; done) | (simp; omega))))
  have HTL := Lib.hid htl
  rw [← htl] at HQ2 ⊢
  clear q2 n2 b2 htl
  go_wp2_with fail
  have HJ := Lib.hid (sl_many (W := w2) (sz := 5) (n := 1) (xs := one7.map routeCells) (cs := #[.bool false, .int .u64 0, .int .u64 0, .int .i64 0, .int .i64 7]) (E := 41) rfl (by intro c hc; obtain ⟨r, _, rfl⟩ := List.mem_map.1 hc; rfl) rfl rfl (by decide))
  refine (make_any _ _ _ one7 _ rfl HJ.out one7_ok).mono ?_
  rintro e w3 ⟨v2, rfl, rows2, q3, n3, b3⟩
  clear HJ
  rw [one7_tree] at n3
  obtain ⟨r, rfl⟩ := List.length_eq_one_iff.1 n3.1
  obtain ⟨ha, hc, ka, kc, er, _, _⟩ := n3.2 0 _ r rfl rfl
  obtain ⟨ua, uc, rfl⟩ := q3.shape
  obtain ⟨g, o, rfl, hg, hcl⟩ := Sl.at q3.sl (i := 0) (c := r) rfl
  have u2 : w3.cell? ⟨g, o + 2, none⟩ = some (.slice ha 1 hc) := by
    have := hcl 2 (.slice ha 1 hc) (by rw [er]; rfl)
    simpa using this
  have HB3 := Lib.hid (show Below w2.heap.size w2 w3 from ((Below.refl _ _).alloc (Nat.le_refl _) _).trans (b3.mono (by simp)))
  have HW3 := Lib.hid (HW2.out.trans (HB3.out.mono HW2.out.size))
  have HN3 := Lib.hid (show NodesR w3 va tl vc (treeOf R) rows from NodesR.below ⟨HQ2.out.sl, by rw [HTL.out]; exact HN2.out.1, HN2.out.1, fun m nd r e1 e2 => (HN2.out.2 m nd r e1 e2).read, treeOf_bits R⟩ HB3.out)
  have MY := Lib.hid (fun W (hb : Below w3.heap.size w3 W) => may_yes va tl vc R rows W HR.out ⟨HN3.out.below hb, tab_in HT.out HZ.out (HW3.out.trans (hb.mono HW3.out.size)), Nat.lt_of_lt_of_le HZ.out (HW3.out.trans (hb.mono HW3.out.size)).size⟩)
  have HRET := Lib.hid (fun W (hb : Below w3.heap.size w3 W) => show RetNodes w (treeOf R) (.slice va tl vc) W from by
    have hb2 : Below w2.heap.size w2 W := HB3.out.trans (hb.mono HB3.out.size)
    exact ⟨rows, (HQ2.out.below hb2).base HW1S.out, ⟨HN2.out.1, fun m nd r e1 e2 => by
      obtain ⟨a, c, a', c', e, h1, h2⟩ := (HN2.out.2 m nd r e1 e2).below hb2
      exact ⟨a, c, a', c', e, h1.base HW1S.out, h2.base HW1S.out⟩⟩, HW2.out.trans (hb2.mono HW2.out.size)⟩)
  clear er hcl n3 q3 b3
  go_wp2_with fail
  refine (MY.out w3 (Below.refl _ _)).mono ?_
  rintro e w4 ⟨rfl, hb4⟩
  have HR4 := Lib.hid (HRET.out w4 hb4)
  clear hb4 MY HRET u2
  go_wp2_with fail
  go_returns
  exact ⟨_, rfl, HR4.out⟩
end Go.Proofs.YtoecmoicaklbaaaDoor
