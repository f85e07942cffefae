
/- Shares: dealt. -/
import Derived.Test.YticfcigkldkhmaaSh10
set_option linter.unusedVariables false
set_option linter.unusedSimpArgs false
namespace Go.Proofs.Yticfcigkldkhmaa
open Go Go.RowKit Go.Sort Wc Wk

def dealtL (l : List (Nat × Nat)) (many : Nat) : List Nat := dealL (l.map (·.1)) (partsL (l.map (·.2)) many)
theorem dealt_five : dealtL [(5, 1)] 2 = [5, 5] := by decide
theorem dealt_len {l : List (Nat × Nat)} (h : ShOk l) (many : Nat) : (dealtL l many).length = many := by
  have hpo := parts_ok (l.map (·.2)) many (by have := sum_wt h.wt; have := h.one; omega)
  unfold dealtL
  rw [deal_len _ _ (by rw [hpo.len]; simp), hpo.sum]


set_option maxHeartbeats 2000000 in
theorem dealt_any (a : Option Addr) (cap n : Nat) (l : List (Nat × Nat)) (many : Nat) (w : World) (hn : n = l.length) (hs : Sl w 2 (.slice a n cap) (l.map shCells)) (hok : ShOk l) (hm1 : 1 ≤ many) (hmany : many ≤ 64) :
    Calls Try.prog 32 #[.slice a n cap, .int .i64 many] w fun e w' => ∃ v, e = .returned (.tuple #[v, .bool true]) ∧ Below w.heap.size w w' ∧ Wk.Own w' w.heap.size 3 1 v ((dealtL l many).map nC) := by
  have HS := Lib.hid hs
  have HN := Lib.hid hn
  have HOK := Lib.hid hok
  have h1 := hs.lens.2.1
  have h2 := hs.lens.2.2
  have n1 : 1 ≤ n := by have := hok.one; omega
  have n2 : n ≤ 16 := by have := hok.len; omega
  clear hs hn hok
  go_enter Try.func32, Try.ntmps32
  go_wp2_with (at_builtin; refine stop_at ?_; intro G hG)
  rw [← hG.out]; clear hG G
  refine wpList_append_any rfl _ _ 66 73 2 16 _ rfl eiShare w.heap.size _ ((([] : List (Nat × Nat))).map shCells) rfl (Own.nil _ _ _ _) _ ((l).map shCells) rfl (HS.out) (by intro c hc; obtain ⟨r, _, rfl⟩ := List.mem_map.1 hc; exact shCells_one r) (by have := HN.out; first | omega | (simp; omega)) (by decide) (by first | omega | (simp; done) | (simp; omega)) ?_
  intro v2 w2 hown2 hb2
  rw [← List.map_append] at hown2
  obtain ⟨xs2, hxs2⟩ : ∃ x : List (Nat × Nat), x = (([] : List (Nat × Nat))) ++ (l) := ⟨_, rfl⟩
  rw [← hxs2] at hown2
  have hl2 : xs2.length = (([] : List (Nat × Nat))).length + (l).length := by rw [hxs2, List.length_append]
  have HX2 := Lib.hid hxs2
  clear hxs2
  have HL2 := Lib.hid hl2
  clear hl2
  obtain ⟨a2, cap2, rfl⟩ := hown2.shape
  rw [List.length_map] at hown2 ⊢
  have HO2 := Lib.hid hown2
  clear hown2
  obtain ⟨hc2, hf2⟩ := bcellB hb2; have hz2 := hb2.size; (repeat (first | rw [World.size_alloc] at hz2 | rw [World.size_drew] at hz2 | rw [World.size_setCell] at hz2)); (try have : w.heap.size < w2.heap.size := by omega); (try have : w.heap.size < w2.heap.size + 1 := by omega); (try have : w.heap.size < w2.heap.size + 1 + 1 := by omega); (try have : w.heap.size < w2.heap.size + 1 + 1 + 1 := by omega)
  have hxl : xs2 = l := HX2.out
  subst hxl
  have D1 := Lib.hid (deal_any a2 cap2 xs2.length xs2 many w2 rfl HO2.out.sl HOK.out hm1 hmany)
  go_wp2_with ((with_reducible refine D1.out.mono ?_); rintro e w3 ⟨v3, rfl, hb3, ho3⟩; (repeat (with_reducible (replace hb3 := Below.undrew hb3))); obtain ⟨hc3, hf3⟩ := bcell hb3; have hz3 := hb3.size; (repeat (first | rw [World.size_alloc] at hz3 | rw [World.size_drew] at hz3 | rw [World.size_setCell] at hz3)); (try have : w.heap.size < w3.heap.size := by omega); (try have : w.heap.size < w3.heap.size + 1 := by omega); (try have : w.heap.size < w3.heap.size + 1 + 1 := by omega); (try have : w.heap.size < w3.heap.size + 1 + 1 + 1 := by omega))
  have HO3 := Lib.hid ho3
  clear ho3
  have D2 : Hid (Calls Try.prog 57 #[.slice (some ⟨w3.heap.size, 0, none⟩) 1 1, .int .i64 2] (w3.alloc (.cells #[.int .i64 5, .int .i64 1] 73)) fun e w' => ∃ v, e = .returned (.tuple #[v, .int .i64 0]) ∧ Below (w3.alloc (.cells #[.int .i64 5, .int .i64 1] 73)).heap.size (w3.alloc (.cells #[.int .i64 5, .int .i64 1] 73)) w' ∧ Wk.Own w' (w3.alloc (.cells #[.int .i64 5, .int .i64 1] 73)).heap.size 3 1 v ([5, 5].map nC)) := by
    have d := deal_any (some ⟨w3.heap.size, 0, none⟩) 1 1 [(5, 1)] 2 (w3.alloc (.cells #[.int .i64 5, .int .i64 1] 73)) rfl (show Sl _ 2 _ [[.int .i64 5, .int .i64 1]] from sl_new rfl rfl) (sh_head 5 1 (by omega) (by omega)) (by omega) (by omega)
    have e5 : dealL ([(5, 1)].map (·.1)) (partsL ([(5, 1)].map (·.2)) 2) = [5, 5] := dealt_five
    rw [e5] at d
    exact d
  go_wp2_with ((with_reducible refine D2.out.mono ?_); rintro e w5 ⟨v5, rfl, hb5, ho5⟩; (repeat (with_reducible (replace hb5 := Below.undrew hb5))); obtain ⟨hc5, hf5⟩ := bcell hb5; have hz5 := hb5.size; (repeat (first | rw [World.size_alloc] at hz5 | rw [World.size_drew] at hz5 | rw [World.size_setCell] at hz5)); (try have : w.heap.size < w5.heap.size := by omega); (try have : w.heap.size < w5.heap.size + 1 := by omega); (try have : w.heap.size < w5.heap.size + 1 + 1 := by omega); (try have : w.heap.size < w5.heap.size + 1 + 1 + 1 := by omega))
  obtain ⟨g5, cap5, rfl, _, hg5, k1, k2, _, hcl⟩ := Own.at ho5 (by decide)
  have c5 := hcl 0 (nC 5) rfl 0 (.int .i64 5) rfl
  have k3 : 2 ≤ cap5 := k1
  clear hcl ho5 k1 hc5 hf5 hc2 hf2 hc3 hf3 D1 D2
  go_wp2_with fail
  refine wp_region_qb (by kernel_rfl) (by kernel_rfl) (fun kq => ?_)
  repeat (first | go_big_quiet_step (fail) | quiet_step (fail))
  clear kq
  refine wpQuiet_nil ?_; intro w6 hb6; (repeat (with_reducible (replace hb6 := Below.undrew hb6))); obtain ⟨hc6, hf6⟩ := bcell hb6; have hz6 := hb6.size; (repeat (first | rw [World.size_alloc] at hz6 | rw [World.size_drew] at hz6 | rw [World.size_setCell] at hz6)); (try have : w.heap.size < w6.heap.size := by omega); (try have : w.heap.size < w6.heap.size + 1 := by omega); (try have : w.heap.size < w6.heap.size + 1 + 1 := by omega); (try have : w.heap.size < w6.heap.size + 1 + 1 + 1 := by omega)
  go_wp2_with fail
  go_returns
  exact ⟨v3, rfl, by (repeat' (first | (with_reducible exact Below.refl _ _) | (with_reducible assumption) | (with_reducible refine Below.alloc ?_ ?_ _) | (with_reducible refine Below.drew ?_) | (with_reducible refine Below.stepG ?_ (by assumption) ?_) | (with_reducible refine Below.setCell ?_ ?_ _) | omega | (dsimp only; omega) | (simp; done) | (simp; omega))), own_weaken (by ((repeat (first | (with_reducible refine Wk.Own.alloc ?_ _) | (with_reducible refine Wk.Own.dr ?_))); refine Wk.Own.below ?_ hb6; (repeat (first | (with_reducible refine Wk.Own.alloc ?_ _) | (with_reducible refine Wk.Own.dr ?_))); refine Wk.Own.below ?_ hb5; (repeat (first | (with_reducible refine Wk.Own.alloc ?_ _) | (with_reducible refine Wk.Own.dr ?_))); exact HO3.out)) hz2⟩
end Go.Proofs.Yticfcigkldkhmaa
