
/- Contracts: copiedPres; samePres of lists that are the same. -/
import Derived.Test.YtllemhknmleklaaMg2
import Derived.Test.YtllemhknmleklaaMg3
set_option linter.unusedVariables false
set_option linter.unusedSimpArgs false
namespace Go.Proofs.Ytllemhknmleklaa
open Go.RowKit Go.Sort Wc Wk


set_option maxHeartbeats 1000000 in
theorem copiedPres_any (six : Bool) (a : Option Addr) (cap : Nat) (l : List (Nat × Nat)) (w : World) (hs : Sl w 4 (.slice a l.length cap) (l.map (pfC six))) (hlen : l.length ≤ 1000) :
    Calls Try.prog 39 #[.slice a l.length cap] w fun e w' => ∃ a' cap', e = .returned (.slice a' l.length cap') ∧ Wk.Own w' w.heap.size 29 4 (.slice a' l.length cap') (l.map (pfC six)) ∧ Below w.heap.size w w' := by
  have HS := Lib.hid hs
  clear hs
  go_enter Try.func39, Try.ntmps39
  go_wp2_with (at_builtin; refine stop_at ?_; intro G hG)
  rw [← hG.out]; clear hG G
  refine wpList_append_any rfl _ _ 62 29 4 32 _ rfl eiPre w.heap.size _ ((([] : List (Nat × Nat))).map (pfC six)) rfl (Wk.Own.nil _ _ _ _) _ ((l).map (pfC six)) rfl (HS.out) (by intro c hc; obtain ⟨r, _, rfl⟩ := List.mem_map.1 hc; exact pfC_one six r) (by simp only [List.length_map, List.map_nil, List.length_nil]; first | omega | (simp; omega)) (by decide) (by first | omega | (simp; done) | (simp; omega)) ?_
  intro v2 w2 hown2 hb2
  rw [← List.map_append] at hown2
  obtain ⟨xs2, hxs2⟩ : ∃ x : List (Nat × Nat), x = (([] : List (Nat × Nat))) ++ (l) := ⟨_, rfl⟩
  rw [← hxs2] at hown2
  have hl2 : xs2.length = (([] : List (Nat × Nat))).length + (l).length := by rw [hxs2, List.length_append]
  have HX2 := Lib.hid hxs2
  clear hxs2
  have HL2 := Lib.hid hl2
  clear hl2
  obtain ⟨a2, cap2, rfl⟩ := hown2.shape
  rw [List.length_map] at hown2 ⊢
  have HO2 := Lib.hid hown2
  clear hown2
  obtain ⟨hc2, hf2⟩ := bcellB hb2; have hz2 := hb2.size; (repeat (first | rw [World.size_alloc] at hz2 | rw [World.size_drew] at hz2 | rw [World.size_setCell] at hz2)); (try have : w.heap.size < w2.heap.size := by omega); (try have : w.heap.size < w2.heap.size + 1 := by omega); (try have : w.heap.size < w2.heap.size + 1 + 1 := by omega); (try have : w.heap.size < w2.heap.size + 1 + 1 + 1 := by omega)
  rw [List.nil_append] at HX2
  have e := HX2.out
  subst e
  go_wp2
  go_returns
  exact ⟨_, _, rfl, HO2.out, hb2⟩


set_option maxRecDepth 100000 in
set_option maxHeartbeats 2000000 in
theorem samePres_same (six : Bool) (a1 a2 : Option Addr) (cap1 cap2 : Nat) (l : List (Nat × Nat)) (w : World) (hs1 : Sl w 4 (.slice a1 l.length cap1) (l.map (pfC six))) (hs2 : Sl w 4 (.slice a2 l.length cap2) (l.map (pfC six))) (hlen : l.length ≤ 1048576)
    (ha1 : ∀ x, a1 = some x → x.block < w.heap.size) (ha2 : ∀ x, a2 = some x → x.block < w.heap.size) :
    Calls Try.prog 40 #[.slice a1 l.length cap1, .slice a2 l.length cap2] w fun e w' => e = .returned (.bool true) ∧ Below w.heap.size w w' := by
  have H1 := Lib.hid hs1
  have H2 := Lib.hid hs2
  have A1 := Lib.hid ha1
  have A2 := Lib.hid ha2
  clear hs1 hs2 ha1 ha2
  go_enter Try.func40, Try.ntmps40
  go_wp2_with fail
  go_loopw [5] (fun i wr => ∃ j : Nat, j ≤ l.length ∧ i = .int .i64 j ∧ Hid (Below w.heap.size w wr)) (fun i _ => l.length - (intOf i).toNat)
  case atStart => exact ⟨0, Nat.zero_le _, rfl, Below.refl _ _⟩
  case round =>
    obtain ⟨k, hk, rfl, HB⟩ := hrel
    have hzr := HB.out.size
    by_cases hkt : k < l.length
    · obtain ⟨px, hx⟩ : ∃ s, l[k]? = some s := ⟨_, List.getElem?_eq_getElem hkt⟩
      obtain ⟨g, off, rfl, hg, hgw, d0, d1, d2, d3⟩ := Sl.pf H1.out HB.out A1.out hx
      obtain ⟨g', off', rfl, hg', hgw', e0, e1, e2, e3⟩ := Sl.pf H2.out HB.out A2.out hx
      clear hx
      go_wp2_with fail
      refine wp_region_qb (by kernel_rfl) (by kernel_rfl) (fun kq => ?_)
      repeat (first | go_big_quiet_step (fail) | quiet_step (fail))
      clear kq
      refine wpQuiet_nil ?_; intro w2 hb2; (repeat (with_reducible (replace hb2 := Below.undrew hb2))); obtain ⟨hc2, hf2⟩ := bcell hb2; have hz2 := hb2.size; (repeat (first | rw [World.size_alloc] at hz2 | rw [World.size_drew] at hz2 | rw [World.size_setCell] at hz2)); (try have : w.heap.size < w2.heap.size := by omega); (try have : w.heap.size < w2.heap.size + 1 := by omega); (try have : w.heap.size < w2.heap.size + 1 + 1 := by omega); (try have : w.heap.size < w2.heap.size + 1 + 1 + 1 := by omega); (try have : wr.heap.size < w2.heap.size := by omega); (try have : wr.heap.size < w2.heap.size + 1 := by omega); (try have : wr.heap.size < w2.heap.size + 1 + 1 := by omega); (try have : wr.heap.size < w2.heap.size + 1 + 1 + 1 := by omega)
      have HB2 : Below w.heap.size w w2 := HB.out.trans (hb2.mono hzr)
      clear d0 d1 d2 d3 e0 e1 e2 e3 hc2 hf2 hb2
      go_wp2_with fail
      go_roundw
      case rel => exact ⟨k + 1, by omega, by go_num, HB2⟩
      case measure => simp [intOf]; omega
    · obtain rfl : k = l.length := by omega
      go_wp2_with fail
      exact bodyPost_ret (v := _) (by simp [results, Try.results40, go_sem]) rfl ⟨rfl, HB.out⟩
end Go.Proofs.Ytllemhknmleklaa
