
/- The laws' play of jobs: queued. -/
import Derived.Test.YtoecmoicaklbaaaQ5
import Derived.Test.YtoecmoicaklbaaaQRow
set_option linter.unusedVariables false
namespace Wk
open Go Go.RowKit Go.Sort
theorem sl_many {W : World} {sz b n : Nat} {xs : List (List Value)} {cs : Array Value} {E : TypeId} (hb : b = W.heap.size) (hc : ∀ c ∈ xs, c.length = sz) (hcs : cs = xs.flatten.toArray) (hn : n = xs.length) (hm : n ≤ 1000) : Sl (W.alloc (.cells cs E)) sz (.slice (some ⟨b, 0, none⟩) n n) xs := by
  subst hb hcs hn
  refine ⟨hc, some ⟨W.heap.size, 0, none⟩, xs.length, rfl, Nat.le_refl _, by unfold maxLen; omega, fun _ => ⟨W.heap.size, 0, rfl, by simp, fun i c' hi j u hu => ?_⟩⟩
  have := flatten_at hc i c' hi j u hu
  simp only [Nat.zero_add, World.cell?_alloc_new]
  simpa using this
end Wk
namespace Go.Proofs.Ytoecmoicaklbaaa
open Go Go.RowKit Go.Sort Wc Wk

def oneJ : List JobD := [⟨true, ⟨1, 0, 0, 3, 0⟩, 0⟩, ⟨false, actZ, 1⟩]
theorem oneJ_ok : ∀ j ∈ oneJ, JobD.ok j := by
  intro j hj
  simp [oneJ] at hj
  rcases hj with rfl | rfl
  · refine .inl ⟨rfl, ⟨?_, by decide, rfl, .inl ⟨rfl, by decide⟩⟩, rfl⟩
    have := vp_cut (six := false) (n := 0) (k := 0) (by unfold Fits wd; simp) (by decide)
    simpa [cutN] using this
  · exact .inr ⟨rfl, rfl, by decide, by decide⟩
theorem oneJ_run : qrun [] oneJ = [⟨0, false, []⟩, ⟨0, false, [⟨1, 0, 0, 3, 0⟩]⟩] := by rfl
/-- What it hands back: all is told. -/
def RetQueued (w : World) (js : List JobD) (e : Ending) (w' : World) : Prop :=
  ∃ v vs, e = .returned (.tuple #[v, .bool true]) ∧ Dones w' w.heap.size v (qrun [] js) vs ∧ Below w.heap.size w w'
theorem Dones.shape {w : World} {B : Nat} {v : Value} {ds : List DoneD} {vs : List Value} (h : Dones w B v ds vs) : ∃ a cap, v = .slice a ds.length cap := by
  obtain ⟨a, cap, hv⟩ := h.own.shape
  refine ⟨a, cap, ?_⟩
  rw [hv, List.length_zipWith, h.len, Nat.min_self]


set_option maxRecDepth 100000 in
set_option maxHeartbeats 1000000 in
theorem queued_any (a : Option Addr) (cap : Nat) (js : List JobD) (w : World) (hs : Sl w 11 (.slice a js.length cap) (js.map jobCells)) (hl : js.length ≤ 100) (hok : ∀ j ∈ js, JobD.ok j) :
    Calls Try.prog 14 #[.slice a js.length cap] w (RetQueued w js) := by
  have HS := Lib.hid hs
  have HOK := Lib.hid hok
  clear hs hok
  go_enter Try.func14, Try.ntmps14
  go_wp2_with (at_builtin; refine stop_at ?_; intro G hG)
  rw [← hG.out]; clear hG G
  refine wpList_append_any rfl _ _ 23 34 11 88 _ rfl eiJob (w.heap.size) _ ((([] : List JobD)).map jobCells) rfl (Own.nil _ _ _ _) _ ((js).map jobCells) rfl (HS.out) (by intro c hc; obtain ⟨r, _, rfl⟩ := List.mem_map.1 hc; exact jobCells_one r) (by skip; first | omega | (simp; omega)) (by decide) (by first | omega | (simp; done) | (simp; omega)) ?_
  intro v1 w1 hown1 hb1
  rw [← List.map_append] at hown1
  obtain ⟨xs1, hxs1⟩ : ∃ x : List JobD, x = (([] : List JobD)) ++ (js) := ⟨_, rfl⟩
  rw [← hxs1] at hown1
  have hl1 : xs1.length = (([] : List JobD)).length + (js).length := by rw [hxs1, List.length_append]
  have HX1 := Lib.hid hxs1
  clear hxs1
  have HL1 := Lib.hid hl1
  clear hl1
  obtain ⟨a1, cap1, rfl⟩ := hown1.shape
  rw [List.length_map] at hown1 ⊢
  have HO1 := Lib.hid hown1
  clear hown1
  obtain ⟨hc1, hf1⟩ := bcellB hb1; have hz1 := hb1.size; (repeat (first | rw [World.size_alloc] at hz1 | rw [World.size_drew] at hz1 | rw [World.size_setCell] at hz1)); (try have : w.heap.size < w1.heap.size := by omega); (try have : w.heap.size < w1.heap.size + 1 := by omega); (try have : w.heap.size < w1.heap.size + 1 + 1 := by omega); (try have : w.heap.size < w1.heap.size + 1 + 1 + 1 := by omega)
  have hx := HX1.out
  rw [List.nil_append] at hx
  replace hx := hx.symm
  subst hx
  go_wp2_with fail
  refine (qplay_any _ _ js _ HO1.out.sl hl HOK.out).mono ?_
  rintro e w2 ⟨v, vs, rfl, HD, hb2⟩
  (repeat (with_reducible (replace hb2 := Below.undrew hb2))); obtain ⟨hc2, hf2⟩ := bcell hb2; have hz2 := hb2.size; (repeat (first | rw [World.size_alloc] at hz2 | rw [World.size_drew] at hz2 | rw [World.size_setCell] at hz2)); (try have : w.heap.size < w2.heap.size := by omega); (try have : w.heap.size < w2.heap.size + 1 := by omega); (try have : w.heap.size < w2.heap.size + 1 + 1 := by omega); (try have : w.heap.size < w2.heap.size + 1 + 1 + 1 := by omega); (try have : w1.heap.size < w2.heap.size := by omega); (try have : w1.heap.size < w2.heap.size + 1 := by omega); (try have : w1.heap.size < w2.heap.size + 1 + 1 := by omega); (try have : w1.heap.size < w2.heap.size + 1 + 1 + 1 := by omega)
  obtain ⟨va, vc, rfl⟩ := HD.shape
  have HD1 := Lib.hid HD
  have hlen : (qrun [] js).length = js.length := qrun_len _ _
  rw [hlen] at HD1 ⊢
  have HLE := Lib.hid hlen
  clear HD hlen
  go_wp2_with fail
  have HJ := Lib.hid (sl_many (W := w2) (sz := 11) (n := 2) (xs := oneJ.map jobCells) (cs := #[.int .i64 1, .int .i64 1, .bool false, .int .u64 0, .int .u64 0, .int .i64 0, .int .i64 3, .bool false, .int .u64 0, .int .u64 0, .int .i64 0, .int .i64 2, .int .i64 0, .bool false, .int .u64 0, .int .u64 0, .int .i64 0, .int .i64 0, .bool false, .int .u64 0, .int .u64 0, .int .i64 1]) (E := 34) rfl (by intro c hc; obtain ⟨j, _, rfl⟩ := List.mem_map.1 hc; rfl) rfl rfl (by decide))
  refine (qplay_any _ _ oneJ _ HJ.out (by decide) oneJ_ok).mono ?_
  rintro e w3 ⟨v2, vs2, rfl, HD2, hb3⟩
  (repeat (with_reducible (replace hb3 := Below.undrew hb3))); obtain ⟨hc3, hf3⟩ := bcell hb3; have hz3 := hb3.size; (repeat (first | rw [World.size_alloc] at hz3 | rw [World.size_drew] at hz3 | rw [World.size_setCell] at hz3)); (try have : w.heap.size < w3.heap.size := by omega); (try have : w.heap.size < w3.heap.size + 1 := by omega); (try have : w.heap.size < w3.heap.size + 1 + 1 := by omega); (try have : w.heap.size < w3.heap.size + 1 + 1 + 1 := by omega); (try have : w1.heap.size < w3.heap.size := by omega); (try have : w1.heap.size < w3.heap.size + 1 := by omega); (try have : w1.heap.size < w3.heap.size + 1 + 1 := by omega); (try have : w1.heap.size < w3.heap.size + 1 + 1 + 1 := by omega); (try have : w2.heap.size < w3.heap.size := by omega); (try have : w2.heap.size < w3.heap.size + 1 := by omega); (try have : w2.heap.size < w3.heap.size + 1 + 1 := by omega); (try have : w2.heap.size < w3.heap.size + 1 + 1 + 1 := by omega)
  clear HJ
  rw [oneJ_run] at HD2
  obtain ⟨ua, uc, rfl⟩ := HD2.shape
  have h2l := HD2.len
  obtain ⟨x0, x1, rfl⟩ : ∃ x0 x1, vs2 = [x0, x1] := by
    match vs2, h2l with
    | [x0, x1], _ => exact ⟨x0, x1, rfl⟩
  have ho := HD2.acts 1 _ _ rfl rfl
  obtain ⟨pa, pc, rfl⟩ := ho.shape
  obtain ⟨g, gc, hv, hg1, hg2, _, _, _, hcells⟩ := HD2.own.at (by simp)
  simp only [Value.slice.injEq] at hv
  obtain ⟨rfl, _, rfl⟩ := hv
  have c1 := hcells 1 _ rfl 2 _ rfl
  have hb23 : Below w1.heap.size w1 w3 := by (repeat' (first | (with_reducible exact Below.refl _ _) | (with_reducible assumption) | (with_reducible refine Below.al ?_ _) | (with_reducible refine Below.dr ?_) | (with_reducible refine Below.step ?_ (by assumption)) | (with_reducible refine Below.set ?_ ?_ _) | omega | (dsimp only; omega) | (simp; done) | (simp; omega)))
  have HD3 := Lib.hid (HD1.out.below ((((Below.refl _ _).alloc (Nat.le_refl _) _).trans (hb3.mono (by simp))) : Below w2.heap.size w2 w3))
  have hbf : Below w.heap.size w w3 := by (repeat' (first | (with_reducible exact Below.refl _ _) | (with_reducible assumption) | (with_reducible refine Below.al ?_ _) | (with_reducible refine Below.dr ?_) | (with_reducible refine Below.step ?_ (by assumption)) | (with_reducible refine Below.set ?_ ?_ _) | omega | (dsimp only; omega) | (simp; done) | (simp; omega)))
  have HF := Lib.hid hbf
  clear HD2 ho hcells h2l hb23 hbf hc1 hf1 hc2 hf2 hc3 hf3
  go_wp2_with fail
  go_quiet (fail)
  go_wp2
  go_returns
  exact ⟨_, vs, rfl, (HD3.out.below (below_drewN (Below.refl _ _) _)).base hz1, HF.out.trans (below_drewN (Below.refl _ _) _)⟩
end Go.Proofs.Ytoecmoicaklbaaa
