
/- slices.SortFunc at vias. -/
import Derived.Test.YtllemhknmleklaaSrtK
import Derived.Test.YtllemhknmleklaaSrtL
import Derived.Test.YtllemhknmleklaaVAll
import Derived.Shelf.SlSortCmp.WholeK
set_option linter.unusedVariables false
set_option linter.unusedSimpArgs false
namespace Go.Proofs.Ytllemhknmleklaa
open Go.RowKit Go.Sort Wc Wk

instance : Inhabited ViaD := ⟨⟨0, 0, 0⟩⟩
def cmpV (x y : ViaD) : Int := Lib.compareInt x.hop y.hop
theorem ltV (x y : ViaD) : ltOf cmpV x y = decide (x.hop < y.hop) := by
  unfold ltOf cmpV Lib.compareInt
  by_cases h1 : (x.hop : Int) < y.hop
  · simp [h1]; omega
  · by_cases h2 : (y.hop : Int) < x.hop <;> simp [h1, h2] <;> omega
theorem swoV : SWO (ltOf cmpV) where
  irrefl x := by rw [ltV]; simp
  trans x y z h1 h2 := by rw [ltV] at *; simp at *; omega
  ntrans x y z h1 h2 := by rw [ltV] at *; simp at *; omega

set_option maxHeartbeats 1000000 in
theorem less_via (x y : ViaD) (W : World) : Calls Try.prog 63 #[.agg #[.int .i64 x.hop, .int .i64 x.port, .int .i64 x.next], .agg #[.int .i64 y.hop, .int .i64 y.port, .int .i64 y.next]] W fun e w' => e = .returned (.int .i64 (cmpV x y)) ∧ ∃ q os', w' = grow (W.drewN q) os' := by
  have hcon := Lib.hid (fun W' => Try.cmp_Compare_int x.hop y.hop W')
  unfold cmpV
  generalize Lib.compareInt x.hop y.hop = r at hcon ⊢
  go_enter Try.func63, Try.ntmps63
  go_wp2_with ((with_reducible refine (hcon.out _).mono ?_); rintro e w' ⟨rfl, rfl⟩)
  go_ret
  exact ⟨rfl, 0, _, by rw [alloc_eq_grow, alloc_eq_grow, grow_grow]; rfl⟩

theorem perm_of_in {d d' : Array ViaD} (h : PermIn 0 d.size d d') : d'.toList.Perm d.toList := by
  obtain ⟨h1, _, h3⟩ := h
  have e1 : d'.extract 0 d.size = d' := by rw [← h1]; simp
  have e2 : d.extract 0 d.size = d := by simp
  rwa [e1, e2] at h3
theorem sorted_of_in {d' : Array ViaD} {n : Nat} (hn : d'.size = n) (h : SortedIn (ltOf cmpV) 0 n d') : d'.toList.Pairwise (fun a b => a.hop ≤ b.hop) := by
  rw [List.pairwise_iff_getElem]
  intro i j hi hj hij
  have hi' : i < d'.size := by simpa using hi
  have hj' : j < d'.size := by simpa using hj
  have := h i j (Nat.zero_le _) hij (by omega)
  rw [ltV, getElem!_pos d' i hi', getElem!_pos d' j hj'] at this
  simp at this
  simpa using this
theorem enter_via : ∀ args w, (callFunc 63 args).run Try.prog w = .ok (.enter 63 args) w := enters_of Try.func63 (by kernel_rfl) rfl
theorem lays_via (blk off size : Nat) (w : World) : CmpLays Try.prog 63 #[] viaCells 3 cmpV blk off size w := fun _ _ _ _ x y => less_via x y _

set_option maxHeartbeats 1000000 in
theorem ins_none (fv : Value) (w : World) : Calls Try.prog 138 #[.slice none 0 0, .int .i64 0, .int .i64 0, fv] w fun e w' => e = .returned (.tuple #[]) ∧ w = w' := by
  go_enter Try.func138, Try.ntmps138
  go_wp2
  refine wp_loop_rounds 1 ?_
  rw [rounds_succ]
  go_wp2
  go_end0
  exact ⟨rfl, rfl⟩
set_option maxHeartbeats 1000000 in
theorem pdq_none (fv : Value) (lim : Int) (w : World) : Calls Try.prog 108 #[.slice none 0 0, .int .i64 0, .int .i64 0, .int .i64 lim, fv] w fun e w' => e = .returned (.tuple #[]) ∧ w = w' := by
  have I := Lib.hid (fun w => ins_none fv w)
  go_enter Try.func108, Try.ntmps108
  go_wp2
  refine wp_loop_rounds 1 ?_
  rw [rounds_succ]
  go_wp2_with ((with_reducible refine (I.out _).mono ?_); rintro e w' ⟨rfl, rfl⟩)
  (try simp only [Exit.inBlock, Exit.then]); refine bodyPost_ret (results_none rfl _ _ _) rfl ?_
  exact ⟨rfl, rfl⟩
set_option maxHeartbeats 1000000 in
theorem sort_none (fv : Value) (w : World) : Calls Try.prog 62 #[.slice none 0 0, fv] w fun e w' => e = .returned (.tuple #[]) ∧ w = w' := by
  have I := Lib.hid (fun lim w => pdq_none fv lim w)
  have L := Lib.hid (fun w => Try.bits_Len 0 w (by decide) (by decide))
  go_enter Try.func62, Try.ntmps62
  go_wp2_with (first | ((with_reducible refine (L.out _).mono ?_); rintro e w' ⟨rfl, rfl⟩) | ((with_reducible refine (I.out _ _).mono ?_); rintro e w' ⟨rfl, rfl⟩))
  go_end0
  exact ⟨rfl, rfl⟩

theorem sortVia : SortVia := by
  intro B v xs w hl ho
  rcases ho.2.2 with ⟨rfl, h0⟩ | ⟨g, cap, cur, rfl, hB, hg, hn, hm, hs, ht⟩
  · have hx : xs = [] := by simpa using h0
    subst hx
    exact (sort_none _ w).mono fun e w' ⟨he, hw⟩ => ⟨he, [], List.Perm.nil, .nil, by rw [← hw]; exact ho, by rw [← hw]; exact ⟨rfl, rfl, rfl, Nat.le_refl _, fun _ _ _ => rfl⟩⟩
  · rw [List.length_map] at ho ⊢
    obtain ⟨hH, hlt, _⟩ := holds_own (enc := viaCells) (fun _ => rfl) (d := xs.toArray) ho
    have e1 : xs.toArray.size = xs.length := by simp
    have hcon := AnyQ.slices_SortFunc Try.sortVia 3 Try.isAgg76 Try.sizeOf76 viaCells (fun _ => rfl) viaCells_one cmpV swoV 63 #[] g 0 cap xs.toArray w enter_via (lays_via g 0 _ w) hH hlt (by rw [e1]; omega)
    change Calls Try.prog 62 _ _ _ at hcon
    rw [e1] at hcon
    refine Calls.mono hcon ?_
    rintro e w' ⟨rfl, d', n, os, hp, hs2, rfl⟩
    have hp2 : PermIn 0 xs.toArray.size xs.toArray d' := by rw [e1]; exact hp
    refine ⟨rfl, d'.toList, perm_of_in hp2, sorted_of_in (by rw [hp2.1, e1]) hs2, ?_, grown_sortK⟩
    exact own_sortK (enc := viaCells) (k := 3) (fun _ => rfl) (d := xs.toArray) ho hp2.1 n os
end Go.Proofs.Ytllemhknmleklaa
