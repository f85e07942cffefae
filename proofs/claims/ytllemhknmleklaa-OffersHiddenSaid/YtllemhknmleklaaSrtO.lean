
/- slices.SortFunc at offers, by cidr.Order of their prefixes. -/
import Derived.Test.YtllemhknmleklaaSrtK
import Derived.Test.YtllemhknmleklaaSrtL
import Derived.Test.YtllemhknmleklaaOf4
import Derived.Shelf.SlSortCmp.WholeK
set_option linter.unusedVariables false
set_option linter.unusedSimpArgs false
namespace Go.Proofs.Ytllemhknmleklaa
open Go.RowKit Go.Sort Wc Wk

/-- An offer that is in order. -/
abbrev OkOf := { o : OfD // o.ok }
theorem zeroOf_ok : OfD.ok ⟨0, 0, 1, 0, 0, 1⟩ := by
  refine ⟨⟨by unfold Fits wd; decide, by decide, by decide⟩, by decide, by decide, by decide, by decide, by decide, by decide⟩
instance : Inhabited OkOf := ⟨⟨⟨0, 0, 1, 0, 0, 1⟩, zeroOf_ok⟩⟩
def encO (x : OkOf) : List Value := ofCells x.1
def cmpO (x y : OkOf) : Int := ordI x.1.n x.1.k y.1.n y.1.k
theorem ltO (x y : OkOf) : ltOf cmpO x y = decide (x.1.n < y.1.n ∨ x.1.n = y.1.n ∧ x.1.k < y.1.k) := by
  unfold ltOf cmpO ordI
  by_cases h1 : x.1.n < y.1.n
  · simp [h1]
  · by_cases h2 : y.1.n < x.1.n
    · simp [h1, h2]; omega
    · have e : x.1.n = y.1.n := by omega
      simp [e]; omega
theorem swoO : SWO (ltOf cmpO) where
  irrefl x := by rw [ltO]; simp
  trans x y z h1 h2 := by rw [ltO] at *; simp at *; omega
  ntrans x y z h1 h2 := by rw [ltO] at *; simp at *; omega


set_option maxHeartbeats 1000000 in
theorem less_of (x y : OfD) (hx : x.ok) (hy : y.ok) (W : World) : Calls Try.prog 114 #[.agg #[.bool false, .int .u64 (hiOf false x.n), .int .u64 (loOf x.n), .int .i64 x.k, .int .i64 x.src, .int .i64 x.peer, .int .i64 x.met, .int .i64 x.hop], .agg #[.bool false, .int .u64 (hiOf false y.n), .int .u64 (loOf y.n), .int .i64 y.k, .int .i64 y.src, .int .i64 y.peer, .int .i64 y.met, .int .i64 y.hop]] W fun e w' => e = .returned (.int .i64 (ordI x.n x.k y.n y.k)) ∧ Grw W w' := by
  have O := Lib.hid (fun w => orderG x.n x.k y.n y.k w hx.1 hy.1)
  clear hx hy
  generalize ordI x.n x.k y.n y.k = r at *
  go_enter Try.func114, Try.ntmps114
  go_wp2_with ((with_reducible refine (O.out _).mono ?_); rintro e w1 ⟨rfl, g1⟩)
  go_ret
  exact ⟨rfl, (((Grw.refl W).alloc _).alloc _).trans g1⟩

theorem lift_ok : ∀ xs : List OfD, (∀ x ∈ xs, x.ok) → ∃ zs : List OkOf, zs.map (·.1) = xs
  | [], _ => ⟨[], rfl⟩
  | x :: xs, h => by
    obtain ⟨zs, hz⟩ := lift_ok xs (fun y hy => h y (List.mem_cons_of_mem _ hy))
    exact ⟨⟨x, h x (by simp)⟩ :: zs, by rw [List.map_cons, hz]⟩
theorem permO {d d' : Array OkOf} (h : PermIn 0 d.size d d') : d'.toList.Perm d.toList := by
  obtain ⟨h1, _, h3⟩ := h
  have e1 : d'.extract 0 d.size = d' := by rw [← h1]; simp
  have e2 : d.extract 0 d.size = d := by simp
  rwa [e1, e2] at h3
theorem sortedO {d' : Array OkOf} {n : Nat} (hn : d'.size = n) (h : SortedIn (ltOf cmpO) 0 n d') : d'.toList.Pairwise (fun a b => ¬ (b.1.n < a.1.n ∨ b.1.n = a.1.n ∧ b.1.k < a.1.k)) := by
  rw [List.pairwise_iff_getElem]
  intro i j hi hj hij
  have hi' : i < d'.size := by simpa using hi
  have hj' : j < d'.size := by simpa using hj
  have := h i j (Nat.zero_le _) hij (by omega)
  rw [ltO, getElem!_pos d' i hi', getElem!_pos d' j hj', decide_eq_false_iff_not] at this
  simpa using this
theorem enterO : ∀ args w, (callFunc 114 args).run Try.prog w = .ok (.enter 114 args) w := enters_of Try.func114 (by kernel_rfl) rfl
theorem laysO (blk off size : Nat) (w : World) : CmpLays Try.prog 114 #[] encO 8 cmpO blk off size w := fun _ _ _ _ x y => less_of x.1 y.1 x.2 y.2 _
set_option maxHeartbeats 1000000 in
theorem insO_none (fv : Value) (w : World) : Calls Try.prog 167 #[.slice none 0 0, .int .i64 0, .int .i64 0, fv] w fun e w' => e = .returned (.tuple #[]) ∧ w = w' := by
  go_enter Try.func167, Try.ntmps167
  go_wp2
  refine wp_loop_rounds 1 ?_
  rw [rounds_succ]
  go_wp2
  go_end0
  exact ⟨rfl, rfl⟩
set_option maxHeartbeats 1000000 in
theorem pdqO_none (fv : Value) (lim : Int) (w : World) : Calls Try.prog 150 #[.slice none 0 0, .int .i64 0, .int .i64 0, .int .i64 lim, fv] w fun e w' => e = .returned (.tuple #[]) ∧ w = w' := by
  have I := Lib.hid (fun w => insO_none fv w)
  go_enter Try.func150, Try.ntmps150
  go_wp2
  refine wp_loop_rounds 1 ?_
  rw [rounds_succ]
  go_wp2_with ((with_reducible refine (I.out _).mono ?_); rintro e w' ⟨rfl, rfl⟩)
  (try simp only [Exit.inBlock, Exit.then]); refine bodyPost_ret (results_none rfl _ _ _) rfl ?_
  exact ⟨rfl, rfl⟩
set_option maxHeartbeats 1000000 in
theorem sortO_none (fv : Value) (w : World) : Calls Try.prog 113 #[.slice none 0 0, fv] w fun e w' => e = .returned (.tuple #[]) ∧ w = w' := by
  have I := Lib.hid (fun lim w => pdqO_none fv lim w)
  have L := Lib.hid (fun w => Try.bits_Len 0 w (by decide) (by decide))
  go_enter Try.func113, Try.ntmps113
  go_wp2_with (first | ((with_reducible refine (L.out _).mono ?_); rintro e w' ⟨rfl, rfl⟩) | ((with_reducible refine (I.out _ _).mono ?_); rintro e w' ⟨rfl, rfl⟩))
  go_end0
  exact ⟨rfl, rfl⟩


theorem sort_of (B : Nat) (v : Value) (xs : List OfD) (w : World) (hl : xs.length ≤ 1000) (hok : ∀ x ∈ xs, x.ok) (ho : Own w B 84 8 v (xs.map ofCells)) :
    Calls Try.prog 113 #[v, .func (.func 114) #[] #[]] w fun e w' => e = .returned (.tuple #[]) ∧ ∃ ys : List OfD, ys.Perm xs ∧ ys.Pairwise (fun a b => ¬ (b.n < a.n ∨ b.n = a.n ∧ b.k < a.k)) ∧ Own w' B 84 8 v (ys.map ofCells) ∧ w.grownBy w' v.ownBlock := by
  obtain ⟨zs, rfl⟩ := lift_ok xs hok
  rw [List.map_map] at ho
  rw [List.length_map] at hl
  replace ho : Own w B 84 8 v (zs.map encO) := ho
  rcases ho.2.2 with ⟨rfl, h0⟩ | ⟨g, cap, cur, rfl, hB, hg, hn, hm, hs, ht⟩
  · have hx : zs = [] := by simpa using h0
    subst hx
    exact (sortO_none _ w).mono fun e w' ⟨he, hw⟩ => ⟨he, [], List.Perm.nil, .nil, by rw [← hw]; exact ho, by rw [← hw]; exact ⟨rfl, rfl, rfl, Nat.le_refl _, fun _ _ _ => rfl⟩⟩
  · rw [List.length_map] at ho ⊢
    obtain ⟨hH, hlt, _⟩ := holds_own (enc := encO) (k := 8) (fun _ => rfl) (d := zs.toArray) ho
    have e1 : zs.toArray.size = zs.length := by simp
    have hcon := AnyQ.slices_SortFunc Try.sortOffer 8 Try.isAgg84 Try.sizeOf84 encO (fun _ => rfl) (fun x => ofCells_one x.1) cmpO swoO 114 #[] g 0 cap zs.toArray w enterO (laysO g 0 _ w) hH hlt (by rw [e1]; omega)
    change Calls Try.prog 113 _ _ _ at hcon
    rw [e1] at hcon
    refine Calls.mono hcon ?_
    rintro e w' ⟨rfl, d', n, os, hp, hs2, rfl⟩
    have hp2 : PermIn 0 zs.toArray.size zs.toArray d' := by rw [e1]; exact hp
    refine ⟨rfl, d'.toList.map (·.1), (permO hp2).map _, ?_, ?_, grown_sortK⟩
    · exact List.pairwise_map.2 (sortedO (by rw [hp2.1, e1]) hs2)
    · rw [List.map_map]
      exact own_sortK (enc := encO) (k := 8) (fun _ => rfl) (d := zs.toArray) ho hp2.1 n os
end Go.Proofs.Ytllemhknmleklaa
