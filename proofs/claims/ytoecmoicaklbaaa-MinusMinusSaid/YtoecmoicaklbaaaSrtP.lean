
/- slices.SortFunc, slices.SortedFunc at prefixes by cidr.Order. -/
import Derived.Test.YtoecmoicaklbaaaOrd6
set_option linter.unusedVariables false
set_option linter.unusedSimpArgs false
namespace Go.Proofs.Ytoecmoicaklbaaa
open Go.RowKit Go.Sort Wc Wk

/-- A prefix that may be. -/
abbrev OkPf (six : Bool) := { x : Nat × Nat // VP six x.1 x.2 }
theorem zeroPf_ok (six : Bool) : VP six 0 0 := ⟨Nat.two_pow_pos _, Nat.zero_le _, by unfold cutN; simp⟩
instance (six : Bool) : Inhabited (OkPf six) := ⟨⟨(0, 0), zeroPf_ok six⟩⟩
def encP {six : Bool} (x : OkPf six) : List Value := pfC six x.1
def cmpP {six : Bool} (x y : OkPf six) : Int := ordI x.1.1 x.1.2 y.1.1 y.1.2
theorem ltP {six : Bool} (x y : OkPf six) : ltOf cmpP x y = decide (x.1.1 < y.1.1 ∨ x.1.1 = y.1.1 ∧ x.1.2 < y.1.2) := by
  unfold ltOf cmpP ordI
  by_cases h1 : x.1.1 < y.1.1
  · simp [h1]
  · by_cases h2 : y.1.1 < x.1.1
    · simp [h1, h2]; omega
    · have e : x.1.1 = y.1.1 := by omega
      simp [e]; omega
theorem swoP {six : Bool} : SWO (ltOf (cmpP (six := six))) where
  irrefl x := by rw [ltP]; simp
  trans x y z h1 h2 := by rw [ltP] at *; simp at *; omega
  ntrans x y z h1 h2 := by rw [ltP] at *; simp at *; omega

theorem lift_pf (six : Bool) : ∀ xs : List (Nat × Nat), (∀ x ∈ xs, VP six x.1 x.2) → ∃ zs : List (OkPf six), zs.map (·.1) = xs
  | [], _ => ⟨[], rfl⟩
  | x :: xs, h => by
    obtain ⟨zs, hz⟩ := lift_pf six xs (fun y hy => h y (List.mem_cons_of_mem _ hy))
    exact ⟨⟨x, h x (by simp)⟩ :: zs, by rw [List.map_cons, hz]⟩
theorem permP {six : Bool} {d d' : Array (OkPf six)} (h : PermIn 0 d.size d d') : d'.toList.Perm d.toList := by
  obtain ⟨h1, _, h3⟩ := h
  have e1 : d'.extract 0 d.size = d' := by rw [← h1]; simp
  have e2 : d.extract 0 d.size = d := by simp
  rwa [e1, e2] at h3
theorem sortedP {six : Bool} {d' : Array (OkPf six)} {n : Nat} (hn : d'.size = n) (h : SortedIn (ltOf cmpP) 0 n d') : d'.toList.Pairwise (fun a b => ¬ (b.1.1 < a.1.1 ∨ b.1.1 = a.1.1 ∧ b.1.2 < a.1.2)) := by
  rw [List.pairwise_iff_getElem]
  intro i j hi hj hij
  have hi' : i < d'.size := by simpa using hi
  have hj' : j < d'.size := by simpa using hj
  have := h i j (Nat.zero_le _) hij (by omega)
  rw [ltP, getElem!_pos d' i hi', getElem!_pos d' j hj', decide_eq_false_iff_not] at this
  simpa using this
theorem enterP : ∀ args w, (callFunc 82 args).run Try.prog w = .ok (.enter 82 args) w := enters_of Try.func82 (by kernel_rfl) rfl
theorem laysP (six : Bool) (blk off size : Nat) (w : World) : CmpLays Try.prog 82 #[] (encP (six := six)) 4 cmpP blk off size w := fun _ _ _ _ x y => orderGs six x.1.1 x.1.2 y.1.1 y.1.2 _ x.2 y.2
set_option maxHeartbeats 1000000 in
theorem insP_none (fv : Value) (w : World) : Calls Try.prog 133 #[.slice none 0 0, .int .i64 0, .int .i64 0, fv] w fun e w' => e = .returned (.tuple #[]) ∧ w = w' := by
  go_enter Try.func133, Try.ntmps133
  go_wp2
  refine wp_loop_rounds 1 ?_
  rw [rounds_succ]
  go_wp2
  go_end0
  exact ⟨rfl, rfl⟩
set_option maxHeartbeats 1000000 in
theorem pdqP_none (fv : Value) (lim : Int) (w : World) : Calls Try.prog 128 #[.slice none 0 0, .int .i64 0, .int .i64 0, .int .i64 lim, fv] w fun e w' => e = .returned (.tuple #[]) ∧ w = w' := by
  have I := Lib.hid (fun w => insP_none fv w)
  go_enter Try.func128, Try.ntmps128
  go_wp2
  refine wp_loop_rounds 1 ?_
  rw [rounds_succ]
  go_wp2_with ((with_reducible refine (I.out _).mono ?_); rintro e w' ⟨rfl, rfl⟩)
  (try simp only [Exit.inBlock, Exit.then]); refine bodyPost_ret (results_none rfl _ _ _) rfl ?_
  exact ⟨rfl, rfl⟩
set_option maxHeartbeats 1000000 in
theorem sortP_none (fv : Value) (w : World) : Calls Try.prog 113 #[.slice none 0 0, fv] w fun e w' => e = .returned (.tuple #[]) ∧ w = w' := by
  have I := Lib.hid (fun lim w => pdqP_none fv lim w)
  have L := Lib.hid (fun w => Try.bits_Len 0 w (by decide) (by decide))
  go_enter Try.func113, Try.ntmps113
  go_wp2_with (first | ((with_reducible refine (L.out _).mono ?_); rintro e w' ⟨rfl, rfl⟩) | ((with_reducible refine (I.out _ _).mono ?_); rintro e w' ⟨rfl, rfl⟩))
  go_end0
  exact ⟨rfl, rfl⟩


theorem sort_pf (six : Bool) (B : Nat) (v : Value) (xs : List (Nat × Nat)) (w : World) (hl : xs.length ≤ 1000) (hok : ∀ x ∈ xs, VP six x.1 x.2) (ho : Wk.Own w B 30 4 v (xs.map (pfC six))) :
    Calls Try.prog 113 #[v, .func (.func 82) #[] #[]] w fun e w' => e = .returned (.tuple #[]) ∧ ∃ ys : List (Nat × Nat), ys.Perm xs ∧ ys.Pairwise (fun a b => ¬ (b.1 < a.1 ∨ b.1 = a.1 ∧ b.2 < a.2)) ∧ Wk.Own w' B 30 4 v (ys.map (pfC six)) ∧ w.grownBy w' v.ownBlock := by
  obtain ⟨zs, rfl⟩ := lift_pf six xs hok
  rw [List.map_map] at ho
  rw [List.length_map] at hl
  replace ho : Wk.Own w B 30 4 v (zs.map encP) := ho
  rcases ho.2.2 with ⟨rfl, h0⟩ | ⟨g, cap, cur, rfl, hB, hg, hn, hm, hs, ht⟩
  · have hx : zs = [] := by simpa using h0
    subst hx
    exact (sortP_none _ w).mono fun e w' ⟨he, hw⟩ => ⟨he, [], List.Perm.nil, .nil, by rw [← hw]; exact ho, by rw [← hw]; exact ⟨rfl, rfl, rfl, Nat.le_refl _, fun _ _ _ => rfl⟩⟩
  · rw [List.length_map] at ho ⊢
    obtain ⟨hH, hlt, _⟩ := holds_own (enc := encP) (k := 4) (fun _ => rfl) (d := zs.toArray) ho
    have e1 : zs.toArray.size = zs.length := by simp
    have hcon := AnyQ.slices_SortFunc Try.sortPfx 4 Try.isAgg30 Try.sizeOf30 encP (fun _ => rfl) (fun x => pfC_one six x.1) cmpP swoP 82 #[] g 0 cap zs.toArray w enterP (laysP six g 0 _ w) hH hlt (by rw [e1]; omega)
    change Calls Try.prog 113 _ _ _ at hcon
    rw [e1] at hcon
    refine Calls.mono hcon ?_
    rintro e w' ⟨rfl, d', n, os, hp, hs2, rfl⟩
    have hp2 : PermIn 0 zs.toArray.size zs.toArray d' := by rw [e1]; exact hp
    refine ⟨rfl, d'.toList.map (·.1), (permP hp2).map _, ?_, ?_, grown_sortK⟩
    · exact List.pairwise_map.2 (sortedP (by rw [hp2.1, e1]) hs2)
    · rw [List.map_map]
      exact own_sortK (enc := encP) (k := 4) (fun _ => rfl) (d := zs.toArray) ho hp2.1 n os

/-- Prefixes in order: a list that holds the same. -/
def SortR (xs ys : List (Nat × Nat)) : Prop := ys.Perm xs ∧ ys.Pairwise (fun a b => ¬ (b.1 < a.1 ∨ b.1 = a.1 ∧ b.2 < a.2))

set_option maxHeartbeats 1000000 in
theorem sortedPf_any (six : Bool) (sb : Nat) (a : Option Addr) (len cap : Nat) (xs : List (Nat × Nat)) (w : World) (hs : Sl w 4 (.slice a len cap) (xs.map (pfC six))) (hlen : len = xs.length) (h60 : xs.length ≤ 1000) (hok : ∀ x ∈ xs, VP six x.1 x.2) (hc : w.cell? ⟨sb, 0, none⟩ = some (.slice a len cap)) (hsb : sb < w.heap.size) (ha : ∀ x, a = some x → x.block < w.heap.size) :
    Calls Try.prog 80 #[.func (.func 114) #[] #[.pointer (some ⟨sb, 0, none⟩)], .func (.func 82) #[] #[]] w fun e w' => ∃ v ys, e = .returned v ∧ Wk.Own w' w.heap.size 30 4 v (ys.map (pfC six)) ∧ SortR xs ys ∧ Below w.heap.size w w' := by
  have C := Lib.hid (collectPf_any six sb a len cap xs w hs hlen h60 hc hsb ha)
  have HOK := Lib.hid hok
  clear hs hc ha hok hlen
  go_enter Try.func80, Try.ntmps80
  go_wp2_with fail
  refine C.out.mono ?_
  rintro e w1 ⟨v, rfl, ho, hb1⟩; (repeat (with_reducible (replace hb1 := Below.undrew hb1))); obtain ⟨hc1, hf1⟩ := bcell hb1; have hz1 := hb1.size; (repeat (first | rw [World.size_alloc] at hz1 | rw [World.size_drew] at hz1 | rw [World.size_setCell] at hz1)); (try have : w.heap.size < w1.heap.size := by omega); (try have : w.heap.size < w1.heap.size + 1 := by omega); (try have : w.heap.size < w1.heap.size + 1 + 1 := by omega); (try have : w.heap.size < w1.heap.size + 1 + 1 + 1 := by omega)
  have SF := Lib.hid (sort_pf six w.heap.size v xs w1 h60 HOK.out ho)
  have HO := Lib.hid ho
  clear ho
  go_wp2_with fail
  refine SF.out.mono ?_
  rintro e w2 ⟨rfl, ys, hp, hsr, ho2, hg2⟩
  have HR : Hid (SortR xs ys) := ⟨hp, hsr⟩
  have hB2 : Below w.heap.size w1 w2 := (Below.refl w.heap.size w1).grown hg2 hz1 (fun k hk => (HO.out.lt k hk).1)
  clear hp hsr hg2 SF
  go_wp2
  go_returns
  exact ⟨v, ys, rfl, ho2, HR.out, hb1.trans hB2⟩
end Go.Proofs.Ytoecmoicaklbaaa
