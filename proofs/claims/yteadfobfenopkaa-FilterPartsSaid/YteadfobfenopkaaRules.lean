
/- The laws' maker of rules. -/
import Derived.Test.YteadfobfenopkaaRules0
set_option linter.unusedVariables false
namespace Go.Proofs.Yteadfobfenopkaa
open Go.RowKit Go.Sort Wc Wk

/-- A rule as plain data (of the family of 32 bits). -/
structure RuleD where
  yes : Bool
  n : Nat
  k : Nat
  least : Nat
  most : Nat
def RuleD.ok (r : RuleD) : Prop := VP false r.n r.k ∧ r.k ≤ r.least ∧ r.least ≤ r.most ∧ r.most ≤ 32
def ruleCells (r : RuleD) : List Value := [.bool r.yes, .bool false, .int .u64 (hiOf false r.n), .int .u64 (loOf r.n), .int .i64 r.k, .int .i64 r.least, .int .i64 r.most]
theorem ruleCells_one (r : RuleD) : ∀ u ∈ ruleCells r, u.oneCell' = true := by
  intro u hu
  simp [ruleCells] at hu
  rcases hu with rfl | rfl | rfl | rfl | rfl | rfl | rfl <;> rfl
theorem eiRule : EI Try.prog 58 113 7 56 (.agg #[.bool false, .bool false, .int .u64 0, .int .u64 0, .int .i64 0, .int .i64 0, .int .i64 0]) := ⟨by kernel_rfl, by kernel_rfl, rfl, by decide⟩

theorem vp_zero : VP false 0 0 := ⟨by unfold Fits wd; decide, by decide, by decide⟩

/-- What Rules hands back: rules that may be, in a slice of its own. -/
def RetRules (w : World) (n : Nat) (r : Ending) (w' : World) : Prop := ∃ (v : Value) (rs : List RuleD), r = .returned v ∧ Own w' w.heap.size 113 7 v (rs.map ruleCells) ∧ (∀ q ∈ rs, RuleD.ok q) ∧ rs.length ≤ n ∧ Below w.heap.size w w'


set_option maxRecDepth 100000 in
set_option maxHeartbeats 4000000 in
theorem rules_any (a : Option Addr) (len cap : Nat) (zs : List Int) (n : Nat) (w : World) (h : IsRow .i64 w a len cap zs) (hn : n ≤ 1000) :
    Calls Try.prog 27 #[.slice a len cap, .int .i64 n] w (RetRules w n) := by
  obtain ⟨hlm, hlz⟩ := h.len_le
  go_enter Try.func27, Try.ntmps27
  go_wp2_with fail
  go_loopw [5, 6] (fun v i wr => ∃ k : Nat, k ≤ len ∧ k ≤ n ∧ i = .int .i64 k ∧ (∃ rs : List RuleD, rs.length = k ∧ (∀ q ∈ rs, RuleD.ok q) ∧ Own wr w.heap.size 113 7 v (rs.map ruleCells)) ∧ Below w.heap.size w wr) (fun _ i _ => len - (intOf i).toNat)
  case atStart => exact ⟨0, Nat.zero_le _, Nat.zero_le _, rfl, ⟨[], rfl, by simp, Own.nil _ _ _ _⟩, Below.refl _ _⟩
  case round =>
    obtain ⟨k, hk, hkn, rfl, ⟨rs, hrk, hrs, hown⟩, hbr⟩ := hrel
    have hzr := hbr.size
    by_cases hlt : k < len
    · by_cases hlt2 : k < n
      · obtain ⟨b, off, rfl, hb, hcs⟩ := h.opened (by omega)
        obtain ⟨hc, x0, x1⟩ := hcs k hlt
        have hcr := (hbr.cell (p := ⟨b, off + k, none⟩) hb).trans hc
        generalize zs.getD k 0 = x at *
        have P0 := Lib.hid (fun w => picked_any (x.tdiv 5000) 4 w (by decide) (by decide))
        have z0 := Int.emod_nonneg (x.tdiv 5000) (show (4 : Int) ≠ 0 by decide)
        obtain ⟨z, hz⟩ := Int.eq_ofNat_of_zero_le z0
        rw [hz] at P0
        have HR := Lib.hid hrs
        have HO := Lib.hid hown
        have HK := Lib.hid hrk
        clear hz z0 hcs hc hrs hown hrk
        have hbw : b < wr.heap.size := by omega
        have hpk := presK_le x
        have hvp := pres_vp x
        have hzc : z = 0 ∨ ((z : Int) == 0) = false := by rw [beq_eq_false_iff_ne]; omega
        have D0 := Lib.hid (fun w => picked_any (x.tdiv 7) 2 w (by decide) (by decide))
        have d00 := Int.emod_nonneg (x.tdiv 7) (show (2 : Int) ≠ 0 by decide)
        obtain ⟨d0, hd0⟩ := Int.eq_ofNat_of_zero_le d00
        rw [hd0] at D0
        clear hd0 d00
        have eq1 : IntKind.i64.wrap (x.tdiv 20000) = x.tdiv 20000 := wrap_tdiv x 20000 ⟨x0, x1⟩
        have eq2 : IntKind.i64.wrap (x.tdiv 70000) = x.tdiv 70000 := wrap_tdiv x 70000 ⟨x0, x1⟩
        have eq3 : IntKind.i64.wrap (x.tdiv 7) = x.tdiv 7 := wrap_tdiv x 7 ⟨x0, x1⟩
        have E1 := Lib.hid eq1
        have E2 := Lib.hid eq2
        have E3 := Lib.hid eq3
        clear eq1 eq2 eq3
        rcases hzc with rfl | hz1
        · have D1 := Lib.hid (fun w => picked_any (x.tdiv 20000) 33 w (by omega) (by omega))
          have a0 := Int.emod_nonneg (x.tdiv 20000) (show 33 ≠ 0 by omega)
          have a1 := Int.emod_lt_of_pos (x.tdiv 20000) (show 0 < 33 by omega)
          obtain ⟨d1, hd1⟩ := Int.eq_ofNat_of_zero_le a0
          rw [hd1] at D1 a1
          clear hd1 a0
          have D2 := Lib.hid (fun w => picked_any (x.tdiv 70000) (33 - (d1 : Int)) w (by omega) (by omega))
          have a0 := Int.emod_nonneg (x.tdiv 70000) (show 33 - (d1 : Int) ≠ 0 by omega)
          have a2 := Int.emod_lt_of_pos (x.tdiv 70000) (show 0 < 33 - (d1 : Int) by omega)
          obtain ⟨d2, hd2⟩ := Int.eq_ofNat_of_zero_le a0
          rw [hd2] at D2 a2
          clear hd2 a0
          go_wp2_with fail
          refine (pres_one wr.heap.size x _ (by simp) ⟨x0, x1⟩).mono ?_
          rintro e w1 ⟨g, gc, rfl, g1, g2, g3, g4, g5, g6, hb1⟩
          obtain ⟨hc1, hf1⟩ := bcell hb1
          have hzw := hb1.size
          rw [World.size_alloc] at hzw
          have : b < w1.heap.size := by omega
          have : b < w1.heap.size + 1 := by omega
          go_wp2_with (first | ((with_reducible refine (P0.out _).mono ?_); rintro e w' ⟨rfl, rfl⟩))
          have ew0 := E1.out
          have ew1 : IntKind.i64.wrap 33 = 33 := IntWalk.i64_in _ (by omega)
          have ew2 : IntKind.i64.wrap (d1 : Int) = (d1 : Int) := IntWalk.i64_in _ (by omega)
          refine wp_region_qb (by kernel_rfl) (by kernel_rfl) (fun kq => ?_)
          repeat (quiet_step (first | (with_reducible exact Calls.regrown_same (D1.out _))))
          clear kq ew0 ew1
          refine wpQuiet_nil ?_; intro w2 hb2; (repeat (with_reducible (replace hb2 := Below.undrew hb2))); obtain ⟨hc2, hf2⟩ := bcell hb2; have hz2 := hb2.size; (repeat (first | rw [World.size_alloc] at hz2 | rw [World.size_drew] at hz2 | rw [World.size_setCell] at hz2)); (try have : b < w2.heap.size := by omega); (try have : b < w2.heap.size + 1 := by omega); (try have : b < w2.heap.size + 1 + 1 := by omega); (try have : b < w2.heap.size + 1 + 1 + 1 := by omega); (try have : wr.heap.size < w2.heap.size := by omega); (try have : wr.heap.size < w2.heap.size + 1 := by omega); (try have : wr.heap.size < w2.heap.size + 1 + 1 := by omega); (try have : wr.heap.size < w2.heap.size + 1 + 1 + 1 := by omega); (try have : w1.heap.size < w2.heap.size := by omega); (try have : w1.heap.size < w2.heap.size + 1 := by omega); (try have : w1.heap.size < w2.heap.size + 1 + 1 := by omega); (try have : w1.heap.size < w2.heap.size + 1 + 1 + 1 := by omega); (try have : w1.heap.size + 1 < w2.heap.size := by omega); (try have : w1.heap.size + 1 < w2.heap.size + 1 := by omega); (try have : w1.heap.size + 1 < w2.heap.size + 1 + 1 := by omega); (try have : w1.heap.size + 1 < w2.heap.size + 1 + 1 + 1 := by omega)
          go_wp2_with fail
          have ew3 := E2.out
          have ew4 := E3.out
          have ew5 : IntKind.i64.wrap (33 - (d1 : Int)) = 33 - (d1 : Int) := IntWalk.i64_in _ (by omega)
          have ew6 : IntKind.i64.wrap ((d1 : Int) + d2) = (d1 : Int) + d2 := IntWalk.i64_in _ (by omega)
          go_region_held3 (fun w' => w'.cell? ⟨w1.heap.size, 0, none⟩ = some (.bool false) ∧ w'.cell? ⟨w1.heap.size, 1, none⟩ = some (.int .u64 0) ∧ w'.cell? ⟨w1.heap.size, 2, none⟩ = some (.int .u64 0) ∧ w'.cell? ⟨w1.heap.size, 3, none⟩ = some (.int .i64 0) ∧ w'.cell? ⟨b, off + k, none⟩ = some (.int .i64 x)) (first | (go_simp; done) | (simp [*, go_sem, World.cell?_alloc_past]; done) | (simp [*, go_sem, World.cell?_alloc_past, World.cell?_setCell_far]; done))
            (first | ((with_reducible refine (D0.out _).mono ?_); rintro e w' ⟨rfl, rfl⟩) | ((with_reducible refine (D2.out _).mono ?_); rintro e w' ⟨rfl, rfl⟩))
          all_goals clear ew2 ew3 ew4 ew5 ew6
          all_goals go_wp2_with (at_builtin; refine wpList_append_rows rfl _ _ 58 113 7 56 _ rfl eiRule w.heap.size _ (rs.map ruleCells) rfl (by ((repeat (first | (with_reducible refine Wk.Own.alloc ?_ _) | (with_reducible refine Wk.Own.dr ?_))); refine Wk.Own.below ?_ hb2; (repeat (first | (with_reducible refine Wk.Own.alloc ?_ _) | (with_reducible refine Wk.Own.dr ?_))); refine Wk.Own.below ?_ hb1; (repeat (first | (with_reducible refine Wk.Own.alloc ?_ _) | (with_reducible refine Wk.Own.dr ?_))); exact HO.out)) _ _ rfl (sl_new (by simp) rfl) (by simp [Value.oneCell']) (by have := HK.out; simp; omega) (by decide) (by simp; omega) (by simp) ?_; intro v' w5 hown' hgr hb5)
          all_goals
            have hown2 : Own w5 w.heap.size 113 7 v' ((rs ++ [(⟨((d0 : Int) == 0), 0, 0, (d1 : Int).toNat, ((d1 : Int) + d2).toNat⟩ : RuleD)]).map ruleCells) := by
              have e1 : (((d1 : Int).toNat : Nat) : Int) = (d1 : Int) := by omega
              have e2 : ((((d1 : Int) + d2).toNat : Nat) : Int) = (d1 : Int) + d2 := by omega
              rw [List.map_append, List.map_singleton]
              unfold ruleCells
              simp only [e1, e2]
              exact hown'
            have hb6 : Below w.heap.size w w5 := by
              refine Below.trans ?_ hb5
              · (repeat' (first | (with_reducible exact Below.refl _ _) | (with_reducible assumption) | (with_reducible refine Below.al ?_ _) | (with_reducible refine Below.dr ?_) | (with_reducible refine Below.step ?_ (by assumption)) | (with_reducible refine Below.set ?_ ?_ _) | omega | (dsimp only; omega) | (simp; done) | (simp; omega)))
            have hok : ∀ q ∈ rs ++ [(⟨((d0 : Int) == 0), 0, 0, (d1 : Int).toNat, ((d1 : Int) + d2).toNat⟩ : RuleD)], RuleD.ok q := by
              intro q hq
              rcases List.mem_append.1 hq with hq | hq
              · exact HR.out q hq
              · simp only [List.mem_singleton] at hq
                subst hq
                refine ⟨?_, ?_, ?_, ?_⟩
                · first | exact hvp | exact vp_zero
                · show 0 ≤ (d1 : Int).toNat; omega
                · show (d1 : Int).toNat ≤ ((d1 : Int) + d2).toNat; omega
                · show ((d1 : Int) + d2).toNat ≤ 32; omega
            have hrk := HK.out
            clear hown' hgr hb5
            go_roundw
            case rel => exact ⟨k + 1, by omega, by omega, by go_num, ⟨_, by rw [List.length_append, hrk]; rfl, hok, hown2⟩, hb6⟩
            case measure => simp [intOf]; omega
        · have D1 := Lib.hid (fun w => picked_any (x.tdiv 20000) (33 - (presK x : Int)) w (by omega) (by omega))
          have a0 := Int.emod_nonneg (x.tdiv 20000) (show (33 - (presK x : Int)) ≠ 0 by omega)
          have a1 := Int.emod_lt_of_pos (x.tdiv 20000) (show 0 < (33 - (presK x : Int)) by omega)
          obtain ⟨d1, hd1⟩ := Int.eq_ofNat_of_zero_le a0
          rw [hd1] at D1 a1
          clear hd1 a0
          have D2 := Lib.hid (fun w => picked_any (x.tdiv 70000) (33 - ((presK x : Int) + d1)) w (by omega) (by omega))
          have a0 := Int.emod_nonneg (x.tdiv 70000) (show 33 - ((presK x : Int) + d1) ≠ 0 by omega)
          have a2 := Int.emod_lt_of_pos (x.tdiv 70000) (show 0 < 33 - ((presK x : Int) + d1) by omega)
          obtain ⟨d2, hd2⟩ := Int.eq_ofNat_of_zero_le a0
          rw [hd2] at D2 a2
          clear hd2 a0
          go_wp2_with fail
          refine (pres_one wr.heap.size x _ (by simp) ⟨x0, x1⟩).mono ?_
          rintro e w1 ⟨g, gc, rfl, g1, g2, g3, g4, g5, g6, hb1⟩
          obtain ⟨hc1, hf1⟩ := bcell hb1
          have hzw := hb1.size
          rw [World.size_alloc] at hzw
          have : b < w1.heap.size := by omega
          have : b < w1.heap.size + 1 := by omega
          go_wp2_with (first | ((with_reducible refine (P0.out _).mono ?_); rintro e w' ⟨rfl, rfl⟩))
          have ew0 := E1.out
          have ew1 : IntKind.i64.wrap (33 - (presK x : Int)) = (33 - (presK x : Int)) := IntWalk.i64_in _ (by omega)
          have ew2 : IntKind.i64.wrap ((presK x : Int) + d1) = ((presK x : Int) + d1) := IntWalk.i64_in _ (by omega)
          refine wp_region_qb (by kernel_rfl) (by kernel_rfl) (fun kq => ?_)
          repeat (quiet_step (first | (with_reducible exact Calls.regrown_same (D1.out _))))
          clear kq ew0 ew1
          refine wpQuiet_nil ?_; intro w2 hb2; (repeat (with_reducible (replace hb2 := Below.undrew hb2))); obtain ⟨hc2, hf2⟩ := bcell hb2; have hz2 := hb2.size; (repeat (first | rw [World.size_alloc] at hz2 | rw [World.size_drew] at hz2 | rw [World.size_setCell] at hz2)); (try have : b < w2.heap.size := by omega); (try have : b < w2.heap.size + 1 := by omega); (try have : b < w2.heap.size + 1 + 1 := by omega); (try have : b < w2.heap.size + 1 + 1 + 1 := by omega); (try have : wr.heap.size < w2.heap.size := by omega); (try have : wr.heap.size < w2.heap.size + 1 := by omega); (try have : wr.heap.size < w2.heap.size + 1 + 1 := by omega); (try have : wr.heap.size < w2.heap.size + 1 + 1 + 1 := by omega); (try have : w1.heap.size < w2.heap.size := by omega); (try have : w1.heap.size < w2.heap.size + 1 := by omega); (try have : w1.heap.size < w2.heap.size + 1 + 1 := by omega); (try have : w1.heap.size < w2.heap.size + 1 + 1 + 1 := by omega); (try have : w1.heap.size + 1 < w2.heap.size := by omega); (try have : w1.heap.size + 1 < w2.heap.size + 1 := by omega); (try have : w1.heap.size + 1 < w2.heap.size + 1 + 1 := by omega); (try have : w1.heap.size + 1 < w2.heap.size + 1 + 1 + 1 := by omega)
          go_wp2_with fail
          have ew3 := E2.out
          have ew4 := E3.out
          have ew5 : IntKind.i64.wrap (33 - ((presK x : Int) + d1)) = 33 - ((presK x : Int) + d1) := IntWalk.i64_in _ (by omega)
          have ew6 : IntKind.i64.wrap (((presK x : Int) + d1) + d2) = ((presK x : Int) + d1) + d2 := IntWalk.i64_in _ (by omega)
          go_region_held3 (fun w' => w'.cell? ⟨w1.heap.size, 0, none⟩ = some (.bool false) ∧ w'.cell? ⟨w1.heap.size, 1, none⟩ = some (.int .u64 (hiOf false (presN x))) ∧ w'.cell? ⟨w1.heap.size, 2, none⟩ = some (.int .u64 (loOf (presN x))) ∧ w'.cell? ⟨w1.heap.size, 3, none⟩ = some (.int .i64 ((presK x : Nat) : Int)) ∧ w'.cell? ⟨b, off + k, none⟩ = some (.int .i64 x)) (first | (go_simp; done) | (simp [*, go_sem, World.cell?_alloc_past]; done) | (simp [*, go_sem, World.cell?_alloc_past, World.cell?_setCell_far]; done))
            (first | ((with_reducible refine (D0.out _).mono ?_); rintro e w' ⟨rfl, rfl⟩) | ((with_reducible refine (D2.out _).mono ?_); rintro e w' ⟨rfl, rfl⟩))
          all_goals clear ew2 ew3 ew4 ew5 ew6
          all_goals go_wp2_with (at_builtin; refine wpList_append_rows rfl _ _ 58 113 7 56 _ rfl eiRule w.heap.size _ (rs.map ruleCells) rfl (by ((repeat (first | (with_reducible refine Wk.Own.alloc ?_ _) | (with_reducible refine Wk.Own.dr ?_))); refine Wk.Own.below ?_ hb2; (repeat (first | (with_reducible refine Wk.Own.alloc ?_ _) | (with_reducible refine Wk.Own.dr ?_))); refine Wk.Own.below ?_ hb1; (repeat (first | (with_reducible refine Wk.Own.alloc ?_ _) | (with_reducible refine Wk.Own.dr ?_))); exact HO.out)) _ _ rfl (sl_new (by simp) rfl) (by simp [Value.oneCell']) (by have := HK.out; simp; omega) (by decide) (by simp; omega) (by simp) ?_; intro v' w5 hown' hgr hb5)
          all_goals
            have hown2 : Own w5 w.heap.size 113 7 v' ((rs ++ [(⟨((d0 : Int) == 0), (presN x), (presK x), ((presK x : Int) + d1).toNat, (((presK x : Int) + d1) + d2).toNat⟩ : RuleD)]).map ruleCells) := by
              have e1 : ((((presK x : Int) + d1).toNat : Nat) : Int) = ((presK x : Int) + d1) := by omega
              have e2 : (((((presK x : Int) + d1) + d2).toNat : Nat) : Int) = ((presK x : Int) + d1) + d2 := by omega
              rw [List.map_append, List.map_singleton]
              unfold ruleCells
              simp only [e1, e2]
              exact hown'
            have hb6 : Below w.heap.size w w5 := by
              refine Below.trans ?_ hb5
              · (repeat' (first | (with_reducible exact Below.refl _ _) | (with_reducible assumption) | (with_reducible refine Below.al ?_ _) | (with_reducible refine Below.dr ?_) | (with_reducible refine Below.step ?_ (by assumption)) | (with_reducible refine Below.set ?_ ?_ _) | omega | (dsimp only; omega) | (simp; done) | (simp; omega)))
            have hok : ∀ q ∈ rs ++ [(⟨((d0 : Int) == 0), (presN x), (presK x), ((presK x : Int) + d1).toNat, (((presK x : Int) + d1) + d2).toNat⟩ : RuleD)], RuleD.ok q := by
              intro q hq
              rcases List.mem_append.1 hq with hq | hq
              · exact HR.out q hq
              · simp only [List.mem_singleton] at hq
                subst hq
                refine ⟨?_, ?_, ?_, ?_⟩
                · first | exact hvp | exact vp_zero
                · show (presK x) ≤ ((presK x : Int) + d1).toNat; omega
                · show ((presK x : Int) + d1).toNat ≤ (((presK x : Int) + d1) + d2).toNat; omega
                · show (((presK x : Int) + d1) + d2).toNat ≤ 32; omega
            have hrk := HK.out
            clear hown' hgr hb5
            go_roundw
            case rel => exact ⟨k + 1, by omega, by omega, by go_num, ⟨_, by rw [List.length_append, hrk]; rfl, hok, hown2⟩, hb6⟩
            case measure => simp [intOf]; omega
      · have hd : decide ((k : Int) < n) = false := by simp; omega
        go_wp2
        go_returns
        exact ⟨_, rs, rfl, hown, hrs, by omega, hbr⟩
    · have hd : decide ((k : Int) < len) = false := by simp; omega
      go_wp2
      go_returns
      exact ⟨_, rs, rfl, hown, hrs, by omega, hbr⟩
end Go.Proofs.Yteadfobfenopkaa
