
/- TableOrder: the walk. -/
import Derived.Test.YticfcigkldkhmaaOrdP
set_option linter.unusedVariables false
set_option linter.unusedSimpArgs false
namespace Go.Proofs.Yticfcigkldkhmaa
open Go Go.RowKit Go.Sort Wc Wk


set_option maxRecDepth 100000 in
set_option maxHeartbeats 2000000 in
theorem tableOrder_walk (a0 : Option Addr) (len0 cap0 : Nat) (z0 : List RawJ) (tn : Int) (w : World) (h0 : IsJobs w a0 len0 cap0 z0) (hk : -9223372036854775808 ≤ tn ∧ tn ≤ 9223372036854775807) :
    Calls Try.prog 11 #[.slice a0 len0 cap0, .int .i64 tn] w fun e w' => e = .returned (.bool true) ∧ Below w.heap.size w w' := by
  have H0 := Lib.hid h0
  clear h0
  go_enter Try.func11, Try.ntmps11
  go_wp2_with fail
  refine (acts_any a0 len0 cap0 z0 60 w H0.out (by decide)).mono ?_
  rintro e w1 ⟨v1, rfl, HO1', hb1⟩
  have hz1 := hb1.size
  have HFT := Lib.hid (fun x (hx : x ∈ actsOf z0 60) => actsOf_fit x hx)
  have hn : (actsOf z0 60).length ≤ 60 := actsOf_len z0 60
  generalize actsOf z0 60 = al at *
  obtain ⟨va, vc, rfl⟩ := HO1'.shape
  rw [List.length_map] at HO1' ⊢
  have HS1 := Lib.hid HO1'.sl
  have HW1 := Lib.hid hb1
  have hlw1 := HO1'.sl.lens.2.1
  have hlw2 := HO1'.sl.lens.2.2
  clear HO1' hb1
  go_wp2_with fail
  refine (routesOf_any va vc _ al w1 rfl HS1.out (by omega) HFT.out).mono ?_
  rintro e w3 ⟨v3, rfl, HO3, hb3⟩
  have HT := Lib.hid (tend_ok TabOk.nil HFT.out)
  generalize tend [] al = L at *
  obtain ⟨ra, rc, rfl⟩ := HO3.shape
  rw [List.length_map] at HO3 ⊢
  have HR := Lib.hid HO3.sl
  have hr1 := HO3.sl.lens.2.1
  have hr2 := HO3.sl.lens.2.2
  have HW3 := Lib.hid (HW1.out.trans (hb3.mono hz1))
  have h60 : L.length ≤ 60 := HT.out.len
  have HRO := Lib.hid (RtOk.of_tab HT.out)
  clear HO3 hb3 HS1 HW1
  obtain ⟨N, hN⟩ : ∃ N, N = L.length := ⟨_, rfl⟩
  rw [← hN] at HR h60 hr1 ⊢
  have HN := Lib.hid hN
  clear hN
  have PK := Lib.hid (fun w (h : 1 ≤ (N : Int)) => picked_any tn N w h (by omega))
  go_wp2_with fail
  go_loopw [7, 8] (fun v i wr => ∃ m : Nat, m ≤ N ∧ i = .int .i64 m ∧ Hid (Sl wr 9 v ((around L (tn % N).toNat m).map (fun x => actCells (putAct x)))) ∧ (v = .slice none 0 0 ∨ ∃ b k c, v = .slice (some ⟨b, 0, none⟩) k c) ∧ Hid (Below w3.heap.size w3 wr)) (fun _ i _ => N - (intOf i).toNat)
  case atStart => exact ⟨0, Nat.zero_le _, rfl, Sl.empty _ _ _ _ (by decide), .inl rfl, Below.refl _ _⟩
  case round =>
    obtain ⟨m, hm, rfl, HV, hsh, HB⟩ := hrel
    have hzr := HB.out.size
    by_cases hlt : m < N
    · have t0 := Int.emod_nonneg tn (show (N : Int) ≠ 0 by omega)
      have t1 := Int.emod_lt_of_pos tn (show (0 : Int) < N by omega)
      obtain ⟨t, ht⟩ := Int.eq_ofNat_of_zero_le t0
      have PK1 := Lib.hid (fun w => PK.out w (by omega))
      rw [ht] at PK1 t1
      have htn : (tn % (N : Int)).toNat = t := by rw [ht]; rfl
      rw [htn] at HV
      have HTN := Lib.hid htn
      clear htn t0 ht
      have hj : (m + t) % N < N := Nat.mod_lt _ (by omega)
      have ej : (((m + t : Nat) : Int)) % (N : Int) = (((m + t) % N : Nat) : Int) := by omega
      have hj0 : 0 ≤ ((m : Int) + (t : Int)) % (N : Int) := Int.emod_nonneg _ (by omega)
      have hj1 : ((m : Int) + (t : Int)) % (N : Int) < (N : Int) := Int.emod_lt_of_pos _ (by omega)
      obtain ⟨x, hx⟩ : ∃ x, L[(m + t) % N]? = some x := ⟨_, List.getElem?_eq_getElem (by rw [← HN.out]; exact hj)⟩
      have HAR : Hid (around L t (m + 1) = x :: around L t m) := Lib.hid (by rw [around_succ, ← HN.out, List.getD_eq_getElem?_getD, hx]; rfl)
      obtain ⟨b, off, rfl, hb, d0, d1, d2, d3, d4⟩ := Sl.route HR.out HB.out hx
      obtain ⟨va2, vk2, vc2, hv2⟩ : ∃ a k c, u7 = .slice a k c := by
        rcases hsh with h | ⟨b, k, c, h⟩
        · exact ⟨_, _, _, h⟩
        · exact ⟨_, _, _, h⟩
      subst hv2
      have HLA := Lib.hid (around_len L t m)
      clear hx hsh
      generalize around L t m = R at *
      go_wp2_with (first | ((with_reducible refine (PK1.out _).mono ?_); rintro e w' ⟨rfl, rfl⟩) | (at_builtin; refine stop_at ?_; intro G hG))
      rw [← hG.out]; clear hG G
      refine wpList_append_any rfl _ _ 39 35 9 72 _ rfl eiAct w3.heap.size _ [actCells (putAct x)] rfl (own_new (c := actCells (putAct x)) (by first | rfl | simp) (by first | omega | (simp; omega)) rfl (by decide)) _ (R.map (fun x => actCells (putAct x))) rfl ((HV.out.below ((Below.refl _ _).alloc (Nat.le_refl _) _)).below ((Below.refl _ _).alloc (by simp) _)) (by intro c hc; obtain ⟨r, _, rfl⟩ := List.mem_map.1 hc; exact actCells_one _) (by have := HLA.out; simp; omega) (by decide) (by first | omega | (simp; omega)) ?_
      intro v5 w5 hown5 hb5
      obtain ⟨a5, c5, h5⟩ : ∃ a c, v5 = .slice a (m + 1) c := by
        obtain ⟨a, c, hsh⟩ := hown5.shape
        exact ⟨a, c, by rw [hsh]; simp [HLA.out, Nat.add_comm]⟩
      subst h5
      have hsl5 : Sl w5 9 (.slice a5 (m + 1) c5) ((around L t (m + 1)).map (fun x => actCells (putAct x))) := by
        rw [HAR.out]; simpa using hown5.sl
      have HV5 := Lib.hid hsl5
      have hbr := HB.out
      have hb55 : Below w3.heap.size w3 w5 := by (repeat' (first | (with_reducible exact Below.refl _ _) | (with_reducible assumption) | (with_reducible refine Below.alloc ?_ ?_ _) | (with_reducible refine Below.drew ?_) | (with_reducible refine Below.stepG ?_ (by assumption) ?_) | (with_reducible refine Below.setCell ?_ ?_ _) | omega | (dsimp only; omega) | (simp; done) | (simp; omega)))
      have HB5 := Lib.hid hb55
      have hsh5 : (Value.slice a5 (m + 1) c5 = .slice none 0 0 ∨ ∃ b k c, Value.slice a5 (m + 1) c5 = .slice (some ⟨b, 0, none⟩) k c) := by
        obtain ⟨g, cap, hv, _⟩ := hown5.at (by simp)
        exact .inr ⟨_, _, _, hv⟩
      have HSH := Lib.hid hsh5
      clear hown5 hb5 hsl5 hb55 hsh5 hbr
      go_wp2_with fail
      go_roundw
      case rel => exact ⟨m + 1, by omega, by go_num, by rw [HTN.out]; exact HV5, HSH.out, HB5⟩
      case measure => simp [intOf]; omega
    · obtain rfl : m = N := by omega
      have HRr := Lib.hid (HR.out.below HB.out)
      have HAA := Lib.hid (around_all HT.out (tn % (m : Int)).toNat)
      have HAK := Lib.hid (around_ok HRO.out (tn % (m : Int)).toNat m (by rw [HN.out]; exact Nat.le_refl _))
      rw [← HN.out] at HAA
      have HAL := Lib.hid (around_len L (tn % (m : Int)).toNat m)
      generalize around L (tn % (m : Int)).toNat m = R at *
      have HRR := Lib.hid (show Sl wr 9 u7 ((R.map putAct).map actCells) by rw [List.map_map]; exact HV.out)
      obtain ⟨a7, c7, h7⟩ : ∃ a c, u7 = .slice a m c := by
        obtain ⟨a, c, hsh, _⟩ := HV.out.shape
        exact ⟨a, c, by rw [hsh, List.length_map, HAL.out]⟩
      subst h7
      clear HV hsh
      go_wp2_with fail
      refine (routesOf_any a7 c7 m (R.map putAct) wr (by rw [List.length_map, HAL.out]) HRR.out (by rw [List.length_map, HAL.out]; omega) (fun x hx => by
        obtain ⟨y, hy, rfl⟩ := List.mem_map.1 hx
        exact putAct_fit HAK.out.1 y hy)).mono ?_
      rintro e w6 ⟨v6, rfl, HO6, hb6⟩
      rw [HAA.out] at HO6
      obtain ⟨a6, c6, rfl⟩ := HO6.shape
      rw [List.length_map] at HO6 ⊢
      have h61 := HO6.sl.lens.2.1
      have h62 := HO6.sl.lens.2.2
      have HS6 := Lib.hid HO6.sl
      have HR6 := Lib.hid (HRr.out.below hb6)
      have HB6 := Lib.hid (HB.out.trans (hb6.mono HB.out.size))
      have hz6 := HB6.out.size
      clear HO6 hb6
      go_wp2_with fail
      refine (same_yes _ _ _ _ _ _ L w6 HN.out rfl HR6.out HS6.out).mono ?_
      rintro e w7 ⟨rfl, hb7⟩
      have HR7 := Lib.hid (HR6.out.below hb7)
      have HB7 := Lib.hid (HB6.out.trans (hb7.mono HB6.out.size))
      clear hb7
      go_wp2_with fail
      refine (check_any _ _ _ L w7 HN.out HR7.out HRO.out).mono ?_
      rintro e w8 ⟨rfl, hb8⟩
      go_wp2
      go_returns
      exact ⟨rfl, HW3.out.trans ((HB7.out.trans (hb8.mono HB7.out.size)).mono HW3.out.size)⟩
end Go.Proofs.Yticfcigkldkhmaa
