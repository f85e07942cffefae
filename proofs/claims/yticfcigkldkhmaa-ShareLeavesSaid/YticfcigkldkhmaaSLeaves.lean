
/- ShareLeaves: the walk. -/
import Derived.Test.YticfcigkldkhmaaSMovP
import Derived.Deep.DeepCutAuto
set_option linter.unusedVariables false
set_option linter.unusedSimpArgs false
namespace Go.Proofs.Yticfcigkldkhmaa
open Go Go.RowKit Go.Sort Wc Wk

def moved2 (h : Nat) : List Nat → List Nat → Nat
  | x :: xs, z :: zs => (if x = h ∧ ¬ z = h then 1 else 0) + moved2 h xs zs
  | _, _ => 0
theorem moved_both (h : Nat) : ∀ (xs zs : List Nat), xs.length = zs.length → moved2 h xs zs + both2 h xs zs = xs.count h
  | [], [], _ => rfl
  | [], _ :: _, e => by simp at e
  | _ :: _, [], e => by simp at e
  | x :: xs, z :: zs, e => by
    have ih := moved_both h xs zs (by simpa using e)
    show (if x = h ∧ ¬ z = h then 1 else 0) + moved2 h xs zs + ((if x = h ∧ z = h then 1 else 0) + both2 h xs zs) = _
    rw [List.count_cons, ← ih]
    by_cases hx : x = h
    · by_cases hz : z = h
      · simp [hx, hz]; omega
      · simp [hx, hz]; omega
    · simp [hx]
theorem moved_le (h : Nat) : ∀ (xs zs : List Nat), moved2 h xs zs ≤ xs.length
  | [], _ => Nat.zero_le _
  | _ :: _, [] => Nat.zero_le _
  | x :: xs, z :: zs => by
    have := moved_le h xs zs
    show (if x = h ∧ ¬ z = h then 1 else 0) + moved2 h xs zs ≤ xs.length + 1
    split <;> omega
theorem moved_snoc (h : Nat) : ∀ (xs zs : List Nat) (i : Nat), i < xs.length → i < zs.length → moved2 h (xs.take (i + 1)) (zs.take (i + 1)) = moved2 h (xs.take i) (zs.take i) + if xs.getD i 0 = h ∧ ¬ zs.getD i 0 = h then 1 else 0
  | [], _, _, e, _ => absurd e (Nat.not_lt_zero _)
  | _ :: _, [], _, _, e => absurd e (Nat.not_lt_zero _)
  | x :: xs, z :: zs, 0, _, _ => by simp [moved2]
  | x :: xs, z :: zs, i + 1, h1, h2 => by
    have := moved_snoc h xs zs i (by simpa using h1) (by simpa using h2)
    show (if x = h ∧ ¬ z = h then 1 else 0) + moved2 h (xs.take (i + 1)) (zs.take (i + 1)) = (if x = h ∧ ¬ z = h then 1 else 0) + moved2 h (xs.take i) (zs.take i) + if xs.getD i 0 = h ∧ ¬ zs.getD i 0 = h then 1 else 0
    rw [this]; omega
/-- One hop has left. -/
theorem cut_ok {l : List (Nat × Nat)} (hok : ShOk l) {k : Nat} {x : Nat × Nat} (hx : l[k]? = some x) (h2 : 2 ≤ l.length) : ShOk (l.take k ++ l.drop (k + 1)) ∧ x.1 ∉ (l.take k ++ l.drop (k + 1)).map (·.1) := by
  have hk := (List.getElem?_eq_some_iff.1 hx).1
  have hp : (x :: (l.take k ++ l.drop (k + 1))).Perm l := by
    have e : l.take k ++ x :: l.drop (k + 1) = l := by
      have e2 : x :: l.drop (k + 1) = l.drop k := by
        rw [List.drop_eq_getElem_cons hk]
        have := (List.getElem?_eq_some_iff.1 hx).2
        rw [this]
      rw [e2, List.take_append_drop]
    exact (List.perm_middle.symm).trans (by rw [e])
  have hn := (hp.map (·.1)).nodup_iff.2 hok.keys
  rw [List.map_cons, List.nodup_cons] at hn
  have hmem : ∀ y ∈ l.take k ++ l.drop (k + 1), y ∈ l := fun y hy => hp.mem_iff.1 (List.mem_cons_of_mem _ hy)
  have hl := hp.length_eq
  rw [List.length_cons] at hl
  exact ⟨⟨by omega, by have := hok.len; omega, fun y hy => hok.hop y (hmem y hy), fun y hy => hok.wt y (hmem y hy), hn.2⟩, hn.1⟩
theorem with_tail2' {A : Value → World → Prop} {G : Prop} (T : Value → World → Prop) (h : (∀ v w, A v w → T v w) → G) (h2 : ∀ v w, A v w → T v w) : G := h h2


set_option maxHeartbeats 2000000 in
set_option maxRecDepth 100000 in
theorem shareLeaves_walk (a1 : Option Addr) (len1 cap1 : Nat) (zs1 : List Int) (many : Int) (out : Int) (w : World) (h1 : IsRow .i64 w a1 len1 cap1 zs1) (hm : -9223372036854775808 ≤ many ∧ many ≤ 9223372036854775807) (ho : -9223372036854775808 ≤ out ∧ out ≤ 9223372036854775807) :
    Calls Try.prog 14 #[.slice a1 len1 cap1, .int .i64 many, .int .i64 out] w fun e w' => e = .returned (.bool true) ∧ Below w.heap.size w w' := by
  obtain ⟨r, hr⟩ := Int.eq_ofNat_of_zero_le (Int.emod_nonneg many (show (64 : Int) ≠ 0 by decide))
  have hr1 := Int.emod_lt_of_pos many (show (0 : Int) < 64 by decide)
  have P := Lib.hid (fun w => picked_any many 64 w (by decide) (by decide))
  rw [hr] at P hr1
  have SH1 : Hid (Calls Try.prog 31 #[.slice a1 len1 cap1, .int .i64 8] w (RetSh w 8)) := shares_any a1 len1 cap1 zs1 8 w h1 (by omega) (by omega)
  obtain ⟨n, hn⟩ : ∃ n, n = 1 + r := ⟨_, rfl⟩
  have n1 : 1 ≤ n := by omega
  have n2 : n ≤ 64 := by omega
  have e1 : (1 : Int) + (r : Int) = (n : Int) := by omega
  have e2 : wrap64 (n : Int) = (n : Int) := wrap64_in (by omega) (by omega)
  clear hr hr1 hm ho h1 hn
  go_enter Try.func14, Try.ntmps14
  go_wp2_with ((with_reducible refine SH1.out.mono ?_); rintro e w2 ⟨v2, sa, rfl, hb2, ho2, hoka, hsa⟩; have HB2 := Lib.hid hb2; refine stop_at ?_; intro G hG)
  obtain ⟨aa, ca, rfl⟩ := ho2.shape
  rw [List.length_map] at ho2 hG
  have HA := Lib.hid ho2.sl
  have HOKA := Lib.hid hoka
  have hla := (own_lens ho2).2
  clear ho2 hb2 SH1
  by_cases h2 : sa.length < 2
  · have g1 : (sa.length : Int) < 2 := by omega
    obtain ⟨x, rfl⟩ : ∃ x, sa = [x] := by
      have := hoka.one
      match sa, h2, this with
      | [x], _, _ => exact ⟨x, rfl⟩
    have D1 := Lib.hid (dealtOne_any aa ca x w2 HA.out hoka)
    clear hoka
    rw [← hG.out]
    clear hG G
    go_wp2_with ((with_reducible refine D1.out.mono ?_); rintro e w3 ⟨rfl, hb3⟩)
    go_returns
    exact ⟨rfl, bt HB2.out hb3⟩
  · have g1 : ¬ (sa.length : Int) < 2 := by omega
    have hl2 : 2 ≤ sa.length := Nat.le_of_not_lt h2
    obtain ⟨k, hk⟩ := Int.eq_ofNat_of_zero_le (Int.emod_nonneg out (show (sa.length : Int) ≠ 0 by omega))
    have hk1 := Int.emod_lt_of_pos out (show (0 : Int) < (sa.length : Int) by omega)
    have PK := Lib.hid (fun w => picked_any out (sa.length : Int) w (by omega) (by omega))
    rw [hk] at PK hk1
    have hkl : k < sa.length := by omega
    obtain ⟨x, hx⟩ : ∃ x, sa[k]? = some x := ⟨_, List.getElem?_eq_getElem hkl⟩
    obtain ⟨hokb, hxb⟩ := cut_ok hoka hx hl2
    obtain ⟨sb, hsb⟩ : ∃ sb, sb = sa.take k ++ sa.drop (k + 1) := ⟨_, rfl⟩
    obtain ⟨ba, oa, rfl, hba, d0, _⟩ := Sl.share HA.out (Below.refl _ _) hx
    have FT := Lib.hid (show Sl w2 2 (.slice (some ⟨ba, oa, none⟩) k ca) ((sa.take k).map shCells) by
      have := HA.out.take k (by rw [List.length_map]; omega)
      rw [← List.map_take] at this
      exact this)
    have hbeh := HA.out.behind (k + 1) (by rw [List.length_map]; omega)
    rw [← List.map_drop] at hbeh
    have HBEH := Lib.hid hbeh
    clear hbeh
    rw [← hsb] at hokb hxb
    have HOKB := Lib.hid hokb
    have HXB := Lib.hid hxb
    have kca : k ≤ ca := by have := hla.1; omega
    have kca2 : k + 1 ≤ ca := by have := hla.1; omega
    have ks1 : (0 : Int) ≤ (k : Int) + 1 := by omega
    have ks2 : (k : Int) + 1 ≤ (sa.length : Int) := by omega
    have HSB := Lib.hid hsb
    have HX := Lib.hid hx
    have ek : wrap64 ((k : Int) + 1) = ((k + 1 : Nat) : Int) := by rw [wrap64_in (by omega) (by omega)]; omega
    have ek2 : IntKind.i64.wrap ((k : Int) + 1) = ((k + 1 : Nat) : Int) := by rw [IntWalk.i64_in _ (by omega)]; omega
    rw [← hG.out]
    clear hG G hk hk1 hokb hxb hsb hx hoka
    go_wp2_with ((with_reducible refine (PK.out _).mono ?_); rintro e w' ⟨rfl, rfl⟩)
    go_cut [9] (fun v wx => Wk.Own wx w2.heap.size 73 2 v (sb.map shCells) ∧ Below w2.heap.size w2 wx)
    case first =>
      rcases HBEH.out with ⟨c1, c2, c3, c4⟩ | ⟨c1, c4⟩
      · have C4 : Hid (Sl w2 2 (.slice (some ⟨ba, oa, none⟩) (sa.length - (k + 1)) (ca - (k + 1))) ((sa.drop (k + 1)).map shCells)) := by
          show Sl _ _ _ _
          rw [c1, c2, Nat.sub_self]; exact c4
        have c5 : (ca = k + 1) = True := eq_true c1
        clear c1 c2 c4 c3
        refine wp_region_held_drew (S := (fun _ => True)) (by kernel_rfl) ?rwS1 (fun hHeld => ?rwR1)
        case rwS1 => ((try dsimp only); (try trivial))
        (refine wpAnyH_take (i := 0) (oi := _) (v := ?_) (by simp only [List.getElem?_toArray, List.getElem?_cons_zero, List.getElem?_cons_succ]; rfl) (by kernel_rfl) (by decide +kernel) (by decide +kernel) (by exact fun _ _ _ h => h) (Or.inl ⟨by rfl, ?_⟩) (by assumption) ?_; rotate_left; (· ((intro w hSw); (try dsimp only at hSw); go_simp; (try with_reducible rfl))); (try simp only [Act.put, List.setIfInBounds_toArray, List.set_cons_zero, List.set_cons_succ]))
        (refine wpAnyH_take (i := 1) (oi := _) (v := ?_) (by simp only [List.getElem?_toArray, List.getElem?_cons_zero, List.getElem?_cons_succ]; rfl) (by kernel_rfl) (by decide +kernel) (by decide +kernel) (by exact fun _ _ _ h => h) (Or.inl ⟨by rfl, ?_⟩) (by assumption) ?_; rotate_left; (· ((intro w hSw); (try dsimp only at hSw); go_simp; (try with_reducible rfl))); (try simp only [Act.put, List.setIfInBounds_toArray, List.set_cons_zero, List.set_cons_succ]))
        (refine wpAnyH_take (i := 2) (oi := _) (v := ?_) (by simp only [List.getElem?_toArray, List.getElem?_cons_zero, List.getElem?_cons_succ]; rfl) (by kernel_rfl) (by decide +kernel) (by decide +kernel) (by exact fun _ _ _ h => h) (Or.inl ⟨by rfl, ?_⟩) (by assumption) ?_; rotate_left; (· ((intro w hSw); (try dsimp only at hSw); go_simp; (try with_reducible rfl))); (try simp only [Act.put, List.setIfInBounds_toArray, List.set_cons_zero, List.set_cons_succ]))
        (refine wpAnyH_take (i := 4) (oi := _) (v := ?_) (by simp only [List.getElem?_toArray, List.getElem?_cons_zero, List.getElem?_cons_succ]; rfl) (by kernel_rfl) (by decide +kernel) (by decide +kernel) (by exact fun _ _ _ h => h) (Or.inl ⟨by rfl, ?_⟩) (by assumption) ?_; rotate_left; (· ((intro w hSw); (try dsimp only at hSw); go_simp; (try with_reducible rfl))); (try simp only [Act.put, List.setIfInBounds_toArray, List.set_cons_zero, List.set_cons_succ]))
        (refine wpAnyH_take (i := 5) (oi := _) (v := ?_) (by simp only [List.getElem?_toArray, List.getElem?_cons_zero, List.getElem?_cons_succ]; rfl) (by kernel_rfl) (by decide +kernel) (by decide +kernel) (by exact fun _ _ _ h => h) (Or.inl ⟨by rfl, ?_⟩) (by assumption) ?_; rotate_left; (· ((intro w hSw); (try dsimp only at hSw); go_simp; (try with_reducible rfl))); (try simp only [Act.put, List.setIfInBounds_toArray, List.set_cons_zero, List.set_cons_succ]))
        (refine wpAnyH_take (i := 6) (oi := _) (v := ?_) (by simp only [List.getElem?_toArray, List.getElem?_cons_zero, List.getElem?_cons_succ]; rfl) (by kernel_rfl) (by decide +kernel) (by decide +kernel) (by exact fun _ _ _ h => h) (Or.inl ⟨by rfl, ?_⟩) (by assumption) ?_; rotate_left; (· ((intro w hSw); (try dsimp only at hSw); go_simp; (try with_reducible rfl))); (try simp only [Act.put, List.setIfInBounds_toArray, List.set_cons_zero, List.set_cons_succ]))
        (refine wpAnyH_take (i := 7) (oi := _) (v := ?_) (by simp only [List.getElem?_toArray, List.getElem?_cons_zero, List.getElem?_cons_succ]; rfl) (by kernel_rfl) (by decide +kernel) (by decide +kernel) (by exact fun _ _ _ h => h) (Or.inl ⟨by rfl, ?_⟩) (by assumption) ?_; rotate_left; (· ((intro w hSw); (try dsimp only at hSw); go_simp; (try with_reducible rfl))); (try simp only [Act.put, List.setIfInBounds_toArray, List.set_cons_zero, List.set_cons_succ]))
        repeat' (first
          | (refine wpAnyH_take (i := 9) (oi := _) (v := ?_) (by simp only [List.getElem?_toArray, List.getElem?_cons_zero, List.getElem?_cons_succ]; rfl) (by kernel_rfl) (by decide +kernel) (by decide +kernel) (by exact fun _ _ _ h => h) (Or.inl ⟨by rfl, ?_⟩) (by assumption) ?_; rotate_left; (· ((intro w hSw); (try dsimp only at hSw); go_simp; (try with_reducible rfl))); (try simp only [Act.put, List.setIfInBounds_toArray, List.set_cons_zero, List.set_cons_succ]))
          | (refine wpAnyH_ready (rs := [3]) (by decide +kernel) (by simp) (AllReadyH.cons (by simp only [List.getElem?_toArray, List.getElem?_cons_zero, List.getElem?_cons_succ]; rfl) (fun K hK => ?_) AllReadyH.nil); all_goals ((first | first
                  | (refine step_append_any rfl (.const (.slice none 0 0)) (.tmp 32) 66 73 2 16 _ rfl eiShare w2.heap.size (.slice none 0 0) [] rfl (Wk.Own.nil _ _ _ _) (.slice (some ⟨ba, oa, none⟩) k ca) ((sa.take k).map shCells) rfl (FT.out.below (by (repeat' (first | (with_reducible exact Below.refl _ _) | (with_reducible assumption) | (with_reducible refine Below.al ?_ _) | (with_reducible refine Below.dr ?_) | (with_reducible refine Below.step ?_ (by assumption)) | (with_reducible refine Below.set ?_ ?_ _) | omega | (dsimp only; omega) | (simp; done) | (simp; omega))))) (by intro c hc; obtain ⟨r, _, rfl⟩ := List.mem_map.1 hc; exact shCells_one r) (by have := hsa; simp; omega) (by decide) (by first | exact Nat.le_refl _ | (simp; done)) ?_; intro vA wA hownA hbA)
                  | (refine step_append_any rfl (.tmp 33) (.tmp 37) 66 73 2 16 _ rfl eiShare w2.heap.size vA ([] ++ (sa.take k).map shCells) rfl hownA (.slice (some ⟨ba, oa, none⟩) (sa.length - (k + 1)) (ca - (k + 1))) ((sa.drop (k + 1)).map shCells) rfl (C4.out.below (Below.undrew hbA)) (by intro c hc; obtain ⟨r, _, rfl⟩ := List.mem_map.1 hc; exact shCells_one r) (by have := hsa; simp; omega) (by decide) (Below.undrew hbA).size ?_; intro vB wB hownB hbB) | (go_simp; (first | fail | skip))); (refine hK.out _ _ ?_ (fun hHeld => ?_)); (· ((try dsimp only); (try trivial))); (clear hK K; (try simp only [Act.put, List.setIfInBounds_toArray, List.set_cons_zero, List.set_cons_succ]))))
          | (refine wpAnyH_ready (rs := [8]) (by decide +kernel) (by simp) (AllReadyH.cons (by simp only [List.getElem?_toArray, List.getElem?_cons_zero, List.getElem?_cons_succ]; rfl) (fun K hK => ?_) AllReadyH.nil); all_goals ((first | first
                  | (refine step_append_any rfl (.const (.slice none 0 0)) (.tmp 32) 66 73 2 16 _ rfl eiShare w2.heap.size (.slice none 0 0) [] rfl (Wk.Own.nil _ _ _ _) (.slice (some ⟨ba, oa, none⟩) k ca) ((sa.take k).map shCells) rfl (FT.out.below (by (repeat' (first | (with_reducible exact Below.refl _ _) | (with_reducible assumption) | (with_reducible refine Below.al ?_ _) | (with_reducible refine Below.dr ?_) | (with_reducible refine Below.step ?_ (by assumption)) | (with_reducible refine Below.set ?_ ?_ _) | omega | (dsimp only; omega) | (simp; done) | (simp; omega))))) (by intro c hc; obtain ⟨r, _, rfl⟩ := List.mem_map.1 hc; exact shCells_one r) (by have := hsa; simp; omega) (by decide) (by first | exact Nat.le_refl _ | (simp; done)) ?_; intro vA wA hownA hbA)
                  | (refine step_append_any rfl (.tmp 33) (.tmp 37) 66 73 2 16 _ rfl eiShare w2.heap.size vA ([] ++ (sa.take k).map shCells) rfl hownA (.slice (some ⟨ba, oa, none⟩) (sa.length - (k + 1)) (ca - (k + 1))) ((sa.drop (k + 1)).map shCells) rfl (C4.out.below (Below.undrew hbA)) (by intro c hc; obtain ⟨r, _, rfl⟩ := List.mem_map.1 hc; exact shCells_one r) (by have := hsa; simp; omega) (by decide) (Below.undrew hbA).size ?_; intro vB wB hownB hbB) | (go_simp; (first | fail | skip))); (refine hK.out _ _ ?_ (fun hHeld => ?_)); (· ((try dsimp only); (try trivial))); (clear hK K; (try simp only [Act.put, List.setIfInBounds_toArray, List.set_cons_zero, List.set_cons_succ]))))
          | (refine wpAnyH_done (by decide +kernel) ?_ _)
          | fail)
        all_goals go_wp2_with fail
        all_goals go_meet
        all_goals exact ⟨by rw [HSB.out, List.map_append]; exact hownB, (Below.undrew hbA).trans hbB⟩
      · have C4 := Lib.hid c4
        clear c4
        refine wp_region_held_drew (S := (fun _ => True)) (by kernel_rfl) ?rwS2 (fun hHeld => ?rwR2)
        case rwS2 => ((try dsimp only); (try trivial))
        (refine wpAnyH_take (i := 0) (oi := _) (v := ?_) (by simp only [List.getElem?_toArray, List.getElem?_cons_zero, List.getElem?_cons_succ]; rfl) (by kernel_rfl) (by decide +kernel) (by decide +kernel) (by exact fun _ _ _ h => h) (Or.inl ⟨by rfl, ?_⟩) (by assumption) ?_; rotate_left; (· ((intro w hSw); (try dsimp only at hSw); go_simp; (try with_reducible rfl))); (try simp only [Act.put, List.setIfInBounds_toArray, List.set_cons_zero, List.set_cons_succ]))
        (refine wpAnyH_take (i := 1) (oi := _) (v := ?_) (by simp only [List.getElem?_toArray, List.getElem?_cons_zero, List.getElem?_cons_succ]; rfl) (by kernel_rfl) (by decide +kernel) (by decide +kernel) (by exact fun _ _ _ h => h) (Or.inl ⟨by rfl, ?_⟩) (by assumption) ?_; rotate_left; (· ((intro w hSw); (try dsimp only at hSw); go_simp; (try with_reducible rfl))); (try simp only [Act.put, List.setIfInBounds_toArray, List.set_cons_zero, List.set_cons_succ]))
        (refine wpAnyH_take (i := 2) (oi := _) (v := ?_) (by simp only [List.getElem?_toArray, List.getElem?_cons_zero, List.getElem?_cons_succ]; rfl) (by kernel_rfl) (by decide +kernel) (by decide +kernel) (by exact fun _ _ _ h => h) (Or.inl ⟨by rfl, ?_⟩) (by assumption) ?_; rotate_left; (· ((intro w hSw); (try dsimp only at hSw); go_simp; (try with_reducible rfl))); (try simp only [Act.put, List.setIfInBounds_toArray, List.set_cons_zero, List.set_cons_succ]))
        (refine wpAnyH_take (i := 4) (oi := _) (v := ?_) (by simp only [List.getElem?_toArray, List.getElem?_cons_zero, List.getElem?_cons_succ]; rfl) (by kernel_rfl) (by decide +kernel) (by decide +kernel) (by exact fun _ _ _ h => h) (Or.inl ⟨by rfl, ?_⟩) (by assumption) ?_; rotate_left; (· ((intro w hSw); (try dsimp only at hSw); go_simp; (try with_reducible rfl))); (try simp only [Act.put, List.setIfInBounds_toArray, List.set_cons_zero, List.set_cons_succ]))
        (refine wpAnyH_take (i := 5) (oi := _) (v := ?_) (by simp only [List.getElem?_toArray, List.getElem?_cons_zero, List.getElem?_cons_succ]; rfl) (by kernel_rfl) (by decide +kernel) (by decide +kernel) (by exact fun _ _ _ h => h) (Or.inl ⟨by rfl, ?_⟩) (by assumption) ?_; rotate_left; (· ((intro w hSw); (try dsimp only at hSw); go_simp; (try with_reducible rfl))); (try simp only [Act.put, List.setIfInBounds_toArray, List.set_cons_zero, List.set_cons_succ]))
        (refine wpAnyH_take (i := 6) (oi := _) (v := ?_) (by simp only [List.getElem?_toArray, List.getElem?_cons_zero, List.getElem?_cons_succ]; rfl) (by kernel_rfl) (by decide +kernel) (by decide +kernel) (by exact fun _ _ _ h => h) (Or.inl ⟨by rfl, ?_⟩) (by assumption) ?_; rotate_left; (· ((intro w hSw); (try dsimp only at hSw); go_simp; (try with_reducible rfl))); (try simp only [Act.put, List.setIfInBounds_toArray, List.set_cons_zero, List.set_cons_succ]))
        (refine wpAnyH_take (i := 7) (oi := _) (v := ?_) (by simp only [List.getElem?_toArray, List.getElem?_cons_zero, List.getElem?_cons_succ]; rfl) (by kernel_rfl) (by decide +kernel) (by decide +kernel) (by exact fun _ _ _ h => h) (Or.inl ⟨by rfl, ?_⟩) (by assumption) ?_; rotate_left; (· ((intro w hSw); (try dsimp only at hSw); go_simp; (try with_reducible rfl))); (try simp only [Act.put, List.setIfInBounds_toArray, List.set_cons_zero, List.set_cons_succ]))
        repeat' (first
          | (refine wpAnyH_take (i := 9) (oi := _) (v := ?_) (by simp only [List.getElem?_toArray, List.getElem?_cons_zero, List.getElem?_cons_succ]; rfl) (by kernel_rfl) (by decide +kernel) (by decide +kernel) (by exact fun _ _ _ h => h) (Or.inl ⟨by rfl, ?_⟩) (by assumption) ?_; rotate_left; (· ((intro w hSw); (try dsimp only at hSw); go_simp; (try with_reducible rfl))); (try simp only [Act.put, List.setIfInBounds_toArray, List.set_cons_zero, List.set_cons_succ]))
          | (refine wpAnyH_ready (rs := [3]) (by decide +kernel) (by simp) (AllReadyH.cons (by simp only [List.getElem?_toArray, List.getElem?_cons_zero, List.getElem?_cons_succ]; rfl) (fun K hK => ?_) AllReadyH.nil); all_goals ((first | first
                  | (refine step_append_any rfl (.const (.slice none 0 0)) (.tmp 32) 66 73 2 16 _ rfl eiShare w2.heap.size (.slice none 0 0) [] rfl (Wk.Own.nil _ _ _ _) (.slice (some ⟨ba, oa, none⟩) k ca) ((sa.take k).map shCells) rfl (FT.out.below (by (repeat' (first | (with_reducible exact Below.refl _ _) | (with_reducible assumption) | (with_reducible refine Below.al ?_ _) | (with_reducible refine Below.dr ?_) | (with_reducible refine Below.step ?_ (by assumption)) | (with_reducible refine Below.set ?_ ?_ _) | omega | (dsimp only; omega) | (simp; done) | (simp; omega))))) (by intro c hc; obtain ⟨r, _, rfl⟩ := List.mem_map.1 hc; exact shCells_one r) (by have := hsa; simp; omega) (by decide) (by first | exact Nat.le_refl _ | (simp; done)) ?_; intro vA wA hownA hbA)
                  | (refine step_append_any rfl (.tmp 33) (.tmp 37) 66 73 2 16 _ rfl eiShare w2.heap.size vA ([] ++ (sa.take k).map shCells) rfl hownA (.slice (some ⟨ba, oa + (k + 1) * 2, none⟩) (sa.length - (k + 1)) (ca - (k + 1))) ((sa.drop (k + 1)).map shCells) rfl (C4.out.below (Below.undrew hbA)) (by intro c hc; obtain ⟨r, _, rfl⟩ := List.mem_map.1 hc; exact shCells_one r) (by have := hsa; simp; omega) (by decide) (Below.undrew hbA).size ?_; intro vB wB hownB hbB) | (go_simp; (first | fail | skip))); (refine hK.out _ _ ?_ (fun hHeld => ?_)); (· ((try dsimp only); (try trivial))); (clear hK K; (try simp only [Act.put, List.setIfInBounds_toArray, List.set_cons_zero, List.set_cons_succ]))))
          | (refine wpAnyH_ready (rs := [8]) (by decide +kernel) (by simp) (AllReadyH.cons (by simp only [List.getElem?_toArray, List.getElem?_cons_zero, List.getElem?_cons_succ]; rfl) (fun K hK => ?_) AllReadyH.nil); all_goals ((first | first
                  | (refine step_append_any rfl (.const (.slice none 0 0)) (.tmp 32) 66 73 2 16 _ rfl eiShare w2.heap.size (.slice none 0 0) [] rfl (Wk.Own.nil _ _ _ _) (.slice (some ⟨ba, oa, none⟩) k ca) ((sa.take k).map shCells) rfl (FT.out.below (by (repeat' (first | (with_reducible exact Below.refl _ _) | (with_reducible assumption) | (with_reducible refine Below.al ?_ _) | (with_reducible refine Below.dr ?_) | (with_reducible refine Below.step ?_ (by assumption)) | (with_reducible refine Below.set ?_ ?_ _) | omega | (dsimp only; omega) | (simp; done) | (simp; omega))))) (by intro c hc; obtain ⟨r, _, rfl⟩ := List.mem_map.1 hc; exact shCells_one r) (by have := hsa; simp; omega) (by decide) (by first | exact Nat.le_refl _ | (simp; done)) ?_; intro vA wA hownA hbA)
                  | (refine step_append_any rfl (.tmp 33) (.tmp 37) 66 73 2 16 _ rfl eiShare w2.heap.size vA ([] ++ (sa.take k).map shCells) rfl hownA (.slice (some ⟨ba, oa + (k + 1) * 2, none⟩) (sa.length - (k + 1)) (ca - (k + 1))) ((sa.drop (k + 1)).map shCells) rfl (C4.out.below (Below.undrew hbA)) (by intro c hc; obtain ⟨r, _, rfl⟩ := List.mem_map.1 hc; exact shCells_one r) (by have := hsa; simp; omega) (by decide) (Below.undrew hbA).size ?_; intro vB wB hownB hbB) | (go_simp; (first | fail | skip))); (refine hK.out _ _ ?_ (fun hHeld => ?_)); (· ((try dsimp only); (try trivial))); (clear hK K; (try simp only [Act.put, List.setIfInBounds_toArray, List.set_cons_zero, List.set_cons_succ]))))
          | (refine wpAnyH_done (by decide +kernel) ?_ _)
          | fail)
        all_goals go_wp2_with fail
        all_goals go_meet
        all_goals exact ⟨by rw [HSB.out, List.map_append]; exact hownB, (Below.undrew hbA).trans hbB⟩
    case rest =>
      obtain ⟨ho6, hbc⟩ := hcut
      obtain ⟨ab, cb, rfl⟩ := ho6.shape
      rw [List.length_map] at ho6 ⊢
      have hlb := (own_lens ho6).2
      have HSX := Lib.hid ho6.sl
      have HBC := Lib.hid hbc
      have HAX := Lib.hid (HA.out.below hbc)
      have D1 := Lib.hid (dealt_any (some ⟨ba, oa, none⟩) ca sa.length sa n _ rfl HAX.out HOKA.out n1 n2)
      clear ho6 hbc HBEH FT ek ek2 ks1 ks2 d0
      go_wp2_with (first | ((with_reducible refine (P.out _).mono ?_); rintro e w' ⟨rfl, rfl⟩) | ((with_reducible refine D1.out.mono ?_); rintro e w3 ⟨v3, rfl, hb3, ho3⟩; have HB3 := Lib.hid hb3; obtain ⟨ax, cx, rfl⟩ := ho3.shape; rw [List.length_map, dealt_len HOKA.out] at ho3 ⊢) | (at_builtin; refine stop_at ?_; intro G hG))
      have hlx := (own_lens ho3).2
      have HX3 := Lib.hid ho3.sl
      have HS3 := Lib.hid (HSX.out.below hb3)
      have HA3 := Lib.hid (HAX.out.below hb3)
      obtain ⟨X, hX⟩ : ∃ X, X = dealtL sa n := ⟨_, rfl⟩
      rw [← hX] at HX3
      have HXL := Lib.hid (show X.length = n by rw [hX]; exact dealt_len HOKA.out n)
      have HXD := Lib.hid hX
      clear ho3 hb3 hX D1
      rw [← hG.out]; clear hG G
      refine wpList_append_any rfl _ _ 44 3 1 8 _ rfl eiNat w3.heap.size _ ((([] : List Nat)).map nC) rfl (Own.nil _ _ _ _) _ ((X).map nC) rfl (HX3.out) (by intro c hc; obtain ⟨r, _, rfl⟩ := List.mem_map.1 hc; exact nC_one r) (by have := HXL.out; first | omega | (simp; omega)) (by decide) (by first | omega | (simp; done) | (simp; omega)) ?_
      intro v4 w4 hown4 hb4
      rw [← List.map_append] at hown4
      obtain ⟨xs4, hxs4⟩ : ∃ x : List Nat, x = (([] : List Nat)) ++ (X) := ⟨_, rfl⟩
      rw [← hxs4] at hown4
      have hl4 : xs4.length = (([] : List Nat)).length + (X).length := by rw [hxs4, List.length_append]
      have HX4 := Lib.hid hxs4
      clear hxs4
      have HL4 := Lib.hid hl4
      clear hl4
      obtain ⟨a4, cap4, rfl⟩ := hown4.shape
      rw [List.length_map] at hown4 ⊢
      have HO4 := Lib.hid hown4
      clear hown4
      obtain ⟨hc4, hf4⟩ := bcellB hb4; have hz4 := hb4.size; (repeat (first | rw [World.size_alloc] at hz4 | rw [World.size_drew] at hz4 | rw [World.size_setCell] at hz4))
      have hx4 : xs4 = X := HX4.out
      subst hx4
      have HB4 := Lib.hid hb4
      clear hc4 hf4
      have hsb16 : sb.length ≤ 16 := HOKB.out.len
      go_wp2_with (at_builtin; refine stop_at ?_; intro G hG)
      rw [← hG.out]; clear hG G
      refine wpList_append_any rfl _ _ 66 73 2 16 _ rfl eiShare w4.heap.size _ ((([] : List (Nat × Nat))).map shCells) rfl (Own.nil _ _ _ _) _ ((sb).map shCells) rfl (HS3.out.below HB4.out) (by intro c hc; obtain ⟨r, _, rfl⟩ := List.mem_map.1 hc; exact shCells_one r) (by skip; first | omega | (simp; omega)) (by decide) (by first | omega | (simp; done) | (simp; omega)) ?_
      intro v5 w5 hown5 hb5
      rw [← List.map_append] at hown5
      obtain ⟨xs5, hxs5⟩ : ∃ x : List (Nat × Nat), x = (([] : List (Nat × Nat))) ++ (sb) := ⟨_, rfl⟩
      rw [← hxs5] at hown5
      have hl5 : xs5.length = (([] : List (Nat × Nat))).length + (sb).length := by rw [hxs5, List.length_append]
      have HX5 := Lib.hid hxs5
      clear hxs5
      have HL5 := Lib.hid hl5
      clear hl5
      obtain ⟨a5, cap5, rfl⟩ := hown5.shape
      rw [List.length_map] at hown5 ⊢
      have HO5 := Lib.hid hown5
      clear hown5
      obtain ⟨hc5, hf5⟩ := bcellB hb5; have hz5 := hb5.size; (repeat (first | rw [World.size_alloc] at hz5 | rw [World.size_drew] at hz5 | rw [World.size_setCell] at hz5))
      have hx5 : xs5 = sb := HX5.out
      subst hx5
      have HB5 := Lib.hid hb5
      have TN := Lib.hid (turn_any a4 cap4 xs4.length xs4 a5 cap5 xs5.length xs5 w5 rfl (HO4.out.sl.below HB5.out) (by rw [HXD.out]; exact dealt_buck HOKA.out n1 n2) rfl HO5.out.sl HOKB.out)
      clear hc5 hf5 hb4 hb5
      obtain ⟨ba2, oa2, hae, hba2, d5, _⟩ := Sl.share HA3.out (bt HB4.out HB5.out) HX.out
      cases hae
      go_wp2_with ((with_reducible refine TN.out.mono ?_); rintro e w6 ⟨gz, rfl, hb6, ho6⟩; have HB6 := Lib.hid hb6; rw [HXL.out] at ho6 ⊢; have d6 := (hb6.cell (p := ⟨ba, oa + k * 2, none⟩) (Nat.lt_of_lt_of_le hba2 (bt HB4.out HB5.out).size)).trans d5; clear d5; refine stop_at ?_; intro G hG)
      have hT := turn_law HOKB.out xs4
      rw [HXL.out] at hT
      obtain ⟨Z, hZ⟩ : ∃ Z, Z = turnL (xs5.map (·.1)) (partsL (xs5.map (·.2)) n) xs4 := ⟨_, rfl⟩
      rw [← hZ] at ho6
      have HZL := Lib.hid (show Z.length = n by rw [hZ, hT.len]; exact HXL.out)
      have HZC := Lib.hid (fun q y (hy : xs5[q]? = some y) => show Z.count y.1 = (partsL (xs5.map (·.2)) n).getD q 0 by
        have hk := (List.getElem?_eq_some_iff.1 hy).1
        have ex : (xs5.map (·.1)).getD q 0 = y.1 := by rw [List.getD_eq_getElem?_getD, List.getElem?_map, hy]; rfl
        have := hT.count q (by simpa using hk)
        rw [ex, ← hZ] at this
        exact this)
      have HZS := Lib.hid (fun q y (hy : xs5[q]? = some y) => show both2 y.1 xs4 Z = min (xs4.count y.1) ((partsL (xs5.map (·.2)) n).getD q 0) by
        have hk := (List.getElem?_eq_some_iff.1 hy).1
        have ex : (xs5.map (·.1)).getD q 0 = y.1 := by rw [List.getD_eq_getElem?_getD, List.getElem?_map, hy]; rfl
        have := hT.stay q (by simpa using hk)
        rw [ex, ← hZ] at this
        exact this)
      have hz0 : Z.count x.1 = 0 := List.count_eq_zero.2 (fun hm => by rw [hZ] at hm; exact HXB.out (hT.mem _ hm))
      have HZ := Lib.hid ho6.sl
      have HX6 := Lib.hid (((HX3.out.below HB4.out).below HB5.out).below HB6.out)
      have HS6 := Lib.hid (((HS3.out.below HB4.out).below HB5.out).below HB6.out)
      have HB06 := Lib.hid (bt HB2.out (bt HBC.out (bt HB3.out (bt HB4.out (bt HB5.out HB6.out)))))
      have C0 := Lib.hid (counted_any (some ⟨gz, 0, none⟩) n n x.1 Z w6 HZL.out.symm HZ.out (by omega))
      rw [hz0] at C0
      rw [← hG.out]
      clear hG G hT hZ ho6 hb6 TN HX3 HS3 HA3 HAX HSX HB2 HBC HB3 HB4 HB5 HB6 HO4 HO5 HL4 HL5 HX4 HX5 hz4 hz5 hz0
      go_wp2_with ((with_reducible refine C0.out.mono ?_); rintro e w' ⟨rfl, rfl⟩)
      go_loopw [15] (fun i wr => ∃ q : Nat, q ≤ xs5.length ∧ i = .int .i64 q ∧ wr = w6) (fun i _ => xs5.length - (intOf i).toNat)
      case atStart => exact ⟨0, Nat.zero_le _, by go_num, rfl⟩
      case round =>
        obtain ⟨q, hq, rfl, rfl⟩ := hrel
        by_cases hlt : q < xs5.length
        · obtain ⟨y, hy⟩ : ∃ y, xs5[q]? = some y := ⟨_, List.getElem?_eq_getElem hlt⟩
          obtain ⟨bb, ob, rfl, hbb, e0, _⟩ := Sl.share HS6.out (Below.refl _ _) hy
          obtain ⟨K, hK⟩ : ∃ K, K = (partsL (xs5.map (·.2)) n).getD q 0 := ⟨_, rfl⟩
          have zc := HZC.out q y hy
          have zs := HZS.out q y hy
          rw [← hK] at zc zs
          have CZ := Lib.hid (counted_any (some ⟨gz, 0, none⟩) n n y.1 Z wr HZL.out.symm HZ.out (by omega))
          have CX := Lib.hid (counted_any ax cx n y.1 xs4 wr HXL.out.symm HX6.out (by omega))
          rw [zc] at CZ
          obtain ⟨c, hc⟩ : ∃ c, c = xs4.count y.1 := ⟨_, rfl⟩
          have hmb := moved_both y.1 xs4 Z (by rw [HXL.out, HZL.out])
          have hcl : c ≤ n := by rw [hc, ← HXL.out]; exact List.count_le_length
          have hKl : K ≤ n := by rw [← zc, ← HZL.out]; exact List.count_le_length
          rw [← hc] at CX zs hmb
          rw [zs] at hmb
          obtain ⟨d, hd⟩ : ∃ d : Int, d = (c : Int) - (K : Int) := ⟨_, rfl⟩
          have ed : wrap64 ((c : Int) - (K : Int)) = d := by rw [hd, wrap64_in (by omega) (by omega)]
          have emax : max (0 : Int) d = ((moved2 y.1 xs4 Z : Nat) : Int) := by rw [hd]; omega
          have HMX := Lib.hid emax
          clear zc zs hy hK hc hmb hcl hKl hd emax
          go_wp2_with fail
          go_loopw [17, 18] (fun v i w8 => ∃ j s : Nat, j ≤ n ∧ s ≤ j ∧ i = .int .i64 j ∧ v = .int .i64 s ∧ Hid (s = moved2 y.1 (xs4.take j) (Z.take j)) ∧ w8 = wr) (fun _ i _ => n - (intOf i).toNat)
          case atStart => exact ⟨0, 0, Nat.zero_le _, Nat.zero_le _, by go_num, by go_num, by show _ = _; simp [moved2], rfl⟩
          case round =>
            obtain ⟨j, s, hj, hsj, rfl, rfl, HS, rfl⟩ := hrel
            by_cases hlt2 : j < n
            · obtain ⟨bz, oz, hze, hbz, c1⟩ := Sl.nat HZ.out (Below.refl _ _) (i := j) (by rw [HZL.out]; exact hlt2)
              cases hze
              rw [Nat.zero_add] at c1
              obtain ⟨bx, ox, rfl, hbx, c2⟩ := Sl.nat HX6.out (Below.refl _ _) (i := j) (by rw [HXL.out]; exact hlt2)
              have hsn := moved_snoc y.1 xs4 Z j (by rw [HXL.out]; exact hlt2) (by rw [HZL.out]; exact hlt2)
              rw [← HS.out] at hsn
              have HSN := Lib.hid hsn
              clear hsn
              generalize xs4.getD j 0 = xv at *
              generalize Z.getD j 0 = zv at *
              by_cases hx1 : xv = y.1
              · subst hx1
                by_cases hz1 : zv = y.1
                · have hs2 := HSN.out
                  rw [if_neg (fun h => h.2 hz1), Nat.add_zero] at hs2
                  have HS2 := Lib.hid hs2
                  subst hz1
                  clear hs2 HSN
                  go_wp2_with fail
                  go_roundw
                  case rel => exact ⟨j + 1, s, hlt2, by omega, by go_num, rfl, HS2.out.symm, by first | rfl | trivial⟩
                  case measure => simp [intOf]; omega
                · have hs2 := HSN.out
                  rw [if_pos ⟨rfl, hz1⟩] at hs2
                  have HS2 := Lib.hid hs2
                  have g2 : ((zv : Int) == (y.1 : Int)) = false := by rw [beq_eq_false_iff_ne]; exact fun e => hz1 (Int.ofNat.inj e)
                  have g3 : ¬ (zv : Int) = (y.1 : Int) := fun e => hz1 (Int.ofNat.inj e)
                  clear hs2 HSN
                  go_wp2_with fail
                  go_roundw
                  case rel => exact ⟨j + 1, s + 1, hlt2, by omega, by go_num, by go_num, HS2.out.symm, by first | rfl | trivial⟩
                  case measure => simp [intOf]; omega
              · have hs2 := HSN.out
                rw [if_neg (fun h => hx1 h.1), Nat.add_zero] at hs2
                have HS2 := Lib.hid hs2
                have g2 : ((xv : Int) == (y.1 : Int)) = false := by rw [beq_eq_false_iff_ne]; exact fun e => hx1 (Int.ofNat.inj e)
                have g3 : ¬ (xv : Int) = (y.1 : Int) := fun e => hx1 (Int.ofNat.inj e)
                clear hs2 HSN
                go_wp2_with fail
                go_roundw
                case rel => exact ⟨j + 1, s, hlt2, by omega, by go_num, rfl, HS2.out.symm, by first | rfl | trivial⟩
                case measure => simp [intOf]; omega
            · obtain rfl : j = n := by omega
              have hst : s = moved2 y.1 xs4 Z := by
                have := HS.out
                rw [List.take_of_length_le (by rw [HXL.out]; exact Nat.le_refl _), List.take_of_length_le (by rw [HZL.out]; exact Nat.le_refl _)] at this
                exact this
              have emax := HMX.out
              rw [← hst] at emax
              clear hst HS HMX
              have gss : ¬ s < s := Nat.lt_irrefl s
              go_wp2_with (first | ((with_reducible refine CX.out.mono ?_); rintro e w' ⟨rfl, rfl⟩) | ((with_reducible refine CZ.out.mono ?_); rintro e w' ⟨rfl, rfl⟩))
              go_roundw
              case rel => exact ⟨q + 1, hlt, by go_num, by first | rfl | trivial⟩
              case measure => simp [intOf]; omega
        · obtain rfl : q = xs5.length := by omega
          go_wp2_with fail
          go_returns
          exact ⟨rfl, HB06.out⟩
end Go.Proofs.Yticfcigkldkhmaa
