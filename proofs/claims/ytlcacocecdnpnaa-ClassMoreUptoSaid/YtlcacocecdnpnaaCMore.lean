
/- ClassMore: the walk. -/
import Derived.Test.YtlcacocecdnpnaaCFirst
set_option linter.unusedVariables false
namespace Go.Proofs.Ytlcacocecdnpnaa
open Go.RowKit Go.Sort Wc Wk

def intCell (z : Int) : List Value := [.int .i64 z]
theorem intCell_one (z : Int) : ∀ u ∈ intCell z, u.oneCell' = true := by
  intro u hu
  simp [intCell] at hu
  subst hu; rfl
theorem eiInt : EI Try.prog 22 3 1 8 (.int .i64 0) := ⟨by kernel_rfl, by kernel_rfl, rfl, by decide⟩
theorem IsRow.sl {w : World} {a : Option Addr} {len cap : Nat} {zs : List Int} (h : IsRow .i64 w a len cap zs) : Sl w 1 (.slice a len cap) ((zs.take len).map intCell) ∧ (zs.take len).length = len ∧ ∀ z ∈ zs.take len, -9223372036854775808 ≤ z ∧ z ≤ 9223372036854775807 := by
  have hl : (zs.take len).length = len := by rw [List.length_take]; have := (IsRow.len_le h).2; omega
  refine ⟨⟨fun c hc => ?_, a, cap, ?_, ?_, ?_, fun hne => ?_⟩, hl, fun z hz => ?_⟩
  · obtain ⟨z, _, rfl⟩ := List.mem_map.1 hc; rfl
  · rw [List.length_map, hl]
  · rw [List.length_map, hl]; exact IsRow.len_cap h
  · rcases h with ⟨_, _, rfl, _⟩ | ⟨_, _, _, h, _⟩
    · unfold maxLen; omega
    · exact h
  · have hp : 0 < len := by
      rcases Nat.eq_zero_or_pos len with h0 | h0
      · subst h0; exact absurd rfl hne
      · exact h0
    obtain ⟨b, off, rfl, hb, hc⟩ := IsRow.opened h hp
    refine ⟨b, off, rfl, hb, fun i c hi j u hu => ?_⟩
    rw [List.getElem?_map] at hi
    obtain ⟨z, hz, rfl⟩ := Option.map_eq_some_iff.1 hi
    have hil : i < len := by have := (List.getElem?_eq_some_iff.1 hz).1; omega
    have := (hc i hil).1
    rw [List.getElem?_take_of_lt hil] at hz
    rw [List.getD_eq_getElem?_getD, hz] at this
    match j, hu with
    | 0, hu =>
      simp [intCell] at hu; subst hu
      simpa using this
  · obtain ⟨i, hi, he⟩ := List.getElem_of_mem hz
    have hil : i < len := by omega
    obtain ⟨b, off, rfl, hb, hc⟩ := IsRow.opened h (by omega)
    have h2 := (hc i hil).2
    rw [List.getElem_take] at he
    rw [List.getD_eq_getElem?_getD, List.getElem?_eq_getElem (by have := (IsRow.len_le h).2; omega), he] at h2
    exact h2
theorem Sl.rd {w : World} {a : Option Addr} {cap : Nat} {l : List Int} (h : Sl w 1 (.slice a l.length cap) (l.map intCell)) (hz : ∀ z ∈ l, -9223372036854775808 ≤ z ∧ z ≤ 9223372036854775807) : Rd w a l.length l ∧ l.length ≤ cap := by
  obtain ⟨_, a', cap', hv, h1, h2, hcc⟩ := h
  simp only [Value.slice.injEq] at hv
  obtain ⟨rfl, _, rfl⟩ := hv
  rw [List.length_map] at h1
  unfold maxLen at h2
  refine ⟨⟨by omega, fun hp => ?_⟩, h1⟩
  obtain ⟨b, off, rfl, hlt, hcell⟩ := hcc (by intro h; rw [List.map_eq_nil_iff] at h; subst h; simp at hp)
  refine ⟨b, off, rfl, hlt, fun i hi => ?_⟩
  have hg : l.getD i 0 = l[i] := by rw [List.getD_eq_getElem?_getD, List.getElem?_eq_getElem hi]; rfl
  rw [hg]
  refine ⟨?_, hz _ (List.getElem_mem hi)⟩
  have := hcell i (intCell l[i]) (by rw [List.getElem?_map, List.getElem?_eq_getElem hi]; rfl) 0 _ rfl
  simpa using this
theorem class_more (ms more : List MatchD) (hl : more.length ≤ 1) (a b : Nat) :
    (0 ≤ classI ms a b ∧ classC (ms ++ more) a b = classC ms a b ∧ classI (ms ++ more) a b = classI ms a b) ∨
    (classI ms a b = -1 ∧ classC (ms ++ more) a b = classC more a b ∧ (classI (ms ++ more) a b = -1 ∨ classI (ms ++ more) a b = ms.length)) := by
  rcases class_cases ms a b with ⟨h1, h2, h3⟩ | ⟨i, r, hr, h1, h2, h3, h4⟩
  · right
    have hno : ∀ i, i < ms.length → ∀ r, (ms ++ more)[i]? = some r → ¬ r.fits a b := fun i hi r hr => by
      rw [List.getElem?_append_left hi] at hr
      exact h3 r (List.mem_of_getElem? hr)
    rcases more with _ | ⟨q, rest⟩
    · rw [List.append_nil]
      exact ⟨h1, h2, .inl h1⟩
    · obtain rfl : rest = [] := by cases rest with | nil => rfl | cons _ _ => simp at hl
      have hq : (ms ++ [q])[ms.length]? = some q := by simp
      by_cases hf : q.fits a b
      · obtain ⟨e1, e2⟩ := class_at hq hf hno
        obtain ⟨_, e4⟩ := class_at (l := [q]) (j := 0) rfl hf (fun i hi => absurd hi (Nat.not_lt_zero i))
        exact ⟨h1, by rw [e2, e4], .inr e1⟩
      · obtain ⟨e1, e2⟩ := class_not (l := ms ++ [q]) (a := a) (b := b) (fun i hi r hr => by
          rcases Nat.lt_or_ge i ms.length with h | h
          · exact hno i h r hr
          · have : i = ms.length := by simp at hi; omega
            subst this
            rw [hq] at hr; cases hr
            exact hf)
        obtain ⟨_, e4⟩ := class_not (l := [q]) (a := a) (b := b) (fun i hi r hr => by
          have : i = 0 := by simpa using hi
          subst this
          cases hr
          exact hf)
        exact ⟨h1, by rw [e2, e4], .inl e1⟩
  · left
    have hi := (List.getElem?_eq_some_iff.1 hr).1
    obtain ⟨e1, e2⟩ := class_at (l := ms ++ more) (a := a) (b := b) (j := i) (q := r) (by rw [List.getElem?_append_left hi]; exact hr) h3 (fun j hj q hq => by
      rw [List.getElem?_append_left (by omega)] at hq
      exact h4 j hj q hq)
    exact ⟨by rw [h1]; omega, by rw [e2, h2], by rw [e1, h1]⟩

theorem sl_seven {W : World} {b : Nat} (hb : b = W.heap.size) : Sl (W.alloc (.cells #[.int .i64 7, .int .i64 8] 3)) 1 (.slice (some ⟨b, 0, none⟩) 2 2) (([7, 8] : List Int).map intCell) := by
  subst hb
  refine ⟨by simp [intCell], _, _, rfl, by simp, by unfold maxLen; omega, fun _ => ⟨_, _, rfl, by simp, fun i c hi j u hu => ?_⟩⟩
  match i, hi with
  | 0, hi =>
    simp [intCell] at hi; subst hi
    match j, hu with
    | 0, hu => simp at hu; subst hu; simp
  | 1, hi =>
    simp [intCell] at hi; subst hi
    match j, hu with
    | 0, hu => simp at hu; subst hu; simp


set_option maxRecDepth 100000 in
set_option maxHeartbeats 1000000 in
theorem classMore_walk (a : Option Addr) (len cap : Nat) (zs : List Int) (a' : Option Addr) (len' cap' : Nat) (zs' : List Int) (x y : Int) (w : World) (h : IsRow .i64 w a len cap zs) (h' : IsRow .i64 w a' len' cap' zs') (hx : -9223372036854775808 ≤ x ∧ x ≤ 9223372036854775807) (hy : -9223372036854775808 ≤ y ∧ y ≤ 9223372036854775807) (hbig : len' ≤ 1048576) :
    Calls Try.prog 12 #[.slice a len cap, .slice a' len' cap', .int .i64 x, .int .i64 y] w fun e w' => e = .returned (.bool true) ∧ Below w.heap.size w w' := by
  have NF := Lib.hid (fun w => nearFlow_any x y w)
  have hn := near_fits x
  have hm := near_fits y
  generalize nearN x = n at *
  generalize nearN y = m at *
  obtain ⟨hsl, hll, hzb⟩ := IsRow.sl h'
  generalize zs'.take len' = ys at *
  subst hll
  have HS' := Lib.hid hsl
  have HZ := Lib.hid hzb
  clear h' hsl hzb
  go_enter Try.func12, Try.ntmps12
  go_wp2_with fail
  refine (matches_any a len cap zs 20 _ (IsRow.rd h) (IsRow.len_cap h) (by omega)).mono ?_
  rintro e w1 ⟨v, ms, rfl, HO, hok, hlen, hb1⟩; (repeat (with_reducible (replace hb1 := Below.undrew hb1))); obtain ⟨hc1, hf1⟩ := bcell hb1; have hz1 := hb1.size; (repeat (first | rw [World.size_alloc] at hz1 | rw [World.size_drew] at hz1 | rw [World.size_setCell] at hz1)); (try have : w.heap.size < w1.heap.size := by omega)
  obtain ⟨a1, cap1, rfl⟩ := HO.shape
  rw [List.length_map] at HO ⊢
  have HM := Lib.hid HO
  clear HO
  go_wp2_with (at_builtin; refine stop_at ?_; intro G hG)
  rw [← hG.out]; clear hG G
  refine wpList_append_any rfl _ _ 22 3 1 8 _ rfl eiInt (w1.heap.size) _ ((([] : List Int)).map intCell) rfl (Own.nil _ _ _ _) _ ((ys).map intCell) rfl (HS'.out.below (by (repeat' (first | (with_reducible exact Below.refl _ _) | (with_reducible assumption) | (with_reducible refine Below.alloc ?_ ?_ _) | (with_reducible refine Below.drew ?_) | (with_reducible refine Below.stepG ?_ (by assumption) ?_) | (with_reducible refine Below.setCell ?_ ?_ _) | omega | (dsimp only; omega) | (simp; done) | (simp; omega))))) (by intro c hc; obtain ⟨r, _, rfl⟩ := List.mem_map.1 hc; exact intCell_one r) (by skip; first | omega | (simp; omega)) (by decide) (by first | omega | (simp; done) | (simp; omega)) ?_
  intro v2 w2 hown2 hb2
  rw [← List.map_append] at hown2
  obtain ⟨xs2, hxs2⟩ : ∃ x : List Int, x = (([] : List Int)) ++ (ys) := ⟨_, rfl⟩
  rw [← hxs2] at hown2
  have hl2 : xs2.length = (([] : List Int)).length + (ys).length := by rw [hxs2, List.length_append]
  have HX2 := Lib.hid hxs2
  clear hxs2
  have HL2 := Lib.hid hl2
  clear hl2
  obtain ⟨a2, cap2, rfl⟩ := hown2.shape
  rw [List.length_map] at hown2 ⊢
  have HO2 := Lib.hid hown2
  clear hown2
  obtain ⟨hc2, hf2⟩ := bcellB hb2; have hz2 := hb2.size; (repeat (first | rw [World.size_alloc] at hz2 | rw [World.size_drew] at hz2 | rw [World.size_setCell] at hz2)); (try have : w.heap.size < w2.heap.size := by omega); (try have : w1.heap.size < w2.heap.size := by omega)
  obtain rfl : xs2 = ys := by rw [HX2.out]; rfl
  go_wp2_with (at_builtin; refine stop_at ?_; intro G hG)
  rw [← hG.out]; clear hG G
  refine wpList_append_any rfl _ _ 22 3 1 8 _ rfl eiInt (w1.heap.size) _ ((xs2).map intCell) rfl (by ((repeat (first | (with_reducible refine Own.alloc ?_ _) | (with_reducible refine Own.dr ?_))); exact HO2.out)) _ ((([7, 8] : List Int)).map intCell) rfl (sl_seven (by simp)) (by intro c hc; obtain ⟨r, _, rfl⟩ := List.mem_map.1 hc; exact intCell_one r) (by skip; first | omega | (simp; omega)) (by decide) (by first | omega | (simp; done) | (simp; omega)) ?_
  intro v3 w3 hown3 hb3
  rw [← List.map_append] at hown3
  obtain ⟨xs3, hxs3⟩ : ∃ x : List Int, x = (xs2) ++ (([7, 8] : List Int)) := ⟨_, rfl⟩
  rw [← hxs3] at hown3
  have hl3 : xs3.length = (xs2).length + (([7, 8] : List Int)).length := by rw [hxs3, List.length_append]
  have HX3 := Lib.hid hxs3
  clear hxs3
  have HL3 := Lib.hid hl3
  clear hl3
  obtain ⟨a3, cap3, rfl⟩ := hown3.shape
  rw [List.length_map] at hown3 ⊢
  have HO3 := Lib.hid hown3
  clear hown3
  obtain ⟨hc3, hf3⟩ := bcellB hb3; have hz3 := hb3.size; (repeat (first | rw [World.size_alloc] at hz3 | rw [World.size_drew] at hz3 | rw [World.size_setCell] at hz3)); (try have : w.heap.size < w3.heap.size := by omega); (try have : w1.heap.size < w3.heap.size := by omega); (try have : w2.heap.size < w3.heap.size := by omega)
  have hz3 : ∀ z ∈ xs3, -9223372036854775808 ≤ z ∧ z ≤ 9223372036854775807 := by
    intro z hz
    rw [HX3.out] at hz
    rcases List.mem_append.1 hz with h | h
    · exact HZ.out z h
    · simp at h; omega
  obtain ⟨hrd, hcp⟩ := Sl.rd HO3.out.sl hz3
  have HRD := Lib.hid hrd
  clear hz3 hrd
  go_wp2_with fail
  refine (matches_any _ _ _ _ 1 _ HRD.out hcp (by omega)).mono ?_
  rintro e w4 ⟨v, more, rfl, HO, hok', hlen', hb4⟩; (repeat (with_reducible (replace hb4 := Below.undrew hb4))); obtain ⟨hc4, hf4⟩ := bcell hb4; have hz4 := hb4.size; (repeat (first | rw [World.size_alloc] at hz4 | rw [World.size_drew] at hz4 | rw [World.size_setCell] at hz4)); (try have : w.heap.size < w4.heap.size := by omega); (try have : w1.heap.size < w4.heap.size := by omega); (try have : w2.heap.size < w4.heap.size := by omega); (try have : w3.heap.size < w4.heap.size := by omega)
  obtain ⟨a4, cap4, rfl⟩ := HO.shape
  rw [List.length_map] at HO ⊢
  have HR := Lib.hid HO
  clear HO HO2 HO3 HX2 HX3 HRD HS' HZ
  have hoka : ∀ q ∈ ms ++ more, MatchD.ok q := fun q hq => (List.mem_append.1 hq).elim (hok q) (hok' q)
  have C1 := Lib.hid (fun w hs => classed_any a1 cap1 ms n m w hs (by omega) hok hn hm)
  have C2 : Hid (∀ (xs : List MatchD), xs = ms ++ more → ∀ a cap w, Sl w 9 (.slice a xs.length cap) (xs.map matchCells) → Calls Try.prog 29 #[.slice a xs.length cap, .agg #[.bool false, .int .u64 (hiOf false n), .int .u64 (loOf n), .bool false, .int .u64 (hiOf false m), .int .u64 (loOf m)]] w fun e w' => e = .returned (.tuple #[.int .i64 (classC (ms ++ more) n m : Nat), .int .i64 (classI (ms ++ more) n m), .bool true]) ∧ Below w.heap.size w w') := fun xs hx a cap w hs => by
    subst hx
    exact classed_any a cap (ms ++ more) n m w hs (by simp; omega) hoka hn hm
  have C3 := Lib.hid (fun w hs => classed_any a4 cap4 more n m w hs (by omega) hok' hn hm)
  have HCM := Lib.hid (class_more ms more hlen' n m)
  generalize classI ms n m = i1 at *
  generalize classC ms n m = c1 at *
  generalize classI (ms ++ more) n m = i2 at *
  generalize classC (ms ++ more) n m = c2 at *
  generalize classI more n m = i3 at *
  generalize classC more n m = c3 at *
  clear hoka hok hok' hn hm h
  go_wp2_with (first | ((with_reducible refine (NF.out _).mono ?_); rintro e w5 ⟨rfl, hb5⟩; (repeat (with_reducible (replace hb5 := Below.undrew hb5))); obtain ⟨hc5, hf5⟩ := bcell hb5; have hz5 := hb5.size; (repeat (first | rw [World.size_alloc] at hz5 | rw [World.size_drew] at hz5 | rw [World.size_setCell] at hz5)); (try have : w.heap.size < w5.heap.size := by omega); (try have : w1.heap.size < w5.heap.size := by omega); (try have : w2.heap.size < w5.heap.size := by omega); (try have : w3.heap.size < w5.heap.size := by omega); (try have : w4.heap.size < w5.heap.size := by omega)))
  refine (C1.out _ (HM.out.sl.below (by (repeat' (first | (with_reducible exact Below.refl _ _) | (with_reducible assumption) | (with_reducible refine Below.alloc ?_ ?_ _) | (with_reducible refine Below.drew ?_) | (with_reducible refine Below.stepG ?_ (by assumption) ?_) | (with_reducible refine Below.setCell ?_ ?_ _) | omega | (dsimp only; omega) | (simp; done) | (simp; omega)))))).mono ?_; rintro e w6 ⟨rfl, hb6⟩; (repeat (with_reducible (replace hb6 := Below.undrew hb6))); obtain ⟨hc6, hf6⟩ := bcell hb6; have hz6 := hb6.size; (repeat (first | rw [World.size_alloc] at hz6 | rw [World.size_drew] at hz6 | rw [World.size_setCell] at hz6)); (try have : w.heap.size < w6.heap.size := by omega); (try have : w1.heap.size < w6.heap.size := by omega); (try have : w2.heap.size < w6.heap.size := by omega); (try have : w3.heap.size < w6.heap.size := by omega); (try have : w4.heap.size < w6.heap.size := by omega); (try have : w5.heap.size < w6.heap.size := by omega)
  have F0 : w6.cell? ⟨w5.heap.size, 0, none⟩ = some (.bool false) := by rw [hc6 _ _ (by simp)]; simp
  have F1 : w6.cell? ⟨w5.heap.size, 1, none⟩ = some (.int .u64 (hiOf false n)) := by rw [hc6 _ _ (by simp)]; simp
  have F2 : w6.cell? ⟨w5.heap.size, 2, none⟩ = some (.int .u64 (loOf n)) := by rw [hc6 _ _ (by simp)]; simp
  have F3 : w6.cell? ⟨w5.heap.size, 3, none⟩ = some (.bool false) := by rw [hc6 _ _ (by simp)]; simp
  have F4 : w6.cell? ⟨w5.heap.size, 4, none⟩ = some (.int .u64 (hiOf false m)) := by rw [hc6 _ _ (by simp)]; simp
  have F5 : w6.cell? ⟨w5.heap.size, 5, none⟩ = some (.int .u64 (loOf m)) := by rw [hc6 _ _ (by simp)]; simp
  have FS : w5.heap.size < w6.heap.size := by omega
  have FM := Lib.hid (HM.out.sl.below (w' := w6) (by (repeat' (first | (with_reducible exact Below.refl _ _) | (with_reducible assumption) | (with_reducible refine Below.alloc ?_ ?_ _) | (with_reducible refine Below.drew ?_) | (with_reducible refine Below.stepG ?_ (by assumption) ?_) | (with_reducible refine Below.setCell ?_ ?_ _) | omega | (dsimp only; omega) | (simp; done) | (simp; omega)))))
  have FR := Lib.hid (HR.out.sl.below (w' := w6) (by (repeat' (first | (with_reducible exact Below.refl _ _) | (with_reducible assumption) | (with_reducible refine Below.alloc ?_ ?_ _) | (with_reducible refine Below.drew ?_) | (with_reducible refine Below.stepG ?_ (by assumption) ?_) | (with_reducible refine Below.setCell ?_ ?_ _) | omega | (dsimp only; omega) | (simp; done) | (simp; omega)))))
  have FB : Hid (Below w.heap.size w w6) := by show Below _ _ _; (repeat' (first | (with_reducible exact Below.refl _ _) | (with_reducible assumption) | (with_reducible refine Below.alloc ?_ ?_ _) | (with_reducible refine Below.drew ?_) | (with_reducible refine Below.stepG ?_ (by assumption) ?_) | (with_reducible refine Below.setCell ?_ ?_ _) | omega | (dsimp only; omega) | (simp; done) | (simp; omega)))
  have hz0 : w.heap.size ≤ w6.heap.size := FB.out.size
  clear hb1 hb2 hb3 hb4 hb5 hb6 hc1 hc2 hc3 hc4 hc5 hc6 hf1 hf2 hf3 hf4 hf5 hf6 hz1 hz2 hz3 hz4 hz5 hz6 HM HR C1
  generalize w5.heap.size = B at *
  go_upto_region 5 with fail
  go_cut [15, 16, 17] (fun s15 s16 s17 wx => s15 = .int .i64 (c2 : Nat) ∧ s16 = .int .i64 i2 ∧ s17 = .bool true ∧ Hid (Below w6.heap.size w6 wx))
  case first =>
    go_region_law (first
      | (refine step_copy rfl (.tmp 39) 66 78 9 72 _ rfl eiMatch _ _ rfl (FM.out.below (by (repeat' (first | (with_reducible exact Below.refl _ _) | (with_reducible assumption) | (with_reducible refine Below.alloc ?_ ?_ _) | (with_reducible refine Below.drew ?_) | (with_reducible refine Below.stepG ?_ (by assumption) ?_) | (with_reducible refine Below.setCell ?_ ?_ _) | omega | (dsimp only; omega) | (simp; done) | (simp; omega))))) (by intro c hc; obtain ⟨r, _, rfl⟩ := List.mem_map.1 hc; exact matchCells_one r) (by simp; omega) (by decide) ?_
         intro v1 u1 hown hd1
         (repeat (with_reducible (replace hd1 := Below.undrew hd1))); obtain ⟨hk1, hg1⟩ := bcell hd1; have hy1 := hd1.size
         have HO1 := Lib.hid hown
         have hBu1 : B < u1.heap.size := by omega
         have G0 : u1.cell? ⟨B, 0, none⟩ = some (.bool false) := by rw [hk1 _ _ (by (first | omega | (simp; done) | (simp; omega)))]; first | exact F0 | (first | (go_simp; done) | (simp [*, go_sem, World.cell?_alloc_past]; done) | (simp [*, go_sem, World.cell?_alloc_past, World.cell?_setCell_far]; done))
         have G1 : u1.cell? ⟨B, 1, none⟩ = some (.int .u64 (hiOf false n)) := by rw [hk1 _ _ (by (first | omega | (simp; done) | (simp; omega)))]; first | exact F1 | (first | (go_simp; done) | (simp [*, go_sem, World.cell?_alloc_past]; done) | (simp [*, go_sem, World.cell?_alloc_past, World.cell?_setCell_far]; done))
         have G2 : u1.cell? ⟨B, 2, none⟩ = some (.int .u64 (loOf n)) := by rw [hk1 _ _ (by (first | omega | (simp; done) | (simp; omega)))]; first | exact F2 | (first | (go_simp; done) | (simp [*, go_sem, World.cell?_alloc_past]; done) | (simp [*, go_sem, World.cell?_alloc_past, World.cell?_setCell_far]; done))
         have G3 : u1.cell? ⟨B, 3, none⟩ = some (.bool false) := by rw [hk1 _ _ (by (first | omega | (simp; done) | (simp; omega)))]; first | exact F3 | (first | (go_simp; done) | (simp [*, go_sem, World.cell?_alloc_past]; done) | (simp [*, go_sem, World.cell?_alloc_past, World.cell?_setCell_far]; done))
         have G4 : u1.cell? ⟨B, 4, none⟩ = some (.int .u64 (hiOf false m)) := by rw [hk1 _ _ (by (first | omega | (simp; done) | (simp; omega)))]; first | exact F4 | (first | (go_simp; done) | (simp [*, go_sem, World.cell?_alloc_past]; done) | (simp [*, go_sem, World.cell?_alloc_past, World.cell?_setCell_far]; done))
         have G5 : u1.cell? ⟨B, 5, none⟩ = some (.int .u64 (loOf m)) := by rw [hk1 _ _ (by (first | omega | (simp; done) | (simp; omega)))]; first | exact F5 | (first | (go_simp; done) | (simp [*, go_sem, World.cell?_alloc_past]; done) | (simp [*, go_sem, World.cell?_alloc_past, World.cell?_setCell_far]; done))
         clear hown hk1 hg1)
      | (refine step_append_rows rfl (.tmp 40) (.tmp 41) 66 78 9 72 _ rfl eiMatch _ _ _ rfl HO1.out _ _ rfl (FR.out.below (by (repeat' (first | (with_reducible exact Below.refl _ _) | (with_reducible assumption) | (with_reducible refine Below.alloc ?_ ?_ _) | (with_reducible refine Below.drew ?_) | (with_reducible refine Below.stepG ?_ (by assumption) ?_) | (with_reducible refine Below.setCell ?_ ?_ _) | omega | (dsimp only; omega) | (simp; done) | (simp; omega))))) (by intro c hc; obtain ⟨r, _, rfl⟩ := List.mem_map.1 hc; exact matchCells_one r) (by simp; omega) (by decide) (by simp; omega) ?_
         intro v2 u2 hown hd2
         have hd3 : Below w6.heap.size w6 u2 := by (repeat' (first | (with_reducible exact Below.refl _ _) | (with_reducible assumption) | (with_reducible refine Below.alloc ?_ ?_ _) | (with_reducible refine Below.drew ?_) | (with_reducible refine Below.stepG ?_ (by assumption) ?_) | (with_reducible refine Below.setCell ?_ ?_ _) | omega | (dsimp only; omega) | (simp; done) | (simp; omega)))
         rw [← List.map_append] at hown
         obtain ⟨xs5, hxs5⟩ : ∃ x : List MatchD, x = ms ++ more := ⟨_, rfl⟩
         rw [← hxs5] at hown
         have HX5 := Lib.hid hxs5
         clear hxs5
         obtain ⟨a5, cap5, rfl⟩ := hown.shape
         rw [List.length_map] at hown ⊢
         obtain ⟨hk3, hg3⟩ := bcell hd3; have hy3 := hd3.size
         have HO2 := Lib.hid hown
         have hBu2 : B < u2.heap.size := by omega
         have K0 : u2.cell? ⟨B, 0, none⟩ = some (.bool false) := by rw [hk3 _ _ (by (first | omega | (simp; done) | (simp; omega)))]; first | exact F0 | (first | (go_simp; done) | (simp [*, go_sem, World.cell?_alloc_past]; done) | (simp [*, go_sem, World.cell?_alloc_past, World.cell?_setCell_far]; done))
         have K1 : u2.cell? ⟨B, 1, none⟩ = some (.int .u64 (hiOf false n)) := by rw [hk3 _ _ (by (first | omega | (simp; done) | (simp; omega)))]; first | exact F1 | (first | (go_simp; done) | (simp [*, go_sem, World.cell?_alloc_past]; done) | (simp [*, go_sem, World.cell?_alloc_past, World.cell?_setCell_far]; done))
         have K2 : u2.cell? ⟨B, 2, none⟩ = some (.int .u64 (loOf n)) := by rw [hk3 _ _ (by (first | omega | (simp; done) | (simp; omega)))]; first | exact F2 | (first | (go_simp; done) | (simp [*, go_sem, World.cell?_alloc_past]; done) | (simp [*, go_sem, World.cell?_alloc_past, World.cell?_setCell_far]; done))
         have K3 : u2.cell? ⟨B, 3, none⟩ = some (.bool false) := by rw [hk3 _ _ (by (first | omega | (simp; done) | (simp; omega)))]; first | exact F3 | (first | (go_simp; done) | (simp [*, go_sem, World.cell?_alloc_past]; done) | (simp [*, go_sem, World.cell?_alloc_past, World.cell?_setCell_far]; done))
         have K4 : u2.cell? ⟨B, 4, none⟩ = some (.int .u64 (hiOf false m)) := by rw [hk3 _ _ (by (first | omega | (simp; done) | (simp; omega)))]; first | exact F4 | (first | (go_simp; done) | (simp [*, go_sem, World.cell?_alloc_past]; done) | (simp [*, go_sem, World.cell?_alloc_past, World.cell?_setCell_far]; done))
         have K5 : u2.cell? ⟨B, 5, none⟩ = some (.int .u64 (loOf m)) := by rw [hk3 _ _ (by (first | omega | (simp; done) | (simp; omega)))]; first | exact F5 | (first | (go_simp; done) | (simp [*, go_sem, World.cell?_alloc_past]; done) | (simp [*, go_sem, World.cell?_alloc_past, World.cell?_setCell_far]; done))
         clear hown hk3 hg3)
      | (go_simp; refine (C2.out _ HX5.out _ _ _ HO2.out.sl).mono ?_; rintro e w7 ⟨rfl, hb7⟩; (repeat (with_reducible (replace hb7 := Below.undrew hb7)))))
    all_goals (have hd9 : Below w6.heap.size w6 w7 := hd3.trans (hb7.mono hy3))
    all_goals (go_wp2_with fail; go_simp; go_meet; exact ⟨rfl, rfl, rfl, hd9⟩)
  case rest =>
    obtain ⟨rfl, rfl, rfl, HB⟩ := hcut
    have hbx := HB.out
    have hzx := hbx.size
    have G0 := (hbx.cell (p := ⟨B, 0, none⟩) FS).trans F0
    have G1 := (hbx.cell (p := ⟨B, 1, none⟩) FS).trans F1
    have G2 := (hbx.cell (p := ⟨B, 2, none⟩) FS).trans F2
    have G3 := (hbx.cell (p := ⟨B, 3, none⟩) FS).trans F3
    have G4 := (hbx.cell (p := ⟨B, 4, none⟩) FS).trans F4
    have G5 := (hbx.cell (p := ⟨B, 5, none⟩) FS).trans F5
    have hbw : Below w.heap.size w wc := FB.out.trans (hbx.mono hz0)
    have HRc := Lib.hid (FR.out.below hbx)
    clear F0 F1 F2 F3 F4 F5 HB hbx FR FM C2 FB
    go_wp2_with fail
    refine (C3.out _ HRc.out).mono ?_; rintro e w7 ⟨rfl, hb7⟩; (repeat (with_reducible (replace hb7 := Below.undrew hb7))); obtain ⟨hc7, hf7⟩ := bcell hb7; have hz7 := hb7.size; (repeat (first | rw [World.size_alloc] at hz7 | rw [World.size_drew] at hz7 | rw [World.size_setCell] at hz7)); (try have : w.heap.size < w7.heap.size := by omega); (try have : w1.heap.size < w7.heap.size := by omega); (try have : w2.heap.size < w7.heap.size := by omega); (try have : w3.heap.size < w7.heap.size := by omega); (try have : w4.heap.size < w7.heap.size := by omega); (try have : w5.heap.size < w7.heap.size := by omega)
    have hbe : Below w.heap.size w w7 := hbw.trans (hb7.mono (by omega))
    rcases HCM.out with ⟨k1, k2, k3⟩ | ⟨rfl, k2, k3⟩
    · subst k2 k3
      go_wp2
      all_goals go_returns
      all_goals exact ⟨rfl, hbe⟩
    · subst k2
      rcases k3 with rfl | rfl
      · go_wp2
        all_goals go_returns
        all_goals exact ⟨rfl, hbe⟩
      · go_wp2
        all_goals go_returns
        all_goals exact ⟨rfl, hbe⟩
end Go.Proofs.Ytlcacocecdnpnaa
