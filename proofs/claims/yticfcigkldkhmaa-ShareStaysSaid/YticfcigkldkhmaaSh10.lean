
/- Shares: the laws' makers Shares, counted, weightOf. -/
import Derived.Test.YticfcigkldkhmaaSh9
set_option linter.unusedVariables false
set_option linter.unusedSimpArgs false
namespace Go.Proofs.Yticfcigkldkhmaa
open Go Go.RowKit Go.Sort Wc Wk

theorem eiShare : EI Try.prog 66 73 2 16 (.agg #[.int .i64 0, .int .i64 0]) := ⟨by kernel_rfl, by kernel_rfl, rfl, by decide⟩
theorem counted_any (a : Option Addr) (cap n hop : Nat) (xs : List Nat) (w : World) (hn : n = xs.length) (hs : Sl w 1 (.slice a n cap) (xs.map nC)) (hb : n ≤ 1000) :
    Calls Try.prog 34 #[.slice a n cap, .int .i64 hop] w fun e w' => e = .returned (.int .i64 (xs.count hop : Nat)) ∧ w = w' := by
  have HS := Lib.hid hs
  have HN := Lib.hid hn
  have h1 := hs.lens.2.1
  have h2 := hs.lens.2.2
  clear hs hn
  go_enter Try.func34, Try.ntmps34
  go_wp2_with fail
  go_loopw [5, 6] (fun c i wr => ∃ m k : Nat, m ≤ n ∧ k ≤ m ∧ i = .int .i64 m ∧ c = .int .i64 k ∧ Hid (k = (xs.take m).count hop) ∧ wr = w) (fun _ i _ => n - (intOf i).toNat)
  case atStart => exact ⟨0, 0, Nat.zero_le _, Nat.le_refl _, rfl, rfl, by show _ = _; simp, rfl⟩
  case round =>
    obtain ⟨m, k, hm, hk, rfl, rfl, HK, rfl⟩ := hrel
    by_cases hlt : m < n
    · obtain ⟨bl, off, rfl, hbl, c0⟩ := Sl.nat HS.out (Below.refl _ _) (i := m) (by have := HN.out; omega)
      obtain ⟨x, hx⟩ : ∃ x, x = xs.getD m 0 := ⟨_, rfl⟩
      rw [← hx] at c0
      have hcs : (xs.take (m + 1)).count hop = k + if x = hop then 1 else 0 := by
        rw [take_snoc xs (by have := HN.out; omega), List.count_append, ← HK.out, ← hx, List.count_singleton]
        by_cases e : x = hop
        · simp [e]
        · simp [e]
      have HCS := Lib.hid hcs
      clear hcs hx
      by_cases e : x = hop
      · subst e
        have hc2 := HCS.out
        rw [if_pos rfl] at hc2
        have HC2 := Lib.hid hc2
        clear hc2 HCS
        go_wp2_with fail
        go_roundw
        case rel => exact ⟨m + 1, k + 1, by omega, by omega, by go_num, by go_num, HC2.out.symm, by first | rfl | trivial⟩
        case measure => simp [intOf]; omega
      · have hc2 := HCS.out
        rw [if_neg e] at hc2
        have HC2 := Lib.hid hc2
        have ei : ¬ (x : Int) = (hop : Int) := by omega
        clear hc2 HCS
        go_wp2_with fail
        go_roundw
        case rel => exact ⟨m + 1, k, by omega, by omega, by go_num, rfl, HC2.out.symm, by first | rfl | trivial⟩
        case measure => simp [intOf]; omega
    · obtain rfl : m = n := by omega
      go_wp2_with fail
      go_returns
      have hk := HK.out
      rw [List.take_of_length_le (by have := HN.out; omega)] at hk
      exact ⟨by rw [hk]; rfl, rfl⟩
theorem weight_any (a : Option Addr) (cap n : Nat) (l : List (Nat × Nat)) (w : World) (hn : n = l.length) (hs : Sl w 2 (.slice a n cap) (l.map shCells)) (hb : n ≤ 1000) (hw : ∀ x ∈ l, 1 ≤ x.2 ∧ x.2 ≤ 20) :
    Calls Try.prog 33 #[.slice a n cap] w fun e w' => e = .returned (.int .i64 ((l.map (·.2)).sum : Nat)) ∧ w = w' := by
  have HS := Lib.hid hs
  have HN := Lib.hid hn
  have HW := Lib.hid hw
  have h1 := hs.lens.2.1
  have h2 := hs.lens.2.2
  clear hs hn hw
  go_enter Try.func33, Try.ntmps33
  go_wp2_with fail
  go_loopw [3, 4] (fun c i wr => ∃ m k : Nat, m ≤ n ∧ k ≤ 20 * m ∧ i = .int .i64 m ∧ c = .int .i64 k ∧ Hid (k = ((l.take m).map (·.2)).sum) ∧ wr = w) (fun _ i _ => n - (intOf i).toNat)
  case atStart => exact ⟨0, 0, Nat.zero_le _, Nat.le_refl _, rfl, rfl, by show _ = _; simp, rfl⟩
  case round =>
    obtain ⟨m, k, hm, hk, rfl, rfl, HK, rfl⟩ := hrel
    by_cases hlt : m < n
    · obtain ⟨x, hx⟩ : ∃ x, l[m]? = some x := ⟨_, List.getElem?_eq_getElem (by have := HN.out; omega)⟩
      obtain ⟨bl, off, rfl, hbl, d0, d1⟩ := Sl.share HS.out (Below.refl _ _) hx
      have hwx := HW.out x (List.mem_of_getElem? hx)
      have hsn := sum_snoc l m x hx
      rw [← HK.out] at hsn
      have HSN := Lib.hid hsn
      clear hx hsn
      go_wp2_with fail
      go_roundw
      case rel => exact ⟨m + 1, k + x.2, by omega, by omega, by go_num, by go_num, HSN.out.symm, by first | rfl | trivial⟩
      case measure => simp [intOf]; omega
    · obtain rfl : m = n := by omega
      go_wp2_with fail
      go_returns
      have hk := HK.out
      rw [List.take_of_length_le (by have := HN.out; omega)] at hk
      exact ⟨by rw [hk]; rfl, rfl⟩

theorem sh_one (l : List (Nat × Nat)) (h p : Nat) (hl : l.length < 16) (hok : ShOk l) (h1 : 1 ≤ h ∧ h ≤ 999) (hp : 1 ≤ p ∧ p ≤ 20) (hf : ∀ j, j < l.length → (l.map (·.1)).getD j 0 ≠ h) : ShOk (l ++ [(h, p)]) := by
  refine ⟨by simp, by simp; omega, fun x hx => ?_, fun x hx => ?_, ?_⟩
  · rcases List.mem_append.1 hx with hx | hx
    · exact hok.hop x hx
    · simp at hx; subst hx; exact h1
  · rcases List.mem_append.1 hx with hx | hx
    · exact hok.wt x hx
    · simp at hx; subst hx; exact hp
  · rw [List.map_append, List.nodup_append]
    refine ⟨hok.keys, by simp, fun x hx y hy => ?_⟩
    simp at hy
    subst hy
    obtain ⟨j, hj, rfl⟩ := List.getElem_of_mem hx
    have := hf j (by simpa using hj)
    rw [getD_eq hj] at this
    exact this
def RetSh (w : World) (n : Nat) (e : Ending) (w' : World) : Prop := ∃ v sh, e = .returned v ∧ Below w.heap.size w w' ∧ Wk.Own w' w.heap.size 73 2 v (sh.map shCells) ∧ ShOk sh ∧ sh.length ≤ n
theorem own_lit1 (w : World) (e : TypeId) (sz B : Nat) (c : List Value) (hc : c.length = sz) (hB : B ≤ w.heap.size) : Wk.Own (w.alloc (.cells c.toArray e)) B e sz (.slice (some ⟨w.heap.size, 0, none⟩) 1 1) [c] := by
  refine ⟨by simpa using hc, ?_⟩
  have := World.ownsRow_lit (e := e) (size := sz) w c.toArray 1 hB (by unfold maxLen; omega) (by simp [hc])
  simpa using this
theorem sh_head (h p : Nat) (h1 : 1 ≤ h ∧ h ≤ 999) (hp : 1 ≤ p ∧ p ≤ 20) : ShOk [(h, p)] :=
  ⟨by simp, by simp, fun x hx => by simp at hx; subst hx; exact h1, fun x hx => by simp at hx; subst hx; exact hp, by simp⟩


set_option maxHeartbeats 4000000 in
set_option maxRecDepth 100000 in
theorem shares_any (a : Option Addr) (len cap : Nat) (zs : List Int) (n : Nat) (w : World) (h : IsRow .i64 w a len cap zs) (hn1 : 1 ≤ n) (hn : n ≤ 16) :
    Calls Try.prog 31 #[.slice a len cap, .int .i64 n] w (RetSh w n) := by
  obtain ⟨hlm, hlz⟩ := h.len_le
  obtain ⟨p0, hp0⟩ := Int.eq_ofNat_of_zero_le (Int.emod_nonneg (len : Int) (show (5 : Int) ≠ 0 by decide))
  have hp1 := Int.emod_lt_of_pos (len : Int) (show (0 : Int) < 5 by decide)
  have P0 := Lib.hid (fun w => picked_any (len : Int) 5 w (by decide) (by decide))
  rw [hp0] at P0 hp1
  have hp2 : p0 < 5 := by omega
  have HR := Lib.hid h
  clear h hp0 hp1
  go_enter Try.func31, Try.ntmps31
  go_wp2_with (first | ((with_reducible refine (P0.out _).mono ?_); rintro e w' ⟨rfl, rfl⟩))
  go_loopw [5, 6] (fun v i wr => ∃ (m : Nat) (sh : List (Nat × Nat)), m ≤ len ∧ i = .int .i64 m ∧ sh.length ≤ n ∧ Hid (ShOk sh) ∧ Hid (Below w.heap.size w wr) ∧ Hid (Wk.Own wr w.heap.size 73 2 v (sh.map shCells))) (fun _ i _ => len - (intOf i).toNat)
  case atStart =>
    have ho := own_lit1 w 73 2 w.heap.size (shCells (100, 1 + p0)) rfl (Nat.le_refl _)
    have e1 : ((1 + p0 : Nat) : Int) = 1 + (p0 : Int) := by omega
    unfold shCells at ho
    dsimp only at ho
    rw [e1] at ho
    exact ⟨0, [(100, 1 + p0)], Nat.zero_le _, rfl, by simpa using hn1, sh_head 100 (1 + p0) (by omega) (by omega), Below.alloc (Below.refl _ _) (Nat.le_refl _) _, ho⟩
  case round =>
    obtain ⟨m, sh, hm, rfl, hsn, HOK, HB, HO⟩ := hrel
    obtain ⟨av, capv, rfl⟩ := HO.out.shape
    have ho := HO.out
    rw [List.length_map] at ho ⊢
    have HO := Lib.hid ho
    obtain ⟨k1, k2, k3⟩ := own_lens ho
    clear ho k1
    by_cases hlt : m < len
    · by_cases hlt2 : sh.length < n
      · obtain ⟨b, off, rfl, hbk, hcs⟩ := HR.out.opened (by omega)
        obtain ⟨hc, x0, x1⟩ := hcs m hlt
        have hcr := (HB.out.cell (p := ⟨b, off + m, none⟩) hbk).trans hc
        generalize zs.getD m 0 = x at *
        obtain ⟨r, hr⟩ := Int.eq_ofNat_of_zero_le (Int.emod_nonneg x (show (40 : Int) ≠ 0 by decide))
        obtain ⟨q, hq⟩ := Int.eq_ofNat_of_zero_le (Int.emod_nonneg (x.tdiv 40) (show (20 : Int) ≠ 0 by decide))
        have r1 := Int.emod_lt_of_pos x (show (0 : Int) < 40 by decide)
        have q1 := Int.emod_lt_of_pos (x.tdiv 40) (show (0 : Int) < 20 by decide)
        have P1 := Lib.hid (fun w => picked_any x 40 w (by decide) (by decide))
        have P2 := Lib.hid (fun w => picked_any (x.tdiv 40) 20 w (by decide) (by decide))
        rw [hr] at P1 r1
        rw [hq] at P2 q1
        clear hr hq hcs hc
        have hzr := HB.out.size
        go_wp2_with (first | ((with_reducible refine (P1.out _).mono ?_); rintro e w' ⟨rfl, rfl⟩))
        go_loopw [8, 9] (fun fr kk wr2 => ∃ (k : Nat) (b : Bool), k ≤ sh.length ∧ kk = .int .i64 k ∧ fr = .bool b ∧ Hid (b = true → ∀ j, j < k → (sh.map (·.1)).getD j 0 ≠ 1 + r) ∧ wr2 = wr) (fun _ k _ => sh.length - (intOf k).toNat)
        case atStart => exact ⟨0, true, Nat.zero_le _, rfl, rfl, fun _ j hj => absurd hj (Nat.not_lt_zero _), rfl⟩
        case round =>
          obtain ⟨k, fb, hk, rfl, rfl, HF, rfl⟩ := hrel
          by_cases hlt3 : k < sh.length
          · obtain ⟨y, hy⟩ : ∃ y, sh[k]? = some y := ⟨_, List.getElem?_eq_getElem hlt3⟩
            obtain ⟨g, off2, hge, hlg, d0, d1⟩ := Sl.share HO.out.sl (Below.refl _ _) hy
            subst hge
            have ey : (sh.map (·.1)).getD k 0 = y.1 := by rw [List.getD_eq_getElem?_getD, List.getElem?_map, hy]; rfl
            have HY := Lib.hid ey
            clear hy ey
            cases fb with
            | false =>
              go_wp2_with fail
              go_roundw
              case rel => exact ⟨k + 1, false, by omega, by go_num, rfl, fun h => (by cases h), by first | rfl | trivial⟩
              case measure => simp [intOf]; omega
            | true =>
              by_cases hyr : y.1 = 1 + r
              · have hyi : (y.1 : Int) = 1 + (r : Int) := by omega
                go_wp2_with fail
                go_roundw
                case rel => exact ⟨k + 1, false, by omega, by go_num, rfl, fun h => (by cases h), by first | rfl | trivial⟩
                case measure => simp [intOf]; omega
              · have hyi : ¬ (y.1 : Int) = 1 + (r : Int) := by omega
                have HYR := Lib.hid hyr
                clear hyr
                go_wp2_with fail
                go_roundw
                case rel =>
                  refine ⟨k + 1, true, by omega, by go_num, (by congr 1; exact bne_iff_ne.2 hyi), fun _ j hj => ?_, by first | rfl | trivial⟩
                  rcases Nat.lt_or_ge j k with h' | h'
                  · exact HF.out rfl j h'
                  · obtain rfl : j = k := by omega
                    rw [HY.out]; exact HYR.out
                case measure => simp [intOf]; omega
          · obtain rfl : k = sh.length := by omega
            cases fb with
            | false =>
              go_wp2_with fail
              go_roundw
              case rel => exact ⟨m + 1, sh, by omega, by go_num, hsn, HOK.out, HB.out, HO.out⟩
              case measure => simp [intOf]; omega
            | true =>
              have SN : Hid (∀ W : World, Sl (W.alloc (.cells #[.int .i64 (1 + (r : Int)), .int .i64 (1 + (q : Int))] 73)) 2 (.slice (some ⟨W.heap.size, 0, none⟩) 1 1) ([(1 + r, 1 + q)].map shCells)) := fun W => by
                have := sl_new (W := W) (sz := 2) (c := shCells (1 + r, 1 + q)) (E := 73) rfl rfl
                unfold shCells at this
                dsimp only at this
                rw [show ((1 + r : Nat) : Int) = 1 + (r : Int) by omega, show ((1 + q : Nat) : Int) = 1 + (q : Int) by omega] at this
                simpa [shCells] using this
              have HN1 := Lib.hid (sh_one sh (1 + r) (1 + q) (by omega) HOK.out (by omega) (by omega) (HF.out rfl))
              go_wp2_with (first | ((with_reducible refine (P2.out _).mono ?_); rintro e w' ⟨rfl, rfl⟩) | (at_builtin; refine stop_at ?_; intro G hG))
              rw [← hG.out]; clear hG G
              refine wpList_append_any rfl _ _ 66 73 2 16 _ rfl eiShare w.heap.size _ ((sh).map shCells) rfl (by ((repeat (first | (with_reducible refine Wk.Own.alloc ?_ _) | (with_reducible refine Wk.Own.dr ?_))); exact HO.out)) _ (([(1 + r, 1 + q)]).map shCells) rfl (by exact SN.out _) (by intro c hc; obtain ⟨r, _, rfl⟩ := List.mem_map.1 hc; exact shCells_one r) (by skip; first | omega | (simp; omega)) (by decide) (by first | omega | (simp; done) | (simp; omega)) ?_
              intro v6 w6 hown6 hb6
              rw [← List.map_append] at hown6
              obtain ⟨xs6, hxs6⟩ : ∃ x : List (Nat × Nat), x = (sh) ++ ([(1 + r, 1 + q)]) := ⟨_, rfl⟩
              rw [← hxs6] at hown6
              have hl6 : xs6.length = (sh).length + ([(1 + r, 1 + q)]).length := by rw [hxs6, List.length_append]
              have HX6 := Lib.hid hxs6
              clear hxs6
              have HL6 := Lib.hid hl6
              clear hl6
              obtain ⟨a6, cap6, rfl⟩ := hown6.shape
              rw [List.length_map] at hown6 ⊢
              have HO6 := Lib.hid hown6
              clear hown6
              obtain ⟨hc6, hf6⟩ := bcellB hb6; have hz6 := hb6.size; (repeat (first | rw [World.size_alloc] at hz6 | rw [World.size_drew] at hz6 | rw [World.size_setCell] at hz6)); (try have : w.heap.size < w6.heap.size := by omega); (try have : w.heap.size < w6.heap.size + 1 := by omega); (try have : w.heap.size < w6.heap.size + 1 + 1 := by omega); (try have : w.heap.size < w6.heap.size + 1 + 1 + 1 := by omega)
              go_wp2_with fail
              go_roundw
              case rel => exact ⟨m + 1, xs6, by omega, by go_num, by rw [HL6.out]; simp; omega, by rw [HX6.out]; exact HN1.out, Lib.hid (HB.out.trans (Below.trans (by (repeat' (first | (with_reducible exact Below.refl _ _) | (with_reducible assumption) | (with_reducible refine Below.alloc ?_ ?_ _) | (with_reducible refine Below.drew ?_) | (with_reducible refine Below.stepG ?_ (by assumption) ?_) | (with_reducible refine Below.setCell ?_ ?_ _) | omega | (dsimp only; omega) | (simp; done) | (simp; omega)))) hb6)), HO6.out⟩
              case measure => simp [intOf]; omega
      · have hd : ¬ (sh.length : Int) < n := by omega
        go_wp2_with fail
        go_returns
        exact ⟨_, sh, rfl, HB.out, HO.out, HOK.out, hsn⟩
    · go_wp2_with fail
      go_returns
      exact ⟨_, sh, rfl, HB.out, HO.out, HOK.out, hsn⟩
end Go.Proofs.Yticfcigkldkhmaa
