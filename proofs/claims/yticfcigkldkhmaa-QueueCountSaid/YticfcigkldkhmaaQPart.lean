
/- QueueParts: the walk. -/
import Derived.Test.YticfcigkldkhmaaQ6
import Derived.Test.YticfcigkldkhmaaQ7
set_option linter.unusedVariables false
namespace Go.Proofs.Yticfcigkldkhmaa
open Go Go.RowKit Go.Sort Wc Wk

theorem Dones.at {w : World} {B : Nat} {v : Value} {ds : List DoneD} {vs : List Value} (h : Dones w B v ds vs) {i : Nat} {d : DoneD} (hd : ds[i]? = some d) :
    ∃ g cap a c, v = .slice (some ⟨g, 0, none⟩) ds.length cap ∧ g < w.heap.size ∧ B ≤ g ∧ w.cell? ⟨g, i * 3, none⟩ = some (.int .i64 (d.code : Nat)) ∧ w.cell? ⟨g, i * 3 + 1, none⟩ = some (.bool d.merged) ∧
      w.cell? ⟨g, i * 3 + 2, none⟩ = some (.slice a d.acts.length c) ∧ Own w B 35 9 (.slice a d.acts.length c) (d.acts.map actCells) := by
  have hi := (List.getElem?_eq_some_iff.1 hd).1
  have hu : vs[i]? = some (vs[i]'(by rw [h.len]; exact hi)) := List.getElem?_eq_getElem _
  generalize vs[i]'(by rw [h.len]; exact hi) = u at hu
  have ho := h.acts i d u hd hu
  have hz : (List.zipWith doneCells ds vs)[i]? = some (doneCells d u) := by rw [List.getElem?_zipWith, hd, hu]
  obtain ⟨g, cap, hv, hg1, hg2, _, _, _, hc⟩ := h.own.at (Nat.lt_of_le_of_lt (Nat.zero_le i) (List.getElem?_eq_some_iff.1 hz).1)
  obtain ⟨a, c, rfl⟩ := ho.shape
  rw [List.length_map] at ho hz
  refine ⟨g, cap, a, c, ?_, hg2, hg1, hc i _ hz 0 _ rfl, hc i _ hz 1 _ rfl, hc i _ hz 2 _ rfl, ho⟩
  rw [hv, List.length_zipWith, h.len, Nat.min_self]
/-- A Done of what was played, read from a later world. -/
theorem Dones.opened {w w' : World} {B : Nat} {b : Option Addr} {n cap : Nat} {ds : List DoneD} {vs : List Value} (h : Dones w B (.slice b n cap) ds vs) (hb : Below w.heap.size w w') {i : Nat} {d : DoneD} (hd : ds[i]? = some d) :
    ∃ g a c, b = some ⟨g, 0, none⟩ ∧ g < w.heap.size ∧ w'.cell? ⟨g, i * 3, none⟩ = some (.int .i64 (d.code : Nat)) ∧ w'.cell? ⟨g, i * 3 + 1, none⟩ = some (.bool d.merged) ∧
      w'.cell? ⟨g, i * 3 + 2, none⟩ = some (.slice a d.acts.length c) ∧ Own w' B 35 9 (.slice a d.acts.length c) (d.acts.map actCells) := by
  obtain ⟨g, cap', a, c, hv, hg, _, h0, h1, h2, ho⟩ := h.at hd
  simp only [Value.slice.injEq] at hv
  obtain ⟨rfl, _, _⟩ := hv
  exact ⟨g, a, c, rfl, hg, (hb.cell (p := ⟨g, i * 3, none⟩) hg).trans h0, (hb.cell (p := ⟨g, i * 3 + 1, none⟩) hg).trans h1, (hb.cell (p := ⟨g, i * 3 + 2, none⟩) hg).trans h2, ho.below hb⟩


set_option maxRecDepth 100000 in
set_option maxHeartbeats 1000000 in
theorem queueParts_walk (a0 : Option Addr) (len0 cap0 : Nat) (z0 : List RawJ) (a1 : Option Addr) (len1 cap1 : Nat) (z1 : List RawJ) (w : World) (h0 : IsJobs w a0 len0 cap0 z0) (h1 : IsJobs w a1 len1 cap1 z1) :
    Calls Try.prog 4 #[.slice a0 len0 cap0, .slice a1 len1 cap1] w fun e w' => e = .returned (.bool true) ∧ Below w.heap.size w w' := by
  have H0 := Lib.hid h0
  have H1 := Lib.hid h1
  clear h0 h1
  go_enter Try.func4, Try.ntmps4
  go_wp2_with fail
  refine (queue_any a0 len0 cap0 z0 40 w H0.out (by decide)).mono ?_
  rintro e w1 ⟨v1, qs, rfl, HO1', HQ1, HL1, hb1⟩
  (repeat (with_reducible (replace hb1 := Below.undrew hb1))); obtain ⟨hc1, hf1⟩ := bcell hb1; have hz1 := hb1.size; (repeat (first | rw [World.size_alloc] at hz1 | rw [World.size_drew] at hz1 | rw [World.size_setCell] at hz1)); (try have : w.heap.size < w1.heap.size := by omega); (try have : w.heap.size < w1.heap.size + 1 := by omega); (try have : w.heap.size < w1.heap.size + 1 + 1 := by omega); (try have : w.heap.size < w1.heap.size + 1 + 1 + 1 := by omega)
  obtain ⟨va, vc, rfl⟩ := HO1'.shape
  rw [List.length_map] at HO1' ⊢
  have HO1 := Lib.hid HO1'
  have HK1 := Lib.hid HQ1
  have HN1 := Lib.hid HL1
  clear HO1' HQ1 HL1
  go_wp2_with (at_builtin; refine stop_at ?_; intro G hG)
  rw [← hG.out]; clear hG G
  refine wpList_append_any rfl _ _ 23 37 11 88 _ rfl eiJob (w.heap.size) _ ((qs).map jobCells) rfl (HO1.out.alloc _) _ (([(⟨false, actZ, 8⟩ : JobD)]).map jobCells) rfl (sl_new (c := jobCells ⟨false, actZ, 8⟩) (by simp) rfl) (by intro c hc; obtain ⟨r, _, rfl⟩ := List.mem_map.1 hc; exact jobCells_one r) (by have := HN1.out; simp; first | omega | (simp; omega)) (by decide) (by first | omega | (simp; done) | (simp; omega)) ?_
  intro v2 w2 hown2 hb2
  rw [← List.map_append] at hown2
  obtain ⟨xs2, hxs2⟩ : ∃ x : List JobD, x = (qs) ++ ([(⟨false, actZ, 8⟩ : JobD)]) := ⟨_, rfl⟩
  rw [← hxs2] at hown2
  have hl2 : xs2.length = (qs).length + ([(⟨false, actZ, 8⟩ : JobD)]).length := by rw [hxs2, List.length_append]
  have HX2 := Lib.hid hxs2
  clear hxs2
  have HL2 := Lib.hid hl2
  clear hl2
  obtain ⟨a2, cap2, rfl⟩ := hown2.shape
  rw [List.length_map] at hown2 ⊢
  have HO2 := Lib.hid hown2
  clear hown2
  obtain ⟨hc2, hf2⟩ := bcellB hb2; have hz2 := hb2.size; (repeat (first | rw [World.size_alloc] at hz2 | rw [World.size_drew] at hz2 | rw [World.size_setCell] at hz2)); (try have : w.heap.size < w2.heap.size := by omega); (try have : w.heap.size < w2.heap.size + 1 := by omega); (try have : w.heap.size < w2.heap.size + 1 + 1 := by omega); (try have : w.heap.size < w2.heap.size + 1 + 1 + 1 := by omega)
  go_wp2_with fail
  have hb12 : Below w.heap.size w w2 := by (repeat' (first | (with_reducible exact Below.refl _ _) | (with_reducible assumption) | (with_reducible refine Below.alloc ?_ ?_ _) | (with_reducible refine Below.drew ?_) | (with_reducible refine Below.stepG ?_ (by assumption) ?_) | (with_reducible refine Below.setCell ?_ ?_ _) | omega | (dsimp only; omega) | (simp; done) | (simp; omega)))
  refine (queue_any a1 len1 cap1 z1 40 w2 (H1.out.below hb12) (by decide)).mono ?_
  rintro e w3 ⟨v3, ps, rfl, HO3', HQ3, HL3, hb3⟩
  (repeat (with_reducible (replace hb3 := Below.undrew hb3))); obtain ⟨hc3, hf3⟩ := bcell hb3; have hz3 := hb3.size; (repeat (first | rw [World.size_alloc] at hz3 | rw [World.size_drew] at hz3 | rw [World.size_setCell] at hz3)); (try have : w.heap.size < w3.heap.size := by omega); (try have : w.heap.size < w3.heap.size + 1 := by omega); (try have : w.heap.size < w3.heap.size + 1 + 1 := by omega); (try have : w.heap.size < w3.heap.size + 1 + 1 + 1 := by omega)
  obtain ⟨pa, pc, rfl⟩ := HO3'.shape
  rw [List.length_map] at HO3' ⊢
  have HO3 := Lib.hid HO3'
  have HK3 := Lib.hid HQ3
  have HN3 := Lib.hid HL3
  clear HO3' HQ3 HL3
  have HS2 := Lib.hid (HO2.out.below hb3).sl
  go_wp2_with (at_builtin; refine stop_at ?_; intro G hG)
  rw [← hG.out]; clear hG G
  refine wpList_append_any rfl _ _ 23 37 11 88 _ rfl eiJob (w3.heap.size) _ ((([] : List JobD)).map jobCells) rfl (Own.nil _ _ _ _) _ ((xs2).map jobCells) rfl (HS2.out) (by intro c hc; obtain ⟨r, _, rfl⟩ := List.mem_map.1 hc; exact jobCells_one r) (by have h1 := HL2.out; have h2 := HN1.out; (try simp at h1); simp; first | omega | (simp; omega)) (by decide) (by first | omega | (simp; done) | (simp; omega)) ?_
  intro v4 w4 hown4 hb4
  rw [← List.map_append] at hown4
  obtain ⟨xs4, hxs4⟩ : ∃ x : List JobD, x = (([] : List JobD)) ++ (xs2) := ⟨_, rfl⟩
  rw [← hxs4] at hown4
  have hl4 : xs4.length = (([] : List JobD)).length + (xs2).length := by rw [hxs4, List.length_append]
  have HX4 := Lib.hid hxs4
  clear hxs4
  have HL4 := Lib.hid hl4
  clear hl4
  obtain ⟨a4, cap4, rfl⟩ := hown4.shape
  rw [List.length_map] at hown4 ⊢
  have HO4 := Lib.hid hown4
  clear hown4
  obtain ⟨hc4, hf4⟩ := bcellB hb4; have hz4 := hb4.size; (repeat (first | rw [World.size_alloc] at hz4 | rw [World.size_drew] at hz4 | rw [World.size_setCell] at hz4)); (try have : w.heap.size < w4.heap.size := by omega); (try have : w.heap.size < w4.heap.size + 1 := by omega); (try have : w.heap.size < w4.heap.size + 1 + 1 := by omega); (try have : w.heap.size < w4.heap.size + 1 + 1 + 1 := by omega)
  have HS3 := Lib.hid (HO3.out.below hb4).sl
  go_wp2_with (at_builtin; refine stop_at ?_; intro G hG)
  rw [← hG.out]; clear hG G
  refine wpList_append_any rfl _ _ 23 37 11 88 _ rfl eiJob (w3.heap.size) _ ((xs4).map jobCells) rfl (HO4.out) _ ((ps).map jobCells) rfl (HS3.out) (by intro c hc; obtain ⟨r, _, rfl⟩ := List.mem_map.1 hc; exact jobCells_one r) (by have h1 := HL2.out; have h2 := HN1.out; have h3 := HL4.out; have h4 := HN3.out; (try simp at h1); (try simp at h3); simp; first | omega | (simp; omega)) (by decide) (by first | omega | (simp; done) | (simp; omega)) ?_
  intro v5 w5 hown5 hb5
  rw [← List.map_append] at hown5
  obtain ⟨xs5, hxs5⟩ : ∃ x : List JobD, x = (xs4) ++ (ps) := ⟨_, rfl⟩
  rw [← hxs5] at hown5
  have hl5 : xs5.length = (xs4).length + (ps).length := by rw [hxs5, List.length_append]
  have HX5 := Lib.hid hxs5
  clear hxs5
  have HL5 := Lib.hid hl5
  clear hl5
  obtain ⟨a5, cap5, rfl⟩ := hown5.shape
  rw [List.length_map] at hown5 ⊢
  have HO5 := Lib.hid hown5
  clear hown5
  obtain ⟨hc5, hf5⟩ := bcellB hb5; have hz5 := hb5.size; (repeat (first | rw [World.size_alloc] at hz5 | rw [World.size_drew] at hz5 | rw [World.size_setCell] at hz5)); (try have : w.heap.size < w5.heap.size := by omega); (try have : w.heap.size < w5.heap.size + 1 := by omega); (try have : w.heap.size < w5.heap.size + 1 + 1 := by omega); (try have : w.heap.size < w5.heap.size + 1 + 1 + 1 := by omega)
  have HP5w := Lib.hid (HO3.out.below (hb4.trans hb5))
  have hx := HX4.out
  rw [List.nil_append] at hx
  subst hx
  have hx2 := HX2.out
  have hx5 := HX5.out
  have hn1 := HN1.out
  have hn3 := HN3.out
  have hn4 : xs4.length = qs.length + 1 := by rw [hx2]; simp
  have hn5 : xs5.length = xs4.length + ps.length := by rw [hx5]; simp
  have hok4 : ∀ j ∈ xs4, JobD.ok j := by
    intro j hj
    rw [hx2] at hj
    rcases List.mem_append.1 hj with hj | hj
    · exact HK1.out j hj
    · simp at hj; subst hj; exact .inr ⟨rfl, rfl, by decide, by decide⟩
  have hok5 : ∀ j ∈ xs5, JobD.ok j := by
    intro j hj
    rw [hx5] at hj
    rcases List.mem_append.1 hj with hj | hj
    · exact hok4 j hj
    · exact HK3.out j hj
  have heq : ∀ i, i < ps.length → (qrun [] xs5)[xs4.length + i]? = (qrun [] ps)[i]? := by
    intro i hi
    rw [hx5, hn4, hx2]
    exact parts_at qs ps i hi
  have HEQ := Lib.hid heq
  have HP5 := Lib.hid hok5
  have HE5 := Lib.hid hn5
  have hle : xs4.length + ps.length ≤ 81 := by omega
  have hps : ps.length ≤ 40 := hn3
  clear hx2 hx5 hn1 hn3 hn4 hok4 hok5 heq hn5
  go_wp2_with fail
  refine (queued_any _ _ xs5 _ HO5.out.sl (by rw [HE5.out]; omega) HP5.out).mono ?_
  rintro e w6 ⟨v6, vs6, rfl, HD6, hb6⟩
  (repeat (with_reducible (replace hb6 := Below.undrew hb6))); obtain ⟨hc6, hf6⟩ := bcell hb6; have hz6 := hb6.size; (repeat (first | rw [World.size_alloc] at hz6 | rw [World.size_drew] at hz6 | rw [World.size_setCell] at hz6)); (try have : w.heap.size < w6.heap.size := by omega); (try have : w.heap.size < w6.heap.size + 1 := by omega); (try have : w.heap.size < w6.heap.size + 1 + 1 := by omega); (try have : w.heap.size < w6.heap.size + 1 + 1 + 1 := by omega)
  obtain ⟨xa, xc, rfl⟩ := HD6.shape
  have hl6 : (qrun [] xs5).length = xs4.length + ps.length := by rw [qrun_len, HE5.out]
  rw [hl6] at HD6 ⊢
  have HX := Lib.hid HD6
  clear HD6 hl6
  go_wp2_with fail
  have hO7 : Own w6 w2.heap.size 37 11 (.slice pa ps.length pc) (ps.map jobCells) := HP5w.out.below hb6
  refine (queued_any _ _ ps _ hO7.sl (by omega) HK3.out).mono ?_
  rintro e w7 ⟨v7, vs7, rfl, HD7, hb7⟩
  (repeat (with_reducible (replace hb7 := Below.undrew hb7))); obtain ⟨hc7, hf7⟩ := bcell hb7; have hz7 := hb7.size; (repeat (first | rw [World.size_alloc] at hz7 | rw [World.size_drew] at hz7 | rw [World.size_setCell] at hz7)); (try have : w.heap.size < w7.heap.size := by omega); (try have : w.heap.size < w7.heap.size + 1 := by omega); (try have : w.heap.size < w7.heap.size + 1 + 1 := by omega); (try have : w.heap.size < w7.heap.size + 1 + 1 + 1 := by omega)
  obtain ⟨ya, yc, rfl⟩ := HD7.shape
  have hl7 : (qrun [] ps).length = ps.length := qrun_len _ _
  rw [hl7] at HD7 ⊢
  have HY := Lib.hid HD7
  have HL7 := Lib.hid hl7
  have hX7 := Lib.hid (HX.out.below hb7)
  have hB7 : Below w.heap.size w w7 := by (repeat' (first | (with_reducible exact Below.refl _ _) | (with_reducible assumption) | (with_reducible refine Below.alloc ?_ ?_ _) | (with_reducible refine Below.drew ?_) | (with_reducible refine Below.stepG ?_ (by assumption) ?_) | (with_reducible refine Below.setCell ?_ ?_ _) | omega | (dsimp only; omega) | (simp; done) | (simp; omega)))
  have HB7 := Lib.hid hB7
  have hz := hB7.size
  clear HD7 hl7 hO7 hb1 hb2 hb3 hb4 hb5 hb6 hb7 hB7 hc1 hf1 hc2 hf2 hc3 hf3 hc4 hf4 hc5 hf5 hc6 hf6 hc7 hf7
  generalize xs4.length = nx at *
  generalize hny : ps.length = ny at *
  have HNY := Lib.hid hny
  clear hny
  obtain ⟨nxy, hxy⟩ : ∃ x, x = nx + ny := ⟨_, rfl⟩
  rw [← hxy] at HX hX7 ⊢
  have HXY := Lib.hid hxy
  clear hxy
  go_wp2_with fail
  go_loopw [11] (fun i wr => ∃ m : Nat, m ≤ ny ∧ i = .int .i64 m ∧ Hid (Below w7.heap.size w7 wr)) (fun i _ => ny - (intOf i).toNat)
  case atStart => exact ⟨0, Nat.zero_le _, rfl, Below.refl _ _⟩
  case round =>
    obtain ⟨m, hm, rfl, HB⟩ := hrel
    have hzr := HB.out.size
    by_cases hlt : m < ny
    · obtain ⟨d, hd⟩ : ∃ d, (qrun [] ps)[m]? = some d := ⟨_, List.getElem?_eq_getElem (by rw [HL7.out]; exact hlt)⟩
      have hdx : (qrun [] xs5)[nx + m]? = some d := by rw [HEQ.out m hlt]; exact hd
      obtain ⟨g1, p1, c1, rfl, hg1, x0, x1, x2, ox⟩ := hX7.out.opened HB.out hdx
      obtain ⟨g2, p2, c2, rfl, hg2, y0, y1, y2, oy⟩ := HY.out.opened HB.out hd
      have OX := Lib.hid ox.sl
      have OY := Lib.hid oy.sl
      have hmm : nx + m < nxy := by have := HXY.out; omega
      generalize hac : d.acts = ac at *
      have hK : ac.length ≤ 9223372036854775807 := by have := OX.out.lens; simp at this; omega
      generalize ac.length = K at *
      generalize d.merged = dm at *
      generalize d.code = dc at *
      clear hd hdx ox oy hac
      have hg1r : g1 < wr.heap.size := by omega
      have hg2r : g2 < wr.heap.size := by omega
      go_wp2_with fail
      go_quiet (fail)
      go_wp2_with fail
      go_loopw [13] (fun k wz => ∃ t : Nat, t ≤ K ∧ k = .int .i64 t ∧ Hid (Below wr.heap.size wr wz) ∧ Hid (wz.cell? ⟨wr.heap.size, 2, none⟩ = some (.slice p1 K c1))) (fun k _ => K - (intOf k).toNat)
      case atStart => exact ⟨0, Nat.zero_le _, rfl, below_drewN ((Below.refl _ _).alloc (Nat.le_refl _) _) _, Lib.hid (by simp)⟩
      case round =>
        obtain ⟨t, ht, rfl, HZ, HC⟩ := hrel
        have hc := HC.out
        by_cases hlt2 : t < K
        · obtain ⟨r, hr⟩ : ∃ r, ac[t]? = some r := ⟨_, List.getElem?_eq_getElem (by have := OX.out.lens.1; simp at this; omega)⟩
          obtain ⟨b1, o1, rfl, hb1, r0, r1, r2, r3, r4, r5, r6, r7, r8⟩ := Sl.act OX.out HZ.out hr
          obtain ⟨b2, o2, rfl, hb2, s0, s1, s2, s3, s4, s5, s6, s7, s8⟩ := Sl.act OY.out HZ.out hr
          have y2z := (HZ.out.cell (p := ⟨g2, m * 3 + 2, none⟩) hg2r).trans y2
          clear hr
          go_wp2_with fail
          go_quiet (fail)
          go_wp2
          go_roundw
          case rel => exact ⟨t + 1, by omega, by go_num, below_drewN HZ.out _, Lib.hid (by simp [hc])⟩
          case measure => simp [intOf]; omega
        · obtain rfl : t = K := by omega
          go_wp2_with fail
          go_roundw
          case rel => exact ⟨m + 1, by omega, by go_num, HB.out.trans (HZ.out.mono hzr)⟩
          case measure => simp [intOf]; omega
    · obtain rfl : m = ny := by omega
      go_wp2
      go_returns
      exact ⟨rfl, HB7.out.trans (HB.out.mono hz)⟩
end Go.Proofs.Yticfcigkldkhmaa
