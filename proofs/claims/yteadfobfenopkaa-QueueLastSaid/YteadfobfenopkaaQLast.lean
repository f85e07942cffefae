
/- QueueLast: the walk. -/
import Derived.Test.YteadfobfenopkaaQTab
import Derived.Test.YteadfobfenopkaaQ6
set_option linter.unusedVariables false
set_option linter.unusedSimpArgs false
namespace Go.Proofs.Yteadfobfenopkaa
open Go Go.RowKit Go.Sort Wc Wk

theorem accs_snoc : ∀ {q : List ActD} {l : List JobD} {m : Nat} {j : JobD} {d : DoneD}, l[m]? = some j → (qrun q l)[m]? = some d →
    accs q (l.take (m + 1)) = accs q (l.take m) ++ (if j.push ∧ d.code = 0 then [j.act] else [])
  | q, [], m, j, d, h, _ => by simp at h
  | q, i :: l, 0, j, d, h, hd => by
    simp at h; subst h
    have hd : some (qstep q i).2 = some d := hd
    cases hd
    show (if i.push ∧ (qstep q i).2.code = 0 then [i.act] else []) ++ accs (qstep q i).1 (l.take 0) = accs q [] ++ _
    simp [accs]
  | q, i :: l, m + 1, j, d, h, hd => by
    have hd : (qrun (qstep q i).1 l)[m]? = some d := hd
    have h : l[m]? = some j := h
    show _ ++ accs (qstep q i).1 (l.take (m + 1)) = (_ ++ accs (qstep q i).1 (l.take m)) ++ _
    rw [accs_snoc h hd, List.append_assoc]
theorem accs_len : ∀ (q : List ActD) (l : List JobD), (accs q l).length ≤ l.length
  | q, [] => Nat.le_refl _
  | q, j :: l => by
    have := accs_len (qstep q j).1 l
    show ((if j.push ∧ (qstep q j).2.code = 0 then [j.act] else []) ++ accs (qstep q j).1 l).length ≤ l.length + 1
    rw [List.length_append]
    split <;> simp <;> omega
theorem queued_n (a : Option Addr) (cap n : Nat) (js : List JobD) (w : World) (hn : n = js.length) (hs : Sl w 11 (.slice a n cap) (js.map jobCells)) (hl : js.length ≤ 100) (hok : ∀ j ∈ js, JobD.ok j) :
    Calls Try.prog 19 #[.slice a n cap] w (RetQueued w js) := by subst hn; exact queued_any a cap js w hs hl hok


set_option maxRecDepth 100000 in
set_option maxHeartbeats 2000000 in
theorem queueLast_walk (a0 : Option Addr) (len0 cap0 : Nat) (z0 : List RawJ) (w : World) (h0 : IsJobs w a0 len0 cap0 z0) :
    Calls Try.prog 3 #[.slice a0 len0 cap0] w fun e w' => e = .returned (.bool true) ∧ Below w.heap.size w w' := by
  have H0 := Lib.hid h0
  clear h0
  go_enter Try.func3, Try.ntmps3
  go_wp2_with fail
  refine (queue_any a0 len0 cap0 z0 60 w H0.out (by decide)).mono ?_
  rintro e w1 ⟨v1, qs, rfl, HO1', HQ1, HL1, hb1⟩
  have hz1 := hb1.size
  obtain ⟨va, vc, rfl⟩ := HO1'.shape
  rw [List.length_map] at HO1' ⊢
  have HS1 := Lib.hid HO1'.sl
  have HK1 := Lib.hid HQ1
  have HW1 := Lib.hid hb1
  have hlw1 := HO1'.sl.lens.2.1
  have hlw2 := HO1'.sl.lens.2.2
  clear HO1' HQ1 hb1
  obtain ⟨n, hn⟩ : ∃ n, n = qs.length := ⟨_, rfl⟩
  rw [← hn] at HS1 HL1 hlw1 ⊢
  have HN := Lib.hid hn
  clear hn
  go_wp2_with fail
  refine (queued_n va vc n qs w1 HN.out HS1.out (by have := HN.out; omega) HK1.out).mono ?_
  rintro e w2 ⟨v2, vs2, rfl, HD2, hb2⟩
  obtain ⟨xa, xc, rfl⟩ := HD2.shape
  have hl2 : (qrun [] qs).length = n := by rw [qrun_len, HN.out]
  rw [hl2] at HD2 ⊢
  have HD := Lib.hid HD2
  have HLD := Lib.hid hl2
  have HS2 := Lib.hid (HS1.out.below hb2)
  have hz2 := hb2.size
  have HW2 := Lib.hid (HW1.out.trans (hb2.mono hz1))
  clear HD2 hl2 hb2 HS1 HW1
  go_wp2_with fail
  go_loopw [6, 7] (fun as_ i wr => ∃ m : Nat, m ≤ n ∧ i = .int .i64 m ∧ Hid (Wk.Own wr w2.heap.size 35 9 as_ ((accs [] (qs.take m)).map actCells)) ∧ Hid (Below w2.heap.size w2 wr)) (fun _ i _ => n - (intOf i).toNat)
  case atStart => exact ⟨0, Nat.zero_le _, rfl, Wk.Own.nil _ _ _ _, Below.refl _ _⟩
  case round =>
    obtain ⟨m, hm, rfl, HA, HB⟩ := hrel
    have hzr := HB.out.size
    by_cases hlt : m < n
    · obtain ⟨j, hj⟩ : ∃ j, qs[m]? = some j := ⟨_, List.getElem?_eq_getElem (by rw [← HN.out]; exact hlt)⟩
      obtain ⟨d, hd⟩ : ∃ d, (qrun [] qs)[m]? = some d := ⟨_, List.getElem?_eq_getElem (by rw [HLD.out]; exact hlt)⟩
      have HSN := Lib.hid (accs_snoc hj hd)
      have HLA := Lib.hid (show (accs [] (qs.take m)).length ≤ m from Nat.le_trans (accs_len _ _) (by rw [List.length_take]; omega))
      generalize accs [] (qs.take m) = as0 at *
      obtain ⟨b, off, rfl, hb, d0, d1, d2, d3, d4, d5, d6, d7, d8, d9, d10⟩ := Sl.job HS2.out HB.out hj
      obtain ⟨g, p, c, rfl, hg, x0, x1, x2, _⟩ := HD.out.opened HB.out hd
      obtain ⟨ta, tc, rfl⟩ := HA.out.shape
      rw [List.length_map] at HA ⊢
      clear hj hd
      by_cases hp : j.push = true
      · have hk : (jobKind j == 1) = true := by unfold jobKind; rw [hp]; rfl
        by_cases hc : d.code = 0
        · have hcc : (((d.code : Nat) : Int) == 0) = true := by rw [hc]; rfl
          have HPC := Lib.hid (show j.push = true ∧ d.code = 0 from ⟨hp, hc⟩)
          clear hp hc
          go_wp2_with (at_builtin; refine wpList_append_rows rfl _ _ 28 35 9 72 _ rfl eiAct w2.heap.size _ (as0.map actCells) rfl (HA.out.alloc _) _ [actCells j.act] rfl (sl_new (c := actCells j.act) (by simp) rfl) (by intro c hc; simp at hc; subst hc; exact actCells_one _) (by have := HLA.out; simp; omega) (by decide) (by simp; omega) (by simp) ?_; intro v5 w5 hown5 hgr hb5)
          have hB5 : Below w2.heap.size w2 w5 := (HB.out.alloc hzr _).trans hb5
          have HB5 := Lib.hid hB5
          have HA5 := Lib.hid (show Wk.Own w5 w2.heap.size 35 9 v5 ((accs [] (qs.take (m + 1))).map actCells) by rw [HSN.out, if_pos HPC.out, List.map_append]; exact hown5)
          clear hown5 hgr hb5 hB5
          go_roundw
          case rel => exact ⟨m + 1, by omega, by go_num, HA5, HB5⟩
          case measure => simp [intOf]; omega
        · have hcc : (((d.code : Nat) : Int) == 0) = false := by rw [beq_eq_false_iff_ne]; omega
          have HPC := Lib.hid (show ¬ (j.push = true ∧ d.code = 0) from fun h => hc h.2)
          have HA5 := Lib.hid (show Wk.Own wr w2.heap.size 35 9 (.slice ta as0.length tc) ((accs [] (qs.take (m + 1))).map actCells) by rw [HSN.out, if_neg HPC.out, List.append_nil]; exact HA.out)
          clear hp hc
          go_wp2_with fail
          go_roundw
          case rel => exact ⟨m + 1, by omega, by go_num, HA5, HB⟩
          case measure => simp [intOf]; omega
      · have hk : (jobKind j == 1) = false := by unfold jobKind; rw [if_neg hp]; rfl
        have HPC := Lib.hid (show ¬ (j.push = true ∧ d.code = 0) from fun h => hp h.1)
        have HA5 := Lib.hid (show Wk.Own wr w2.heap.size 35 9 (.slice ta as0.length tc) ((accs [] (qs.take (m + 1))).map actCells) by rw [HSN.out, if_neg HPC.out, List.append_nil]; exact HA.out)
        clear hp
        go_wp2_with fail
        go_roundw
        case rel => exact ⟨m + 1, by omega, by go_num, HA5, HB⟩
        case measure => simp [intOf]; omega
    · obtain rfl : m = n := by omega
      have htk : qs.take m = qs := List.take_of_length_le (by rw [← HN.out]; exact Nat.le_refl _)
      rw [htk] at HA
      obtain ⟨ta, tc, rfl⟩ := HA.out.shape
      rw [List.length_map] at HA ⊢
      have HLA := Lib.hid (show (accs [] qs).length ≤ m by rw [HN.out]; exact accs_len _ _)
      have HAF := Lib.hid (fun x hx => ok_fit (accs_ok (q := []) (l := qs) HK1.out x hx))
      have HLAW := Lib.hid (queue_law (l := qs) HK1.out (by rw [← HN.out]; exact HL1))
      generalize accs [] qs = as0 at *
      have HS3 := Lib.hid (HS2.out.below HB.out)
      clear htk
      go_wp2_with (at_builtin; refine stop_at ?_; intro G hG)
      rw [← hG.out]; clear hG G
      refine wpList_append_any rfl _ _ 23 37 11 88 _ rfl eiJob (wr.heap.size) _ ((([] : List JobD)).map jobCells) rfl (Wk.Own.nil _ _ _ _) _ ((qs).map jobCells) rfl (HS3.out) (by intro c hc; obtain ⟨r, _, rfl⟩ := List.mem_map.1 hc; exact jobCells_one r) (by have := HN.out; simp; first | omega | (simp; omega)) (by decide) (by first | omega | (simp; done) | (simp; omega)) ?_
      intro v4 w4 hown4 hb4
      rw [← List.map_append] at hown4
      obtain ⟨xs4, hxs4⟩ : ∃ x : List JobD, x = (([] : List JobD)) ++ (qs) := ⟨_, rfl⟩
      rw [← hxs4] at hown4
      have hl4 : xs4.length = (([] : List JobD)).length + (qs).length := by rw [hxs4, List.length_append]
      have HX4 := Lib.hid hxs4
      clear hxs4
      have HL4 := Lib.hid hl4
      clear hl4
      obtain ⟨a4, cap4, rfl⟩ := hown4.shape
      rw [List.length_map] at hown4 ⊢
      have HO4 := Lib.hid hown4
      clear hown4
      obtain ⟨hc4, hf4⟩ := bcellB hb4; have hz4 := hb4.size; (repeat (first | rw [World.size_alloc] at hz4 | rw [World.size_drew] at hz4 | rw [World.size_setCell] at hz4)); (try have : w.heap.size < w4.heap.size := by omega); (try have : w.heap.size < w4.heap.size + 1 := by omega); (try have : w.heap.size < w4.heap.size + 1 + 1 := by omega); (try have : w.heap.size < w4.heap.size + 1 + 1 + 1 := by omega); (try have : w1.heap.size < w4.heap.size := by omega); (try have : w1.heap.size < w4.heap.size + 1 := by omega); (try have : w1.heap.size < w4.heap.size + 1 + 1 := by omega); (try have : w1.heap.size < w4.heap.size + 1 + 1 + 1 := by omega)
      have hx := HX4.out
      rw [List.nil_append] at hx
      replace hx := hx.symm
      subst hx
      have hl4 := HL4.out
      have HZN := Lib.hid (show qs.length ≤ 60 by rw [← HN.out]; exact HL1)
      clear hl4
      go_wp2_with (at_builtin; refine stop_at ?_; intro G hG)
      rw [← hG.out]; clear hG G
      refine wpList_append_any rfl _ _ 23 37 11 88 _ rfl eiJob (wr.heap.size) _ ((qs).map jobCells) rfl (HO4.out.alloc _) _ (([(⟨false, actZ, 8⟩ : JobD)]).map jobCells) rfl (sl_new (c := jobCells ⟨false, actZ, 8⟩) (by simp) rfl) (by intro c hc; obtain ⟨r, _, rfl⟩ := List.mem_map.1 hc; exact jobCells_one r) (by have := HZN.out; simp; first | omega | (simp; omega)) (by decide) (by first | omega | (simp; done) | (simp; omega)) ?_
      intro v5 w5 hown5 hb5
      rw [← List.map_append] at hown5
      obtain ⟨xs5, hxs5⟩ : ∃ x : List JobD, x = (qs) ++ ([(⟨false, actZ, 8⟩ : JobD)]) := ⟨_, rfl⟩
      rw [← hxs5] at hown5
      have hl5 : xs5.length = (qs).length + ([(⟨false, actZ, 8⟩ : JobD)]).length := by rw [hxs5, List.length_append]
      have HX5 := Lib.hid hxs5
      clear hxs5
      have HL5 := Lib.hid hl5
      clear hl5
      obtain ⟨a5, cap5, rfl⟩ := hown5.shape
      rw [List.length_map] at hown5 ⊢
      have HO5 := Lib.hid hown5
      clear hown5
      obtain ⟨hc5, hf5⟩ := bcellB hb5; have hz5 := hb5.size; (repeat (first | rw [World.size_alloc] at hz5 | rw [World.size_drew] at hz5 | rw [World.size_setCell] at hz5)); (try have : w.heap.size < w5.heap.size := by omega); (try have : w.heap.size < w5.heap.size + 1 := by omega); (try have : w.heap.size < w5.heap.size + 1 + 1 := by omega); (try have : w.heap.size < w5.heap.size + 1 + 1 + 1 := by omega); (try have : w1.heap.size < w5.heap.size := by omega); (try have : w1.heap.size < w5.heap.size + 1 := by omega); (try have : w1.heap.size < w5.heap.size + 1 + 1 := by omega); (try have : w1.heap.size < w5.heap.size + 1 + 1 + 1 := by omega)
      have HL5 := Lib.hid (show xs5.length ≤ 61 by rw [HX5.out]; have := HZN.out; simp; omega)
      have HK5 := Lib.hid (show ∀ j ∈ xs5, JobD.ok j by
        rw [HX5.out]
        intro j hj
        rcases List.mem_append.1 hj with hj | hj
        · exact HK1.out j hj
        · simp at hj; subst hj; exact .inr ⟨rfl, rfl, by decide, by decide⟩)
      have HPL := Lib.hid (show tend [] (pulls [] xs5) = tend [] as0 by rw [HX5.out]; exact HLAW.out)
      have hb45 : Below wr.heap.size wr w5 := by (repeat' (first | (with_reducible exact Below.refl _ _) | (with_reducible assumption) | (with_reducible refine Below.alloc ?_ ?_ _) | (with_reducible refine Below.drew ?_) | (with_reducible refine Below.stepG ?_ (by assumption) ?_) | (with_reducible refine Below.setCell ?_ ?_ _) | omega | (dsimp only; omega) | (simp; done) | (simp; omega)))
      have HB45 := Lib.hid hb45
      clear hb4 hb5 hc4 hf4 hc5 hf5 hb45
      go_wp2_with fail
      refine (qtable_any _ _ _ xs5 w5 rfl HO5.out.sl (by have := HL5.out; omega) HK5.out).mono ?_
      rintro e w6 ⟨v6, rfl, HO6, hb6⟩
      rw [HPL.out] at HO6
      obtain ⟨a6, c6, rfl⟩ := HO6.shape
      rw [List.length_map] at HO6 ⊢
      have h61 := HO6.sl.lens.2.1
      have h62 := HO6.sl.lens.2.2
      have HS6 := Lib.hid HO6.sl
      have HB6 := Lib.hid (HB45.out.trans (hb6.mono (by omega)))
      have HA6 := Lib.hid (HA.out.below HB6.out).sl
      clear HO6 hb6
      go_wp2_with fail
      refine (routesOf_any ta tc _ as0 w6 rfl HA6.out (by have := HLA.out; omega) HAF.out).mono ?_
      rintro e w7 ⟨v7, rfl, HO7, hb7⟩
      obtain ⟨a7, c7, rfl⟩ := HO7.shape
      rw [List.length_map] at HO7 ⊢
      have h71 := HO7.sl.lens.2.1
      have h72 := HO7.sl.lens.2.2
      have HS7 := Lib.hid HO7.sl
      have HS67 := Lib.hid (HS6.out.below hb7)
      have HB7 := Lib.hid (HB6.out.trans (hb7.mono HB6.out.size))
      clear HO7 hb7
      go_wp2_with fail
      refine (same_yes _ _ _ _ _ _ (tend [] as0) w7 rfl rfl HS67.out HS7.out).mono ?_
      rintro e w8 ⟨rfl, hb8⟩
      go_wp2
      go_returns
      exact ⟨rfl, HW2.out.trans ((HB.out.trans ((HB7.out.trans (hb8.mono HB7.out.size)).mono HB.out.size)).mono HW2.out.size)⟩
end Go.Proofs.Yteadfobfenopkaa
