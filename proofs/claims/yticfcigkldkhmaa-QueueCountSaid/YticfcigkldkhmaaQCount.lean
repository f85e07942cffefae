
/- QueueCount: the walk. -/
import Derived.Test.YticfcigkldkhmaaQPart
import Derived.Test.YticfcigkldkhmaaKit5
set_option linter.unusedVariables false
set_option linter.unusedSimpArgs false
namespace Go.Proofs.Yticfcigkldkhmaa
open Go Go.RowKit Go.Sort Wc Wk

/-- The prefix of an act, in memory. -/
def actPre (x : ActD) : List Value := preCells false x.n x.k
theorem actPre_of {x y : ActD} (h : x.pre = y.pre) : actPre x = actPre y := by
  unfold ActD.pre at h; unfold actPre
  simp only [Prod.mk.injEq] at h
  rw [h.1, h.2]
theorem actPre_map {p q : List ActD} (h : p.map ActD.pre = q.map ActD.pre) : p.map actPre = q.map actPre := by
  have e : actPre = (fun z : Nat × Nat => preCells false z.1 z.2) ∘ ActD.pre := rfl
  rw [e, ← List.map_map, ← List.map_map, h]
theorem Sl.pre {w w' : World} {a : Option Addr} {n cap : Nat} {xs : List ActD} (hs : Sl w 4 (.slice a n cap) (xs.map actPre)) (hb : Below w.heap.size w w') {i : Nat} {r : ActD} (hr : xs[i]? = some r) :
    ∃ b off, a = some ⟨b, off, none⟩ ∧ b < w.heap.size ∧ w'.cell? ⟨b, off + i * 4, none⟩ = some (.bool false) ∧ w'.cell? ⟨b, off + i * 4 + 1, none⟩ = some (.int .u64 (hiOf false r.n)) ∧ w'.cell? ⟨b, off + i * 4 + 2, none⟩ = some (.int .u64 (loOf r.n)) ∧ w'.cell? ⟨b, off + i * 4 + 3, none⟩ = some (.int .i64 r.k) := by
  obtain ⟨b, off, ha, hlt, hc⟩ := Sl.at hs (i := i) (c := actPre r) (by rw [List.getElem?_map, hr]; rfl)
  have g := fun j u (h : (actPre r)[j]? = some u) => (hb.cell (p := ⟨b, off + i * 4 + j, none⟩) hlt).trans (hc j u h)
  exact ⟨b, off, ha, hlt, g 0 _ rfl, g 1 _ rfl, g 2 _ rfl, g 3 _ rfl⟩

/-- How a slice of the call's own is written. -/
def SH (v : Value) : Prop := v = .slice none 0 0 ∨ ∃ b off k c, v = .slice (some ⟨b, off, none⟩) k c
theorem SH.of_own {w : World} {B : Nat} {e : TypeId} {sz : Nat} {v : Value} {xs : List (List Value)} (h : Own w B e sz v xs) : SH v := by
  rcases h.2.2 with ⟨rfl, _⟩ | ⟨g, cap, cur, rfl, _⟩
  · exact .inl rfl
  · exact .inr ⟨g, 0, _, cap, rfl⟩
theorem any_take {q : List ActD} (f : ActD → Bool) {t : Nat} {x : ActD} (h : q[t]? = some x) : (q.take (t + 1)).any f = ((q.take t).any f || f x) := by
  rw [List.take_add_one, h, List.any_append]; simp
theorem pre_ne {x y : ActD} (hx : x.ok) (hy : y.ok) (h : ¬ x.pre = y.pre) : (x.k = y.k ∧ ¬ loOf x.n = loOf y.n) ∨ ¬ ((x.k : Int) = y.k) := by
  refine act_ne hx hy ?_
  rw [← Bool.not_eq_true]
  exact fun e => h ((same_pre _ _).1 e)


set_option maxRecDepth 100000 in
set_option maxHeartbeats 1000000 in
theorem queueCount_walk (a0 : Option Addr) (len0 cap0 : Nat) (z0 : List RawJ) (w : World) (h0 : IsJobs w a0 len0 cap0 z0) :
    Calls Try.prog 3 #[.slice a0 len0 cap0] w fun e w' => e = .returned (.bool true) ∧ Below w.heap.size w w' := by
  have H0 := Lib.hid h0
  clear h0
  go_enter Try.func3, Try.ntmps3
  go_wp2_with fail
  refine (queue_any a0 len0 cap0 z0 80 w H0.out (by decide)).mono ?_
  rintro e w1 ⟨v1, qs, rfl, HO1', HQ1, HL1, hb1⟩
  have hz1 := hb1.size
  obtain ⟨va, vc, rfl⟩ := HO1'.shape
  rw [List.length_map] at HO1' ⊢
  have HK1 := Lib.hid HQ1
  have HW1 := Lib.hid hb1
  have hn : qs.length ≤ 80 := HL1
  have HS1 := Lib.hid HO1'.sl
  clear HO1' HQ1 HL1 hb1
  go_wp2_with fail
  refine (queued_any va vc qs _ HS1.out (by omega) HK1.out).mono ?_
  rintro e w2 ⟨v2, vs2, rfl, HD2, hb2⟩
  have hz2 := hb2.size
  obtain ⟨xa, xc, rfl⟩ := HD2.shape
  rw [qrun_len] at HD2 ⊢
  have HX := Lib.hid HD2
  have HS := Lib.hid (HS1.out.below hb2)
  have HB2 := Lib.hid (HW1.out.trans (hb2.mono hz1))
  have hz := HB2.out.size
  obtain ⟨n, hnq⟩ : ∃ n, n = qs.length := ⟨_, rfl⟩
  rw [← hnq] at HX HS hn ⊢
  have HNQ := Lib.hid hnq
  clear HD2 hb2 HS1 HW1 hnq
  go_wp2_with fail
  go_loopw [6, 7] (fun wv i wr => ∃ m : Nat, m ≤ n ∧ i = .int .i64 m ∧ Hid (Sl wr 4 wv ((qend [] (qs.take m)).map actPre)) ∧ Hid (SH wv) ∧ Hid (Below w2.heap.size w2 wr)) (fun _ i _ => n - (intOf i).toNat)
  case atStart => exact ⟨0, Nat.zero_le _, rfl, Sl.empty _ _ _ _ (by decide), .inl rfl, Below.refl _ _⟩
  case round =>
    obtain ⟨m, hm, rfl, HT, HSH, HB⟩ := hrel
    have hzr := HB.out.size
    have HQ8 := Lib.hid (qend_len (q := []) (qs.take m) (by decide))
    by_cases hlt : m < n
    · obtain ⟨j, hj⟩ : ∃ j, qs[m]? = some j := ⟨_, List.getElem?_eq_getElem (by have := HNQ.out; omega)⟩
      obtain ⟨q, hq⟩ : ∃ q, q = qend [] (qs.take m) := ⟨_, rfl⟩
      rw [← hq] at HT HQ8
      obtain ⟨hd, hst⟩ := qrun_at (q := []) hj
      rw [← hq] at hd hst
      have HQO : Hid (∀ x ∈ q, ActD.ok x) := by rw [hq]; exact qend_ok (q := []) (l := qs.take m) (fun x hx => by cases hx) (fun x hx => HK1.out x (List.mem_of_mem_take hx))
      have HJO := Lib.hid (HK1.out j (List.mem_of_getElem? hj))
      obtain ⟨wa, wc, hwv⟩ : ∃ a c, u6 = .slice a q.length c := by
        obtain ⟨a, c, h, _⟩ := HT.out.shape
        exact ⟨a, c, by rw [h, List.length_map]⟩
      subst hwv
      obtain ⟨g1, p1, c1, rfl, hg1, x0, x1, x2, ox⟩ := HX.out.opened HB.out hd
      obtain ⟨b, off, rfl, hb, j0, j1, j2, j3, j4, j5, j6, j7, j8, j9, j10⟩ := Sl.job HS.out HB.out hj
      have OX := Lib.hid ox.sl
      have hq8 : q.length ≤ 8 := HQ8.out
      have HST := Lib.hid hst
      have hbr : b < wr.heap.size := by omega
      have hg1r : g1 < wr.heap.size := by omega
      clear ox hd hj hq hst
      by_cases hp : j.push = true
      · have hk : (jobKind j == 2) = false := by unfold jobKind; rw [hp]; rfl
        go_wp2_with fail
        go_loopw [9, 10] (fun th k wz => ∃ t : Nat, t ≤ q.length ∧ k = .int .i64 t ∧ th = .bool ((q.take t).any (fun x => decide (x.pre = j.act.pre))) ∧ Hid (Below wr.heap.size wr wz)) (fun _ k _ => q.length - (intOf k).toNat)
        case atStart => exact ⟨0, Nat.zero_le _, rfl, rfl, Below.refl _ _⟩
        case round =>
          obtain ⟨t, ht, rfl, rfl, HZ⟩ := hrel
          have hzz := HZ.out.size
          by_cases hlt2 : t < q.length
          · obtain ⟨x, hx⟩ : ∃ x, q[t]? = some x := ⟨_, List.getElem?_eq_getElem hlt2⟩
            have HAT := Lib.hid (any_take (fun x => decide (x.pre = j.act.pre)) hx)
            have HXO := Lib.hid (HQO.out x (List.mem_of_getElem? hx))
            obtain ⟨b2, o2, rfl, hb2, r0, r1, r2, r3⟩ := Sl.pre HT.out HZ.out hx
            have y2 := (HZ.out.cell (p := ⟨b, off + m * 11 + 2, none⟩) hbr).trans j2
            have y3 := (HZ.out.cell (p := ⟨b, off + m * 11 + 3, none⟩) hbr).trans j3
            have y4 := (HZ.out.cell (p := ⟨b, off + m * 11 + 4, none⟩) hbr).trans j4
            have y5 := (HZ.out.cell (p := ⟨b, off + m * 11 + 5, none⟩) hbr).trans j5
            clear hx j0 j1 j2 j3 j4 j5 j6 j7 j8 j9 j10 x0 x1 x2
            generalize (q.take t).any (fun x => decide (x.pre = j.act.pre)) = bv at *
            cases bv with
            | true =>
              go_wp2_with fail
              go_quiet (fail)
              go_wp2
              go_roundw
              case rel => exact ⟨t + 1, by omega, by go_num, by rw [HAT.out]; rfl, below_drewN HZ.out _⟩
              case measure => simp [intOf]; omega
            | false =>
              have HJA : Hid j.act.ok := by
                rcases HJO.out with ⟨_, h, _⟩ | ⟨h, _⟩
                · exact h
                · rw [hp] at h; cases h
              by_cases hs : x.pre = j.act.pre
              · have e := (same_iff _ _).1 ((same_pre _ _).2 hs)
                rw [e.1] at r1 r2
                rw [e.2] at r3
                have HSS := Lib.hid hs
                clear hs e
                go_wp2_with fail
                go_quiet (fail)
                go_wp2
                go_roundw
                case rel => exact ⟨t + 1, by omega, by go_num, by rw [HAT.out, decide_eq_true HSS.out]; simp, below_drewN HZ.out _⟩
                case measure => simp [intOf]; omega
              · have hne := pre_ne HXO.out HJA.out hs
                have HSS := Lib.hid hs
                clear hs
                rcases hne with ⟨e, hne⟩ | hne
                · rw [e] at r3
                  clear e
                  go_wp2_with fail
                  go_quiet (fail)
                  go_wp2
                  go_roundw
                  case rel => exact ⟨t + 1, by omega, by go_num, by rw [HAT.out, decide_eq_false HSS.out]; simp, below_drewN HZ.out _⟩
                  case measure => simp [intOf]; omega
                · go_wp2_with fail
                  go_quiet (fail)
                  go_wp2
                  go_roundw
                  case rel => exact ⟨t + 1, by omega, by go_num, by rw [HAT.out, decide_eq_false HSS.out]; simp, below_drewN HZ.out _⟩
                  case measure => simp [intOf]; omega
          · obtain rfl : t = q.length := by omega
            obtain ⟨pm1, pm2, pm3, _, pm5⟩ := push_step (q := q) hp
            have hany : (q.take q.length).any (fun x => decide (x.pre = j.act.pre)) = (qstep q j).2.merged := by rw [List.take_length]; exact pm1.symm
            rw [hany]
            have x0z := (HZ.out.cell (p := ⟨g1, m * 3, none⟩) hg1r).trans x0
            have x1z := (HZ.out.cell (p := ⟨g1, m * 3 + 1, none⟩) hg1r).trans x1
            have HTz := Lib.hid (HT.out.below HZ.out)
            have HBz := Lib.hid (HB.out.trans (HZ.out.mono hzr))
            have y2 := (HZ.out.cell (p := ⟨b, off + m * 11 + 2, none⟩) hbr).trans j2
            have y3 := (HZ.out.cell (p := ⟨b, off + m * 11 + 3, none⟩) hbr).trans j3
            have y4 := (HZ.out.cell (p := ⟨b, off + m * 11 + 4, none⟩) hbr).trans j4
            have y5 := (HZ.out.cell (p := ⟨b, off + m * 11 + 5, none⟩) hbr).trans j5
            clear x0 x1 x2 j0 j1 j2 j3 j4 j5 j6 j7 j8 j9 j10 hany pm1
            generalize (qstep q j).2.merged = mg at *
            generalize (qstep q j).2.code = cd at *
            cases mg with
            | true =>
              have hc0 : cd = 0 := by
                rcases pm3 with h | h
                · exact h
                · exact absurd (pm2.1 h).1 (by simp)
              subst hc0
              have HN := Lib.hid (actPre_map (show (qstep q j).1.map ActD.pre = q.map ActD.pre by rw [pm5, if_neg (by simp)]))
              clear pm2 pm3 pm5
              go_wp2_with fail
              go_roundw
              case rel => exact ⟨m + 1, by omega, by go_num, by rw [HST.out, HN.out]; exact HTz.out, HSH, HBz⟩
              case measure => simp [intOf]; omega
            | false =>
              by_cases h8 : q.length = 8
              · have hc9 : cd = 9 := pm2.2 ⟨rfl, h8⟩
                subst hc9
                have HN := Lib.hid (actPre_map (show (qstep q j).1.map ActD.pre = q.map ActD.pre by rw [pm5, if_neg (by simp)]))
                clear pm2 pm3 pm5
                go_wp2_with fail
                go_roundw
                case rel => exact ⟨m + 1, by omega, by go_num, by rw [HST.out, HN.out]; exact HTz.out, HSH, HBz⟩
                case measure => simp [intOf]; omega
              · have hc0 : cd = 0 := by
                  rcases pm3 with h | h
                  · exact h
                  · exact absurd (pm2.1 h).2 h8
                subst hc0
                have hl8 : ((q.length : Int) == 8) = false := by rw [beq_eq_false_iff_ne]; omega
                have HN := Lib.hid (show (qstep q j).1.map actPre = q.map actPre ++ [actPre j.act] by
                  have := actPre_map (p := (qstep q j).1) (q := q ++ [j.act]) (by rw [pm5, if_pos ⟨rfl, rfl⟩, List.map_append]; rfl)
                  rw [this, List.map_append]; rfl)
                have HLQ : Hid (q.length ≤ 8) := hq8
                clear pm2 pm3 pm5
                have hb1 : b < wr.heap.size + 1 := by have := HZ.out.size; omega
                have hb0 : b < wr.heap.size := by have := HZ.out.size; omega
                go_wp2_with fail
                refine wp_region_held_drew (S := (fun w' => w'.cell? ⟨b, off + m * 11 + 2, none⟩ = some (.bool false) ∧ w'.cell? ⟨b, off + m * 11 + 3, none⟩ = some (.int .u64 (hiOf false j.act.n)) ∧ w'.cell? ⟨b, off + m * 11 + 4, none⟩ = some (.int .u64 (loOf j.act.n)) ∧ w'.cell? ⟨b, off + m * 11 + 5, none⟩ = some (.int .i64 j.act.k))) (by kernel_rfl) ?rwS0 (fun hHeld => ?rwR0)
                case rwS0 => ((try dsimp only); (first | (first | (go_simp; done) | (simp [*, go_sem, World.cell?_alloc_past]; done) | (simp [*, go_sem, World.cell?_alloc_past, World.cell?_setCell_far]; done)) | exact ⟨(World.cell?_alloc_some _ _ _ (by rw [hHeld.1]; rfl)).trans hHeld.1, (World.cell?_alloc_some _ _ _ (by rw [hHeld.2.1]; rfl)).trans hHeld.2.1, (World.cell?_alloc_some _ _ _ (by rw [hHeld.2.2.1]; rfl)).trans hHeld.2.2.1, (World.cell?_alloc_some _ _ _ (by rw [hHeld.2.2.2]; rfl)).trans hHeld.2.2.2⟩ | exact ⟨(hbC.cell (p := ⟨b, off + m * 11 + 2, none⟩) (by simp; omega)).trans hHeld.1, (hbC.cell (p := ⟨b, off + m * 11 + 3, none⟩) (by simp; omega)).trans hHeld.2.1, (hbC.cell (p := ⟨b, off + m * 11 + 4, none⟩) (by simp; omega)).trans hHeld.2.2.1, (hbC.cell (p := ⟨b, off + m * 11 + 5, none⟩) (by simp; omega)).trans hHeld.2.2.2⟩ | exact ⟨(hbA.cell (p := ⟨b, off + m * 11 + 2, none⟩) (by simp; omega)).trans hHeld.1, (hbA.cell (p := ⟨b, off + m * 11 + 3, none⟩) (by simp; omega)).trans hHeld.2.1, (hbA.cell (p := ⟨b, off + m * 11 + 4, none⟩) (by simp; omega)).trans hHeld.2.2.1, (hbA.cell (p := ⟨b, off + m * 11 + 5, none⟩) (by simp; omega)).trans hHeld.2.2.2⟩))
                (refine wpAnyH_take (i := 0) (oi := _) (v := ?_) (by simp only [List.getElem?_toArray, List.getElem?_cons_zero, List.getElem?_cons_succ]; rfl) (by kernel_rfl) (by decide +kernel) (by decide +kernel) (by exact fun _ _ _ h => h) (Or.inl ⟨by rfl, ?_⟩) (by assumption) ?_; rotate_left; (· ((intro w hSw); (try dsimp only at hSw); go_simp; (try with_reducible rfl))); (try simp only [Act.put, List.setIfInBounds_toArray, List.set_cons_zero, List.set_cons_succ]))
                (refine wpAnyH_take (i := 2) (oi := _) (v := ?_) (by simp only [List.getElem?_toArray, List.getElem?_cons_zero, List.getElem?_cons_succ]; rfl) (by kernel_rfl) (by decide +kernel) (by decide +kernel) (by exact fun _ _ _ h => h) (Or.inl ⟨by rfl, ?_⟩) (by assumption) ?_; rotate_left; (· ((intro w hSw); (try dsimp only at hSw); go_simp; (try with_reducible rfl))); (try simp only [Act.put, List.setIfInBounds_toArray, List.set_cons_zero, List.set_cons_succ]))
                (refine wpAnyH_take (i := 3) (oi := _) (v := ?_) (by simp only [List.getElem?_toArray, List.getElem?_cons_zero, List.getElem?_cons_succ]; rfl) (by kernel_rfl) (by decide +kernel) (by decide +kernel) (by exact fun _ _ _ h => h) (Or.inl ⟨by rfl, ?_⟩) (by assumption) ?_; rotate_left; (· ((intro w hSw); (try dsimp only at hSw); go_simp; (try with_reducible rfl))); (try simp only [Act.put, List.setIfInBounds_toArray, List.set_cons_zero, List.set_cons_succ]))
                (refine wpAnyH_take (i := 4) (oi := _) (v := ?_) (by simp only [List.getElem?_toArray, List.getElem?_cons_zero, List.getElem?_cons_succ]; rfl) (by kernel_rfl) (by decide +kernel) (by decide +kernel) (by exact fun _ _ _ h => h) (Or.inl ⟨by rfl, ?_⟩) (by assumption) ?_; rotate_left; (· ((intro w hSw); (try dsimp only at hSw); go_simp; (try with_reducible rfl))); (try simp only [Act.put, List.setIfInBounds_toArray, List.set_cons_zero, List.set_cons_succ]))
                (refine wpAnyH_take (i := 5) (oi := _) (v := ?_) (by simp only [List.getElem?_toArray, List.getElem?_cons_zero, List.getElem?_cons_succ]; rfl) (by kernel_rfl) (by decide +kernel) (by decide +kernel) (by exact fun _ _ _ h => h) (Or.inl ⟨by rfl, ?_⟩) (by assumption) ?_; rotate_left; (· ((intro w hSw); (try dsimp only at hSw); go_simp; (try with_reducible rfl))); (try simp only [Act.put, List.setIfInBounds_toArray, List.set_cons_zero, List.set_cons_succ]))
                (refine wpAnyH_take (i := 6) (oi := _) (v := ?_) (by simp only [List.getElem?_toArray, List.getElem?_cons_zero, List.getElem?_cons_succ]; rfl) (by kernel_rfl) (by decide +kernel) (by decide +kernel) (by exact fun _ _ _ h => h) (Or.inl ⟨by rfl, ?_⟩) (by assumption) ?_; rotate_left; (· ((intro w hSw); (try dsimp only at hSw); go_simp; (try with_reducible rfl))); (try simp only [Act.put, List.setIfInBounds_toArray, List.set_cons_zero, List.set_cons_succ]))
                (refine wpAnyH_take (i := 7) (oi := _) (v := ?_) (by simp only [List.getElem?_toArray, List.getElem?_cons_zero, List.getElem?_cons_succ]; rfl) (by kernel_rfl) (by decide +kernel) (by decide +kernel) (by exact fun _ _ _ h => h) (Or.inl ⟨by rfl, ?_⟩) (by assumption) ?_; rotate_left; (· ((intro w hSw); (try dsimp only at hSw); go_simp; (try with_reducible rfl))); (try simp only [Act.put, List.setIfInBounds_toArray, List.set_cons_zero, List.set_cons_succ]))
                repeat' (first
                  | (refine wpAnyH_take (i := 10) (oi := _) (v := ?_) (by simp only [List.getElem?_toArray, List.getElem?_cons_zero, List.getElem?_cons_succ]; rfl) (by kernel_rfl) (by decide +kernel) (by decide +kernel) (by exact fun _ _ _ h => h) (Or.inl ⟨by rfl, ?_⟩) (by assumption) ?_; rotate_left; (· ((intro w hSw); (try dsimp only at hSw); go_simp; (try with_reducible rfl))); (try simp only [Act.put, List.setIfInBounds_toArray, List.set_cons_zero, List.set_cons_succ]))
                  | (refine wpAnyH_ready (rs := [1, 8]) (by decide +kernel) (by simp) (AllReadyH.cons (by simp only [List.getElem?_toArray, List.getElem?_cons_zero, List.getElem?_cons_succ]; rfl) (fun K hK => ?_) (AllReadyH.cons (by simp only [List.getElem?_toArray, List.getElem?_cons_zero, List.getElem?_cons_succ]; rfl) (fun K hK => ?_) AllReadyH.nil)); all_goals ((first | (refine step_append_any rfl (.const (.slice none 0 0)) (.tmp 144) 28 33 4 32 _ rfl eiPre _ (.slice none 0 0) [] rfl (Own.nil _ _ _ _) (.slice wa q.length wc) (q.map actPre) rfl (HTz.out.below (by (repeat' (first | (with_reducible exact Below.refl _ _) | (with_reducible assumption) | (with_reducible refine Below.al ?_ _) | (with_reducible refine Below.dr ?_) | (with_reducible refine Below.step ?_ (by assumption)) | (with_reducible refine Below.set ?_ ?_ _) | omega | (dsimp only; omega) | (simp; done) | (simp; omega))))) (by intro c hc; obtain ⟨r, _, rfl⟩ := List.mem_map.1 hc; exact preCells_one false r.n r.k) (by have := HLQ.out; simp; omega) (by decide) (Nat.le_refl _) ?_; intro vA wA hownA hbA; obtain ⟨hcA, hfA⟩ := bcellB hbA) | (refine step_append_any rfl (.tmp 145) (.tmp 152) 28 33 4 32 _ rfl eiPre _ vA ([] ++ q.map actPre) rfl (hownA.alloc _) (.slice (some ⟨_, 0, none⟩) 1 1) [actPre j.act] rfl (sl_new (c := actPre j.act) (by simp) rfl) (by intro c hc; simp at hc; subst hc; exact preCells_one false j.act.n j.act.k) (by have := HLQ.out; simp; omega) (by decide) (by have := hbA.size; simp at this ⊢; omega) ?_; intro vC wC hownC hbC; obtain ⟨hcC, hfC⟩ := bcellB hbC) | (refine step_append_any rfl (.tmp 145) (.tmp 152) 28 33 4 32 _ rfl eiPre _ vA ([] ++ q.map actPre) rfl hownA (.slice (some ⟨_, 0, none⟩) 1 1) [actPre j.act] rfl (((sl_new (W := wr) (c := actPre j.act) (E := 33) rfl rfl).below (below_drewN (Below.refl _ _) 1)).below hbA) (by intro c hc; simp at hc; subst hc; exact preCells_one false j.act.n j.act.k) (by have := HLQ.out; simp; omega) (by decide) (by have := hbA.size; simp at this ⊢; omega) ?_; intro vC wC hownC hbC; obtain ⟨hcC, hfC⟩ := bcellB hbC) | (go_simp; (first | fail | skip))); (refine hK.out _ _ ?_ (fun hHeld => ?_)); (· ((try dsimp only); (first | (first | (go_simp; done) | (simp [*, go_sem, World.cell?_alloc_past]; done) | (simp [*, go_sem, World.cell?_alloc_past, World.cell?_setCell_far]; done)) | exact ⟨(World.cell?_alloc_some _ _ _ (by rw [hHeld.1]; rfl)).trans hHeld.1, (World.cell?_alloc_some _ _ _ (by rw [hHeld.2.1]; rfl)).trans hHeld.2.1, (World.cell?_alloc_some _ _ _ (by rw [hHeld.2.2.1]; rfl)).trans hHeld.2.2.1, (World.cell?_alloc_some _ _ _ (by rw [hHeld.2.2.2]; rfl)).trans hHeld.2.2.2⟩ | exact ⟨(hbC.cell (p := ⟨b, off + m * 11 + 2, none⟩) (by simp; omega)).trans hHeld.1, (hbC.cell (p := ⟨b, off + m * 11 + 3, none⟩) (by simp; omega)).trans hHeld.2.1, (hbC.cell (p := ⟨b, off + m * 11 + 4, none⟩) (by simp; omega)).trans hHeld.2.2.1, (hbC.cell (p := ⟨b, off + m * 11 + 5, none⟩) (by simp; omega)).trans hHeld.2.2.2⟩ | exact ⟨(hbA.cell (p := ⟨b, off + m * 11 + 2, none⟩) (by simp; omega)).trans hHeld.1, (hbA.cell (p := ⟨b, off + m * 11 + 3, none⟩) (by simp; omega)).trans hHeld.2.1, (hbA.cell (p := ⟨b, off + m * 11 + 4, none⟩) (by simp; omega)).trans hHeld.2.2.1, (hbA.cell (p := ⟨b, off + m * 11 + 5, none⟩) (by simp; omega)).trans hHeld.2.2.2⟩))); (clear hK K; (try simp only [Act.put, List.setIfInBounds_toArray, List.set_cons_zero, List.set_cons_succ]))))
                  | (refine wpAnyH_ready (rs := [1]) (by decide +kernel) (by simp) (AllReadyH.cons (by simp only [List.getElem?_toArray, List.getElem?_cons_zero, List.getElem?_cons_succ]; rfl) (fun K hK => ?_) AllReadyH.nil); all_goals ((first | (refine step_append_any rfl (.const (.slice none 0 0)) (.tmp 144) 28 33 4 32 _ rfl eiPre _ (.slice none 0 0) [] rfl (Own.nil _ _ _ _) (.slice wa q.length wc) (q.map actPre) rfl (HTz.out.below (by (repeat' (first | (with_reducible exact Below.refl _ _) | (with_reducible assumption) | (with_reducible refine Below.al ?_ _) | (with_reducible refine Below.dr ?_) | (with_reducible refine Below.step ?_ (by assumption)) | (with_reducible refine Below.set ?_ ?_ _) | omega | (dsimp only; omega) | (simp; done) | (simp; omega))))) (by intro c hc; obtain ⟨r, _, rfl⟩ := List.mem_map.1 hc; exact preCells_one false r.n r.k) (by have := HLQ.out; simp; omega) (by decide) (Nat.le_refl _) ?_; intro vA wA hownA hbA; obtain ⟨hcA, hfA⟩ := bcellB hbA) | (refine step_append_any rfl (.tmp 145) (.tmp 152) 28 33 4 32 _ rfl eiPre _ vA ([] ++ q.map actPre) rfl (hownA.alloc _) (.slice (some ⟨_, 0, none⟩) 1 1) [actPre j.act] rfl (sl_new (c := actPre j.act) (by simp) rfl) (by intro c hc; simp at hc; subst hc; exact preCells_one false j.act.n j.act.k) (by have := HLQ.out; simp; omega) (by decide) (by have := hbA.size; simp at this ⊢; omega) ?_; intro vC wC hownC hbC; obtain ⟨hcC, hfC⟩ := bcellB hbC) | (refine step_append_any rfl (.tmp 145) (.tmp 152) 28 33 4 32 _ rfl eiPre _ vA ([] ++ q.map actPre) rfl hownA (.slice (some ⟨_, 0, none⟩) 1 1) [actPre j.act] rfl (((sl_new (W := wr) (c := actPre j.act) (E := 33) rfl rfl).below (below_drewN (Below.refl _ _) 1)).below hbA) (by intro c hc; simp at hc; subst hc; exact preCells_one false j.act.n j.act.k) (by have := HLQ.out; simp; omega) (by decide) (by have := hbA.size; simp at this ⊢; omega) ?_; intro vC wC hownC hbC; obtain ⟨hcC, hfC⟩ := bcellB hbC) | (go_simp; (first | fail | skip))); (refine hK.out _ _ ?_ (fun hHeld => ?_)); (· ((try dsimp only); (first | (first | (go_simp; done) | (simp [*, go_sem, World.cell?_alloc_past]; done) | (simp [*, go_sem, World.cell?_alloc_past, World.cell?_setCell_far]; done)) | exact ⟨(World.cell?_alloc_some _ _ _ (by rw [hHeld.1]; rfl)).trans hHeld.1, (World.cell?_alloc_some _ _ _ (by rw [hHeld.2.1]; rfl)).trans hHeld.2.1, (World.cell?_alloc_some _ _ _ (by rw [hHeld.2.2.1]; rfl)).trans hHeld.2.2.1, (World.cell?_alloc_some _ _ _ (by rw [hHeld.2.2.2]; rfl)).trans hHeld.2.2.2⟩ | exact ⟨(hbC.cell (p := ⟨b, off + m * 11 + 2, none⟩) (by simp; omega)).trans hHeld.1, (hbC.cell (p := ⟨b, off + m * 11 + 3, none⟩) (by simp; omega)).trans hHeld.2.1, (hbC.cell (p := ⟨b, off + m * 11 + 4, none⟩) (by simp; omega)).trans hHeld.2.2.1, (hbC.cell (p := ⟨b, off + m * 11 + 5, none⟩) (by simp; omega)).trans hHeld.2.2.2⟩ | exact ⟨(hbA.cell (p := ⟨b, off + m * 11 + 2, none⟩) (by simp; omega)).trans hHeld.1, (hbA.cell (p := ⟨b, off + m * 11 + 3, none⟩) (by simp; omega)).trans hHeld.2.1, (hbA.cell (p := ⟨b, off + m * 11 + 4, none⟩) (by simp; omega)).trans hHeld.2.2.1, (hbA.cell (p := ⟨b, off + m * 11 + 5, none⟩) (by simp; omega)).trans hHeld.2.2.2⟩))); (clear hK K; (try simp only [Act.put, List.setIfInBounds_toArray, List.set_cons_zero, List.set_cons_succ]))))
                  | (refine wpAnyH_ready (rs := [8]) (by decide +kernel) (by simp) (AllReadyH.cons (by simp only [List.getElem?_toArray, List.getElem?_cons_zero, List.getElem?_cons_succ]; rfl) (fun K hK => ?_) AllReadyH.nil); all_goals ((first | (refine step_append_any rfl (.const (.slice none 0 0)) (.tmp 144) 28 33 4 32 _ rfl eiPre _ (.slice none 0 0) [] rfl (Own.nil _ _ _ _) (.slice wa q.length wc) (q.map actPre) rfl (HTz.out.below (by (repeat' (first | (with_reducible exact Below.refl _ _) | (with_reducible assumption) | (with_reducible refine Below.al ?_ _) | (with_reducible refine Below.dr ?_) | (with_reducible refine Below.step ?_ (by assumption)) | (with_reducible refine Below.set ?_ ?_ _) | omega | (dsimp only; omega) | (simp; done) | (simp; omega))))) (by intro c hc; obtain ⟨r, _, rfl⟩ := List.mem_map.1 hc; exact preCells_one false r.n r.k) (by have := HLQ.out; simp; omega) (by decide) (Nat.le_refl _) ?_; intro vA wA hownA hbA; obtain ⟨hcA, hfA⟩ := bcellB hbA) | (refine step_append_any rfl (.tmp 145) (.tmp 152) 28 33 4 32 _ rfl eiPre _ vA ([] ++ q.map actPre) rfl (hownA.alloc _) (.slice (some ⟨_, 0, none⟩) 1 1) [actPre j.act] rfl (sl_new (c := actPre j.act) (by simp) rfl) (by intro c hc; simp at hc; subst hc; exact preCells_one false j.act.n j.act.k) (by have := HLQ.out; simp; omega) (by decide) (by have := hbA.size; simp at this ⊢; omega) ?_; intro vC wC hownC hbC; obtain ⟨hcC, hfC⟩ := bcellB hbC) | (refine step_append_any rfl (.tmp 145) (.tmp 152) 28 33 4 32 _ rfl eiPre _ vA ([] ++ q.map actPre) rfl hownA (.slice (some ⟨_, 0, none⟩) 1 1) [actPre j.act] rfl (((sl_new (W := wr) (c := actPre j.act) (E := 33) rfl rfl).below (below_drewN (Below.refl _ _) 1)).below hbA) (by intro c hc; simp at hc; subst hc; exact preCells_one false j.act.n j.act.k) (by have := HLQ.out; simp; omega) (by decide) (by have := hbA.size; simp at this ⊢; omega) ?_; intro vC wC hownC hbC; obtain ⟨hcC, hfC⟩ := bcellB hbC) | (go_simp; (first | fail | skip))); (refine hK.out _ _ ?_ (fun hHeld => ?_)); (· ((try dsimp only); (first | (first | (go_simp; done) | (simp [*, go_sem, World.cell?_alloc_past]; done) | (simp [*, go_sem, World.cell?_alloc_past, World.cell?_setCell_far]; done)) | exact ⟨(World.cell?_alloc_some _ _ _ (by rw [hHeld.1]; rfl)).trans hHeld.1, (World.cell?_alloc_some _ _ _ (by rw [hHeld.2.1]; rfl)).trans hHeld.2.1, (World.cell?_alloc_some _ _ _ (by rw [hHeld.2.2.1]; rfl)).trans hHeld.2.2.1, (World.cell?_alloc_some _ _ _ (by rw [hHeld.2.2.2]; rfl)).trans hHeld.2.2.2⟩ | exact ⟨(hbC.cell (p := ⟨b, off + m * 11 + 2, none⟩) (by simp; omega)).trans hHeld.1, (hbC.cell (p := ⟨b, off + m * 11 + 3, none⟩) (by simp; omega)).trans hHeld.2.1, (hbC.cell (p := ⟨b, off + m * 11 + 4, none⟩) (by simp; omega)).trans hHeld.2.2.1, (hbC.cell (p := ⟨b, off + m * 11 + 5, none⟩) (by simp; omega)).trans hHeld.2.2.2⟩ | exact ⟨(hbA.cell (p := ⟨b, off + m * 11 + 2, none⟩) (by simp; omega)).trans hHeld.1, (hbA.cell (p := ⟨b, off + m * 11 + 3, none⟩) (by simp; omega)).trans hHeld.2.1, (hbA.cell (p := ⟨b, off + m * 11 + 4, none⟩) (by simp; omega)).trans hHeld.2.2.1, (hbA.cell (p := ⟨b, off + m * 11 + 5, none⟩) (by simp; omega)).trans hHeld.2.2.2⟩))); (clear hK K; (try simp only [Act.put, List.setIfInBounds_toArray, List.set_cons_zero, List.set_cons_succ]))))
                  | (refine wpAnyH_ready (rs := [9]) (by decide +kernel) (by simp) (AllReadyH.cons (by simp only [List.getElem?_toArray, List.getElem?_cons_zero, List.getElem?_cons_succ]; rfl) (fun K hK => ?_) AllReadyH.nil); all_goals ((first | (refine step_append_any rfl (.const (.slice none 0 0)) (.tmp 144) 28 33 4 32 _ rfl eiPre _ (.slice none 0 0) [] rfl (Own.nil _ _ _ _) (.slice wa q.length wc) (q.map actPre) rfl (HTz.out.below (by (repeat' (first | (with_reducible exact Below.refl _ _) | (with_reducible assumption) | (with_reducible refine Below.al ?_ _) | (with_reducible refine Below.dr ?_) | (with_reducible refine Below.step ?_ (by assumption)) | (with_reducible refine Below.set ?_ ?_ _) | omega | (dsimp only; omega) | (simp; done) | (simp; omega))))) (by intro c hc; obtain ⟨r, _, rfl⟩ := List.mem_map.1 hc; exact preCells_one false r.n r.k) (by have := HLQ.out; simp; omega) (by decide) (Nat.le_refl _) ?_; intro vA wA hownA hbA; obtain ⟨hcA, hfA⟩ := bcellB hbA) | (refine step_append_any rfl (.tmp 145) (.tmp 152) 28 33 4 32 _ rfl eiPre _ vA ([] ++ q.map actPre) rfl (hownA.alloc _) (.slice (some ⟨_, 0, none⟩) 1 1) [actPre j.act] rfl (sl_new (c := actPre j.act) (by simp) rfl) (by intro c hc; simp at hc; subst hc; exact preCells_one false j.act.n j.act.k) (by have := HLQ.out; simp; omega) (by decide) (by have := hbA.size; simp at this ⊢; omega) ?_; intro vC wC hownC hbC; obtain ⟨hcC, hfC⟩ := bcellB hbC) | (refine step_append_any rfl (.tmp 145) (.tmp 152) 28 33 4 32 _ rfl eiPre _ vA ([] ++ q.map actPre) rfl hownA (.slice (some ⟨_, 0, none⟩) 1 1) [actPre j.act] rfl (((sl_new (W := wr) (c := actPre j.act) (E := 33) rfl rfl).below (below_drewN (Below.refl _ _) 1)).below hbA) (by intro c hc; simp at hc; subst hc; exact preCells_one false j.act.n j.act.k) (by have := HLQ.out; simp; omega) (by decide) (by have := hbA.size; simp at this ⊢; omega) ?_; intro vC wC hownC hbC; obtain ⟨hcC, hfC⟩ := bcellB hbC) | (go_simp; (first | fail | skip))); (refine hK.out _ _ ?_ (fun hHeld => ?_)); (· ((try dsimp only); (first | (first | (go_simp; done) | (simp [*, go_sem, World.cell?_alloc_past]; done) | (simp [*, go_sem, World.cell?_alloc_past, World.cell?_setCell_far]; done)) | exact ⟨(World.cell?_alloc_some _ _ _ (by rw [hHeld.1]; rfl)).trans hHeld.1, (World.cell?_alloc_some _ _ _ (by rw [hHeld.2.1]; rfl)).trans hHeld.2.1, (World.cell?_alloc_some _ _ _ (by rw [hHeld.2.2.1]; rfl)).trans hHeld.2.2.1, (World.cell?_alloc_some _ _ _ (by rw [hHeld.2.2.2]; rfl)).trans hHeld.2.2.2⟩ | exact ⟨(hbC.cell (p := ⟨b, off + m * 11 + 2, none⟩) (by simp; omega)).trans hHeld.1, (hbC.cell (p := ⟨b, off + m * 11 + 3, none⟩) (by simp; omega)).trans hHeld.2.1, (hbC.cell (p := ⟨b, off + m * 11 + 4, none⟩) (by simp; omega)).trans hHeld.2.2.1, (hbC.cell (p := ⟨b, off + m * 11 + 5, none⟩) (by simp; omega)).trans hHeld.2.2.2⟩ | exact ⟨(hbA.cell (p := ⟨b, off + m * 11 + 2, none⟩) (by simp; omega)).trans hHeld.1, (hbA.cell (p := ⟨b, off + m * 11 + 3, none⟩) (by simp; omega)).trans hHeld.2.1, (hbA.cell (p := ⟨b, off + m * 11 + 4, none⟩) (by simp; omega)).trans hHeld.2.2.1, (hbA.cell (p := ⟨b, off + m * 11 + 5, none⟩) (by simp; omega)).trans hHeld.2.2.2⟩))); (clear hK K; (try simp only [Act.put, List.setIfInBounds_toArray, List.set_cons_zero, List.set_cons_succ]))))
                  | (refine wpAnyH_done (by decide +kernel) ?_ _)
                  | fail)
                all_goals (
                  have hsA := hbA.size
                  have hsC := hbC.size
                  simp at hsA hsC
                  go_wp2_with fail
                  go_roundw)
                case rel => exact ⟨m + 1, by omega, by go_num, by rw [HST.out, HN.out]; exact Lib.hid (by simpa using hownC.sl), SH.of_own hownC, HBz.out.trans (by (repeat' (first | (with_reducible exact Below.refl _ _) | (with_reducible assumption) | (with_reducible refine Below.alloc ?_ ?_ _) | (with_reducible refine Below.drew ?_) | (with_reducible refine Below.stepG ?_ (by assumption) ?_) | (with_reducible refine Below.setCell ?_ ?_ _) | omega | (dsimp only; omega) | (simp; done) | (simp; omega))))⟩
                case measure => simp [intOf]; omega
                case rel => exact ⟨m + 1, by omega, by go_num, by rw [HST.out, HN.out]; exact Lib.hid (by simpa using hownC.sl), SH.of_own hownC, HBz.out.trans (by (repeat' (first | (with_reducible exact Below.refl _ _) | (with_reducible assumption) | (with_reducible refine Below.alloc ?_ ?_ _) | (with_reducible refine Below.drew ?_) | (with_reducible refine Below.stepG ?_ (by assumption) ?_) | (with_reducible refine Below.setCell ?_ ?_ _) | omega | (dsimp only; omega) | (simp; done) | (simp; omega))))⟩
                case measure => simp [intOf]; omega
      · have hp' : j.push = false := by simpa using hp
        have hk : (jobKind j == 2) = true := by unfold jobKind; rw [hp']; rfl
        have hn1 : 1 ≤ j.num := by
          rcases HJO.out with ⟨h, _⟩ | ⟨_, _, h, _⟩
          · rw [hp'] at h; cases h
          · exact h
        obtain ⟨s1, s2, s3, s4⟩ := pull_step (q := q) hp' hn1
        generalize hdc : (qstep q j).2.code = dc at *
        generalize hdm : (qstep q j).2.merged = dm at *
        generalize hda : (qstep q j).2.acts = ac at *
        have hkl : ac.length = min j.num q.length := by rw [s2, List.length_take]
        obtain ⟨K, hK⟩ : ∃ K, K = ac.length := ⟨_, rfl⟩
        rw [← hK] at x2 OX hkl s3
        have HAC := Lib.hid s2
        have HQD := Lib.hid s3
        have HKL := Lib.hid hK
        obtain ⟨Lq, hLq⟩ : ∃ L, L = q.length := ⟨_, rfl⟩
        rw [← hLq] at hkl s1 hq8 HT HSH ⊢
        have HLQ := Lib.hid hLq
        clear s2 s3 s4 hdc hdm hda hK hLq
        have hc1 : ((dc : Int) == 7) = ((Lq : Int) == 0) := by
          by_cases h : Lq = 0
          · rw [s1.2 h, h]; rfl
          · have h2 : ¬ dc = 7 := fun e => h (s1.1 e)
            rw [beq_eq_false_iff_ne.2 (show (dc : Int) ≠ 7 by omega), beq_eq_false_iff_ne.2 (show (Lq : Int) ≠ 0 by omega)]
        have hmin : min (Lq : Int) (j.num : Int) = (K : Int) := by omega
        have HKM := Lib.hid hkl
        clear s1 hkl
        have HPL := Lib.hid (show (q.map actPre).length = Lq by rw [List.length_map]; exact HLQ.out.symm)
        go_wp2_with fail
        go_quiet (fail)
        clear hmin hc1
        go_wp2_with fail
        go_loopw [8] (fun k wz => ∃ t : Nat, t ≤ K ∧ k = .int .i64 t ∧ Hid (Below wr.heap.size wr wz)) (fun k _ => K - (intOf k).toNat)
        case atStart => exact ⟨0, Nat.zero_le _, rfl, below_drewN (Below.refl _ _) _⟩
        case round =>
          obtain ⟨t, ht, rfl, HZ⟩ := hrel
          have hzz := HZ.out.size
          have x2z := (HZ.out.cell (p := ⟨g1, m * 3 + 2, none⟩) hg1r).trans x2
          clear x0 x1 x2 j0 j1 j2 j3 j4 j5 j6 j7 j8 j9 j10
          by_cases hlt2 : t < K
          · obtain ⟨r, hr⟩ : ∃ r, ac[t]? = some r := ⟨_, List.getElem?_eq_getElem (by have := HKL.out; omega)⟩
            have hr2 : q[t]? = some r := by
              have h := hr
              rw [HAC.out, List.getElem?_take] at h
              split at h
              · exact h
              · cases h
            obtain ⟨b1, o1, rfl, hb1, r0, r1, r2, r3, r4, r5, r6, r7, r8⟩ := Sl.act OX.out HZ.out hr
            obtain ⟨b2, o2, rfl, hb2, s0, s1, s2, s3⟩ := Sl.pre HT.out HZ.out hr2
            have htl : t < Lq := by have := HKM.out; omega
            clear hr hr2
            go_wp2_with fail
            go_quiet (fail)
            go_wp2
            go_roundw
            case rel => exact ⟨t + 1, by omega, by go_num, below_drewN HZ.out _⟩
            case measure => simp [intOf]; omega
          · obtain rfl : t = K := by omega
            have HN := Lib.hid (show (qstep q j).1.map actPre = (q.map actPre).drop t by rw [HQD.out, List.map_drop])
            have HTz := HT.out.below HZ.out
            have HBz := Lib.hid (HB.out.trans (HZ.out.mono hzr))
            have hkq : t ≤ Lq := by have := HKM.out; omega
            rcases HSH.out with h | ⟨b2, o2, k2, c2, h⟩
            · simp only [Value.slice.injEq] at h
              obtain ⟨rfl, rfl, rfl⟩ := h
              obtain rfl : t = 0 := by omega
              have HTh := Lib.hid HTz
              clear HTz
              go_wp2_with fail
              go_roundw
              case rel => exact ⟨m + 1, by omega, by go_num, by rw [HST.out, HN.out]; exact HTh.out, .inl rfl, HBz⟩
              case measure => simp [intOf]; omega
            · simp only [Value.slice.injEq] at h
              obtain ⟨rfl, e1, e2⟩ := h
              clear e1 e2
              have hcap := HTz.lens.2.1
              have hcap2 := HTz.lens.2.2
              rcases HTz.behind t (by rw [HPL.out]; exact hkq) with ⟨rfl, hn, hs, H2⟩ | ⟨hcn, H2⟩
              · have HTh := Lib.hid H2
                clear HTz H2 hs
                subst hn
                go_wp2_with fail
                go_roundw
                case rel => exact ⟨m + 1, by omega, by go_num, by rw [HST.out, HN.out]; exact HTh.out, .inr ⟨_, _, _, _, rfl⟩, HBz⟩
                case measure => simp [intOf]; omega
              · have HTh := Lib.hid H2
                clear HTz H2
                go_wp2_with fail
                go_roundw
                case rel => exact ⟨m + 1, by omega, by go_num, by rw [HST.out, HN.out]; exact HTh.out, .inr ⟨_, _, _, _, rfl⟩, HBz⟩
                case measure => simp [intOf]; omega
    · obtain rfl : m = n := by omega
      have htk : qs.take m = qs := List.take_of_length_le (by have := HNQ.out; omega)
      obtain ⟨wa, wc, hwv⟩ : ∃ a c, u6 = .slice a (qend [] (qs.take m)).length c := by
        obtain ⟨a, c, h, _⟩ := HT.out.shape
        exact ⟨a, c, by rw [h, List.length_map]⟩
      subst hwv
      have hq8 : (qend [] (qs.take m)).length ≤ 8 := HQ8.out
      generalize (qend [] (qs.take m)).length = L at *
      go_wp2
      go_returns
      exact ⟨by simp; omega, HB2.out.trans (HB.out.mono hz)⟩
end Go.Proofs.Yticfcigkldkhmaa
