
/- QueueOnce: the walk. -/
import Derived.Test.YticfcigkldkhmaaQPart
set_option linter.unusedVariables false
namespace Go.Proofs.Yticfcigkldkhmaa
open Go Go.RowKit Go.Sort Wc Wk

def ncell (x : Nat) : List Value := [.int .i64 (x : Nat)]
theorem ncell_one (x : Nat) : ∀ u ∈ ncell x, u.oneCell' = true := by
  intro u hu
  simp [ncell] at hu; subst hu; rfl
theorem eiIntQ : EI Try.prog 44 3 1 8 (.int .i64 0) := ⟨by kernel_rfl, by kernel_rfl, rfl, by decide⟩
/-- Where each job comes to lie among the doubled ones. -/
def ats (qs : List JobD) (m : Nat) : List (List Value) := (List.range m).map fun i => ncell (dup (qs.take i)).length
theorem ats_len (qs : List JobD) (m : Nat) : (ats qs m).length = m := by simp [ats]
theorem ats_snoc (qs : List JobD) (m : Nat) : ats qs (m + 1) = ats qs m ++ [ncell (dup (qs.take m)).length] := by
  unfold ats; rw [List.range_succ, List.map_append]; rfl
theorem ats_at (qs : List JobD) {m i : Nat} (h : i < m) : (ats qs m)[i]? = some (ncell (dup (qs.take i)).length) := by
  unfold ats; rw [List.getElem?_map, List.getElem?_range h]; rfl
theorem dup_take_le (qs : List JobD) {m : Nat} (hm : m ≤ qs.length) : (dup (qs.take m)).length ≤ 2 * m := by
  have := dup_len (qs.take m); rw [List.length_take] at this; omega

theorem queued_n (a : Option Addr) (cap n : Nat) (js : List JobD) (w : World) (hn : n = js.length) (hs : Sl w 11 (.slice a n cap) (js.map jobCells)) (hl : n ≤ 100) (hok : ∀ j ∈ js, JobD.ok j) :
    Calls Try.prog 19 #[.slice a n cap] w (RetQueued w js) := by
  subst hn; exact queued_any a cap js w hs hl hok
theorem Own.num {w w' : World} {B : Nat} {E : TypeId} {a : Option Addr} {n cap : Nat} {xs : List (List Value)} (h : Own w B E 1 (.slice a n cap) xs) (hb : Below w.heap.size w w') {i x : Nat} (hi : xs[i]? = some (ncell x)) :
    ∃ g, a = some ⟨g, 0, none⟩ ∧ g < w.heap.size ∧ w'.cell? ⟨g, i, none⟩ = some (.int .i64 (x : Nat)) := by
  obtain ⟨g, cap', hv, _, hg, _, _, _, hc⟩ := h.at (Nat.lt_of_le_of_lt (Nat.zero_le i) (List.getElem?_eq_some_iff.1 hi).1)
  simp only [Value.slice.injEq] at hv
  obtain ⟨rfl, _, _⟩ := hv
  have := hc i _ hi 0 _ rfl
  rw [Nat.mul_one, Nat.add_zero] at this
  exact ⟨g, rfl, hg, (hb.cell (p := ⟨g, i, none⟩) hg).trans this⟩


set_option maxRecDepth 100000 in
set_option maxHeartbeats 1000000 in
theorem queueOnce_walk (a0 : Option Addr) (len0 cap0 : Nat) (z0 : List RawJ) (w : World) (h0 : IsJobs w a0 len0 cap0 z0) :
    Calls Try.prog 5 #[.slice a0 len0 cap0] w fun e w' => e = .returned (.bool true) ∧ Below w.heap.size w w' := by
  have H0 := Lib.hid h0
  clear h0
  go_enter Try.func5, Try.ntmps5
  go_wp2_with fail
  refine (queue_any a0 len0 cap0 z0 40 w H0.out (by decide)).mono ?_
  rintro e w1 ⟨v1, qs, rfl, HO1', HQ1, HL1, hb1⟩
  have hz1 := hb1.size
  obtain ⟨va, vc, rfl⟩ := HO1'.shape
  rw [List.length_map] at HO1' ⊢
  have HS := Lib.hid HO1'.sl
  have HK1 := Lib.hid HQ1
  have HW1 := Lib.hid hb1
  have hn : qs.length ≤ 40 := HL1
  clear HO1' HQ1 HL1 hb1
  obtain ⟨n, hnq⟩ : ∃ n, n = qs.length := ⟨_, rfl⟩
  rw [← hnq] at HS hn ⊢
  have HNQ := Lib.hid hnq
  clear hnq
  go_wp2_with fail
  go_loopw [4, 5, 6] (fun tw at_ i wr => ∃ m : Nat, m ≤ n ∧ i = .int .i64 m ∧ Hid (Own wr w1.heap.size 37 11 tw ((dup (qs.take m)).map jobCells)) ∧ Hid (Own wr w1.heap.size 3 1 at_ (ats qs m)) ∧ Hid (Below w1.heap.size w1 wr)) (fun _ _ i _ => n - (intOf i).toNat)
  case atStart => exact ⟨0, Nat.zero_le _, rfl, Own.nil _ _ _ _, Own.nil _ _ _ _, Below.refl _ _⟩
  case round =>
    obtain ⟨m, hm, rfl, HT, HA, HB⟩ := hrel
    have hzr := HB.out.size
    by_cases hlt : m < n
    · obtain ⟨j, hj⟩ : ∃ j, qs[m]? = some j := ⟨_, List.getElem?_eq_getElem (by have := HNQ.out; omega)⟩
      obtain ⟨ta, tc, rfl⟩ := HT.out.shape
      obtain ⟨L, hL⟩ : ∃ L, L = (dup (qs.take m)).length := ⟨_, rfl⟩
      rw [List.length_map, ← hL] at HT ⊢
      have hL2 : L ≤ 80 := by have := HNQ.out; have := dup_take_le qs (m := m) (by omega); omega
      have HDS := Lib.hid (dup_snoc qs hj)
      have HAS := Lib.hid (ats_snoc qs m)
      have HLE := Lib.hid hL
      have HJ := Lib.hid hj
      clear hL hj
      obtain ⟨b, off, rfl, hb, _⟩ := Sl.job HS.out HB.out HJ.out
      go_wp2_with (at_builtin; refine wpList_append_rows rfl _ _ 44 3 1 8 _ rfl eiIntQ w1.heap.size _ (ats qs m) rfl (HA.out.alloc _) _ [ncell L] rfl (sl_new (c := ncell L) (by simp) rfl) (by intro c hc; simp at hc; subst hc; exact ncell_one L) (by rw [ats_len]; simp; omega) (by decide) (by simp; omega) (by simp) ?_; intro v5 w5 hownA hgrA hbA; refine stop_at ?_; intro G hG)
      have hB5 : Below w1.heap.size w1 w5 := (HB.out.alloc hzr _).trans hbA
      have hz5 := hB5.size
      have HT5 := Lib.hid ((HT.out.alloc (.cells (ncell L).toArray 3)).kept hgrA (fun hn => Own.apart HT.out HA.out (by decide) hn))
      have HA5 := Lib.hid hownA
      have HB5 := Lib.hid hB5
      obtain ⟨b', off', he, _, d0, d1, d2, d3, d4, d5, d6, d7, d8, d9, d10⟩ := Sl.job HS.out hB5 HJ.out
      cases he
      clear hownA hgrA hbA hB5
      rw [← hG.out]; clear hG G
      go_wp2_with (at_builtin; refine wpList_append_rows rfl _ _ 23 37 11 88 _ rfl eiJob w1.heap.size _ ((dup (qs.take m)).map jobCells) rfl (HT5.out.alloc _) _ [jobCells j] rfl (sl_new (c := jobCells j) (by simp) rfl) (by intro c hc; simp at hc; subst hc; exact jobCells_one j) (by have := HLE.out; simp; omega) (by decide) (by simp; omega) (by simp) ?_; intro v6 w6 hownT hgrT hbT; refine stop_at ?_; intro G hG)
      have hB6 : Below w1.heap.size w1 w6 := (HB5.out.alloc hz5 _).trans hbT
      have hz6 := hB6.size
      have HA6 := Lib.hid ((HA5.out.alloc (.cells (jobCells j).toArray 37)).kept hgrT (fun hn => Own.apart HA5.out HT5.out (by decide) hn))
      have HT6 := Lib.hid hownT
      have HB6 := Lib.hid hB6
      obtain ⟨b', off', he, _, e0, e1, e2, e3, e4, e5, e6, e7, e8, e9, e10⟩ := Sl.job HS.out hB6 HJ.out
      cases he
      clear hownT hgrT hbT hB6 d0 d1 d2 d3 d4 d5 d6 d7 d8 d9 d10
      rw [← hG.out]; clear hG G
      by_cases hp : j.push = true
      · have hk : (jobKind j == 1) = true := by unfold jobKind; rw [hp]; rfl
        obtain ⟨ta6, tc6, rfl⟩ := HT6.out.shape
        rw [List.length_append, List.length_map, ← HLE.out] at HT6 ⊢
        go_wp2_with (at_builtin; refine wpList_append_rows rfl _ _ 23 37 11 88 _ rfl eiJob w1.heap.size _ ((dup (qs.take m)).map jobCells ++ [jobCells j]) rfl (HT6.out.alloc _) _ [jobCells j] rfl (sl_new (c := jobCells j) (by simp) rfl) (by intro c hc; simp at hc; subst hc; exact jobCells_one j) (by have := HLE.out; simp; omega) (by decide) (by simp; omega) (by simp) ?_; intro v7 w7 hownT hgrT hbT)
        have hB7 : Below w1.heap.size w1 w7 := (HB6.out.alloc hz6 _).trans hbT
        have HA7 := Lib.hid ((HA6.out.alloc (.cells (jobCells j).toArray 37)).kept hgrT (fun hn => Own.apart HA6.out HT6.out (by decide) hn))
        have hT7 : Own w7 w1.heap.size 37 11 v7 ((dup (qs.take (m + 1))).map jobCells) := by
          rw [HDS.out, if_pos hp, List.map_append]
          simpa using hownT
        have HT7 := Lib.hid hT7
        have HB7 := Lib.hid hB7
        clear hownT hgrT hbT hB7 hT7
        go_roundw
        case rel => exact ⟨m + 1, by omega, by go_num, HT7, by rw [HAS.out, ← HLE.out]; exact HA7, HB7⟩
        case measure => simp [intOf]; omega
      · have hk : (jobKind j == 1) = false := by unfold jobKind; rw [if_neg hp]; rfl
        have hT7 : Own w6 w1.heap.size 37 11 v6 ((dup (qs.take (m + 1))).map jobCells) := by
          rw [HDS.out, if_neg hp, List.map_append]
          exact HT6.out
        have HT7 := Lib.hid hT7
        clear hT7
        go_wp2_with fail
        go_roundw
        case rel => exact ⟨m + 1, by omega, by go_num, HT7, by rw [HAS.out, ← HLE.out]; exact HA6, HB6⟩
        case measure => simp [intOf]; omega
    · obtain rfl : m = n := by omega
      have htk : qs.take m = qs := List.take_of_length_le (by have := HNQ.out; omega)
      rw [htk] at HT
      obtain ⟨ta, tc, rfl⟩ := HT.out.shape
      obtain ⟨aa, ac, rfl⟩ := HA.out.shape
      rw [ats_len] at HA ⊢
      obtain ⟨ny, hny⟩ : ∃ ny, ny = (dup qs).length := ⟨_, rfl⟩
      rw [List.length_map, ← hny] at HT ⊢
      have hny2 : ny ≤ 80 := by have := dup_len qs; have := HNQ.out; omega
      have HNY := Lib.hid hny
      clear hny htk
      go_wp2_with fail
      refine (queued_n va vc m qs _ HNQ.out (HS.out.below HB.out) (by omega) HK1.out).mono ?_
      rintro e w2 ⟨v2, vs2, rfl, HD2, hb2⟩
      have hz2 := hb2.size
      obtain ⟨xa, xc, rfl⟩ := HD2.shape
      have hl2 : (qrun [] qs).length = m := by rw [qrun_len, HNQ.out]
      rw [hl2] at HD2 ⊢
      have HX2 := Lib.hid HD2
      have HLX := Lib.hid hl2
      have HB2 := Lib.hid hb2
      clear HD2 hl2 hb2
      go_wp2_with fail
      refine (queued_n ta tc ny (dup qs) _ HNY.out (HT.out.below HB2.out).sl (by omega) (dup_ok HK1.out)).mono ?_
      rintro e w3 ⟨v3, vs3, rfl, HD3, hb3⟩
      have hz3 := hb3.size
      obtain ⟨ya, yc, rfl⟩ := HD3.shape
      have hl3 : (qrun [] (dup qs)).length = ny := by rw [qrun_len, HNY.out]
      rw [hl3] at HD3 ⊢
      have HY := Lib.hid HD3
      have HLY := Lib.hid hl3
      have HX := Lib.hid (HX2.out.below hb3)
      have HAt := Lib.hid ((HA.out.below HB2.out).below hb3)
      have hB13 : Below w1.heap.size w1 w3 := HB.out.trans ((HB2.out.mono hzr).trans (hb3.mono (by omega)))
      have HJs := Lib.hid (HS.out.below hB13)
      have HB3 := Lib.hid (HW1.out.trans (hB13.mono hz1))
      have hz := HB3.out.size
      clear HD3 hl3 hb3 hB13 HX2 HA HT HS HB2 HB HW1
      go_wp2_with fail
      go_loopw [11] (fun i wr => ∃ t : Nat, t ≤ m ∧ i = .int .i64 t ∧ Hid (Below w3.heap.size w3 wr)) (fun i _ => m - (intOf i).toNat)
      case atStart => exact ⟨0, Nat.zero_le _, rfl, Below.refl _ _⟩
      case round =>
        obtain ⟨i, hi, rfl, HB⟩ := hrel
        have hzr' := HB.out.size
        by_cases hlt2 : i < m
        · obtain ⟨j, hj⟩ : ∃ j, qs[i]? = some j := ⟨_, List.getElem?_eq_getElem (by have := HNQ.out; omega)⟩
          obtain ⟨d, hd⟩ : ∃ d, (qrun [] qs)[i]? = some d := ⟨_, List.getElem?_eq_getElem (by rw [HLX.out]; exact hlt2)⟩
          obtain ⟨o1, o2⟩ := once_at hj
          rw [hd] at o1 o2
          have hat := ats_at qs hlt2
          obtain ⟨pp, hpp⟩ : ∃ pp, pp = (dup (qs.take i)).length := ⟨_, rfl⟩
          rw [← hpp] at o1 o2 hat
          have hpn : pp < ny := by have := (List.getElem?_eq_some_iff.1 o1).1; rw [HLY.out] at this; exact this
          obtain ⟨g1, p1, c1, rfl, hg1, x0, x1, x2, ox⟩ := HX.out.opened HB.out hd
          obtain ⟨g2, p2, c2, rfl, hg2, y0, y1, y2, oy⟩ := HY.out.opened HB.out o1
          obtain ⟨g3, rfl, hg3, at0⟩ := Own.num HAt.out HB.out hat
          obtain ⟨g4, off4, rfl, hg4, j0, _⟩ := Sl.job HJs.out HB.out hj
          have OX := Lib.hid ox.sl
          have OY := Lib.hid oy.sl
          have O2 : Hid (j.push = true → ∃ dd, (qrun [] (dup qs))[pp + 1]? = some dd ∧ (d.code = 0 → dd.merged = true)) := by
            intro hp
            obtain ⟨dd, h1, h2⟩ := o2 hp
            exact ⟨dd, h1, h2 d rfl⟩
          generalize hac : d.acts = acl at *
          have hK : acl.length ≤ 9223372036854775807 := by have := OX.out.lens; simp at this; omega
          generalize acl.length = K at *
          generalize d.merged = dm at *
          generalize d.code = dc at *
          have hg1r : g1 < wr.heap.size := by omega
          have hg2r : g2 < wr.heap.size := by omega
          have hg3r : g3 < wr.heap.size := by omega
          have hg4r : g4 < wr.heap.size := by omega
          clear hd o1 o2 ox oy hac hj hpp hat
          go_wp2_with fail
          go_loopw [14] (fun k wz => ∃ t : Nat, t ≤ K ∧ k = .int .i64 t ∧ Hid (Below wr.heap.size wr wz) ∧ Hid (wz.cell? ⟨wr.heap.size, 0, none⟩ = some (.int .i64 dc) ∧ wz.cell? ⟨wr.heap.size, 2, none⟩ = some (.slice p1 K c1) ∧ wz.cell? ⟨wr.heap.size + 1, 2, none⟩ = some (.slice p2 K c2))) (fun k _ => K - (intOf k).toNat)
          case atStart => exact ⟨0, Nat.zero_le _, rfl, Lib.hid (by (repeat' (first | (with_reducible exact Below.refl _ _) | (with_reducible assumption) | (with_reducible refine Below.al ?_ _) | (with_reducible refine Below.dr ?_) | (with_reducible refine Below.step ?_ (by assumption)) | (with_reducible refine Below.set ?_ ?_ _) | omega | (dsimp only; omega) | (simp; done) | (simp; omega)))), Lib.hid (by simp)⟩
          case round =>
            obtain ⟨t, ht, rfl, HZ, HC⟩ := hrel
            have hzz := HZ.out.size
            obtain ⟨q0, q2, r2⟩ := HC.out
            by_cases hlt3 : t < K
            · obtain ⟨r, hr⟩ : ∃ r, acl[t]? = some r := ⟨_, List.getElem?_eq_getElem (by have := OX.out.lens.1; simp at this; omega)⟩
              obtain ⟨b1, o1, rfl, hb1, r0, r1, r2, r3, r4, r5, r6, r7, r8⟩ := Sl.act OX.out HZ.out hr
              obtain ⟨b2, o2, rfl, hb2, s0, s1, s2, s3, s4, s5, s6, s7, s8⟩ := Sl.act OY.out HZ.out hr
              clear hr
              go_wp2_with fail
              go_quiet (fail)
              go_wp2
              go_roundw
              case rel => exact ⟨t + 1, by omega, by go_num, below_drewN HZ.out _, Lib.hid (by simp [*])⟩
              case measure => simp [intOf]; omega
            · obtain rfl : t = K := by omega
              have j0z := (HZ.out.cell (p := ⟨g4, off4 + i * 11, none⟩) hg4r).trans j0
              have atz := (HZ.out.cell (p := ⟨g3, i, none⟩) hg3r).trans at0
              clear j0 at0 x0 x1 x2 y0 y1 y2
              by_cases hp : j.push = true
              · have hk : (jobKind j == 1) = true := by unfold jobKind; rw [hp]; rfl
                by_cases hc : dc = 0
                · subst hc
                  obtain ⟨dd, hdd, hmg⟩ := O2.out hp
                  have hpn2 : pp + 1 < ny := by have := (List.getElem?_eq_some_iff.1 hdd).1; rw [HLY.out] at this; exact this
                  obtain ⟨g5, p5, c5, he, hg5, y0, y1, y2, _⟩ := HY.out.opened (HB.out.trans (HZ.out.mono hzr')) hdd
                  cases he
                  rw [hmg rfl] at y1
                  clear y0 y2 hdd hmg
                  go_wp2_with fail
                  go_roundw
                  case rel => exact ⟨i + 1, by omega, by go_num, HB.out.trans (HZ.out.mono hzr')⟩
                  case measure => simp [intOf]; omega
                · have hc' : ((dc : Int) == 0) = false := by rw [beq_eq_false_iff_ne]; omega
                  go_wp2_with fail
                  go_roundw
                  case rel => exact ⟨i + 1, by omega, by go_num, HB.out.trans (HZ.out.mono hzr')⟩
                  case measure => simp [intOf]; omega
              · have hk : (jobKind j == 1) = false := by unfold jobKind; rw [if_neg hp]; rfl
                go_wp2_with fail
                go_roundw
                case rel => exact ⟨i + 1, by omega, by go_num, HB.out.trans (HZ.out.mono hzr')⟩
                case measure => simp [intOf]; omega
        · obtain rfl : i = m := by omega
          go_wp2
          go_returns
          exact ⟨rfl, HB3.out.trans (HB.out.mono hz)⟩
end Go.Proofs.Yticfcigkldkhmaa
