
/- The laws' makers of acts: plain data; Near. -/
import Derived.Test.YtoecmoicaklbaaaDoorTblY
import Derived.Test.YtoecmoicaklbaaaDoorQx
import Derived.Deep.DeepCutAuto
import Derived.Deep.CutBlock
set_option linter.unusedVariables false
namespace Go.Proofs.YtoecmoicaklbaaaDoor
open Go Go.RowKit Go.Sort Wc Wk

def nearA (x : Int) : Nat := 167772152 + (x % 540).toNat
theorem nearA_fits (x : Int) : Fits false (nearA x) := by
  have h2 := Int.emod_lt_of_pos x (show (0 : Int) < 540 by decide)
  unfold Fits wd nearA
  simp
  omega
theorem nearA_any (x : Int) (w : World) : Calls Tryd.prog 13 #[.int .i64 x] w fun e w' => e = .returned (Value.agg #[.bool false, .int .u64 (hiOf false (nearA x)), .int .u64 (loOf (nearA x))]) ∧ Below w.heap.size w w' := by
  have P := Lib.hid (fun w => picked_any x 540 w (by decide) (by decide))
  have h1 := Int.emod_nonneg x (show (540 : Int) ≠ 0 by decide)
  have h2 := Int.emod_lt_of_pos x (show (0 : Int) < 540 by decide)
  have hn := nearA_fits x
  have hN := Lib.hid (loOf_false hn)
  have hd : ((nearA x : Nat) : Int) = 167772152 + x % 540 := by unfold nearA; omega
  rw [hN.out, hd]
  clear hN hd hn
  generalize x % 540 = r at *
  have e1 : wrap64 (167772152 + r) = 167772152 + r := wrap64_in (by omega) (by omega)
  have e2 : IntKind.i64.wrap (167772152 + r) = 167772152 + r := IntWalk.i64_in _ (by omega)
  have e3 : IntKind.u64.wrap (167772152 + r) = 167772152 + r := by
    rw [show IntKind.u64.wrap (167772152 + r) = (167772152 + r) % 18446744073709551616 from rfl]; omega
  go_enter Tryd.func13, Tryd.ntmps13
  go_wp2_with (first | ((with_reducible refine (P.out _).mono ?_); rintro e w' ⟨rfl, rfl⟩))
  go_returns
  exact ⟨rfl, by (repeat' (first | (with_reducible exact Below.refl _ _) | (with_reducible assumption) | (with_reducible refine Below.al ?_ _) | (with_reducible refine Below.dr ?_) | (with_reducible refine Below.step ?_ (by assumption)) | (with_reducible refine Below.set ?_ ?_ _) | omega | (dsimp only; omega) | (simp; done) | (simp; omega)))⟩

/-- The act of a job. -/
def actOf (r : RawJ) : ActD :=
  if 5 < (r.kind % 8).toNat then ⟨3, 0, 0, 0, nearA r.pre⟩ else if (r.kind % 8).toNat = 5 then ⟨4, presN r.pre, presK r.pre, 0, 0⟩
  else if 2 < (r.kind % 8).toNat then ⟨2, presN r.pre, presK r.pre, 0, 0⟩ else ⟨1, presN r.pre, presK r.pre, 1 + (r.hop % 5).toNat, 0⟩
theorem fits0 : Fits false 0 := by unfold Fits wd; simp
theorem vp00 : VP false 0 0 := ⟨fits0, Nat.zero_le _, by decide⟩
theorem actOf_fit (r : RawJ) : (actOf r).fit := by
  have h2 := Int.emod_lt_of_pos r.hop (show (0 : Int) < 5 by decide)
  have d4 : (1 : Nat) ≤ 4 ∧ (4 : Nat) ≤ 4 := by decide
  have d3 : (1 : Nat) ≤ 3 ∧ (3 : Nat) ≤ 4 := by decide
  have d2 : (1 : Nat) ≤ 2 ∧ (2 : Nat) ≤ 4 := by decide
  have d1 : (1 : Nat) ≤ 1 ∧ (1 : Nat) ≤ 4 := by decide
  unfold actOf
  split
  · exact ⟨vp00, nearA_fits _, d3, (fun h => by cases h), Nat.zero_le _⟩
  · split
    · exact ⟨pres_vp _, fits0, d4, (fun h => by cases h), Nat.zero_le _⟩
    · split
      · exact ⟨pres_vp _, fits0, d2, (fun h => by cases h), Nat.zero_le _⟩
      · exact ⟨pres_vp _, fits0, d1, fun _ => by show 1 ≤ 1 + _; omega, by show 1 + (r.hop % 5).toNat ≤ 999; omega⟩
/-- What Acts hands back. -/
def actsOf (js : List RawJ) (n : Nat) : List ActD := (js.take n).map actOf
theorem actsOf_fit {js : List RawJ} {n : Nat} : ∀ x ∈ actsOf js n, x.fit := fun x hx => by
  obtain ⟨r, _, rfl⟩ := List.mem_map.1 hx
  exact actOf_fit r
theorem actsOf_len (js : List RawJ) (n : Nat) : (actsOf js n).length ≤ n := by simp [actsOf]; omega
theorem actsOf_snoc {js : List RawJ} {k : Nat} {r : RawJ} (h : js[k]? = some r) : actsOf js (k + 1) = actsOf js k ++ [actOf r] := by
  unfold actsOf
  rw [List.take_add_one, h, List.map_append]; rfl
theorem takeMin {js : List RawJ} {n k : Nat} (hk : k ≤ js.length) (hkn : k ≤ n) (h : k = js.length ∨ k = n) : actsOf js k = actsOf js n := by
  unfold actsOf
  rcases h with rfl | rfl
  · rw [List.take_of_length_le (Nat.le_refl _), List.take_of_length_le hkn]
  · rfl
end Go.Proofs.YtoecmoicaklbaaaDoor

/- The laws' maker of acts: Acts. -/
set_option linter.unusedVariables false
set_option linter.unusedSimpArgs false
namespace Go.Proofs.YtoecmoicaklbaaaDoor
open Go Go.RowKit Go.Sort Wc Wk

/-- What Acts hands back: acts that may be, in a slice of its own. -/
def RetActs (w : World) (l : List ActD) (e : Ending) (w' : World) : Prop :=
  ∃ (v : Value), e = .returned v ∧ Own w' w.heap.size 59 9 v (l.map actCells) ∧ Below w.heap.size w w'

theorem MadeAct.dr {X w : World} {q : ActD} {v : Value} (h : MadeAct X q v w) : MadeAct X q v w.drew := by
  obtain ⟨A, h1, h2, h3, h4⟩ := h
  exact ⟨A, h1, h2.below (Below.drew (Below.refl _ _)), h3.drew, h4⟩

set_option maxRecDepth 100000 in
set_option maxHeartbeats 6000000 in
theorem acts_any (a : Option Addr) (len cap : Nat) (js : List RawJ) (n : Nat) (w : World) (h : IsJobs w a len cap js) (hn : n ≤ 1000) :
    Calls Tryd.prog 8 #[.slice a len cap, .int .i64 n] w (RetActs w (actsOf js n)) := by
  have hlm := h.le
  have hlc := h.2.1.lens.2.1
  have HLEN := Lib.hid h.1
  have HJ := Lib.hid h
  clear h
  go_enter Tryd.func8, Tryd.ntmps8
  go_wp2_with fail
  go_loopw [5, 6] (fun v i wr => ∃ k : Nat, k ≤ len ∧ k ≤ n ∧ i = .int .i64 k ∧ Hid (Own wr w.heap.size 59 9 v ((actsOf js k).map actCells)) ∧ Hid (Below w.heap.size w wr)) (fun _ i _ => len - (intOf i).toNat)
  case atStart => exact ⟨0, Nat.zero_le _, Nat.zero_le _, rfl, Own.nil _ _ _ _, Below.refl _ _⟩
  case round =>
    obtain ⟨k, hk, hkn, rfl, HO, HB⟩ := hrel
    have hzr := HB.out.size
    by_cases hlt : k < len
    · by_cases hlt2 : k < n
      · obtain ⟨b, off, r, hr, rfl, hb, d0, d1, d2, x0, x1, x2⟩ := HJ.out.opened HB.out hlt
        have HSN := Lib.hid (actsOf_snoc hr)
        obtain ⟨kx, px, hx⟩ := r
        have hbr : b < wr.heap.size := by omega
        dsimp only at d0 d1 d2 x0 x1 x2
        have P0 := Lib.hid (fun w => picked_any hx 5 w (by decide) (by decide))
        have P1 := Lib.hid (fun w => picked_any kx 8 w (by decide) (by decide))
        have b0 := Int.emod_nonneg kx (show (8 : Int) ≠ 0 by decide)
        have c0 := Int.emod_nonneg hx (show (5 : Int) ≠ 0 by decide)
        have c1 := Int.emod_lt_of_pos hx (show (0 : Int) < 5 by decide)
        obtain ⟨pm, hpm⟩ := Int.eq_ofNat_of_zero_le b0
        obtain ⟨pc, hpc⟩ := Int.eq_ofNat_of_zero_le c0
        have eAct : actOf ⟨kx, px, hx⟩ = if 5 < pm then ⟨3, 0, 0, 0, nearA px⟩ else if pm = 5 then ⟨4, presN px, presK px, 0, 0⟩ else if 2 < pm then ⟨2, presN px, presK px, 0, 0⟩ else ⟨1, presN px, presK px, 1 + pc, 0⟩ := by
          unfold actOf
          dsimp only
          rw [hpm, hpc]
          rfl
        have HE := Lib.hid eAct
        rw [hpm] at P1
        rw [hpc] at P0 c1
        clear hpm hpc b0 c0 hr eAct
        have PR := Lib.hid (fun b w hc => pres_one b px w hc x1)
        go_upto_region 7 with (first | ((with_reducible refine (PR.out _ _ (by first | (go_simp; done) | simp)).mono ?_); rintro e w1 ⟨g, gc, rfl, g1, g2, g3, g4, g5, g6, hb1⟩; (repeat (with_reducible (replace hb1 := Below.undrew hb1))); obtain ⟨hc1, hf1⟩ := bcell hb1; have hz1 := hb1.size; (repeat (first | rw [World.size_alloc] at hz1 | rw [World.size_drew] at hz1 | rw [World.size_setCell] at hz1)); (try have : b < w1.heap.size := by omega); (try have : b < w1.heap.size + 1 := by omega); (try have : b < w1.heap.size + 1 + 1 := by omega); (try have : b < w1.heap.size + 1 + 1 + 1 := by omega); (try have : wr.heap.size < w1.heap.size := by omega); (try have : wr.heap.size < w1.heap.size + 1 := by omega); (try have : wr.heap.size < w1.heap.size + 1 + 1 := by omega); (try have : wr.heap.size < w1.heap.size + 1 + 1 + 1 := by omega)))
        have hWX : Below (wr.heap.size + 1) (wr.alloc (.cells #[.int .i64 kx, .int .i64 px, .int .i64 hx] 61)) (w1.alloc (.cells #[.bool false, .int .u64 (hiOf false (presN px)), .int .u64 (loOf (presN px)), .int .i64 (presK px : Nat)] 39)) :=
          (((Below.refl _ _).alloc (by simp) _).trans (hb1.mono (by simp))).alloc (by omega) _
        have hWW : Below wr.heap.size wr (w1.alloc (.cells #[.bool false, .int .u64 (hiOf false (presN px)), .int .u64 (loOf (presN px)), .int .i64 (presK px : Nat)] 39)) := by (repeat' (first | (with_reducible exact Below.refl _ _) | (with_reducible assumption) | (with_reducible refine Below.alloc ?_ ?_ _) | (with_reducible refine Below.drew ?_) | (with_reducible refine Below.stepG ?_ (by assumption) ?_) | (with_reducible refine Below.setCell ?_ ?_ _) | omega | (dsimp only; omega) | (simp; done) | (simp; omega)))
        have j0 := (hWX.cell (p := ⟨wr.heap.size, 0, none⟩) (Nat.lt_succ_self _)).trans (show _ = some (.int .i64 kx) by simp)
        have j1 := (hWX.cell (p := ⟨wr.heap.size, 1, none⟩) (Nat.lt_succ_self _)).trans (show _ = some (.int .i64 px) by simp)
        have j2 := (hWX.cell (p := ⟨wr.heap.size, 2, none⟩) (Nat.lt_succ_self _)).trans (show _ = some (.int .i64 hx) by simp)
        have p0 : (w1.alloc (.cells #[.bool false, .int .u64 (hiOf false (presN px)), .int .u64 (loOf (presN px)), .int .i64 (presK px : Nat)] 39)).cell? ⟨w1.heap.size, 0, none⟩ = some (.bool false) := by simp
        have p1 : (w1.alloc (.cells #[.bool false, .int .u64 (hiOf false (presN px)), .int .u64 (loOf (presN px)), .int .i64 (presK px : Nat)] 39)).cell? ⟨w1.heap.size, 1, none⟩ = some (.int .u64 (hiOf false (presN px))) := by simp
        have p2 : (w1.alloc (.cells #[.bool false, .int .u64 (hiOf false (presN px)), .int .u64 (loOf (presN px)), .int .i64 (presK px : Nat)] 39)).cell? ⟨w1.heap.size, 2, none⟩ = some (.int .u64 (loOf (presN px))) := by simp
        have p3 : (w1.alloc (.cells #[.bool false, .int .u64 (hiOf false (presN px)), .int .u64 (loOf (presN px)), .int .i64 (presK px : Nat)] 39)).cell? ⟨w1.heap.size, 3, none⟩ = some (.int .i64 (presK px : Nat)) := by simp
        have hPX : w1.heap.size < (w1.alloc (.cells #[.bool false, .int .u64 (hiOf false (presN px)), .int .u64 (loOf (presN px)), .int .i64 (presK px : Nat)] 39)).heap.size := by simp
        obtain ⟨P, hP⟩ : ∃ P, P = w1.heap.size := ⟨_, rfl⟩
        rw [← hP] at p0 p1 p2 p3 hPX ⊢
        have hJP : wr.heap.size < P := by omega
        have HWW := Lib.hid hWW
        clear hb1 hc1 hf1 g1 g2 g3 g4 g5 g6 hWX hWW hP hz1
        generalize w1.alloc (.cells #[.bool false, .int .u64 (hiOf false (presN px)), .int .u64 (loOf (presN px)), .int .i64 (presK px : Nat)] 39) = X at *
        obtain ⟨J, hJ⟩ : ∃ J, J = wr.heap.size := ⟨_, rfl⟩
        rw [← hJ] at j0 j1 j2 hJP ⊢
        have HJE := Lib.hid hJ
        have hJX : J < X.heap.size := by omega
        have hPX1 : P < X.heap.size + 1 := by omega
        have hJX1 : J < X.heap.size + 1 := by omega
        clear hJ
        go_cut [9] (fun v wx => Hid (MadeAct X ⟨1, presN px, presK px, 1 + pc, 0⟩ v wx))
        case first =>
          have ew1 : IntKind.i64.wrap (1 + (pc : Int)) = 1 + (pc : Int) := IntWalk.i64_in _ (by omega)
          go_region_held3 (fun w' => w'.cell? ⟨P, 0, none⟩ = some (.bool false) ∧ w'.cell? ⟨P, 1, none⟩ = some (.int .u64 (hiOf false (presN px))) ∧ w'.cell? ⟨P, 2, none⟩ = some (.int .u64 (loOf (presN px))) ∧ w'.cell? ⟨P, 3, none⟩ = some (.int .i64 (presK px : Nat)) ∧ w'.cell? ⟨J, 2, none⟩ = some (.int .i64 hx)) (first | (go_simp; done) | (simp [*, go_sem, World.cell?_alloc_past]; done) | (simp [*, go_sem, World.cell?_alloc_past, World.cell?_setCell_far]; done))
            (first | ((with_reducible refine (P0.out _).mono ?_); rintro e w' ⟨rfl, rfl⟩))
          all_goals go_wp2_with fail
          all_goals go_meet
          all_goals refine Lib.hid ?_
          all_goals exact (MadeAct.new9 _ _ _ _ rfl (Below.refl _ _)).dr
        case rest =>
          obtain ⟨A, hA0, HA0, HAB0, hXA⟩ := hcut.out
          subst hA0
          clear hcut
          have j0w := (HAB0.cell (p := ⟨J, 0, none⟩) hJX).trans j0
          have j1w := (HAB0.cell (p := ⟨J, 1, none⟩) hJX).trans j1
          have p0w := (HAB0.cell (p := ⟨P, 0, none⟩) hPX).trans p0
          have p1w := (HAB0.cell (p := ⟨P, 1, none⟩) hPX).trans p1
          have p2w := (HAB0.cell (p := ⟨P, 2, none⟩) hPX).trans p2
          have p3w := (HAB0.cell (p := ⟨P, 3, none⟩) hPX).trans p3
          have HA := Lib.hid HA0
          have HAB := Lib.hid (HWW.out.trans (HAB0.mono HWW.out.size))
          have hWA := HWW.out.size
          have hAl := HA0.lt
          have hXw := HAB0.size
          clear HAB0 j0 j1 j2 p0 p1 p2 p3
          have a0 := HA0.at_ 0 _ rfl
          have f0 := HA0.fz 0 (by decide)
          have a1 := HA0.at_ 1 _ rfl
          have f1 := HA0.fz 1 (by decide)
          have a2 := HA0.at_ 2 _ rfl
          have f2 := HA0.fz 2 (by decide)
          have a3 := HA0.at_ 3 _ rfl
          have f3 := HA0.fz 3 (by decide)
          have a4 := HA0.at_ 4 _ rfl
          have f4 := HA0.fz 4 (by decide)
          have a5 := HA0.at_ 5 _ rfl
          have f5 := HA0.fz 5 (by decide)
          have a6 := HA0.at_ 6 _ rfl
          have f6 := HA0.fz 6 (by decide)
          have a7 := HA0.at_ 7 _ rfl
          have f7 := HA0.fz 7 (by decide)
          have a8 := HA0.at_ 8 _ rfl
          have f8 := HA0.fz 8 (by decide)
          clear HA0
          obtain ⟨W, hW⟩ : ∃ W, W = wc := ⟨_, rfl⟩
          subst hW
          have hWz := HAB.out.size
          go_upto_block 2 with (first | ((with_reducible refine (P1.out _).mono ?_); rintro e w' ⟨rfl, rfl⟩))
          go_cut [] (fun wx => Hid (AcC wx A (actOf ⟨kx, px, hx⟩) ∧ Below wr.heap.size wr wx))
          case first =>
            by_cases h5 : 5 < pm
            · have EQ := Lib.hid (show actOf ⟨kx, px, hx⟩ = ⟨3, 0, 0, 0, nearA px⟩ by rw [HE.out, if_pos h5])
              have NR := Lib.hid (fun w => nearA_any px w)
              have hJW : J < W.heap.size := by omega
              go_wp2_with fail
              refine (NR.out _).mono ?_
              rintro e w2 ⟨rfl, hb2⟩
              have HA2 := Lib.hid (HA.out.below hb2)
              have HAB2 := Lib.hid (HAB.out.trans (hb2.mono HAB.out.size))
              have hz2 := hb2.size
              clear hb2 a0 a1 a2 a3 a4 a5 a6 a7 a8 f0 f1 f2 f3 f4 f5 f6 f7 f8 j0w j1w p0w p1w p2w p3w
              have a0 := HA2.out.at_ 0 _ rfl
              have f0 := HA2.out.fz 0 (by decide)
              have a1 := HA2.out.at_ 1 _ rfl
              have f1 := HA2.out.fz 1 (by decide)
              have a2 := HA2.out.at_ 2 _ rfl
              have f2 := HA2.out.fz 2 (by decide)
              have a3 := HA2.out.at_ 3 _ rfl
              have f3 := HA2.out.fz 3 (by decide)
              have a4 := HA2.out.at_ 4 _ rfl
              have f4 := HA2.out.fz 4 (by decide)
              have a5 := HA2.out.at_ 5 _ rfl
              have f5 := HA2.out.fz 5 (by decide)
              have a6 := HA2.out.at_ 6 _ rfl
              have f6 := HA2.out.fz 6 (by decide)
              have a7 := HA2.out.at_ 7 _ rfl
              have f7 := HA2.out.fz 7 (by decide)
              have a8 := HA2.out.at_ 8 _ rfl
              have f8 := HA2.out.fz 8 (by decide)
              go_wp2_with fail
              change Met _ _ (setRow w2 A 0 (actCells ⟨3, 0, 0, 0, nearA px⟩))
              obtain ⟨h1, h2⟩ := AcC.put ⟨3, 0, 0, 0, nearA px⟩ HA2.out.row
              go_meet
              exact ⟨by rw [EQ.out]; exact h1, HAB2.out.trans (h2.below (by omega) (fun b x hb e => by omega))⟩
            · by_cases h6 : pm = 5
              · have EQ := Lib.hid (show actOf ⟨kx, px, hx⟩ = ⟨4, presN px, presK px, 0, 0⟩ by rw [HE.out, if_neg h5, if_pos h6])
                subst h6
                go_wp2_with fail
                change Met _ _ (setRow W A 0 (actCells ⟨4, presN px, presK px, 0, 0⟩))
                obtain ⟨h1, h2⟩ := AcC.put ⟨4, presN px, presK px, 0, 0⟩ HA.out.row
                go_meet
                exact ⟨by rw [EQ.out]; exact h1, HAB.out.trans (h2.below (by omega) (fun b x hb e => by omega))⟩
              · by_cases h7 : 2 < pm
                · have EQ := Lib.hid (show actOf ⟨kx, px, hx⟩ = ⟨2, presN px, presK px, 0, 0⟩ by rw [HE.out, if_neg h5, if_neg h6, if_pos h7])
                  go_wp2_with fail
                  change Met _ _ (setRow W A 0 (actCells ⟨2, presN px, presK px, 0, 0⟩))
                  obtain ⟨h1, h2⟩ := AcC.put ⟨2, presN px, presK px, 0, 0⟩ HA.out.row
                  go_meet
                  exact ⟨by rw [EQ.out]; exact h1, HAB.out.trans (h2.below (by omega) (fun b x hb e => by omega))⟩
                · have EQ := Lib.hid (show actOf ⟨kx, px, hx⟩ = ⟨1, presN px, presK px, 1 + pc, 0⟩ by rw [HE.out, if_neg h5, if_neg h6, if_neg h7])
                  go_wp2_with fail
                  go_meet
                  exact ⟨by rw [EQ.out]; exact HA.out, HAB.out⟩
          case rest =>
            obtain ⟨HA9, HB9⟩ := hcut.out
            clear hcut a0 a1 a2 a3 a4 a5 a6 a7 a8 f0 f1 f2 f3 f4 f5 f6 f7 f8 j0w j1w p0w p1w p2w p3w HA HAB
            generalize actOf ⟨kx, px, hx⟩ = q at *
            have a0 := HA9.at_ 0 _ rfl
            have a1 := HA9.at_ 1 _ rfl
            have a2 := HA9.at_ 2 _ rfl
            have a3 := HA9.at_ 3 _ rfl
            have a4 := HA9.at_ 4 _ rfl
            have a5 := HA9.at_ 5 _ rfl
            have a6 := HA9.at_ 6 _ rfl
            have a7 := HA9.at_ 7 _ rfl
            have a8 := HA9.at_ 8 _ rfl
            have HOc := Lib.hid (HO.out.below HB9)
            have HBc := Lib.hid (HB.out.trans (HB9.mono hzr))
            have hzc := HB9.size
            have HLK := Lib.hid (show (actsOf js k).length ≤ k from actsOf_len js k)
            clear HA9 HB9
            go_wp2_with (at_builtin; refine wpList_append_rows rfl _ _ 26 59 9 72 _ rfl eiAct w.heap.size _ ((actsOf js k).map actCells) rfl (HOc.out.alloc _) _ [actCells q] rfl (sl_new (c := actCells q) (by simp) rfl) (by intro c hc; simp at hc; subst hc; exact actCells_one q) (by have := HLK.out; simp; omega) (by decide) (by simp; omega) (by simp) ?_; intro v' w5 hown' hgr hb5)
            have hown2 : Own w5 w.heap.size 59 9 v' ((actsOf js (k + 1)).map actCells) := by rw [HSN.out, List.map_append]; exact hown'
            have hB5 : Below w.heap.size w w5 := (HBc.out.alloc (by omega) _).trans hb5
            have HO5 := Lib.hid hown2
            have HB5 := Lib.hid hB5
            clear hown' hgr hb5 hown2 hB5
            go_roundw
            case rel => exact ⟨k + 1, by omega, by omega, by go_num, HO5, HB5⟩
            case measure => simp [intOf]; omega
      · have hd : decide ((k : Int) < n) = false := by simp; omega
        go_wp2
        go_returns
        exact ⟨_, rfl, by rw [← takeMin (js := js) (n := n) (k := k) (by rw [HLEN.out]; exact hk) hkn (.inr (by omega))]; exact HO.out, HB.out⟩
    · have hd : decide ((k : Int) < len) = false := by simp; omega
      go_wp2
      go_returns
      exact ⟨_, rfl, by rw [← takeMin (js := js) (n := n) (k := k) (by rw [HLEN.out]; exact hk) hkn (.inl (by rw [HLEN.out]; omega))]; exact HO.out, HB.out⟩
end Go.Proofs.YtoecmoicaklbaaaDoor
