
/- Rules: the contract of Idle. -/
import Derived.Test.YtlcacocecdnpnaaFree
import Derived.Test.YtlcacocecdnpnaaVia2
set_option linter.unusedVariables false
namespace Go.Proofs.Ytlcacocecdnpnaa
open Go.RowKit Go.Sort Wc Wk

/-- Idle is a rule of whose prefixes each is fit by a rule ahead. -/
def idleB (P : List RuleD) (r : RuleD) (x : Nat) : Bool := (List.range' r.least x).all (fun wide => !freeF 33 P r.n r.k wide)
def isIdle (l : List RuleD) (i : Nat) : Bool := match l[i]? with | some r => idleB (l.take i) r (r.most + 1 - r.least) | none => false
def idles (l : List RuleD) (j : Nat) : List Nat := (List.range j).filter (isIdle l)

theorem idleB_succ (P : List RuleD) (r : RuleD) (x : Nat) : idleB P r (x + 1) = (idleB P r x && !freeF 33 P r.n r.k (r.least + x)) := by
  unfold idleB
  rw [List.range'_concat, List.all_append]
  simp
theorem idleB_no {P : List RuleD} {r : RuleD} {x y : Nat} (h : idleB P r x = false) (hy : x ≤ y) : idleB P r y = false := by
  obtain ⟨z, rfl⟩ : ∃ z, y = x + z := ⟨y - x, by omega⟩
  induction z with
  | zero => exact h
  | succ z ih => rw [← Nat.add_assoc, idleB_succ, ih (by omega)]; rfl
theorem idles_succ (l : List RuleD) (j : Nat) : idles l (j + 1) = idles l j ++ (if isIdle l j then [j] else []) := by
  unfold idles
  rw [List.range_succ, List.filter_append]
  congr 1
  simp only [List.filter_cons, List.filter_nil]
theorem idles_len (l : List RuleD) (j : Nat) : (idles l j).length ≤ j := by
  unfold idles
  exact Nat.le_trans (List.length_filter_le _ _) (by simp)


set_option maxRecDepth 100000 in
set_option maxHeartbeats 4000000 in
theorem idle_any (a : Option Addr) (cap : Nat) (l : List RuleD) (w : World) (hs : Sl w 7 (.slice a l.length cap) (l.map ruleCells)) (hlen : l.length ≤ 30) (hok : ∀ q ∈ l, RuleD.ok q) :
    Calls Try.prog 30 #[.slice a l.length cap] w fun e w' => ∃ v, e = .returned (.tuple #[v, .int .i64 0]) ∧ Own w' w.heap.size 3 1 v ((idles l l.length).map natCells) ∧ Below w.heap.size w w' := by
  have HS := Lib.hid hs
  have HOK := Lib.hid hok
  obtain ⟨hcapl, hcapm⟩ : l.length ≤ cap ∧ cap ≤ 9223372036854775807 := by
    obtain ⟨a', cap', hv, h1, h2⟩ := hs.shape
    simp only [Value.slice.injEq, List.length_map] at hv h1
    obtain ⟨_, _, rfl⟩ := hv
    exact ⟨h1, h2⟩
  clear hs hok
  go_enter Try.func30, Try.ntmps30
  go_wp2_with fail
  refine (rcheck_any a cap l _ (HS.out.below (by (repeat' (first | (with_reducible exact Below.refl _ _) | (with_reducible assumption) | (with_reducible refine Below.alloc ?_ ?_ _) | (with_reducible refine Below.drew ?_) | (with_reducible refine Below.stepG ?_ (by assumption) ?_) | (with_reducible refine Below.setCell ?_ ?_ _) | omega | (dsimp only; omega) | (simp; done) | (simp; omega))))) hlen HOK.out).mono ?_; rintro e w1 ⟨rfl, hb1⟩; (repeat (with_reducible (replace hb1 := Below.undrew hb1))); obtain ⟨hc1, hf1⟩ := bcell hb1; have hz1 := hb1.size; (repeat (first | rw [World.size_alloc] at hz1 | rw [World.size_drew] at hz1 | rw [World.size_setCell] at hz1)); (try have : w.heap.size < w1.heap.size := by omega); (try have : w.heap.size < w1.heap.size + 1 := by omega); (try have : w.heap.size < w1.heap.size + 1 + 1 := by omega); (try have : w.heap.size < w1.heap.size + 1 + 1 + 1 := by omega); (try have : W.heap.size < w1.heap.size := by omega); (try have : W.heap.size < w1.heap.size + 1 := by omega); (try have : W.heap.size < w1.heap.size + 1 + 1 := by omega); (try have : W.heap.size < w1.heap.size + 1 + 1 + 1 := by omega); (try have : wr.heap.size < w1.heap.size := by omega); (try have : wr.heap.size < w1.heap.size + 1 := by omega); (try have : wr.heap.size < w1.heap.size + 1 + 1 := by omega); (try have : wr.heap.size < w1.heap.size + 1 + 1 + 1 := by omega); (try have : wr.heap.size + 1 < w1.heap.size := by omega); (try have : wr.heap.size + 1 < w1.heap.size + 1 := by omega); (try have : wr.heap.size + 1 < w1.heap.size + 1 + 1 := by omega); (try have : wr.heap.size + 1 < w1.heap.size + 1 + 1 + 1 := by omega)
  go_wp2_with fail
  go_loopw [5, 17] (fun v i wr => ∃ j : Nat, j ≤ l.length ∧ i = .int .i64 j ∧ Hid (Own wr w.heap.size 3 1 v ((idles l j).map natCells)) ∧ Below w.heap.size w wr) (fun _ i _ => l.length - (intOf i).toNat)
  case atStart => exact ⟨0, Nat.zero_le _, rfl, Own.nil _ _ _ _, by (repeat' (first | (with_reducible exact Below.refl _ _) | (with_reducible assumption) | (with_reducible refine Below.alloc ?_ ?_ _) | (with_reducible refine Below.drew ?_) | (with_reducible refine Below.stepG ?_ (by assumption) ?_) | (with_reducible refine Below.setCell ?_ ?_ _) | omega | (dsimp only; omega) | (simp; done) | (simp; omega)))⟩
  case round =>
    obtain ⟨j, hj, rfl, HO, hbr⟩ := hrel
    have hzr := hbr.size
    by_cases hlt : j < l.length
    · obtain ⟨r, hr⟩ : ∃ r, l[j]? = some r := ⟨_, List.getElem?_eq_getElem hlt⟩
      obtain ⟨b, off, rfl, hb, d0, d1, d2, d3, d4, d5, d6⟩ := Sl.rule HS.out hbr hr
      obtain ⟨ok1, ok2, ok3, ok4⟩ := HOK.out r (List.mem_of_getElem? hr)
      have HR := Lib.hid hr
      clear hr
      go_wp2_with fail
      have F0 : (wr.alloc (.cells #[.bool r.yes, .bool false, .int .u64 (hiOf false r.n), .int .u64 (loOf r.n), .int .i64 r.k, .int .i64 r.least, .int .i64 r.most] 46)).cell? ⟨wr.heap.size, 0, none⟩ = some (.bool r.yes) := by simp
      have F1 : (wr.alloc (.cells #[.bool r.yes, .bool false, .int .u64 (hiOf false r.n), .int .u64 (loOf r.n), .int .i64 r.k, .int .i64 r.least, .int .i64 r.most] 46)).cell? ⟨wr.heap.size, 1, none⟩ = some (.bool false) := by simp
      have F2 : (wr.alloc (.cells #[.bool r.yes, .bool false, .int .u64 (hiOf false r.n), .int .u64 (loOf r.n), .int .i64 r.k, .int .i64 r.least, .int .i64 r.most] 46)).cell? ⟨wr.heap.size, 2, none⟩ = some (.int .u64 (hiOf false r.n)) := by simp
      have F3 : (wr.alloc (.cells #[.bool r.yes, .bool false, .int .u64 (hiOf false r.n), .int .u64 (loOf r.n), .int .i64 r.k, .int .i64 r.least, .int .i64 r.most] 46)).cell? ⟨wr.heap.size, 3, none⟩ = some (.int .u64 (loOf r.n)) := by simp
      have F4 : (wr.alloc (.cells #[.bool r.yes, .bool false, .int .u64 (hiOf false r.n), .int .u64 (loOf r.n), .int .i64 r.k, .int .i64 r.least, .int .i64 r.most] 46)).cell? ⟨wr.heap.size, 4, none⟩ = some (.int .i64 r.k) := by simp
      have F6 : (wr.alloc (.cells #[.bool r.yes, .bool false, .int .u64 (hiOf false r.n), .int .u64 (loOf r.n), .int .i64 r.k, .int .i64 r.least, .int .i64 r.most] 46)).cell? ⟨wr.heap.size, 6, none⟩ = some (.int .i64 r.most) := by simp
      have FS : wr.heap.size < (wr.alloc (.cells #[.bool r.yes, .bool false, .int .u64 (hiOf false r.n), .int .u64 (loOf r.n), .int .i64 r.k, .int .i64 r.least, .int .i64 r.most] 46)).heap.size := by simp
      have FB : Below w.heap.size w (wr.alloc (.cells #[.bool r.yes, .bool false, .int .u64 (hiOf false r.n), .int .u64 (loOf r.n), .int .i64 r.k, .int .i64 r.least, .int .i64 r.most] 46)) := by (repeat' (first | (with_reducible exact Below.refl _ _) | (with_reducible assumption) | (with_reducible refine Below.alloc ?_ ?_ _) | (with_reducible refine Below.drew ?_) | (with_reducible refine Below.stepG ?_ (by assumption) ?_) | (with_reducible refine Below.setCell ?_ ?_ _) | omega | (dsimp only; omega) | (simp; done) | (simp; omega)))
      have FO0 := ((HS.out.below (w' := wr.alloc (.cells #[.bool r.yes, .bool false, .int .u64 (hiOf false r.n), .int .u64 (loOf r.n), .int .i64 r.k, .int .i64 r.least, .int .i64 r.most] 46)) FB).take j (by simp; omega))
      rw [← List.map_take] at FO0
      have FO := Lib.hid FO0
      clear FO0
      have HO2 := Lib.hid (HO.out.alloc (.cells #[.bool r.yes, .bool false, .int .u64 (hiOf false r.n), .int .u64 (loOf r.n), .int .i64 r.k, .int .i64 r.least, .int .i64 r.most] 46))
      clear HO hbr d0 d1 d2 d3 d4 d5 d6
      generalize wr.alloc (.cells #[.bool r.yes, .bool false, .int .u64 (hiOf false r.n), .int .u64 (loOf r.n), .int .i64 r.k, .int .i64 r.least, .int .i64 r.most] 46) = W at *
      obtain ⟨B, hB⟩ : ∃ B, B = wr.heap.size := ⟨_, rfl⟩
      rw [← hB] at F0 F1 F2 F3 F4 F6 FS ⊢
      have hBe : w.heap.size ≤ B := by omega
      clear hB hzr
      have HI := Lib.hid (show isIdle l j = idleB (l.take j) r (r.most + 1 - r.least) by unfold isIdle; rw [HR.out])
      have hokP : ∀ q ∈ l.take j, RuleD.ok q := fun q hq => HOK.out q (List.mem_of_mem_take hq)
      have hlP : (l.take j).length = j := by simp; omega
      generalize l.take j = P at *
      have HF := Lib.hid (fun x cap w hs h1 h2 => free_says x 33 P (some ⟨b, off, none⟩) cap r.n r.k w hs (by omega) hokP ok1 h1 h2 (by omega))
      rw [hlP] at HF
      clear hokP hlP
      go_loopw [8, 9] (fun dl wd wi => ∃ (x : Nat) (y : Bool), x ≤ r.most + 1 - r.least ∧ wd = .int .i64 ((r.least : Int) + x) ∧ dl = .bool y ∧ Hid (idleB P r x = y) ∧ Below W.heap.size W wi) (fun _ wd _ => (r.most + 1 - (intOf wd).toNat))
      case atStart => exact ⟨0, true, Nat.zero_le _, by simp, rfl, Lib.hid rfl, Below.refl _ _⟩
      case round =>
        obtain ⟨x, y, hx, rfl, rfl, HY, hbi⟩ := hrel
        have hzi := hbi.size
        have g0 := (hbi.cell (p := ⟨B, 0, none⟩) FS).trans F0
        have g1 := (hbi.cell (p := ⟨B, 1, none⟩) FS).trans F1
        have g2 := (hbi.cell (p := ⟨B, 2, none⟩) FS).trans F2
        have g3 := (hbi.cell (p := ⟨B, 3, none⟩) FS).trans F3
        have g4 := (hbi.cell (p := ⟨B, 4, none⟩) FS).trans F4
        have g6 := (hbi.cell (p := ⟨B, 6, none⟩) FS).trans F6
        clear F0 F1 F2 F3 F4 F6
        by_cases hlx : x < r.most + 1 - r.least ∧ y = true
        · obtain ⟨hlx, rfl⟩ := hlx
          have hle : ((r.least : Int) + x) ≤ r.most := by omega
          have gs : B < wr.heap.size := by omega
          have hjc : j ≤ cap := by omega
          have F := Lib.hid (fun d os => HF.out (r.least + x) cap (grow (redrawn wr d) os) (FO.out.below ((hbi.trans ((below_regrown wr d os).mono hzi)))) (by omega) (by omega))
          rw [show ((r.least + x : Nat) : Int) = (r.least : Int) + x from by omega] at F
          have HY2 := Lib.hid (show idleB P r (x + 1) = !freeF 33 P r.n r.k (r.least + x) by rw [idleB_succ, HY.out, Bool.true_and])
          generalize freeF 33 P r.n r.k (r.least + x) = z at *
          go_wp2_with fail
          refine wp_region_qb (by kernel_rfl) (by kernel_rfl) (fun kq => ?_)
          repeat (quiet_step (first | (with_reducible exact Calls.regrown_of (F.out _ _))))
          clear kq
          refine wpQuiet_nil ?_; intro w2 hb2; (repeat (with_reducible (replace hb2 := Below.undrew hb2))); obtain ⟨hc2, hf2⟩ := bcell hb2; have hz2 := hb2.size; (repeat (first | rw [World.size_alloc] at hz2 | rw [World.size_drew] at hz2 | rw [World.size_setCell] at hz2)); (try have : w.heap.size < w2.heap.size := by omega); (try have : w.heap.size < w2.heap.size + 1 := by omega); (try have : w.heap.size < w2.heap.size + 1 + 1 := by omega); (try have : w.heap.size < w2.heap.size + 1 + 1 + 1 := by omega); (try have : W.heap.size < w2.heap.size := by omega); (try have : W.heap.size < w2.heap.size + 1 := by omega); (try have : W.heap.size < w2.heap.size + 1 + 1 := by omega); (try have : W.heap.size < w2.heap.size + 1 + 1 + 1 := by omega); (try have : wr.heap.size < w2.heap.size := by omega); (try have : wr.heap.size < w2.heap.size + 1 := by omega); (try have : wr.heap.size < w2.heap.size + 1 + 1 := by omega); (try have : wr.heap.size < w2.heap.size + 1 + 1 + 1 := by omega); (try have : wr.heap.size + 1 < w2.heap.size := by omega); (try have : wr.heap.size + 1 < w2.heap.size + 1 := by omega); (try have : wr.heap.size + 1 < w2.heap.size + 1 + 1 := by omega); (try have : wr.heap.size + 1 < w2.heap.size + 1 + 1 + 1 := by omega); (try have : w1.heap.size < w2.heap.size := by omega); (try have : w1.heap.size < w2.heap.size + 1 := by omega); (try have : w1.heap.size < w2.heap.size + 1 + 1 := by omega); (try have : w1.heap.size < w2.heap.size + 1 + 1 + 1 := by omega)
          go_wp2_with fail
          go_roundw
          case rel => exact ⟨x + 1, !z, by omega, by rw [show ((x + 1 : Nat) : Int) = (x : Int) + 1 from by omega, Int.add_assoc], rfl, HY2, by (repeat' (first | (with_reducible exact Below.refl _ _) | (with_reducible assumption) | (with_reducible refine Below.alloc ?_ ?_ _) | (with_reducible refine Below.drew ?_) | (with_reducible refine Below.stepG ?_ (by assumption) ?_) | (with_reducible refine Below.setCell ?_ ?_ _) | omega | (dsimp only; omega) | (simp; done) | (simp; omega)))⟩
          case measure => simp [intOf]; omega
        · have HE : Hid (isIdle l j = y) := by
            show isIdle l j = y
            rw [HI.out]
            cases y
            · exact idleB_no HY.out hx
            · have : x = r.most + 1 - r.least := by
                rcases Nat.lt_or_ge x (r.most + 1 - r.least) with h | h
                · exact absurd ⟨h, rfl⟩ hlx
                · omega
              rw [← this]; exact HY.out
          have HS2 := Lib.hid (idles_succ l j)
          cases y
          · clear hlx
            have HOx := HO2.out
            rw [show idles l j = idles l (j + 1) by rw [HS2.out, HE.out]; simp] at HOx
            have HO3 := Lib.hid HOx
            clear HOx
            clear HO2 HE HS2 HI HY
            by_cases hle : ((r.least : Int) + x) ≤ r.most
            · go_wp2_with fail
              go_roundw
              case rel => exact ⟨j + 1, by omega, by go_num, Lib.hid (by ((repeat (first | (with_reducible refine Own.alloc ?_ _) | (with_reducible refine Own.dr ?_))); refine Own.below ?_ hbi; (repeat (first | (with_reducible refine Own.alloc ?_ _) | (with_reducible refine Own.dr ?_))); exact HO3.out)), by (repeat' (first | (with_reducible exact Below.refl _ _) | (with_reducible assumption) | (with_reducible refine Below.alloc ?_ ?_ _) | (with_reducible refine Below.drew ?_) | (with_reducible refine Below.stepG ?_ (by assumption) ?_) | (with_reducible refine Below.setCell ?_ ?_ _) | omega | (dsimp only; omega) | (simp; done) | (simp; omega)))⟩
              case measure => simp [intOf]; omega
            · go_wp2_with fail
              go_roundw
              case rel => exact ⟨j + 1, by omega, by go_num, Lib.hid (by ((repeat (first | (with_reducible refine Own.alloc ?_ _) | (with_reducible refine Own.dr ?_))); refine Own.below ?_ hbi; (repeat (first | (with_reducible refine Own.alloc ?_ _) | (with_reducible refine Own.dr ?_))); exact HO3.out)), by (repeat' (first | (with_reducible exact Below.refl _ _) | (with_reducible assumption) | (with_reducible refine Below.alloc ?_ ?_ _) | (with_reducible refine Below.drew ?_) | (with_reducible refine Below.stepG ?_ (by assumption) ?_) | (with_reducible refine Below.setCell ?_ ?_ _) | omega | (dsimp only; omega) | (simp; done) | (simp; omega)))⟩
              case measure => simp [intOf]; omega
          · have hle : ¬ ((r.least : Int) + x) ≤ r.most := by
              intro h
              apply hlx
              exact ⟨by omega, rfl⟩
            clear hlx
            have hil := idles_len l j
            go_wp2_with (at_builtin; refine stop_at ?_; intro G hG)
            rw [← hG.out]; clear hG G
            refine wpList_append_any rfl _ _ 22 3 1 8 _ rfl eiInt w.heap.size _ ((idles l j).map natCells) rfl (by ((repeat (first | (with_reducible refine Own.alloc ?_ _) | (with_reducible refine Own.dr ?_))); refine Own.below ?_ hbi; (repeat (first | (with_reducible refine Own.alloc ?_ _) | (with_reducible refine Own.dr ?_))); exact HO2.out)) _ (([j]).map natCells) rfl (sl_new (c := natCells j) (by simp) rfl) (by intro c hc; obtain ⟨r, _, rfl⟩ := List.mem_map.1 hc; exact natCells_one r) (by skip; first | omega | (simp; omega)) (by decide) (by first | omega | (simp; done) | (simp; omega)) ?_
            intro v4 w4 hown4 hb4
            rw [← List.map_append] at hown4
            obtain ⟨xs4, hxs4⟩ : ∃ x : List Nat, x = (idles l j) ++ ([j]) := ⟨_, rfl⟩
            rw [← hxs4] at hown4
            have hl4 : xs4.length = (idles l j).length + ([j]).length := by rw [hxs4, List.length_append]
            have HX4 := Lib.hid hxs4
            clear hxs4
            have HL4 := Lib.hid hl4
            clear hl4
            obtain ⟨a4, cap4, rfl⟩ := hown4.shape
            rw [List.length_map] at hown4 ⊢
            have HO4 := Lib.hid hown4
            clear hown4
            obtain ⟨hc4, hf4⟩ := bcellB hb4; have hz4 := hb4.size; (repeat (first | rw [World.size_alloc] at hz4 | rw [World.size_drew] at hz4 | rw [World.size_setCell] at hz4)); (try have : w.heap.size < w4.heap.size := by omega); (try have : w.heap.size < w4.heap.size + 1 := by omega); (try have : w.heap.size < w4.heap.size + 1 + 1 := by omega); (try have : w.heap.size < w4.heap.size + 1 + 1 + 1 := by omega); (try have : W.heap.size < w4.heap.size := by omega); (try have : W.heap.size < w4.heap.size + 1 := by omega); (try have : W.heap.size < w4.heap.size + 1 + 1 := by omega); (try have : W.heap.size < w4.heap.size + 1 + 1 + 1 := by omega); (try have : wr.heap.size < w4.heap.size := by omega); (try have : wr.heap.size < w4.heap.size + 1 := by omega); (try have : wr.heap.size < w4.heap.size + 1 + 1 := by omega); (try have : wr.heap.size < w4.heap.size + 1 + 1 + 1 := by omega); (try have : wr.heap.size + 1 < w4.heap.size := by omega); (try have : wr.heap.size + 1 < w4.heap.size + 1 := by omega); (try have : wr.heap.size + 1 < w4.heap.size + 1 + 1 := by omega); (try have : wr.heap.size + 1 < w4.heap.size + 1 + 1 + 1 := by omega); (try have : w1.heap.size < w4.heap.size := by omega); (try have : w1.heap.size < w4.heap.size + 1 := by omega); (try have : w1.heap.size < w4.heap.size + 1 + 1 := by omega); (try have : w1.heap.size < w4.heap.size + 1 + 1 + 1 := by omega); (try have : w2.heap.size < w4.heap.size := by omega); (try have : w2.heap.size < w4.heap.size + 1 := by omega); (try have : w2.heap.size < w4.heap.size + 1 + 1 := by omega); (try have : w2.heap.size < w4.heap.size + 1 + 1 + 1 := by omega); (try have : wi.heap.size < w4.heap.size := by omega); (try have : wi.heap.size < w4.heap.size + 1 := by omega); (try have : wi.heap.size < w4.heap.size + 1 + 1 := by omega); (try have : wi.heap.size < w4.heap.size + 1 + 1 + 1 := by omega)
            have HO5 : Hid (Own w4 w.heap.size 3 1 (.slice a4 xs4.length cap4) ((idles l (j + 1)).map natCells)) := by
              rw [show idles l (j + 1) = xs4 by rw [HS2.out, HE.out, HX4.out]; simp]
              exact HO4
            clear HO2 HE HS2 HI HY HX4 HO4
            go_wp2
            go_roundw
            case rel => exact ⟨j + 1, by omega, by go_num, HO5, by (repeat' (first | (with_reducible exact Below.refl _ _) | (with_reducible assumption) | (with_reducible refine Below.alloc ?_ ?_ _) | (with_reducible refine Below.drew ?_) | (with_reducible refine Below.stepG ?_ (by assumption) ?_) | (with_reducible refine Below.setCell ?_ ?_ _) | omega | (dsimp only; omega) | (simp; done) | (simp; omega)))⟩
            case measure => simp [intOf]; omega
    · obtain rfl : j = l.length := by omega
      have HO2 := HO.out
      clear HO
      go_wp2
      go_returns
      exact ⟨_, rfl, HO2, by (repeat' (first | (with_reducible exact Below.refl _ _) | (with_reducible assumption) | (with_reducible refine Below.alloc ?_ ?_ _) | (with_reducible refine Below.drew ?_) | (with_reducible refine Below.stepG ?_ (by assumption) ?_) | (with_reducible refine Below.setCell ?_ ?_ _) | omega | (dsimp only; omega) | (simp; done) | (simp; omega)))⟩
end Go.Proofs.Ytlcacocecdnpnaa
