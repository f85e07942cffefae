
/- Contract: offers.Table. -/
import Derived.Test.YtllemhknmleklaaOf8
import Derived.Test.YtllemhknmleklaaPre
set_option linter.unusedVariables false
set_option linter.unusedSimpArgs false
namespace Go.Proofs.Ytllemhknmleklaa
open Go.RowKit Go.Sort Wc Wk

/-- b is none that comes from afar, and covers o. -/
def nearC (o b : OfD) : Bool := decide (b.src ≠ 4) && decide (cov false b.n b.k o.n o.k)
def hidB (ys : List OfD) (o : OfD) : Bool := decide (o.src = 4) && ys.any (nearC o)
def rtC (o : OfD) : List Value := [.bool false, .int .u64 (hiOf false o.n), .int .u64 (loOf o.n), .int .i64 o.k, .int .i64 o.hop]
theorem rtC_one (o : OfD) : ∀ u ∈ rtC o, u.oneCell' = true := by
  intro u hu
  simp [rtC] at hu
  rcases hu with rfl | rfl | rfl | rfl | rfl <;> rfl
theorem eiRt : EI Try.prog 38 64 5 40 (.agg #[.bool false, .int .u64 0, .int .u64 0, .int .i64 0, .int .i64 0]) := ⟨by kernel_rfl, by kernel_rfl, rfl, by decide⟩
theorem sl_rt1 (o : OfD) {W : World} {b : Nat} (hb : b = W.heap.size) : Sl (W.alloc (.cells #[.bool false, .int .u64 (hiOf false o.n), .int .u64 (loOf o.n), .int .i64 o.k, .int .i64 o.hop] 64)) 5 (.slice (some ⟨b, 0, none⟩) 1 1) ([o].map rtC) := sl_new (c := rtC o) hb rfl
theorem asc_len : ∀ (ys l : List OfD), Asc ys → (∀ y ∈ ys, y ∈ l) → ys.length ≤ l.length
  | [], l, _, _ => Nat.zero_le _
  | y :: ys, l, h, hs => by
    obtain ⟨h1, h2⟩ := List.pairwise_cons.1 h
    obtain ⟨a, b, rfl⟩ := List.append_of_mem (hs y (by simp))
    have := asc_len ys (a ++ b) h2 (fun x hx => by
      have hm := hs x (List.mem_cons_of_mem _ hx)
      have hne : x ≠ y := by
        rintro rfl
        have := h1 x hx
        omega
      rcases List.mem_append.1 hm with hm | hm
      · exact List.mem_append_left _ hm
      · rcases List.mem_cons.1 hm with hm | hm
        · exact absurd hm hne
        · exact List.mem_append_right _ hm)
    simp only [List.length_append, List.length_cons] at this ⊢
    omega


set_option maxHeartbeats 1000000 in
theorem tclos_any (q o : OfD) (b : Nat) (w2 : World) (hq : q.ok) (ho : o.ok) (hb : b < w2.heap.size) (c0 : w2.cell? ⟨b, 0, none⟩ = some (.bool false)) (c1 : w2.cell? ⟨b, 1, none⟩ = some (.int .u64 (hiOf false o.n))) (c2 : w2.cell? ⟨b, 2, none⟩ = some (.int .u64 (loOf o.n))) (c3 : w2.cell? ⟨b, 3, none⟩ = some (.int .i64 o.k)) :
    Calls Try.prog 68 #[.agg #[.bool false, .int .u64 (hiOf false q.n), .int .u64 (loOf q.n), .int .i64 q.k, .int .i64 q.src, .int .i64 q.peer, .int .i64 q.met, .int .i64 q.hop], .pointer (some ⟨b, 0, none⟩)] w2 fun e w' => e = .returned (.bool (nearC o q)) ∧ Below w2.heap.size w2 w' := by
  have O := Lib.hid (fun w => over_any false q.n q.k o.n o.k w hq.1 ho.1)
  unfold nearC
  clear hq ho
  generalize decide (cov false q.n q.k o.n o.k) = x at *
  by_cases h4 : q.src = 4
  · rw [show (decide (q.src ≠ 4) && x) = false by simp [h4]]
    have h5 : ((q.src : Int) != 4) = false := by rw [h4]; rfl
    clear h4
    go_enter Try.func68, Try.ntmps68
    go_wp2
    go_returns
    exact ⟨rfl, by (repeat' (first | (with_reducible exact Below.refl _ _) | (with_reducible assumption) | (with_reducible refine Below.alloc ?_ ?_ _) | (with_reducible refine Below.drew ?_) | (with_reducible refine Below.stepG ?_ (by assumption) ?_) | (with_reducible refine Below.setCell ?_ ?_ _) | omega | (dsimp only; omega) | (simp; done) | (simp; omega)))⟩
  · rw [show (decide (q.src ≠ 4) && x) = x by simp [h4]]
    have h5 : ((q.src : Int) != 4) = true := by rw [bne_iff_ne]; omega
    clear h4
    go_enter Try.func68, Try.ntmps68
    go_wp2_with (((with_reducible refine (O.out _).mono ?_); rintro e w1 ⟨rfl, hb1⟩; (repeat (with_reducible (replace hb1 := Below.undrew hb1))); obtain ⟨hc1, hf1⟩ := bcell hb1; have hz1 := hb1.size; (repeat (first | rw [World.size_alloc] at hz1 | rw [World.size_drew] at hz1 | rw [World.size_setCell] at hz1)); (try have : w2.heap.size < w1.heap.size := by omega); (try have : w2.heap.size < w1.heap.size + 1 := by omega); (try have : w2.heap.size < w1.heap.size + 1 + 1 := by omega); (try have : w2.heap.size < w1.heap.size + 1 + 1 + 1 := by omega); (try have : w2.heap.size + 1 < w1.heap.size := by omega); (try have : w2.heap.size + 1 < w1.heap.size + 1 := by omega); (try have : w2.heap.size + 1 < w1.heap.size + 1 + 1 := by omega); (try have : w2.heap.size + 1 < w1.heap.size + 1 + 1 + 1 := by omega)))
    go_returns
    exact ⟨rfl, by (repeat' (first | (with_reducible exact Below.refl _ _) | (with_reducible assumption) | (with_reducible refine Below.alloc ?_ ?_ _) | (with_reducible refine Below.drew ?_) | (with_reducible refine Below.stepG ?_ (by assumption) ?_) | (with_reducible refine Below.setCell ?_ ?_ _) | omega | (dsimp only; omega) | (simp; done) | (simp; omega)))⟩


set_option maxRecDepth 100000 in
set_option maxHeartbeats 1000000 in
theorem tIndex_any (a : Option Addr) (cap : Nat) (l : List OfD) (o : OfD) (b : Nat) (w : World) (hs : Sl w 8 (.slice a l.length cap) (l.map ofCells)) (hlen : l.length ≤ 100) (hok : ∀ q ∈ l, q.ok) (ho : o.ok)
    (hb : b < w.heap.size) (c0 : w.cell? ⟨b, 0, none⟩ = some (.bool false)) (c1 : w.cell? ⟨b, 1, none⟩ = some (.int .u64 (hiOf false o.n))) (c2 : w.cell? ⟨b, 2, none⟩ = some (.int .u64 (loOf o.n))) (c3 : w.cell? ⟨b, 3, none⟩ = some (.int .i64 o.k)) :
    Calls Try.prog 115 #[.slice a l.length cap, .func (Fn.func 68) #[] #[.pointer (some ⟨b, 0, none⟩)]] w fun e w' => (∃ i : Int, e = .returned (.int .i64 i) ∧ decide (0 ≤ i) = l.any (nearC o)) ∧ Below w.heap.size w w' := by
  have HS := Lib.hid hs
  have F := Lib.hid (fun q (hq : q ∈ l) (w2 : World) (hb2 : Below w.heap.size w w2) => tclos_any q o b w2 (hok q hq) ho (Nat.lt_of_lt_of_le hb hb2.size) ((hb2.cell (p := ⟨b, 0, none⟩) hb).trans c0) ((hb2.cell (p := ⟨b, 1, none⟩) hb).trans c1) ((hb2.cell (p := ⟨b, 2, none⟩) hb).trans c2) ((hb2.cell (p := ⟨b, 3, none⟩) hb).trans c3))
  clear hs c0 c1 c2 c3 hok ho
  go_enter Try.func115, Try.ntmps115
  go_wp2_with fail
  go_loopw [8] (fun i wr => ∃ j : Nat, j ≤ l.length ∧ i = .int .i64 j ∧ Hid ((l.take j).any (nearC o) = false) ∧ Below w.heap.size w wr) (fun i _ => l.length - (intOf i).toNat)
  case atStart => exact ⟨0, Nat.zero_le _, rfl, rfl, Below.refl _ _⟩
  case round =>
    obtain ⟨j, hj, rfl, hno, hbr⟩ := hrel
    have hzr := hbr.size
    by_cases hlt : j < l.length
    · obtain ⟨r, hr⟩ : ∃ r, l[j]? = some r := ⟨_, List.getElem?_eq_getElem hlt⟩
      obtain ⟨b2, off, rfl, hb2, d0, d1, d2, d3, d4, d5, d6, d7⟩ := Sl.of8 HS.out hbr hr
      have HT := Lib.hid (show l.take (j + 1) = l.take j ++ [r] by rw [List.take_add_one, hr]; rfl)
      have HR := Lib.hid (List.mem_of_getElem? hr)
      have FR := Lib.hid (F.out r HR.out)
      clear hr
      cases hf : nearC o r with
      | true =>
        rw [hf] at FR
        have hI := Lib.hid (show decide ((0 : Int) ≤ j) = l.any (nearC o) by
          rw [decide_eq_true (by omega), eq_comm, List.any_eq_true]
          exact ⟨r, HR.out, hf⟩)
        clear hf hno
        go_wp2_with fail
        refine (FR.out _ hbr).mono ?_; rintro e w3 ⟨rfl, hb3⟩; (repeat (with_reducible (replace hb3 := Below.undrew hb3))); obtain ⟨hc3, hf3⟩ := bcell hb3; have hz3 := hb3.size; (repeat (first | rw [World.size_alloc] at hz3 | rw [World.size_drew] at hz3 | rw [World.size_setCell] at hz3)); (try have : wr.heap.size < w3.heap.size := by omega); (try have : wr.heap.size < w3.heap.size + 1 := by omega); (try have : wr.heap.size < w3.heap.size + 1 + 1 := by omega); (try have : wr.heap.size < w3.heap.size + 1 + 1 + 1 := by omega)
        go_wp2
        go_returns
        exact ⟨⟨_, rfl, hI.out⟩, by (repeat' (first | (with_reducible exact Below.refl _ _) | (with_reducible assumption) | (with_reducible refine Below.alloc ?_ ?_ _) | (with_reducible refine Below.drew ?_) | (with_reducible refine Below.stepG ?_ (by assumption) ?_) | (with_reducible refine Below.setCell ?_ ?_ _) | omega | (dsimp only; omega) | (simp; done) | (simp; omega)))⟩
      | false =>
        rw [hf] at FR
        have Hno := Lib.hid (show (l.take (j + 1)).any (nearC o) = false by
          rw [HT.out, List.any_append, hno.out]
          simp [hf])
        clear hf hno
        go_wp2_with fail
        refine (FR.out _ hbr).mono ?_; rintro e w3 ⟨rfl, hb3⟩; (repeat (with_reducible (replace hb3 := Below.undrew hb3))); obtain ⟨hc3, hf3⟩ := bcell hb3; have hz3 := hb3.size; (repeat (first | rw [World.size_alloc] at hz3 | rw [World.size_drew] at hz3 | rw [World.size_setCell] at hz3)); (try have : wr.heap.size < w3.heap.size := by omega); (try have : wr.heap.size < w3.heap.size + 1 := by omega); (try have : wr.heap.size < w3.heap.size + 1 + 1 := by omega); (try have : wr.heap.size < w3.heap.size + 1 + 1 + 1 := by omega)
        go_wp2
        go_roundw
        case rel => exact ⟨j + 1, by omega, by go_num, Hno, by (repeat' (first | (with_reducible exact Below.refl _ _) | (with_reducible assumption) | (with_reducible refine Below.alloc ?_ ?_ _) | (with_reducible refine Below.drew ?_) | (with_reducible refine Below.stepG ?_ (by assumption) ?_) | (with_reducible refine Below.setCell ?_ ?_ _) | omega | (dsimp only; omega) | (simp; done) | (simp; omega)))⟩
        case measure => simp [intOf]; omega
    · obtain rfl : j = l.length := by omega
      have hI := Lib.hid (show decide ((0 : Int) ≤ -1) = l.any (nearC o) by
        have := hno.out
        rw [List.take_length] at this
        rw [this]; rfl)
      clear hno
      go_wp2
      go_returns
      exact ⟨⟨_, rfl, hI.out⟩, hbr⟩
theorem tContains_any (a : Option Addr) (cap : Nat) (l : List OfD) (o : OfD) (b : Nat) (w : World) (hs : Sl w 8 (.slice a l.length cap) (l.map ofCells)) (hlen : l.length ≤ 100) (hok : ∀ q ∈ l, q.ok) (ho : o.ok)
    (hb : b < w.heap.size) (c0 : w.cell? ⟨b, 0, none⟩ = some (.bool false)) (c1 : w.cell? ⟨b, 1, none⟩ = some (.int .u64 (hiOf false o.n))) (c2 : w.cell? ⟨b, 2, none⟩ = some (.int .u64 (loOf o.n))) (c3 : w.cell? ⟨b, 3, none⟩ = some (.int .i64 o.k)) :
    Calls Try.prog 67 #[.slice a l.length cap, .func (Fn.func 68) #[] #[.pointer (some ⟨b, 0, none⟩)]] w fun e w' => e = .returned (.bool (l.any (nearC o))) ∧ Below w.heap.size w w' := by
  have C := Lib.hid (tIndex_any a cap l o b w hs hlen hok ho hb c0 c1 c2 c3)
  generalize l.any (nearC o) = x at *
  clear hs c0 c1 c2 c3 hb hok ho
  go_enter Try.func67, Try.ntmps67
  go_wp2_with fail
  refine C.out.mono ?_
  rintro e w1 ⟨⟨i, rfl, hi⟩, hb1⟩
  have HI := Lib.hid hi
  clear hi
  go_wp2
  go_returns
  exact ⟨ret_bool HI.out, hb1⟩

theorem filt_snoc {ys : List OfD} {j : Nat} {o : OfD} (p : OfD → Bool) (h : ys[j]? = some o) : (ys.take (j + 1)).filter p = (ys.take j).filter p ++ (if p o then [o] else []) := by
  rw [List.take_add_one, h, List.filter_append]
  cases hp : p o <;> simp [hp]

set_option maxRecDepth 100000 in
set_option maxHeartbeats 4000000 in
theorem ofTable_any (a : Option Addr) (cap : Nat) (l : List OfD) (w : World) (hs : Sl w 8 (.slice a l.length cap) (l.map ofCells)) (hlen : l.length ≤ 60) (hok : ∀ v ∈ l, v.ok) :
    Calls Try.prog 33 #[.slice a l.length cap] w fun e w' => ∃ v ys ts, e = .returned (.tuple #[v, .int .i64 0]) ∧ Own w' w.heap.size 64 5 v (ts.map rtC) ∧ BestR (liveL l) ys ∧ ts = ys.filter (fun o => !hidB ys o) ∧ Below w.heap.size w w' := by
  have HOK := Lib.hid hok
  go_enter Try.func33, Try.ntmps33
  go_wp2_with fail
  refine (best_any a cap l w hs (by omega) hok).mono ?_
  rintro e w1 ⟨v1, ys, rfl, HO1, HR1, hl1, hb1⟩; (repeat (with_reducible (replace hb1 := Below.undrew hb1))); obtain ⟨hc1, hf1⟩ := bcell hb1; have hz1 := hb1.size; (repeat (first | rw [World.size_alloc] at hz1 | rw [World.size_drew] at hz1 | rw [World.size_setCell] at hz1)); (try have : w.heap.size < w1.heap.size := by omega); (try have : w.heap.size < w1.heap.size + 1 := by omega); (try have : w.heap.size < w1.heap.size + 1 + 1 := by omega); (try have : w.heap.size < w1.heap.size + 1 + 1 + 1 := by omega)
  obtain ⟨a1, c1, rfl⟩ := HO1.shape
  rw [List.length_map] at HO1 ⊢
  have hly : ys.length ≤ 60 := Nat.le_trans (asc_len ys l HR1.1 (fun y hy => (HR1.met hok y hy).1)) hlen
  have HY := Lib.hid HO1.sl
  have HR := Lib.hid HR1
  have HYK := Lib.hid (fun o ho => hok o (HR1.met hok o ho).1)
  have HB1 := Lib.hid hb1
  clear hs hok HO1 HR1 hb1 hc1 hf1
  go_wp2_with fail
  go_loopw [6, 20] (fun v i wr => ∃ j : Nat, j ≤ ys.length ∧ i = .int .i64 j ∧ Hid (Own wr w1.heap.size 64 5 v (((ys.take j).filter (fun o => !hidB ys o)).map rtC)) ∧ Hid (Below w1.heap.size w1 wr)) (fun _ i _ => ys.length - (intOf i).toNat)
  case atStart => exact ⟨0, Nat.zero_le _, rfl, Own.nil _ _ _ _, Below.refl _ _⟩
  case round =>
    obtain ⟨j, hj, rfl, HO, HB⟩ := hrel
    have hzr := HB.out.size
    by_cases hlt : j < ys.length
    · obtain ⟨o, ho⟩ : ∃ o, ys[j]? = some o := ⟨_, List.getElem?_eq_getElem hlt⟩
      obtain ⟨b, off, rfl, hb, d0, d1, d2, d3, d4, d5, d6, d7⟩ := Sl.of8 HY.out HB.out ho
      have hoo := HYK.out o (List.mem_of_getElem? ho)
      have HFS := Lib.hid (filt_snoc (fun o => !hidB ys o) ho)
      have hfl : ((ys.take j).filter (fun o => !hidB ys o)).length ≤ 60 := by
        have := List.length_filter_le (fun o => !hidB ys o) (ys.take j)
        rw [List.length_take] at this
        omega
      have CT := Lib.hid (fun W (hW : Below w1.heap.size w1 W) b' (h1 : b' < W.heap.size) (h2 : W.cell? ⟨b', 0, none⟩ = some (.bool false)) (h3 : W.cell? ⟨b', 1, none⟩ = some (.int .u64 (hiOf false o.n))) (h4 : W.cell? ⟨b', 2, none⟩ = some (.int .u64 (loOf o.n))) (h5 : W.cell? ⟨b', 3, none⟩ = some (.int .i64 o.k)) => tContains_any (some ⟨b, off, none⟩) c1 ys o b' W (HY.out.below hW) (by omega) HYK.out hoo h1 h2 h3 h4 h5)
      have HBA := Lib.hid (HB.out.alloc hzr (.cells #[.bool false, .int .u64 (hiOf false o.n), .int .u64 (loOf o.n), .int .i64 o.k, .int .i64 o.src, .int .i64 o.peer, .int .i64 o.met, .int .i64 o.hop] 84))
      have HHB := Lib.hid (show hidB ys o = (decide (o.src = 4) && ys.any (nearC o)) from rfl)
      clear ho hoo
      by_cases h4 : o.src = 4
      · have e4 : ((o.src : Int) == 4) = true := by rw [h4]; rfl
        rw [h4] at HHB
        clear h4
        generalize ys.any (nearC o) = x at *
        cases x with
        | true =>
          have hh : hidB ys o = true := by rw [HHB.out]; rfl
          rw [hh] at HFS
          have HO2 : Hid (Own wr w1.heap.size 64 5 u6 (((ys.take (j + 1)).filter (fun o => !hidB ys o)).map rtC)) := by
            show Wk.Own _ _ _ _ _ _
            rw [HFS.out, show (if (!true) = true then [o] else []) = [] from rfl, List.append_nil]
            exact HO.out
          clear hh HHB HFS
          go_wp2_with ((with_reducible refine (CT.out _ HBA.out _ (by simp) (by simp) (by simp) (by simp) (by simp)).mono ?_); rintro e w3 ⟨rfl, hb3⟩; (repeat (with_reducible (replace hb3 := Below.undrew hb3))); obtain ⟨hc3, hf3⟩ := bcell hb3; have hz3 := hb3.size; (repeat (first | rw [World.size_alloc] at hz3 | rw [World.size_drew] at hz3 | rw [World.size_setCell] at hz3)); (try have : w.heap.size < w3.heap.size := by omega); (try have : w.heap.size < w3.heap.size + 1 := by omega); (try have : w.heap.size < w3.heap.size + 1 + 1 := by omega); (try have : w.heap.size < w3.heap.size + 1 + 1 + 1 := by omega); (try have : w1.heap.size < w3.heap.size := by omega); (try have : w1.heap.size < w3.heap.size + 1 := by omega); (try have : w1.heap.size < w3.heap.size + 1 + 1 := by omega); (try have : w1.heap.size < w3.heap.size + 1 + 1 + 1 := by omega); (try have : wr.heap.size < w3.heap.size := by omega); (try have : wr.heap.size < w3.heap.size + 1 := by omega); (try have : wr.heap.size < w3.heap.size + 1 + 1 := by omega); (try have : wr.heap.size < w3.heap.size + 1 + 1 + 1 := by omega))
          have HO3 := Lib.hid ((HO2.out.alloc _).below hb3)
          have HB3 := Lib.hid (HBA.out.trans (hb3.mono (by simp; omega)))
          go_roundw
          case rel => exact ⟨j + 1, by omega, by go_num, HO3, HB3⟩
          case measure => simp [intOf]; omega
        | false =>
          have hh : hidB ys o = false := by rw [HHB.out]; simp
          rw [hh] at HFS
          clear hh HHB
          go_wp2_with (first | ((with_reducible refine (CT.out _ HBA.out _ (by simp) (by simp) (by simp) (by simp) (by simp)).mono ?_); rintro e w3 ⟨rfl, hb3⟩; (repeat (with_reducible (replace hb3 := Below.undrew hb3))); obtain ⟨hc3, hf3⟩ := bcell hb3; have hz3 := hb3.size; (repeat (first | rw [World.size_alloc] at hz3 | rw [World.size_drew] at hz3 | rw [World.size_setCell] at hz3)); (try have : w.heap.size < w3.heap.size := by omega); (try have : w.heap.size < w3.heap.size + 1 := by omega); (try have : w.heap.size < w3.heap.size + 1 + 1 := by omega); (try have : w.heap.size < w3.heap.size + 1 + 1 + 1 := by omega); (try have : w1.heap.size < w3.heap.size := by omega); (try have : w1.heap.size < w3.heap.size + 1 := by omega); (try have : w1.heap.size < w3.heap.size + 1 + 1 := by omega); (try have : w1.heap.size < w3.heap.size + 1 + 1 + 1 := by omega); (try have : wr.heap.size < w3.heap.size := by omega); (try have : wr.heap.size < w3.heap.size + 1 := by omega); (try have : wr.heap.size < w3.heap.size + 1 + 1 := by omega); (try have : wr.heap.size < w3.heap.size + 1 + 1 + 1 := by omega)) | (at_builtin; refine stop_at ?_; intro G hG))
          rw [← hG.out]; clear hG G
          refine wpList_append_any rfl _ _ 38 64 5 40 _ rfl eiRt w1.heap.size _ (((ys.take j).filter (fun o => !hidB ys o)).map rtC) rfl ((((HO.out.alloc _).below hb3).alloc _)) _ (([o]).map rtC) rfl (sl_rt1 o (by (first | omega | (simp; done) | (simp; omega)))) (by intro c hc; obtain ⟨r, _, rfl⟩ := List.mem_map.1 hc; exact rtC_one r) (by skip; first | omega | (simp; omega)) (by decide) (by first | omega | (simp; done) | (simp; omega)) ?_
          intro v4 w4 hown4 hb4
          rw [← List.map_append] at hown4
          obtain ⟨xs4, hxs4⟩ : ∃ x : List OfD, x = ((ys.take j).filter (fun o => !hidB ys o)) ++ ([o]) := ⟨_, rfl⟩
          rw [← hxs4] at hown4
          have hl4 : xs4.length = ((ys.take j).filter (fun o => !hidB ys o)).length + ([o]).length := by rw [hxs4, List.length_append]
          have HX4 := Lib.hid hxs4
          clear hxs4
          have HL4 := Lib.hid hl4
          clear hl4
          obtain ⟨a4, cap4, rfl⟩ := hown4.shape
          rw [List.length_map] at hown4 ⊢
          have HO4 := Lib.hid hown4
          clear hown4
          obtain ⟨hc4, hf4⟩ := bcellB hb4; have hz4 := hb4.size; (repeat (first | rw [World.size_alloc] at hz4 | rw [World.size_drew] at hz4 | rw [World.size_setCell] at hz4)); (try have : w.heap.size < w4.heap.size := by omega); (try have : w.heap.size < w4.heap.size + 1 := by omega); (try have : w.heap.size < w4.heap.size + 1 + 1 := by omega); (try have : w.heap.size < w4.heap.size + 1 + 1 + 1 := by omega); (try have : w1.heap.size < w4.heap.size := by omega); (try have : w1.heap.size < w4.heap.size + 1 := by omega); (try have : w1.heap.size < w4.heap.size + 1 + 1 := by omega); (try have : w1.heap.size < w4.heap.size + 1 + 1 + 1 := by omega); (try have : wr.heap.size < w4.heap.size := by omega); (try have : wr.heap.size < w4.heap.size + 1 := by omega); (try have : wr.heap.size < w4.heap.size + 1 + 1 := by omega); (try have : wr.heap.size < w4.heap.size + 1 + 1 + 1 := by omega)
          have hX2 : Hid (Own w4 w1.heap.size 64 5 (.slice a4 xs4.length cap4) (((ys.take (j + 1)).filter (fun o => !hidB ys o)).map rtC)) := by
            show Wk.Own _ _ _ _ _ _
            rw [HFS.out, show (if (!false) = true then [o] else []) = [o] from rfl, ← HX4.out]
            exact HO4.out
          have HB4 := Lib.hid ((HBA.out.trans (hb3.mono (by simp; omega))).trans ((((Below.refl w1.heap.size w3).alloc (by omega) _).trans hb4)))
          clear HO4 HX4 HL4 hb3 hb4 hc3 hf3 hc4 hf4
          go_wp2
          go_roundw
          case rel => exact ⟨j + 1, by omega, by go_num, hX2, HB4⟩
          case measure => simp [intOf]; omega
      · have e4 : ((o.src : Int) == 4) = false := by rw [beq_eq_false_iff_ne]; omega
        have hh : hidB ys o = false := by rw [HHB.out]; simp [h4]
        rw [hh] at HFS
        clear h4 hh HHB
        go_wp2_with (at_builtin; refine stop_at ?_; intro G hG)
        rw [← hG.out]; clear hG G
        refine wpList_append_any rfl _ _ 38 64 5 40 _ rfl eiRt w1.heap.size _ (((ys.take j).filter (fun o => !hidB ys o)).map rtC) rfl (((HO.out.alloc _).alloc _)) _ (([o]).map rtC) rfl (sl_rt1 o (by (first | omega | (simp; done) | (simp; omega)))) (by intro c hc; obtain ⟨r, _, rfl⟩ := List.mem_map.1 hc; exact rtC_one r) (by skip; first | omega | (simp; omega)) (by decide) (by first | omega | (simp; done) | (simp; omega)) ?_
        intro v4 w4 hown4 hb4
        rw [← List.map_append] at hown4
        obtain ⟨xs4, hxs4⟩ : ∃ x : List OfD, x = ((ys.take j).filter (fun o => !hidB ys o)) ++ ([o]) := ⟨_, rfl⟩
        rw [← hxs4] at hown4
        have hl4 : xs4.length = ((ys.take j).filter (fun o => !hidB ys o)).length + ([o]).length := by rw [hxs4, List.length_append]
        have HX4 := Lib.hid hxs4
        clear hxs4
        have HL4 := Lib.hid hl4
        clear hl4
        obtain ⟨a4, cap4, rfl⟩ := hown4.shape
        rw [List.length_map] at hown4 ⊢
        have HO4 := Lib.hid hown4
        clear hown4
        obtain ⟨hc4, hf4⟩ := bcellB hb4; have hz4 := hb4.size; (repeat (first | rw [World.size_alloc] at hz4 | rw [World.size_drew] at hz4 | rw [World.size_setCell] at hz4)); (try have : w.heap.size < w4.heap.size := by omega); (try have : w.heap.size < w4.heap.size + 1 := by omega); (try have : w.heap.size < w4.heap.size + 1 + 1 := by omega); (try have : w.heap.size < w4.heap.size + 1 + 1 + 1 := by omega); (try have : w1.heap.size < w4.heap.size := by omega); (try have : w1.heap.size < w4.heap.size + 1 := by omega); (try have : w1.heap.size < w4.heap.size + 1 + 1 := by omega); (try have : w1.heap.size < w4.heap.size + 1 + 1 + 1 := by omega); (try have : wr.heap.size < w4.heap.size := by omega); (try have : wr.heap.size < w4.heap.size + 1 := by omega); (try have : wr.heap.size < w4.heap.size + 1 + 1 := by omega); (try have : wr.heap.size < w4.heap.size + 1 + 1 + 1 := by omega)
        have hX2 : Hid (Own w4 w1.heap.size 64 5 (.slice a4 xs4.length cap4) (((ys.take (j + 1)).filter (fun o => !hidB ys o)).map rtC)) := by
          show Wk.Own _ _ _ _ _ _
          rw [HFS.out, show (if (!false) = true then [o] else []) = [o] from rfl, ← HX4.out]
          exact HO4.out
        have HB4 := Lib.hid (HBA.out.trans (((Below.refl w1.heap.size _).alloc (by simp; omega) _).trans hb4))
        clear HO4 HX4 HL4 hb4 hc4 hf4
        go_wp2
        go_roundw
        case rel => exact ⟨j + 1, by omega, by go_num, hX2, HB4⟩
        case measure => simp [intOf]; omega
    · obtain rfl : j = ys.length := by omega
      have ho := HO.out
      rw [List.take_length] at ho
      have hfl : (ys.filter (fun o => !hidB ys o)).length ≤ 60 := Nat.le_trans (List.length_filter_le _ _) hly
      obtain ⟨ts, hts⟩ : ∃ ts, ts = ys.filter (fun o => !hidB ys o) := ⟨_, rfl⟩
      rw [← hts] at ho hfl
      obtain ⟨ar, cr, hvr⟩ := ho.shape
      rw [List.length_map] at hvr
      subst hvr
      have HO5 := Lib.hid (ownO_less (B' := w.heap.size) ho hz1)
      have HTS := Lib.hid hts
      have HB5 := Lib.hid (HB1.out.trans (HB.out.mono hz1))
      clear ho hts HO
      go_wp2
      refine bodyPost_ret (v := .tuple #[.slice ar ts.length cr, .int .i64 0]) (by simp [results, Try.results33, go_sem, *]) rfl ⟨_, ys, ts, rfl, HO5.out, HR.out, HTS.out, HB5.out⟩
end Go.Proofs.Ytllemhknmleklaa
