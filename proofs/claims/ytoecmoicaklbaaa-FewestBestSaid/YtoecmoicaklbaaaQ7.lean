
/- The laws' maker of jobs: Queue. -/
import Derived.Test.YtoecmoicaklbaaaQ5
import Derived.Test.YtoecmoicaklbaaaRules0
import Derived.Deep.DeepCutAuto
import Derived.Test.YtoecmoicaklbaaaQRow
set_option linter.unusedVariables false
set_option linter.unusedSimpArgs false
namespace Go.Proofs.Ytoecmoicaklbaaa
open Go Go.RowKit Go.Sort Wc Wk

structure JC (w : World) (b : Nat) (q : JobD) : Prop where
  lt : b < w.heap.size
  at_ : ∀ j u, (jobCells q)[j]? = some u → w.cell? ⟨b, j, none⟩ = some u
  fz : ∀ o, o < 11 → w.frozen? ⟨b, o, none⟩ = false
theorem JC.below {w w' : World} {b : Nat} {q : JobD} (h : JC w b q) (hb : Below w.heap.size w w') : JC w' b q :=
  ⟨Nat.lt_of_lt_of_le h.lt hb.size, fun j u hu => (hb.cell (p := ⟨b, j, none⟩) h.lt).trans (h.at_ j u hu), fun o ho => (hb.frozen (p := ⟨b, o, none⟩) h.lt).trans (h.fz o ho)⟩
structure AcC (w : World) (b : Nat) (q : ActD) : Prop where
  lt : b < w.heap.size
  at_ : ∀ j u, (actCells q)[j]? = some u → w.cell? ⟨b, j, none⟩ = some u
  fz : ∀ o, o < 9 → w.frozen? ⟨b, o, none⟩ = false
theorem AcC.below {w w' : World} {b : Nat} {q : ActD} (h : AcC w b q) (hb : Below w.heap.size w w') : AcC w' b q :=
  ⟨Nat.lt_of_lt_of_le h.lt hb.size, fun j u hu => (hb.cell (p := ⟨b, j, none⟩) h.lt).trans (h.at_ j u hu), fun o ho => (hb.frozen (p := ⟨b, o, none⟩) h.lt).trans (h.fz o ho)⟩
theorem AcC.new (w : World) (q : ActD) (E : TypeId) : AcC (w.alloc (.cells (actCells q).toArray E)) w.heap.size q :=
  ⟨by simp, fun j u hu => by rw [World.cell?_alloc_new]; simpa using hu, fun o ho => by simp⟩
theorem jobCells_len (q : JobD) : (jobCells q).length = 11 := rfl
theorem JC.new (w : World) (q : JobD) (E : TypeId) : JC (w.alloc (.cells (jobCells q).toArray E)) w.heap.size q :=
  ⟨by simp, fun j u hu => by rw [World.cell?_alloc_new]; simpa using hu, fun o ho => by simp⟩
theorem AcC.set {w : World} {A : Nat} (y : ActD) (lt : A < w.heap.size) (ex : ∀ o, o < 9 → ∃ u, w.cell? ⟨A, o, none⟩ = some u) (fz : ∀ o, o < 9 → w.frozen? ⟨A, o, none⟩ = false) :
    AcC (setRow w A 0 (actCells y)) A y ∧ Chg w (setRow w A 0 (actCells y)) (fun k _ => k = A) := by
  obtain ⟨c, v⟩ := setRow_chg A (actCells y) 0 w lt (fun j hj => by rw [actCells_len] at hj; rw [Nat.zero_add]; exact ex j hj)
  refine ⟨⟨Nat.lt_of_lt_of_le lt c.size, fun j u hu => ?_, fun o ho => (c.froz A o lt).trans (fz o ho)⟩, c.mono (fun k x h => h.1)⟩
  have := v j u hu
  rwa [Nat.zero_add] at this
/-- Nine cells that are there. -/
structure Row9 (w : World) (A : Nat) : Prop where
  lt : A < w.heap.size
  ex : ∀ o, o < 9 → ∃ u, w.cell? ⟨A, o, none⟩ = some u
  fz : ∀ o, o < 9 → w.frozen? ⟨A, o, none⟩ = false
theorem Row9.new (w : World) (cs : Array Value) (E : TypeId) (hs : cs.size = 9) : Row9 (w.alloc (.cells cs E)) w.heap.size :=
  ⟨by simp, fun o ho => ⟨cs[o]'(by omega), by rw [World.cell?_alloc_new]; exact Array.getElem?_eq_getElem _⟩, fun o ho => by simp⟩
theorem Row9.below {w w' : World} {A : Nat} (h : Row9 w A) {B : Nat} (hb : Below B w w') (hB : A < B) : Row9 w' A :=
  ⟨Nat.lt_of_lt_of_le h.lt hb.size, fun o ho => by obtain ⟨u, hu⟩ := h.ex o ho; exact ⟨u, (hb.cell (p := ⟨A, o, none⟩) hB).trans hu⟩, fun o ho => (hb.frozen (p := ⟨A, o, none⟩) hB).trans (h.fz o ho)⟩
theorem AcC.put {w : World} {A : Nat} (y : ActD) (h : Row9 w A) : AcC (setRow w A 0 (actCells y)) A y ∧ Chg w (setRow w A 0 (actCells y)) (fun k _ => k = A) := AcC.set y h.lt h.ex h.fz
theorem AcC.row {w : World} {A : Nat} {y : ActD} (h : AcC w A y) : Row9 w A :=
  ⟨h.lt, fun o ho => ⟨_, h.at_ o _ (List.getElem?_eq_getElem (by rw [actCells_len]; exact ho))⟩, h.fz⟩
/-- What the making of an act leaves: the act in a block of its own. -/
def MadeAct (X : World) (q : ActD) (v : Value) (wx : World) : Prop := ∃ A, v = .pointer (some ⟨A, 0, none⟩) ∧ AcC wx A q ∧ Below X.heap.size X wx ∧ X.heap.size ≤ A
theorem MadeAct.new {X w : World} (q : ActD) (E : TypeId) (hb : Below X.heap.size X w) : MadeAct X q (.pointer (some ⟨w.heap.size, 0, none⟩)) (w.alloc (.cells (actCells q).toArray E)) :=
  ⟨_, rfl, AcC.new _ _ _, hb.alloc (by have := hb.size; omega) _, hb.size⟩
theorem MadeAct.put {X w : World} {A : Nat} (q : ActD) (h : Row9 w A) (hb : Below X.heap.size X w) (hA : X.heap.size ≤ A) : MadeAct X q (.pointer (some ⟨A, 0, none⟩)) (setRow w A 0 (actCells q)) := by
  obtain ⟨h1, h2⟩ := AcC.put q h
  exact ⟨_, rfl, h1, hb.trans (h2.below hb.size (fun b x hb' e => by omega)), hA⟩
theorem MadeAct.new9 {X w : World} {A : Nat} (N K h : Nat) (E : TypeId) (hA : A = w.heap.size) (hb : Below X.heap.size X w) :
    MadeAct X ⟨1, N, K, 1 + h, 0⟩ (.pointer (some ⟨A, 0, none⟩)) (w.alloc (.cells #[.int .i64 1, .bool false, .int .u64 (hiOf false N), .int .u64 (loOf N), .int .i64 (K : Nat), .int .i64 (1 + (h : Int)), .bool false, .int .u64 0, .int .u64 0] E)) := by
  subst hA
  exact MadeAct.new ⟨1, N, K, 1 + h, 0⟩ E hb
theorem MadeAct.put9 {X w : World} {A : Nat} (N K h : Nat) (hr : Row9 w A) (hb : Below X.heap.size X w) (hA : X.heap.size ≤ A) :
    MadeAct X ⟨1, N, K, 1 + h, 0⟩ (.pointer (some ⟨A, 0, none⟩)) (((((((((w.setCell ⟨A, 0, none⟩ (.int .i64 1)).setCell ⟨A, 1, none⟩ (.bool false)).setCell ⟨A, 2, none⟩ (.int .u64 (hiOf false N))).setCell ⟨A, 3, none⟩ (.int .u64 (loOf N))).setCell ⟨A, 4, none⟩ (.int .i64 (K : Nat))).setCell ⟨A, 5, none⟩ (.int .i64 (1 + (h : Int)))).setCell ⟨A, 6, none⟩ (.bool false)).setCell ⟨A, 7, none⟩ (.int .u64 0)).setCell ⟨A, 8, none⟩ (.int .u64 0)) :=
  MadeAct.put ⟨1, N, K, 1 + h, 0⟩ hr hb hA
theorem Row9.mk1 {w w1 : World} {o : Obj} {cs : Array Value} {E : TypeId} {A : Nat} (hA : A = w.heap.size) (hs : cs.size = 9) (hb : Below ((w.alloc (.cells cs E)).alloc o).heap.size ((w.alloc (.cells cs E)).alloc o) w1) : Row9 w1 A := by
  subst hA
  exact ((Row9.new w cs E hs).below ((Below.refl _ _).alloc (Nat.le_refl _) o) (by simp)).below hb (by simp; omega)
theorem Row9.mk2 {w w1 : World} {o : Obj} {cs : Array Value} {E : TypeId} {A : Nat} (hA : A = w.heap.size + 1) (hs : cs.size = 9) (hb : Below ((w.alloc o).alloc (.cells cs E)).heap.size ((w.alloc o).alloc (.cells cs E)) w1) : Row9 w1 A := by
  have e : A = (w.alloc o).heap.size := by rw [hA]; simp
  subst e
  exact (Row9.new (w.alloc o) cs E hs).below hb (by simp)
theorem JC.set {w : World} {A : Nat} {q : JobD} (h : JC w A q) (y : JobD) : JC (setRow w A 0 (jobCells y)) A y ∧ Chg w (setRow w A 0 (jobCells y)) (fun k _ => k = A) := by
  obtain ⟨c, v⟩ := setRow_chg A (jobCells y) 0 w h.lt (fun j hj => by
    rw [jobCells_len] at hj
    rw [Nat.zero_add]
    exact ⟨_, h.at_ j _ (List.getElem?_eq_getElem (by rw [jobCells_len]; exact hj))⟩)
  refine ⟨⟨Nat.lt_of_lt_of_le h.lt c.size, fun j u hu => ?_, fun o ho => (c.froz A o h.lt).trans (h.fz o ho)⟩, c.mono (fun k x h => h.1)⟩
  have := v j u hu
  rwa [Nat.zero_add] at this
theorem JC.chg {w w' : World} {A : Nat} {q : JobD} {F : Nat → Nat → Prop} (h : JC w A q) (c : Chg w w' F) (hF : ∀ x, ¬ F A x) : JC w' A q :=
  ⟨Nat.lt_of_lt_of_le h.lt c.size, fun j u hu => (c.cell A j h.lt (hF j)).trans (h.at_ j u hu), fun o ho => (c.froz A o h.lt).trans (h.fz o ho)⟩
/-- What Queue hands back: jobs that may be, in a slice of its own. -/
def RetJobs (w : World) (n : Nat) (e : Ending) (w' : World) : Prop :=
  ∃ (v : Value) (qs : List JobD), e = .returned v ∧ Own w' w.heap.size 34 11 v (qs.map jobCells) ∧ (∀ q ∈ qs, JobD.ok q) ∧ qs.length ≤ n ∧ Below w.heap.size w w'


set_option maxRecDepth 100000 in
set_option maxHeartbeats 6000000 in
theorem queue_any (a : Option Addr) (len cap : Nat) (js : List RawJ) (n : Nat) (w : World) (h : IsJobs w a len cap js) (hn : n ≤ 1000) :
    Calls Try.prog 13 #[.slice a len cap, .int .i64 n] w (RetJobs w n) := by
  have hlm := h.le
  have hlc := h.2.1.lens.2.1
  have HJ := Lib.hid h
  clear h
  go_enter Try.func13, Try.ntmps13
  go_wp2_with fail
  go_loopw [5, 6] (fun v i wr => ∃ k : Nat, k ≤ len ∧ k ≤ n ∧ i = .int .i64 k ∧ (∃ qs : List JobD, Hid (qs.length = k) ∧ Hid (∀ q ∈ qs, JobD.ok q) ∧ Hid (Own wr w.heap.size 34 11 v (qs.map jobCells))) ∧ Hid (Below w.heap.size w wr)) (fun _ i _ => len - (intOf i).toNat)
  case atStart => exact ⟨0, Nat.zero_le _, Nat.zero_le _, rfl, ⟨[], rfl, fun q h => (by cases h), Own.nil _ _ _ _⟩, Below.refl _ _⟩
  case round =>
    obtain ⟨k, hk, hkn, rfl, ⟨qs, HK, HQ, HO⟩, HB⟩ := hrel
    have hzr := HB.out.size
    by_cases hlt : k < len
    · by_cases hlt2 : k < n
      · obtain ⟨b, off, r, hr, rfl, hb, d0, d1, d2, x0, x1, x2⟩ := HJ.out.opened HB.out hlt
        obtain ⟨kx, px, hx⟩ := r
        have hbr : b < wr.heap.size := by omega
        dsimp only at d0 d1 d2 x0 x1 x2
        have P0 := Lib.hid (fun w => picked_any hx 4 w (by decide) (by decide))
        have P1 := Lib.hid (fun w => picked_any kx 4 w (by decide) (by decide))
        have P2 := Lib.hid (fun w => picked_any hx 5 w (by decide) (by decide))
        have P3 := Lib.hid (fun w => picked_any (wrap64 (kx.tdiv 4)) 4 w (by decide) (by decide))
        have a0 := Int.emod_nonneg hx (show (4 : Int) ≠ 0 by decide)
        have a1 := Int.emod_lt_of_pos hx (show (0 : Int) < 4 by decide)
        have b0 := Int.emod_nonneg kx (show (4 : Int) ≠ 0 by decide)
        have c0 := Int.emod_nonneg hx (show (5 : Int) ≠ 0 by decide)
        have c1 := Int.emod_lt_of_pos hx (show (0 : Int) < 5 by decide)
        obtain ⟨pa, ha⟩ := Int.eq_ofNat_of_zero_le a0
        obtain ⟨pb, hpb⟩ := Int.eq_ofNat_of_zero_le b0
        obtain ⟨pc, hpc⟩ := Int.eq_ofNat_of_zero_le c0
        rw [ha] at P0 a1
        rw [hpb] at P1
        rw [hpc] at P2 c1
        generalize hy : wrap64 (kx.tdiv 4) % 4 = py at P3
        clear ha hpb hpc a0 b0 c0 hy hr
        go_upto_if 34 with (first | ((with_reducible refine (P0.out _).mono ?_); rintro e w' ⟨rfl, rfl⟩) | ((with_reducible refine (P1.out _).mono ?_); rintro e w' ⟨rfl, rfl⟩))
        have hXB : Below wr.heap.size wr (wr.alloc (.cells #[.int .i64 2, .int .i64 0, .bool false, .int .u64 0, .int .u64 0, .int .i64 0, .int .i64 0, .bool false, .int .u64 0, .int .u64 0, .int .i64 (1 + (pa : Int))] 34)) := (Below.refl _ _).alloc (Nat.le_refl _) _
        have hcs : (#[.int .i64 2, .int .i64 0, .bool false, .int .u64 0, .int .u64 0, .int .i64 0, .int .i64 0, .bool false, .int .u64 0, .int .u64 0, .int .i64 (1 + (pa : Int))] : Array Value) = (jobCells ⟨false, actZ, 1 + pa⟩).toArray := rfl
        have hJC : JC (wr.alloc (.cells #[.int .i64 2, .int .i64 0, .bool false, .int .u64 0, .int .u64 0, .int .i64 0, .int .i64 0, .bool false, .int .u64 0, .int .u64 0, .int .i64 (1 + (pa : Int))] 34)) wr.heap.size ⟨false, actZ, 1 + pa⟩ := by
          rw [hcs]; exact JC.new _ _ _
        have HJC := Lib.hid hJC
        have HXB := Lib.hid hXB
        have d0' := (hXB.cell (p := ⟨b, off + k * 3, none⟩) hbr).trans d0
        have d1' := (hXB.cell (p := ⟨b, off + k * 3 + 1, none⟩) hbr).trans d1
        have d2' := (hXB.cell (p := ⟨b, off + k * 3 + 2, none⟩) hbr).trans d2
        have hXs : wr.heap.size < (wr.alloc (.cells #[.int .i64 2, .int .i64 0, .bool false, .int .u64 0, .int .u64 0, .int .i64 0, .int .i64 0, .bool false, .int .u64 0, .int .u64 0, .int .i64 (1 + (pa : Int))] 34)).heap.size := by simp
        clear hcs hJC hXB
        generalize wr.alloc (.cells #[.int .i64 2, .int .i64 0, .bool false, .int .u64 0, .int .u64 0, .int .i64 0, .int .i64 0, .bool false, .int .u64 0, .int .u64 0, .int .i64 (1 + (pa : Int))] 34) = X at *
        obtain ⟨J, hJ⟩ : ∃ J, J = wr.heap.size := ⟨_, rfl⟩
        rw [← hJ] at HJC hXs ⊢
        have HJE := Lib.hid hJ
        have hbJ : b < J := by omega
        have hbX : b < X.heap.size := by omega
        have hbX1 : b < X.heap.size + 1 := by omega
        clear hJ
        go_cut [] (fun wx => Hid (∃ q : JobD, q.ok ∧ JC wx J q ∧ Below wr.heap.size wr wx))
        case first =>
          by_cases hp0 : pb = 0
          · subst hp0
            go_wp2_with fail
            go_meet
            exact ⟨⟨false, actZ, 1 + pa⟩, .inr ⟨rfl, rfl, by show 1 ≤ 1 + pa; omega, by show 1 + pa ≤ 8; omega⟩, HJC.out, HXB.out⟩
          · have hpp : 0 < pb := by omega
            have PR := Lib.hid (fun b w hc => pres_one b px w hc x1)
            go_upto_region 7 with fail
            have HD := Lib.hid (⟨d0', d1', d2'⟩ : X.cell? ⟨b, off + k * 3, none⟩ = some (.int .i64 kx) ∧ X.cell? ⟨b, off + k * 3 + 1, none⟩ = some (.int .i64 px) ∧ X.cell? ⟨b, off + k * 3 + 2, none⟩ = some (.int .i64 hx))
            go_cut [8] (fun v wx => Hid (MadeAct X ⟨1, presN px, presK px, 1 + pc, 0⟩ v wx))
            case first =>
              have ew1 : IntKind.i64.wrap (1 + (pc : Int)) = 1 + (pc : Int) := IntWalk.i64_in _ (by omega)
              refine wp_region_held_drew (S := (fun w' => w'.cell? ⟨b, off + k * 3 + 1, none⟩ = some (.int .i64 px) ∧ w'.cell? ⟨b, off + k * 3 + 2, none⟩ = some (.int .i64 hx))) (by kernel_rfl) ?_ (fun hHeld => ?_)
              · ((try dsimp only); (first | (go_simp; done) | (simp [*, go_sem, World.cell?_alloc_past]; done) | (simp [*, go_sem, World.cell?_alloc_past, World.cell?_setCell_far]; done)))
              (refine wpAnyH_take (i := 0) (oi := _) (v := ?_) (by simp only [List.getElem?_toArray, List.getElem?_cons_zero, List.getElem?_cons_succ]; rfl) (by kernel_rfl) (by decide +kernel) (by decide +kernel) (by exact fun _ _ _ h => h) (Or.inl ⟨by rfl, ?_⟩) (by assumption) ?_; rotate_left; (· ((intro w hSw); (try dsimp only at hSw); go_simp; (try with_reducible rfl))); (try simp only [Act.put, List.setIfInBounds_toArray, List.set_cons_zero, List.set_cons_succ]))
              (refine wpAnyH_take (i := 1) (oi := _) (v := ?_) (by simp only [List.getElem?_toArray, List.getElem?_cons_zero, List.getElem?_cons_succ]; rfl) (by kernel_rfl) (by decide +kernel) (by decide +kernel) (by exact fun _ _ _ h => h) (Or.inl ⟨by rfl, ?_⟩) (by assumption) ?_; rotate_left; (· ((intro w hSw); (try dsimp only at hSw); go_simp; (try with_reducible rfl))); (try simp only [Act.put, List.setIfInBounds_toArray, List.set_cons_zero, List.set_cons_succ]))
              (refine wpAnyH_take (i := 2) (oi := _) (v := ?_) (by simp only [List.getElem?_toArray, List.getElem?_cons_zero, List.getElem?_cons_succ]; rfl) (by kernel_rfl) (by decide +kernel) (by decide +kernel) (by exact fun _ _ _ h => h) (Or.inl ⟨by rfl, ?_⟩) (by assumption) ?_; rotate_left; (· ((intro w hSw); (try dsimp only at hSw); go_simp; (try with_reducible rfl))); (try simp only [Act.put, List.setIfInBounds_toArray, List.set_cons_zero, List.set_cons_succ]))
              (refine wpAnyH_take (i := 3) (oi := _) (v := ?_) (by simp only [List.getElem?_toArray, List.getElem?_cons_zero, List.getElem?_cons_succ]; rfl) (by kernel_rfl) (by decide +kernel) (by decide +kernel) (by exact fun _ _ _ h => h) (Or.inl ⟨by rfl, ?_⟩) (by assumption) ?_; rotate_left; (· ((intro w hSw); (try dsimp only at hSw); go_simp; (try with_reducible rfl))); (try simp only [Act.put, List.setIfInBounds_toArray, List.set_cons_zero, List.set_cons_succ]))
              (refine wpAnyH_take (i := 4) (oi := _) (v := ?_) (by simp only [List.getElem?_toArray, List.getElem?_cons_zero, List.getElem?_cons_succ]; rfl) (by kernel_rfl) (by decide +kernel) (by decide +kernel) (by exact fun _ _ _ h => h) (Or.inl ⟨by rfl, ?_⟩) (by assumption) ?_; rotate_left; (· ((intro w hSw); (try dsimp only at hSw); go_simp; (try with_reducible rfl))); (try simp only [Act.put, List.setIfInBounds_toArray, List.set_cons_zero, List.set_cons_succ]))
              (refine wpAnyH_take (i := 9) (oi := _) (v := ?_) (by simp only [List.getElem?_toArray, List.getElem?_cons_zero, List.getElem?_cons_succ]; rfl) (by kernel_rfl) (by decide +kernel) (by decide +kernel) (by exact fun _ _ _ h => h) (Or.inl ⟨by rfl, ?_⟩) (by assumption) ?_; rotate_left; (· ((intro w hSw); (try dsimp only at hSw); go_simp; (try with_reducible rfl))); (try simp only [Act.put, List.setIfInBounds_toArray, List.set_cons_zero, List.set_cons_succ]))
              (refine wpAnyH_take (i := 10) (oi := _) (v := ?_) (by simp only [List.getElem?_toArray, List.getElem?_cons_zero, List.getElem?_cons_succ]; rfl) (by kernel_rfl) (by decide +kernel) (by decide +kernel) (by exact fun _ _ _ h => h) (Or.inl ⟨by rfl, ?_⟩) (by assumption) ?_; rotate_left; (· ((intro w hSw); (try dsimp only at hSw); go_simp; (try with_reducible rfl))); (try simp only [Act.put, List.setIfInBounds_toArray, List.set_cons_zero, List.set_cons_succ]))
              (refine wpAnyH_take (i := 11) (oi := _) (v := ?_) (by simp only [List.getElem?_toArray, List.getElem?_cons_zero, List.getElem?_cons_succ]; rfl) (by kernel_rfl) (by decide +kernel) (by decide +kernel) (by exact fun _ _ _ h => h) (Or.inl ⟨by rfl, ?_⟩) (by assumption) ?_; rotate_left; (· ((intro w hSw); (try dsimp only at hSw); go_simp; (try with_reducible rfl))); (try simp only [Act.put, List.setIfInBounds_toArray, List.set_cons_zero, List.set_cons_succ]))
              (refine wpAnyH_take (i := 12) (oi := _) (v := ?_) (by simp only [List.getElem?_toArray, List.getElem?_cons_zero, List.getElem?_cons_succ]; rfl) (by kernel_rfl) (by decide +kernel) (by decide +kernel) (by exact fun _ _ _ h => h) (Or.inl ⟨by rfl, ?_⟩) (by assumption) ?_; rotate_left; (· ((intro w hSw); (try dsimp only at hSw); go_simp; (try with_reducible rfl))); (try simp only [Act.put, List.setIfInBounds_toArray, List.set_cons_zero, List.set_cons_succ]))
              (refine wpAnyH_take (i := 13) (oi := _) (v := ?_) (by simp only [List.getElem?_toArray, List.getElem?_cons_zero, List.getElem?_cons_succ]; rfl) (by kernel_rfl) (by decide +kernel) (by decide +kernel) (by exact fun _ _ _ h => h) (Or.inl ⟨by rfl, ?_⟩) (by assumption) ?_; rotate_left; (· ((intro w hSw); (try dsimp only at hSw); go_simp; (try with_reducible rfl))); (try simp only [Act.put, List.setIfInBounds_toArray, List.set_cons_zero, List.set_cons_succ]))
              repeat' (first
                | (refine wpAnyH_take (i := 7) (oi := _) (v := ?_) (by simp only [List.getElem?_toArray, List.getElem?_cons_zero, List.getElem?_cons_succ]; rfl) (by kernel_rfl) (by decide +kernel) (by decide +kernel) (by exact fun _ _ _ h => h) (Or.inl ⟨by rfl, ?_⟩) (by assumption) ?_; rotate_left; (· ((intro w hSw); (try dsimp only at hSw); go_simp; (try with_reducible rfl))); (try simp only [Act.put, List.setIfInBounds_toArray, List.set_cons_zero, List.set_cons_succ]))
                | (refine wpAnyH_take (i := 15) (oi := _) (v := ?_) (by simp only [List.getElem?_toArray, List.getElem?_cons_zero, List.getElem?_cons_succ]; rfl) (by kernel_rfl) (by decide +kernel) (by decide +kernel) (by exact fun _ _ _ h => h) (Or.inl ⟨by rfl, ?_⟩) (by assumption) ?_; rotate_left; (· ((intro w hSw); (try dsimp only at hSw); go_simp; (try with_reducible rfl))); (try simp only [Act.put, List.setIfInBounds_toArray, List.set_cons_zero, List.set_cons_succ]))
                | (refine wpAnyH_take (i := 16) (oi := _) (v := ?_) (by simp only [List.getElem?_toArray, List.getElem?_cons_zero, List.getElem?_cons_succ]; rfl) (by kernel_rfl) (by decide +kernel) (by decide +kernel) (by exact fun _ _ _ h => h) (Or.inl ⟨by rfl, ?_⟩) (by assumption) ?_; rotate_left; (· ((intro w hSw); (try dsimp only at hSw); go_simp; (try with_reducible rfl))); (try simp only [Act.put, List.setIfInBounds_toArray, List.set_cons_zero, List.set_cons_succ]))
                | (refine wpAnyH_ready (rs := [18]) (by decide +kernel) (by simp) (AllReadyH.cons (by simp only [List.getElem?_toArray, List.getElem?_cons_zero, List.getElem?_cons_succ]; rfl) (fun K hK => ?_) AllReadyH.nil); all_goals ((go_simp; (first | ((with_reducible refine (P2.out _).mono ?_); rintro e w' ⟨rfl, rfl⟩) | ((with_reducible refine (PR.out _ _ (by first | (go_simp; done) | simp)).mono ?_); rintro e w1 ⟨g, gc, rfl, g1, g2, g3, g4, g5, g6, hb1⟩; (repeat (with_reducible (replace hb1 := Below.undrew hb1))); obtain ⟨hc1, hf1⟩ := bcell hb1; have hz1 := hb1.size; (repeat (first | rw [World.size_alloc] at hz1 | rw [World.size_drew] at hz1 | rw [World.size_setCell] at hz1)); (try have : b < w1.heap.size := by omega); (try have : b < w1.heap.size + 1 := by omega); (try have : b < w1.heap.size + 1 + 1 := by omega); (try have : b < w1.heap.size + 1 + 1 + 1 := by omega); (try have : wr.heap.size < w1.heap.size := by omega); (try have : wr.heap.size < w1.heap.size + 1 := by omega); (try have : wr.heap.size < w1.heap.size + 1 + 1 := by omega); (try have : wr.heap.size < w1.heap.size + 1 + 1 + 1 := by omega)) | skip)); (refine hK.out _ _ ?_ (fun hHeld => ?_)); (· ((try dsimp only); (first | (go_simp; done) | (simp [*, go_sem, World.cell?_alloc_past]; done) | (simp [*, go_sem, World.cell?_alloc_past, World.cell?_setCell_far]; done)))); (clear hK K; (try simp only [Act.put, List.setIfInBounds_toArray, List.set_cons_zero, List.set_cons_succ]))))
                | (refine wpAnyH_ready (rs := [8, 14]) (by decide +kernel) (by simp) (AllReadyH.cons (by simp only [List.getElem?_toArray, List.getElem?_cons_zero, List.getElem?_cons_succ]; rfl) (fun K hK => ?_) (AllReadyH.cons (by simp only [List.getElem?_toArray, List.getElem?_cons_zero, List.getElem?_cons_succ]; rfl) (fun K hK => ?_) AllReadyH.nil)); all_goals ((go_simp; (first | ((with_reducible refine (P2.out _).mono ?_); rintro e w' ⟨rfl, rfl⟩) | ((with_reducible refine (PR.out _ _ (by first | (go_simp; done) | simp)).mono ?_); rintro e w1 ⟨g, gc, rfl, g1, g2, g3, g4, g5, g6, hb1⟩; (repeat (with_reducible (replace hb1 := Below.undrew hb1))); obtain ⟨hc1, hf1⟩ := bcell hb1; have hz1 := hb1.size; (repeat (first | rw [World.size_alloc] at hz1 | rw [World.size_drew] at hz1 | rw [World.size_setCell] at hz1)); (try have : b < w1.heap.size := by omega); (try have : b < w1.heap.size + 1 := by omega); (try have : b < w1.heap.size + 1 + 1 := by omega); (try have : b < w1.heap.size + 1 + 1 + 1 := by omega); (try have : wr.heap.size < w1.heap.size := by omega); (try have : wr.heap.size < w1.heap.size + 1 := by omega); (try have : wr.heap.size < w1.heap.size + 1 + 1 := by omega); (try have : wr.heap.size < w1.heap.size + 1 + 1 + 1 := by omega)) | skip)); (refine hK.out _ _ ?_ (fun hHeld => ?_)); (· ((try dsimp only); (first | (go_simp; done) | (simp [*, go_sem, World.cell?_alloc_past]; done) | (simp [*, go_sem, World.cell?_alloc_past, World.cell?_setCell_far]; done)))); (clear hK K; (try simp only [Act.put, List.setIfInBounds_toArray, List.set_cons_zero, List.set_cons_succ]))))
                | (refine wpAnyH_ready (rs := [8]) (by decide +kernel) (by simp) (AllReadyH.cons (by simp only [List.getElem?_toArray, List.getElem?_cons_zero, List.getElem?_cons_succ]; rfl) (fun K hK => ?_) AllReadyH.nil); all_goals ((go_simp; (first | ((with_reducible refine (P2.out _).mono ?_); rintro e w' ⟨rfl, rfl⟩) | ((with_reducible refine (PR.out _ _ (by first | (go_simp; done) | simp)).mono ?_); rintro e w1 ⟨g, gc, rfl, g1, g2, g3, g4, g5, g6, hb1⟩; (repeat (with_reducible (replace hb1 := Below.undrew hb1))); obtain ⟨hc1, hf1⟩ := bcell hb1; have hz1 := hb1.size; (repeat (first | rw [World.size_alloc] at hz1 | rw [World.size_drew] at hz1 | rw [World.size_setCell] at hz1)); (try have : b < w1.heap.size := by omega); (try have : b < w1.heap.size + 1 := by omega); (try have : b < w1.heap.size + 1 + 1 := by omega); (try have : b < w1.heap.size + 1 + 1 + 1 := by omega); (try have : wr.heap.size < w1.heap.size := by omega); (try have : wr.heap.size < w1.heap.size + 1 := by omega); (try have : wr.heap.size < w1.heap.size + 1 + 1 := by omega); (try have : wr.heap.size < w1.heap.size + 1 + 1 + 1 := by omega)) | skip)); (refine hK.out _ _ ?_ (fun hHeld => ?_)); (· ((try dsimp only); (first | (go_simp; done) | (simp [*, go_sem, World.cell?_alloc_past]; done) | (simp [*, go_sem, World.cell?_alloc_past, World.cell?_setCell_far]; done)))); (clear hK K; (try simp only [Act.put, List.setIfInBounds_toArray, List.set_cons_zero, List.set_cons_succ]))))
                | (refine wpAnyH_ready (rs := [14]) (by decide +kernel) (by simp) (AllReadyH.cons (by simp only [List.getElem?_toArray, List.getElem?_cons_zero, List.getElem?_cons_succ]; rfl) (fun K hK => ?_) AllReadyH.nil); all_goals ((go_simp; (first | ((with_reducible refine (P2.out _).mono ?_); rintro e w' ⟨rfl, rfl⟩) | ((with_reducible refine (PR.out _ _ (by first | (go_simp; done) | simp)).mono ?_); rintro e w1 ⟨g, gc, rfl, g1, g2, g3, g4, g5, g6, hb1⟩; (repeat (with_reducible (replace hb1 := Below.undrew hb1))); obtain ⟨hc1, hf1⟩ := bcell hb1; have hz1 := hb1.size; (repeat (first | rw [World.size_alloc] at hz1 | rw [World.size_drew] at hz1 | rw [World.size_setCell] at hz1)); (try have : b < w1.heap.size := by omega); (try have : b < w1.heap.size + 1 := by omega); (try have : b < w1.heap.size + 1 + 1 := by omega); (try have : b < w1.heap.size + 1 + 1 + 1 := by omega); (try have : wr.heap.size < w1.heap.size := by omega); (try have : wr.heap.size < w1.heap.size + 1 := by omega); (try have : wr.heap.size < w1.heap.size + 1 + 1 := by omega); (try have : wr.heap.size < w1.heap.size + 1 + 1 + 1 := by omega)) | skip)); (refine hK.out _ _ ?_ (fun hHeld => ?_)); (· ((try dsimp only); (first | (go_simp; done) | (simp [*, go_sem, World.cell?_alloc_past]; done) | (simp [*, go_sem, World.cell?_alloc_past, World.cell?_setCell_far]; done)))); (clear hK K; (try simp only [Act.put, List.setIfInBounds_toArray, List.set_cons_zero, List.set_cons_succ]))))
                | (refine wpAnyH_ready (rs := [8, 14, 17]) (by decide +kernel) (by simp) (AllReadyH.cons (by simp only [List.getElem?_toArray, List.getElem?_cons_zero, List.getElem?_cons_succ]; rfl) (fun K hK => ?_) (AllReadyH.cons (by simp only [List.getElem?_toArray, List.getElem?_cons_zero, List.getElem?_cons_succ]; rfl) (fun K hK => ?_) (AllReadyH.cons (by simp only [List.getElem?_toArray, List.getElem?_cons_zero, List.getElem?_cons_succ]; rfl) (fun K hK => ?_) AllReadyH.nil))); all_goals ((go_simp; (first | ((with_reducible refine (P2.out _).mono ?_); rintro e w' ⟨rfl, rfl⟩) | ((with_reducible refine (PR.out _ _ (by first | (go_simp; done) | simp)).mono ?_); rintro e w1 ⟨g, gc, rfl, g1, g2, g3, g4, g5, g6, hb1⟩; (repeat (with_reducible (replace hb1 := Below.undrew hb1))); obtain ⟨hc1, hf1⟩ := bcell hb1; have hz1 := hb1.size; (repeat (first | rw [World.size_alloc] at hz1 | rw [World.size_drew] at hz1 | rw [World.size_setCell] at hz1)); (try have : b < w1.heap.size := by omega); (try have : b < w1.heap.size + 1 := by omega); (try have : b < w1.heap.size + 1 + 1 := by omega); (try have : b < w1.heap.size + 1 + 1 + 1 := by omega); (try have : wr.heap.size < w1.heap.size := by omega); (try have : wr.heap.size < w1.heap.size + 1 := by omega); (try have : wr.heap.size < w1.heap.size + 1 + 1 := by omega); (try have : wr.heap.size < w1.heap.size + 1 + 1 + 1 := by omega)) | skip)); (refine hK.out _ _ ?_ (fun hHeld => ?_)); (· ((try dsimp only); (first | (go_simp; done) | (simp [*, go_sem, World.cell?_alloc_past]; done) | (simp [*, go_sem, World.cell?_alloc_past, World.cell?_setCell_far]; done)))); (clear hK K; (try simp only [Act.put, List.setIfInBounds_toArray, List.set_cons_zero, List.set_cons_succ]))))
                | (refine wpAnyH_ready (rs := [8, 17]) (by decide +kernel) (by simp) (AllReadyH.cons (by simp only [List.getElem?_toArray, List.getElem?_cons_zero, List.getElem?_cons_succ]; rfl) (fun K hK => ?_) (AllReadyH.cons (by simp only [List.getElem?_toArray, List.getElem?_cons_zero, List.getElem?_cons_succ]; rfl) (fun K hK => ?_) AllReadyH.nil)); all_goals ((go_simp; (first | ((with_reducible refine (P2.out _).mono ?_); rintro e w' ⟨rfl, rfl⟩) | ((with_reducible refine (PR.out _ _ (by first | (go_simp; done) | simp)).mono ?_); rintro e w1 ⟨g, gc, rfl, g1, g2, g3, g4, g5, g6, hb1⟩; (repeat (with_reducible (replace hb1 := Below.undrew hb1))); obtain ⟨hc1, hf1⟩ := bcell hb1; have hz1 := hb1.size; (repeat (first | rw [World.size_alloc] at hz1 | rw [World.size_drew] at hz1 | rw [World.size_setCell] at hz1)); (try have : b < w1.heap.size := by omega); (try have : b < w1.heap.size + 1 := by omega); (try have : b < w1.heap.size + 1 + 1 := by omega); (try have : b < w1.heap.size + 1 + 1 + 1 := by omega); (try have : wr.heap.size < w1.heap.size := by omega); (try have : wr.heap.size < w1.heap.size + 1 := by omega); (try have : wr.heap.size < w1.heap.size + 1 + 1 := by omega); (try have : wr.heap.size < w1.heap.size + 1 + 1 + 1 := by omega)) | skip)); (refine hK.out _ _ ?_ (fun hHeld => ?_)); (· ((try dsimp only); (first | (go_simp; done) | (simp [*, go_sem, World.cell?_alloc_past]; done) | (simp [*, go_sem, World.cell?_alloc_past, World.cell?_setCell_far]; done)))); (clear hK K; (try simp only [Act.put, List.setIfInBounds_toArray, List.set_cons_zero, List.set_cons_succ]))))
                | (refine wpAnyH_ready (rs := [14, 17]) (by decide +kernel) (by simp) (AllReadyH.cons (by simp only [List.getElem?_toArray, List.getElem?_cons_zero, List.getElem?_cons_succ]; rfl) (fun K hK => ?_) (AllReadyH.cons (by simp only [List.getElem?_toArray, List.getElem?_cons_zero, List.getElem?_cons_succ]; rfl) (fun K hK => ?_) AllReadyH.nil)); all_goals ((go_simp; (first | ((with_reducible refine (P2.out _).mono ?_); rintro e w' ⟨rfl, rfl⟩) | ((with_reducible refine (PR.out _ _ (by first | (go_simp; done) | simp)).mono ?_); rintro e w1 ⟨g, gc, rfl, g1, g2, g3, g4, g5, g6, hb1⟩; (repeat (with_reducible (replace hb1 := Below.undrew hb1))); obtain ⟨hc1, hf1⟩ := bcell hb1; have hz1 := hb1.size; (repeat (first | rw [World.size_alloc] at hz1 | rw [World.size_drew] at hz1 | rw [World.size_setCell] at hz1)); (try have : b < w1.heap.size := by omega); (try have : b < w1.heap.size + 1 := by omega); (try have : b < w1.heap.size + 1 + 1 := by omega); (try have : b < w1.heap.size + 1 + 1 + 1 := by omega); (try have : wr.heap.size < w1.heap.size := by omega); (try have : wr.heap.size < w1.heap.size + 1 := by omega); (try have : wr.heap.size < w1.heap.size + 1 + 1 := by omega); (try have : wr.heap.size < w1.heap.size + 1 + 1 + 1 := by omega)) | skip)); (refine hK.out _ _ ?_ (fun hHeld => ?_)); (· ((try dsimp only); (first | (go_simp; done) | (simp [*, go_sem, World.cell?_alloc_past]; done) | (simp [*, go_sem, World.cell?_alloc_past, World.cell?_setCell_far]; done)))); (clear hK K; (try simp only [Act.put, List.setIfInBounds_toArray, List.set_cons_zero, List.set_cons_succ]))))
                | (refine wpAnyH_ready (rs := [17]) (by decide +kernel) (by simp) (AllReadyH.cons (by simp only [List.getElem?_toArray, List.getElem?_cons_zero, List.getElem?_cons_succ]; rfl) (fun K hK => ?_) AllReadyH.nil); all_goals ((go_simp; (first | ((with_reducible refine (P2.out _).mono ?_); rintro e w' ⟨rfl, rfl⟩) | ((with_reducible refine (PR.out _ _ (by first | (go_simp; done) | simp)).mono ?_); rintro e w1 ⟨g, gc, rfl, g1, g2, g3, g4, g5, g6, hb1⟩; (repeat (with_reducible (replace hb1 := Below.undrew hb1))); obtain ⟨hc1, hf1⟩ := bcell hb1; have hz1 := hb1.size; (repeat (first | rw [World.size_alloc] at hz1 | rw [World.size_drew] at hz1 | rw [World.size_setCell] at hz1)); (try have : b < w1.heap.size := by omega); (try have : b < w1.heap.size + 1 := by omega); (try have : b < w1.heap.size + 1 + 1 := by omega); (try have : b < w1.heap.size + 1 + 1 + 1 := by omega); (try have : wr.heap.size < w1.heap.size := by omega); (try have : wr.heap.size < w1.heap.size + 1 := by omega); (try have : wr.heap.size < w1.heap.size + 1 + 1 := by omega); (try have : wr.heap.size < w1.heap.size + 1 + 1 + 1 := by omega)) | skip)); (refine hK.out _ _ ?_ (fun hHeld => ?_)); (· ((try dsimp only); (first | (go_simp; done) | (simp [*, go_sem, World.cell?_alloc_past]; done) | (simp [*, go_sem, World.cell?_alloc_past, World.cell?_setCell_far]; done)))); (clear hK K; (try simp only [Act.put, List.setIfInBounds_toArray, List.set_cons_zero, List.set_cons_succ]))))
                | (refine wpAnyH_ready (rs := [6]) (by decide +kernel) (by simp) (AllReadyH.cons (by simp only [List.getElem?_toArray, List.getElem?_cons_zero, List.getElem?_cons_succ]; rfl) (fun K hK => ?_) AllReadyH.nil); all_goals ((go_simp; (first | ((with_reducible refine (P2.out _).mono ?_); rintro e w' ⟨rfl, rfl⟩) | ((with_reducible refine (PR.out _ _ (by first | (go_simp; done) | simp)).mono ?_); rintro e w1 ⟨g, gc, rfl, g1, g2, g3, g4, g5, g6, hb1⟩; (repeat (with_reducible (replace hb1 := Below.undrew hb1))); obtain ⟨hc1, hf1⟩ := bcell hb1; have hz1 := hb1.size; (repeat (first | rw [World.size_alloc] at hz1 | rw [World.size_drew] at hz1 | rw [World.size_setCell] at hz1)); (try have : b < w1.heap.size := by omega); (try have : b < w1.heap.size + 1 := by omega); (try have : b < w1.heap.size + 1 + 1 := by omega); (try have : b < w1.heap.size + 1 + 1 + 1 := by omega); (try have : wr.heap.size < w1.heap.size := by omega); (try have : wr.heap.size < w1.heap.size + 1 := by omega); (try have : wr.heap.size < w1.heap.size + 1 + 1 := by omega); (try have : wr.heap.size < w1.heap.size + 1 + 1 + 1 := by omega)) | skip)); (refine hK.out _ _ ?_ (fun hHeld => ?_)); (· ((try dsimp only); (first | (go_simp; done) | (simp [*, go_sem, World.cell?_alloc_past]; done) | (simp [*, go_sem, World.cell?_alloc_past, World.cell?_setCell_far]; done)))); (clear hK K; (try simp only [Act.put, List.setIfInBounds_toArray, List.set_cons_zero, List.set_cons_succ]))))
                | (refine wpAnyH_ready (rs := [6, 17]) (by decide +kernel) (by simp) (AllReadyH.cons (by simp only [List.getElem?_toArray, List.getElem?_cons_zero, List.getElem?_cons_succ]; rfl) (fun K hK => ?_) (AllReadyH.cons (by simp only [List.getElem?_toArray, List.getElem?_cons_zero, List.getElem?_cons_succ]; rfl) (fun K hK => ?_) AllReadyH.nil)); all_goals ((go_simp; (first | ((with_reducible refine (P2.out _).mono ?_); rintro e w' ⟨rfl, rfl⟩) | ((with_reducible refine (PR.out _ _ (by first | (go_simp; done) | simp)).mono ?_); rintro e w1 ⟨g, gc, rfl, g1, g2, g3, g4, g5, g6, hb1⟩; (repeat (with_reducible (replace hb1 := Below.undrew hb1))); obtain ⟨hc1, hf1⟩ := bcell hb1; have hz1 := hb1.size; (repeat (first | rw [World.size_alloc] at hz1 | rw [World.size_drew] at hz1 | rw [World.size_setCell] at hz1)); (try have : b < w1.heap.size := by omega); (try have : b < w1.heap.size + 1 := by omega); (try have : b < w1.heap.size + 1 + 1 := by omega); (try have : b < w1.heap.size + 1 + 1 + 1 := by omega); (try have : wr.heap.size < w1.heap.size := by omega); (try have : wr.heap.size < w1.heap.size + 1 := by omega); (try have : wr.heap.size < w1.heap.size + 1 + 1 := by omega); (try have : wr.heap.size < w1.heap.size + 1 + 1 + 1 := by omega)) | skip)); (refine hK.out _ _ ?_ (fun hHeld => ?_)); (· ((try dsimp only); (first | (go_simp; done) | (simp [*, go_sem, World.cell?_alloc_past]; done) | (simp [*, go_sem, World.cell?_alloc_past, World.cell?_setCell_far]; done)))); (clear hK K; (try simp only [Act.put, List.setIfInBounds_toArray, List.set_cons_zero, List.set_cons_succ]))))
                | (refine wpAnyH_ready (rs := [5]) (by decide +kernel) (by simp) (AllReadyH.cons (by simp only [List.getElem?_toArray, List.getElem?_cons_zero, List.getElem?_cons_succ]; rfl) (fun K hK => ?_) AllReadyH.nil); all_goals ((go_simp; (first | ((with_reducible refine (P2.out _).mono ?_); rintro e w' ⟨rfl, rfl⟩) | ((with_reducible refine (PR.out _ _ (by first | (go_simp; done) | simp)).mono ?_); rintro e w1 ⟨g, gc, rfl, g1, g2, g3, g4, g5, g6, hb1⟩; (repeat (with_reducible (replace hb1 := Below.undrew hb1))); obtain ⟨hc1, hf1⟩ := bcell hb1; have hz1 := hb1.size; (repeat (first | rw [World.size_alloc] at hz1 | rw [World.size_drew] at hz1 | rw [World.size_setCell] at hz1)); (try have : b < w1.heap.size := by omega); (try have : b < w1.heap.size + 1 := by omega); (try have : b < w1.heap.size + 1 + 1 := by omega); (try have : b < w1.heap.size + 1 + 1 + 1 := by omega); (try have : wr.heap.size < w1.heap.size := by omega); (try have : wr.heap.size < w1.heap.size + 1 := by omega); (try have : wr.heap.size < w1.heap.size + 1 + 1 := by omega); (try have : wr.heap.size < w1.heap.size + 1 + 1 + 1 := by omega)) | skip)); (refine hK.out _ _ ?_ (fun hHeld => ?_)); (· ((try dsimp only); (first | (go_simp; done) | (simp [*, go_sem, World.cell?_alloc_past]; done) | (simp [*, go_sem, World.cell?_alloc_past, World.cell?_setCell_far]; done)))); (clear hK K; (try simp only [Act.put, List.setIfInBounds_toArray, List.set_cons_zero, List.set_cons_succ]))))
                | (refine wpAnyH_ready (rs := [5, 17]) (by decide +kernel) (by simp) (AllReadyH.cons (by simp only [List.getElem?_toArray, List.getElem?_cons_zero, List.getElem?_cons_succ]; rfl) (fun K hK => ?_) (AllReadyH.cons (by simp only [List.getElem?_toArray, List.getElem?_cons_zero, List.getElem?_cons_succ]; rfl) (fun K hK => ?_) AllReadyH.nil)); all_goals ((go_simp; (first | ((with_reducible refine (P2.out _).mono ?_); rintro e w' ⟨rfl, rfl⟩) | ((with_reducible refine (PR.out _ _ (by first | (go_simp; done) | simp)).mono ?_); rintro e w1 ⟨g, gc, rfl, g1, g2, g3, g4, g5, g6, hb1⟩; (repeat (with_reducible (replace hb1 := Below.undrew hb1))); obtain ⟨hc1, hf1⟩ := bcell hb1; have hz1 := hb1.size; (repeat (first | rw [World.size_alloc] at hz1 | rw [World.size_drew] at hz1 | rw [World.size_setCell] at hz1)); (try have : b < w1.heap.size := by omega); (try have : b < w1.heap.size + 1 := by omega); (try have : b < w1.heap.size + 1 + 1 := by omega); (try have : b < w1.heap.size + 1 + 1 + 1 := by omega); (try have : wr.heap.size < w1.heap.size := by omega); (try have : wr.heap.size < w1.heap.size + 1 := by omega); (try have : wr.heap.size < w1.heap.size + 1 + 1 := by omega); (try have : wr.heap.size < w1.heap.size + 1 + 1 + 1 := by omega)) | skip)); (refine hK.out _ _ ?_ (fun hHeld => ?_)); (· ((try dsimp only); (first | (go_simp; done) | (simp [*, go_sem, World.cell?_alloc_past]; done) | (simp [*, go_sem, World.cell?_alloc_past, World.cell?_setCell_far]; done)))); (clear hK K; (try simp only [Act.put, List.setIfInBounds_toArray, List.set_cons_zero, List.set_cons_succ]))))
                | (refine wpAnyH_done (by decide +kernel) ?_ _)
                | fail)
              go_goals
              all_goals go_wp2_with fail
              all_goals go_meet
              all_goals refine Lib.hid ?_
              all_goals first
                | ((with_reducible refine MadeAct.new9 _ _ _ _ ?_ ?_); (· simp); (· (repeat' (first | (with_reducible exact Below.refl _ _) | (with_reducible assumption) | (with_reducible refine Below.alloc ?_ ?_ _) | (with_reducible refine Below.drew ?_) | (with_reducible refine Below.stepG ?_ (by assumption) ?_) | (with_reducible refine Below.setCell ?_ ?_ _) | omega | (dsimp only; omega) | (simp; done) | (simp; omega)))))
                | ((with_reducible refine MadeAct.put9 _ _ _ (Row9.mk1 ?_ ?_ hb1) ?_ ?_); (· simp); (· rfl); (· (repeat' (first | (with_reducible exact Below.refl _ _) | (with_reducible assumption) | (with_reducible refine Below.alloc ?_ ?_ _) | (with_reducible refine Below.drew ?_) | (with_reducible refine Below.stepG ?_ (by assumption) ?_) | (with_reducible refine Below.setCell ?_ ?_ _) | omega | (dsimp only; omega) | (simp; done) | (simp; omega)))); (· (first | omega | (simp; done) | (simp; omega))))
                | ((with_reducible refine MadeAct.put9 _ _ _ (Row9.mk2 ?_ ?_ hb1) ?_ ?_); (· simp); (· rfl); (· (repeat' (first | (with_reducible exact Below.refl _ _) | (with_reducible assumption) | (with_reducible refine Below.alloc ?_ ?_ _) | (with_reducible refine Below.drew ?_) | (with_reducible refine Below.stepG ?_ (by assumption) ?_) | (with_reducible refine Below.setCell ?_ ?_ _) | omega | (dsimp only; omega) | (simp; done) | (simp; omega)))); (· (first | omega | (simp; done) | (simp; omega))))
            --REST
            case rest =>
              obtain ⟨A, hA0, HA0, HAB0, hXA⟩ := hcut.out
              subst hA0
              clear hcut
              obtain ⟨d0, d1, d2⟩ := HD.out
              have d0w := (HAB0.cell (p := ⟨b, off + k * 3, none⟩) hbX).trans d0
              have hJB := HJC.out.below HAB0
              have HJ2 := Lib.hid hJB
              have HA := Lib.hid HA0
              have HAB := Lib.hid HAB0
              have hJA : J ≠ A := by omega
              have hAl := HA0.lt
              have hJl := hJB.lt
              have hXw := HAB0.size
              have hvp := pres_vp px
              generalize presN px = N at *
              generalize presK px = K at *
              have HV := Lib.hid hvp
              clear d0 d1 d2 HAB0 hJB hvp d0' d1' d2'
              have a0 := HA0.at_ 0 _ rfl
              have a1 := HA0.at_ 1 _ rfl
              have a2 := HA0.at_ 2 _ rfl
              have a3 := HA0.at_ 3 _ rfl
              have a4 := HA0.at_ 4 _ rfl
              have a5 := HA0.at_ 5 _ rfl
              have a6 := HA0.at_ 6 _ rfl
              have a7 := HA0.at_ 7 _ rfl
              have a8 := HA0.at_ 8 _ rfl
              have f0 := HA0.fz 0 (by decide)
              have f1 := HA0.fz 1 (by decide)
              have f2 := HA0.fz 2 (by decide)
              have f3 := HA0.fz 3 (by decide)
              have f4 := HA0.fz 4 (by decide)
              have f5 := HA0.fz 5 (by decide)
              have f6 := HA0.fz 6 (by decide)
              have f7 := HA0.fz 7 (by decide)
              have f8 := HA0.fz 8 (by decide)
              clear HA0
              obtain ⟨W, hW⟩ : ∃ W, W = wc := ⟨_, rfl⟩
              subst hW
              go_upto_if 59 with (first | ((with_reducible refine (P3.out _).mono ?_); rintro e w' ⟨rfl, rfl⟩))
              go_cut [] (fun wx => Hid (∃ q : ActD, AcC wx A q ∧ q.ok ∧ JC wx J ⟨false, actZ, 1 + pa⟩ ∧ Below wr.heap.size wr wx))
              case first =>
                have hJw := HJE.out
                by_cases hp1 : py = 0
                · subst hp1
                  go_wp2_with fail
                  change Met _ _ (setRow W A 0 (actCells ⟨2, N, K, 0, 0⟩))
                  obtain ⟨h1, h2⟩ := AcC.put ⟨2, N, K, 0, 0⟩ HA.out.row
                  go_meet
                  exact ⟨_, h1, ⟨HV.out, Nat.zero_le _, rfl, .inr rfl⟩, HJ2.out.chg h2 (fun x e => hJA e), (HXB.out.trans (HAB.out.mono (by omega))).trans (h2.below (by omega) (fun b x hb e => by omega))⟩
                · go_wp2_with fail
                  go_meet
                  exact ⟨_, HA.out, ⟨HV.out, by show 1 + pc ≤ 999; omega, rfl, .inl ⟨rfl, by show 1 ≤ 1 + pc; omega⟩⟩, HJ2.out, HXB.out.trans (HAB.out.mono (by omega))⟩
              case rest =>
                clear a0 a1 a2 a3 a4 a5 a6 a7 a8 f0 f1 f2 f3 f4 f5 f6 f7 f8 HA HJ2 HAB d0w
                obtain ⟨q, HA0, hok, HJ0, HB0⟩ := hcut.out
                clear hcut
                have HJ2 := Lib.hid HJ0
                have HB2 := Lib.hid HB0
                have HOK := Lib.hid hok
                have a0 := HA0.at_ 0 _ rfl
                have a1 := HA0.at_ 1 _ rfl
                have a2 := HA0.at_ 2 _ rfl
                have a3 := HA0.at_ 3 _ rfl
                have a4 := HA0.at_ 4 _ rfl
                have a5 := HA0.at_ 5 _ rfl
                have a6 := HA0.at_ 6 _ rfl
                have a7 := HA0.at_ 7 _ rfl
                have a8 := HA0.at_ 8 _ rfl
                have e0 := HJ0.at_ 0 _ rfl
                have e1 := HJ0.at_ 1 _ rfl
                have e2 := HJ0.at_ 2 _ rfl
                have e3 := HJ0.at_ 3 _ rfl
                have e4 := HJ0.at_ 4 _ rfl
                have e5 := HJ0.at_ 5 _ rfl
                have e6 := HJ0.at_ 6 _ rfl
                have e7 := HJ0.at_ 7 _ rfl
                have e8 := HJ0.at_ 8 _ rfl
                have e9 := HJ0.at_ 9 _ rfl
                have e10 := HJ0.at_ 10 _ rfl
                have f0 := HJ0.fz 0 (by decide)
                have f1 := HJ0.fz 1 (by decide)
                have f2 := HJ0.fz 2 (by decide)
                have f3 := HJ0.fz 3 (by decide)
                have f4 := HJ0.fz 4 (by decide)
                have f5 := HJ0.fz 5 (by decide)
                have f6 := HJ0.fz 6 (by decide)
                have f7 := HJ0.fz 7 (by decide)
                have f8 := HJ0.fz 8 (by decide)
                have f9 := HJ0.fz 9 (by decide)
                have f10 := HJ0.fz 10 (by decide)
                have hjl := HJ0.lt
                clear HA0 HJ0 HB0 hok
                obtain ⟨Y, hY⟩ : ∃ Y, Y = wc := ⟨_, rfl⟩
                subst hY
                go_wp2_with fail
                change Met _ _ (setRow Y J 0 (jobCells ⟨true, q, 0⟩))
                obtain ⟨h1, h2⟩ := JC.set HJ2.out ⟨true, q, 0⟩
                go_meet
                have hJw := HJE.out
                exact ⟨_, .inl ⟨rfl, HOK.out, rfl⟩, h1, HB2.out.trans (h2.below (by have := HB2.out.size; omega) (fun b x hb e => by omega))⟩
        case rest =>
          obtain ⟨q, hok, HJ0, HB0⟩ := hcut.out
          clear hcut
          have HJ2 := Lib.hid HJ0
          have HB2 := Lib.hid HB0
          have HOK := Lib.hid hok
          have e0 := HJ0.at_ 0 _ rfl
          have e1 := HJ0.at_ 1 _ rfl
          have e2 := HJ0.at_ 2 _ rfl
          have e3 := HJ0.at_ 3 _ rfl
          have e4 := HJ0.at_ 4 _ rfl
          have e5 := HJ0.at_ 5 _ rfl
          have e6 := HJ0.at_ 6 _ rfl
          have e7 := HJ0.at_ 7 _ rfl
          have e8 := HJ0.at_ 8 _ rfl
          have e9 := HJ0.at_ 9 _ rfl
          have e10 := HJ0.at_ 10 _ rfl
          have hzc := HB0.size
          clear HJ0 HB0 hok
          obtain ⟨Y, hY⟩ : ∃ Y, Y = wc := ⟨_, rfl⟩
          subst hY
          have hYB : Below Y.heap.size Y (Y.alloc (.cells (jobCells q).toArray 34)) := (Below.refl _ _).alloc (Nat.le_refl _) _
          have HO2 := Lib.hid ((HO.out.below HB2.out).below hYB)
          go_wp2_with (at_builtin; refine wpList_append_rows rfl _ _ 23 34 11 88 _ rfl eiJob w.heap.size _ (qs.map jobCells) rfl HO2.out _ [jobCells q] rfl (sl_new (c := jobCells q) (by simp) rfl) (by intro c hc; simp at hc; subst hc; exact jobCells_one q) (by have := HK.out; simp; omega) (by decide) (by simp; omega) (by simp) ?_; intro v' w5 hown' hgr hb5)
          have hown2 : Own w5 w.heap.size 34 11 v' ((qs ++ [q]).map jobCells) := by rw [List.map_append]; exact hown'
          have hB5 : Below w.heap.size w w5 := (HB.out.trans (((HB2.out.mono hzr)).trans (hYB.mono (by omega)))).trans (hb5.mono (Nat.le_refl _))
          have HO5 := Lib.hid hown2
          have HB5 := Lib.hid hB5
          clear hown' hgr hb5 hown2 hB5
          go_roundw
          case rel => exact ⟨k + 1, by omega, by omega, by go_num, ⟨qs ++ [q], by have := HK.out; show (qs ++ [q]).length = _; simp; omega, by
            intro x hx
            rcases List.mem_append.1 hx with hx | hx
            · exact HQ.out x hx
            · simp at hx; subst hx; exact HOK.out, HO5⟩, HB5⟩
          case measure => simp [intOf]; omega
      · have hd : decide ((k : Int) < n) = false := by simp; omega
        go_wp2
        go_returns
        exact ⟨_, qs, rfl, HO.out, HQ.out, by have := HK.out; omega, HB.out⟩
    · have hd : decide ((k : Int) < len) = false := by simp; omega
      go_wp2
      go_returns
      exact ⟨_, qs, rfl, HO.out, HQ.out, by have := HK.out; omega, HB.out⟩
end Go.Proofs.Ytoecmoicaklbaaa

/- The laws' play of jobs: queued. -/
set_option linter.unusedVariables false
namespace Wk
open Go Go.RowKit Go.Sort
theorem sl_many {W : World} {sz b n : Nat} {xs : List (List Value)} {cs : Array Value} {E : TypeId} (hb : b = W.heap.size) (hc : ∀ c ∈ xs, c.length = sz) (hcs : cs = xs.flatten.toArray) (hn : n = xs.length) (hm : n ≤ 1000) : Sl (W.alloc (.cells cs E)) sz (.slice (some ⟨b, 0, none⟩) n n) xs := by
  subst hb hcs hn
  refine ⟨hc, some ⟨W.heap.size, 0, none⟩, xs.length, rfl, Nat.le_refl _, by unfold maxLen; omega, fun _ => ⟨W.heap.size, 0, rfl, by simp, fun i c' hi j u hu => ?_⟩⟩
  have := flatten_at hc i c' hi j u hu
  simp only [Nat.zero_add, World.cell?_alloc_new]
  simpa using this
end Wk
namespace Go.Proofs.Ytoecmoicaklbaaa
open Go Go.RowKit Go.Sort Wc Wk

def oneJ : List JobD := [⟨true, ⟨1, 0, 0, 3, 0⟩, 0⟩, ⟨false, actZ, 1⟩]
theorem oneJ_ok : ∀ j ∈ oneJ, JobD.ok j := by
  intro j hj
  simp [oneJ] at hj
  rcases hj with rfl | rfl
  · refine .inl ⟨rfl, ⟨?_, by decide, rfl, .inl ⟨rfl, by decide⟩⟩, rfl⟩
    have := vp_cut (six := false) (n := 0) (k := 0) (by unfold Fits wd; simp) (by decide)
    simpa [cutN] using this
  · exact .inr ⟨rfl, rfl, by decide, by decide⟩
theorem oneJ_run : qrun [] oneJ = [⟨0, false, []⟩, ⟨0, false, [⟨1, 0, 0, 3, 0⟩]⟩] := by rfl
/-- What it hands back: all is told. -/
def RetQueued (w : World) (js : List JobD) (e : Ending) (w' : World) : Prop :=
  ∃ v vs, e = .returned (.tuple #[v, .bool true]) ∧ Dones w' w.heap.size v (qrun [] js) vs ∧ Below w.heap.size w w'
theorem Dones.shape {w : World} {B : Nat} {v : Value} {ds : List DoneD} {vs : List Value} (h : Dones w B v ds vs) : ∃ a cap, v = .slice a ds.length cap := by
  obtain ⟨a, cap, hv⟩ := h.own.shape
  refine ⟨a, cap, ?_⟩
  rw [hv, List.length_zipWith, h.len, Nat.min_self]


set_option maxRecDepth 100000 in
set_option maxHeartbeats 1000000 in
theorem queued_any (a : Option Addr) (cap : Nat) (js : List JobD) (w : World) (hs : Sl w 11 (.slice a js.length cap) (js.map jobCells)) (hl : js.length ≤ 100) (hok : ∀ j ∈ js, JobD.ok j) :
    Calls Try.prog 14 #[.slice a js.length cap] w (RetQueued w js) := by
  have HS := Lib.hid hs
  have HOK := Lib.hid hok
  clear hs hok
  go_enter Try.func14, Try.ntmps14
  go_wp2_with (at_builtin; refine stop_at ?_; intro G hG)
  rw [← hG.out]; clear hG G
  refine wpList_append_any rfl _ _ 23 34 11 88 _ rfl eiJob (w.heap.size) _ ((([] : List JobD)).map jobCells) rfl (Own.nil _ _ _ _) _ ((js).map jobCells) rfl (HS.out) (by intro c hc; obtain ⟨r, _, rfl⟩ := List.mem_map.1 hc; exact jobCells_one r) (by skip; first | omega | (simp; omega)) (by decide) (by first | omega | (simp; done) | (simp; omega)) ?_
  intro v1 w1 hown1 hb1
  rw [← List.map_append] at hown1
  obtain ⟨xs1, hxs1⟩ : ∃ x : List JobD, x = (([] : List JobD)) ++ (js) := ⟨_, rfl⟩
  rw [← hxs1] at hown1
  have hl1 : xs1.length = (([] : List JobD)).length + (js).length := by rw [hxs1, List.length_append]
  have HX1 := Lib.hid hxs1
  clear hxs1
  have HL1 := Lib.hid hl1
  clear hl1
  obtain ⟨a1, cap1, rfl⟩ := hown1.shape
  rw [List.length_map] at hown1 ⊢
  have HO1 := Lib.hid hown1
  clear hown1
  obtain ⟨hc1, hf1⟩ := bcellB hb1; have hz1 := hb1.size; (repeat (first | rw [World.size_alloc] at hz1 | rw [World.size_drew] at hz1 | rw [World.size_setCell] at hz1)); (try have : w.heap.size < w1.heap.size := by omega); (try have : w.heap.size < w1.heap.size + 1 := by omega); (try have : w.heap.size < w1.heap.size + 1 + 1 := by omega); (try have : w.heap.size < w1.heap.size + 1 + 1 + 1 := by omega)
  have hx := HX1.out
  rw [List.nil_append] at hx
  replace hx := hx.symm
  subst hx
  go_wp2_with fail
  refine (qplay_any _ _ js _ HO1.out.sl hl HOK.out).mono ?_
  rintro e w2 ⟨v, vs, rfl, HD, hb2⟩
  (repeat (with_reducible (replace hb2 := Below.undrew hb2))); obtain ⟨hc2, hf2⟩ := bcell hb2; have hz2 := hb2.size; (repeat (first | rw [World.size_alloc] at hz2 | rw [World.size_drew] at hz2 | rw [World.size_setCell] at hz2)); (try have : w.heap.size < w2.heap.size := by omega); (try have : w.heap.size < w2.heap.size + 1 := by omega); (try have : w.heap.size < w2.heap.size + 1 + 1 := by omega); (try have : w.heap.size < w2.heap.size + 1 + 1 + 1 := by omega); (try have : w1.heap.size < w2.heap.size := by omega); (try have : w1.heap.size < w2.heap.size + 1 := by omega); (try have : w1.heap.size < w2.heap.size + 1 + 1 := by omega); (try have : w1.heap.size < w2.heap.size + 1 + 1 + 1 := by omega)
  obtain ⟨va, vc, rfl⟩ := HD.shape
  have HD1 := Lib.hid HD
  have hlen : (qrun [] js).length = js.length := qrun_len _ _
  rw [hlen] at HD1 ⊢
  have HLE := Lib.hid hlen
  clear HD hlen
  go_wp2_with fail
  have HJ := Lib.hid (sl_many (W := w2) (sz := 11) (n := 2) (xs := oneJ.map jobCells) (cs := #[.int .i64 1, .int .i64 1, .bool false, .int .u64 0, .int .u64 0, .int .i64 0, .int .i64 3, .bool false, .int .u64 0, .int .u64 0, .int .i64 0, .int .i64 2, .int .i64 0, .bool false, .int .u64 0, .int .u64 0, .int .i64 0, .int .i64 0, .bool false, .int .u64 0, .int .u64 0, .int .i64 1]) (E := 34) rfl (by intro c hc; obtain ⟨j, _, rfl⟩ := List.mem_map.1 hc; rfl) rfl rfl (by decide))
  refine (qplay_any _ _ oneJ _ HJ.out (by decide) oneJ_ok).mono ?_
  rintro e w3 ⟨v2, vs2, rfl, HD2, hb3⟩
  (repeat (with_reducible (replace hb3 := Below.undrew hb3))); obtain ⟨hc3, hf3⟩ := bcell hb3; have hz3 := hb3.size; (repeat (first | rw [World.size_alloc] at hz3 | rw [World.size_drew] at hz3 | rw [World.size_setCell] at hz3)); (try have : w.heap.size < w3.heap.size := by omega); (try have : w.heap.size < w3.heap.size + 1 := by omega); (try have : w.heap.size < w3.heap.size + 1 + 1 := by omega); (try have : w.heap.size < w3.heap.size + 1 + 1 + 1 := by omega); (try have : w1.heap.size < w3.heap.size := by omega); (try have : w1.heap.size < w3.heap.size + 1 := by omega); (try have : w1.heap.size < w3.heap.size + 1 + 1 := by omega); (try have : w1.heap.size < w3.heap.size + 1 + 1 + 1 := by omega); (try have : w2.heap.size < w3.heap.size := by omega); (try have : w2.heap.size < w3.heap.size + 1 := by omega); (try have : w2.heap.size < w3.heap.size + 1 + 1 := by omega); (try have : w2.heap.size < w3.heap.size + 1 + 1 + 1 := by omega)
  clear HJ
  rw [oneJ_run] at HD2
  obtain ⟨ua, uc, rfl⟩ := HD2.shape
  have h2l := HD2.len
  obtain ⟨x0, x1, rfl⟩ : ∃ x0 x1, vs2 = [x0, x1] := by
    match vs2, h2l with
    | [x0, x1], _ => exact ⟨x0, x1, rfl⟩
  have ho := HD2.acts 1 _ _ rfl rfl
  obtain ⟨pa, pc, rfl⟩ := ho.shape
  obtain ⟨g, gc, hv, hg1, hg2, _, _, _, hcells⟩ := HD2.own.at (by simp)
  simp only [Value.slice.injEq] at hv
  obtain ⟨rfl, _, rfl⟩ := hv
  have c1 := hcells 1 _ rfl 2 _ rfl
  have hb23 : Below w1.heap.size w1 w3 := by (repeat' (first | (with_reducible exact Below.refl _ _) | (with_reducible assumption) | (with_reducible refine Below.al ?_ _) | (with_reducible refine Below.dr ?_) | (with_reducible refine Below.step ?_ (by assumption)) | (with_reducible refine Below.set ?_ ?_ _) | omega | (dsimp only; omega) | (simp; done) | (simp; omega)))
  have HD3 := Lib.hid (HD1.out.below ((((Below.refl _ _).alloc (Nat.le_refl _) _).trans (hb3.mono (by simp))) : Below w2.heap.size w2 w3))
  have hbf : Below w.heap.size w w3 := by (repeat' (first | (with_reducible exact Below.refl _ _) | (with_reducible assumption) | (with_reducible refine Below.al ?_ _) | (with_reducible refine Below.dr ?_) | (with_reducible refine Below.step ?_ (by assumption)) | (with_reducible refine Below.set ?_ ?_ _) | omega | (dsimp only; omega) | (simp; done) | (simp; omega)))
  have HF := Lib.hid hbf
  clear HD2 ho hcells h2l hb23 hbf hc1 hf1 hc2 hf2 hc3 hf3
  go_wp2_with fail
  go_quiet (fail)
  go_wp2
  go_returns
  exact ⟨_, vs, rfl, (HD3.out.below (below_drewN (Below.refl _ _) _)).base hz1, HF.out.trans (below_drewN (Below.refl _ _) _)⟩
end Go.Proofs.Ytoecmoicaklbaaa
