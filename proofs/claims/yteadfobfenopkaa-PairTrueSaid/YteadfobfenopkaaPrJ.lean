
/- The laws' makers: Asks, Picks. -/
import Derived.Test.YteadfobfenopkaaPrI
import Derived.Test.YteadfobfenopkaaQ6
import Derived.Test.YteadfobfenopkaaMkA
import Derived.Deep.DeepCutAuto
set_option linter.unusedVariables false
set_option linter.unusedSimpArgs false
namespace Go.Proofs.Yteadfobfenopkaa
open Go Go.RowKit Go.Sort Wc Wk

theorem eiAsk : EI Try.prog 72 79 14 112 (.agg #[.int .i64 0, .int .i64 0, .bool false, .int .u64 0, .int .u64 0, .int .i64 0, .bool false, .int .u64 0, .int .u64 0, .int .i64 0, .int .i64 0, .bool false, .int .u64 0, .int .u64 0]) := ⟨by kernel_rfl, by kernel_rfl, rfl, by decide⟩
structure KC (w : World) (b : Nat) (q : AskD) : Prop where
  lt : b < w.heap.size
  at_ : ∀ j u, (askCells q)[j]? = some u → w.cell? ⟨b, j, none⟩ = some u
  fz : ∀ o, o < 14 → w.frozen? ⟨b, o, none⟩ = false
theorem KC.below {w w' : World} {b : Nat} {q : AskD} (h : KC w b q) {B : Nat} (hb : Below B w w') (hB : b < B) : KC w' b q :=
  ⟨Nat.lt_of_lt_of_le h.lt hb.size, fun j u hu => (hb.cell (p := ⟨b, j, none⟩) hB).trans (h.at_ j u hu), fun o ho => (hb.frozen (p := ⟨b, o, none⟩) hB).trans (h.fz o ho)⟩
theorem askCells_len (q : AskD) : (askCells q).length = 14 := rfl
theorem KC.new (w : World) (q : AskD) (E : TypeId) : KC (w.alloc (.cells (askCells q).toArray E)) w.heap.size q :=
  ⟨by simp, fun j u hu => by rw [World.cell?_alloc_new]; simpa using hu, fun o ho => by simp⟩
/-- Fourteen cells that are there. -/
structure Row14 (w : World) (A : Nat) : Prop where
  lt : A < w.heap.size
  ex : ∀ o, o < 14 → ∃ u, w.cell? ⟨A, o, none⟩ = some u
  fz : ∀ o, o < 14 → w.frozen? ⟨A, o, none⟩ = false
theorem Row14.new (w : World) (cs : Array Value) (E : TypeId) (hs : cs.size = 14) : Row14 (w.alloc (.cells cs E)) w.heap.size :=
  ⟨by simp, fun o ho => ⟨cs[o]'(by omega), by rw [World.cell?_alloc_new]; exact Array.getElem?_eq_getElem _⟩, fun o ho => by simp⟩
theorem Row14.below {w w' : World} {A : Nat} (h : Row14 w A) {B : Nat} (hb : Below B w w') (hB : A < B) : Row14 w' A :=
  ⟨Nat.lt_of_lt_of_le h.lt hb.size, fun o ho => by obtain ⟨u, hu⟩ := h.ex o ho; exact ⟨u, (hb.cell (p := ⟨A, o, none⟩) hB).trans hu⟩, fun o ho => (hb.frozen (p := ⟨A, o, none⟩) hB).trans (h.fz o ho)⟩
theorem KC.row {w : World} {A : Nat} {y : AskD} (h : KC w A y) : Row14 w A :=
  ⟨h.lt, fun o ho => ⟨_, h.at_ o _ (List.getElem?_eq_getElem (by rw [askCells_len]; exact ho))⟩, h.fz⟩
theorem KC.set {w : World} {A : Nat} (h : Row14 w A) (y : AskD) : KC (setRow w A 0 (askCells y)) A y ∧ Chg w (setRow w A 0 (askCells y)) (fun k _ => k = A) := by
  obtain ⟨c, v⟩ := setRow_chg A (askCells y) 0 w h.lt (fun j hj => by
    rw [askCells_len] at hj
    rw [Nat.zero_add]
    exact h.ex j hj)
  refine ⟨⟨Nat.lt_of_lt_of_le h.lt c.size, fun j u hu => ?_, fun o ho => (c.froz A o h.lt).trans (h.fz o ho)⟩, c.mono (fun k x h => h.1)⟩
  have := v j u hu
  rwa [Nat.zero_add] at this
theorem KC.chg {w w' : World} {A : Nat} {q : AskD} {F : Nat → Nat → Prop} (h : KC w A q) (c : Chg w w' F) (hF : ∀ x, ¬ F A x) : KC w' A q :=
  ⟨Nat.lt_of_lt_of_le h.lt c.size, fun j u hu => (c.cell A j h.lt (hF j)).trans (h.at_ j u hu), fun o ho => (c.froz A o h.lt).trans (h.fz o ho)⟩
/-- What Asks hands back: asks that may be, in a slice of its own. -/
def RetAsks (w : World) (n : Nat) (e : Ending) (w' : World) : Prop :=
  ∃ (v : Value) (qs : List AskD), e = .returned v ∧ Wk.Own w' w.heap.size 79 14 v (qs.map askCells) ∧ (∀ q ∈ qs, AskD.ok q) ∧ qs.length ≤ n ∧ Below w.heap.size w w'
def MadeAsk (X : World) (n ad : Nat) (v : Value) (wx : World) : Prop := ∃ J, v = .pointer (some ⟨J, 0, none⟩) ∧ KC wx J ⟨true, n, ad, actZ⟩ ∧ Below X.heap.size X wx ∧ X.heap.size ≤ J
theorem MadeAsk.put {X w : World} {A : Nat} (n ad : Nat) (h : Row14 w A) (hb : Below X.heap.size X w) (hA : X.heap.size ≤ A) : MadeAsk X n ad (.pointer (some ⟨A, 0, none⟩)) (setRow w A 0 (askCells ⟨true, n, ad, actZ⟩)) := by
  obtain ⟨h1, h2⟩ := KC.set h ⟨true, n, ad, actZ⟩
  exact ⟨_, rfl, h1, hb.trans (h2.below hb.size (fun b x hb' e => by omega)), hA⟩
theorem MadeAsk.new14 {X w : World} {A : Nat} (n ad : Nat) (E : TypeId) (hA : A = w.heap.size) (hb : Below X.heap.size X w) :
    MadeAsk X n ad (.pointer (some ⟨A, 0, none⟩)) (w.alloc (.cells #[.int .i64 1, .int .i64 n, .bool false, .int .u64 (hiOf false ad), .int .u64 (loOf ad), .int .i64 0, .bool false, .int .u64 0, .int .u64 0, .int .i64 0, .int .i64 0, .bool false, .int .u64 0, .int .u64 0] E)) := by
  subst hA
  exact ⟨_, rfl, KC.new w ⟨true, n, ad, actZ⟩ E, hb.alloc (by have := hb.size; omega) _, hb.size⟩
theorem MadeAsk.put14 {X w : World} {A : Nat} (n ad : Nat) (hr : Row14 w A) (hb : Below X.heap.size X w) (hA : X.heap.size ≤ A) :
    MadeAsk X n ad (.pointer (some ⟨A, 0, none⟩)) ((((((((((((((w.setCell ⟨A, 0, none⟩ (.int .i64 1)).setCell ⟨A, 1, none⟩ (.int .i64 n)).setCell ⟨A, 2, none⟩ (.bool false)).setCell ⟨A, 3, none⟩ (.int .u64 (hiOf false ad))).setCell ⟨A, 4, none⟩ (.int .u64 (loOf ad))).setCell ⟨A, 5, none⟩ (.int .i64 0)).setCell ⟨A, 6, none⟩ (.bool false)).setCell ⟨A, 7, none⟩ (.int .u64 0)).setCell ⟨A, 8, none⟩ (.int .u64 0)).setCell ⟨A, 9, none⟩ (.int .i64 0)).setCell ⟨A, 10, none⟩ (.int .i64 0)).setCell ⟨A, 11, none⟩ (.bool false)).setCell ⟨A, 12, none⟩ (.int .u64 0)).setCell ⟨A, 13, none⟩ (.int .u64 0)) :=
  MadeAsk.put n ad hr hb hA
theorem Row14.mk1 {w w1 : World} {cs : Array Value} {E : TypeId} {A : Nat} (hA : A = w.heap.size) (hs : cs.size = 14) (hb : Below (w.alloc (.cells cs E)).heap.size (w.alloc (.cells cs E)) w1) : Row14 w1 A := by
  subst hA
  exact (Row14.new w cs E hs).below hb (by simp)


set_option maxRecDepth 100000 in
set_option maxHeartbeats 6000000 in
theorem asks_any (a : Option Addr) (len cap : Nat) (js : List RawJ) (n : Nat) (w : World) (h : IsJobs w a len cap js) (hn : n ≤ 1000) :
    Calls Try.prog 33 #[.slice a len cap, .int .i64 n] w (RetAsks w n) := by
  have hlm := h.le
  have hlc := h.2.1.lens.2.1
  have HJ := Lib.hid h
  clear h
  go_enter Try.func33, Try.ntmps33
  go_wp2_with fail
  go_loopw [5, 6] (fun v i wr => ∃ k : Nat, k ≤ len ∧ k ≤ n ∧ i = .int .i64 k ∧ (∃ qs : List AskD, Hid (qs.length = k) ∧ Hid (∀ q ∈ qs, AskD.ok q) ∧ Hid (Wk.Own wr w.heap.size 79 14 v (qs.map askCells))) ∧ Hid (Below w.heap.size w wr)) (fun _ i _ => len - (intOf i).toNat)
  case atStart => exact ⟨0, Nat.zero_le _, Nat.zero_le _, rfl, ⟨[], rfl, fun q h => (by cases h), Wk.Own.nil _ _ _ _⟩, Below.refl _ _⟩
  case round =>
    obtain ⟨k, hk, hkn, rfl, ⟨qs, HK, HQ, HO⟩, HB⟩ := hrel
    have hzr := HB.out.size
    by_cases hlt : k < len
    · by_cases hlt2 : k < n
      · obtain ⟨b, off, r, hr, rfl, hb, d0, d1, d2, x0, x1, x2⟩ := HJ.out.opened HB.out hlt
        obtain ⟨kx, px, hx⟩ := r
        have hbr : b < wr.heap.size := by omega
        dsimp only at d0 d1 d2 x0 x1 x2
        have P0 := Lib.hid (fun w => picked_any hx 4 w (by decide) (by decide))
        have P1 := Lib.hid (fun w => picked_any kx 2 w (by decide) (by decide))
        have P2 := Lib.hid (fun w => picked_any hx 5 w (by decide) (by decide))
        have P3 := Lib.hid (fun w => picked_any (wrap64 (kx.tdiv 2)) 4 w (by decide) (by decide))
        have NR := Lib.hid (fun w => nearA_any px w)
        have NF := Lib.hid (nearA_fits px)
        have a0 := Int.emod_nonneg hx (show (4 : Int) ≠ 0 by decide)
        have a1 := Int.emod_lt_of_pos hx (show (0 : Int) < 4 by decide)
        have c0 := Int.emod_nonneg hx (show (5 : Int) ≠ 0 by decide)
        have c1 := Int.emod_lt_of_pos hx (show (0 : Int) < 5 by decide)
        obtain ⟨pa, ha⟩ := Int.eq_ofNat_of_zero_le a0
        obtain ⟨pc, hpc⟩ := Int.eq_ofNat_of_zero_le c0
        rw [ha] at P0 a1
        rw [hpc] at P2 c1
        generalize kx % 2 = pb at P1
        generalize wrap64 (kx.tdiv 2) % 4 = py at P3
        generalize nearA px = ad at NR NF
        clear ha hpc a0 c0 hr
        have HPA := Lib.hid a1
        have HPC := Lib.hid c1
        go_upto_region 5 with fail
        have HD := Lib.hid (⟨d0, d1, d2⟩ : wr.cell? ⟨b, off + k * 3, none⟩ = some (.int .i64 kx) ∧ wr.cell? ⟨b, off + k * 3 + 1, none⟩ = some (.int .i64 px) ∧ wr.cell? ⟨b, off + k * 3 + 2, none⟩ = some (.int .i64 hx))
        go_cut [7] (fun v wx => Hid (MadeAsk wr pa ad v wx))
        case first =>
          refine wp_region_held_drew (S := (fun w' => w'.cell? ⟨b, off + k * 3 + 1, none⟩ = some (.int .i64 px) ∧ w'.cell? ⟨b, off + k * 3 + 2, none⟩ = some (.int .i64 hx))) (by kernel_rfl) ?_ (fun hHeld => ?_)
          · ((try dsimp only); (first | (go_simp; done) | (simp [*, go_sem, World.cell?_alloc_past]; done) | (simp [*, go_sem, World.cell?_alloc_past, World.cell?_setCell_far]; done)))
          (refine wpAnyH_take (i := 0) (oi := _) (v := ?_) (by simp only [List.getElem?_toArray, List.getElem?_cons_zero, List.getElem?_cons_succ]; rfl) (by kernel_rfl) (by decide +kernel) (by decide +kernel) (by exact fun _ _ _ h => h) (Or.inl ⟨by rfl, ?_⟩) (by assumption) ?_; rotate_left; (· ((intro w hSw); (try dsimp only at hSw); go_simp; (try with_reducible rfl))); (try simp only [Act.put, List.setIfInBounds_toArray, List.set_cons_zero, List.set_cons_succ]))
          (refine wpAnyH_take (i := 1) (oi := _) (v := ?_) (by simp only [List.getElem?_toArray, List.getElem?_cons_zero, List.getElem?_cons_succ]; rfl) (by kernel_rfl) (by decide +kernel) (by decide +kernel) (by exact fun _ _ _ h => h) (Or.inl ⟨by rfl, ?_⟩) (by assumption) ?_; rotate_left; (· ((intro w hSw); (try dsimp only at hSw); go_simp; (try with_reducible rfl))); (try simp only [Act.put, List.setIfInBounds_toArray, List.set_cons_zero, List.set_cons_succ]))
          (refine wpAnyH_take (i := 2) (oi := _) (v := ?_) (by simp only [List.getElem?_toArray, List.getElem?_cons_zero, List.getElem?_cons_succ]; rfl) (by kernel_rfl) (by decide +kernel) (by decide +kernel) (by exact fun _ _ _ h => h) (Or.inl ⟨by rfl, ?_⟩) (by assumption) ?_; rotate_left; (· ((intro w hSw); (try dsimp only at hSw); go_simp; (try with_reducible rfl))); (try simp only [Act.put, List.setIfInBounds_toArray, List.set_cons_zero, List.set_cons_succ]))
          (refine wpAnyH_take (i := 3) (oi := _) (v := ?_) (by simp only [List.getElem?_toArray, List.getElem?_cons_zero, List.getElem?_cons_succ]; rfl) (by kernel_rfl) (by decide +kernel) (by decide +kernel) (by exact fun _ _ _ h => h) (Or.inl ⟨by rfl, ?_⟩) (by assumption) ?_; rotate_left; (· ((intro w hSw); (try dsimp only at hSw); go_simp; (try with_reducible rfl))); (try simp only [Act.put, List.setIfInBounds_toArray, List.set_cons_zero, List.set_cons_succ]))
          (refine wpAnyH_take (i := 4) (oi := _) (v := ?_) (by simp only [List.getElem?_toArray, List.getElem?_cons_zero, List.getElem?_cons_succ]; rfl) (by kernel_rfl) (by decide +kernel) (by decide +kernel) (by exact fun _ _ _ h => h) (Or.inl ⟨by rfl, ?_⟩) (by assumption) ?_; rotate_left; (· ((intro w hSw); (try dsimp only at hSw); go_simp; (try with_reducible rfl))); (try simp only [Act.put, List.setIfInBounds_toArray, List.set_cons_zero, List.set_cons_succ]))
          (refine wpAnyH_take (i := 6) (oi := _) (v := ?_) (by simp only [List.getElem?_toArray, List.getElem?_cons_zero, List.getElem?_cons_succ]; rfl) (by kernel_rfl) (by decide +kernel) (by decide +kernel) (by exact fun _ _ _ h => h) (Or.inl ⟨by rfl, ?_⟩) (by assumption) ?_; rotate_left; (· ((intro w hSw); (try dsimp only at hSw); go_simp; (try with_reducible rfl))); (try simp only [Act.put, List.setIfInBounds_toArray, List.set_cons_zero, List.set_cons_succ]))
          (refine wpAnyH_take (i := 7) (oi := _) (v := ?_) (by simp only [List.getElem?_toArray, List.getElem?_cons_zero, List.getElem?_cons_succ]; rfl) (by kernel_rfl) (by decide +kernel) (by decide +kernel) (by exact fun _ _ _ h => h) (Or.inl ⟨by rfl, ?_⟩) (by assumption) ?_; rotate_left; (· ((intro w hSw); (try dsimp only at hSw); go_simp; (try with_reducible rfl))); (try simp only [Act.put, List.setIfInBounds_toArray, List.set_cons_zero, List.set_cons_succ]))
          (refine wpAnyH_take (i := 8) (oi := _) (v := ?_) (by simp only [List.getElem?_toArray, List.getElem?_cons_zero, List.getElem?_cons_succ]; rfl) (by kernel_rfl) (by decide +kernel) (by decide +kernel) (by exact fun _ _ _ h => h) (Or.inl ⟨by rfl, ?_⟩) (by assumption) ?_; rotate_left; (· ((intro w hSw); (try dsimp only at hSw); go_simp; (try with_reducible rfl))); (try simp only [Act.put, List.setIfInBounds_toArray, List.set_cons_zero, List.set_cons_succ]))
          (refine wpAnyH_take (i := 9) (oi := _) (v := ?_) (by simp only [List.getElem?_toArray, List.getElem?_cons_zero, List.getElem?_cons_succ]; rfl) (by kernel_rfl) (by decide +kernel) (by decide +kernel) (by exact fun _ _ _ h => h) (Or.inl ⟨by rfl, ?_⟩) (by assumption) ?_; rotate_left; (· ((intro w hSw); (try dsimp only at hSw); go_simp; (try with_reducible rfl))); (try simp only [Act.put, List.setIfInBounds_toArray, List.set_cons_zero, List.set_cons_succ]))
          (refine wpAnyH_take (i := 10) (oi := _) (v := ?_) (by simp only [List.getElem?_toArray, List.getElem?_cons_zero, List.getElem?_cons_succ]; rfl) (by kernel_rfl) (by decide +kernel) (by decide +kernel) (by exact fun _ _ _ h => h) (Or.inl ⟨by rfl, ?_⟩) (by assumption) ?_; rotate_left; (· ((intro w hSw); (try dsimp only at hSw); go_simp; (try with_reducible rfl))); (try simp only [Act.put, List.setIfInBounds_toArray, List.set_cons_zero, List.set_cons_succ]))
          repeat' (first
            | (refine wpAnyH_take (i := 12) (oi := _) (v := ?_) (by simp only [List.getElem?_toArray, List.getElem?_cons_zero, List.getElem?_cons_succ]; rfl) (by kernel_rfl) (by decide +kernel) (by decide +kernel) (by exact fun _ _ _ h => h) (Or.inl ⟨by rfl, ?_⟩) (by assumption) ?_; rotate_left; (· ((intro w hSw); (try dsimp only at hSw); go_simp; (try with_reducible rfl))); (try simp only [Act.put, List.setIfInBounds_toArray, List.set_cons_zero, List.set_cons_succ]))
            | (refine wpAnyH_ready (rs := [5, 11, 13]) (by decide +kernel) (by simp) (AllReadyH.cons (by simp only [List.getElem?_toArray, List.getElem?_cons_zero, List.getElem?_cons_succ]; rfl) (fun K hK => ?_) (AllReadyH.cons (by simp only [List.getElem?_toArray, List.getElem?_cons_zero, List.getElem?_cons_succ]; rfl) (fun K hK => ?_) (AllReadyH.cons (by simp only [List.getElem?_toArray, List.getElem?_cons_zero, List.getElem?_cons_succ]; rfl) (fun K hK => ?_) AllReadyH.nil))); all_goals ((go_simp; (first | ((with_reducible refine (P0.out _).mono ?_); rintro e w' ⟨rfl, rfl⟩) | ((with_reducible refine (NR.out _).mono ?_); rintro e w1 ⟨rfl, hb1⟩; (repeat (with_reducible (replace hb1 := Below.undrew hb1))); obtain ⟨hc1, hf1⟩ := bcell hb1; have hz1 := hb1.size; (repeat (first | rw [World.size_alloc] at hz1 | rw [World.size_drew] at hz1 | rw [World.size_setCell] at hz1)); (try have : b < w1.heap.size := by omega); (try have : b < w1.heap.size + 1 := by omega); (try have : b < w1.heap.size + 1 + 1 := by omega); (try have : b < w1.heap.size + 1 + 1 + 1 := by omega); (try have : wr.heap.size < w1.heap.size := by omega); (try have : wr.heap.size < w1.heap.size + 1 := by omega); (try have : wr.heap.size < w1.heap.size + 1 + 1 := by omega); (try have : wr.heap.size < w1.heap.size + 1 + 1 + 1 := by omega)) | skip)); (refine hK.out _ _ ?_ (fun hHeld => ?_)); (· ((try dsimp only); (first | (go_simp; done) | (simp [*, go_sem, World.cell?_alloc_past]; done) | (simp [*, go_sem, World.cell?_alloc_past, World.cell?_setCell_far]; done)))); (clear hK K; (try simp only [Act.put, List.setIfInBounds_toArray, List.set_cons_zero, List.set_cons_succ]))))
            | (refine wpAnyH_ready (rs := [5, 11]) (by decide +kernel) (by simp) (AllReadyH.cons (by simp only [List.getElem?_toArray, List.getElem?_cons_zero, List.getElem?_cons_succ]; rfl) (fun K hK => ?_) (AllReadyH.cons (by simp only [List.getElem?_toArray, List.getElem?_cons_zero, List.getElem?_cons_succ]; rfl) (fun K hK => ?_) AllReadyH.nil)); all_goals ((go_simp; (first | ((with_reducible refine (P0.out _).mono ?_); rintro e w' ⟨rfl, rfl⟩) | ((with_reducible refine (NR.out _).mono ?_); rintro e w1 ⟨rfl, hb1⟩; (repeat (with_reducible (replace hb1 := Below.undrew hb1))); obtain ⟨hc1, hf1⟩ := bcell hb1; have hz1 := hb1.size; (repeat (first | rw [World.size_alloc] at hz1 | rw [World.size_drew] at hz1 | rw [World.size_setCell] at hz1)); (try have : b < w1.heap.size := by omega); (try have : b < w1.heap.size + 1 := by omega); (try have : b < w1.heap.size + 1 + 1 := by omega); (try have : b < w1.heap.size + 1 + 1 + 1 := by omega); (try have : wr.heap.size < w1.heap.size := by omega); (try have : wr.heap.size < w1.heap.size + 1 := by omega); (try have : wr.heap.size < w1.heap.size + 1 + 1 := by omega); (try have : wr.heap.size < w1.heap.size + 1 + 1 + 1 := by omega)) | skip)); (refine hK.out _ _ ?_ (fun hHeld => ?_)); (· ((try dsimp only); (first | (go_simp; done) | (simp [*, go_sem, World.cell?_alloc_past]; done) | (simp [*, go_sem, World.cell?_alloc_past, World.cell?_setCell_far]; done)))); (clear hK K; (try simp only [Act.put, List.setIfInBounds_toArray, List.set_cons_zero, List.set_cons_succ]))))
            | (refine wpAnyH_ready (rs := [5, 13]) (by decide +kernel) (by simp) (AllReadyH.cons (by simp only [List.getElem?_toArray, List.getElem?_cons_zero, List.getElem?_cons_succ]; rfl) (fun K hK => ?_) (AllReadyH.cons (by simp only [List.getElem?_toArray, List.getElem?_cons_zero, List.getElem?_cons_succ]; rfl) (fun K hK => ?_) AllReadyH.nil)); all_goals ((go_simp; (first | ((with_reducible refine (P0.out _).mono ?_); rintro e w' ⟨rfl, rfl⟩) | ((with_reducible refine (NR.out _).mono ?_); rintro e w1 ⟨rfl, hb1⟩; (repeat (with_reducible (replace hb1 := Below.undrew hb1))); obtain ⟨hc1, hf1⟩ := bcell hb1; have hz1 := hb1.size; (repeat (first | rw [World.size_alloc] at hz1 | rw [World.size_drew] at hz1 | rw [World.size_setCell] at hz1)); (try have : b < w1.heap.size := by omega); (try have : b < w1.heap.size + 1 := by omega); (try have : b < w1.heap.size + 1 + 1 := by omega); (try have : b < w1.heap.size + 1 + 1 + 1 := by omega); (try have : wr.heap.size < w1.heap.size := by omega); (try have : wr.heap.size < w1.heap.size + 1 := by omega); (try have : wr.heap.size < w1.heap.size + 1 + 1 := by omega); (try have : wr.heap.size < w1.heap.size + 1 + 1 + 1 := by omega)) | skip)); (refine hK.out _ _ ?_ (fun hHeld => ?_)); (· ((try dsimp only); (first | (go_simp; done) | (simp [*, go_sem, World.cell?_alloc_past]; done) | (simp [*, go_sem, World.cell?_alloc_past, World.cell?_setCell_far]; done)))); (clear hK K; (try simp only [Act.put, List.setIfInBounds_toArray, List.set_cons_zero, List.set_cons_succ]))))
            | (refine wpAnyH_ready (rs := [11, 13]) (by decide +kernel) (by simp) (AllReadyH.cons (by simp only [List.getElem?_toArray, List.getElem?_cons_zero, List.getElem?_cons_succ]; rfl) (fun K hK => ?_) (AllReadyH.cons (by simp only [List.getElem?_toArray, List.getElem?_cons_zero, List.getElem?_cons_succ]; rfl) (fun K hK => ?_) AllReadyH.nil)); all_goals ((go_simp; (first | ((with_reducible refine (P0.out _).mono ?_); rintro e w' ⟨rfl, rfl⟩) | ((with_reducible refine (NR.out _).mono ?_); rintro e w1 ⟨rfl, hb1⟩; (repeat (with_reducible (replace hb1 := Below.undrew hb1))); obtain ⟨hc1, hf1⟩ := bcell hb1; have hz1 := hb1.size; (repeat (first | rw [World.size_alloc] at hz1 | rw [World.size_drew] at hz1 | rw [World.size_setCell] at hz1)); (try have : b < w1.heap.size := by omega); (try have : b < w1.heap.size + 1 := by omega); (try have : b < w1.heap.size + 1 + 1 := by omega); (try have : b < w1.heap.size + 1 + 1 + 1 := by omega); (try have : wr.heap.size < w1.heap.size := by omega); (try have : wr.heap.size < w1.heap.size + 1 := by omega); (try have : wr.heap.size < w1.heap.size + 1 + 1 := by omega); (try have : wr.heap.size < w1.heap.size + 1 + 1 + 1 := by omega)) | skip)); (refine hK.out _ _ ?_ (fun hHeld => ?_)); (· ((try dsimp only); (first | (go_simp; done) | (simp [*, go_sem, World.cell?_alloc_past]; done) | (simp [*, go_sem, World.cell?_alloc_past, World.cell?_setCell_far]; done)))); (clear hK K; (try simp only [Act.put, List.setIfInBounds_toArray, List.set_cons_zero, List.set_cons_succ]))))
            | (refine wpAnyH_ready (rs := [5]) (by decide +kernel) (by simp) (AllReadyH.cons (by simp only [List.getElem?_toArray, List.getElem?_cons_zero, List.getElem?_cons_succ]; rfl) (fun K hK => ?_) AllReadyH.nil); all_goals ((go_simp; (first | ((with_reducible refine (P0.out _).mono ?_); rintro e w' ⟨rfl, rfl⟩) | ((with_reducible refine (NR.out _).mono ?_); rintro e w1 ⟨rfl, hb1⟩; (repeat (with_reducible (replace hb1 := Below.undrew hb1))); obtain ⟨hc1, hf1⟩ := bcell hb1; have hz1 := hb1.size; (repeat (first | rw [World.size_alloc] at hz1 | rw [World.size_drew] at hz1 | rw [World.size_setCell] at hz1)); (try have : b < w1.heap.size := by omega); (try have : b < w1.heap.size + 1 := by omega); (try have : b < w1.heap.size + 1 + 1 := by omega); (try have : b < w1.heap.size + 1 + 1 + 1 := by omega); (try have : wr.heap.size < w1.heap.size := by omega); (try have : wr.heap.size < w1.heap.size + 1 := by omega); (try have : wr.heap.size < w1.heap.size + 1 + 1 := by omega); (try have : wr.heap.size < w1.heap.size + 1 + 1 + 1 := by omega)) | skip)); (refine hK.out _ _ ?_ (fun hHeld => ?_)); (· ((try dsimp only); (first | (go_simp; done) | (simp [*, go_sem, World.cell?_alloc_past]; done) | (simp [*, go_sem, World.cell?_alloc_past, World.cell?_setCell_far]; done)))); (clear hK K; (try simp only [Act.put, List.setIfInBounds_toArray, List.set_cons_zero, List.set_cons_succ]))))
            | (refine wpAnyH_ready (rs := [11]) (by decide +kernel) (by simp) (AllReadyH.cons (by simp only [List.getElem?_toArray, List.getElem?_cons_zero, List.getElem?_cons_succ]; rfl) (fun K hK => ?_) AllReadyH.nil); all_goals ((go_simp; (first | ((with_reducible refine (P0.out _).mono ?_); rintro e w' ⟨rfl, rfl⟩) | ((with_reducible refine (NR.out _).mono ?_); rintro e w1 ⟨rfl, hb1⟩; (repeat (with_reducible (replace hb1 := Below.undrew hb1))); obtain ⟨hc1, hf1⟩ := bcell hb1; have hz1 := hb1.size; (repeat (first | rw [World.size_alloc] at hz1 | rw [World.size_drew] at hz1 | rw [World.size_setCell] at hz1)); (try have : b < w1.heap.size := by omega); (try have : b < w1.heap.size + 1 := by omega); (try have : b < w1.heap.size + 1 + 1 := by omega); (try have : b < w1.heap.size + 1 + 1 + 1 := by omega); (try have : wr.heap.size < w1.heap.size := by omega); (try have : wr.heap.size < w1.heap.size + 1 := by omega); (try have : wr.heap.size < w1.heap.size + 1 + 1 := by omega); (try have : wr.heap.size < w1.heap.size + 1 + 1 + 1 := by omega)) | skip)); (refine hK.out _ _ ?_ (fun hHeld => ?_)); (· ((try dsimp only); (first | (go_simp; done) | (simp [*, go_sem, World.cell?_alloc_past]; done) | (simp [*, go_sem, World.cell?_alloc_past, World.cell?_setCell_far]; done)))); (clear hK K; (try simp only [Act.put, List.setIfInBounds_toArray, List.set_cons_zero, List.set_cons_succ]))))
            | (refine wpAnyH_ready (rs := [13]) (by decide +kernel) (by simp) (AllReadyH.cons (by simp only [List.getElem?_toArray, List.getElem?_cons_zero, List.getElem?_cons_succ]; rfl) (fun K hK => ?_) AllReadyH.nil); all_goals ((go_simp; (first | ((with_reducible refine (P0.out _).mono ?_); rintro e w' ⟨rfl, rfl⟩) | ((with_reducible refine (NR.out _).mono ?_); rintro e w1 ⟨rfl, hb1⟩; (repeat (with_reducible (replace hb1 := Below.undrew hb1))); obtain ⟨hc1, hf1⟩ := bcell hb1; have hz1 := hb1.size; (repeat (first | rw [World.size_alloc] at hz1 | rw [World.size_drew] at hz1 | rw [World.size_setCell] at hz1)); (try have : b < w1.heap.size := by omega); (try have : b < w1.heap.size + 1 := by omega); (try have : b < w1.heap.size + 1 + 1 := by omega); (try have : b < w1.heap.size + 1 + 1 + 1 := by omega); (try have : wr.heap.size < w1.heap.size := by omega); (try have : wr.heap.size < w1.heap.size + 1 := by omega); (try have : wr.heap.size < w1.heap.size + 1 + 1 := by omega); (try have : wr.heap.size < w1.heap.size + 1 + 1 + 1 := by omega)) | skip)); (refine hK.out _ _ ?_ (fun hHeld => ?_)); (· ((try dsimp only); (first | (go_simp; done) | (simp [*, go_sem, World.cell?_alloc_past]; done) | (simp [*, go_sem, World.cell?_alloc_past, World.cell?_setCell_far]; done)))); (clear hK K; (try simp only [Act.put, List.setIfInBounds_toArray, List.set_cons_zero, List.set_cons_succ]))))
            | (refine wpAnyH_ready (rs := [14]) (by decide +kernel) (by simp) (AllReadyH.cons (by simp only [List.getElem?_toArray, List.getElem?_cons_zero, List.getElem?_cons_succ]; rfl) (fun K hK => ?_) AllReadyH.nil); all_goals ((go_simp; (first | ((with_reducible refine (P0.out _).mono ?_); rintro e w' ⟨rfl, rfl⟩) | ((with_reducible refine (NR.out _).mono ?_); rintro e w1 ⟨rfl, hb1⟩; (repeat (with_reducible (replace hb1 := Below.undrew hb1))); obtain ⟨hc1, hf1⟩ := bcell hb1; have hz1 := hb1.size; (repeat (first | rw [World.size_alloc] at hz1 | rw [World.size_drew] at hz1 | rw [World.size_setCell] at hz1)); (try have : b < w1.heap.size := by omega); (try have : b < w1.heap.size + 1 := by omega); (try have : b < w1.heap.size + 1 + 1 := by omega); (try have : b < w1.heap.size + 1 + 1 + 1 := by omega); (try have : wr.heap.size < w1.heap.size := by omega); (try have : wr.heap.size < w1.heap.size + 1 := by omega); (try have : wr.heap.size < w1.heap.size + 1 + 1 := by omega); (try have : wr.heap.size < w1.heap.size + 1 + 1 + 1 := by omega)) | skip)); (refine hK.out _ _ ?_ (fun hHeld => ?_)); (· ((try dsimp only); (first | (go_simp; done) | (simp [*, go_sem, World.cell?_alloc_past]; done) | (simp [*, go_sem, World.cell?_alloc_past, World.cell?_setCell_far]; done)))); (clear hK K; (try simp only [Act.put, List.setIfInBounds_toArray, List.set_cons_zero, List.set_cons_succ]))))
            | (refine wpAnyH_done (by decide +kernel) ?_ _)
            | fail)
          go_goals
          all_goals go_wp2_with fail
          all_goals go_meet
          all_goals refine Lib.hid ?_
          all_goals first
            | ((with_reducible refine MadeAsk.new14 _ _ _ ?_ ?_); (· rfl); (· (repeat' (first | (with_reducible exact Below.refl _ _) | (with_reducible assumption) | (with_reducible refine Below.alloc ?_ ?_ _) | (with_reducible refine Below.drew ?_) | (with_reducible refine Below.stepG ?_ (by assumption) ?_) | (with_reducible refine Below.setCell ?_ ?_ _) | omega | (dsimp only; omega) | (simp; done) | (simp; omega)))))
            | ((with_reducible refine MadeAsk.put14 _ _ (Row14.mk1 ?_ ?_ hb1) ?_ ?_); (· simp); (· rfl); (· (repeat' (first | (with_reducible exact Below.refl _ _) | (with_reducible assumption) | (with_reducible refine Below.alloc ?_ ?_ _) | (with_reducible refine Below.drew ?_) | (with_reducible refine Below.stepG ?_ (by assumption) ?_) | (with_reducible refine Below.setCell ?_ ?_ _) | omega | (dsimp only; omega) | (simp; done) | (simp; omega)))); (· (first | omega | (simp; done) | (simp; omega))))
        case rest =>
          obtain ⟨J, hJ0, HJ0, HJB0, hXJ⟩ := hcut.out
          subst hJ0
          clear hcut
          obtain ⟨X, hX⟩ : ∃ X, X = wc := ⟨_, rfl⟩
          subst hX
          have HJC := Lib.hid HJ0
          have HXB := Lib.hid HJB0
          obtain ⟨d0, d1, d2⟩ := HD.out
          have d0' := (HJB0.cell (p := ⟨b, off + k * 3, none⟩) hbr).trans d0
          have d1' := (HJB0.cell (p := ⟨b, off + k * 3 + 1, none⟩) hbr).trans d1
          have d2' := (HJB0.cell (p := ⟨b, off + k * 3 + 2, none⟩) hbr).trans d2
          have hXs := HJ0.lt
          have hbJ : b < J := by omega
          have hbX : b < X.heap.size := by omega
          have hbX1 : b < X.heap.size + 1 := by omega
          have HJE := Lib.hid hXJ
          clear HJ0 HJB0 d0 d1 d2 hXJ
          go_upto_if 39 with (first | ((with_reducible refine (P1.out _).mono ?_); rintro e w' ⟨rfl, rfl⟩))
          go_cut [] (fun wx => Hid (∃ q : AskD, q.ok ∧ KC wx J q ∧ Below wr.heap.size wr wx))
          case first =>
            by_cases hp0 : pb = 0
            · subst hp0
              have PR := Lib.hid (fun b w hc => pres_one b px w hc x1)
              go_upto_region 7 with fail
              have HD := Lib.hid (⟨d0', d1', d2'⟩ : X.cell? ⟨b, off + k * 3, none⟩ = some (.int .i64 kx) ∧ X.cell? ⟨b, off + k * 3 + 1, none⟩ = some (.int .i64 px) ∧ X.cell? ⟨b, off + k * 3 + 2, none⟩ = some (.int .i64 hx))
              have c1 := HPC.out
              go_cut [8] (fun v wx => Hid (MadeAct X ⟨1, presN px, presK px, 1 + pc, 0⟩ v wx))
              case first =>
                have ew1 : IntKind.i64.wrap (1 + (pc : Int)) = 1 + (pc : Int) := IntWalk.i64_in _ (by omega)
                refine wp_region_held_drew (S := (fun w' => w'.cell? ⟨b, off + k * 3 + 1, none⟩ = some (.int .i64 px) ∧ w'.cell? ⟨b, off + k * 3 + 2, none⟩ = some (.int .i64 hx))) (by kernel_rfl) ?_ (fun hHeld => ?_)
                · ((try dsimp only); (first | (go_simp; done) | (simp [*, go_sem, World.cell?_alloc_past]; done) | (simp [*, go_sem, World.cell?_alloc_past, World.cell?_setCell_far]; done)))
                (refine wpAnyH_take (i := 0) (oi := _) (v := ?_) (by simp only [List.getElem?_toArray, List.getElem?_cons_zero, List.getElem?_cons_succ]; rfl) (by kernel_rfl) (by decide +kernel) (by decide +kernel) (by exact fun _ _ _ h => h) (Or.inl ⟨by rfl, ?_⟩) (by assumption) ?_; rotate_left; (· ((intro w hSw); (try dsimp only at hSw); go_simp; (try with_reducible rfl))); (try simp only [Act.put, List.setIfInBounds_toArray, List.set_cons_zero, List.set_cons_succ]))
                (refine wpAnyH_take (i := 1) (oi := _) (v := ?_) (by simp only [List.getElem?_toArray, List.getElem?_cons_zero, List.getElem?_cons_succ]; rfl) (by kernel_rfl) (by decide +kernel) (by decide +kernel) (by exact fun _ _ _ h => h) (Or.inl ⟨by rfl, ?_⟩) (by assumption) ?_; rotate_left; (· ((intro w hSw); (try dsimp only at hSw); go_simp; (try with_reducible rfl))); (try simp only [Act.put, List.setIfInBounds_toArray, List.set_cons_zero, List.set_cons_succ]))
                (refine wpAnyH_take (i := 2) (oi := _) (v := ?_) (by simp only [List.getElem?_toArray, List.getElem?_cons_zero, List.getElem?_cons_succ]; rfl) (by kernel_rfl) (by decide +kernel) (by decide +kernel) (by exact fun _ _ _ h => h) (Or.inl ⟨by rfl, ?_⟩) (by assumption) ?_; rotate_left; (· ((intro w hSw); (try dsimp only at hSw); go_simp; (try with_reducible rfl))); (try simp only [Act.put, List.setIfInBounds_toArray, List.set_cons_zero, List.set_cons_succ]))
                (refine wpAnyH_take (i := 3) (oi := _) (v := ?_) (by simp only [List.getElem?_toArray, List.getElem?_cons_zero, List.getElem?_cons_succ]; rfl) (by kernel_rfl) (by decide +kernel) (by decide +kernel) (by exact fun _ _ _ h => h) (Or.inl ⟨by rfl, ?_⟩) (by assumption) ?_; rotate_left; (· ((intro w hSw); (try dsimp only at hSw); go_simp; (try with_reducible rfl))); (try simp only [Act.put, List.setIfInBounds_toArray, List.set_cons_zero, List.set_cons_succ]))
                (refine wpAnyH_take (i := 4) (oi := _) (v := ?_) (by simp only [List.getElem?_toArray, List.getElem?_cons_zero, List.getElem?_cons_succ]; rfl) (by kernel_rfl) (by decide +kernel) (by decide +kernel) (by exact fun _ _ _ h => h) (Or.inl ⟨by rfl, ?_⟩) (by assumption) ?_; rotate_left; (· ((intro w hSw); (try dsimp only at hSw); go_simp; (try with_reducible rfl))); (try simp only [Act.put, List.setIfInBounds_toArray, List.set_cons_zero, List.set_cons_succ]))
                (refine wpAnyH_take (i := 9) (oi := _) (v := ?_) (by simp only [List.getElem?_toArray, List.getElem?_cons_zero, List.getElem?_cons_succ]; rfl) (by kernel_rfl) (by decide +kernel) (by decide +kernel) (by exact fun _ _ _ h => h) (Or.inl ⟨by rfl, ?_⟩) (by assumption) ?_; rotate_left; (· ((intro w hSw); (try dsimp only at hSw); go_simp; (try with_reducible rfl))); (try simp only [Act.put, List.setIfInBounds_toArray, List.set_cons_zero, List.set_cons_succ]))
                (refine wpAnyH_take (i := 10) (oi := _) (v := ?_) (by simp only [List.getElem?_toArray, List.getElem?_cons_zero, List.getElem?_cons_succ]; rfl) (by kernel_rfl) (by decide +kernel) (by decide +kernel) (by exact fun _ _ _ h => h) (Or.inl ⟨by rfl, ?_⟩) (by assumption) ?_; rotate_left; (· ((intro w hSw); (try dsimp only at hSw); go_simp; (try with_reducible rfl))); (try simp only [Act.put, List.setIfInBounds_toArray, List.set_cons_zero, List.set_cons_succ]))
                (refine wpAnyH_take (i := 11) (oi := _) (v := ?_) (by simp only [List.getElem?_toArray, List.getElem?_cons_zero, List.getElem?_cons_succ]; rfl) (by kernel_rfl) (by decide +kernel) (by decide +kernel) (by exact fun _ _ _ h => h) (Or.inl ⟨by rfl, ?_⟩) (by assumption) ?_; rotate_left; (· ((intro w hSw); (try dsimp only at hSw); go_simp; (try with_reducible rfl))); (try simp only [Act.put, List.setIfInBounds_toArray, List.set_cons_zero, List.set_cons_succ]))
                (refine wpAnyH_take (i := 12) (oi := _) (v := ?_) (by simp only [List.getElem?_toArray, List.getElem?_cons_zero, List.getElem?_cons_succ]; rfl) (by kernel_rfl) (by decide +kernel) (by decide +kernel) (by exact fun _ _ _ h => h) (Or.inl ⟨by rfl, ?_⟩) (by assumption) ?_; rotate_left; (· ((intro w hSw); (try dsimp only at hSw); go_simp; (try with_reducible rfl))); (try simp only [Act.put, List.setIfInBounds_toArray, List.set_cons_zero, List.set_cons_succ]))
                (refine wpAnyH_take (i := 13) (oi := _) (v := ?_) (by simp only [List.getElem?_toArray, List.getElem?_cons_zero, List.getElem?_cons_succ]; rfl) (by kernel_rfl) (by decide +kernel) (by decide +kernel) (by exact fun _ _ _ h => h) (Or.inl ⟨by rfl, ?_⟩) (by assumption) ?_; rotate_left; (· ((intro w hSw); (try dsimp only at hSw); go_simp; (try with_reducible rfl))); (try simp only [Act.put, List.setIfInBounds_toArray, List.set_cons_zero, List.set_cons_succ]))
                repeat' (first
                  | (refine wpAnyH_take (i := 7) (oi := _) (v := ?_) (by simp only [List.getElem?_toArray, List.getElem?_cons_zero, List.getElem?_cons_succ]; rfl) (by kernel_rfl) (by decide +kernel) (by decide +kernel) (by exact fun _ _ _ h => h) (Or.inl ⟨by rfl, ?_⟩) (by assumption) ?_; rotate_left; (· ((intro w hSw); (try dsimp only at hSw); go_simp; (try with_reducible rfl))); (try simp only [Act.put, List.setIfInBounds_toArray, List.set_cons_zero, List.set_cons_succ]))
                  | (refine wpAnyH_take (i := 15) (oi := _) (v := ?_) (by simp only [List.getElem?_toArray, List.getElem?_cons_zero, List.getElem?_cons_succ]; rfl) (by kernel_rfl) (by decide +kernel) (by decide +kernel) (by exact fun _ _ _ h => h) (Or.inl ⟨by rfl, ?_⟩) (by assumption) ?_; rotate_left; (· ((intro w hSw); (try dsimp only at hSw); go_simp; (try with_reducible rfl))); (try simp only [Act.put, List.setIfInBounds_toArray, List.set_cons_zero, List.set_cons_succ]))
                  | (refine wpAnyH_take (i := 16) (oi := _) (v := ?_) (by simp only [List.getElem?_toArray, List.getElem?_cons_zero, List.getElem?_cons_succ]; rfl) (by kernel_rfl) (by decide +kernel) (by decide +kernel) (by exact fun _ _ _ h => h) (Or.inl ⟨by rfl, ?_⟩) (by assumption) ?_; rotate_left; (· ((intro w hSw); (try dsimp only at hSw); go_simp; (try with_reducible rfl))); (try simp only [Act.put, List.setIfInBounds_toArray, List.set_cons_zero, List.set_cons_succ]))
                  | (refine wpAnyH_ready (rs := [18]) (by decide +kernel) (by simp) (AllReadyH.cons (by simp only [List.getElem?_toArray, List.getElem?_cons_zero, List.getElem?_cons_succ]; rfl) (fun K hK => ?_) AllReadyH.nil); all_goals ((go_simp; (first | ((with_reducible refine (P2.out _).mono ?_); rintro e w' ⟨rfl, rfl⟩) | ((with_reducible refine (PR.out _ _ (by first | (go_simp; done) | simp)).mono ?_); rintro e w1 ⟨g, gc, rfl, g1, g2, g3, g4, g5, g6, hb1⟩; (repeat (with_reducible (replace hb1 := Below.undrew hb1))); obtain ⟨hc1, hf1⟩ := bcell hb1; have hz1 := hb1.size; (repeat (first | rw [World.size_alloc] at hz1 | rw [World.size_drew] at hz1 | rw [World.size_setCell] at hz1)); (try have : b < w1.heap.size := by omega); (try have : b < w1.heap.size + 1 := by omega); (try have : b < w1.heap.size + 1 + 1 := by omega); (try have : b < w1.heap.size + 1 + 1 + 1 := by omega); (try have : wr.heap.size < w1.heap.size := by omega); (try have : wr.heap.size < w1.heap.size + 1 := by omega); (try have : wr.heap.size < w1.heap.size + 1 + 1 := by omega); (try have : wr.heap.size < w1.heap.size + 1 + 1 + 1 := by omega)) | skip)); (refine hK.out _ _ ?_ (fun hHeld => ?_)); (· ((try dsimp only); (first | (go_simp; done) | (simp [*, go_sem, World.cell?_alloc_past]; done) | (simp [*, go_sem, World.cell?_alloc_past, World.cell?_setCell_far]; done)))); (clear hK K; (try simp only [Act.put, List.setIfInBounds_toArray, List.set_cons_zero, List.set_cons_succ]))))
                  | (refine wpAnyH_ready (rs := [8, 14]) (by decide +kernel) (by simp) (AllReadyH.cons (by simp only [List.getElem?_toArray, List.getElem?_cons_zero, List.getElem?_cons_succ]; rfl) (fun K hK => ?_) (AllReadyH.cons (by simp only [List.getElem?_toArray, List.getElem?_cons_zero, List.getElem?_cons_succ]; rfl) (fun K hK => ?_) AllReadyH.nil)); all_goals ((go_simp; (first | ((with_reducible refine (P2.out _).mono ?_); rintro e w' ⟨rfl, rfl⟩) | ((with_reducible refine (PR.out _ _ (by first | (go_simp; done) | simp)).mono ?_); rintro e w1 ⟨g, gc, rfl, g1, g2, g3, g4, g5, g6, hb1⟩; (repeat (with_reducible (replace hb1 := Below.undrew hb1))); obtain ⟨hc1, hf1⟩ := bcell hb1; have hz1 := hb1.size; (repeat (first | rw [World.size_alloc] at hz1 | rw [World.size_drew] at hz1 | rw [World.size_setCell] at hz1)); (try have : b < w1.heap.size := by omega); (try have : b < w1.heap.size + 1 := by omega); (try have : b < w1.heap.size + 1 + 1 := by omega); (try have : b < w1.heap.size + 1 + 1 + 1 := by omega); (try have : wr.heap.size < w1.heap.size := by omega); (try have : wr.heap.size < w1.heap.size + 1 := by omega); (try have : wr.heap.size < w1.heap.size + 1 + 1 := by omega); (try have : wr.heap.size < w1.heap.size + 1 + 1 + 1 := by omega)) | skip)); (refine hK.out _ _ ?_ (fun hHeld => ?_)); (· ((try dsimp only); (first | (go_simp; done) | (simp [*, go_sem, World.cell?_alloc_past]; done) | (simp [*, go_sem, World.cell?_alloc_past, World.cell?_setCell_far]; done)))); (clear hK K; (try simp only [Act.put, List.setIfInBounds_toArray, List.set_cons_zero, List.set_cons_succ]))))
                  | (refine wpAnyH_ready (rs := [8]) (by decide +kernel) (by simp) (AllReadyH.cons (by simp only [List.getElem?_toArray, List.getElem?_cons_zero, List.getElem?_cons_succ]; rfl) (fun K hK => ?_) AllReadyH.nil); all_goals ((go_simp; (first | ((with_reducible refine (P2.out _).mono ?_); rintro e w' ⟨rfl, rfl⟩) | ((with_reducible refine (PR.out _ _ (by first | (go_simp; done) | simp)).mono ?_); rintro e w1 ⟨g, gc, rfl, g1, g2, g3, g4, g5, g6, hb1⟩; (repeat (with_reducible (replace hb1 := Below.undrew hb1))); obtain ⟨hc1, hf1⟩ := bcell hb1; have hz1 := hb1.size; (repeat (first | rw [World.size_alloc] at hz1 | rw [World.size_drew] at hz1 | rw [World.size_setCell] at hz1)); (try have : b < w1.heap.size := by omega); (try have : b < w1.heap.size + 1 := by omega); (try have : b < w1.heap.size + 1 + 1 := by omega); (try have : b < w1.heap.size + 1 + 1 + 1 := by omega); (try have : wr.heap.size < w1.heap.size := by omega); (try have : wr.heap.size < w1.heap.size + 1 := by omega); (try have : wr.heap.size < w1.heap.size + 1 + 1 := by omega); (try have : wr.heap.size < w1.heap.size + 1 + 1 + 1 := by omega)) | skip)); (refine hK.out _ _ ?_ (fun hHeld => ?_)); (· ((try dsimp only); (first | (go_simp; done) | (simp [*, go_sem, World.cell?_alloc_past]; done) | (simp [*, go_sem, World.cell?_alloc_past, World.cell?_setCell_far]; done)))); (clear hK K; (try simp only [Act.put, List.setIfInBounds_toArray, List.set_cons_zero, List.set_cons_succ]))))
                  | (refine wpAnyH_ready (rs := [14]) (by decide +kernel) (by simp) (AllReadyH.cons (by simp only [List.getElem?_toArray, List.getElem?_cons_zero, List.getElem?_cons_succ]; rfl) (fun K hK => ?_) AllReadyH.nil); all_goals ((go_simp; (first | ((with_reducible refine (P2.out _).mono ?_); rintro e w' ⟨rfl, rfl⟩) | ((with_reducible refine (PR.out _ _ (by first | (go_simp; done) | simp)).mono ?_); rintro e w1 ⟨g, gc, rfl, g1, g2, g3, g4, g5, g6, hb1⟩; (repeat (with_reducible (replace hb1 := Below.undrew hb1))); obtain ⟨hc1, hf1⟩ := bcell hb1; have hz1 := hb1.size; (repeat (first | rw [World.size_alloc] at hz1 | rw [World.size_drew] at hz1 | rw [World.size_setCell] at hz1)); (try have : b < w1.heap.size := by omega); (try have : b < w1.heap.size + 1 := by omega); (try have : b < w1.heap.size + 1 + 1 := by omega); (try have : b < w1.heap.size + 1 + 1 + 1 := by omega); (try have : wr.heap.size < w1.heap.size := by omega); (try have : wr.heap.size < w1.heap.size + 1 := by omega); (try have : wr.heap.size < w1.heap.size + 1 + 1 := by omega); (try have : wr.heap.size < w1.heap.size + 1 + 1 + 1 := by omega)) | skip)); (refine hK.out _ _ ?_ (fun hHeld => ?_)); (· ((try dsimp only); (first | (go_simp; done) | (simp [*, go_sem, World.cell?_alloc_past]; done) | (simp [*, go_sem, World.cell?_alloc_past, World.cell?_setCell_far]; done)))); (clear hK K; (try simp only [Act.put, List.setIfInBounds_toArray, List.set_cons_zero, List.set_cons_succ]))))
                  | (refine wpAnyH_ready (rs := [8, 14, 17]) (by decide +kernel) (by simp) (AllReadyH.cons (by simp only [List.getElem?_toArray, List.getElem?_cons_zero, List.getElem?_cons_succ]; rfl) (fun K hK => ?_) (AllReadyH.cons (by simp only [List.getElem?_toArray, List.getElem?_cons_zero, List.getElem?_cons_succ]; rfl) (fun K hK => ?_) (AllReadyH.cons (by simp only [List.getElem?_toArray, List.getElem?_cons_zero, List.getElem?_cons_succ]; rfl) (fun K hK => ?_) AllReadyH.nil))); all_goals ((go_simp; (first | ((with_reducible refine (P2.out _).mono ?_); rintro e w' ⟨rfl, rfl⟩) | ((with_reducible refine (PR.out _ _ (by first | (go_simp; done) | simp)).mono ?_); rintro e w1 ⟨g, gc, rfl, g1, g2, g3, g4, g5, g6, hb1⟩; (repeat (with_reducible (replace hb1 := Below.undrew hb1))); obtain ⟨hc1, hf1⟩ := bcell hb1; have hz1 := hb1.size; (repeat (first | rw [World.size_alloc] at hz1 | rw [World.size_drew] at hz1 | rw [World.size_setCell] at hz1)); (try have : b < w1.heap.size := by omega); (try have : b < w1.heap.size + 1 := by omega); (try have : b < w1.heap.size + 1 + 1 := by omega); (try have : b < w1.heap.size + 1 + 1 + 1 := by omega); (try have : wr.heap.size < w1.heap.size := by omega); (try have : wr.heap.size < w1.heap.size + 1 := by omega); (try have : wr.heap.size < w1.heap.size + 1 + 1 := by omega); (try have : wr.heap.size < w1.heap.size + 1 + 1 + 1 := by omega)) | skip)); (refine hK.out _ _ ?_ (fun hHeld => ?_)); (· ((try dsimp only); (first | (go_simp; done) | (simp [*, go_sem, World.cell?_alloc_past]; done) | (simp [*, go_sem, World.cell?_alloc_past, World.cell?_setCell_far]; done)))); (clear hK K; (try simp only [Act.put, List.setIfInBounds_toArray, List.set_cons_zero, List.set_cons_succ]))))
                  | (refine wpAnyH_ready (rs := [8, 17]) (by decide +kernel) (by simp) (AllReadyH.cons (by simp only [List.getElem?_toArray, List.getElem?_cons_zero, List.getElem?_cons_succ]; rfl) (fun K hK => ?_) (AllReadyH.cons (by simp only [List.getElem?_toArray, List.getElem?_cons_zero, List.getElem?_cons_succ]; rfl) (fun K hK => ?_) AllReadyH.nil)); all_goals ((go_simp; (first | ((with_reducible refine (P2.out _).mono ?_); rintro e w' ⟨rfl, rfl⟩) | ((with_reducible refine (PR.out _ _ (by first | (go_simp; done) | simp)).mono ?_); rintro e w1 ⟨g, gc, rfl, g1, g2, g3, g4, g5, g6, hb1⟩; (repeat (with_reducible (replace hb1 := Below.undrew hb1))); obtain ⟨hc1, hf1⟩ := bcell hb1; have hz1 := hb1.size; (repeat (first | rw [World.size_alloc] at hz1 | rw [World.size_drew] at hz1 | rw [World.size_setCell] at hz1)); (try have : b < w1.heap.size := by omega); (try have : b < w1.heap.size + 1 := by omega); (try have : b < w1.heap.size + 1 + 1 := by omega); (try have : b < w1.heap.size + 1 + 1 + 1 := by omega); (try have : wr.heap.size < w1.heap.size := by omega); (try have : wr.heap.size < w1.heap.size + 1 := by omega); (try have : wr.heap.size < w1.heap.size + 1 + 1 := by omega); (try have : wr.heap.size < w1.heap.size + 1 + 1 + 1 := by omega)) | skip)); (refine hK.out _ _ ?_ (fun hHeld => ?_)); (· ((try dsimp only); (first | (go_simp; done) | (simp [*, go_sem, World.cell?_alloc_past]; done) | (simp [*, go_sem, World.cell?_alloc_past, World.cell?_setCell_far]; done)))); (clear hK K; (try simp only [Act.put, List.setIfInBounds_toArray, List.set_cons_zero, List.set_cons_succ]))))
                  | (refine wpAnyH_ready (rs := [14, 17]) (by decide +kernel) (by simp) (AllReadyH.cons (by simp only [List.getElem?_toArray, List.getElem?_cons_zero, List.getElem?_cons_succ]; rfl) (fun K hK => ?_) (AllReadyH.cons (by simp only [List.getElem?_toArray, List.getElem?_cons_zero, List.getElem?_cons_succ]; rfl) (fun K hK => ?_) AllReadyH.nil)); all_goals ((go_simp; (first | ((with_reducible refine (P2.out _).mono ?_); rintro e w' ⟨rfl, rfl⟩) | ((with_reducible refine (PR.out _ _ (by first | (go_simp; done) | simp)).mono ?_); rintro e w1 ⟨g, gc, rfl, g1, g2, g3, g4, g5, g6, hb1⟩; (repeat (with_reducible (replace hb1 := Below.undrew hb1))); obtain ⟨hc1, hf1⟩ := bcell hb1; have hz1 := hb1.size; (repeat (first | rw [World.size_alloc] at hz1 | rw [World.size_drew] at hz1 | rw [World.size_setCell] at hz1)); (try have : b < w1.heap.size := by omega); (try have : b < w1.heap.size + 1 := by omega); (try have : b < w1.heap.size + 1 + 1 := by omega); (try have : b < w1.heap.size + 1 + 1 + 1 := by omega); (try have : wr.heap.size < w1.heap.size := by omega); (try have : wr.heap.size < w1.heap.size + 1 := by omega); (try have : wr.heap.size < w1.heap.size + 1 + 1 := by omega); (try have : wr.heap.size < w1.heap.size + 1 + 1 + 1 := by omega)) | skip)); (refine hK.out _ _ ?_ (fun hHeld => ?_)); (· ((try dsimp only); (first | (go_simp; done) | (simp [*, go_sem, World.cell?_alloc_past]; done) | (simp [*, go_sem, World.cell?_alloc_past, World.cell?_setCell_far]; done)))); (clear hK K; (try simp only [Act.put, List.setIfInBounds_toArray, List.set_cons_zero, List.set_cons_succ]))))
                  | (refine wpAnyH_ready (rs := [17]) (by decide +kernel) (by simp) (AllReadyH.cons (by simp only [List.getElem?_toArray, List.getElem?_cons_zero, List.getElem?_cons_succ]; rfl) (fun K hK => ?_) AllReadyH.nil); all_goals ((go_simp; (first | ((with_reducible refine (P2.out _).mono ?_); rintro e w' ⟨rfl, rfl⟩) | ((with_reducible refine (PR.out _ _ (by first | (go_simp; done) | simp)).mono ?_); rintro e w1 ⟨g, gc, rfl, g1, g2, g3, g4, g5, g6, hb1⟩; (repeat (with_reducible (replace hb1 := Below.undrew hb1))); obtain ⟨hc1, hf1⟩ := bcell hb1; have hz1 := hb1.size; (repeat (first | rw [World.size_alloc] at hz1 | rw [World.size_drew] at hz1 | rw [World.size_setCell] at hz1)); (try have : b < w1.heap.size := by omega); (try have : b < w1.heap.size + 1 := by omega); (try have : b < w1.heap.size + 1 + 1 := by omega); (try have : b < w1.heap.size + 1 + 1 + 1 := by omega); (try have : wr.heap.size < w1.heap.size := by omega); (try have : wr.heap.size < w1.heap.size + 1 := by omega); (try have : wr.heap.size < w1.heap.size + 1 + 1 := by omega); (try have : wr.heap.size < w1.heap.size + 1 + 1 + 1 := by omega)) | skip)); (refine hK.out _ _ ?_ (fun hHeld => ?_)); (· ((try dsimp only); (first | (go_simp; done) | (simp [*, go_sem, World.cell?_alloc_past]; done) | (simp [*, go_sem, World.cell?_alloc_past, World.cell?_setCell_far]; done)))); (clear hK K; (try simp only [Act.put, List.setIfInBounds_toArray, List.set_cons_zero, List.set_cons_succ]))))
                  | (refine wpAnyH_ready (rs := [6]) (by decide +kernel) (by simp) (AllReadyH.cons (by simp only [List.getElem?_toArray, List.getElem?_cons_zero, List.getElem?_cons_succ]; rfl) (fun K hK => ?_) AllReadyH.nil); all_goals ((go_simp; (first | ((with_reducible refine (P2.out _).mono ?_); rintro e w' ⟨rfl, rfl⟩) | ((with_reducible refine (PR.out _ _ (by first | (go_simp; done) | simp)).mono ?_); rintro e w1 ⟨g, gc, rfl, g1, g2, g3, g4, g5, g6, hb1⟩; (repeat (with_reducible (replace hb1 := Below.undrew hb1))); obtain ⟨hc1, hf1⟩ := bcell hb1; have hz1 := hb1.size; (repeat (first | rw [World.size_alloc] at hz1 | rw [World.size_drew] at hz1 | rw [World.size_setCell] at hz1)); (try have : b < w1.heap.size := by omega); (try have : b < w1.heap.size + 1 := by omega); (try have : b < w1.heap.size + 1 + 1 := by omega); (try have : b < w1.heap.size + 1 + 1 + 1 := by omega); (try have : wr.heap.size < w1.heap.size := by omega); (try have : wr.heap.size < w1.heap.size + 1 := by omega); (try have : wr.heap.size < w1.heap.size + 1 + 1 := by omega); (try have : wr.heap.size < w1.heap.size + 1 + 1 + 1 := by omega)) | skip)); (refine hK.out _ _ ?_ (fun hHeld => ?_)); (· ((try dsimp only); (first | (go_simp; done) | (simp [*, go_sem, World.cell?_alloc_past]; done) | (simp [*, go_sem, World.cell?_alloc_past, World.cell?_setCell_far]; done)))); (clear hK K; (try simp only [Act.put, List.setIfInBounds_toArray, List.set_cons_zero, List.set_cons_succ]))))
                  | (refine wpAnyH_ready (rs := [6, 17]) (by decide +kernel) (by simp) (AllReadyH.cons (by simp only [List.getElem?_toArray, List.getElem?_cons_zero, List.getElem?_cons_succ]; rfl) (fun K hK => ?_) (AllReadyH.cons (by simp only [List.getElem?_toArray, List.getElem?_cons_zero, List.getElem?_cons_succ]; rfl) (fun K hK => ?_) AllReadyH.nil)); all_goals ((go_simp; (first | ((with_reducible refine (P2.out _).mono ?_); rintro e w' ⟨rfl, rfl⟩) | ((with_reducible refine (PR.out _ _ (by first | (go_simp; done) | simp)).mono ?_); rintro e w1 ⟨g, gc, rfl, g1, g2, g3, g4, g5, g6, hb1⟩; (repeat (with_reducible (replace hb1 := Below.undrew hb1))); obtain ⟨hc1, hf1⟩ := bcell hb1; have hz1 := hb1.size; (repeat (first | rw [World.size_alloc] at hz1 | rw [World.size_drew] at hz1 | rw [World.size_setCell] at hz1)); (try have : b < w1.heap.size := by omega); (try have : b < w1.heap.size + 1 := by omega); (try have : b < w1.heap.size + 1 + 1 := by omega); (try have : b < w1.heap.size + 1 + 1 + 1 := by omega); (try have : wr.heap.size < w1.heap.size := by omega); (try have : wr.heap.size < w1.heap.size + 1 := by omega); (try have : wr.heap.size < w1.heap.size + 1 + 1 := by omega); (try have : wr.heap.size < w1.heap.size + 1 + 1 + 1 := by omega)) | skip)); (refine hK.out _ _ ?_ (fun hHeld => ?_)); (· ((try dsimp only); (first | (go_simp; done) | (simp [*, go_sem, World.cell?_alloc_past]; done) | (simp [*, go_sem, World.cell?_alloc_past, World.cell?_setCell_far]; done)))); (clear hK K; (try simp only [Act.put, List.setIfInBounds_toArray, List.set_cons_zero, List.set_cons_succ]))))
                  | (refine wpAnyH_ready (rs := [5]) (by decide +kernel) (by simp) (AllReadyH.cons (by simp only [List.getElem?_toArray, List.getElem?_cons_zero, List.getElem?_cons_succ]; rfl) (fun K hK => ?_) AllReadyH.nil); all_goals ((go_simp; (first | ((with_reducible refine (P2.out _).mono ?_); rintro e w' ⟨rfl, rfl⟩) | ((with_reducible refine (PR.out _ _ (by first | (go_simp; done) | simp)).mono ?_); rintro e w1 ⟨g, gc, rfl, g1, g2, g3, g4, g5, g6, hb1⟩; (repeat (with_reducible (replace hb1 := Below.undrew hb1))); obtain ⟨hc1, hf1⟩ := bcell hb1; have hz1 := hb1.size; (repeat (first | rw [World.size_alloc] at hz1 | rw [World.size_drew] at hz1 | rw [World.size_setCell] at hz1)); (try have : b < w1.heap.size := by omega); (try have : b < w1.heap.size + 1 := by omega); (try have : b < w1.heap.size + 1 + 1 := by omega); (try have : b < w1.heap.size + 1 + 1 + 1 := by omega); (try have : wr.heap.size < w1.heap.size := by omega); (try have : wr.heap.size < w1.heap.size + 1 := by omega); (try have : wr.heap.size < w1.heap.size + 1 + 1 := by omega); (try have : wr.heap.size < w1.heap.size + 1 + 1 + 1 := by omega)) | skip)); (refine hK.out _ _ ?_ (fun hHeld => ?_)); (· ((try dsimp only); (first | (go_simp; done) | (simp [*, go_sem, World.cell?_alloc_past]; done) | (simp [*, go_sem, World.cell?_alloc_past, World.cell?_setCell_far]; done)))); (clear hK K; (try simp only [Act.put, List.setIfInBounds_toArray, List.set_cons_zero, List.set_cons_succ]))))
                  | (refine wpAnyH_ready (rs := [5, 17]) (by decide +kernel) (by simp) (AllReadyH.cons (by simp only [List.getElem?_toArray, List.getElem?_cons_zero, List.getElem?_cons_succ]; rfl) (fun K hK => ?_) (AllReadyH.cons (by simp only [List.getElem?_toArray, List.getElem?_cons_zero, List.getElem?_cons_succ]; rfl) (fun K hK => ?_) AllReadyH.nil)); all_goals ((go_simp; (first | ((with_reducible refine (P2.out _).mono ?_); rintro e w' ⟨rfl, rfl⟩) | ((with_reducible refine (PR.out _ _ (by first | (go_simp; done) | simp)).mono ?_); rintro e w1 ⟨g, gc, rfl, g1, g2, g3, g4, g5, g6, hb1⟩; (repeat (with_reducible (replace hb1 := Below.undrew hb1))); obtain ⟨hc1, hf1⟩ := bcell hb1; have hz1 := hb1.size; (repeat (first | rw [World.size_alloc] at hz1 | rw [World.size_drew] at hz1 | rw [World.size_setCell] at hz1)); (try have : b < w1.heap.size := by omega); (try have : b < w1.heap.size + 1 := by omega); (try have : b < w1.heap.size + 1 + 1 := by omega); (try have : b < w1.heap.size + 1 + 1 + 1 := by omega); (try have : wr.heap.size < w1.heap.size := by omega); (try have : wr.heap.size < w1.heap.size + 1 := by omega); (try have : wr.heap.size < w1.heap.size + 1 + 1 := by omega); (try have : wr.heap.size < w1.heap.size + 1 + 1 + 1 := by omega)) | skip)); (refine hK.out _ _ ?_ (fun hHeld => ?_)); (· ((try dsimp only); (first | (go_simp; done) | (simp [*, go_sem, World.cell?_alloc_past]; done) | (simp [*, go_sem, World.cell?_alloc_past, World.cell?_setCell_far]; done)))); (clear hK K; (try simp only [Act.put, List.setIfInBounds_toArray, List.set_cons_zero, List.set_cons_succ]))))
                  | (refine wpAnyH_done (by decide +kernel) ?_ _)
                  | fail)
                go_goals
                all_goals go_wp2_with fail
                all_goals go_meet
                all_goals refine Lib.hid ?_
                all_goals first
                  | ((with_reducible refine MadeAct.new9 _ _ _ _ ?_ ?_); (· simp); (· (repeat' (first | (with_reducible exact Below.refl _ _) | (with_reducible assumption) | (with_reducible refine Below.alloc ?_ ?_ _) | (with_reducible refine Below.drew ?_) | (with_reducible refine Below.stepG ?_ (by assumption) ?_) | (with_reducible refine Below.setCell ?_ ?_ _) | omega | (dsimp only; omega) | (simp; done) | (simp; omega)))))
                  | ((with_reducible refine MadeAct.put9 _ _ _ (Row9.mk1 ?_ ?_ hb1) ?_ ?_); (· simp); (· rfl); (· (repeat' (first | (with_reducible exact Below.refl _ _) | (with_reducible assumption) | (with_reducible refine Below.alloc ?_ ?_ _) | (with_reducible refine Below.drew ?_) | (with_reducible refine Below.stepG ?_ (by assumption) ?_) | (with_reducible refine Below.setCell ?_ ?_ _) | omega | (dsimp only; omega) | (simp; done) | (simp; omega)))); (· (first | omega | (simp; done) | (simp; omega))))
                  | ((with_reducible refine MadeAct.put9 _ _ _ (Row9.mk2 ?_ ?_ hb1) ?_ ?_); (· simp); (· rfl); (· (repeat' (first | (with_reducible exact Below.refl _ _) | (with_reducible assumption) | (with_reducible refine Below.alloc ?_ ?_ _) | (with_reducible refine Below.drew ?_) | (with_reducible refine Below.stepG ?_ (by assumption) ?_) | (with_reducible refine Below.setCell ?_ ?_ _) | omega | (dsimp only; omega) | (simp; done) | (simp; omega)))); (· (first | omega | (simp; done) | (simp; omega))))
              case rest =>
                obtain ⟨A, hA0, HA0, HAB0, hXA⟩ := hcut.out
                subst hA0
                clear hcut
                obtain ⟨d0, d1, d2⟩ := HD.out
                have d0w := (HAB0.cell (p := ⟨b, off + k * 3, none⟩) hbX).trans d0
                have hJB := HJC.out.below HAB0 hXs
                have HJ2 := Lib.hid hJB
                have HA := Lib.hid HA0
                have HAB := Lib.hid HAB0
                have hJA : J ≠ A := by omega
                have hAl := HA0.lt
                have hJl := hJB.lt
                have hXw := HAB0.size
                have hvp := pres_vp px
                generalize presN px = N at *
                generalize presK px = K at *
                have HV := Lib.hid hvp
                clear d0 d1 d2 HAB0 hJB hvp d0' d1' d2'
                have a0 := HA0.at_ 0 _ rfl
                have a1 := HA0.at_ 1 _ rfl
                have a2 := HA0.at_ 2 _ rfl
                have a3 := HA0.at_ 3 _ rfl
                have a4 := HA0.at_ 4 _ rfl
                have a5 := HA0.at_ 5 _ rfl
                have a6 := HA0.at_ 6 _ rfl
                have a7 := HA0.at_ 7 _ rfl
                have a8 := HA0.at_ 8 _ rfl
                have f0 := HA0.fz 0 (by decide)
                have f1 := HA0.fz 1 (by decide)
                have f2 := HA0.fz 2 (by decide)
                have f3 := HA0.fz 3 (by decide)
                have f4 := HA0.fz 4 (by decide)
                have f5 := HA0.fz 5 (by decide)
                have f6 := HA0.fz 6 (by decide)
                have f7 := HA0.fz 7 (by decide)
                have f8 := HA0.fz 8 (by decide)
                clear HA0
                obtain ⟨W, hW⟩ : ∃ W, W = wc := ⟨_, rfl⟩
                subst hW
                go_upto_if 64 with (first | ((with_reducible refine (P3.out _).mono ?_); rintro e w' ⟨rfl, rfl⟩))
                go_cut [] (fun wx => Hid (∃ q : ActD, AcC wx A q ∧ q.ok ∧ KC wx J ⟨true, pa, ad, actZ⟩ ∧ Below wr.heap.size wr wx))
                case first =>
                  have hJw := HJE.out
                  by_cases hp1 : py = 0
                  · subst hp1
                    go_wp2_with fail
                    change Met _ _ (setRow W A 0 (actCells ⟨2, N, K, 0, 0⟩))
                    obtain ⟨h1, h2⟩ := AcC.put ⟨2, N, K, 0, 0⟩ HA.out.row
                    go_meet
                    exact ⟨_, h1, ⟨HV.out, Nat.zero_le _, rfl, .inr rfl⟩, HJ2.out.chg h2 (fun x e => hJA e), (HXB.out.trans (HAB.out.mono (by omega))).trans (h2.below (by omega) (fun b x hb e => by omega))⟩
                  · go_wp2_with fail
                    go_meet
                    exact ⟨_, HA.out, ⟨HV.out, by show 1 + pc ≤ 999; omega, rfl, .inl ⟨rfl, by show 1 ≤ 1 + pc; omega⟩⟩, HJ2.out, HXB.out.trans (HAB.out.mono (by omega))⟩
                case rest =>
                  clear a0 a1 a2 a3 a4 a5 a6 a7 a8 f0 f1 f2 f3 f4 f5 f6 f7 f8 HA HJ2 HAB d0w
                  obtain ⟨q, HA0, hok, HJ0, HB0⟩ := hcut.out
                  clear hcut
                  have HJ2 := Lib.hid HJ0
                  have HB2 := Lib.hid HB0
                  have HOK := Lib.hid hok
                  have a0 := HA0.at_ 0 _ rfl
                  have a1 := HA0.at_ 1 _ rfl
                  have a2 := HA0.at_ 2 _ rfl
                  have a3 := HA0.at_ 3 _ rfl
                  have a4 := HA0.at_ 4 _ rfl
                  have a5 := HA0.at_ 5 _ rfl
                  have a6 := HA0.at_ 6 _ rfl
                  have a7 := HA0.at_ 7 _ rfl
                  have a8 := HA0.at_ 8 _ rfl
                  have e0 := HJ0.at_ 0 _ rfl
                  have e1 := HJ0.at_ 1 _ rfl
                  have e2 := HJ0.at_ 2 _ rfl
                  have e3 := HJ0.at_ 3 _ rfl
                  have e4 := HJ0.at_ 4 _ rfl
                  have e5 := HJ0.at_ 5 _ rfl
                  have e6 := HJ0.at_ 6 _ rfl
                  have e7 := HJ0.at_ 7 _ rfl
                  have e8 := HJ0.at_ 8 _ rfl
                  have e9 := HJ0.at_ 9 _ rfl
                  have e10 := HJ0.at_ 10 _ rfl
                  have e11 := HJ0.at_ 11 _ rfl
                  have e12 := HJ0.at_ 12 _ rfl
                  have e13 := HJ0.at_ 13 _ rfl
                  have f0 := HJ0.fz 0 (by decide)
                  have f1 := HJ0.fz 1 (by decide)
                  have f2 := HJ0.fz 2 (by decide)
                  have f3 := HJ0.fz 3 (by decide)
                  have f4 := HJ0.fz 4 (by decide)
                  have f5 := HJ0.fz 5 (by decide)
                  have f6 := HJ0.fz 6 (by decide)
                  have f7 := HJ0.fz 7 (by decide)
                  have f8 := HJ0.fz 8 (by decide)
                  have f9 := HJ0.fz 9 (by decide)
                  have f10 := HJ0.fz 10 (by decide)
                  have f11 := HJ0.fz 11 (by decide)
                  have f12 := HJ0.fz 12 (by decide)
                  have f13 := HJ0.fz 13 (by decide)
                  have hjl := HJ0.lt
                  clear HA0 HJ0 HB0 hok
                  obtain ⟨Y, hY⟩ : ∃ Y, Y = wc := ⟨_, rfl⟩
                  subst hY
                  go_wp2_with fail
                  change Met _ _ (setRow Y J 0 (askCells ⟨false, 0, 0, q⟩))
                  obtain ⟨h1, h2⟩ := KC.set HJ2.out.row ⟨false, 0, 0, q⟩
                  go_meet
                  have hJw := HJE.out
                  exact ⟨_, .inr ⟨rfl, rfl, rfl, HOK.out⟩, h1, HB2.out.trans (h2.below (by have := HB2.out.size; omega) (fun b x hb e => by omega))⟩
            · go_wp2_with fail
              go_meet
              exact ⟨_, .inl ⟨rfl, by have := HPA.out; show pa < 4; omega, NF.out, rfl⟩, HJC.out, HXB.out⟩
          case rest =>
            obtain ⟨q, hok, HJ0, HB0⟩ := hcut.out
            clear hcut
            have HJ2 := Lib.hid HJ0
            have HB2 := Lib.hid HB0
            have HOK := Lib.hid hok
            have e0 := HJ0.at_ 0 _ rfl
            have e1 := HJ0.at_ 1 _ rfl
            have e2 := HJ0.at_ 2 _ rfl
            have e3 := HJ0.at_ 3 _ rfl
            have e4 := HJ0.at_ 4 _ rfl
            have e5 := HJ0.at_ 5 _ rfl
            have e6 := HJ0.at_ 6 _ rfl
            have e7 := HJ0.at_ 7 _ rfl
            have e8 := HJ0.at_ 8 _ rfl
            have e9 := HJ0.at_ 9 _ rfl
            have e10 := HJ0.at_ 10 _ rfl
            have e11 := HJ0.at_ 11 _ rfl
            have e12 := HJ0.at_ 12 _ rfl
            have e13 := HJ0.at_ 13 _ rfl
            have hzc := HB0.size
            clear HJ0 HB0 hok
            obtain ⟨Y, hY⟩ : ∃ Y, Y = wc := ⟨_, rfl⟩
            subst hY
            have hYB : Below Y.heap.size Y (Y.alloc (.cells (askCells q).toArray 79)) := (Below.refl _ _).alloc (Nat.le_refl _) _
            have HO2 := Lib.hid ((HO.out.below HB2.out).below hYB)
            go_wp2_with (at_builtin; refine wpList_append_rows rfl _ _ 72 79 14 112 _ rfl eiAsk w.heap.size _ (qs.map askCells) rfl HO2.out _ [askCells q] rfl (sl_new (c := askCells q) (by simp) rfl) (by intro c hc; simp at hc; subst hc; exact askCells_one q) (by have := HK.out; simp; omega) (by decide) (by simp; omega) (by simp) ?_; intro v' w5 hown' hgr hb5)
            have hown2 : Wk.Own w5 w.heap.size 79 14 v' ((qs ++ [q]).map askCells) := by rw [List.map_append]; exact hown'
            have hB5 : Below w.heap.size w w5 := (HB.out.trans (((HB2.out.mono hzr)).trans (hYB.mono (by omega)))).trans (hb5.mono (Nat.le_refl _))
            have HO5 := Lib.hid hown2
            have HB5 := Lib.hid hB5
            clear hown' hgr hb5 hown2 hB5
            go_roundw
            case rel => exact ⟨k + 1, by omega, by omega, by go_num, ⟨qs ++ [q], by have := HK.out; show (qs ++ [q]).length = _; simp; omega, by
              intro x hx
              rcases List.mem_append.1 hx with hx | hx
              · exact HQ.out x hx
              · simp at hx; subst hx; exact HOK.out, HO5⟩, HB5⟩
            case measure => simp [intOf]; omega
      · have hd : decide ((k : Int) < n) = false := by simp; omega
        go_wp2
        go_returns
        exact ⟨_, qs, rfl, HO.out, HQ.out, by have := HK.out; omega, HB.out⟩
    · have hd : decide ((k : Int) < len) = false := by simp; omega
      go_wp2
      go_returns
      exact ⟨_, qs, rfl, HO.out, HQ.out, by have := HK.out; omega, HB.out⟩
end Go.Proofs.Yteadfobfenopkaa
