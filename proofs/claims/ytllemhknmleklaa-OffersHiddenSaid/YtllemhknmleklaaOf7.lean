
/- The laws' maker of offers. -/
import Derived.Test.YtllemhknmleklaaBids
import Derived.Test.YtllemhknmleklaaOf5
import Derived.Test.YtllemhknmleklaaTk
import Derived.Test.YtllemhknmleklaaRules0
import Derived.Deep.DeepCutAuto
import Derived.Deep.RegionLawGrows
set_option linter.unusedVariables false
set_option linter.unusedSimpArgs false
namespace Go.Proofs.Ytllemhknmleklaa
open Go Go.RowKit Go.Sort Wc Wk

theorem ChgO.mono {w w' : World} {F G : Nat → Nat → Prop} (h : Chg w w' F) (hs : ∀ b x, F b x → G b x) : Chg w w' G :=
  ⟨h.os, h.tape, h.output, h.size, fun k hk hf => h.block k hk (fun x hx => hf x (hs _ _ hx)), fun k x hk hf => h.cell k x hk (fun hx => hf (hs _ _ hx)), h.froz⟩
def setRowO (w : World) (b : Nat) : Nat → List Value → World
  | _, [] => w
  | o, c :: cs => setRowO (w.setCell ⟨b, o, none⟩ c) b (o + 1) cs
theorem setRowO_chg (b : Nat) : ∀ (cs : List Value) (o : Nat) (w : World), b < w.heap.size → (∀ j, j < cs.length → ∃ u, w.cell? ⟨b, o + j, none⟩ = some u) →
    Chg w (setRowO w b o cs) (fun k x => k = b ∧ o ≤ x ∧ x < o + cs.length) ∧ ∀ j u, cs[j]? = some u → (setRowO w b o cs).cell? ⟨b, o + j, none⟩ = some u
  | [], o, w, _, _ => ⟨Chg.refl _ _, fun j u h => by simp at h⟩
  | c :: cs, o, w, hb, hex => by
    have s1 := chg_set w b o c
    obtain ⟨u0, hu0⟩ := hex 0 (by simp)
    have k0 : (w.setCell ⟨b, o, none⟩ c).cell? ⟨b, o, none⟩ = some c := World.cell?_setCell_same w ⟨b, o, none⟩ c hu0
    have hb1 : b < (w.setCell ⟨b, o, none⟩ c).heap.size := by simpa using hb
    obtain ⟨h1, h2⟩ := setRowO_chg b cs (o + 1) (w.setCell ⟨b, o, none⟩ c) hb1 (fun j hj => by
      obtain ⟨u, hu⟩ := hex (j + 1) (by simpa using hj)
      exact ⟨u, (s1.cell b (o + 1 + j) hb (by omega)).trans (by rw [show o + 1 + j = o + (j + 1) by omega]; exact hu)⟩)
    have s2 : Chg w (w.setCell ⟨b, o, none⟩ c) (fun k x => k = b ∧ o ≤ x ∧ x < o + (c :: cs).length) := ChgO.mono s1 (by
      rintro k x ⟨h3, h4⟩; refine ⟨h3, by omega, ?_⟩; rw [List.length_cons]; omega)
    refine ⟨s2.trans h1 ?_, fun j u hu => ?_⟩
    · rintro k x _ ⟨h3, h4, h5⟩; refine ⟨h3, by omega, ?_⟩; rw [List.length_cons]; omega
    · match j, hu with
      | 0, hu =>
        simp at hu; subst hu
        exact (h1.cell b o hb1 (by omega)).trans k0
      | j + 1, hu =>
        rw [show o + (j + 1) = o + 1 + j by omega]
        exact h2 j u (by simpa using hu)

theorem ofCells_len (o : OfD) : (ofCells o).length = 8 := rfl
structure OfC (w : World) (b : Nat) (q : OfD) : Prop where
  lt : b < w.heap.size
  at_ : ∀ j u, (ofCells q)[j]? = some u → w.cell? ⟨b, j, none⟩ = some u
  fz : ∀ o, o < 8 → w.frozen? ⟨b, o, none⟩ = false
theorem OfC.new (w : World) (q : OfD) (E : TypeId) : OfC (w.alloc (.cells (ofCells q).toArray E)) w.heap.size q :=
  ⟨by simp, fun j u hu => by rw [World.cell?_alloc_new]; simpa using hu, fun o ho => by simp⟩
structure Row8 (w : World) (A : Nat) : Prop where
  lt : A < w.heap.size
  ex : ∀ o, o < 8 → ∃ u, w.cell? ⟨A, o, none⟩ = some u
  fz : ∀ o, o < 8 → w.frozen? ⟨A, o, none⟩ = false
theorem Row8.new (w : World) (cs : Array Value) (E : TypeId) (hs : cs.size = 8) : Row8 (w.alloc (.cells cs E)) w.heap.size :=
  ⟨by simp, fun o ho => ⟨cs[o]'(by omega), by rw [World.cell?_alloc_new]; exact Array.getElem?_eq_getElem _⟩, fun o ho => by simp⟩
theorem Row8.below {w w' : World} {A : Nat} (h : Row8 w A) {B : Nat} (hb : Below B w w') (hB : A < B) : Row8 w' A :=
  ⟨Nat.lt_of_lt_of_le h.lt hb.size, fun o ho => by obtain ⟨u, hu⟩ := h.ex o ho; exact ⟨u, (hb.cell (p := ⟨A, o, none⟩) hB).trans hu⟩, fun o ho => (hb.frozen (p := ⟨A, o, none⟩) hB).trans (h.fz o ho)⟩
theorem OfC.put {w : World} {A : Nat} (y : OfD) (h : Row8 w A) : OfC (setRowO w A 0 (ofCells y)) A y ∧ Chg w (setRowO w A 0 (ofCells y)) (fun k _ => k = A) := by
  obtain ⟨c, v⟩ := setRowO_chg A (ofCells y) 0 w h.lt (fun j hj => by rw [ofCells_len] at hj; rw [Nat.zero_add]; exact h.ex j hj)
  refine ⟨⟨Nat.lt_of_lt_of_le h.lt c.size, fun j u hu => ?_, fun o ho => (c.froz A o h.lt).trans (h.fz o ho)⟩, ChgO.mono c (fun k x h => h.1)⟩
  have := v j u hu
  rwa [Nat.zero_add] at this
/-- What the making of an offer leaves: the offer in a block of its own. -/
def MadeOf (X : World) (q : OfD) (v : Value) (wx : World) : Prop := ∃ A, v = .pointer (some ⟨A, 0, none⟩) ∧ OfC wx A q ∧ Below X.heap.size X wx ∧ X.heap.size ≤ A
theorem MadeOf.new8 {X w : World} {A : Nat} (N K s p m h : Nat) (E : TypeId) (hA : A = w.heap.size) (hb : Below X.heap.size X w) :
    MadeOf X ⟨N, K, 1 + s, p, m, 1 + h⟩ (.pointer (some ⟨A, 0, none⟩)) (w.alloc (.cells #[.bool false, .int .u64 (hiOf false N), .int .u64 (loOf N), .int .i64 (K : Nat), .int .i64 (1 + (s : Int)), .int .i64 (p : Nat), .int .i64 (m : Nat), .int .i64 (1 + (h : Int))] E)) := by
  subst hA
  exact ⟨_, rfl, OfC.new w ⟨N, K, 1 + s, p, m, 1 + h⟩ E, hb.alloc (by have := hb.size; omega) _, hb.size⟩
theorem MadeOf.put8 {X w : World} {A : Nat} (N K s p m h : Nat) (hr : Row8 w A) (hb : Below X.heap.size X w) (hA : X.heap.size ≤ A) :
    MadeOf X ⟨N, K, 1 + s, p, m, 1 + h⟩ (.pointer (some ⟨A, 0, none⟩)) ((((((((w.setCell ⟨A, 0, none⟩ (.bool false)).setCell ⟨A, 1, none⟩ (.int .u64 (hiOf false N))).setCell ⟨A, 2, none⟩ (.int .u64 (loOf N))).setCell ⟨A, 3, none⟩ (.int .i64 (K : Nat))).setCell ⟨A, 4, none⟩ (.int .i64 (1 + (s : Int)))).setCell ⟨A, 5, none⟩ (.int .i64 (p : Nat))).setCell ⟨A, 6, none⟩ (.int .i64 (m : Nat))).setCell ⟨A, 7, none⟩ (.int .i64 (1 + (h : Int)))) := by
  obtain ⟨h1, h2⟩ := OfC.put ⟨N, K, 1 + s, p, m, 1 + h⟩ hr
  exact ⟨_, rfl, h1, hb.trans (h2.below hb.size (fun b x hb' e => by omega)), hA⟩
theorem Row8.mk1 {w w1 : World} {o : Obj} {cs : Array Value} {E : TypeId} {A : Nat} (hA : A = w.heap.size) (hs : cs.size = 8) (hb : Below ((w.alloc (.cells cs E)).alloc o).heap.size ((w.alloc (.cells cs E)).alloc o) w1) : Row8 w1 A := by
  subst hA
  exact ((Row8.new w cs E hs).below ((Below.refl _ _).alloc (Nat.le_refl _) o) (by simp)).below hb (by simp; omega)
theorem Row8.mk2 {w w1 : World} {o : Obj} {cs : Array Value} {E : TypeId} {A : Nat} (hA : A = w.heap.size + 1) (hs : cs.size = 8) (hb : Below ((w.alloc o).alloc (.cells cs E)).heap.size ((w.alloc o).alloc (.cells cs E)) w1) : Row8 w1 A := by
  have e : A = (w.alloc o).heap.size := by rw [hA]; simp
  subst e
  exact (Row8.new (w.alloc o) cs E hs).below hb (by simp)

theorem sl_of2 (N K s p m h : Nat) {W : World} {b : Nat} (hb : b = W.heap.size) : Sl (W.alloc (.cells #[.bool false, .int .u64 (hiOf false N), .int .u64 (loOf N), .int .i64 (K : Nat), .int .i64 (1 + (s : Int)), .int .i64 (p : Nat), .int .i64 (m : Nat), .int .i64 (1 + (h : Int))] 84)) 8 (.slice (some ⟨b, 0, none⟩) 1 1) ([(⟨N, K, 1 + s, p, m, 1 + h⟩ : OfD)].map ofCells) := sl_new (c := ofCells ⟨N, K, 1 + s, p, m, 1 + h⟩) hb rfl
theorem sl_of3 (N K s p h : Nat) {W : World} {b : Nat} (hb : b = W.heap.size) : Sl (W.alloc (.cells #[.bool false, .int .u64 (hiOf false N), .int .u64 (loOf N), .int .i64 (K : Nat), .int .i64 (1 + (s : Int)), .int .i64 (p : Nat), .int .i64 999, .int .i64 (1 + (h : Int))] 84)) 8 (.slice (some ⟨b, 0, none⟩) 1 1) ([(⟨N, K, 1 + s, p, 999, 1 + h⟩ : OfD)].map ofCells) := sl_new (c := ofCells ⟨N, K, 1 + s, p, 999, 1 + h⟩) hb rfl
/-- The offer of a bid. -/
def bidO (b : BidD) : OfD := ⟨presN b.pre, presK b.pre, 1 + (b.src % 4).toNat, (b.peer % 4).toNat, if (b.met.tdiv 5) % 5 = 0 then 999 else (b.met % 5).toNat, 1 + (b.hop % 9).toNat⟩
theorem bidO_ok (b : BidD) : (bidO b).ok := by
  have h1 := Int.emod_lt_of_pos b.src (show (0 : Int) < 4 by decide)
  have h2 := Int.emod_lt_of_pos b.peer (show (0 : Int) < 4 by decide)
  have h3 := Int.emod_lt_of_pos b.met (show (0 : Int) < 5 by decide)
  have h4 := Int.emod_lt_of_pos b.hop (show (0 : Int) < 9 by decide)
  refine ⟨pres_vp _, ?_, ?_, ?_, ?_, ?_, ?_⟩ <;> unfold bidO <;> dsimp only
  · omega
  · omega
  · omega
  · split <;> omega
  · omega
  · omega
theorem take_bid {bs : List BidD} {k : Nat} {r : BidD} (h : bs[k]? = some r) : (bs.take (k + 1)).map bidO = (bs.take k).map bidO ++ [bidO r] := by
  rw [List.take_add_one, h, List.map_append]; rfl
/-- It returns offers in a slice of its own. -/
def RetOffs (w : World) (os : List OfD) (e : Ending) (w' : World) : Prop := ∃ v, e = .returned v ∧ Own w' w.heap.size 84 8 v (os.map ofCells) ∧ Below w.heap.size w w'


set_option maxRecDepth 100000 in
set_option maxHeartbeats 6000000 in
theorem offers_any (a : Option Addr) (len cap : Nat) (bs : List BidD) (n : Nat) (w : World) (h : IsBids w a len cap bs) (hn : n ≤ 100) :
    Calls Try.prog 28 #[.slice a len cap, .int .i64 n] w (RetOffs w ((bs.take n).map bidO)) := by
  have hlm := h.le
  have hbl := Lib.hid h.1
  have HJ := Lib.hid h
  clear h
  go_enter Try.func28, Try.ntmps28
  go_wp2_with fail
  go_loopw [5, 6] (fun v i wr => ∃ k : Nat, k ≤ len ∧ k ≤ n ∧ i = .int .i64 k ∧ Hid (Own wr w.heap.size 84 8 v (((bs.take k).map bidO).map ofCells)) ∧ Hid (Below w.heap.size w wr)) (fun _ i _ => len - (intOf i).toNat)
  case atStart => exact ⟨0, Nat.zero_le _, Nat.zero_le _, rfl, Own.nil _ _ _ _, Below.refl _ _⟩
  case round =>
    obtain ⟨k, hk, hkn, rfl, HO, HB⟩ := hrel
    have hzr := HB.out.size
    by_cases hlt : k < len
    · by_cases hlt2 : k < n
      · obtain ⟨b, off, r, hr, rfl, hb, d0, d1, d2, d3, d4, x0, x1, x2, x3, x4⟩ := HJ.out.opened HB.out hlt
        have HR := Lib.hid hr
        have hbr : b < wr.heap.size := by omega
        have P1 := Lib.hid (fun w => picked_any r.src 4 w (by decide) (by decide))
        have P2 := Lib.hid (fun w => picked_any r.peer 4 w (by decide) (by decide))
        have P3 := Lib.hid (fun w => picked_any r.met 5 w (by decide) (by decide))
        have P4 := Lib.hid (fun w => picked_any r.hop 9 w (by decide) (by decide))
        have P5 := Lib.hid (fun w => picked_any (r.met.tdiv 5) 5 w (by decide) (by decide))
        have E5 := Lib.hid (show IntKind.i64.wrap (r.met.tdiv 5) = r.met.tdiv 5 from wrap_tdiv r.met 5 x3)
        have a1 := Int.emod_nonneg r.src (show (4 : Int) ≠ 0 by decide)
        have a2 := Int.emod_nonneg r.peer (show (4 : Int) ≠ 0 by decide)
        have a3 := Int.emod_nonneg r.met (show (5 : Int) ≠ 0 by decide)
        have a4 := Int.emod_nonneg r.hop (show (9 : Int) ≠ 0 by decide)
        have l1 := Int.emod_lt_of_pos r.src (show (0 : Int) < 4 by decide)
        have l4 := Int.emod_lt_of_pos r.hop (show (0 : Int) < 9 by decide)
        have HRO := Lib.hid (show bidO r = ⟨presN r.pre, presK r.pre, 1 + (r.src % 4).toNat, (r.peer % 4).toNat, if (r.met.tdiv 5) % 5 = 0 then 999 else (r.met % 5).toNat, 1 + (r.hop % 9).toNat⟩ from rfl)
        obtain ⟨p1, e1⟩ := Int.eq_ofNat_of_zero_le a1
        obtain ⟨p2, e2⟩ := Int.eq_ofNat_of_zero_le a2
        obtain ⟨p3, e3⟩ := Int.eq_ofNat_of_zero_le a3
        obtain ⟨p4, e4⟩ := Int.eq_ofNat_of_zero_le a4
        rw [e1] at P1 l1 HRO
        rw [e2] at P2 HRO
        rw [e3] at P3 HRO
        rw [e4] at P4 l4 HRO
        simp only [Int.toNat_natCast] at HRO
        have PR := Lib.hid (fun b w hc => pres_one b r.pre w hc x0)
        clear e1 e2 e3 e4 a1 a2 a3 a4 hr
        go_upto_region 6 with fail
        obtain ⟨X, hX⟩ : ∃ X, X = wr.alloc (.cells #[.int .i64 r.pre, .int .i64 r.src, .int .i64 r.peer, .int .i64 r.met, .int .i64 r.hop] 158) := ⟨_, rfl⟩
        have q0 : X.cell? ⟨wr.heap.size, 0, none⟩ = some (.int .i64 r.pre) := by rw [hX]; simp
        have q1 : X.cell? ⟨wr.heap.size, 1, none⟩ = some (.int .i64 r.src) := by rw [hX]; simp
        have q2 : X.cell? ⟨wr.heap.size, 2, none⟩ = some (.int .i64 r.peer) := by rw [hX]; simp
        have q3 : X.cell? ⟨wr.heap.size, 3, none⟩ = some (.int .i64 r.met) := by rw [hX]; simp
        have q4 : X.cell? ⟨wr.heap.size, 4, none⟩ = some (.int .i64 r.hop) := by rw [hX]; simp
        have hXs : wr.heap.size < X.heap.size := by rw [hX]; simp
        have HXB := Lib.hid (show Below wr.heap.size wr X by rw [hX]; exact (Below.refl _ _).alloc (Nat.le_refl _) _)
        rw [← hX]
        obtain ⟨J, hJ⟩ : ∃ J, J = wr.heap.size := ⟨_, rfl⟩
        rw [← hJ] at q0 q1 q2 q3 q4 hXs ⊢
        have HJE := Lib.hid hJ
        have hX1 : J < X.heap.size + 1 := by omega
        have hX2 : J < X.heap.size + 1 + 1 := by omega
        clear hJ hX d0 d1 d2 d3 d4
        go_cut [8] (fun v wx => Hid (MadeOf X ⟨presN r.pre, presK r.pre, 1 + p1, p2, p3, 1 + p4⟩ v wx))
        case first =>
          generalize presN r.pre = N at *
          generalize presK r.pre = K at *
          have ew1 : IntKind.i64.wrap (1 + (p1 : Int)) = 1 + (p1 : Int) := IntWalk.i64_in _ (by omega)
          have ew4 : IntKind.i64.wrap (1 + (p4 : Int)) = 1 + (p4 : Int) := IntWalk.i64_in _ (by omega)
          clear l1 l4 x0 x1 x2 x3 x4
          refine wp_region_held_drew (S := (fun w' => w'.cell? ⟨J, 0, none⟩ = some (.int .i64 r.pre) ∧ w'.cell? ⟨J, 1, none⟩ = some (.int .i64 r.src) ∧ w'.cell? ⟨J, 2, none⟩ = some (.int .i64 r.peer) ∧ w'.cell? ⟨J, 3, none⟩ = some (.int .i64 r.met) ∧ w'.cell? ⟨J, 4, none⟩ = some (.int .i64 r.hop))) (by kernel_rfl) ?_ (fun hHeld => ?_)
          · ((try dsimp only); (first | (go_simp; done) | (simp [*, go_sem, World.cell?_alloc_past]; done) | (simp [*, go_sem, World.cell?_alloc_past, World.cell?_setCell_far]; done)))
          (refine wpAnyH_take (i := 0) (oi := _) (v := ?_) (by simp only [List.getElem?_toArray, List.getElem?_cons_zero, List.getElem?_cons_succ]; rfl) (by kernel_rfl) (by decide +kernel) (by decide +kernel) (by exact fun _ _ _ h => h) (Or.inl ⟨by rfl, ?_⟩) (by assumption) ?_; rotate_left; (· ((intro w hSw); (try dsimp only at hSw); go_simp; (try with_reducible rfl))); (try simp only [Act.put, List.setIfInBounds_toArray, List.set_cons_zero, List.set_cons_succ]))
          (refine wpAnyH_take (i := 1) (oi := _) (v := ?_) (by simp only [List.getElem?_toArray, List.getElem?_cons_zero, List.getElem?_cons_succ]; rfl) (by kernel_rfl) (by decide +kernel) (by decide +kernel) (by exact fun _ _ _ h => h) (Or.inl ⟨by rfl, ?_⟩) (by assumption) ?_; rotate_left; (· ((intro w hSw); (try dsimp only at hSw); go_simp; (try with_reducible rfl))); (try simp only [Act.put, List.setIfInBounds_toArray, List.set_cons_zero, List.set_cons_succ]))
          (refine wpAnyH_take (i := 6) (oi := _) (v := ?_) (by simp only [List.getElem?_toArray, List.getElem?_cons_zero, List.getElem?_cons_succ]; rfl) (by kernel_rfl) (by decide +kernel) (by decide +kernel) (by exact fun _ _ _ h => h) (Or.inl ⟨by rfl, ?_⟩) (by assumption) ?_; rotate_left; (· ((intro w hSw); (try dsimp only at hSw); go_simp; (try with_reducible rfl))); (try simp only [Act.put, List.setIfInBounds_toArray, List.set_cons_zero, List.set_cons_succ]))
          (refine wpAnyH_take (i := 7) (oi := _) (v := ?_) (by simp only [List.getElem?_toArray, List.getElem?_cons_zero, List.getElem?_cons_succ]; rfl) (by kernel_rfl) (by decide +kernel) (by decide +kernel) (by exact fun _ _ _ h => h) (Or.inl ⟨by rfl, ?_⟩) (by assumption) ?_; rotate_left; (· ((intro w hSw); (try dsimp only at hSw); go_simp; (try with_reducible rfl))); (try simp only [Act.put, List.setIfInBounds_toArray, List.set_cons_zero, List.set_cons_succ]))
          (refine wpAnyH_take (i := 10) (oi := _) (v := ?_) (by simp only [List.getElem?_toArray, List.getElem?_cons_zero, List.getElem?_cons_succ]; rfl) (by kernel_rfl) (by decide +kernel) (by decide +kernel) (by exact fun _ _ _ h => h) (Or.inl ⟨by rfl, ?_⟩) (by assumption) ?_; rotate_left; (· ((intro w hSw); (try dsimp only at hSw); go_simp; (try with_reducible rfl))); (try simp only [Act.put, List.setIfInBounds_toArray, List.set_cons_zero, List.set_cons_succ]))
          (refine wpAnyH_take (i := 11) (oi := _) (v := ?_) (by simp only [List.getElem?_toArray, List.getElem?_cons_zero, List.getElem?_cons_succ]; rfl) (by kernel_rfl) (by decide +kernel) (by decide +kernel) (by exact fun _ _ _ h => h) (Or.inl ⟨by rfl, ?_⟩) (by assumption) ?_; rotate_left; (· ((intro w hSw); (try dsimp only at hSw); go_simp; (try with_reducible rfl))); (try simp only [Act.put, List.setIfInBounds_toArray, List.set_cons_zero, List.set_cons_succ]))
          (refine wpAnyH_take (i := 13) (oi := _) (v := ?_) (by simp only [List.getElem?_toArray, List.getElem?_cons_zero, List.getElem?_cons_succ]; rfl) (by kernel_rfl) (by decide +kernel) (by decide +kernel) (by exact fun _ _ _ h => h) (Or.inl ⟨by rfl, ?_⟩) (by assumption) ?_; rotate_left; (· ((intro w hSw); (try dsimp only at hSw); go_simp; (try with_reducible rfl))); (try simp only [Act.put, List.setIfInBounds_toArray, List.set_cons_zero, List.set_cons_succ]))
          (refine wpAnyH_take (i := 14) (oi := _) (v := ?_) (by simp only [List.getElem?_toArray, List.getElem?_cons_zero, List.getElem?_cons_succ]; rfl) (by kernel_rfl) (by decide +kernel) (by decide +kernel) (by exact fun _ _ _ h => h) (Or.inl ⟨by rfl, ?_⟩) (by assumption) ?_; rotate_left; (· ((intro w hSw); (try dsimp only at hSw); go_simp; (try with_reducible rfl))); (try simp only [Act.put, List.setIfInBounds_toArray, List.set_cons_zero, List.set_cons_succ]))
          (refine wpAnyH_take (i := 16) (oi := _) (v := ?_) (by simp only [List.getElem?_toArray, List.getElem?_cons_zero, List.getElem?_cons_succ]; rfl) (by kernel_rfl) (by decide +kernel) (by decide +kernel) (by exact fun _ _ _ h => h) (Or.inl ⟨by rfl, ?_⟩) (by assumption) ?_; rotate_left; (· ((intro w hSw); (try dsimp only at hSw); go_simp; (try with_reducible rfl))); (try simp only [Act.put, List.setIfInBounds_toArray, List.set_cons_zero, List.set_cons_succ]))
          (refine wpAnyH_take (i := 17) (oi := _) (v := ?_) (by simp only [List.getElem?_toArray, List.getElem?_cons_zero, List.getElem?_cons_succ]; rfl) (by kernel_rfl) (by decide +kernel) (by decide +kernel) (by exact fun _ _ _ h => h) (Or.inl ⟨by rfl, ?_⟩) (by assumption) ?_; rotate_left; (· ((intro w hSw); (try dsimp only at hSw); go_simp; (try with_reducible rfl))); (try simp only [Act.put, List.setIfInBounds_toArray, List.set_cons_zero, List.set_cons_succ]))
          repeat' (first
            | (refine' wpAnyH_takeC (i := 8) (oi := _) (v := _) (by simp only [List.getElem?_toArray, List.getElem?_cons_zero, List.getElem?_cons_succ]; rfl) (by kernel_rfl) (by decide +kernel) (by decide +kernel) (by exact fun _ _ _ h => h) (takes_call (f := _) (args := _) (by rfl) ?_ ?_) (by assumption) ?_; rotate_left 4; (· ((intro w hSw); (with_reducible exact P1.out _))); rotate_right 1; (· ((intro w); go_simp)); (try simp only [Act.put, List.setIfInBounds_toArray, List.set_cons_zero, List.set_cons_succ]))
            | (refine wpAnyH_take (i := 9) (oi := _) (v := ?_) (by simp only [List.getElem?_toArray, List.getElem?_cons_zero, List.getElem?_cons_succ]; rfl) (by kernel_rfl) (by decide +kernel) (by decide +kernel) (by exact fun _ _ _ h => h) (Or.inl ⟨by rfl, ?_⟩) (by assumption) ?_; rotate_left; (· ((intro w hSw); (try dsimp only at hSw); go_simp; (try with_reducible rfl))); (try simp only [Act.put, List.setIfInBounds_toArray, List.set_cons_zero, List.set_cons_succ]))
            | (refine' wpAnyH_takeC (i := 12) (oi := _) (v := _) (by simp only [List.getElem?_toArray, List.getElem?_cons_zero, List.getElem?_cons_succ]; rfl) (by kernel_rfl) (by decide +kernel) (by decide +kernel) (by exact fun _ _ _ h => h) (takes_call (f := _) (args := _) (by rfl) ?_ ?_) (by assumption) ?_; rotate_left 4; (· ((intro w hSw); (with_reducible exact P2.out _))); rotate_right 1; (· ((intro w); go_simp)); (try simp only [Act.put, List.setIfInBounds_toArray, List.set_cons_zero, List.set_cons_succ]))
            | (refine' wpAnyH_takeC (i := 15) (oi := _) (v := _) (by simp only [List.getElem?_toArray, List.getElem?_cons_zero, List.getElem?_cons_succ]; rfl) (by kernel_rfl) (by decide +kernel) (by decide +kernel) (by exact fun _ _ _ h => h) (takes_call (f := _) (args := _) (by rfl) ?_ ?_) (by assumption) ?_; rotate_left 4; (· ((intro w hSw); (with_reducible exact P3.out _))); rotate_right 1; (· ((intro w); go_simp)); (try simp only [Act.put, List.setIfInBounds_toArray, List.set_cons_zero, List.set_cons_succ]))
            | (refine' wpAnyH_takeC (i := 18) (oi := _) (v := _) (by simp only [List.getElem?_toArray, List.getElem?_cons_zero, List.getElem?_cons_succ]; rfl) (by kernel_rfl) (by decide +kernel) (by decide +kernel) (by exact fun _ _ _ h => h) (takes_call (f := _) (args := _) (by rfl) ?_ ?_) (by assumption) ?_; rotate_left 4; (· ((intro w hSw); (with_reducible exact P4.out _))); rotate_right 1; (· ((intro w); go_simp)); (try simp only [Act.put, List.setIfInBounds_toArray, List.set_cons_zero, List.set_cons_succ]))
            | (refine wpAnyH_take (i := 19) (oi := _) (v := ?_) (by simp only [List.getElem?_toArray, List.getElem?_cons_zero, List.getElem?_cons_succ]; rfl) (by kernel_rfl) (by decide +kernel) (by decide +kernel) (by exact fun _ _ _ h => h) (Or.inl ⟨by rfl, ?_⟩) (by assumption) ?_; rotate_left; (· ((intro w hSw); (try dsimp only at hSw); go_simp; (try with_reducible rfl))); (try simp only [Act.put, List.setIfInBounds_toArray, List.set_cons_zero, List.set_cons_succ]))
            | (refine wpAnyH_take (i := 20) (oi := _) (v := ?_) (by simp only [List.getElem?_toArray, List.getElem?_cons_zero, List.getElem?_cons_succ]; rfl) (by kernel_rfl) (by decide +kernel) (by decide +kernel) (by exact fun _ _ _ h => h) (Or.inl ⟨by rfl, ?_⟩) (by assumption) ?_; rotate_left; (· ((intro w hSw); (try dsimp only at hSw); go_simp; (try with_reducible rfl))); (try simp only [Act.put, List.setIfInBounds_toArray, List.set_cons_zero, List.set_cons_succ]))
            | (refine wpAnyH_ready (rs := [2, 21]) (by decide +kernel) (by simp) (AllReadyH.cons (by simp only [List.getElem?_toArray, List.getElem?_cons_zero, List.getElem?_cons_succ]; rfl) (fun K hK => ?_) (AllReadyH.cons (by simp only [List.getElem?_toArray, List.getElem?_cons_zero, List.getElem?_cons_succ]; rfl) (fun K hK => ?_) AllReadyH.nil)); all_goals ((go_simp; (first | ((with_reducible refine (PR.out _ _ (by first | (go_simp; done) | simp)).mono ?_); rintro e w1 ⟨g, gc, rfl, g1, g2, g3, g4, g5, g6, hb1⟩; (repeat (with_reducible (replace hb1 := Below.undrew hb1))); obtain ⟨hc1, hf1⟩ := bcell hb1; have hz1 := hb1.size; (repeat (first | rw [World.size_alloc] at hz1 | rw [World.size_drew] at hz1 | rw [World.size_setCell] at hz1)); (try have : J < w1.heap.size := by omega); (try have : J < w1.heap.size + 1 := by omega); (try have : J < w1.heap.size + 1 + 1 := by omega); (try have : J < w1.heap.size + 1 + 1 + 1 := by omega); (try have : X.heap.size < w1.heap.size := by omega); (try have : X.heap.size < w1.heap.size + 1 := by omega); (try have : X.heap.size < w1.heap.size + 1 + 1 := by omega); (try have : X.heap.size < w1.heap.size + 1 + 1 + 1 := by omega)) | skip)); (refine hK.out _ _ ?_ (fun hHeld => ?_)); (· ((try dsimp only); (first | (go_simp; done) | (simp [*, go_sem, World.cell?_alloc_past]; done) | (simp [*, go_sem, World.cell?_alloc_past, World.cell?_setCell_far]; done)))); (clear hK K; (try simp only [Act.put, List.setIfInBounds_toArray, List.set_cons_zero, List.set_cons_succ]))))
            | (refine wpAnyH_ready (rs := [2]) (by decide +kernel) (by simp) (AllReadyH.cons (by simp only [List.getElem?_toArray, List.getElem?_cons_zero, List.getElem?_cons_succ]; rfl) (fun K hK => ?_) AllReadyH.nil); all_goals ((go_simp; (first | ((with_reducible refine (PR.out _ _ (by first | (go_simp; done) | simp)).mono ?_); rintro e w1 ⟨g, gc, rfl, g1, g2, g3, g4, g5, g6, hb1⟩; (repeat (with_reducible (replace hb1 := Below.undrew hb1))); obtain ⟨hc1, hf1⟩ := bcell hb1; have hz1 := hb1.size; (repeat (first | rw [World.size_alloc] at hz1 | rw [World.size_drew] at hz1 | rw [World.size_setCell] at hz1)); (try have : J < w1.heap.size := by omega); (try have : J < w1.heap.size + 1 := by omega); (try have : J < w1.heap.size + 1 + 1 := by omega); (try have : J < w1.heap.size + 1 + 1 + 1 := by omega); (try have : X.heap.size < w1.heap.size := by omega); (try have : X.heap.size < w1.heap.size + 1 := by omega); (try have : X.heap.size < w1.heap.size + 1 + 1 := by omega); (try have : X.heap.size < w1.heap.size + 1 + 1 + 1 := by omega)) | skip)); (refine hK.out _ _ ?_ (fun hHeld => ?_)); (· ((try dsimp only); (first | (go_simp; done) | (simp [*, go_sem, World.cell?_alloc_past]; done) | (simp [*, go_sem, World.cell?_alloc_past, World.cell?_setCell_far]; done)))); (clear hK K; (try simp only [Act.put, List.setIfInBounds_toArray, List.set_cons_zero, List.set_cons_succ]))))
            | (refine wpAnyH_ready (rs := [3, 21]) (by decide +kernel) (by simp) (AllReadyH.cons (by simp only [List.getElem?_toArray, List.getElem?_cons_zero, List.getElem?_cons_succ]; rfl) (fun K hK => ?_) (AllReadyH.cons (by simp only [List.getElem?_toArray, List.getElem?_cons_zero, List.getElem?_cons_succ]; rfl) (fun K hK => ?_) AllReadyH.nil)); all_goals ((go_simp; (first | ((with_reducible refine (PR.out _ _ (by first | (go_simp; done) | simp)).mono ?_); rintro e w1 ⟨g, gc, rfl, g1, g2, g3, g4, g5, g6, hb1⟩; (repeat (with_reducible (replace hb1 := Below.undrew hb1))); obtain ⟨hc1, hf1⟩ := bcell hb1; have hz1 := hb1.size; (repeat (first | rw [World.size_alloc] at hz1 | rw [World.size_drew] at hz1 | rw [World.size_setCell] at hz1)); (try have : J < w1.heap.size := by omega); (try have : J < w1.heap.size + 1 := by omega); (try have : J < w1.heap.size + 1 + 1 := by omega); (try have : J < w1.heap.size + 1 + 1 + 1 := by omega); (try have : X.heap.size < w1.heap.size := by omega); (try have : X.heap.size < w1.heap.size + 1 := by omega); (try have : X.heap.size < w1.heap.size + 1 + 1 := by omega); (try have : X.heap.size < w1.heap.size + 1 + 1 + 1 := by omega)) | skip)); (refine hK.out _ _ ?_ (fun hHeld => ?_)); (· ((try dsimp only); (first | (go_simp; done) | (simp [*, go_sem, World.cell?_alloc_past]; done) | (simp [*, go_sem, World.cell?_alloc_past, World.cell?_setCell_far]; done)))); (clear hK K; (try simp only [Act.put, List.setIfInBounds_toArray, List.set_cons_zero, List.set_cons_succ]))))
            | (refine wpAnyH_ready (rs := [3]) (by decide +kernel) (by simp) (AllReadyH.cons (by simp only [List.getElem?_toArray, List.getElem?_cons_zero, List.getElem?_cons_succ]; rfl) (fun K hK => ?_) AllReadyH.nil); all_goals ((go_simp; (first | ((with_reducible refine (PR.out _ _ (by first | (go_simp; done) | simp)).mono ?_); rintro e w1 ⟨g, gc, rfl, g1, g2, g3, g4, g5, g6, hb1⟩; (repeat (with_reducible (replace hb1 := Below.undrew hb1))); obtain ⟨hc1, hf1⟩ := bcell hb1; have hz1 := hb1.size; (repeat (first | rw [World.size_alloc] at hz1 | rw [World.size_drew] at hz1 | rw [World.size_setCell] at hz1)); (try have : J < w1.heap.size := by omega); (try have : J < w1.heap.size + 1 := by omega); (try have : J < w1.heap.size + 1 + 1 := by omega); (try have : J < w1.heap.size + 1 + 1 + 1 := by omega); (try have : X.heap.size < w1.heap.size := by omega); (try have : X.heap.size < w1.heap.size + 1 := by omega); (try have : X.heap.size < w1.heap.size + 1 + 1 := by omega); (try have : X.heap.size < w1.heap.size + 1 + 1 + 1 := by omega)) | skip)); (refine hK.out _ _ ?_ (fun hHeld => ?_)); (· ((try dsimp only); (first | (go_simp; done) | (simp [*, go_sem, World.cell?_alloc_past]; done) | (simp [*, go_sem, World.cell?_alloc_past, World.cell?_setCell_far]; done)))); (clear hK K; (try simp only [Act.put, List.setIfInBounds_toArray, List.set_cons_zero, List.set_cons_succ]))))
            | (refine wpAnyH_ready (rs := [4, 21]) (by decide +kernel) (by simp) (AllReadyH.cons (by simp only [List.getElem?_toArray, List.getElem?_cons_zero, List.getElem?_cons_succ]; rfl) (fun K hK => ?_) (AllReadyH.cons (by simp only [List.getElem?_toArray, List.getElem?_cons_zero, List.getElem?_cons_succ]; rfl) (fun K hK => ?_) AllReadyH.nil)); all_goals ((go_simp; (first | ((with_reducible refine (PR.out _ _ (by first | (go_simp; done) | simp)).mono ?_); rintro e w1 ⟨g, gc, rfl, g1, g2, g3, g4, g5, g6, hb1⟩; (repeat (with_reducible (replace hb1 := Below.undrew hb1))); obtain ⟨hc1, hf1⟩ := bcell hb1; have hz1 := hb1.size; (repeat (first | rw [World.size_alloc] at hz1 | rw [World.size_drew] at hz1 | rw [World.size_setCell] at hz1)); (try have : J < w1.heap.size := by omega); (try have : J < w1.heap.size + 1 := by omega); (try have : J < w1.heap.size + 1 + 1 := by omega); (try have : J < w1.heap.size + 1 + 1 + 1 := by omega); (try have : X.heap.size < w1.heap.size := by omega); (try have : X.heap.size < w1.heap.size + 1 := by omega); (try have : X.heap.size < w1.heap.size + 1 + 1 := by omega); (try have : X.heap.size < w1.heap.size + 1 + 1 + 1 := by omega)) | skip)); (refine hK.out _ _ ?_ (fun hHeld => ?_)); (· ((try dsimp only); (first | (go_simp; done) | (simp [*, go_sem, World.cell?_alloc_past]; done) | (simp [*, go_sem, World.cell?_alloc_past, World.cell?_setCell_far]; done)))); (clear hK K; (try simp only [Act.put, List.setIfInBounds_toArray, List.set_cons_zero, List.set_cons_succ]))))
            | (refine wpAnyH_ready (rs := [4]) (by decide +kernel) (by simp) (AllReadyH.cons (by simp only [List.getElem?_toArray, List.getElem?_cons_zero, List.getElem?_cons_succ]; rfl) (fun K hK => ?_) AllReadyH.nil); all_goals ((go_simp; (first | ((with_reducible refine (PR.out _ _ (by first | (go_simp; done) | simp)).mono ?_); rintro e w1 ⟨g, gc, rfl, g1, g2, g3, g4, g5, g6, hb1⟩; (repeat (with_reducible (replace hb1 := Below.undrew hb1))); obtain ⟨hc1, hf1⟩ := bcell hb1; have hz1 := hb1.size; (repeat (first | rw [World.size_alloc] at hz1 | rw [World.size_drew] at hz1 | rw [World.size_setCell] at hz1)); (try have : J < w1.heap.size := by omega); (try have : J < w1.heap.size + 1 := by omega); (try have : J < w1.heap.size + 1 + 1 := by omega); (try have : J < w1.heap.size + 1 + 1 + 1 := by omega); (try have : X.heap.size < w1.heap.size := by omega); (try have : X.heap.size < w1.heap.size + 1 := by omega); (try have : X.heap.size < w1.heap.size + 1 + 1 := by omega); (try have : X.heap.size < w1.heap.size + 1 + 1 + 1 := by omega)) | skip)); (refine hK.out _ _ ?_ (fun hHeld => ?_)); (· ((try dsimp only); (first | (go_simp; done) | (simp [*, go_sem, World.cell?_alloc_past]; done) | (simp [*, go_sem, World.cell?_alloc_past, World.cell?_setCell_far]; done)))); (clear hK K; (try simp only [Act.put, List.setIfInBounds_toArray, List.set_cons_zero, List.set_cons_succ]))))
            | (refine wpAnyH_ready (rs := [5, 21]) (by decide +kernel) (by simp) (AllReadyH.cons (by simp only [List.getElem?_toArray, List.getElem?_cons_zero, List.getElem?_cons_succ]; rfl) (fun K hK => ?_) (AllReadyH.cons (by simp only [List.getElem?_toArray, List.getElem?_cons_zero, List.getElem?_cons_succ]; rfl) (fun K hK => ?_) AllReadyH.nil)); all_goals ((go_simp; (first | ((with_reducible refine (PR.out _ _ (by first | (go_simp; done) | simp)).mono ?_); rintro e w1 ⟨g, gc, rfl, g1, g2, g3, g4, g5, g6, hb1⟩; (repeat (with_reducible (replace hb1 := Below.undrew hb1))); obtain ⟨hc1, hf1⟩ := bcell hb1; have hz1 := hb1.size; (repeat (first | rw [World.size_alloc] at hz1 | rw [World.size_drew] at hz1 | rw [World.size_setCell] at hz1)); (try have : J < w1.heap.size := by omega); (try have : J < w1.heap.size + 1 := by omega); (try have : J < w1.heap.size + 1 + 1 := by omega); (try have : J < w1.heap.size + 1 + 1 + 1 := by omega); (try have : X.heap.size < w1.heap.size := by omega); (try have : X.heap.size < w1.heap.size + 1 := by omega); (try have : X.heap.size < w1.heap.size + 1 + 1 := by omega); (try have : X.heap.size < w1.heap.size + 1 + 1 + 1 := by omega)) | skip)); (refine hK.out _ _ ?_ (fun hHeld => ?_)); (· ((try dsimp only); (first | (go_simp; done) | (simp [*, go_sem, World.cell?_alloc_past]; done) | (simp [*, go_sem, World.cell?_alloc_past, World.cell?_setCell_far]; done)))); (clear hK K; (try simp only [Act.put, List.setIfInBounds_toArray, List.set_cons_zero, List.set_cons_succ]))))
            | (refine wpAnyH_ready (rs := [5]) (by decide +kernel) (by simp) (AllReadyH.cons (by simp only [List.getElem?_toArray, List.getElem?_cons_zero, List.getElem?_cons_succ]; rfl) (fun K hK => ?_) AllReadyH.nil); all_goals ((go_simp; (first | ((with_reducible refine (PR.out _ _ (by first | (go_simp; done) | simp)).mono ?_); rintro e w1 ⟨g, gc, rfl, g1, g2, g3, g4, g5, g6, hb1⟩; (repeat (with_reducible (replace hb1 := Below.undrew hb1))); obtain ⟨hc1, hf1⟩ := bcell hb1; have hz1 := hb1.size; (repeat (first | rw [World.size_alloc] at hz1 | rw [World.size_drew] at hz1 | rw [World.size_setCell] at hz1)); (try have : J < w1.heap.size := by omega); (try have : J < w1.heap.size + 1 := by omega); (try have : J < w1.heap.size + 1 + 1 := by omega); (try have : J < w1.heap.size + 1 + 1 + 1 := by omega); (try have : X.heap.size < w1.heap.size := by omega); (try have : X.heap.size < w1.heap.size + 1 := by omega); (try have : X.heap.size < w1.heap.size + 1 + 1 := by omega); (try have : X.heap.size < w1.heap.size + 1 + 1 + 1 := by omega)) | skip)); (refine hK.out _ _ ?_ (fun hHeld => ?_)); (· ((try dsimp only); (first | (go_simp; done) | (simp [*, go_sem, World.cell?_alloc_past]; done) | (simp [*, go_sem, World.cell?_alloc_past, World.cell?_setCell_far]; done)))); (clear hK K; (try simp only [Act.put, List.setIfInBounds_toArray, List.set_cons_zero, List.set_cons_succ]))))
            | (refine wpAnyH_ready (rs := [21]) (by decide +kernel) (by simp) (AllReadyH.cons (by simp only [List.getElem?_toArray, List.getElem?_cons_zero, List.getElem?_cons_succ]; rfl) (fun K hK => ?_) AllReadyH.nil); all_goals ((go_simp; (first | ((with_reducible refine (PR.out _ _ (by first | (go_simp; done) | simp)).mono ?_); rintro e w1 ⟨g, gc, rfl, g1, g2, g3, g4, g5, g6, hb1⟩; (repeat (with_reducible (replace hb1 := Below.undrew hb1))); obtain ⟨hc1, hf1⟩ := bcell hb1; have hz1 := hb1.size; (repeat (first | rw [World.size_alloc] at hz1 | rw [World.size_drew] at hz1 | rw [World.size_setCell] at hz1)); (try have : J < w1.heap.size := by omega); (try have : J < w1.heap.size + 1 := by omega); (try have : J < w1.heap.size + 1 + 1 := by omega); (try have : J < w1.heap.size + 1 + 1 + 1 := by omega); (try have : X.heap.size < w1.heap.size := by omega); (try have : X.heap.size < w1.heap.size + 1 := by omega); (try have : X.heap.size < w1.heap.size + 1 + 1 := by omega); (try have : X.heap.size < w1.heap.size + 1 + 1 + 1 := by omega)) | skip)); (refine hK.out _ _ ?_ (fun hHeld => ?_)); (· ((try dsimp only); (first | (go_simp; done) | (simp [*, go_sem, World.cell?_alloc_past]; done) | (simp [*, go_sem, World.cell?_alloc_past, World.cell?_setCell_far]; done)))); (clear hK K; (try simp only [Act.put, List.setIfInBounds_toArray, List.set_cons_zero, List.set_cons_succ]))))
            | (refine wpAnyH_ready (rs := [22]) (by decide +kernel) (by simp) (AllReadyH.cons (by simp only [List.getElem?_toArray, List.getElem?_cons_zero, List.getElem?_cons_succ]; rfl) (fun K hK => ?_) AllReadyH.nil); all_goals ((go_simp; (first | ((with_reducible refine (PR.out _ _ (by first | (go_simp; done) | simp)).mono ?_); rintro e w1 ⟨g, gc, rfl, g1, g2, g3, g4, g5, g6, hb1⟩; (repeat (with_reducible (replace hb1 := Below.undrew hb1))); obtain ⟨hc1, hf1⟩ := bcell hb1; have hz1 := hb1.size; (repeat (first | rw [World.size_alloc] at hz1 | rw [World.size_drew] at hz1 | rw [World.size_setCell] at hz1)); (try have : J < w1.heap.size := by omega); (try have : J < w1.heap.size + 1 := by omega); (try have : J < w1.heap.size + 1 + 1 := by omega); (try have : J < w1.heap.size + 1 + 1 + 1 := by omega); (try have : X.heap.size < w1.heap.size := by omega); (try have : X.heap.size < w1.heap.size + 1 := by omega); (try have : X.heap.size < w1.heap.size + 1 + 1 := by omega); (try have : X.heap.size < w1.heap.size + 1 + 1 + 1 := by omega)) | skip)); (refine hK.out _ _ ?_ (fun hHeld => ?_)); (· ((try dsimp only); (first | (go_simp; done) | (simp [*, go_sem, World.cell?_alloc_past]; done) | (simp [*, go_sem, World.cell?_alloc_past, World.cell?_setCell_far]; done)))); (clear hK K; (try simp only [Act.put, List.setIfInBounds_toArray, List.set_cons_zero, List.set_cons_succ]))))
            | (refine wpAnyH_done (by decide +kernel) ?_ _)
            | fail)
          go_goals
          all_goals go_wp2_with fail
          all_goals go_meet
          all_goals refine Lib.hid ?_
          all_goals first
            | ((with_reducible refine MadeOf.new8 _ _ _ _ _ _ _ ?_ ?_); (· simp); (· (repeat' (first | (with_reducible exact Below.refl _ _) | (with_reducible assumption) | (with_reducible refine Below.alloc ?_ ?_ _) | (with_reducible refine Below.drew ?_) | (with_reducible refine Below.stepG ?_ (by assumption) ?_) | (with_reducible refine Below.setCell ?_ ?_ _) | omega | (dsimp only; omega) | (simp; done) | (simp; omega)))))
            | ((with_reducible refine MadeOf.put8 _ _ _ _ _ _ (Row8.mk1 ?_ ?_ hb1) ?_ ?_); (· simp); (· rfl); (· (repeat' (first | (with_reducible exact Below.refl _ _) | (with_reducible assumption) | (with_reducible refine Below.alloc ?_ ?_ _) | (with_reducible refine Below.drew ?_) | (with_reducible refine Below.stepG ?_ (by assumption) ?_) | (with_reducible refine Below.setCell ?_ ?_ _) | omega | (dsimp only; omega) | (simp; done) | (simp; omega)))); (· (first | omega | (simp; done) | (simp; omega))))
            | ((with_reducible refine MadeOf.put8 _ _ _ _ _ _ (Row8.mk2 ?_ ?_ hb1) ?_ ?_); (· simp); (· rfl); (· (repeat' (first | (with_reducible exact Below.refl _ _) | (with_reducible assumption) | (with_reducible refine Below.alloc ?_ ?_ _) | (with_reducible refine Below.drew ?_) | (with_reducible refine Below.stepG ?_ (by assumption) ?_) | (with_reducible refine Below.setCell ?_ ?_ _) | omega | (dsimp only; omega) | (simp; done) | (simp; omega)))); (· (first | omega | (simp; done) | (simp; omega))))
        case rest =>
          obtain ⟨A, hA0, HA0, HAB0, hXA⟩ := hcut.out
          subst hA0
          clear hcut
          have d3w := (HAB0.cell (p := ⟨J, 3, none⟩) hXs).trans q3
          have hAl := HA0.lt
          have HWB := Lib.hid (HXB.out.trans (HAB0.mono (by have := HXB.out.size; omega)))
          have hWA : wr.heap.size ≤ A := by have := HXB.out.size; omega
          have HTB := Lib.hid (take_bid HR.out)
          have ew5 := E5.out
          generalize presN r.pre = N at *
          generalize presK r.pre = K at *
          have a0 : wc.cell? ⟨A, 0, none⟩ = some (.bool false) := HA0.at_ 0 _ rfl
          have a1 : wc.cell? ⟨A, 1, none⟩ = some (.int .u64 (hiOf false N)) := HA0.at_ 1 _ rfl
          have a2 : wc.cell? ⟨A, 2, none⟩ = some (.int .u64 (loOf N)) := HA0.at_ 2 _ rfl
          have a3 : wc.cell? ⟨A, 3, none⟩ = some (.int .i64 (K : Nat)) := HA0.at_ 3 _ rfl
          have a4 : wc.cell? ⟨A, 4, none⟩ = some (.int .i64 (1 + (p1 : Int))) := HA0.at_ 4 _ rfl
          have a5 : wc.cell? ⟨A, 5, none⟩ = some (.int .i64 (p2 : Nat)) := HA0.at_ 5 _ rfl
          have a6 : wc.cell? ⟨A, 6, none⟩ = some (.int .i64 (p3 : Nat)) := HA0.at_ 6 _ rfl
          have a7 : wc.cell? ⟨A, 7, none⟩ = some (.int .i64 (1 + (p4 : Int))) := HA0.at_ 7 _ rfl
          have f6 := HA0.fz 6 (by decide)
          clear HA0 HAB0 q0 q1 q2 q3 q4 HXB x0 x1 x2 x3 x4 l1 l4 PR P1 P2 P3 P4
          have hwA : w.heap.size ≤ A := by omega
          by_cases hz : r.met.tdiv 5 % 5 = 0
          · rw [hz] at P5
            rw [hz, if_pos rfl] at HRO
            clear hz
            go_wp2_with (first | ((with_reducible refine (P5.out _).mono ?_); rintro e w' ⟨rfl, rfl⟩) | (at_builtin; refine stop_at ?_; intro G hG))
            have HSO := Lib.hid (HO.out.below (HWB.out.setCell (p := ⟨A, 6, none⟩) hWA (.int .i64 999)))
            rw [← hG.out]; clear hG G
            refine wpList_append_any rfl _ _ 79 84 8 64 _ rfl eiOf w.heap.size _ (((bs.take k).map bidO).map ofCells) rfl ((HSO.out.alloc _)) _ (([(⟨N, K, 1 + p1, p2, 999, 1 + p4⟩ : OfD)]).map ofCells) rfl (sl_of3 N K p1 p2 p4 (by (first | omega | (simp; done) | (simp; omega)))) (by intro c hc; obtain ⟨r, _, rfl⟩ := List.mem_map.1 hc; exact ofCells_one r) (by have hl := hbl.out; first | omega | (simp; omega)) (by decide) (by first | omega | (simp; done) | (simp; omega)) ?_
            intro v4 w4 hown4 hb4
            rw [← List.map_append] at hown4
            obtain ⟨xs4, hxs4⟩ : ∃ x : List OfD, x = ((bs.take k).map bidO) ++ ([(⟨N, K, 1 + p1, p2, 999, 1 + p4⟩ : OfD)]) := ⟨_, rfl⟩
            rw [← hxs4] at hown4
            have hl4 : xs4.length = ((bs.take k).map bidO).length + ([(⟨N, K, 1 + p1, p2, 999, 1 + p4⟩ : OfD)]).length := by rw [hxs4, List.length_append]
            have HX4 := Lib.hid hxs4
            clear hxs4
            have HL4 := Lib.hid hl4
            clear hl4
            obtain ⟨a4, cap4, rfl⟩ := hown4.shape
            rw [List.length_map] at hown4 ⊢
            have HO4 := Lib.hid hown4
            clear hown4
            obtain ⟨hc4, hf4⟩ := bcellB hb4; have hz4 := hb4.size; (repeat (first | rw [World.size_alloc] at hz4 | rw [World.size_drew] at hz4 | rw [World.size_setCell] at hz4)); (try have : J < w4.heap.size := by omega); (try have : J < w4.heap.size + 1 := by omega); (try have : J < w4.heap.size + 1 + 1 := by omega); (try have : J < w4.heap.size + 1 + 1 + 1 := by omega); (try have : X.heap.size < w4.heap.size := by omega); (try have : X.heap.size < w4.heap.size + 1 := by omega); (try have : X.heap.size < w4.heap.size + 1 + 1 := by omega); (try have : X.heap.size < w4.heap.size + 1 + 1 + 1 := by omega); (try have : w1.heap.size < w4.heap.size := by omega); (try have : w1.heap.size < w4.heap.size + 1 := by omega); (try have : w1.heap.size < w4.heap.size + 1 + 1 := by omega); (try have : w1.heap.size < w4.heap.size + 1 + 1 + 1 := by omega); (try have : w1.heap.size + 1 < w4.heap.size := by omega); (try have : w1.heap.size + 1 < w4.heap.size + 1 := by omega); (try have : w1.heap.size + 1 < w4.heap.size + 1 + 1 := by omega); (try have : w1.heap.size + 1 < w4.heap.size + 1 + 1 + 1 := by omega)
            have HBW := Lib.hid ((((Below.refl w.heap.size wc).setCell (p := ⟨A, 6, none⟩) hwA (.int .i64 999)).alloc (by have := HWB.out.size; simp; omega) _).trans hb4)
            clear hb4 hc4 hf4 HSO
            have HX2 : Hid (Own w4 w.heap.size 84 8 (.slice a4 xs4.length cap4) (((bs.take (k + 1)).map bidO).map ofCells)) := by
              show Wk.Own _ _ _ _ _ _
              rw [HTB.out, HRO.out, ← HX4.out]
              exact HO4.out
            have HB4 := Lib.hid (HB.out.trans (HWB.out.mono hzr) |>.trans HBW.out)
            clear HO4 HX4 HL4
            go_wp2
            go_roundw
            case rel => exact ⟨k + 1, by omega, by omega, by go_num, HX2, HB4⟩
            case measure => simp [intOf]; omega
          · have hne : ((r.met.tdiv 5 % 5) == 0) = false := by rw [beq_eq_false_iff_ne]; exact hz
            rw [if_neg hz] at HRO
            go_wp2_with (first | ((with_reducible refine (P5.out _).mono ?_); rintro e w' ⟨rfl, rfl⟩) | (at_builtin; refine stop_at ?_; intro G hG))
            rw [← hG.out]; clear hG G
            refine wpList_append_any rfl _ _ 79 84 8 64 _ rfl eiOf w.heap.size _ (((bs.take k).map bidO).map ofCells) rfl (((HO.out.below HWB.out).alloc _)) _ (([(⟨N, K, 1 + p1, p2, p3, 1 + p4⟩ : OfD)]).map ofCells) rfl (sl_of2 N K p1 p2 p3 p4 (by (first | omega | (simp; done) | (simp; omega)))) (by intro c hc; obtain ⟨r, _, rfl⟩ := List.mem_map.1 hc; exact ofCells_one r) (by have hl := hbl.out; first | omega | (simp; omega)) (by decide) (by first | omega | (simp; done) | (simp; omega)) ?_
            intro v4 w4 hown4 hb4
            rw [← List.map_append] at hown4
            obtain ⟨xs4, hxs4⟩ : ∃ x : List OfD, x = ((bs.take k).map bidO) ++ ([(⟨N, K, 1 + p1, p2, p3, 1 + p4⟩ : OfD)]) := ⟨_, rfl⟩
            rw [← hxs4] at hown4
            have hl4 : xs4.length = ((bs.take k).map bidO).length + ([(⟨N, K, 1 + p1, p2, p3, 1 + p4⟩ : OfD)]).length := by rw [hxs4, List.length_append]
            have HX4 := Lib.hid hxs4
            clear hxs4
            have HL4 := Lib.hid hl4
            clear hl4
            obtain ⟨a4, cap4, rfl⟩ := hown4.shape
            rw [List.length_map] at hown4 ⊢
            have HO4 := Lib.hid hown4
            clear hown4
            obtain ⟨hc4, hf4⟩ := bcellB hb4; have hz4 := hb4.size; (repeat (first | rw [World.size_alloc] at hz4 | rw [World.size_drew] at hz4 | rw [World.size_setCell] at hz4)); (try have : J < w4.heap.size := by omega); (try have : J < w4.heap.size + 1 := by omega); (try have : J < w4.heap.size + 1 + 1 := by omega); (try have : J < w4.heap.size + 1 + 1 + 1 := by omega); (try have : X.heap.size < w4.heap.size := by omega); (try have : X.heap.size < w4.heap.size + 1 := by omega); (try have : X.heap.size < w4.heap.size + 1 + 1 := by omega); (try have : X.heap.size < w4.heap.size + 1 + 1 + 1 := by omega); (try have : w1.heap.size < w4.heap.size := by omega); (try have : w1.heap.size < w4.heap.size + 1 := by omega); (try have : w1.heap.size < w4.heap.size + 1 + 1 := by omega); (try have : w1.heap.size < w4.heap.size + 1 + 1 + 1 := by omega); (try have : w1.heap.size + 1 < w4.heap.size := by omega); (try have : w1.heap.size + 1 < w4.heap.size + 1 := by omega); (try have : w1.heap.size + 1 < w4.heap.size + 1 + 1 := by omega); (try have : w1.heap.size + 1 < w4.heap.size + 1 + 1 + 1 := by omega)
            have HBW := Lib.hid (((Below.refl w.heap.size wc).alloc (by have := HWB.out.size; omega) _).trans hb4)
            clear hb4 hc4 hf4
            have HX2 : Hid (Own w4 w.heap.size 84 8 (.slice a4 xs4.length cap4) (((bs.take (k + 1)).map bidO).map ofCells)) := by
              show Wk.Own _ _ _ _ _ _
              rw [HTB.out, HRO.out, ← HX4.out]
              exact HO4.out
            have HB4 := Lib.hid (HB.out.trans (HWB.out.mono hzr) |>.trans HBW.out)
            clear HO4 HX4 HL4
            go_wp2
            go_roundw
            case rel => exact ⟨k + 1, by omega, by omega, by go_num, HX2, HB4⟩
            case measure => simp [intOf]; omega
      · have hd : decide ((k : Int) < n) = false := by simp; omega
        obtain rfl : k = n := by omega
        go_wp2
        go_returns
        exact ⟨_, rfl, HO.out, HB.out⟩
    · have hd : decide ((k : Int) < len) = false := by simp; omega
      obtain rfl : k = len := by omega
      go_wp2
      go_returns
      exact ⟨_, rfl, by have := HO.out; have hl := hbl.out; rw [List.take_of_length_le (by omega)] at this ⊢; exact this, HB.out⟩
end Go.Proofs.Ytllemhknmleklaa
