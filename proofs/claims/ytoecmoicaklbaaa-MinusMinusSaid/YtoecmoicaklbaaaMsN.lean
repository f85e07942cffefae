
/- A merge of prefixes that are near 10.0.0.0; Near. -/
import Derived.Test.YtoecmoicaklbaaaMg4
import Derived.Test.YtoecmoicaklbaaaMs0
import Derived.Test.YtoecmoicaklbaaaMs2
set_option linter.unusedVariables false
set_option linter.unusedSimpArgs false
namespace Go.Proofs.Ytoecmoicaklbaaa
open Go.RowKit Go.Sort Wc Wk


def nearM (x : Int) : Nat := 167772152 + (x % 540).toNat
theorem nearM_fits (x : Int) : Fits false (nearM x) := by
  have h2 := Int.emod_lt_of_pos x (show (0 : Int) < 540 by decide)
  unfold Fits wd nearM
  simp
  omega
theorem nearM_any (x : Int) (w : World) : Calls Try.prog 18 #[.int .i64 x] w fun e w' => e = .returned (Value.agg #[.bool false, .int .u64 (hiOf false (nearM x)), .int .u64 (loOf (nearM x))]) ∧ Below w.heap.size w w' := by
  have P := Lib.hid (fun w => picked_any x 540 w (by decide) (by decide))
  have h1 := Int.emod_nonneg x (show (540 : Int) ≠ 0 by decide)
  have h2 := Int.emod_lt_of_pos x (show (0 : Int) < 540 by decide)
  have hn := nearM_fits x
  have hN := Lib.hid (loOf_false hn)
  have hd : ((nearM x : Nat) : Int) = 167772152 + x % 540 := by unfold nearM; omega
  rw [hN.out, hd]
  clear hN hd hn
  generalize x % 540 = r at *
  have e1 : wrap64 (167772152 + r) = 167772152 + r := wrap64_in (by omega) (by omega)
  have e2 : IntKind.i64.wrap (167772152 + r) = 167772152 + r := IntWalk.i64_in _ (by omega)
  have e3 : IntKind.u64.wrap (167772152 + r) = 167772152 + r := by
    rw [show IntKind.u64.wrap (167772152 + r) = (167772152 + r) % 18446744073709551616 from rfl]; omega
  go_enter Try.func18, Try.ntmps18
  go_wp2_with (first | ((with_reducible refine (P.out _).mono ?_); rintro e w' ⟨rfl, rfl⟩))
  go_returns
  exact ⟨rfl, by (repeat' (first | (with_reducible exact Below.refl _ _) | (with_reducible assumption) | (with_reducible refine Below.al ?_ _) | (with_reducible refine Below.dr ?_) | (with_reducible refine Below.step ?_ (by assumption)) | (with_reducible refine Below.set ?_ ?_ _) | omega | (dsimp only; omega) | (simp; done) | (simp; omega)))⟩
def prOf (x : Int) : Nat × Nat := (presN x, presK x)
theorem presRows (Z : List Int) : Z.map presRow = (Z.map prOf).map (pfC false) := by rw [List.map_map]; rfl
/-- Prefixes near the one address. -/
def NearL (l : List (Nat × Nat)) : Prop := ∀ x ∈ l, VP false x.1 x.2 ∧ 167772160 ≤ x.1 ∧ lastN 32 x.1 x.2 < 167773184
theorem prOf_near (x : Int) : VP false (prOf x).1 (prOf x).2 ∧ 167772160 ≤ (prOf x).1 ∧ lastN 32 (prOf x).1 (prOf x).2 < 167773184 := by
  refine ⟨pres_vp x, ?_⟩
  simp only [prOf, presN]
  have h0 := Int.emod_nonneg (x.tdiv 9) (show (512 : Int) ≠ 0 by decide)
  have h2 := Int.emod_lt_of_pos (x.tdiv 9) (show (0 : Int) < 512 by decide)
  obtain ⟨q, hq⟩ : ∃ q, q = (x.tdiv 9 % 512).toNat := ⟨_, rfl⟩
  have hq2 : q < 512 := by omega
  rw [← hq]
  have k1 : 24 ≤ presK x := by unfold presK; omega
  have k2 := presK_le x
  generalize presK x = k at *
  unfold lastN cutN
  have : k = 24 ∨ k = 25 ∨ k = 26 ∨ k = 27 ∨ k = 28 ∨ k = 29 ∨ k = 30 ∨ k = 31 ∨ k = 32 := by omega
  rcases this with rfl | rfl | rfl | rfl | rfl | rfl | rfl | rfl | rfl <;> simp <;> omega
theorem NearL.pres (Z : List Int) : NearL (Z.map prOf) := fun x hx => by
  obtain ⟨z, _, rfl⟩ := List.mem_map.1 hx
  exact prOf_near z
theorem NearL.vp {l : List (Nat × Nat)} (h : NearL l) : ∀ x ∈ l, VP false x.1 x.2 := fun x hx => (h x hx).1
theorem spans_same {six : Bool} {l l' ys ys' : List (Nat × Nat)} (hv : ∀ x ∈ l, VP six x.1 x.2) (hv' : ∀ x ∈ l', VP six x.1 x.2) (hs : SortR l ys) (hs' : SortR l' ys') (h : ∀ a, InP six l a ↔ InP six l' a) : spansL six ys = spansL six ys' := by
  obtain ⟨c1, c2, _, c4⟩ := spans_canon ys' (fun x hx => hv' x (hs'.1.mem_iff.1 hx)) hs'.fst
  exact spans_is hv hs c1 (fun s hs => (c4 s hs).1) (fun a => (h a).trans ((InP.perm hs'.1).symm.trans (c2 a).symm))
theorem NearL.sum {l ys : List (Nat × Nat)} (h : NearL l) (hl : l.length ≤ 80) (hs : SortR l ys) : sumS (spansL false ys) ≤ 1048575 := by
  have hv : ∀ x ∈ ys, VP false x.1 x.2 := fun x hx => h.vp x (hs.1.mem_iff.1 hx)
  obtain ⟨c1, c2, _, c4⟩ := spans_canon ys hv hs.fst
  obtain ⟨g1, _⟩ := spansL_good ys hv
  have hyl : ys.length ≤ 80 := by rw [hs.1.length_eq]; exact hl
  refine Nat.le_trans (sum_le (K := 1024) fun s hs' => ?_) (by omega)
  have h1 := (c4 s hs').1
  obtain ⟨x, hx, a1, a2⟩ := (InP.perm hs.1).1 ((c2 s.1).1 ⟨s, hs', Nat.le_refl _, h1⟩)
  obtain ⟨y, hy, b1, b2⟩ := (InP.perm hs.1).1 ((c2 s.2).1 ⟨s, hs', h1, Nat.le_refl _⟩)
  have := (h x hx).2.1
  have := (h y hy).2.2
  have e : wd false = 32 := rfl
  rw [e] at b2
  omega
/-- What a merge of such prefixes gives: near as well, the same addresses, not more of them. -/
theorem merged {l ys xs : List (Nat × Nat)} (h : NearL l) (hs : SortR l ys) (hc : CutR false (spansL false ys) xs) : NearL xs ∧ (∀ a, InP false xs a ↔ InP false l a) ∧ xs.length ≤ l.length ∧ ∀ i x y, xs[i]? = some x → xs[i + 1]? = some y → Nei false x y := by
  have hv : ∀ x ∈ ys, VP false x.1 x.2 := fun x hx => h.vp x (hs.1.mem_iff.1 hx)
  obtain ⟨c1, c2, _, c4⟩ := spans_canon ys hv hs.fst
  have hin : ∀ a, InP false xs a ↔ InP false l a := fun a => (hc.inP a).trans ((c2 a).trans (InP.perm hs.1))
  refine ⟨fun x hx => ?_, hin, ?_, cut_nei c1 (fun s hs => (c4 s hs).1) hc⟩
  · obtain ⟨p, hp, a1, a2⟩ := (hin x.1).1 (InP.mem hx)
    obtain ⟨q, hq, b1, b2⟩ := (hin _).1 (InP.last hx)
    have := (h p hp).2.1
    have := (h q hq).2.2
    have e : wd false = 32 := rfl
    rw [e] at b2
    exact ⟨hc.each x hx, by omega, by omega⟩
  · exact few_of (hc.apart c1) (fun x hx => cut_holds c1 h.vp hc (fun a => (c2 a).trans (InP.perm hs.1)) hx)
theorem merged_same {l l' ys ys' xs xs' : List (Nat × Nat)} (h : NearL l) (h' : NearL l') (hs : SortR l ys) (hs' : SortR l' ys') (hin : ∀ a, InP false l a ↔ InP false l' a) (hc : CutR false (spansL false ys) xs) (hc' : CutR false (spansL false ys') xs') : xs = xs' := by
  rw [spans_same h.vp h'.vp hs hs' hin] at hc
  exact hc.one hc'

theorem sl_pf1 (x : Nat × Nat) {W : World} {b : Nat} (hb : b = W.heap.size) : Sl (W.alloc (.cells #[.bool false, .int .u64 (hiOf false x.1), .int .u64 (loOf x.1), .int .i64 x.2] 30)) 4 (.slice (some ⟨b, 0, none⟩) 1 1) ([x].map (pfC false)) := sl_new (c := pfC false x) hb rfl
/-- A merge of such prefixes. -/
theorem mergeN_any (a : Option Addr) (cap : Nat) (l : List (Nat × Nat)) (w : World) (hs : Sl w 4 (.slice a l.length cap) (l.map (pfC false))) (hlen : l.length ≤ 80) (hn : NearL l) (ha : ∀ x, a = some x → x.block < w.heap.size) :
    Calls Try.prog 17 #[.slice a l.length cap] w fun e w' => ∃ a' cap' ys xs, e = .returned (.tuple #[.slice a' xs.length cap', .int .i64 0]) ∧ SortR l ys ∧ CutR false (spansL false ys) xs ∧ Wk.Own w' w.heap.size 30 4 (.slice a' xs.length cap') (xs.map (pfC false)) ∧ Below w.heap.size w w' :=
  merge_any false a cap l w hs hlen hn.vp ha (fun ys hy => hn.sum hlen hy)

end Go.Proofs.Ytoecmoicaklbaaa
