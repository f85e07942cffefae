
/- Contract: cidr.meet (first list: one family; second list: of that family, then of the other one). -/
import Derived.Test.YtoecmoicaklbaaaSaQ
import Derived.Test.YtoecmoicaklbaaaRg2
import Derived.Deep.DeepCutAuto
set_option linter.unusedVariables false
set_option linter.unusedSimpArgs false
namespace Go.Proofs.Ytoecmoicaklbaaa
open Go Go.RowKit Go.Sort Wc Wk

/-- Less, of whatever families. -/
def lessB (s : Bool) (a : Nat) (t : Bool) (b : Nat) : Bool := if s = t then decide (a < b) else t
theorem lessX_any (s : Bool) (a : Nat) (t : Bool) (b : Nat) (w : World) (ha : Fits s a) (hb : Fits t b) :
    Calls Try.prog 84 #[Value.agg #[.bool s, .int .u64 (hiOf s a), .int .u64 (loOf a)], Value.agg #[.bool t, .int .u64 (hiOf t b), .int .u64 (loOf b)]] w fun e w' => e = .returned (.bool (lessB s a t b)) ∧ Below w.heap.size w w' := by
  by_cases h : s = t
  · subst h
    rw [show lessB s a s b = decide (a < b) from if_pos rfl]
    exact less_any s a b w ha hb
  · rw [show lessB s a t b = t from if_neg h]
    generalize hiOf s a = h1 at *
    generalize hiOf t b = h2 at *
    generalize loOf a = l1 at *
    generalize loOf b = l2 at *
    clear ha hb
    cases s <;> cases t
    · exact absurd rfl h
    · clear h
      go_enter Try.func84, Try.ntmps84
      go_wp2
      go_returns
      exact ⟨rfl, ((Below.refl _ _).alloc (Nat.le_refl _) _).alloc (by simp) _⟩
    · clear h
      go_enter Try.func84, Try.ntmps84
      go_wp2
      go_returns
      exact ⟨rfl, ((Below.refl _ _).alloc (Nat.le_refl _) _).alloc (by simp) _⟩
    · exact absurd rfl h
def lenOfV2 : Value → Nat | .slice _ n _ => n | _ => 0
theorem run_tailS_one (b off : Nat) (W : World) : (Instr.slice 93 (.slice (some ⟨b, off, none⟩) 1 1) (some (.int .i64 1)) none none).run Try.prog W = .ok (.slice (some ⟨b, off, none⟩) 0 0) W := by
  go_simp
theorem run_tailS_more (b off la c : Nat) (hp : 1 ≤ la) (h1 : la ≤ c) (h2 : c ≤ 9223372036854775807) (hne : c ≠ 1) (W : World) : (Instr.slice 93 (.slice (some ⟨b, off, none⟩) la c) (some (.int .i64 1)) none none).run Try.prog W = .ok (.slice (some ⟨b, off + 1 * 6, none⟩) (la - 1) (c - 1)) W := by
  have h3 : ¬ (la : Int) < 1 := by omega
  go_simp
/-- The first of a list of spans; what lies behind it. -/
theorem span_tail {w : World} {a : Option Addr} {la c : Nat} {r : List Value} {rs : List (List Value)} (h : Sl w 6 (.slice a la c) (r :: rs)) :
    ∃ a' c', (∀ W : World, (Instr.slice 93 (.slice a la c) (some (.int .i64 1)) none none).run Try.prog W = .ok (.slice a' (la - 1) c') W) ∧ Sl w 6 (.slice a' (la - 1) c') rs := by
  obtain ⟨hl, hc1, hc2⟩ := h.lens
  rw [List.length_cons] at hl
  obtain ⟨b, off, rfl, _⟩ := Sl.at h (i := 0) (c := r) rfl
  rcases h.behind 1 (by rw [List.length_cons]; omega) with ⟨rfl, rfl, hn, hs⟩ | ⟨hne, hs⟩
  · exact ⟨_, _, fun W => run_tailS_one b off W, hs⟩
  · exact ⟨_, _, fun W => run_tailS_more b off la c (by omega) hc1 hc2 hne W, hs⟩
theorem span_first {w w' : World} {a : Option Addr} {n cap : Nat} {six : Bool} {x : Nat × Nat} {rs : List (List Value)} (hs : Sl w 6 (.slice a n cap) (spC six x :: rs)) (hb : Below w.heap.size w w') :
    ∃ b off, a = some ⟨b, off, none⟩ ∧ b < w.heap.size ∧ ∀ j u, (spC six x)[j]? = some u → w'.cell? ⟨b, off + j, none⟩ = some u := by
  obtain ⟨b, off, ha', hlt, hc⟩ := Sl.at hs (i := 0) (c := spC six x) rfl
  refine ⟨b, off, ha', hlt, fun j u hu => ?_⟩
  have := (hb.cell (p := ⟨b, off + 0 * 6 + j, none⟩) hlt).trans (hc j u hu)
  simpa using this
/-- What a round of meet holds: both spans, and what they may have together. -/
structure Mt4 (W wx : World) (A B P Q : Nat) (xc yc pc qc : List Value) : Prop where
  ra : RX wx A xc
  rb : RX wx B yc
  rp : RX wx P pc
  rq : RX wx Q qc
  ge : W.heap.size ≤ A ∧ W.heap.size ≤ B ∧ W.heap.size ≤ P ∧ W.heap.size ≤ Q
  ne : A ≠ P ∧ B ≠ P ∧ Q ≠ P ∧ A ≠ Q ∧ B ≠ Q
  bl : Below W.heap.size W wx
theorem Mt4.below {W wx w' : World} {A B P Q : Nat} {xc yc pc qc : List Value} (h : Mt4 W wx A B P Q xc yc pc qc) (hb : Below wx.heap.size wx w') : Mt4 W w' A B P Q xc yc pc qc :=
  ⟨h.ra.below hb, h.rb.below hb, h.rp.below hb, h.rq.below hb, h.ge, h.ne, h.bl.trans (hb.mono h.bl.size)⟩
theorem Mt4.setP {W wx : World} {A B P Q : Nat} {xc yc pc qc : List Value} (h : Mt4 W wx A B P Q xc yc pc qc) (s : Bool) (n : Nat) (hl : pc.length = 3) :
    Mt4 W (((wx.setCell ⟨P, 0, none⟩ (.bool s)).setCell ⟨P, 1, none⟩ (.int .u64 (hiOf s n))).setCell ⟨P, 2, none⟩ (.int .u64 (loOf n))) A B P Q xc yc (adCells s n) qc := by
  obtain ⟨h1, h2⟩ := rx_set (c' := adCells s n) h.rp (by rw [hl]; rfl)
  exact ⟨h.ra.chg h2 (fun _ e => h.ne.1 e), h.rb.chg h2 (fun _ e => h.ne.2.1 e), h1, h.rq.chg h2 (fun _ e => h.ne.2.2.1 e), h.ge, h.ne, h.bl.trans (h2.below h.bl.size (fun b x hb' e => by have := h.ge.2.2.1; omega))⟩
theorem Mt4.setQ {W wx : World} {A B P Q : Nat} {xc yc pc qc : List Value} (h : Mt4 W wx A B P Q xc yc pc qc) (s : Bool) (n : Nat) (hl : qc.length = 3) :
    Mt4 W (((wx.setCell ⟨Q, 0, none⟩ (.bool s)).setCell ⟨Q, 1, none⟩ (.int .u64 (hiOf s n))).setCell ⟨Q, 2, none⟩ (.int .u64 (loOf n))) A B P Q xc yc pc (adCells s n) := by
  obtain ⟨h1, h2⟩ := rx_set (c' := adCells s n) h.rq (by rw [hl]; rfl)
  exact ⟨h.ra.chg h2 (fun _ e => h.ne.2.2.2.1 e), h.rb.chg h2 (fun _ e => h.ne.2.2.2.2 e), h.rp.chg h2 (fun _ e => h.ne.2.2.1 e.symm), h1, h.ge, h.ne, h.bl.trans (h2.below h.bl.size (fun b x hb' e => by have := h.ge.2.2.2; omega))⟩
theorem rx_cells6 {w : World} {b : Nat} {c0 c1 c2 c3 c4 c5 : Value} (hlt : b < w.heap.size) (hf : ∀ j, w.frozen? ⟨b, j, none⟩ = false) (h0 : w.cell? ⟨b, 0, none⟩ = some c0) (h1 : w.cell? ⟨b, 1, none⟩ = some c1) (h2 : w.cell? ⟨b, 2, none⟩ = some c2) (h3 : w.cell? ⟨b, 3, none⟩ = some c3) (h4 : w.cell? ⟨b, 4, none⟩ = some c4) (h5 : w.cell? ⟨b, 5, none⟩ = some c5) : RX w b [c0, c1, c2, c3, c4, c5] :=
  ⟨hlt, fun j u hu => by
    match j, hu with
    | 0, hu => simp at hu; rw [← hu]; exact h0
    | 1, hu => simp at hu; rw [← hu]; exact h1
    | 2, hu => simp at hu; rw [← hu]; exact h2
    | 3, hu => simp at hu; rw [← hu]; exact h3
    | 4, hu => simp at hu; rw [← hu]; exact h4
    | 5, hu => simp at hu; rw [← hu]; exact h5
    | j + 6, hu => simp at hu, hf⟩
theorem rx_cells3 {w : World} {b : Nat} {c0 c1 c2 : Value} (hlt : b < w.heap.size) (hf : ∀ j, w.frozen? ⟨b, j, none⟩ = false) (h0 : w.cell? ⟨b, 0, none⟩ = some c0) (h1 : w.cell? ⟨b, 1, none⟩ = some c1) (h2 : w.cell? ⟨b, 2, none⟩ = some c2) : RX w b [c0, c1, c2] :=
  ⟨hlt, fun j u hu => by
    match j, hu with
    | 0, hu => simp at hu; rw [← hu]; exact h0
    | 1, hu => simp at hu; rw [← hu]; exact h1
    | 2, hu => simp at hu; rw [← hu]; exact h2
    | j + 3, hu => simp at hu, hf⟩
end Go.Proofs.Ytoecmoicaklbaaa
