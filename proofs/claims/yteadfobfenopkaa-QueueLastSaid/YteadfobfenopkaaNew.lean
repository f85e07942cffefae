
/- Contracts of package table: New, Look, Check over a list of routes. -/
import Derived.Test.YteadfobfenopkaaSame
set_option linter.unusedVariables false
set_option linter.unusedSimpArgs false
namespace Go.Proofs.Yteadfobfenopkaa
open Go Go.RowKit Go.Sort Wc Wk

def putAll (l : List (Nat × Nat × Nat)) : List (Nat × Nat × Nat) := l.foldl (fun L x => putL L x.1 x.2.1 x.2.2) []
theorem putAll_snoc (l : List (Nat × Nat × Nat)) (x : Nat × Nat × Nat) : putAll (l ++ [x]) = putL (putAll l) x.1 x.2.1 x.2.2 := by unfold putAll; rw [List.foldl_append]; rfl
/-- Routes that make a table. -/
structure RtOk (l : List (Nat × Nat × Nat)) : Prop where
  vp : ∀ x ∈ l, VP false x.1 x.2.1
  lo : ∀ x ∈ l, 1 ≤ x.2.2
  hi : ∀ x ∈ l, x.2.2 ≤ 999
  keys : l.Pairwise (fun x y => ¬ (x.1 = y.1 ∧ x.2.1 = y.2.1))
  len : l.length ≤ 60
theorem RtOk.of_tab {L : List (Nat × Nat × Nat)} (t : TabOk L) : RtOk L :=
  ⟨t.vp, fun x hx => Nat.pos_of_ne_zero (t.hops x hx), t.top, t.srt.imp (fun {x y} h e => by unfold lt3 at h; omega), t.len⟩
theorem RtOk.take {l : List (Nat × Nat × Nat)} (h : RtOk l) (m : Nat) : RtOk (l.take m) :=
  ⟨fun x hx => h.vp x (List.mem_of_mem_take hx), fun x hx => h.lo x (List.mem_of_mem_take hx), fun x hx => h.hi x (List.mem_of_mem_take hx), h.keys.sublist (List.take_sublist _ _), by rw [List.length_take]; have := h.len; omega⟩
theorem putAll_ok : ∀ (n : Nat) {l : List (Nat × Nat × Nat)} (h : RtOk l), l.length = n → Srt (putAll l) ∧ Hops (putAll l) ∧ (∀ x, x ∈ putAll l ↔ x ∈ l) ∧ (putAll l).length = l.length
  | 0, l, h, hn => by
    have : l = [] := List.eq_nil_of_length_eq_zero hn
    subst this
    exact ⟨List.Pairwise.nil, fun _ h => absurd h List.not_mem_nil, fun x => Iff.rfl, rfl⟩
  | n + 1, l, h, hn => by
    obtain ⟨x, hx⟩ : ∃ x, l[n]? = some x := ⟨_, List.getElem?_eq_getElem (by omega)⟩
    have e : l = l.take n ++ [x] := by
      have : l.take (n + 1) = l.take n ++ [x] := by rw [List.take_add_one, hx]; rfl
      rw [← this, List.take_of_length_le (by omega)]
    obtain ⟨s, hh, hm, hl⟩ := putAll_ok n (h.take n) (by rw [List.length_take]; omega)
    have hk := h.keys
    rw [e, List.pairwise_append] at hk
    have hne : ∀ y ∈ l.take n, ¬ (y.1 = x.1 ∧ y.2.1 = x.2.1) := fun y hy => hk.2.2 y hy x List.mem_cons_self
    have h0 : x.2.2 ≠ 0 := by have := h.lo x (List.mem_of_getElem? hx); omega
    have hz : hasL (putAll (l.take n)) x.1 x.2.1 = 0 := (has_none hh).2 (fun y hy => hne y ((hm y).1 hy))
    rw [e, putAll_snoc]
    refine ⟨srt_putL s _ _ _, hops_putL s hh h0, fun y => ?_, ?_⟩
    · rw [mem_putL s, hm, List.mem_append, List.mem_singleton]
      constructor
      · rintro (h1 | ⟨h1, _⟩)
        · exact .inr h1
        · exact .inl h1
      · rintro (h1 | h1)
        · exact .inr ⟨h1, hne y h1⟩
        · exact .inl h1
    · rw [len_putL s hh, hl, hz, if_pos rfl, List.length_append]; rfl
theorem putAll_srt {L : List (Nat × Nat × Nat)} (t : TabOk L) : putAll L = L := by
  obtain ⟨s, _, hm, _⟩ := putAll_ok _ (RtOk.of_tab t) rfl
  exact sorted_ext s t.srt hm
theorem putAll_none {l : List (Nat × Nat × Nat)} (h : RtOk l) {m : Nat} {x : Nat × Nat × Nat} (hx : l[m]? = some x) : hasL (putAll (l.take m)) x.1 x.2.1 = 0 := by
  obtain ⟨s, hh, hm, _⟩ := putAll_ok _ (h.take m) rfl
  refine (has_none hh).2 (fun y hy => ?_)
  have hy' := (hm y).1 hy
  have hk := (h.take (m + 1)).keys
  rw [List.take_add_one, hx] at hk
  exact (List.pairwise_append.1 hk).2.2 y hy' x (by simp)

/-- A table of the call's own. -/
def OwnTab (w wr : World) (tb : Nat) (L : List (Nat × Nat × Nat)) : Prop := ∃ F : Nat → Prop, Tab wr tb L F ∧ (∀ b, F b → w.heap.size ≤ b ∧ b < wr.heap.size) ∧ Below w.heap.size w wr
theorem OwnTab.below {w wr w' : World} {tb : Nat} {L : List (Nat × Nat × Nat)} (h : OwnTab w wr tb L) (hb : Below wr.heap.size wr w') : OwnTab w w' tb L := by
  obtain ⟨F, t, f, b⟩ := h
  exact ⟨F, t.below hb, fun x hx => ⟨(f x hx).1, Nat.lt_of_lt_of_le (f x hx).2 hb.size⟩, b.trans (hb.mono b.size)⟩
theorem OwnTab.bel {w wr : World} {tb : Nat} {L : List (Nat × Nat × Nat)} (h : OwnTab w wr tb L) : Below w.heap.size w wr := by obtain ⟨F, t, f, b⟩ := h; exact b
theorem OwnTab.put {w wr : World} {tb : Nat} {L : List (Nat × Nat × Nat)} {n k hop : Nat} (h : OwnTab w wr tb L) (hl : L.length ≤ 1000) (hp : VP false n k) (h0 : hop ≠ 0) (h1 : hop ≤ 999) :
    Calls Try.prog 67 #[.pointer (some ⟨tb, 0, none⟩), Value.agg #[.bool false, .int .u64 (hiOf false n), .int .u64 (loOf n), .int .i64 k], .int .i64 hop] wr fun e w' => e = .returned (.int .i64 (hasL L n k : Nat)) ∧ OwnTab w w' tb (putL L n k hop) ∧ wr.heap.size ≤ w'.heap.size := by
  obtain ⟨F, t, f, b⟩ := h
  refine (tab_put tb n k hop L F wr t hl hp h0 h1).mono ?_
  rintro e w' ⟨rfl, t', c⟩
  refine ⟨rfl, ⟨_, t'.lt, fun k hk => ⟨?_, hk.2⟩, b.trans (c.below b.size (fun k x hk hf => by have := (f k hf).1; omega))⟩, c.size⟩
  rcases hk.1 with h | h
  · exact (f k h).1
  · have := b.size; omega


set_option maxRecDepth 100000 in
set_option maxHeartbeats 2000000 in
theorem new_any (a : Option Addr) (cap n : Nat) (l : List (Nat × Nat × Nat)) (w : World) (hn : n = l.length) (hs : Sl w 5 (.slice a n cap) (l.map routeCells)) (hok : RtOk l) :
    Calls Try.prog 45 #[.slice a n cap] w fun e w' => ∃ tb, e = .returned (.tuple #[.pointer (some ⟨tb, 0, none⟩), .int .i64 0]) ∧ OwnTab w w' tb (putAll l) := by
  subst hn
  have HS := Lib.hid hs
  have HK := Lib.hid hok
  have h60 := hok.len
  have d1 : decide ((60 : Int) < l.length) = false := by simp; omega
  have hlw1 := hs.lens.2.1
  have hlw2 := hs.lens.2.2
  clear hs hok
  go_enter Try.func45, Try.ntmps45
  go_wp2_with fail
  have HP0 := Lib.hid (show OwnTab w (w.alloc (.cells #[.pointer none, .pointer none, .int .i64 0] 103)) w.heap.size [] from
    ⟨_, tab_new w _, fun b hb => by subst hb; simp, (Below.refl _ _).alloc (Nat.le_refl _) _⟩)
  generalize w.alloc (.cells #[.pointer none, .pointer none, .int .i64 0] 103) = W at *
  obtain ⟨tb, htb⟩ : ∃ tb, tb = w.heap.size := ⟨_, rfl⟩
  rw [← htb] at HP0 ⊢
  clear htb
  go_loopw [15] (fun i wr => ∃ (m : Nat), m ≤ l.length ∧ i = .int .i64 m ∧ Hid (OwnTab w wr tb (putAll (l.take m)))) (fun i _ => l.length - (intOf i).toNat)
  case atStart => exact ⟨0, Nat.zero_le _, rfl, HP0⟩
  case round =>
    obtain ⟨m, hm, rfl, HP⟩ := hrel
    by_cases hlt : m < l.length
    · obtain ⟨x, hx⟩ : ∃ x, l[m]? = some x := ⟨_, List.getElem?_eq_getElem hlt⟩
      obtain ⟨b, off, rfl, hb, d0, d1, d2, d3, d4⟩ := Sl.route HS.out HP.out.bel hx
      have hvp := HK.out.vp x (List.mem_of_getElem? hx)
      have hlo := HK.out.lo x (List.mem_of_getElem? hx)
      have hhi := HK.out.hi x (List.mem_of_getElem? hx)
      have HZ := Lib.hid (putAll_none HK.out hx)
      have HT : Hid (putAll (l.take (m + 1)) = putL (putAll (l.take m)) x.1 x.2.1 x.2.2) := Lib.hid (by rw [← putAll_snoc, List.take_add_one, hx]; rfl)
      have HLn := Lib.hid (putAll_ok _ (HK.out.take m) rfl).2.2.2
      obtain ⟨xn, xk, xh⟩ := x
      dsimp only at hvp hlo hhi d0 d1 d2 d3 d4
      have C := Lib.hid (fun w => check_ok false xn xk w hvp)
      have HV := Lib.hid hvp
      have t1 : decide ((xh : Int) < 1) = false := by simp; omega
      have t2 : decide ((999 : Int) < xh) = false := by simp; omega
      clear hx hvp
      generalize putAll (l.take m) = L0 at *
      go_wp2_with (first | ((with_reducible refine (C.out _).mono ?_); rintro e w1 ⟨rfl, hb1⟩; (repeat (with_reducible (replace hb1 := Below.undrew hb1))); obtain ⟨hc1, hf1⟩ := bcell hb1; have hz1 := hb1.size; (repeat (first | rw [World.size_alloc] at hz1 | rw [World.size_drew] at hz1 | rw [World.size_setCell] at hz1)); (try have : b < w1.heap.size := by omega); (try have : b < w1.heap.size + 1 := by omega); (try have : b < w1.heap.size + 1 + 1 := by omega); (try have : b < w1.heap.size + 1 + 1 + 1 := by omega); (try have : tb < w1.heap.size := by omega); (try have : tb < w1.heap.size + 1 := by omega); (try have : tb < w1.heap.size + 1 + 1 := by omega); (try have : tb < w1.heap.size + 1 + 1 + 1 := by omega); (try have : wr.heap.size < w1.heap.size := by omega); (try have : wr.heap.size < w1.heap.size + 1 := by omega); (try have : wr.heap.size < w1.heap.size + 1 + 1 := by omega); (try have : wr.heap.size < w1.heap.size + 1 + 1 + 1 := by omega)))
      have hYB : Below wr.heap.size wr w1 := by (repeat' (first | (with_reducible exact Below.refl _ _) | (with_reducible assumption) | (with_reducible refine Below.alloc ?_ ?_ _) | (with_reducible refine Below.drew ?_) | (with_reducible refine Below.stepG ?_ (by assumption) ?_) | (with_reducible refine Below.setCell ?_ ?_ _) | omega | (dsimp only; omega) | (simp; done) | (simp; omega)))
      refine ((HP.out.below hYB).put (n := xn) (k := xk) (hop := xh) (by have := HLn.out; rw [List.length_take] at this; omega) HV.out (by omega) hhi).mono ?_
      rintro e w2 ⟨rfl, hp2, hz2⟩
      rw [HZ.out]
      have HP2 := Lib.hid hp2
      rw [← HT.out] at HP2
      clear hb1 hc1 hf1 hp2 hYB
      go_wp2_with fail
      go_roundw
      case rel => exact ⟨m + 1, by omega, by go_num, HP2⟩
      case measure => simp [intOf]; omega
    · obtain rfl : m = l.length := by omega
      go_wp2
      go_returns
      rw [List.take_of_length_le (Nat.le_refl _)] at HP
      exact ⟨tb, rfl, HP.out⟩
end Go.Proofs.Yteadfobfenopkaa
