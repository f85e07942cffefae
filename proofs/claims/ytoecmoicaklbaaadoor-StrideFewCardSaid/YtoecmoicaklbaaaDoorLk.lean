
/- TableTold: plain. -/
import Derived.Test.YtoecmoicaklbaaaDoorMkA
import Derived.Test.YtoecmoicaklbaaaDoorQx
import Derived.Test.YtoecmoicaklbaaaDoorRo
set_option linter.unusedVariables false
namespace Go.Proofs.YtoecmoicaklbaaaDoor
open Go Go.RowKit Wc Wk

theorem tstep_len (L : List (Nat × Nat × Nat)) (t : TabOk L) (x : ActD) : (tstep L x).1.length ≤ L.length + 1 := by
  unfold tstep
  split
  · exact Nat.le_succ _
  · split
    · exact Nat.le_succ_of_le (List.length_filter_le _ _)
    · split
      · exact Nat.le_succ _
      · split
        · exact Nat.le_succ _
        · show (putL _ _ _ _).length ≤ _
          rw [len_putL t.srt t.hops]
          split <;> omega
theorem tend_len : ∀ {L : List (Nat × Nat × Nat)} (t : TabOk L) {l : List ActD}, (∀ x ∈ l, x.fit) → (tend L l).length ≤ L.length + l.length
  | L, t, [], _ => Nat.le_refl _
  | L, t, x :: l, h => by
    have h1 := tend_len (t.step (h x List.mem_cons_self)) (l := l) (fun y hy => h y (List.mem_cons_of_mem _ hy))
    have h2 := tstep_len L t x
    show (tend (tstep L x).1 l).length ≤ L.length + (l.length + 1)
    omega
/-- What a step does to what a prefix has. -/
theorem told_step {L : List (Nat × Nat × Nat)} (t : TabOk L) {x : ActD} (hx : x.fit) (n k : Nat) :
    (¬ (x.n = n ∧ x.k = k) → hasL (tstep L x).1 n k = hasL L n k) ∧
    ((tstep L x).2.code ≠ 0 → hasL (tstep L x).1 n k = hasL L n k) ∧
    (x.kind = 1 → x.n = n → x.k = k → (tstep L x).2.code = 0 → hasL (tstep L x).1 n k = x.hop) ∧
    (x.kind = 2 → x.n = n → x.k = k → hasL (tstep L x).1 n k = 0) ∧
    (x.kind ≠ 1 → x.kind ≠ 2 → hasL (tstep L x).1 n k = hasL L n k) := by
  have hp := fun h0 => hasL_put t.srt t.hops (n := x.n) (k := x.k) (h := x.hop) h0 n k
  have hc := hasL_cut t.srt t.hops x.n x.k n k
  unfold tstep
  split
  · rename_i h3
    exact ⟨fun _ => rfl, fun _ => rfl, fun h => absurd h (by omega), fun h => absurd h (by omega), fun _ _ => rfl⟩
  · rename_i h3
    split
    · rename_i h2
      refine ⟨fun h => ?_, fun h => ?_, fun h => absurd h (by omega), fun _ e1 e2 => ?_, fun _ h => absurd h2 h⟩
      · dsimp only; rw [hc, if_neg (fun e => h ⟨e.1.symm, e.2.symm⟩)]
      · dsimp only at h ⊢
        rw [hc]
        split
        · rename_i e
          unfold hadA at h
          split at h
          · rename_i h0; rw [e.1, e.2]; exact h0.symm
          · exact absurd rfl h
        · rfl
      · dsimp only; rw [hc, if_pos ⟨e1.symm, e2.symm⟩]
    · rename_i h2
      split
      · rename_i h4
        exact ⟨fun _ => rfl, fun _ => rfl, fun h => absurd h (by omega), fun h => absurd h h2, fun _ _ => rfl⟩
      · rename_i h4
        have hk : x.kind = 1 := by have := hx.kd; omega
        have h0 : x.hop ≠ 0 := by have := hx.hop hk; omega
        split
        · rename_i hf
          refine ⟨fun _ => rfl, fun _ => rfl, fun _ _ _ h => absurd (show (9 : Nat) = 0 from h) (by decide), fun h => absurd h h2, fun _ _ => rfl⟩
        · refine ⟨fun h => ?_, fun h => absurd rfl h, fun _ e1 e2 _ => ?_, fun h => absurd h h2, fun h => absurd hk h⟩
          · dsimp only; rw [hp h0, if_neg (fun e => h ⟨e.1.symm, e.2.symm⟩)]
          · dsimp only; rw [hp h0, if_pos ⟨e1.symm, e2.symm⟩]
/-- The last act of the law: a Put of hop 9, or a Cut. -/
def LastA (la : ActD) (n k : Nat) : Prop := la = ⟨1, n, k, 9, 0⟩ ∨ la = ⟨2, n, k, 0, 0⟩
theorem lastA_fit {la : ActD} {n k : Nat} (h : LastA la n k) (hp : VP false n k) : la.fit := by
  rcases h with rfl | rfl
  · exact ⟨hp, fits0, (by decide : 1 ≤ 1 ∧ 1 ≤ 4), fun _ => (by decide : 1 ≤ 9), (by decide : 9 ≤ 999)⟩
  · exact ⟨hp, fits0, (by decide : 1 ≤ 2 ∧ 2 ≤ 4), (fun h => by cases h), (by decide : 0 ≤ 999)⟩
theorem get_fit {n k : Nat} (hp : VP false n k) : ActD.fit ⟨4, n, k, 0, 0⟩ := ⟨hp, fits0, (by decide : 1 ≤ 4 ∧ 4 ≤ 4), (fun h => by cases h), (by decide : 0 ≤ 999)⟩
/-- What the three last acts are told. -/
theorem told_last (l : List ActD) (hl : ∀ x ∈ l, x.fit) (hn : l.length ≤ 50) {n k : Nat} (hp : VP false n k) (h : Nat) (hh : hasL (tend [] l) n k = h) :
    (trun [] (l ++ [⟨4, n, k, 0, 0⟩, ⟨1, n, k, 9, 0⟩, ⟨4, n, k, 0, 0⟩]) = trun [] l ++ [hadA h k, ⟨0, h, 0⟩, ⟨0, 9, k⟩]) ∧
    (trun [] (l ++ [⟨4, n, k, 0, 0⟩, ⟨2, n, k, 0, 0⟩, ⟨4, n, k, 0, 0⟩]) = trun [] l ++ [hadA h k, hadA h 0, ⟨7, 0, 0⟩]) := by
  have t := tend_ok TabOk.nil hl
  have hlen := tend_len TabOk.nil hl
  simp only [List.length_nil, Nat.zero_add] at hlen
  subst hh
  have gg : ∀ L, tstep L ⟨4, n, k, 0, 0⟩ = (L, hadA (hasL L n k) k) := fun L => rfl
  constructor
  · rw [trun_app]
    congr 1
    have e : tstep (tend [] l) ⟨1, n, k, 9, 0⟩ = (putL (tend [] l) n k 9, ⟨0, hasL (tend [] l) n k, 0⟩) := by
      unfold tstep
      simp only [Nat.reduceEqDiff, if_false]
      rw [if_neg (by omega)]
    show [(tstep _ _).2, (tstep (tstep _ _).1 _).2, (tstep (tstep (tstep _ _).1 _).1 _).2] = _
    rw [gg, e, gg]
    rw [hasL_put t.srt t.hops (by decide), if_pos ⟨rfl, rfl⟩]
    rfl
  · rw [trun_app]
    congr 1
    have e : tstep (tend [] l) ⟨2, n, k, 0, 0⟩ = (cutL (tend [] l) n k, hadA (hasL (tend [] l) n k) 0) := rfl
    show [(tstep _ _).2, (tstep (tstep _ _).1 _).2, (tstep (tstep (tstep _ _).1 _).1 _).2] = _
    rw [gg, e, gg]
    rw [hasL_cut t.srt t.hops, if_pos ⟨rfl, rfl⟩]
    rfl
end Go.Proofs.YtoecmoicaklbaaaDoor

/- The laws' sameRoutes; plain laws on what acts leave. -/
set_option linter.unusedVariables false
set_option linter.unusedSimpArgs false
namespace Go.Proofs.YtoecmoicaklbaaaDoor
open Go Go.RowKit Go.Sort Wc Wk

theorem Sl.route {w w' : World} {a : Option Addr} {n cap : Nat} {xs : List (Nat × Nat × Nat)} (hs : Sl w 5 (.slice a n cap) (xs.map routeCells)) (hb : Below w.heap.size w w') {i : Nat} {r : Nat × Nat × Nat} (hr : xs[i]? = some r) :
    ∃ b off, a = some ⟨b, off, none⟩ ∧ b < w.heap.size ∧ w'.cell? ⟨b, off + i * 5, none⟩ = some (.bool false) ∧ w'.cell? ⟨b, off + i * 5 + 1, none⟩ = some (.int .u64 (hiOf false r.1)) ∧ w'.cell? ⟨b, off + i * 5 + 2, none⟩ = some (.int .u64 (loOf r.1)) ∧ w'.cell? ⟨b, off + i * 5 + 3, none⟩ = some (.int .i64 r.2.1) ∧ w'.cell? ⟨b, off + i * 5 + 4, none⟩ = some (.int .i64 r.2.2) := by
  obtain ⟨b, off, ha, hlt, hc⟩ := Sl.at hs (i := i) (c := routeCells r) (by rw [List.getElem?_map, hr]; rfl)
  have g := fun j u (h : (routeCells r)[j]? = some u) => (hb.cell (p := ⟨b, off + i * 5 + j, none⟩) hlt).trans (hc j u h)
  exact ⟨b, off, ha, hlt, g 0 _ rfl, g 1 _ rfl, g 2 _ rfl, g 3 _ rfl, g 4 _ rfl⟩
theorem hasL_snoc : ∀ {l : List (Nat × Nat × Nat)} {x : Nat × Nat × Nat} (hs : Srt (l ++ [x])) (hh : Hops (l ++ [x])) (n k : Nat), hasL (l ++ [x]) n k = if x.1 = n ∧ x.2.1 = k then x.2.2 else hasL l n k := by
  intro l x hs hh n k
  have hsl : Srt l := hs.sublist (List.sublist_append_left _ _)
  have hhl : Hops l := fun y hy => hh y (List.mem_append_left _ hy)
  split
  · rename_i e
    obtain ⟨rfl, rfl⟩ := e
    exact hasL_mem hs (List.mem_append_right _ List.mem_cons_self)
  · rename_i e
    by_cases hz : hasL l n k = 0
    · rw [hz, has_none hh]
      intro y hy ey
      rcases List.mem_append.1 hy with hy | hy
      · exact (has_none hhl).1 hz y hy ey
      · simp at hy; subst hy; exact e ey
    · exact hasL_mem hs (List.mem_append_left _ (mem_hasL hz))
/-- A Put, and then the Cut or the Put that takes it back. -/
theorem undone {L : List (Nat × Nat × Nat)} (t : TabOk L) {n k h : Nat} (hp : VP false n k) (h1 : 1 ≤ h) (h2 : h ≤ 999) :
    (hasL L n k = 0 → tend L [⟨1, n, k, h, 0⟩, ⟨2, n, k, 0, 0⟩] = L) ∧ (hasL L n k ≠ 0 → tend L [⟨1, n, k, h, 0⟩, ⟨1, n, k, hasL L n k, 0⟩] = L) := by
  have sp := fun g => srt_putL t.srt n k g
  have hpg := fun g (g0 : g ≠ 0) => hops_putL t.srt t.hops (n := n) (k := k) g0
  have st : ∀ M g, tstep M ⟨1, n, k, g, 0⟩ = if M.length = 60 ∧ hasL M n k = 0 then (M, ⟨9, 0, 0⟩) else (putL M n k g, ⟨0, hasL M n k, 0⟩) := fun M g => rfl
  constructor
  · intro h0
    show (tstep (tstep L _).1 ⟨2, n, k, 0, 0⟩).1 = L
    rw [st]
    split
    · exact cutL_none t.hops h0
    · show cutL (putL L n k h) n k = L
      refine tab_ext (srt_cutL (sp h) n k) (hops_cutL (hpg h (by omega)) n k) t.srt t.hops (fun m l => ?_)
      rw [hasL_cut (sp h) (hpg h (by omega)), hasL_put t.srt t.hops (by omega)]
      split
      · rename_i e; rw [e.1, e.2, h0]
      · rfl
  · intro h0
    show (tstep (tstep L _).1 ⟨1, n, k, hasL L n k, 0⟩).1 = L
    have e1 : (tstep L ⟨1, n, k, h, 0⟩).1 = putL L n k h := by rw [st, if_neg (fun e => h0 e.2)]
    rw [e1]
    have hn : hasL (putL L n k h) n k = h := by rw [hasL_put t.srt t.hops (by omega), if_pos ⟨rfl, rfl⟩]
    rw [st, if_neg (fun e => by rw [hn] at e; omega)]
    show putL (putL L n k h) n k (hasL L n k) = L
    refine tab_ext (srt_putL (sp h) n k _) (hops_putL (sp h) (hpg h (by omega)) h0) t.srt t.hops (fun m l => ?_)
    rw [hasL_put (sp h) (hpg h (by omega)) h0, hasL_put t.srt t.hops (by omega)]
    split
    · rename_i e; rw [e.1, e.2]
    · rfl

/-- Two lists of routes that are the same. -/
theorem same_yes (a b : Option Addr) (ca cb n m : Nat) (L : List (Nat × Nat × Nat)) (w : World) (hn : n = L.length) (hm : m = L.length) (ha : Sl w 5 (.slice a n ca) (L.map routeCells)) (hb : Sl w 5 (.slice b m cb) (L.map routeCells)) :
    Calls Tryd.prog 17 #[.slice a n ca, .slice b m cb] w fun e w' => e = .returned (.bool true) ∧ Below w.heap.size w w' := by
  subst hn
  subst hm
  have HA := Lib.hid ha
  have HB := Lib.hid hb
  have l1 := ha.lens.2.1
  have l2 := ha.lens.2.2
  have l3 := hb.lens.2.1
  have l4 := hb.lens.2.2
  clear ha hb
  go_enter Tryd.func17, Tryd.ntmps17
  go_wp2_with fail
  go_loopw [5] (fun i wr => ∃ k : Nat, k ≤ L.length ∧ i = .int .i64 k ∧ Hid (Below w.heap.size w wr)) (fun i _ => L.length - (intOf i).toNat)
  case atStart => exact ⟨0, Nat.zero_le _, rfl, Below.refl _ _⟩
  case round =>
    obtain ⟨k, hk, rfl, HW⟩ := hrel
    by_cases hlt : k < L.length
    · obtain ⟨x, hx⟩ : ∃ x, L[k]? = some x := ⟨_, List.getElem?_eq_getElem hlt⟩
      obtain ⟨b1, o1, rfl, _, c0, c1, c2, c3, c4⟩ := Sl.route HA.out HW.out hx
      obtain ⟨b2, o2, rfl, _, d0, d1, d2, d3, d4⟩ := Sl.route HB.out HW.out hx
      clear hx
      go_wp2_with fail
      go_quiet (fail)
      go_wp2
      go_roundw
      case rel => exact ⟨k + 1, by omega, by go_num, below_drewN HW.out _⟩
      case measure => simp [intOf]; omega
    · obtain rfl : k = L.length := by omega
      go_wp2
      go_returns
      exact ⟨rfl, HW.out⟩
end Go.Proofs.YtoecmoicaklbaaaDoor

/- Contracts of package table: New, Look, Check over a list of routes. -/
set_option linter.unusedVariables false
set_option linter.unusedSimpArgs false
namespace Go.Proofs.YtoecmoicaklbaaaDoor
open Go Go.RowKit Go.Sort Wc Wk

def putAll (l : List (Nat × Nat × Nat)) : List (Nat × Nat × Nat) := l.foldl (fun L x => putL L x.1 x.2.1 x.2.2) []
theorem putAll_snoc (l : List (Nat × Nat × Nat)) (x : Nat × Nat × Nat) : putAll (l ++ [x]) = putL (putAll l) x.1 x.2.1 x.2.2 := by unfold putAll; rw [List.foldl_append]; rfl
/-- Routes that make a table. -/
structure RtOk (l : List (Nat × Nat × Nat)) : Prop where
  vp : ∀ x ∈ l, VP false x.1 x.2.1
  lo : ∀ x ∈ l, 1 ≤ x.2.2
  hi : ∀ x ∈ l, x.2.2 ≤ 999
  keys : l.Pairwise (fun x y => ¬ (x.1 = y.1 ∧ x.2.1 = y.2.1))
  len : l.length ≤ 60
theorem RtOk.of_tab {L : List (Nat × Nat × Nat)} (t : TabOk L) : RtOk L :=
  ⟨t.vp, fun x hx => Nat.pos_of_ne_zero (t.hops x hx), t.top, t.srt.imp (fun {x y} h e => by unfold lt3 at h; omega), t.len⟩
theorem RtOk.take {l : List (Nat × Nat × Nat)} (h : RtOk l) (m : Nat) : RtOk (l.take m) :=
  ⟨fun x hx => h.vp x (List.mem_of_mem_take hx), fun x hx => h.lo x (List.mem_of_mem_take hx), fun x hx => h.hi x (List.mem_of_mem_take hx), h.keys.sublist (List.take_sublist _ _), by rw [List.length_take]; have := h.len; omega⟩
theorem putAll_ok : ∀ (n : Nat) {l : List (Nat × Nat × Nat)} (h : RtOk l), l.length = n → Srt (putAll l) ∧ Hops (putAll l) ∧ (∀ x, x ∈ putAll l ↔ x ∈ l) ∧ (putAll l).length = l.length
  | 0, l, h, hn => by
    have : l = [] := List.eq_nil_of_length_eq_zero hn
    subst this
    exact ⟨List.Pairwise.nil, fun _ h => absurd h List.not_mem_nil, fun x => Iff.rfl, rfl⟩
  | n + 1, l, h, hn => by
    obtain ⟨x, hx⟩ : ∃ x, l[n]? = some x := ⟨_, List.getElem?_eq_getElem (by omega)⟩
    have e : l = l.take n ++ [x] := by
      have : l.take (n + 1) = l.take n ++ [x] := by rw [List.take_add_one, hx]; rfl
      rw [← this, List.take_of_length_le (by omega)]
    obtain ⟨s, hh, hm, hl⟩ := putAll_ok n (h.take n) (by rw [List.length_take]; omega)
    have hk := h.keys
    rw [e, List.pairwise_append] at hk
    have hne : ∀ y ∈ l.take n, ¬ (y.1 = x.1 ∧ y.2.1 = x.2.1) := fun y hy => hk.2.2 y hy x List.mem_cons_self
    have h0 : x.2.2 ≠ 0 := by have := h.lo x (List.mem_of_getElem? hx); omega
    have hz : hasL (putAll (l.take n)) x.1 x.2.1 = 0 := (has_none hh).2 (fun y hy => hne y ((hm y).1 hy))
    rw [e, putAll_snoc]
    refine ⟨srt_putL s _ _ _, hops_putL s hh h0, fun y => ?_, ?_⟩
    · rw [mem_putL s, hm, List.mem_append, List.mem_singleton]
      constructor
      · rintro (h1 | ⟨h1, _⟩)
        · exact .inr h1
        · exact .inl h1
      · rintro (h1 | h1)
        · exact .inr ⟨h1, hne y h1⟩
        · exact .inl h1
    · rw [len_putL s hh, hl, hz, if_pos rfl, List.length_append]; rfl
theorem putAll_srt {L : List (Nat × Nat × Nat)} (t : TabOk L) : putAll L = L := by
  obtain ⟨s, _, hm, _⟩ := putAll_ok _ (RtOk.of_tab t) rfl
  exact sorted_ext s t.srt hm
theorem putAll_none {l : List (Nat × Nat × Nat)} (h : RtOk l) {m : Nat} {x : Nat × Nat × Nat} (hx : l[m]? = some x) : hasL (putAll (l.take m)) x.1 x.2.1 = 0 := by
  obtain ⟨s, hh, hm, _⟩ := putAll_ok _ (h.take m) rfl
  refine (has_none hh).2 (fun y hy => ?_)
  have hy' := (hm y).1 hy
  have hk := (h.take (m + 1)).keys
  rw [List.take_add_one, hx] at hk
  exact (List.pairwise_append.1 hk).2.2 y hy' x (by simp)

/-- A table of the call's own. -/
def OwnTab (w wr : World) (tb : Nat) (L : List (Nat × Nat × Nat)) : Prop := ∃ F : Nat → Prop, Tab wr tb L F ∧ (∀ b, F b → w.heap.size ≤ b ∧ b < wr.heap.size) ∧ Below w.heap.size w wr
theorem OwnTab.below {w wr w' : World} {tb : Nat} {L : List (Nat × Nat × Nat)} (h : OwnTab w wr tb L) (hb : Below wr.heap.size wr w') : OwnTab w w' tb L := by
  obtain ⟨F, t, f, b⟩ := h
  exact ⟨F, t.below hb, fun x hx => ⟨(f x hx).1, Nat.lt_of_lt_of_le (f x hx).2 hb.size⟩, b.trans (hb.mono b.size)⟩
theorem OwnTab.bel {w wr : World} {tb : Nat} {L : List (Nat × Nat × Nat)} (h : OwnTab w wr tb L) : Below w.heap.size w wr := by obtain ⟨F, t, f, b⟩ := h; exact b
theorem OwnTab.put {w wr : World} {tb : Nat} {L : List (Nat × Nat × Nat)} {n k hop : Nat} (h : OwnTab w wr tb L) (hl : L.length ≤ 1000) (hp : VP false n k) (h0 : hop ≠ 0) (h1 : hop ≤ 999) :
    Calls Tryd.prog 65 #[.pointer (some ⟨tb, 0, none⟩), Value.agg #[.bool false, .int .u64 (hiOf false n), .int .u64 (loOf n), .int .i64 k], .int .i64 hop] wr fun e w' => e = .returned (.int .i64 (hasL L n k : Nat)) ∧ OwnTab w w' tb (putL L n k hop) ∧ wr.heap.size ≤ w'.heap.size := by
  obtain ⟨F, t, f, b⟩ := h
  refine (tab_put tb n k hop L F wr t hl hp h0 h1).mono ?_
  rintro e w' ⟨rfl, t', c⟩
  refine ⟨rfl, ⟨_, t'.lt, fun k hk => ⟨?_, hk.2⟩, b.trans (c.below b.size (fun k x hk hf => by have := (f k hf).1; omega))⟩, c.size⟩
  rcases hk.1 with h | h
  · exact (f k h).1
  · have := b.size; omega


set_option maxRecDepth 100000 in
set_option maxHeartbeats 2000000 in
theorem new_any (a : Option Addr) (cap n : Nat) (l : List (Nat × Nat × Nat)) (w : World) (hn : n = l.length) (hs : Sl w 5 (.slice a n cap) (l.map routeCells)) (hok : RtOk l) :
    Calls Tryd.prog 44 #[.slice a n cap] w fun e w' => ∃ tb, e = .returned (.tuple #[.pointer (some ⟨tb, 0, none⟩), .int .i64 0]) ∧ OwnTab w w' tb (putAll l) := by
  subst hn
  have HS := Lib.hid hs
  have HK := Lib.hid hok
  have h60 := hok.len
  have d1 : decide ((60 : Int) < l.length) = false := by simp; omega
  have hlw1 := hs.lens.2.1
  have hlw2 := hs.lens.2.2
  clear hs hok
  go_enter Tryd.func44, Tryd.ntmps44
  go_wp2_with fail
  have HP0 := Lib.hid (show OwnTab w (w.alloc (.cells #[.pointer none, .pointer none, .int .i64 0] 99)) w.heap.size [] from
    ⟨_, tab_new w _, fun b hb => by subst hb; simp, (Below.refl _ _).alloc (Nat.le_refl _) _⟩)
  generalize w.alloc (.cells #[.pointer none, .pointer none, .int .i64 0] 99) = W at *
  obtain ⟨tb, htb⟩ : ∃ tb, tb = w.heap.size := ⟨_, rfl⟩
  rw [← htb] at HP0 ⊢
  clear htb
  go_loopw [15] (fun i wr => ∃ (m : Nat), m ≤ l.length ∧ i = .int .i64 m ∧ Hid (OwnTab w wr tb (putAll (l.take m)))) (fun i _ => l.length - (intOf i).toNat)
  case atStart => exact ⟨0, Nat.zero_le _, rfl, HP0⟩
  case round =>
    obtain ⟨m, hm, rfl, HP⟩ := hrel
    by_cases hlt : m < l.length
    · obtain ⟨x, hx⟩ : ∃ x, l[m]? = some x := ⟨_, List.getElem?_eq_getElem hlt⟩
      obtain ⟨b, off, rfl, hb, d0, d1, d2, d3, d4⟩ := Sl.route HS.out HP.out.bel hx
      have hvp := HK.out.vp x (List.mem_of_getElem? hx)
      have hlo := HK.out.lo x (List.mem_of_getElem? hx)
      have hhi := HK.out.hi x (List.mem_of_getElem? hx)
      have HZ := Lib.hid (putAll_none HK.out hx)
      have HT : Hid (putAll (l.take (m + 1)) = putL (putAll (l.take m)) x.1 x.2.1 x.2.2) := Lib.hid (by rw [← putAll_snoc, List.take_add_one, hx]; rfl)
      have HLn := Lib.hid (putAll_ok _ (HK.out.take m) rfl).2.2.2
      obtain ⟨xn, xk, xh⟩ := x
      dsimp only at hvp hlo hhi d0 d1 d2 d3 d4
      have C := Lib.hid (fun w => check_ok false xn xk w hvp)
      have HV := Lib.hid hvp
      have t1 : decide ((xh : Int) < 1) = false := by simp; omega
      have t2 : decide ((999 : Int) < xh) = false := by simp; omega
      clear hx hvp
      generalize putAll (l.take m) = L0 at *
      go_wp2_with (first | ((with_reducible refine (C.out _).mono ?_); rintro e w1 ⟨rfl, hb1⟩; (repeat (with_reducible (replace hb1 := Below.undrew hb1))); obtain ⟨hc1, hf1⟩ := bcell hb1; have hz1 := hb1.size; (repeat (first | rw [World.size_alloc] at hz1 | rw [World.size_drew] at hz1 | rw [World.size_setCell] at hz1)); (try have : b < w1.heap.size := by omega); (try have : b < w1.heap.size + 1 := by omega); (try have : b < w1.heap.size + 1 + 1 := by omega); (try have : b < w1.heap.size + 1 + 1 + 1 := by omega); (try have : tb < w1.heap.size := by omega); (try have : tb < w1.heap.size + 1 := by omega); (try have : tb < w1.heap.size + 1 + 1 := by omega); (try have : tb < w1.heap.size + 1 + 1 + 1 := by omega); (try have : wr.heap.size < w1.heap.size := by omega); (try have : wr.heap.size < w1.heap.size + 1 := by omega); (try have : wr.heap.size < w1.heap.size + 1 + 1 := by omega); (try have : wr.heap.size < w1.heap.size + 1 + 1 + 1 := by omega)))
      have hYB : Below wr.heap.size wr w1 := by (repeat' (first | (with_reducible exact Below.refl _ _) | (with_reducible assumption) | (with_reducible refine Below.alloc ?_ ?_ _) | (with_reducible refine Below.drew ?_) | (with_reducible refine Below.stepG ?_ (by assumption) ?_) | (with_reducible refine Below.setCell ?_ ?_ _) | omega | (dsimp only; omega) | (simp; done) | (simp; omega)))
      refine ((HP.out.below hYB).put (n := xn) (k := xk) (hop := xh) (by have := HLn.out; rw [List.length_take] at this; omega) HV.out (by omega) hhi).mono ?_
      rintro e w2 ⟨rfl, hp2, hz2⟩
      rw [HZ.out]
      have HP2 := Lib.hid hp2
      rw [← HT.out] at HP2
      clear hb1 hc1 hf1 hp2 hYB
      go_wp2_with fail
      go_roundw
      case rel => exact ⟨m + 1, by omega, by go_num, HP2⟩
      case measure => simp [intOf]; omega
    · obtain rfl : m = l.length := by omega
      go_wp2
      go_returns
      rw [List.take_of_length_le (Nat.le_refl _)] at HP
      exact ⟨tb, rfl, HP.out⟩
end Go.Proofs.YtoecmoicaklbaaaDoor

/- Contracts of package table: Look, Check over a list of routes. -/
set_option linter.unusedVariables false
set_option linter.unusedSimpArgs false
namespace Go.Proofs.YtoecmoicaklbaaaDoor
open Go Go.RowKit Go.Sort Wc Wk

theorem OwnTab.look {w wr : World} {tb : Nat} {L : List (Nat × Nat × Nat)} {a : Nat} (h : OwnTab w wr tb L) (ha : Fits false a) :
    Calls Tryd.prog 45 #[.pointer (some ⟨tb, 0, none⟩), Value.agg #[.bool false, .int .u64 (hiOf false a), .int .u64 (loOf a)]] wr fun e w' => e = .returned (.agg #[.int .i64 0, .int .i64 ((goesL L a).1 : Nat), .int .i64 ((goesL L a).2 : Nat)]) ∧ Below wr.heap.size wr w' := by
  obtain ⟨F, t, f, b⟩ := h
  exact tab_look tb a L F wr t ha
theorem check_any (a : Option Addr) (cap n : Nat) (l : List (Nat × Nat × Nat)) (w : World) (hn : n = l.length) (hs : Sl w 5 (.slice a n cap) (l.map routeCells)) (hok : RtOk l) :
    Calls Tryd.prog 31 #[.slice a n cap] w fun e w' => e = .returned (.int .i64 0) ∧ Below w.heap.size w w' := by
  have NW := Lib.hid (new_any a cap n l w hn hs hok)
  clear hs hn
  go_enter Tryd.func31, Tryd.ntmps31
  go_wp2_with fail
  refine NW.out.mono ?_
  rintro e w1 ⟨tb, rfl, ht⟩
  have HB := Lib.hid ht.bel
  clear ht
  go_wp2
  go_returns
  exact ⟨rfl, HB.out⟩

set_option maxRecDepth 100000 in
set_option maxHeartbeats 1000000 in
theorem tlook_any (a : Option Addr) (cap n x : Nat) (l : List (Nat × Nat × Nat)) (w : World) (hn : n = l.length) (hs : Sl w 5 (.slice a n cap) (l.map routeCells)) (hok : RtOk l) (hx : Fits false x) :
    Calls Tryd.prog 28 #[.slice a n cap, Value.agg #[.bool false, .int .u64 (hiOf false x), .int .u64 (loOf x)]] w fun e w' => e = .returned (.tuple #[.agg #[.int .i64 0, .int .i64 ((goesL (putAll l) x).1 : Nat), .int .i64 ((goesL (putAll l) x).2 : Nat)], .int .i64 0]) ∧ Below w.heap.size w w' := by
  have HS := Lib.hid hs
  have HOK := Lib.hid hok
  have M := Lib.hid (fun w => may_any false x w hx)
  have HN := Lib.hid hn
  have HX := Lib.hid hx
  clear hs hn hok hx
  go_enter Tryd.func28, Tryd.ntmps28
  go_wp2_with fail
  have hWB : Below w.heap.size w ((w.alloc (.cells #[.bool false, .int .u64 (hiOf false x), .int .u64 (loOf x)] 37)).alloc (.cells #[.int .i64 0, .int .i64 0, .int .i64 0] 50)) := by (repeat' (first | (with_reducible exact Below.refl _ _) | (with_reducible assumption) | (with_reducible refine Below.alloc ?_ ?_ _) | (with_reducible refine Below.drew ?_) | (with_reducible refine Below.stepG ?_ (by assumption) ?_) | (with_reducible refine Below.setCell ?_ ?_ _) | omega | (dsimp only; omega) | (simp; done) | (simp; omega)))
  refine (new_any a cap n l _ HN.out (HS.out.below hWB) HOK.out).mono ?_
  rintro e w1 ⟨tb, rfl, ht⟩
  have hb1 := ht.bel
  have B1 : B3 w1 (w.heap.size + 1) 0 0 0 := B3.below (by have := b3_new (w.alloc (.cells #[.bool false, .int .u64 (hiOf false x), .int .u64 (loOf x)] 37)) 50; rw [World.size_alloc] at this; exact this) hb1
  have g0 : w1.cell? ⟨w.heap.size, 0, none⟩ = some (.bool false) := (hb1.cell (p := ⟨w.heap.size, 0, none⟩) (by simp; omega)).trans (by simp)
  have g1 : w1.cell? ⟨w.heap.size, 1, none⟩ = some (.int .u64 (hiOf false x)) := (hb1.cell (p := ⟨w.heap.size, 1, none⟩) (by simp; omega)).trans (by simp)
  have g2 : w1.cell? ⟨w.heap.size, 2, none⟩ = some (.int .u64 (loOf x)) := (hb1.cell (p := ⟨w.heap.size, 2, none⟩) (by simp; omega)).trans (by simp)
  have hs1 : w.heap.size < w1.heap.size := by have := hb1.size; simp at this; omega
  have HT := Lib.hid ht
  have HB1 := Lib.hid B1
  have HW1 := Lib.hid (hWB.trans (hb1.mono hWB.size))
  clear ht hb1 B1 hWB
  go_wp2_with (first | ((with_reducible refine (M.out _).mono ?_); rintro e w2 ⟨rfl, hb2⟩; (repeat (with_reducible (replace hb2 := Below.undrew hb2))); obtain ⟨hc2, hf2⟩ := bcell hb2; have hz2 := hb2.size; (repeat (first | rw [World.size_alloc] at hz2 | rw [World.size_drew] at hz2 | rw [World.size_setCell] at hz2)); (try have : w.heap.size < w2.heap.size := by omega); (try have : w.heap.size < w2.heap.size + 1 := by omega); (try have : w.heap.size < w2.heap.size + 1 + 1 := by omega); (try have : w.heap.size < w2.heap.size + 1 + 1 + 1 := by omega); (try have : w.heap.size + 1 < w2.heap.size := by omega); (try have : w.heap.size + 1 < w2.heap.size + 1 := by omega); (try have : w.heap.size + 1 < w2.heap.size + 1 + 1 := by omega); (try have : w.heap.size + 1 < w2.heap.size + 1 + 1 + 1 := by omega); (try have : w1.heap.size < w2.heap.size := by omega); (try have : w1.heap.size < w2.heap.size + 1 := by omega); (try have : w1.heap.size < w2.heap.size + 1 + 1 := by omega); (try have : w1.heap.size < w2.heap.size + 1 + 1 + 1 := by omega)))
  refine ((HT.out.below hb2).look HX.out).mono ?_
  rintro e w3 ⟨rfl, hb3⟩
  have B3' := (HB1.out.below hb2).below hb3
  have HB3 := Lib.hid B3'
  have H3 := Lib.hid (HW1.out.trans ((hb2.mono HW1.out.size).trans (hb3.mono (Nat.le_trans HW1.out.size hb2.size))))
  obtain ⟨lt3, k0, k1, k2, f0, f1, f2⟩ := B3'
  clear hb2 hc2 hf2 hb3 g0 g1 g2
  go_wp2_with fail
  have B := HB3.out.set 0 (goesL (putAll l) x).1 (goesL (putAll l) x).2
  obtain ⟨_, e0, e1, e2, _, _, _⟩ := B
  refine bodyPost_ret (v := .tuple #[.agg #[.int .i64 0, .int .i64 ((goesL (putAll l) x).1 : Nat), .int .i64 ((goesL (putAll l) x).2 : Nat)], .int .i64 0]) (by simp [results, Tryd.results28, go_sem, e0, e1, e2]) rfl ⟨rfl, ((H3.out.setCell (by simp) _).setCell (by simp) _).setCell (by simp) _⟩
end Go.Proofs.YtoecmoicaklbaaaDoor
