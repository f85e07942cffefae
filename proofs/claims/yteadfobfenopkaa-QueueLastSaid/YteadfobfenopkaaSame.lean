
/- The laws' sameRoutes; plain laws on what acts leave. -/
import Derived.Test.YteadfobfenopkaaRo
import Derived.Test.YteadfobfenopkaaToldP
set_option linter.unusedVariables false
set_option linter.unusedSimpArgs false
namespace Go.Proofs.Yteadfobfenopkaa
open Go Go.RowKit Go.Sort Wc Wk

theorem Sl.route {w w' : World} {a : Option Addr} {n cap : Nat} {xs : List (Nat × Nat × Nat)} (hs : Sl w 5 (.slice a n cap) (xs.map routeCells)) (hb : Below w.heap.size w w') {i : Nat} {r : Nat × Nat × Nat} (hr : xs[i]? = some r) :
    ∃ b off, a = some ⟨b, off, none⟩ ∧ b < w.heap.size ∧ w'.cell? ⟨b, off + i * 5, none⟩ = some (.bool false) ∧ w'.cell? ⟨b, off + i * 5 + 1, none⟩ = some (.int .u64 (hiOf false r.1)) ∧ w'.cell? ⟨b, off + i * 5 + 2, none⟩ = some (.int .u64 (loOf r.1)) ∧ w'.cell? ⟨b, off + i * 5 + 3, none⟩ = some (.int .i64 r.2.1) ∧ w'.cell? ⟨b, off + i * 5 + 4, none⟩ = some (.int .i64 r.2.2) := by
  obtain ⟨b, off, ha, hlt, hc⟩ := Sl.at hs (i := i) (c := routeCells r) (by rw [List.getElem?_map, hr]; rfl)
  have g := fun j u (h : (routeCells r)[j]? = some u) => (hb.cell (p := ⟨b, off + i * 5 + j, none⟩) hlt).trans (hc j u h)
  exact ⟨b, off, ha, hlt, g 0 _ rfl, g 1 _ rfl, g 2 _ rfl, g 3 _ rfl, g 4 _ rfl⟩
theorem hasL_snoc : ∀ {l : List (Nat × Nat × Nat)} {x : Nat × Nat × Nat} (hs : Srt (l ++ [x])) (hh : Hops (l ++ [x])) (n k : Nat), hasL (l ++ [x]) n k = if x.1 = n ∧ x.2.1 = k then x.2.2 else hasL l n k := by
  intro l x hs hh n k
  have hsl : Srt l := hs.sublist (List.sublist_append_left _ _)
  have hhl : Hops l := fun y hy => hh y (List.mem_append_left _ hy)
  split
  · rename_i e
    obtain ⟨rfl, rfl⟩ := e
    exact hasL_mem hs (List.mem_append_right _ List.mem_cons_self)
  · rename_i e
    by_cases hz : hasL l n k = 0
    · rw [hz, has_none hh]
      intro y hy ey
      rcases List.mem_append.1 hy with hy | hy
      · exact (has_none hhl).1 hz y hy ey
      · simp at hy; subst hy; exact e ey
    · exact hasL_mem hs (List.mem_append_left _ (mem_hasL hz))
/-- A Put, and then the Cut or the Put that takes it back. -/
theorem undone {L : List (Nat × Nat × Nat)} (t : TabOk L) {n k h : Nat} (hp : VP false n k) (h1 : 1 ≤ h) (h2 : h ≤ 999) :
    (hasL L n k = 0 → tend L [⟨1, n, k, h, 0⟩, ⟨2, n, k, 0, 0⟩] = L) ∧ (hasL L n k ≠ 0 → tend L [⟨1, n, k, h, 0⟩, ⟨1, n, k, hasL L n k, 0⟩] = L) := by
  have sp := fun g => srt_putL t.srt n k g
  have hpg := fun g (g0 : g ≠ 0) => hops_putL t.srt t.hops (n := n) (k := k) g0
  have st : ∀ M g, tstep M ⟨1, n, k, g, 0⟩ = if M.length = 60 ∧ hasL M n k = 0 then (M, ⟨9, 0, 0⟩) else (putL M n k g, ⟨0, hasL M n k, 0⟩) := fun M g => rfl
  constructor
  · intro h0
    show (tstep (tstep L _).1 ⟨2, n, k, 0, 0⟩).1 = L
    rw [st]
    split
    · exact cutL_none t.hops h0
    · show cutL (putL L n k h) n k = L
      refine tab_ext (srt_cutL (sp h) n k) (hops_cutL (hpg h (by omega)) n k) t.srt t.hops (fun m l => ?_)
      rw [hasL_cut (sp h) (hpg h (by omega)), hasL_put t.srt t.hops (by omega)]
      split
      · rename_i e; rw [e.1, e.2, h0]
      · rfl
  · intro h0
    show (tstep (tstep L _).1 ⟨1, n, k, hasL L n k, 0⟩).1 = L
    have e1 : (tstep L ⟨1, n, k, h, 0⟩).1 = putL L n k h := by rw [st, if_neg (fun e => h0 e.2)]
    rw [e1]
    have hn : hasL (putL L n k h) n k = h := by rw [hasL_put t.srt t.hops (by omega), if_pos ⟨rfl, rfl⟩]
    rw [st, if_neg (fun e => by rw [hn] at e; omega)]
    show putL (putL L n k h) n k (hasL L n k) = L
    refine tab_ext (srt_putL (sp h) n k _) (hops_putL (sp h) (hpg h (by omega)) h0) t.srt t.hops (fun m l => ?_)
    rw [hasL_put (sp h) (hpg h (by omega)) h0, hasL_put t.srt t.hops (by omega)]
    split
    · rename_i e; rw [e.1, e.2]
    · rfl

/-- Two lists of routes that are the same. -/
theorem same_yes (a b : Option Addr) (ca cb n m : Nat) (L : List (Nat × Nat × Nat)) (w : World) (hn : n = L.length) (hm : m = L.length) (ha : Sl w 5 (.slice a n ca) (L.map routeCells)) (hb : Sl w 5 (.slice b m cb) (L.map routeCells)) :
    Calls Try.prog 22 #[.slice a n ca, .slice b m cb] w fun e w' => e = .returned (.bool true) ∧ Below w.heap.size w w' := by
  subst hn
  subst hm
  have HA := Lib.hid ha
  have HB := Lib.hid hb
  have l1 := ha.lens.2.1
  have l2 := ha.lens.2.2
  have l3 := hb.lens.2.1
  have l4 := hb.lens.2.2
  clear ha hb
  go_enter Try.func22, Try.ntmps22
  go_wp2_with fail
  go_loopw [5] (fun i wr => ∃ k : Nat, k ≤ L.length ∧ i = .int .i64 k ∧ Hid (Below w.heap.size w wr)) (fun i _ => L.length - (intOf i).toNat)
  case atStart => exact ⟨0, Nat.zero_le _, rfl, Below.refl _ _⟩
  case round =>
    obtain ⟨k, hk, rfl, HW⟩ := hrel
    by_cases hlt : k < L.length
    · obtain ⟨x, hx⟩ : ∃ x, L[k]? = some x := ⟨_, List.getElem?_eq_getElem hlt⟩
      obtain ⟨b1, o1, rfl, _, c0, c1, c2, c3, c4⟩ := Sl.route HA.out HW.out hx
      obtain ⟨b2, o2, rfl, _, d0, d1, d2, d3, d4⟩ := Sl.route HB.out HW.out hx
      clear hx
      go_wp2_with fail
      go_quiet (fail)
      go_wp2
      go_roundw
      case rel => exact ⟨k + 1, by omega, by go_num, below_drewN HW.out _⟩
      case measure => simp [intOf]; omega
    · obtain rfl : k = L.length := by omega
      go_wp2
      go_returns
      exact ⟨rfl, HW.out⟩
end Go.Proofs.Yteadfobfenopkaa
