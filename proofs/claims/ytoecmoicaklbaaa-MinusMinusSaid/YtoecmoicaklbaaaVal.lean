
/- slices.Values, slices.Collect, slices.SortedFunc at prefixes. -/
import Derived.Test.YtoecmoicaklbaaaRl
import Derived.Test.YtoecmoicaklbaaaActs
set_option linter.unusedVariables false
set_option linter.unusedSimpArgs false
namespace Go.Proofs.Ytoecmoicaklbaaa
open Go Go.RowKit Go.Sort Go.Shelf Wc Wk
attribute [local go_sem] Oper.semAt_some

def pfC (six : Bool) (x : Nat × Nat) : List Value := preCells six x.1 x.2
theorem pfC_one (six : Bool) (x : Nat × Nat) : ∀ u ∈ pfC six x, u.oneCell' = true := preCells_one six x.1 x.2
/-- A prefix as what a round is handed. -/
def encPf (six : Bool) (x : Nat × Nat) : Array Value := #[.agg #[.bool six, .int .u64 (hiOf six x.1), .int .u64 (loOf x.1), .int .i64 x.2]]
theorem Sl.pf {w w' : World} {six : Bool} {a : Option Addr} {n cap : Nat} {l : List (Nat × Nat)} (hs : Sl w 4 (.slice a n cap) (l.map (pfC six))) {B : Nat} (hb : Below B w w') (ha : ∀ x, a = some x → x.block < B) {i : Nat} {v : Nat × Nat} (hv : l[i]? = some v) :
    ∃ b off, a = some ⟨b, off, none⟩ ∧ b < B ∧ b < w'.heap.size ∧ w'.cell? ⟨b, off + i * 4, none⟩ = some (.bool six) ∧ w'.cell? ⟨b, off + i * 4 + 1, none⟩ = some (.int .u64 (hiOf six v.1)) ∧ w'.cell? ⟨b, off + i * 4 + 2, none⟩ = some (.int .u64 (loOf v.1)) ∧ w'.cell? ⟨b, off + i * 4 + 3, none⟩ = some (.int .i64 v.2) := by
  obtain ⟨b, off, ha', hlt, hc⟩ := Sl.at hs (i := i) (c := pfC six v) (by rw [List.getElem?_map, hv]; rfl)
  have hB := ha _ ha'
  have g := fun j u (h : (pfC six v)[j]? = some u) => (hb.cell (p := ⟨b, off + i * 4 + j, none⟩) hB).trans (hc j u h)
  exact ⟨b, off, ha', hB, Nat.lt_of_lt_of_le hlt hb.size, g 0 _ rfl, g 1 _ rfl, g 2 _ rfl, g 3 _ rfl⟩

set_option maxRecDepth 100000 in
set_option maxHeartbeats 1000000 in
theorem values_in (six : Bool) (sb n₀ : Nat) (a : Option Addr) (len cap : Nat) (xs : List (Nat × Nat)) (w : World) (hs : Sl w 4 (.slice a len cap) (xs.map (pfC six))) (hlen : len = xs.length) (hl : len ≤ 1000) (hc : w.cell? ⟨sb, 0, none⟩ = some (.slice a len cap)) (hsb : sb < n₀) (hn0 : n₀ ≤ w.heap.size) (ha : ∀ x, a = some x → x.block < n₀) (n : Nat) :
    ListsC Fence.wide n Try.prog 114 #[] #[.pointer (some ⟨sb, 0, none⟩)] (encPf six) n₀ xs w := by
  intro l J W hbW hY hJn h0
  have c0 := (hbW.cell (p := ⟨sb, 0, none⟩) hsb).trans hc
  have HS := Lib.hid hs
  have HA := Lib.hid ha
  have HN := Lib.hid hlen
  have HBW := Lib.hid hbW
  have HY := Lib.hid hY
  have HJ := Lib.hid hJn
  have hn1 : n₀ ≤ W.heap.size := Nat.le_trans hn0 hbW.size
  have hdd : ∀ k : Nat, (Fence.wide.depth.isSome = true → 1 ≤ k) := fun k h => by cases h
  clear hs ha hlen hbW hY hJn hc
  refine callsIn_of_wp Try.func114 rfl trivial ?_ rfl
  simp only [Try.ntmps114, List.size_toArray, List.length_cons, List.length_nil, Nat.reduceAdd, Nat.reduceSub, Array.replicate_succ, Array.replicate_zero, List.push_toArray, List.append_toArray, List.nil_append, List.cons_append]
  gi_wp2
  gi_loopw [7] (fun i wr => ∃ j : Nat, j ≤ len ∧ i = .int .i64 j ∧ Hid (J j wr) ∧ Hid (Below n₀ W wr)) (fun i _ => len - (intOf i).toNat)
  case atStart => exact ⟨0, Nat.zero_le _, rfl, h0, Below.refl _ _⟩
  case round =>
    obtain ⟨j, hj, rfl, HJj, HB⟩ := hrel
    by_cases hlt : j < len
    · obtain ⟨x, hx⟩ : ∃ x, xs[j]? = some x := ⟨_, List.getElem?_eq_getElem (by have := HN.out; omega)⟩
      obtain ⟨b, off, rfl, hb, hbw, d0, d1, d2, d3⟩ := Sl.pf HS.out (HBW.out.trans HB.out) HA.out hx
      have hz := HB.out.size
      have hJ1 := HJ.out j wr (wr.alloc (.cells #[.bool six, .int .u64 (hiOf six x.1), .int .u64 (loOf x.1), .int .i64 x.2] 30)) HJj.out ((Below.refl _ _).alloc (Nat.le_refl _) _)
      obtain ⟨fn, tmps, assign, body, hy, hR⟩ := yield_anyC rfl (n - 1) (HY.out j x _ hx hJ1)
      have HB1 := Lib.hid (HB.out.alloc (Nat.le_trans hn1 hz) (.cells #[.bool six, .int .u64 (hiOf six x.1), .int .u64 (loOf x.1), .int .i64 x.2] 30))
      simp only [encPf] at hy
      clear hx hJ1
      gi_wp2_with ((first | refine ⟨trivial, hdd _, ?_⟩ | refine ⟨hdd _, ?_⟩ | skip); refine hR.mono ?_; rintro e W2 ⟨rfl, hJ2, hb2⟩)
      go_roundw
      case rel => exact ⟨j + 1, by omega, by go_num, hJ2, HB1.out.trans hb2⟩
      case measure => simp [intOf]; omega
    · obtain rfl : j = len := by omega
      have hJ2 := HJj.out
      rw [HN.out] at hJ2
      gi_wp2
      go_end0
      exact ⟨⟨_, rfl⟩, hJ2⟩
end Go.Proofs.Ytoecmoicaklbaaa
