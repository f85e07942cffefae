
/- Acts, jobs, what they come to: plain data and how they lie in memory. -/
import Derived.Test.YtoecmoicaklbaaaDoorPres
import Derived.Test.YtoecmoicaklbaaaDoorKit
import Derived.Test.YtoecmoicaklbaaaDoorTrie
set_option linter.unusedVariables false
namespace Wk
open Go Go.RowKit Go.Sort
theorem Sl.at {w : World} {sz : Nat} {a : Option Addr} {n cap : Nat} {xs : List (List Value)} (h : Sl w sz (.slice a n cap) xs) {i : Nat} {c : List Value} (hi : xs[i]? = some c) :
    ∃ b off, a = some ⟨b, off, none⟩ ∧ b < w.heap.size ∧ ∀ j u, c[j]? = some u → w.cell? ⟨b, off + i * sz + j, none⟩ = some u := by
  obtain ⟨_, a', cap', hv, _, _, hcc⟩ := h
  simp only [Value.slice.injEq] at hv
  obtain ⟨rfl, _, _⟩ := hv
  obtain ⟨b, off, rfl, hlt, hcell⟩ := hcc (by intro h; rw [h] at hi; simp at hi)
  exact ⟨b, off, rfl, hlt, fun j u hu => hcell i c hi j u hu⟩
theorem Sl.lens {w : World} {sz : Nat} {a : Option Addr} {n cap : Nat} {xs : List (List Value)} (h : Sl w sz (.slice a n cap) xs) : n = xs.length ∧ n ≤ cap ∧ cap ≤ 9223372036854775807 := by
  obtain ⟨_, a', cap', hv, h1, h2, _⟩ := h
  simp only [Value.slice.injEq] at hv
  obtain ⟨rfl, rfl, rfl⟩ := hv
  exact ⟨rfl, h1, by unfold maxLen at h2; exact h2⟩

end Wk
namespace Go.Proofs.YtoecmoicaklbaaaDoor
open Go Go.RowKit Go.Sort Wc Wk

def I64 (x : Int) : Prop := -9223372036854775808 ≤ x ∧ x ≤ 9223372036854775807

/-- A job of the laws: three numbers. -/
structure RawJ where
  kind : Int
  pre : Int
  hop : Int
def rawCells (r : RawJ) : List Value := [.int .i64 r.kind, .int .i64 r.pre, .int .i64 r.hop]
def IsJobs (w : World) (a : Option Addr) (len cap : Nat) (js : List RawJ) : Prop :=
  js.length = len ∧ Sl w 3 (.slice a len cap) (js.map rawCells) ∧ ∀ j ∈ js, I64 j.kind ∧ I64 j.pre ∧ I64 j.hop
theorem IsJobs.below {w w' : World} {a : Option Addr} {len cap : Nat} {js : List RawJ} (h : IsJobs w a len cap js) (hb : Below w.heap.size w w') : IsJobs w' a len cap js := ⟨h.1, h.2.1.below hb, h.2.2⟩
theorem IsJobs.le {w : World} {a : Option Addr} {len cap : Nat} {js : List RawJ} (h : IsJobs w a len cap js) : len ≤ 9223372036854775807 := by
  have := Sl.lens h.2.1; omega
theorem IsJobs.opened {w w' : World} {a : Option Addr} {len cap : Nat} {js : List RawJ} (h : IsJobs w a len cap js) (hb : Below w.heap.size w w') {k : Nat} (hk : k < len) :
    ∃ b off r, js[k]? = some r ∧ a = some ⟨b, off, none⟩ ∧ b < w.heap.size ∧ w'.cell? ⟨b, off + k * 3, none⟩ = some (.int .i64 r.kind) ∧ w'.cell? ⟨b, off + k * 3 + 1, none⟩ = some (.int .i64 r.pre) ∧ w'.cell? ⟨b, off + k * 3 + 2, none⟩ = some (.int .i64 r.hop) ∧ I64 r.kind ∧ I64 r.pre ∧ I64 r.hop := by
  obtain ⟨hl, hs, hi⟩ := h
  have hr : js[k]? = some (js[k]'(by omega)) := List.getElem?_eq_getElem (by omega)
  obtain ⟨b, off, ha, hlt, hc⟩ := Sl.at hs (i := k) (c := rawCells (js[k]'(by omega))) (by rw [List.getElem?_map, hr]; rfl)
  have g := fun j u (h : (rawCells (js[k]'(by omega)))[j]? = some u) => (hb.cell (p := ⟨b, off + k * 3 + j, none⟩) hlt).trans (hc j u h)
  exact ⟨b, off, _, hr, ha, hlt, g 0 _ rfl, g 1 _ rfl, g 2 _ rfl, hi _ (List.mem_of_getElem? hr)⟩

/-- An act (of the family of 32 bits). -/
structure ActD where
  kind : Nat
  n : Nat
  k : Nat
  hop : Nat
  a : Nat
def actCells (x : ActD) : List Value := [.int .i64 x.kind, .bool false, .int .u64 (hiOf false x.n), .int .u64 (loOf x.n), .int .i64 x.k, .int .i64 x.hop, .bool false, .int .u64 (hiOf false x.a), .int .u64 (loOf x.a)]
theorem actCells_one (x : ActD) : ∀ u ∈ actCells x, u.oneCell' = true := by
  intro u hu
  simp [actCells] at hu
  rcases hu with rfl | rfl | rfl | rfl | rfl | rfl | rfl | rfl | rfl <;> rfl
def actZ : ActD := ⟨0, 0, 0, 0, 0⟩
theorem eiAct : EI Tryd.prog 26 59 9 72 (.agg #[.int .i64 0, .bool false, .int .u64 0, .int .u64 0, .int .i64 0, .int .i64 0, .bool false, .int .u64 0, .int .u64 0]) := ⟨by kernel_rfl, by kernel_rfl, rfl, by decide⟩
theorem Sl.act {w w' : World} {a : Option Addr} {n cap : Nat} {xs : List ActD} (hs : Sl w 9 (.slice a n cap) (xs.map actCells)) (hb : Below w.heap.size w w') {i : Nat} {r : ActD} (hr : xs[i]? = some r) :
    ∃ b off, a = some ⟨b, off, none⟩ ∧ b < w.heap.size ∧ w'.cell? ⟨b, off + i * 9, none⟩ = some (.int .i64 r.kind) ∧ w'.cell? ⟨b, off + i * 9 + 1, none⟩ = some (.bool false) ∧ w'.cell? ⟨b, off + i * 9 + 2, none⟩ = some (.int .u64 (hiOf false r.n)) ∧
      w'.cell? ⟨b, off + i * 9 + 3, none⟩ = some (.int .u64 (loOf r.n)) ∧ w'.cell? ⟨b, off + i * 9 + 4, none⟩ = some (.int .i64 r.k) ∧ w'.cell? ⟨b, off + i * 9 + 5, none⟩ = some (.int .i64 r.hop) ∧ w'.cell? ⟨b, off + i * 9 + 6, none⟩ = some (.bool false) ∧
      w'.cell? ⟨b, off + i * 9 + 7, none⟩ = some (.int .u64 (hiOf false r.a)) ∧ w'.cell? ⟨b, off + i * 9 + 8, none⟩ = some (.int .u64 (loOf r.a)) := by
  obtain ⟨b, off, ha, hlt, hc⟩ := Sl.at hs (i := i) (c := actCells r) (by rw [List.getElem?_map, hr]; rfl)
  have g := fun j u (h : (actCells r)[j]? = some u) => (hb.cell (p := ⟨b, off + i * 9 + j, none⟩) hlt).trans (hc j u h)
  exact ⟨b, off, ha, hlt, g 0 _ rfl, g 1 _ rfl, g 2 _ rfl, g 3 _ rfl, g 4 _ rfl, g 5 _ rfl, g 6 _ rfl, g 7 _ rfl, g 8 _ rfl⟩
end Go.Proofs.YtoecmoicaklbaaaDoor
