
/- Shares: SortStableFunc at most 16 long is one insertion sort. -/
import Derived.Test.YticfcigkldkhmaaSh5
set_option linter.unusedVariables false
set_option linter.unusedSimpArgs false
namespace Go.Proofs.Yticfcigkldkhmaa
open Go Go.RowKit Go.Sort Wc Wk

theorem stable_any (w : World) (B g pm pl pa pw cap2 : Nat) (a : Option Addr) (cap n m : Nat) (l : List (Nat × Nat)) (many : Nat) (xs : List Nat) (hn : n = l.length) (hok : ShOk l) (hmany : many ≤ 64) (hm : m = xs.length) (hm1 : 1 ≤ m) (hm2 : m ≤ 16) (hxs : ∀ x ∈ xs, x < n)
    (hw : PW w g pm pl pa a cap n l many) (lw : pw < w.heap.size) (nw : pw ≠ g)
    (cw : w.cell? ⟨pw, 0, none⟩ = some (.func (.func 84) #[] #[.pointer (some ⟨pm, 0, none⟩), .pointer (some ⟨pl, 0, none⟩), .pointer (some ⟨pa, 0, none⟩)]))
    (ho : Wk.Own w B 3 1 (.slice (some ⟨g, 0, none⟩) m cap2) (xs.map nC)) :
    Calls Try.prog 103 #[.slice (some ⟨g, 0, none⟩) m cap2, .int .i64 m, .func (.func 86) #[] #[.pointer (some ⟨pw, 0, none⟩)]] w fun e w' => e = .returned (.tuple #[]) ∧ w.grownBy w' (some g) ∧
      Wk.Own w' B 3 1 (.slice (some ⟨g, 0, none⟩) m cap2) ((srt (awayF (l.map (·.2)) many) xs m).map nC) := by
  have h1 := (own_lens ho).2.1
  have h2 := (own_lens ho).2.2
  have I := Lib.hid (ins_any w B g pm pl pa pw cap2 a cap n m l many xs hn hok hmany hm hm1 hm2 hxs hw lw nw cw ho)
  clear hn hok hmany hm hxs hw lw nw cw ho
  go_enter Try.func103, Try.ntmps103
  go_wp2_with fail
  go_loopw [7, 8] (fun x y wr => x = .int .i64 0 ∧ y = .int .i64 20 ∧ wr = w) (fun _ _ _ => 0)
  case atStart => exact ⟨rfl, rfl, rfl⟩
  case round =>
    obtain ⟨rfl, rfl, rfl⟩ := hrel
    go_wp2_with ((with_reducible refine I.out.mono ?_); rintro e w5 ⟨rfl, hg5, ho5⟩)
    go_loopw [6] (fun x wr => x = .int .i64 20 ∧ wr = w5) (fun _ _ => 0)
    case atStart => exact ⟨rfl, rfl⟩
    case round =>
      obtain ⟨rfl, rfl⟩ := hrel
      go_wp2_with fail
      go_returns
      exact ⟨rfl, hg5, ho5⟩
theorem sort_any (w : World) (B g pm pl pa pw cap2 : Nat) (a : Option Addr) (cap n m : Nat) (l : List (Nat × Nat)) (many : Nat) (xs : List Nat) (hn : n = l.length) (hok : ShOk l) (hmany : many ≤ 64) (hm : m = xs.length) (hm1 : 1 ≤ m) (hm2 : m ≤ 16) (hxs : ∀ x ∈ xs, x < n)
    (hw : PW w g pm pl pa a cap n l many) (lw : pw < w.heap.size) (nw : pw ≠ g)
    (cw : w.cell? ⟨pw, 0, none⟩ = some (.func (.func 84) #[] #[.pointer (some ⟨pm, 0, none⟩), .pointer (some ⟨pl, 0, none⟩), .pointer (some ⟨pa, 0, none⟩)]))
    (ho : Wk.Own w B 3 1 (.slice (some ⟨g, 0, none⟩) m cap2) (xs.map nC)) :
    Calls Try.prog 85 #[.slice (some ⟨g, 0, none⟩) m cap2, .func (.func 86) #[] #[.pointer (some ⟨pw, 0, none⟩)]] w fun e w' => e = .returned (.tuple #[]) ∧ w.grownBy w' (some g) ∧
      Wk.Own w' B 3 1 (.slice (some ⟨g, 0, none⟩) m cap2) ((srt (awayF (l.map (·.2)) many) xs m).map nC) := by
  have h1 := (own_lens ho).2.1
  have h2 := (own_lens ho).2.2
  have I := Lib.hid (stable_any w B g pm pl pa pw cap2 a cap n m l many xs hn hok hmany hm hm1 hm2 hxs hw lw nw cw ho)
  clear hn hok hmany hm hxs hw lw nw cw ho
  go_enter Try.func85, Try.ntmps85
  go_wp2_with ((with_reducible refine I.out.mono ?_); rintro e w5 ⟨rfl, hg5, ho5⟩)
  go_returns
  exact ⟨rfl, hg5, ho5⟩
end Go.Proofs.Yticfcigkldkhmaa
