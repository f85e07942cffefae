
/- The laws' play of jobs: queued. -/
import Derived.Test.YtllemhknmleklaaQ5
import Derived.Test.YtllemhknmleklaaQRow
set_option linter.unusedVariables false
namespace Wk
open Go Go.RowKit Go.Sort
theorem sl_many {W : World} {sz b n : Nat} {xs : List (List Value)} {cs : Array Value} {E : TypeId} (hb : b = W.heap.size) (hc : ∀ c ∈ xs, c.length = sz) (hcs : cs = xs.flatten.toArray) (hn : n = xs.length) (hm : n ≤ 1000) : Sl (W.alloc (.cells cs E)) sz (.slice (some ⟨b, 0, none⟩) n n) xs := by
  subst hb hcs hn
  refine ⟨hc, some ⟨W.heap.size, 0, none⟩, xs.length, rfl, Nat.le_refl _, by unfold maxLen; omega, fun _ => ⟨W.heap.size, 0, rfl, by simp, fun i c' hi j u hu => ?_⟩⟩
  have := flatten_at hc i c' hi j u hu
  simp only [Nat.zero_add, World.cell?_alloc_new]
  simpa using this
end Wk
namespace Go.Proofs.Ytllemhknmleklaa
open Go Go.RowKit Go.Sort Wc Wk

def oneJ : List JobD := [⟨true, ⟨1, 0, 0, 3, 0⟩, 0⟩, ⟨false, actZ, 1⟩]
theorem oneJ_ok : ∀ j ∈ oneJ, JobD.ok j := by
  intro j hj
  simp [oneJ] at hj
  rcases hj with rfl | rfl
  · refine .inl ⟨rfl, ⟨?_, by decide, rfl, .inl ⟨rfl, by decide⟩⟩, rfl⟩
    have := vp_cut (six := false) (n := 0) (k := 0) (by unfold Fits wd; simp) (by decide)
    simpa [cutN] using this
  · exact .inr ⟨rfl, rfl, by decide, by decide⟩
theorem oneJ_run : qrun [] oneJ = [⟨0, false, []⟩, ⟨0, false, [⟨1, 0, 0, 3, 0⟩]⟩] := by rfl
/-- What it hands back: all is told. -/
def RetQueued (w : World) (js : List JobD) (e : Ending) (w' : World) : Prop :=
  ∃ v vs, e = .returned (.tuple #[v, .bool true]) ∧ Dones w' w.heap.size v (qrun [] js) vs ∧ Below w.heap.size w w'
theorem Dones.shape {w : World} {B : Nat} {v : Value} {ds : List DoneD} {vs : List Value} (h : Dones w B v ds vs) : ∃ a cap, v = .slice a ds.length cap := by
  obtain ⟨a, cap, hv⟩ := h.own.shape
  refine ⟨a, cap, ?_⟩
  rw [hv, List.length_zipWith, h.len, Nat.min_self]


end Go.Proofs.Ytllemhknmleklaa
