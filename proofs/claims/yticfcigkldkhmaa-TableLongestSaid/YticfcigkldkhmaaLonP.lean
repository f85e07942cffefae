
/- Plain laws on the longest prefix; small contracts. -/
import Derived.Test.YticfcigkldkhmaaGoes
set_option linter.unusedVariables false
set_option linter.unusedSimpArgs false
namespace Go.Proofs.Yticfcigkldkhmaa
open Go Go.RowKit Go.Sort Wc Wk

theorem goesL_snoc : ∀ (l : List (Nat × Nat × Nat)) (x : Nat × Nat × Nat) (hx : x.2.2 ≠ 0) (a : Nat), goesL (l ++ [x]) a = if cutN 32 a x.2.1 = x.1 then (x.2.2, x.2.1) else goesL l a
  | [], x, hx, a => by simp [goesL]
  | y :: l, x, hx, a => by
    have ih := goesL_snoc l x hx a
    rw [List.cons_append]
    unfold goesL
    rw [ih]
    by_cases hc : cutN 32 a x.2.1 = x.1
    · rw [if_pos hc, if_pos hc, if_pos (by simpa using hx)]
    · rw [if_neg hc, if_neg hc]
theorem goesL_zero {L : List (Nat × Nat × Nat)} (t : TabOk L) (a : Nat) (h : (goesL L a).1 = 0) : (goesL L a).2 = 0 := by
  rcases (goesL_says t.srt t.hops t.vp a).1 with ⟨_, e, _⟩ | ⟨x, hx, _, e1, e2, _⟩
  · exact e
  · have := t.hops x hx; omega
/-- The longest seen yet; -1: none. -/
def bestL (l : List (Nat × Nat × Nat)) (a : Nat) : Int := if (goesL l a).1 = 0 then -1 else (goesL l a).2
theorem TabOk.take {L : List (Nat × Nat × Nat)} (t : TabOk L) (m : Nat) : TabOk (L.take m) :=
  ⟨t.srt.sublist (List.take_sublist _ _), fun x hx => t.hops x (List.mem_of_mem_take hx), fun x hx => t.vp x (List.mem_of_mem_take hx), fun x hx => t.top x (List.mem_of_mem_take hx), by rw [List.length_take]; have := t.len; omega⟩
theorem best_step {L : List (Nat × Nat × Nat)} (t : TabOk L) {m : Nat} {x : Nat × Nat × Nat} (hx : L[m]? = some x) (a : Nat) :
    (cutN 32 a x.2.1 = x.1 → bestL (L.take m) a < x.2.1 ∧ bestL (L.take (m + 1)) a = x.2.1 ∧ (goesL (L.take (m + 1)) a).1 = x.2.2) ∧
    (¬ cutN 32 a x.2.1 = x.1 → bestL (L.take (m + 1)) a = bestL (L.take m) a ∧ (goesL (L.take (m + 1)) a).1 = (goesL (L.take m) a).1) := by
  have etk : L.take (m + 1) = L.take m ++ [x] := by rw [List.take_add_one, hx]; rfl
  have h0 := t.hops x (List.mem_of_getElem? hx)
  have hvx := t.vp x (List.mem_of_getElem? hx)
  have sn := goesL_snoc (L.take m) x h0 a
  have ht := t.take m
  have hs := (t.take (m + 1)).srt
  rw [etk] at hs ⊢
  unfold Srt at hs
  rw [List.pairwise_append] at hs
  constructor
  · intro hc
    rw [if_pos hc] at sn
    refine ⟨?_, by unfold bestL; rw [sn, if_neg h0], by rw [sn]⟩
    unfold bestL
    split
    · omega
    · next hz =>
      rcases (goesL_says ht.srt ht.hops ht.vp a).1 with ⟨e, _, _⟩ | ⟨z, hz1, hz2, e1, e2, _⟩
      · exact absurd e hz
      · have hlt := hs.2.2 z hz1 x (List.mem_singleton.2 rfl)
        have v1 := ht.vp z hz1
        rcases Nat.lt_or_ge z.2.1 x.2.1 with hk | hk
        · omega
        · exfalso
          have := cut_cut (a := a) hk (show z.2.1 ≤ 32 from v1.2.1)
          rw [hz2, hc] at this
          have h3 := cutN_le 32 z.1 x.2.1
          rw [this] at h3
          unfold lt3 at hlt; omega
  · intro hc
    rw [if_neg hc] at sn
    exact ⟨by unfold bestL; rw [sn], by rw [sn]⟩
theorem best_max {L : List (Nat × Nat × Nat)} (t : TabOk L) (a : Nat) : max (bestL L a) 0 = ((goesL L a).2 : Int) := by
  unfold bestL
  split
  · next h => rw [goesL_zero t a h]; decide
  · omega
theorem best_in {L : List (Nat × Nat × Nat)} (t : TabOk L) (a : Nat) : -1 ≤ bestL L a ∧ bestL L a ≤ 32 ∧ (goesL L a).1 ≤ 999 := by
  unfold bestL
  rcases (goesL_says t.srt t.hops t.vp a).1 with ⟨e, _, _⟩ | ⟨z, hz1, hz2, e1, e2, _⟩
  · rw [e, if_pos rfl]; omega
  · have h1 := (t.vp z hz1).2.1
    have h2 := t.top z hz1
    have : z.2.1 ≤ 32 := h1
    split <;> omega
theorem Sl.answ {w w' : World} {a : Option Addr} {n cap : Nat} {xs : List AnsD} (hs : Sl w 3 (.slice a n cap) (xs.map ansCells)) (hb : Below w.heap.size w w') {i : Nat} {r : AnsD} (hr : xs[i]? = some r) :
    ∃ b off, a = some ⟨b, off, none⟩ ∧ b < w.heap.size ∧ w'.cell? ⟨b, off + i * 3, none⟩ = some (.int .i64 r.code) ∧ w'.cell? ⟨b, off + i * 3 + 1, none⟩ = some (.int .i64 r.hop) ∧ w'.cell? ⟨b, off + i * 3 + 2, none⟩ = some (.int .i64 r.len) := by
  obtain ⟨b, off, ha, hlt, hc⟩ := Sl.at hs (i := i) (c := ansCells r) (by rw [List.getElem?_map, hr]; rfl)
  have g := fun j u (h : (ansCells r)[j]? = some u) => (hb.cell (p := ⟨b, off + i * 3 + j, none⟩) hlt).trans (hc j u h)
  exact ⟨b, off, ha, hlt, g 0 _ rfl, g 1 _ rfl, g 2 _ rfl⟩
theorem Play_m (a : Option Addr) (cap n : Nat) (al : List ActD) (w : World) (hn : n = al.length) (hs : Sl w 9 (.slice a n cap) (al.map actCells)) (hl : al.length ≤ 100) (hok : ∀ x ∈ al, ActD.fit x) :
    Calls Try.prog 30 #[.slice a n cap] w fun e w' => ∃ v, e = .returned (.tuple #[v, .int .i64 0]) ∧ Wk.Own w' w.heap.size 64 3 v ((trun [] al).map ansCells) ∧ Below w.heap.size w w' := by
  subst hn; exact Play_any a cap al w hs hl hok
theorem look_fit {a : Nat} (h : Fits false a) : ActD.fit ⟨3, 0, 0, 0, a⟩ := ⟨vp00, h, (by decide : 1 ≤ 3 ∧ 3 ≤ 4), (fun h => by cases h), (by decide : 0 ≤ 999)⟩
theorem look_run (l : List ActD) (a : Nat) : trun [] (l ++ [⟨3, 0, 0, 0, a⟩]) = trun [] l ++ [⟨0, (goesL (tend [] l) a).1, (goesL (tend [] l) a).2⟩] := by
  rw [trun_app]; rfl
end Go.Proofs.Yticfcigkldkhmaa
