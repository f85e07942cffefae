
/- Plain laws: a route put changes only where its prefix is the longest. -/
import Derived.Test.YticfcigkldkhmaaGoes
import Derived.Test.YticfcigkldkhmaaToldP
set_option linter.unusedVariables false
set_option linter.unusedSimpArgs false
namespace Go.Proofs.Yticfcigkldkhmaa
open Go Go.RowKit Go.Sort Wc Wk

theorem put_end {al : List ActD} (hf : ∀ x ∈ al, x.fit) (hl : al.length ≤ 50) (q k h : Nat) : tend [] (al ++ [⟨1, q, k, h, 0⟩]) = putL (tend [] al) q k h := by
  have h1 := tend_len TabOk.nil hf
  rw [tend_app]
  show (tstep (tend [] al) ⟨1, q, k, h, 0⟩).1 = _
  unfold tstep
  rw [if_neg (show ¬ (1 = 3) by decide), if_neg (show ¬ (1 = 2) by decide), if_neg (show ¬ (1 = 4) by decide), if_neg (by simp at h1; omega)]
theorem put_fit {q k h : Nat} (hp : VP false q k) (h1 : 1 ≤ h) (h2 : h ≤ 999) : ActD.fit ⟨1, q, k, h, 0⟩ :=
  ⟨hp, fits0, (by decide : 1 ≤ 1 ∧ 1 ≤ 4), fun _ => h1, h2⟩
theorem goes_put {L : List (Nat × Nat × Nat)} (t : TabOk L) {q k h : Nat} (hp : VP false q k) (h0 : h ≠ 0) (a : Nat) :
    goesL (putL L q k h) a = if cutN 32 a k = q ∧ (goesL L a).2 ≤ k then (h, k) else goesL L a := by
  have s := srt_putL t.srt q k h
  have o := hops_putL t.srt t.hops h0 (n := q) (k := k)
  have v : ∀ x ∈ putL L q k h, VP false x.1 x.2.1 := fun x hx => by
    rcases (mem_putL t.srt).1 hx with rfl | ⟨hx, _⟩
    · exact hp
    · exact t.vp x hx
  have g := (goesL_says t.srt t.hops t.vp a).1
  by_cases hc : cutN 32 a k = q ∧ (goesL L a).2 ≤ k
  · rw [if_pos hc]
    have G : Goes (putL L q k h) a h k := by
      refine .inr ⟨(q, k, h), (mem_putL t.srt).2 (.inl rfl), hc.1, rfl, rfl, fun z hz cz => ?_⟩
      rcases (mem_putL t.srt).1 hz with rfl | ⟨hz, _⟩
      · exact Nat.le_refl _
      · rcases g with ⟨_, _, no⟩ | ⟨x, hx, c, e1, e2, mx⟩
        · exact absurd cz (no z hz)
        · have := mx z hz cz
          have := hc.2
          show z.2.1 ≤ k
          omega
    have := goes_eq s o v G
    exact (Prod.ext this.1 this.2).symm
  · rw [if_neg hc]
    have G : Goes (putL L q k h) a (goesL L a).1 (goesL L a).2 := by
      rcases g with ⟨e1, e2, no⟩ | ⟨x, hx, c, e1, e2, mx⟩
      · refine .inl ⟨e1, e2, fun z hz cz => ?_⟩
        rcases (mem_putL t.srt).1 hz with rfl | ⟨hz, _⟩
        · exact hc ⟨cz, by omega⟩
        · exact no z hz cz
      · refine .inr ⟨x, (mem_putL t.srt).2 (.inr ⟨hx, fun he => hc ⟨by rw [← he.1, ← he.2]; exact c, by omega⟩⟩), c, e1, e2, fun z hz cz => ?_⟩
        rcases (mem_putL t.srt).1 hz with rfl | ⟨hz, _⟩
        · have : ¬ (goesL L a).2 ≤ k := fun h => hc ⟨cz, h⟩
          show k ≤ x.2.1
          omega
        · exact mx z hz cz
    have := goes_eq s o v G
    exact (Prod.ext this.1 this.2).symm
/-- A block that holds an address. -/
structure QX (w : World) (p x : Nat) : Prop where
  lt : p < w.heap.size
  c0 : w.cell? ⟨p, 0, none⟩ = some (.bool false)
  c1 : w.cell? ⟨p, 1, none⟩ = some (.int .u64 (hiOf false x))
  c2 : w.cell? ⟨p, 2, none⟩ = some (.int .u64 (loOf x))
theorem QX.below {w w' : World} {p x : Nat} (h : QX w p x) (hb : Below w.heap.size w w') : QX w' p x :=
  ⟨Nat.lt_of_lt_of_le h.lt hb.size, (hb.cell (p := ⟨p, 0, none⟩) h.lt).trans h.c0, (hb.cell (p := ⟨p, 1, none⟩) h.lt).trans h.c1, (hb.cell (p := ⟨p, 2, none⟩) h.lt).trans h.c2⟩
theorem qx_new (w : World) (x : Nat) (E : TypeId) : QX (w.alloc (.cells #[.bool false, .int .u64 (hiOf false x), .int .u64 (loOf x)] E)) w.heap.size x := by constructor <;> simp
end Go.Proofs.Yticfcigkldkhmaa
