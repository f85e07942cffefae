
/- A tree of nodes of three cells (a set, two pointers), by the paths to its nodes. -/
import Derived.Test.YtoecmoicaklbaaaDoorKit
set_option linter.unusedVariables false
namespace Wk
open Go Go.RowKit Go.Sort

/-- What has become of a world of which the cells of F may have turned. -/
structure Chg (w w' : World) (F : Nat → Nat → Prop) : Prop where
  os : w'.os = w.os
  tape : w'.tape = w.tape
  output : w'.output = w.output
  size : w.heap.size ≤ w'.heap.size
  block : ∀ k, k < w.heap.size → (∀ x, ¬ F k x) → w'.heap[k]? = w.heap[k]?
  cell : ∀ k x, k < w.heap.size → ¬ F k x → w'.cell? ⟨k, x, none⟩ = w.cell? ⟨k, x, none⟩
  froz : ∀ k x, k < w.heap.size → w'.frozen? ⟨k, x, none⟩ = w.frozen? ⟨k, x, none⟩
theorem Chg.refl (w : World) (F : Nat → Nat → Prop) : Chg w w F := ⟨rfl, rfl, rfl, Nat.le_refl _, fun _ _ _ => rfl, fun _ _ _ _ => rfl, fun _ _ _ => rfl⟩
theorem Chg.trans {w w1 w2 : World} {F G : Nat → Nat → Prop} (h : Chg w w1 F) (k : Chg w1 w2 G) (hs : ∀ b x, b < w.heap.size → G b x → F b x) : Chg w w2 F :=
  ⟨k.os.trans h.os, k.tape.trans h.tape, k.output.trans h.output, Nat.le_trans h.size k.size,
    fun b hb hf => (k.block b (Nat.lt_of_lt_of_le hb h.size) (fun x hx => hf x (hs b x hb hx))).trans (h.block b hb hf),
    fun b x hb hf => (k.cell b x (Nat.lt_of_lt_of_le hb h.size) (fun hx => hf (hs b x hb hx))).trans (h.cell b x hb hf),
    fun b x hb => (k.froz b x (Nat.lt_of_lt_of_le hb h.size)).trans (h.froz b x hb)⟩
theorem Chg.of_below {w w' : World} (h : Below w.heap.size w w') (F : Nat → Nat → Prop) : Chg w w' F :=
  ⟨h.os, h.tape, h.output, h.size, fun k hk _ => h.block k hk, fun k x hk _ => h.cell (p := ⟨k, x, none⟩) hk, fun k x hk => h.frozen (p := ⟨k, x, none⟩) hk⟩
theorem Chg.below {w w' : World} {F : Nat → Nat → Prop} (h : Chg w w' F) {B : Nat} (hB : B ≤ w.heap.size) (hF : ∀ b x, b < B → ¬ F b x) : Below B w w' :=
  ⟨h.os, h.tape, h.output, h.size, fun k hk => h.block k (Nat.lt_of_lt_of_le hk hB) (fun x => hF k x hk)⟩

def ptrV : Option (Nat × Nat) → Value
  | none => .pointer none
  | some (b, o) => .pointer (some ⟨b, o, none⟩)
structure NodeC (w : World) (b o h : Nat) (p0 p1 : Option (Nat × Nat)) : Prop where
  lt : b < w.heap.size
  c0 : w.cell? ⟨b, o, none⟩ = some (.int .u64 h)
  c1 : w.cell? ⟨b, o + 1, none⟩ = some (ptrV p0)
  c2 : w.cell? ⟨b, o + 2, none⟩ = some (ptrV p1)
  f0 : w.frozen? ⟨b, o, none⟩ = false
  f1 : w.frozen? ⟨b, o + 1, none⟩ = false
  f2 : w.frozen? ⟨b, o + 2, none⟩ = false
structure Tr (w : World) (rb ro : Nat) (D : Nat → Nat → Option (Nat × Nat)) (H : Nat → Nat → Nat) : Prop where
  root : D 0 0 = some (rb, ro)
  node : ∀ i v b o, D i v = some (b, o) → NodeC w b o (H i v) (D (i + 1) (2 * v)) (D (i + 1) (2 * v + 1))
  apart : ∀ i v j u b o b' o', D i v = some (b, o) → D j u = some (b', o') → ¬ (i = j ∧ v = u) → b ≠ b'
  void : ∀ i v, D i v = none → H i v = 0
  clos : ∀ i u, D i (u / 2) = none → D (i + 1) u = none
def Foot (D : Nat → Nat → Option (Nat × Nat)) (k x : Nat) : Prop := ∃ i v o, D i v = some (k, o) ∧ o ≤ x ∧ x < o + 3
theorem NodeC.keep {w w' : World} {F : Nat → Nat → Prop} {b o h : Nat} {p0 p1 : Option (Nat × Nat)} (n : NodeC w b o h p0 p1) (c : Chg w w' F) (h0 : ¬ F b o) (h1 : ¬ F b (o + 1)) (h2 : ¬ F b (o + 2)) : NodeC w' b o h p0 p1 :=
  ⟨Nat.lt_of_lt_of_le n.lt c.size, (c.cell b o n.lt h0).trans n.c0, (c.cell b (o + 1) n.lt h1).trans n.c1, (c.cell b (o + 2) n.lt h2).trans n.c2, (c.froz b o n.lt).trans n.f0, (c.froz b (o + 1) n.lt).trans n.f1, (c.froz b (o + 2) n.lt).trans n.f2⟩
theorem Tr.keep {w w' : World} {F : Nat → Nat → Prop} {rb ro : Nat} {D : Nat → Nat → Option (Nat × Nat)} {H : Nat → Nat → Nat} (t : Tr w rb ro D H) (c : Chg w w' F) (h : ∀ b x, Foot D b x → ¬ F b x) : Tr w' rb ro D H :=
  ⟨t.root, fun i v b o hd => (t.node i v b o hd).keep c (h _ _ ⟨i, v, o, hd, by omega, by omega⟩) (h _ _ ⟨i, v, o, hd, by omega, by omega⟩) (h _ _ ⟨i, v, o, hd, by omega, by omega⟩), t.apart, t.void, t.clos⟩
theorem Tr.below {w w' : World} {rb ro : Nat} {D : Nat → Nat → Option (Nat × Nat)} {H : Nat → Nat → Nat} (t : Tr w rb ro D H) (c : Below w.heap.size w w') : Tr w' rb ro D H :=
  t.keep (Chg.of_below c (fun _ _ => False)) (fun _ _ _ h => h)

/-- A store into one cell. -/
theorem chg_set (w : World) (b x : Nat) (u : Value) : Chg w (w.setCell ⟨b, x, none⟩ u) (fun k y => k = b ∧ y = x) := by
  refine ⟨rfl, rfl, rfl, by simp, fun k hk hf => Below.heap_setCell _ _ _ _ (fun e => hf x ⟨e, rfl⟩), fun k y hk hf => ?_, fun k y hk => ?_⟩
  · exact World.cell?_setCell_other _ _ _ _ (fun e => hf (by cases e; exact ⟨rfl, rfl⟩))
  · simp
theorem ptrV_none : ptrV none = .pointer none := rfl
theorem ptrV_some (b o : Nat) : ptrV (some (b, o)) = .pointer (some ⟨b, o, none⟩) := rfl

def addD (D : Nat → Nat → Option (Nat × Nat)) (i v nb : Nat) : Nat → Nat → Option (Nat × Nat) := fun j u => if j = i ∧ u = v then some (nb, 0) else D j u
theorem addD_same (D : Nat → Nat → Option (Nat × Nat)) (i v nb : Nat) : addD D i v nb i v = some (nb, 0) := by simp [addD]
theorem addD_other {D : Nat → Nat → Option (Nat × Nat)} {i v nb j u : Nat} (h : ¬ (j = i ∧ u = v)) : addD D i v nb j u = D j u := by unfold addD; rw [if_neg h]

/-- A new node below one that is there. -/
theorem Tr.grow {w : World} {rb ro : Nat} {D : Nat → Nat → Option (Nat × Nat)} {H : Nat → Nat → Nat} (t : Tr w rb ro D H) {i v b o c : Nat} (hd : D i v = some (b, o)) (hc : c < 2) (hn : D (i + 1) (2 * v + c) = none) (T : TypeId) :
    Tr ((w.alloc (.cells #[.int .u64 0, .pointer none, .pointer none] T)).setCell ⟨b, o + 1 + c, none⟩ (.pointer (some ⟨w.heap.size, 0, none⟩))) rb ro (addD D (i + 1) (2 * v + c) w.heap.size) H ∧
    Chg w ((w.alloc (.cells #[.int .u64 0, .pointer none, .pointer none] T)).setCell ⟨b, o + 1 + c, none⟩ (.pointer (some ⟨w.heap.size, 0, none⟩))) (Foot D) := by
  have hnode := t.node i v b o hd
  have hbw := hnode.lt
  have ca : Chg w (w.alloc (.cells #[.int .u64 0, .pointer none, .pointer none] T)) (fun _ _ => False) := Chg.of_below ((Below.refl _ _).alloc (Nat.le_refl _) _) _
  have cs := chg_set (w.alloc (.cells #[.int .u64 0, .pointer none, .pointer none] T)) b (o + 1 + c) (.pointer (some ⟨w.heap.size, 0, none⟩))
  have cc : Chg w ((w.alloc (.cells #[.int .u64 0, .pointer none, .pointer none] T)).setCell ⟨b, o + 1 + c, none⟩ (.pointer (some ⟨w.heap.size, 0, none⟩))) (fun k y => k = b ∧ y = o + 1 + c) :=
    (show Chg w _ (fun k y => k = b ∧ y = o + 1 + c) from Chg.of_below ((Below.refl _ _).alloc (Nat.le_refl _) _) _).trans cs (fun _ _ _ h => h)
  have hset : ((w.alloc (.cells #[.int .u64 0, .pointer none, .pointer none] T)).setCell ⟨b, o + 1 + c, none⟩ (.pointer (some ⟨w.heap.size, 0, none⟩))).cell? ⟨b, o + 1 + c, none⟩ = some (.pointer (some ⟨w.heap.size, 0, none⟩)) := by
    have hex : ∃ u, (w.alloc (.cells #[.int .u64 0, .pointer none, .pointer none] T)).cell? ⟨b, o + 1 + c, none⟩ = some u := by
      match c, hc with
      | 0, _ => exact ⟨_, (ca.cell b (o + 1) hbw (fun h => h)).trans hnode.c1⟩
      | 1, _ => exact ⟨_, (ca.cell b (o + 2) hbw (fun h => h)).trans hnode.c2⟩
    obtain ⟨u, hu⟩ := hex
    exact World.cell?_setCell_same _ _ _ hu
  refine ⟨⟨?_, ?_, ?_, ?_, ?_⟩, ?_⟩
  · rw [addD_other (by omega)]; exact t.root
  · intro j u b' o' hj
    by_cases hnew : j = i + 1 ∧ u = 2 * v + c
    · obtain ⟨rfl, rfl⟩ := hnew
      rw [addD_same] at hj
      simp only [Option.some.injEq, Prod.mk.injEq] at hj
      obtain ⟨rfl, rfl⟩ := hj
      have k0 := t.clos (i + 1) (2 * (2 * v + c)) (by rw [show 2 * (2 * v + c) / 2 = 2 * v + c by omega]; exact hn)
      have k1 := t.clos (i + 1) (2 * (2 * v + c) + 1) (by rw [show (2 * (2 * v + c) + 1) / 2 = 2 * v + c by omega]; exact hn)
      rw [addD_other (by omega), addD_other (by omega), k0, k1, t.void _ _ hn]
      have hne : w.heap.size ≠ b := by omega
      refine ⟨by simp, ?_, ?_, ?_, ?_, ?_, ?_⟩
      · rw [cs.cell _ _ (by simp) (fun h => hne h.1)]; simp
      · rw [cs.cell _ _ (by simp) (fun h => hne h.1)]; simp [ptrV]
      · rw [cs.cell _ _ (by simp) (fun h => hne h.1)]; simp [ptrV]
      · rw [cs.froz _ _ (by simp)]; simp
      · rw [cs.froz _ _ (by simp)]; simp
      · rw [cs.froz _ _ (by simp)]; simp
    · rw [addD_other hnew] at hj
      have hold := t.node j u b' o' hj
      by_cases hsame : j = i ∧ u = v
      · obtain ⟨rfl, rfl⟩ := hsame
        rw [hd] at hj
        simp only [Option.some.injEq, Prod.mk.injEq] at hj
        obtain ⟨rfl, rfl⟩ := hj
        match c, hc with
        | 0, _ =>
          rw [show 2 * u + 0 = 2 * u from rfl] at hn ⊢
          rw [addD_same, addD_other (by omega)]
          exact ⟨Nat.lt_of_lt_of_le hold.lt cc.size, (cc.cell _ _ hbw (by omega)).trans hold.c0, hset, (cc.cell _ _ hbw (by omega)).trans hold.c2, (cc.froz _ _ hbw).trans hold.f0, (cc.froz _ _ hbw).trans hold.f1, (cc.froz _ _ hbw).trans hold.f2⟩
        | 1, _ =>
          rw [addD_other (by omega), addD_same]
          exact ⟨Nat.lt_of_lt_of_le hold.lt cc.size, (cc.cell _ _ hbw (by omega)).trans hold.c0, (cc.cell _ _ hbw (by omega)).trans hold.c1, hset, (cc.froz _ _ hbw).trans hold.f0, (cc.froz _ _ hbw).trans hold.f1, (cc.froz _ _ hbw).trans hold.f2⟩
      · have hbb : b' ≠ b := t.apart j u i v b' o' b o hj hd hsame
        have e0 : addD D (i + 1) (2 * v + c) w.heap.size (j + 1) (2 * u) = D (j + 1) (2 * u) := addD_other (by omega)
        have e1 : addD D (i + 1) (2 * v + c) w.heap.size (j + 1) (2 * u + 1) = D (j + 1) (2 * u + 1) := addD_other (by omega)
        rw [e0, e1]
        exact hold.keep cc (fun h => hbb h.1) (fun h => hbb h.1) (fun h => hbb h.1)
  · intro j u j' u' b1 o1 b2 o2 h1 h2 hne
    by_cases a1 : j = i + 1 ∧ u = 2 * v + c
    · obtain ⟨rfl, rfl⟩ := a1
      rw [addD_same] at h1
      cases h1
      rw [addD_other (by omega)] at h2
      have := (t.node _ _ _ _ h2).lt
      omega
    · rw [addD_other a1] at h1
      by_cases a2 : j' = i + 1 ∧ u' = 2 * v + c
      · obtain ⟨rfl, rfl⟩ := a2
        rw [addD_same] at h2
        cases h2
        have := (t.node _ _ _ _ h1).lt
        omega
      · rw [addD_other a2] at h2
        exact t.apart _ _ _ _ _ _ _ _ h1 h2 hne
  · intro j u h
    by_cases a1 : j = i + 1 ∧ u = 2 * v + c
    · obtain ⟨rfl, rfl⟩ := a1
      rw [addD_same] at h; cases h
    · rw [addD_other a1] at h; exact t.void _ _ h
  · intro j u h
    by_cases a1 : j + 1 = i + 1 ∧ u = 2 * v + c
    · obtain ⟨a1, rfl⟩ := a1
      have : j = i := by omega
      subst this
      rw [show (2 * v + c) / 2 = v by omega, addD_other (by omega), hd] at h
      cases h
    · rw [addD_other a1]
      by_cases a2 : j = i + 1 ∧ u / 2 = 2 * v + c
      · obtain ⟨rfl, a2⟩ := a2
        rw [a2, addD_same] at h; cases h
      · rw [addD_other a2] at h; exact t.clos _ _ h
  · exact cc.trans (Chg.refl _ (fun k y => k = b ∧ y = o + 1 + c)) (fun _ _ _ h => h) |> fun h => ⟨h.os, h.tape, h.output, h.size, fun k hk hf => h.block k hk (fun x hx => hf x ⟨i, v, o, by rw [hx.1]; exact hd, by omega, by omega⟩), fun k x hk hf => h.cell k x hk (fun hx => hf ⟨i, v, o, by rw [hx.1]; exact hd, by omega, by omega⟩), h.froz⟩
/-- A node's set turns. -/
theorem Tr.mark {w : World} {rb ro : Nat} {D : Nat → Nat → Option (Nat × Nat)} {H : Nat → Nat → Nat} (t : Tr w rb ro D H) {i v b o : Nat} (hd : D i v = some (b, o)) (m : Nat) :
    Tr (w.setCell ⟨b, o, none⟩ (.int .u64 m)) rb ro D (fun j u => if j = i ∧ u = v then m else H j u) ∧ Chg w (w.setCell ⟨b, o, none⟩ (.int .u64 m)) (Foot D) := by
  have cs := chg_set w b o (.int .u64 m)
  have hnode := t.node i v b o hd
  refine ⟨⟨t.root, ?_, t.apart, ?_, t.clos⟩, ?_⟩
  · intro j u b' o' hj
    have hold := t.node j u b' o' hj
    by_cases hsame : j = i ∧ u = v
    · obtain ⟨rfl, rfl⟩ := hsame
      rw [hd] at hj
      cases hj
      rw [if_pos ⟨rfl, rfl⟩]
      exact ⟨Nat.lt_of_lt_of_le hold.lt cs.size, World.cell?_setCell_same _ _ _ hold.c0, (cs.cell _ _ hold.lt (by omega)).trans hold.c1, (cs.cell _ _ hold.lt (by omega)).trans hold.c2, (cs.froz _ _ hold.lt).trans hold.f0, (cs.froz _ _ hold.lt).trans hold.f1, (cs.froz _ _ hold.lt).trans hold.f2⟩
    · have hbb : b' ≠ b := t.apart j u i v b' o' b o hj hd hsame
      rw [if_neg hsame]
      exact hold.keep cs (fun h => hbb h.1) (fun h => hbb h.1) (fun h => hbb h.1)
  · intro j u h
    show (if j = i ∧ u = v then m else H j u) = 0
    rw [if_neg]
    · exact t.void _ _ h
    · rintro ⟨rfl, rfl⟩
      rw [hd] at h; cases h
  · exact ⟨cs.os, cs.tape, cs.output, cs.size, fun k hk hf => cs.block k hk (fun x hx => hf x ⟨i, v, o, by rw [hx.1]; exact hd, by omega, by omega⟩), fun k x hk hf => cs.cell k x hk (fun hx => hf ⟨i, v, o, by rw [hx.1]; exact hd, by omega, by omega⟩), cs.froz⟩
end Wk
