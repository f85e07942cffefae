
/- Small laws: what changes; own slices; an act in a block of its own. -/
import Derived.Test.YtoecmoicaklbaaaDoorActs
import Derived.Outline
import Derived.Deep.QuietTactic
import Derived.BigQuiet
import Derived.StillTailTactics
set_option linter.unusedVariables false
set_option linter.unusedSimpArgs false
namespace Wk
open Go Go.RowKit Go.Sort Wc
theorem Chg.then_below {w w1 w2 : World} {B : Nat} {F : Nat → Nat → Prop} (h : Chg w w1 F) (k : Below B w1 w2) (hB : w.heap.size ≤ B) : Chg w w2 F :=
  ⟨k.os.trans h.os, k.tape.trans h.tape, k.output.trans h.output, Nat.le_trans h.size k.size,
    fun b hb hf => (k.block b (Nat.lt_of_lt_of_le hb hB)).trans (h.block b hb hf),
    fun b x hb hf => (k.cell (p := ⟨b, x, none⟩) (Nat.lt_of_lt_of_le hb hB)).trans (h.cell b x hb hf),
    fun b x hb => (k.frozen (p := ⟨b, x, none⟩) (Nat.lt_of_lt_of_le hb hB)).trans (h.froz b x hb)⟩
theorem Own.chg {w w' : World} {B g : Nat} {e : TypeId} {sz : Nat} {v : Value} {xs : List (List Value)} {F : Nat → Nat → Prop} (h : Own w B e sz v xs) (c : Chg w w' F) (hF : ∀ b x, F b x → b = g) (hg : v.ownBlock ≠ some g) : Own w' B e sz v xs :=
  ⟨h.1, h.2.kept (row := some g) ⟨c.os, c.tape, c.output, c.size, fun k hk hne => c.block k hk (fun x hx => hne (by rw [hF k x hx]))⟩ (.inr hg)⟩
theorem Chg.mono {w w' : World} {F G : Nat → Nat → Prop} (h : Chg w w' F) (hs : ∀ b x, F b x → G b x) : Chg w w' G :=
  ⟨h.os, h.tape, h.output, h.size, fun k hk hf => h.block k hk (fun x hx => hf x (hs _ _ hx)), fun k x hk hf => h.cell k x hk (fun hx => hf (hs _ _ hx)), h.froz⟩
theorem Own.base {w : World} {B C : Nat} {e : TypeId} {sz : Nat} {v : Value} {xs : List (List Value)} (h : Own w C e sz v xs) (hB : B ≤ C) : Own w B e sz v xs := by
  obtain ⟨h1, h2, h3⟩ := h
  refine ⟨h1, h2, ?_⟩
  rcases h3 with h3 | ⟨g, cap, cur, e1, hb, rest⟩
  · exact .inl h3
  · exact .inr ⟨g, cap, cur, e1, Nat.le_trans hB hb, rest⟩
theorem Own.apart {w : World} {B C : Nat} {e e' : TypeId} {sz sz' : Nat} {v v' : Value} {xs xs' : List (List Value)} (h : Own w B e sz v xs) (h' : Own w C e' sz' v' xs') (hne : e ≠ e') (hv : v.ownBlock ≠ none) : v.ownBlock ≠ v'.ownBlock := by
  intro heq
  rcases h.2.2 with ⟨rfl, _⟩ | ⟨g, cap, cur, rfl, _, hg, _⟩
  · exact hv rfl
  · rcases h'.2.2 with ⟨rfl, _⟩ | ⟨g', cap', cur', rfl, _, hg', _⟩
    · simp [Value.ownBlock] at heq
    · simp [Value.ownBlock] at heq
      subst heq
      rw [hg] at hg'
      simp at hg'
      exact hne hg'.2
theorem Own.kept {w w' : World} {B : Nat} {e : TypeId} {sz : Nat} {v v' : Value} {xs : List (List Value)} (h : Own w B e sz v xs) (g : w.grownBy w' v'.ownBlock) (hne : v.ownBlock ≠ none → v.ownBlock ≠ v'.ownBlock) : Own w' B e sz v xs := by
  refine ⟨h.1, h.2.kept g ?_⟩
  by_cases hv : v.ownBlock = none
  · exact .inl hv
  · exact .inr (hne hv)
theorem sl_many {W : World} {sz b n : Nat} {xs : List (List Value)} {cs : Array Value} {E : TypeId} (hb : b = W.heap.size) (hc : ∀ c ∈ xs, c.length = sz) (hcs : cs = xs.flatten.toArray) (hn : n = xs.length) (hm : n ≤ 1000) : Sl (W.alloc (.cells cs E)) sz (.slice (some ⟨b, 0, none⟩) n n) xs := by
  subst hb hcs hn
  refine ⟨hc, some ⟨W.heap.size, 0, none⟩, xs.length, rfl, Nat.le_refl _, by unfold maxLen; omega, fun _ => ⟨W.heap.size, 0, rfl, by simp, fun i c' hi j u hu => ?_⟩⟩
  have := flatten_at hc i c' hi j u hu
  simp only [Nat.zero_add, World.cell?_alloc_new]
  simpa using this
end Wk
namespace Go.Proofs.YtoecmoicaklbaaaDoor
open Go Go.RowKit Go.Sort Wc Wk
theorem actCells_len (x : ActD) : (actCells x).length = 9 := rfl
def setRow (w : World) (b : Nat) : Nat → List Value → World
  | _, [] => w
  | o, c :: cs => setRow (w.setCell ⟨b, o, none⟩ c) b (o + 1) cs
theorem setRow_chg (b : Nat) : ∀ (cs : List Value) (o : Nat) (w : World), b < w.heap.size → (∀ j, j < cs.length → ∃ u, w.cell? ⟨b, o + j, none⟩ = some u) →
    Chg w (setRow w b o cs) (fun k x => k = b ∧ o ≤ x ∧ x < o + cs.length) ∧ ∀ j u, cs[j]? = some u → (setRow w b o cs).cell? ⟨b, o + j, none⟩ = some u
  | [], o, w, _, _ => ⟨Chg.refl _ _, fun j u h => by simp at h⟩
  | c :: cs, o, w, hb, hex => by
    have s1 := chg_set w b o c
    obtain ⟨u0, hu0⟩ := hex 0 (by simp)
    have k0 : (w.setCell ⟨b, o, none⟩ c).cell? ⟨b, o, none⟩ = some c := World.cell?_setCell_same w ⟨b, o, none⟩ c hu0
    have hb1 : b < (w.setCell ⟨b, o, none⟩ c).heap.size := by simpa using hb
    obtain ⟨h1, h2⟩ := setRow_chg b cs (o + 1) (w.setCell ⟨b, o, none⟩ c) hb1 (fun j hj => by
      obtain ⟨u, hu⟩ := hex (j + 1) (by simpa using hj)
      exact ⟨u, (s1.cell b (o + 1 + j) hb (by omega)).trans (by rw [show o + 1 + j = o + (j + 1) by omega]; exact hu)⟩)
    have s2 : Chg w (w.setCell ⟨b, o, none⟩ c) (fun k x => k = b ∧ o ≤ x ∧ x < o + (c :: cs).length) := s1.mono (by
      rintro k x ⟨h3, h4⟩; refine ⟨h3, by omega, ?_⟩; rw [List.length_cons]; omega)
    refine ⟨s2.trans h1 ?_, fun j u hu => ?_⟩
    · rintro k x _ ⟨h3, h4, h5⟩; refine ⟨h3, by omega, ?_⟩; rw [List.length_cons]; omega
    · match j, hu with
      | 0, hu =>
        simp at hu; subst hu
        exact (h1.cell b o hb1 (by omega)).trans k0
      | j + 1, hu =>
        rw [show o + (j + 1) = o + 1 + j by omega]
        exact h2 j u (by simpa using hu)
structure AcC (w : World) (b : Nat) (q : ActD) : Prop where
  lt : b < w.heap.size
  at_ : ∀ j u, (actCells q)[j]? = some u → w.cell? ⟨b, j, none⟩ = some u
  fz : ∀ o, o < 9 → w.frozen? ⟨b, o, none⟩ = false
theorem AcC.below {w w' : World} {b : Nat} {q : ActD} (h : AcC w b q) (hb : Below w.heap.size w w') : AcC w' b q :=
  ⟨Nat.lt_of_lt_of_le h.lt hb.size, fun j u hu => (hb.cell (p := ⟨b, j, none⟩) h.lt).trans (h.at_ j u hu), fun o ho => (hb.frozen (p := ⟨b, o, none⟩) h.lt).trans (h.fz o ho)⟩
theorem AcC.new (w : World) (q : ActD) (E : TypeId) : AcC (w.alloc (.cells (actCells q).toArray E)) w.heap.size q :=
  ⟨by simp, fun j u hu => by rw [World.cell?_alloc_new]; simpa using hu, fun o ho => by simp⟩
theorem AcC.set {w : World} {A : Nat} (y : ActD) (lt : A < w.heap.size) (ex : ∀ o, o < 9 → ∃ u, w.cell? ⟨A, o, none⟩ = some u) (fz : ∀ o, o < 9 → w.frozen? ⟨A, o, none⟩ = false) :
    AcC (setRow w A 0 (actCells y)) A y ∧ Chg w (setRow w A 0 (actCells y)) (fun k _ => k = A) := by
  obtain ⟨c, v⟩ := setRow_chg A (actCells y) 0 w lt (fun j hj => by rw [actCells_len] at hj; rw [Nat.zero_add]; exact ex j hj)
  refine ⟨⟨Nat.lt_of_lt_of_le lt c.size, fun j u hu => ?_, fun o ho => (c.froz A o lt).trans (fz o ho)⟩, c.mono (fun k x h => h.1)⟩
  have := v j u hu
  rwa [Nat.zero_add] at this
/-- Nine cells that are there. -/
structure Row9 (w : World) (A : Nat) : Prop where
  lt : A < w.heap.size
  ex : ∀ o, o < 9 → ∃ u, w.cell? ⟨A, o, none⟩ = some u
  fz : ∀ o, o < 9 → w.frozen? ⟨A, o, none⟩ = false
theorem Row9.new (w : World) (cs : Array Value) (E : TypeId) (hs : cs.size = 9) : Row9 (w.alloc (.cells cs E)) w.heap.size :=
  ⟨by simp, fun o ho => ⟨cs[o]'(by omega), by rw [World.cell?_alloc_new]; exact Array.getElem?_eq_getElem _⟩, fun o ho => by simp⟩
theorem Row9.below {w w' : World} {A : Nat} (h : Row9 w A) {B : Nat} (hb : Below B w w') (hB : A < B) : Row9 w' A :=
  ⟨Nat.lt_of_lt_of_le h.lt hb.size, fun o ho => by obtain ⟨u, hu⟩ := h.ex o ho; exact ⟨u, (hb.cell (p := ⟨A, o, none⟩) hB).trans hu⟩, fun o ho => (hb.frozen (p := ⟨A, o, none⟩) hB).trans (h.fz o ho)⟩
theorem AcC.put {w : World} {A : Nat} (y : ActD) (h : Row9 w A) : AcC (setRow w A 0 (actCells y)) A y ∧ Chg w (setRow w A 0 (actCells y)) (fun k _ => k = A) := AcC.set y h.lt h.ex h.fz
theorem AcC.row {w : World} {A : Nat} {y : ActD} (h : AcC w A y) : Row9 w A :=
  ⟨h.lt, fun o ho => ⟨_, h.at_ o _ (List.getElem?_eq_getElem (by rw [actCells_len]; exact ho))⟩, h.fz⟩
/-- What the making of an act leaves: the act in a block of its own. -/
def MadeAct (X : World) (q : ActD) (v : Value) (wx : World) : Prop := ∃ A, v = .pointer (some ⟨A, 0, none⟩) ∧ AcC wx A q ∧ Below X.heap.size X wx ∧ X.heap.size ≤ A
theorem MadeAct.new {X w : World} (q : ActD) (E : TypeId) (hb : Below X.heap.size X w) : MadeAct X q (.pointer (some ⟨w.heap.size, 0, none⟩)) (w.alloc (.cells (actCells q).toArray E)) :=
  ⟨_, rfl, AcC.new _ _ _, hb.alloc (by have := hb.size; omega) _, hb.size⟩
theorem MadeAct.put {X w : World} {A : Nat} (q : ActD) (h : Row9 w A) (hb : Below X.heap.size X w) (hA : X.heap.size ≤ A) : MadeAct X q (.pointer (some ⟨A, 0, none⟩)) (setRow w A 0 (actCells q)) := by
  obtain ⟨h1, h2⟩ := AcC.put q h
  exact ⟨_, rfl, h1, hb.trans (h2.below hb.size (fun b x hb' e => by omega)), hA⟩
theorem MadeAct.new9 {X w : World} {A : Nat} (N K h : Nat) (E : TypeId) (hA : A = w.heap.size) (hb : Below X.heap.size X w) :
    MadeAct X ⟨1, N, K, 1 + h, 0⟩ (.pointer (some ⟨A, 0, none⟩)) (w.alloc (.cells #[.int .i64 1, .bool false, .int .u64 (hiOf false N), .int .u64 (loOf N), .int .i64 (K : Nat), .int .i64 (1 + (h : Int)), .bool false, .int .u64 0, .int .u64 0] E)) := by
  subst hA
  exact MadeAct.new ⟨1, N, K, 1 + h, 0⟩ E hb
theorem MadeAct.put9 {X w : World} {A : Nat} (N K h : Nat) (hr : Row9 w A) (hb : Below X.heap.size X w) (hA : X.heap.size ≤ A) :
    MadeAct X ⟨1, N, K, 1 + h, 0⟩ (.pointer (some ⟨A, 0, none⟩)) (((((((((w.setCell ⟨A, 0, none⟩ (.int .i64 1)).setCell ⟨A, 1, none⟩ (.bool false)).setCell ⟨A, 2, none⟩ (.int .u64 (hiOf false N))).setCell ⟨A, 3, none⟩ (.int .u64 (loOf N))).setCell ⟨A, 4, none⟩ (.int .i64 (K : Nat))).setCell ⟨A, 5, none⟩ (.int .i64 (1 + (h : Int)))).setCell ⟨A, 6, none⟩ (.bool false)).setCell ⟨A, 7, none⟩ (.int .u64 0)).setCell ⟨A, 8, none⟩ (.int .u64 0)) :=
  MadeAct.put ⟨1, N, K, 1 + h, 0⟩ hr hb hA
theorem Row9.mk1 {w w1 : World} {o : Obj} {cs : Array Value} {E : TypeId} {A : Nat} (hA : A = w.heap.size) (hs : cs.size = 9) (hb : Below ((w.alloc (.cells cs E)).alloc o).heap.size ((w.alloc (.cells cs E)).alloc o) w1) : Row9 w1 A := by
  subst hA
  exact ((Row9.new w cs E hs).below ((Below.refl _ _).alloc (Nat.le_refl _) o) (by simp)).below hb (by simp; omega)
theorem Row9.mk2 {w w1 : World} {o : Obj} {cs : Array Value} {E : TypeId} {A : Nat} (hA : A = w.heap.size + 1) (hs : cs.size = 9) (hb : Below ((w.alloc o).alloc (.cells cs E)).heap.size ((w.alloc o).alloc (.cells cs E)) w1) : Row9 w1 A := by
  have e : A = (w.alloc o).heap.size := by rw [hA]; simp
  subst e
  exact (Row9.new (w.alloc o) cs E hs).below hb (by simp)
end Go.Proofs.YtoecmoicaklbaaaDoor
