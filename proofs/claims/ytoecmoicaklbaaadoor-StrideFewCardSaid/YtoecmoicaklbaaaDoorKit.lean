
/- Small laws of my own for walks: how worlds that only grew compose; a drawn region whose callees make memory. -/
import Derived.WalkKit
import Derived.WalkSpells
import Derived.WalkLawsBesides
import Derived.BigQuiet
import Derived.Handy
import Derived.OpenShut
import Derived.Lib.QuietBelow
import Derived.Lib.Hide
import Derived.Deep.RegionHeld3
import Derived.Laws.AppendOwn
import Derived.Deep.RegionLaw
import Derived.Deep.Upon
set_option linter.unusedVariables false
namespace Wk
open Go Go.RowKit Go.Sort

theorem ret_int {k : IntKind} {a b : Int} (h : a = b) : Ending.returned (.int k a) = Ending.returned (.int k b) := by rw [h]
theorem ret_bool {a b : Bool} (h : a = b) : Ending.returned (.bool a) = Ending.returned (.bool b) := by rw [h]

theorem bcell {W w1 : World} (hb : Below W.heap.size W w1) : (∀ b o, b < W.heap.size → w1.cell? ⟨b, o, none⟩ = W.cell? ⟨b, o, none⟩) ∧ (∀ b o, b < W.heap.size → w1.frozen? ⟨b, o, none⟩ = W.frozen? ⟨b, o, none⟩) :=
  ⟨fun b o h => hb.cell (p := ⟨b, o, none⟩) h, fun b o h => hb.frozen (p := ⟨b, o, none⟩) h⟩

theorem Below.step {w W W' : World} (h : Below w.heap.size w W) (k : Below W.heap.size W W') : Below w.heap.size w W' := h.trans (k.mono h.size)
theorem Below.al {w W : World} (h : Below w.heap.size w W) (o : Obj) : Below w.heap.size w (W.alloc o) := h.alloc h.size o
theorem Below.dr {w W : World} (h : Below w.heap.size w W) : Below w.heap.size w W.drew := h.drew
theorem Below.set {w W : World} {p : Addr} (h : Below w.heap.size w W) (hp : w.heap.size ≤ p.block) (u : Value) : Below w.heap.size w (W.setCell p u) := h.setCell hp u

theorem Below.undrew {w w' : World} (h : Below w.drew.heap.size w.drew w') : Below w.heap.size w w' := ⟨h.os, h.tape, h.output, h.size, h.block⟩

theorem Calls.regrown_same {P : Program} {f : FuncId} {args : Array Value} {w : World} {d : Nat} {os : Array Obj} {v : Value}
    (h : Calls P f args (grow (redrawn w d) os) fun e w' => e = .returned v ∧ grow (redrawn w d) os = w') : Calls P f args (grow (redrawn w d) os) fun e w'' => e = .returned v ∧ ∃ p : Regrown, w'' = grow (redrawn w p.d) p.os :=
  h.mono fun _ _ ⟨he, hb⟩ => ⟨he, ⟨d, os⟩, hb.symm⟩

theorem wpQuiet_mono {P : Program} {ops : Array Oper} {C : World → Prop} {Q Q' : Act → Prop} (h : ∀ a, Q a → Q' a) : ∀ (l : List Oper) (a : Act), wpQuiet P ops C Q l a → wpQuiet P ops C Q' l a
  | [], a, hh => h a hh
  | o :: rest, a, hh => by
    unfold wpQuiet at hh ⊢
    split
    · rename_i hw; simp only [hw, if_true] at hh; exact Oper.quiet_mono (wpQuiet_mono h rest) hh
    · rename_i hw; simp only [hw] at hh; exact wpQuiet_mono h rest _ hh

/-- A region that draws its order, reads old memory, and whose callees only make memory: one walk in the order of the text. -/
theorem wp_region_qb {P : Program} {id : Nat} {Q : Exit → Act → World → Prop} {a : Act} {w : World} {l : List Oper} (hm : P.follows .mixedOrders = true) (hB : Region.lexB .any l.toArray = true)
    (h : (∀ d os b o, b < w.heap.size → (grow (redrawn w d) os).cell? ⟨b, o, none⟩ = w.cell? ⟨b, o, none⟩) →
      wpQuiet P l.toArray (fun w' => ∃ p : Regrown, w' = grow (redrawn w p.d) p.os) (fun a' => ∀ w', Below w.heap.size w w' → Q .normal a' w') l a) : (Code.region id l.toArray true).wp P Q a w := by
  refine wp_region_quiet_below hm hB (wpQuiet_mono (fun a' h' w' hw' => ?_) _ _ (h ?_))
  · obtain ⟨p, rfl⟩ := hw'
    exact h' _ (below_regrown w p.d p.os)
  · intro d os b o hs
    exact (below_regrown w d os).cell (p := ⟨b, o, none⟩) hs
theorem wf_u64 {n : Int} (h : (Lit.int .u64 n).wf = true) : 0 ≤ n ∧ n < 18446744073709551616 := by
  have := bounds_u64 h; omega
theorem wf_i64 {n : Int} (h : (Lit.int .i64 n).wf = true) : -9223372036854775808 ≤ n ∧ n ≤ 9223372036854775807 := by
  have := bounds_i64 h; omega
/-- What a slice of integers that came in is: nil, or a row of cells. -/
def IsRow (k : IntKind) (w : World) (a : Option Addr) (len cap : Nat) (zs : List Int) : Prop :=
  (a = none ∧ len = 0 ∧ cap = 0 ∧ zs = []) ∨
  ∃ x, a = some x ∧ len ≤ cap ∧ cap ≤ maxLen ∧ zs.length = cap ∧ (∀ i, i < zs.length → w.cell? (x.add i) = some (.int k (zs.getD i 0))) ∧ ∀ n ∈ zs, (Lit.int k n).wf = true
/-- A halt of the walk: the goal behind a name. -/
theorem stop_at {p : Prop} (h : ∀ G : Prop, Hid (p = G) → G) : p := h p (Lib.hid rfl)
end Wk

/- Slices whose elements are rows of cells: what is read, what is owned, append. -/
set_option linter.unusedVariables false
namespace Wk
open Go Go.RowKit Go.Sort

/-- A slice that reads as a list of rows of 'sz' cells. -/
def Sl (w : World) (sz : Nat) (v : Value) (xs : List (List Value)) : Prop :=
  (∀ c ∈ xs, c.length = sz) ∧ ∃ a cap, v = .slice a xs.length cap ∧ xs.length ≤ cap ∧ cap ≤ maxLen ∧
    (xs ≠ [] → ∃ b off, a = some ⟨b, off, none⟩ ∧ b < w.heap.size ∧ ∀ i c, xs[i]? = some c → ∀ j u, c[j]? = some u → w.cell? ⟨b, off + i * sz + j, none⟩ = some u)
/-- A slice of the call's own (its block is B or behind it), with room to grow. -/
def Own (w : World) (B : Nat) (e : TypeId) (sz : Nat) (v : Value) (xs : List (List Value)) : Prop :=
  (∀ c ∈ xs, c.length = sz) ∧ w.ownsRow B e sz v xs.length xs.flatten
/-- What is asked of an element's type. -/
def EI (P : Program) (t e : TypeId) (size bytes : Nat) (z : Value) : Prop :=
  P.underlying t = some (.slice e) ∧ (P.info? e).map (fun i => (i.zero, i.size, i.bytes)) = some (some z, size, bytes) ∧ z.cells.size = size ∧ 0 < size

theorem addr_add_none (b off j : Nat) : (⟨b, off, none⟩ : Addr).add j = ⟨b, off + j, none⟩ := by unfold Addr.add; split <;> simp_all
theorem flatten_at {sz : Nat} : ∀ {xs : List (List Value)} (h : ∀ c ∈ xs, c.length = sz) (i : Nat) (c : List Value) (hc : xs[i]? = some c) (j : Nat) (u : Value) (hu : c[j]? = some u), xs.flatten[i * sz + j]? = some u
  | [], _, i, c, hc, _, _, _ => by simp at hc
  | x :: xs, h, 0, c, hc, j, u, hu => by
    simp at hc; subst hc
    have hj := (List.getElem?_eq_some_iff.1 hu).1
    rw [List.flatten_cons, Nat.zero_mul, Nat.zero_add, List.getElem?_append_left hj]; exact hu
  | x :: xs, h, i + 1, c, hc, j, u, hu => by
    have hx := h x (by simp)
    rw [List.flatten_cons, List.getElem?_append_right (by rw [hx, Nat.succ_mul]; omega), hx, show (i + 1) * sz + j - sz = i * sz + j from by rw [Nat.succ_mul]; omega]
    exact flatten_at (fun c hc => h c (by simp [hc])) i c (by simpa using hc) j u hu
theorem flatten_len {sz : Nat} : ∀ {xs : List (List Value)} (h : ∀ c ∈ xs, c.length = sz), xs.flatten.length = xs.length * sz
  | [], _ => by simp
  | x :: xs, h => by
    rw [List.flatten_cons, List.length_append, h x (by simp), flatten_len (fun c hc => h c (by simp [hc])), List.length_cons, Nat.succ_mul]; omega

theorem Own.nil (w : World) (B : Nat) (e : TypeId) (sz : Nat) : Own w B e sz (.slice none 0 0) [] := ⟨by simp, by simpa using World.ownsRow_nil w B e sz⟩
theorem Own.sl {w : World} {B : Nat} {e : TypeId} {sz : Nat} {v : Value} {xs : List (List Value)} (h : Own w B e sz v xs) : Sl w sz v xs := by
  obtain ⟨hl, hx, h2⟩ := h
  refine ⟨hl, ?_⟩
  rcases h2 with ⟨rfl, h0⟩ | ⟨g, cap, cur, rfl, hb, hg, hn, hm, hs, ht⟩
  · have : xs = [] := List.eq_nil_of_length_eq_zero h0
    subst this
    exact ⟨none, 0, rfl, Nat.le_refl _, by unfold maxLen; omega, fun h => absurd rfl h⟩
  · refine ⟨some ⟨g, 0, none⟩, cap, rfl, hn, hm, fun _ => ⟨g, 0, rfl, (Array.getElem?_eq_some_iff.1 hg).1, fun i c hc j u hu => ?_⟩⟩
    have hf := flatten_at hl i c hc j u hu
    have ho : w.ownsRow B e sz (.slice (some ⟨g, 0, none⟩) xs.length cap) xs.length xs.flatten := ⟨hx, .inr ⟨g, cap, cur, rfl, hb, hg, hn, hm, hs, ht⟩⟩
    have := ho.cells (g := g) rfl _ _ hf
    rw [addr_add_none] at this
    rw [Nat.zero_add] at this ⊢
    exact this
theorem Own.lt {w : World} {B : Nat} {e : TypeId} {sz : Nat} {v : Value} {xs : List (List Value)} (h : Own w B e sz v xs) : ∀ k, v.ownBlock = some k → B ≤ k ∧ k < w.heap.size := h.2.lt
theorem Own.alloc {w : World} {B : Nat} {e : TypeId} {sz : Nat} {v : Value} {xs : List (List Value)} (h : Own w B e sz v xs) (o : Obj) : Own (w.alloc o) B e sz v xs := ⟨h.1, h.2.alloc o⟩
theorem Own.below {w w' : World} {B : Nat} {e : TypeId} {sz : Nat} {v : Value} {xs : List (List Value)} (h : Own w B e sz v xs) (hb : Below w.heap.size w w') : Own w' B e sz v xs :=
  ⟨h.1, h.2.kept (row := none) ⟨hb.os, hb.tape, hb.output, hb.size, fun k hk _ => hb.block k hk⟩ (by cases hv : v.ownBlock <;> simp)⟩
theorem Own.dr {w : World} {B : Nat} {e : TypeId} {sz : Nat} {v : Value} {xs : List (List Value)} (h : Own w B e sz v xs) : Own w.drew B e sz v xs := h.below (Below.drew (Below.refl _ _))
theorem Sl.below {w w' : World} {sz : Nat} {v : Value} {xs : List (List Value)} (h : Sl w sz v xs) (hb : Below w.heap.size w w') : Sl w' sz v xs := by
  obtain ⟨hl, a, cap, rfl, h1, h2, h3⟩ := h
  refine ⟨hl, a, cap, rfl, h1, h2, fun hne => ?_⟩
  obtain ⟨b, off, rfl, hlt, hc⟩ := h3 hne
  exact ⟨b, off, rfl, Nat.lt_of_lt_of_le hlt hb.size, fun i c hi j u hu => (hb.cell (p := ⟨b, _, none⟩) hlt).trans (hc i c hi j u hu)⟩
/-- A slice that is there and was read stays so below a bound. -/
theorem Sl.below' {w w' : World} {B sz : Nat} {a : Option Addr} {n cap : Nat} {xs : List (List Value)} (h : Sl w sz (.slice a n cap) xs) (hb : Below B w w') (ha : ∀ x, a = some x → x.block < B) : Sl w' sz (.slice a n cap) xs := by
  obtain ⟨hl, a', cap', he, h1, h2, h3⟩ := h
  cases he
  refine ⟨hl, a, cap, rfl, h1, h2, fun hne => ?_⟩
  obtain ⟨b, off, rfl, hlt, hc⟩ := h3 hne
  exact ⟨b, off, rfl, Nat.lt_of_lt_of_le hlt hb.size, fun i c hi j u hu => (hb.cell (p := ⟨b, off + i * sz + j, none⟩) (show b < B from ha ⟨b, off, none⟩ rfl)).trans (hc i c hi j u hu)⟩

theorem Below.of_grown {B : Nat} {w w' : World} {v : Value} (hg : w.grownBy w' v.ownBlock) (hB : B ≤ w.heap.size) (hv : ∀ k, v.ownBlock = some k → B ≤ k) : Below B w w' :=
  (Below.refl B w).grown hg hB hv

theorem sl_new {W : World} {sz b : Nat} {c : List Value} {E : TypeId} (hb : b = W.heap.size) (hc : c.length = sz) : Sl (W.alloc (.cells c.toArray E)) sz (.slice (some ⟨b, 0, none⟩) 1 1) [c] := by
  subst hb
  refine ⟨by simpa using hc, some ⟨W.heap.size, 0, none⟩, 1, rfl, by simp, by unfold maxLen; omega, fun _ => ⟨W.heap.size, 0, rfl, by simp, fun i c' hi j u hu => ?_⟩⟩
  match i, hi with
  | 0, hi =>
    simp at hi; subst hi
    simp only [Nat.zero_mul, Nat.zero_add, World.cell?_alloc_new]
    simpa using hu
theorem IsRow.len_le {w : World} {a : Option Addr} {len cap : Nat} {zs : List Int} (h : IsRow .i64 w a len cap zs) : len ≤ 9223372036854775807 ∧ len ≤ zs.length := by
  rcases h with ⟨_, rfl, _, rfl⟩ | ⟨x, _, h1, h2, h3, _⟩
  · exact ⟨by omega, Nat.le_refl _⟩
  · unfold maxLen at h2; omega
theorem IsRow.opened {w : World} {a : Option Addr} {len cap : Nat} {zs : List Int} (h : IsRow .i64 w a len cap zs) (hp : 0 < len) : ∃ b off, a = some ⟨b, off, none⟩ ∧ b < w.heap.size ∧
    ∀ i, i < len → w.cell? ⟨b, off + i, none⟩ = some (.int .i64 (zs.getD i 0)) ∧ -9223372036854775808 ≤ zs.getD i 0 ∧ zs.getD i 0 ≤ 9223372036854775807 := by
  rcases h with ⟨_, rfl, _⟩ | ⟨x, rfl, h1, h2, h3, hc, hw⟩
  · omega
  · obtain ⟨b, off, spot⟩ := x
    have h0 := hc 0 (by omega)
    have hs : spot = none := by
      have := World.cell?_spot h0
      unfold Addr.add at this
      simpa using this
    subst hs
    refine ⟨b, off, rfl, ?_, fun i hi => ⟨?_, ?_⟩⟩
    · have := World.block_lt_of_cell? _ _ h0
      rw [addr_add_none] at this; exact this
    · have := hc i (by omega)
      rw [addr_add_none] at this; exact this
    · have hm : zs.getD i 0 ∈ zs := by
        rw [List.getD_eq_getElem?_getD, List.getElem?_eq_getElem (by omega)]
        exact List.getElem_mem _
      exact wf_i64 (hw _ hm)
theorem take_snoc_getD {α β : Type} (f : α → β) (zs : List α) (d : α) (k : Nat) (h : k < zs.length) : (zs.take (k + 1)).map f = (zs.take k).map f ++ [f (zs.getD k d)] := by
  rw [List.take_succ_eq_append_getElem h, List.map_append, List.getD_eq_getElem?_getD, List.getElem?_eq_getElem h]; rfl
theorem take_map_len {α β : Type} (f : α → β) (zs : List α) (k : Nat) (h : k ≤ zs.length) : ((zs.take k).map f).length = k := by simp; omega

section
variable {P : Program} {ops : Array Oper} {rest : List Oper} {o : Oper} {a : Act} {Q : Exit → Act → World → Prop} {w : World}
/-- append of rows that lie somewhere, to a slice of the call's own. -/
theorem wpList_append_rows (hgd : o.guard = none) (s x : Operand) (t e : TypeId) (size bytes : Nat) (z : Value)
    (ho : o.op = .call { callee := .builtin .append, args := #[s, x], argTypes := #[t, t] }) (hE : EI P t e size bytes z)
    (B : Nat) (v : Value) (xs : List (List Value)) (hs : a.eval s = v) (hown : Own w B e size v xs)
    (vx : Value) (ys : List (List Value)) (hx : a.eval x = vx) (hys : Sl w size vx ys)
    (h1 : ∀ c ∈ ys, ∀ u ∈ c, u.oneCell' = true) (hbytes : (xs.length + ys.length) * bytes ≤ 140737488355328) (hb1 : 1 ≤ bytes) (hbase : B ≤ w.heap.size)
    (hne : ys ≠ [])
    (h : ∀ v' w', Own w' B e size v' (xs ++ ys) → w.grownBy w' v.ownBlock → Below B w w' → wpList P ops Q rest (a.put o.dst v') w') : wpList P ops Q (o :: rest) a w := by
  obtain ⟨ht, hi, hzs, hsz⟩ := hE
  obtain ⟨i, hi0, hi1⟩ := Option.map_eq_some_iff.1 hi
  simp only [Prod.mk.injEq] at hi1
  obtain ⟨hz, hsize, hby⟩ := hi1
  obtain ⟨hl, a', cap, hv, hc1, hc2, hcells⟩ := hys
  obtain ⟨b, off, rfl, hlt, hcell⟩ := hcells hne
  have hlen : xs.length + ys.length ≤ maxLen := by
    have : (xs.length + ys.length) * 1 ≤ (xs.length + ys.length) * bytes := Nat.mul_le_mul_left _ hb1
    unfold maxLen; omega
  refine wpList_append_own w hgd s x t ho B e i z size bytes ht hi0 hz hsize hby hzs hsz v xs.length xs.flatten hs hown.2 ⟨b, off, none⟩ ys.length cap ys.flatten (hx.trans hv) (flatten_len hl) ?_ ?_ hlen hbytes hbase ?_
  · intro j u hu
    have hj := (List.getElem?_eq_some_iff.1 hu).1
    rw [flatten_len hl] at hj
    have hdm := Nat.div_add_mod j size
    have hq : j / size < ys.length := (Nat.div_lt_iff_lt_mul hsz).2 hj
    have hc := List.getElem?_eq_getElem hq
    have hcl : (ys[j / size]).length = size := hl _ (List.getElem_mem hq)
    have hm : j % size < (ys[j / size]).length := by rw [hcl]; exact Nat.mod_lt _ hsz
    have hu2 := flatten_at hl _ _ hc (j % size) _ (List.getElem?_eq_getElem hm)
    have e1 : j / size * size + j % size = j := by rw [Nat.mul_comm]; exact hdm
    rw [e1, hu] at hu2
    have := hcell _ _ hc (j % size) u (by rw [List.getElem?_eq_getElem hm]; exact hu2.symm)
    rw [Nat.add_assoc, e1] at this
    rw [addr_add_none]
    exact this
  · intro u hu
    obtain ⟨c, hc, hu⟩ := List.mem_flatten.1 hu
    exact h1 c hc u hu
  · intro v' w' hown' hgr _
    refine h v' w' ⟨fun c hc => ?_, ?_⟩ hgr (Below.of_grown hgr hbase (fun k hk => (hown.lt k hk).1))
    · rcases List.mem_append.1 hc with hc | hc
      · exact hown.1 c hc
      · exact hl c hc
    · simpa using hown'
end
end Wk

/- append of rows as a step of a region that draws; a copy of a slice. -/
set_option linter.unusedVariables false
namespace Wk
open Go Go.RowKit Go.Sort
section
variable {P : Program}
theorem run_append_rows (w : World) (t ty e : TypeId) (size bytes : Nat) (z : Value) (hE : EI P t e size bytes z) (B : Nat) (v : Value) (xs : List (List Value)) (hown : Own w B e size v xs)
    (vx : Value) (ys : List (List Value)) (hys : Sl w size vx ys) (h1 : ∀ c ∈ ys, ∀ u ∈ c, u.oneCell' = true) (hbytes : (xs.length + ys.length) * bytes ≤ 140737488355328) (hb1 : 1 ≤ bytes) (hbase : B ≤ w.heap.size) :
    ∃ v' w', (Builtin.append_ #[t, t] ty #[v, vx]).run P w = .ok v' w' ∧ Own w' B e size v' (xs ++ ys) ∧ w.grownBy w' v.ownBlock := by
  obtain ⟨ht, hi, hzs, hsz⟩ := hE
  obtain ⟨i, hi0, hi1⟩ := Option.map_eq_some_iff.1 hi
  simp only [Prod.mk.injEq] at hi1
  obtain ⟨hz, hsize, hby⟩ := hi1
  have hlen : xs.length + ys.length ≤ maxLen := by
    have : (xs.length + ys.length) * 1 ≤ (xs.length + ys.length) * bytes := Nat.mul_le_mul_left _ hb1
    unfold maxLen; omega
  obtain ⟨hl, a', cap, hv, hc1, hc2, hcells⟩ := hys
  by_cases hne : ys = []
  · subst hne
    subst hv
    rw [List.append_nil]
    refine ⟨v, w, ?_, hown, ⟨rfl, rfl, rfl, Nat.le_refl _, fun _ _ _ => rfl⟩⟩
    rcases hown.2.2 with ⟨rfl, _⟩ | ⟨g, cap', cur, rfl, _, _, hn, _⟩ <;> cases a' <;> simp [Builtin.append_, run_underlying ht, Go.sizeOf, typeInfo, Builtin.lenOf, Builtin.firstCells, loadCells, loadCellsFrom, storeCells, *]
  · obtain ⟨b, off, rfl, hlt, hcell⟩ := hcells hne
    obtain ⟨v', w', hr, h2, h3, _⟩ := run_append_own (P := P) w B t ty e i z size bytes ht hi0 hz hsize hby hzs hsz v xs.length xs.flatten hown.2 ⟨b, off, none⟩ ys.length cap ys.flatten (flatten_len hl) (by
      intro j u hu
      have hj := (List.getElem?_eq_some_iff.1 hu).1
      rw [flatten_len hl] at hj
      have hdm := Nat.div_add_mod j size
      have hq : j / size < ys.length := (Nat.div_lt_iff_lt_mul hsz).2 hj
      have hc := List.getElem?_eq_getElem hq
      have hcl : (ys[j / size]).length = size := hl _ (List.getElem_mem hq)
      have hm : j % size < (ys[j / size]).length := by rw [hcl]; exact Nat.mod_lt _ hsz
      have hu2 := flatten_at hl _ _ hc (j % size) _ (List.getElem?_eq_getElem hm)
      have e1 : j / size * size + j % size = j := by rw [Nat.mul_comm]; exact hdm
      rw [e1, hu] at hu2
      have := hcell _ _ hc (j % size) u (by rw [List.getElem?_eq_getElem hm]; exact hu2.symm)
      rw [Nat.add_assoc, e1] at this
      rw [addr_add_none]
      exact this) (by
      intro u hu
      obtain ⟨c, hc, hu⟩ := List.mem_flatten.1 hu
      exact h1 c hc u hu) hlen hbytes hbase
    refine ⟨v', w', by rw [hv]; exact hr, ⟨fun c hc => ?_, by simpa using h2⟩, h3⟩
    rcases List.mem_append.1 hc with hc | hc
    · exact hown.1 c hc
    · exact hl c hc

/-- A step of a region that draws: append of rows to a slice of the call's own. -/
theorem step_append_rows {ops : Array Oper} {o : Oper} {a : Act} {w : World} {K : Act → World → Prop} {Q : Exit → Act → World → Prop} {E : Prop} (hg : o.guard = none) (s x : Operand) (t e : TypeId) (size bytes : Nat) (z : Value)
    (hop : o.op = Op.call { callee := Callee.builtin Builtin.append, args := #[s, x], argTypes := #[t, t] }) (hE : EI P t e size bytes z) (B : Nat) (v : Value) (xs : List (List Value)) (hs : a.eval s = v) (hown : Own w B e size v xs)
    (vx : Value) (ys : List (List Value)) (hx : a.eval x = vx) (hys : Sl w size vx ys) (h1 : ∀ c ∈ ys, ∀ u ∈ c, u.oneCell' = true) (hbytes : (xs.length + ys.length) * bytes ≤ 140737488355328) (hb1 : 1 ≤ bytes) (hbase : B ≤ w.heap.size)
    (hK : ∀ v' w', Own w' B e size v' (xs ++ ys) → Below B w w' → K (a.put o.dst v') w') :
    if Region.wanted o (yielded ops a.tmps) = true then Oper.wp P o a w K Q else E := by
  have hw : Region.wanted o (yielded ops a.tmps) = true := by simp [Region.wanted, hg]
  rw [if_pos hw]
  obtain ⟨v', w', hr, h2, h3⟩ := run_append_rows (P := P) w t o.type e size bytes z hE B v xs hown vx ys hys h1 hbytes hb1 hbase
  unfold Oper.wp
  simp only [execOp, hop, resolve, invoke, builtin, Sem.run_bind, Sem.run_pure, Result.andThen_ok, List.map_toArray, List.map_cons, List.map_nil, hs, hx, hr]
  exact hK v' w' h2 (Below.of_grown h3 hbase (fun k hk => (hown.lt k hk).1))

/-- .. to nil: a copy. -/
theorem step_copy {ops : Array Oper} {o : Oper} {a : Act} {w : World} {K : Act → World → Prop} {Q : Exit → Act → World → Prop} {E : Prop} (hg : o.guard = none) (x : Operand) (t e : TypeId) (size bytes : Nat) (z : Value)
    (hop : o.op = Op.call { callee := Callee.builtin Builtin.append, args := #[.const (.slice none 0 0), x], argTypes := #[t, t] }) (hE : EI P t e size bytes z)
    (vx : Value) (ys : List (List Value)) (hx : a.eval x = vx) (hys : Sl w size vx ys) (h1 : ∀ c ∈ ys, ∀ u ∈ c, u.oneCell' = true) (hbytes : ys.length * bytes ≤ 140737488355328) (hb1 : 1 ≤ bytes)
    (hK : ∀ v' w', Own w' w.heap.size e size v' ys → Below w.heap.size w w' → K (a.put o.dst v') w') :
    if Region.wanted o (yielded ops a.tmps) = true then Oper.wp P o a w K Q else E :=
  step_append_rows hg _ x t e size bytes z hop hE w.heap.size (.slice none 0 0) [] rfl (Own.nil w _ e size) vx ys hx hys h1 (by simpa using hbytes) hb1 (Nat.le_refl _) (fun v' w' h2 h3 => hK v' w' (by simpa using h2) h3)
end
theorem Own.shape {w : World} {B : Nat} {e : TypeId} {sz : Nat} {v : Value} {xs : List (List Value)} (h : Own w B e sz v xs) : ∃ a cap, v = .slice a xs.length cap := by
  obtain ⟨_, a, cap, hv, _⟩ := h.sl
  exact ⟨a, cap, hv⟩
end Wk

/- Parts of slices of rows. -/
set_option linter.unusedVariables false
namespace Wk
open Go Go.RowKit Go.Sort
theorem Sl.take {w : World} {sz : Nat} {a : Option Addr} {n cap : Nat} {xs : List (List Value)} (h : Sl w sz (.slice a n cap) xs) (k : Nat) (hk : k ≤ xs.length) : Sl w sz (.slice a k cap) (xs.take k) := by
  obtain ⟨hl, a', cap', hv, h1, h2, h3⟩ := h
  simp only [Value.slice.injEq] at hv
  obtain ⟨rfl, rfl, rfl⟩ := hv
  have hlen : (xs.take k).length = k := by rw [List.length_take]; omega
  refine ⟨fun c hc => hl c (List.mem_of_mem_take hc), a, cap, by rw [hlen], by omega, h2, fun hne => ?_⟩
  obtain ⟨b, off, ha, hb, hc⟩ := h3 (fun h => hne (by rw [h]; simp))
  refine ⟨b, off, ha, hb, fun i c hi j u hu => hc i c ?_ j u hu⟩
  rw [List.getElem?_take] at hi
  split at hi
  · exact hi
  · simp at hi
theorem Sl.drop {w : World} {sz : Nat} {b off n cap : Nat} {xs : List (List Value)} (h : Sl w sz (.slice (some ⟨b, off, none⟩) n cap) xs) (k : Nat) (hk : k ≤ xs.length) : Sl w sz (.slice (some ⟨b, off + k * sz, none⟩) (n - k) (cap - k)) (xs.drop k) := by
  obtain ⟨hl, a', cap', hv, h1, h2, h3⟩ := h
  simp only [Value.slice.injEq] at hv
  obtain ⟨rfl, rfl, rfl⟩ := hv
  refine ⟨fun c hc => hl c (List.mem_of_mem_drop hc), _, cap - k, by rw [List.length_drop], by rw [List.length_drop]; omega, by omega, fun hne => ?_⟩
  obtain ⟨b', off', ha, hb, hc⟩ := h3 (fun h => hne (by rw [h]; simp))
  cases ha
  refine ⟨b, off + k * sz, rfl, hb, fun i c hi j u hu => ?_⟩
  rw [List.getElem?_drop] at hi
  have := hc (k + i) c hi j u hu
  rw [Nat.add_mul, ← Nat.add_assoc] at this
  exact this
section
variable {P : Program} {ops : Array Oper} {rest : List Oper} {o : Oper} {a : Act} {Q : Exit → Act → World → Prop} {w : World}
/-- append of rows that lie somewhere (or of none), to a slice of the call's own. -/
theorem wpList_append_any (hgd : o.guard = none) (s x : Operand) (t e : TypeId) (size bytes : Nat) (z : Value)
    (ho : o.op = .call { callee := .builtin .append, args := #[s, x], argTypes := #[t, t] }) (hE : EI P t e size bytes z)
    (B : Nat) (v : Value) (xs : List (List Value)) (hs : a.eval s = v) (hown : Own w B e size v xs)
    (vx : Value) (ys : List (List Value)) (hx : a.eval x = vx) (hys : Sl w size vx ys)
    (h1 : ∀ c ∈ ys, ∀ u ∈ c, u.oneCell' = true) (hbytes : (xs.length + ys.length) * bytes ≤ 140737488355328) (hb1 : 1 ≤ bytes) (hbase : B ≤ w.heap.size)
    (h : ∀ v' w', Own w' B e size v' (xs ++ ys) → Below B w w' → wpList P ops Q rest (a.put o.dst v') w') : wpList P ops Q (o :: rest) a w := by
  refine wpList_plain hgd fun _ hK => ?_
  obtain ⟨v', w', hr, h2, h3⟩ := run_append_rows (P := P) w t o.type e size bytes z hE B v xs hown vx ys hys h1 hbytes hb1 hbase
  unfold Oper.wp execOp
  simp only [ho, resolve, invoke, builtin, Sem.run_bind, Sem.run_pure, Result.andThen_ok, List.map_toArray, List.map_cons, List.map_nil, hs, hx, hr]
  exact hK _ _ (h v' w' h2 (Below.of_grown h3 hbase (fun k hk => (hown.lt k hk).1)))
end
end Wk

/- Small laws of my own, the second part. -/
set_option linter.unusedVariables false
namespace Wk
open Go Go.RowKit Go.Sort
theorem bcellB {B : Nat} {W w1 : World} (hb : Below B W w1) : (∀ b o, b < B → w1.cell? ⟨b, o, none⟩ = W.cell? ⟨b, o, none⟩) ∧ (∀ b o, b < B → w1.frozen? ⟨b, o, none⟩ = W.frozen? ⟨b, o, none⟩) :=
  ⟨fun b o h => hb.cell (p := ⟨b, o, none⟩) h, fun b o h => hb.frozen (p := ⟨b, o, none⟩) h⟩
theorem Below.stepG {B B' : Nat} {a W W' : World} (h : Below B a W) (k : Below B' W W') (hB : B ≤ B') : Below B a W' := h.trans (k.mono hB)
theorem Below.stepB {B : Nat} {w W W' : World} (h : Below w.heap.size w W) (k : Below B W W') (hB : w.heap.size ≤ B) : Below w.heap.size w W' := h.trans (k.mono hB)
theorem Sl.shape {w : World} {sz : Nat} {v : Value} {xs : List (List Value)} (h : Sl w sz v xs) : ∃ a cap, v = .slice a xs.length cap ∧ xs.length ≤ cap ∧ cap ≤ 9223372036854775807 := by
  obtain ⟨_, a, cap, hv, h1, h2, _⟩ := h
  exact ⟨a, cap, hv, h1, by unfold maxLen at h2; exact h2⟩
theorem Sl.empty (w : World) (sz : Nat) (a : Option Addr) (cap : Nat) (h : cap ≤ 9223372036854775807) : Sl w sz (.slice a 0 cap) [] :=
  ⟨by simp, a, cap, rfl, Nat.zero_le _, by unfold maxLen; exact h, fun h => absurd rfl h⟩
/-- What lies behind the first k, in both the forms that an address takes. -/
theorem Sl.behind {w : World} {sz : Nat} {b off n cap : Nat} {xs : List (List Value)} (h : Sl w sz (.slice (some ⟨b, off, none⟩) n cap) xs) (k : Nat) (hk : k ≤ xs.length) :
    (cap = k ∧ n = k ∧ xs.drop k = [] ∧ Sl w sz (.slice (some ⟨b, off, none⟩) 0 0) (xs.drop k)) ∨ (cap ≠ k ∧ Sl w sz (.slice (some ⟨b, off + k * sz, none⟩) (n - k) (cap - k)) (xs.drop k)) := by
  by_cases hc : cap = k
  · obtain ⟨_, a', cap', hv, h1, h2, _⟩ := id h
    simp only [Value.slice.injEq] at hv
    obtain ⟨_, rfl, rfl⟩ := hv
    have e : xs.drop k = [] := List.drop_eq_nil_of_le (by omega)
    refine .inl ⟨hc, by omega, e, ?_⟩
    rw [e]
    exact Sl.empty _ _ _ _ (by decide)
  · exact .inr ⟨hc, h.drop k hk⟩
end Wk

/- Small laws of my own, the third part: append with a word on all other blocks. -/
set_option linter.unusedVariables false
namespace Wk
open Go Go.RowKit Go.Sort
section
variable {P : Program} {ops : Array Oper} {rest : List Oper} {o : Oper} {a : Act} {Q : Exit → Act → World → Prop} {w : World}
/-- append of rows that lie somewhere (or of none), to a slice of the call's own: all other blocks stay. -/
theorem wpList_append_oth (hgd : o.guard = none) (s x : Operand) (t e : TypeId) (size bytes : Nat) (z : Value)
    (ho : o.op = .call { callee := .builtin .append, args := #[s, x], argTypes := #[t, t] }) (hE : EI P t e size bytes z)
    (B : Nat) (v : Value) (xs : List (List Value)) (hs : a.eval s = v) (hown : Own w B e size v xs)
    (vx : Value) (ys : List (List Value)) (hx : a.eval x = vx) (hys : Sl w size vx ys)
    (h1 : ∀ c ∈ ys, ∀ u ∈ c, u.oneCell' = true) (hbytes : (xs.length + ys.length) * bytes ≤ 140737488355328) (hb1 : 1 ≤ bytes) (hbase : B ≤ w.heap.size)
    (h : ∀ v' w', Own w' B e size v' (xs ++ ys) → Below B w w' → (∀ b o, b < w.heap.size → (∀ k, v.ownBlock = some k → k ≠ b) → w'.cell? ⟨b, o, none⟩ = w.cell? ⟨b, o, none⟩) → wpList P ops Q rest (a.put o.dst v') w') : wpList P ops Q (o :: rest) a w := by
  refine wpList_plain hgd fun _ hK => ?_
  obtain ⟨v', w', hr, h2, h3⟩ := run_append_rows (P := P) w t o.type e size bytes z hE B v xs hown vx ys hys h1 hbytes hb1 hbase
  unfold Oper.wp execOp
  simp only [ho, resolve, invoke, builtin, Sem.run_bind, Sem.run_pure, Result.andThen_ok, List.map_toArray, List.map_cons, List.map_nil, hs, hx, hr]
  exact hK _ _ (h v' w' h2 (Below.of_grown h3 hbase (fun k hk => (hown.lt k hk).1)) (fun b o hb hne => World.cell?_of_block (a := ⟨b, o, none⟩) (h3.block b hb (fun e => hne b e.symm rfl))))
end
end Wk

/- Small laws of my own, the fourth part: a store into a slice of the call's own. -/
set_option linter.unusedVariables false
namespace Wk
open Go Go.RowKit Go.Sort

theorem heap_setCell_at (w : World) (g i : Nat) (cs : Array Value) (t : TypeId) (fr : Nat × Nat) (v : Value) (hg : w.heap[g]? = some (.cells cs t fr)) :
    (w.setCell ⟨g, i, none⟩ v).heap[g]? = some (.cells (cs.setIfInBounds i v) t fr) := by
  simp [World.setCell, Array.getElem?_modify, hg]
theorem set_flatten {sz : Nat} : ∀ {xs : List (List Value)} (h : ∀ c ∈ xs, c.length = sz) (i : Nat) (c : List Value) (hc : xs[i]? = some c) (j : Nat) (u : Value) (hj : j < sz),
    xs.flatten.set (i * sz + j) u = (xs.set i (c.set j u)).flatten
  | [], _, i, c, hc, _, _, _ => by simp at hc
  | x :: xs, h, 0, c, hc, j, u, hj => by
    simp at hc; subst hc
    have hx := h x (by simp)
    rw [List.flatten_cons, Nat.zero_mul, Nat.zero_add, List.set_append_left _ _ (by omega)]; rfl
  | x :: xs, h, i + 1, c, hc, j, u, hj => by
    have hx := h x (by simp)
    rw [List.flatten_cons, List.set_append_right _ _ (by rw [hx, Nat.succ_mul]; omega), hx, show (i + 1) * sz + j - sz = i * sz + j from by rw [Nat.succ_mul]; omega]
    rw [set_flatten (fun c hc => h c (by simp [hc])) i c (by simpa using hc) j u hj]
    simp
/-- An own slice that holds something: where it lies. -/
theorem Own.at {w : World} {B : Nat} {e : TypeId} {sz : Nat} {v : Value} {xs : List (List Value)} (h : Own w B e sz v xs) (hp : 0 < xs.length) :
    ∃ g cap, v = .slice (some ⟨g, 0, none⟩) xs.length cap ∧ B ≤ g ∧ g < w.heap.size ∧ xs.length ≤ cap ∧ cap ≤ 9223372036854775807 ∧ (∀ o, w.frozen? ⟨g, o, none⟩ = false) ∧ ∀ i c, xs[i]? = some c → ∀ j u, c[j]? = some u → w.cell? ⟨g, i * sz + j, none⟩ = some u := by
  obtain ⟨hl, hx, h2⟩ := id h
  rcases h2 with ⟨rfl, h0⟩ | ⟨g, cap, cur, rfl, hb, hg, hn, hm, hs, ht⟩
  · omega
  · refine ⟨g, cap, rfl, hb, (Array.getElem?_eq_some_iff.1 hg).1, hn, by unfold maxLen at hm; exact hm, fun o => ?_, fun i c hc j u hu => ?_⟩
    · unfold World.frozen?
      simp [hg]
    · obtain ⟨_, a', cap', hv, _, _, hcell⟩ := h.sl
      obtain ⟨b, off, hab, _, hcc⟩ := hcell (by intro h; rw [h] at hp; simp at hp)
      simp only [Value.slice.injEq] at hv
      rw [hab] at hv
      simp only [Option.some.injEq, Addr.mk.injEq] at hv
      obtain ⟨⟨rfl, rfl, _⟩, _, _⟩ := hv
      have := hcc i c hc j u hu
      rwa [Nat.zero_add] at this
theorem Own.set {w : World} {B : Nat} {e : TypeId} {sz g n cap : Nat} {xs : List (List Value)} (h : Own w B e sz (.slice (some ⟨g, 0, none⟩) n cap) xs) {i : Nat} {c : List Value} (hc : xs[i]? = some c) {j : Nat} (hj : j < sz) (u : Value) :
    Own (w.setCell ⟨g, i * sz + j, none⟩ u) B e sz (.slice (some ⟨g, 0, none⟩) n cap) (xs.set i (c.set j u)) := by
  obtain ⟨hl, hx, h2⟩ := h
  have hcl := hl c (List.mem_of_getElem? hc)
  refine ⟨fun d hd => ?_, ?_⟩
  · rcases List.mem_or_eq_of_mem_set hd with hd | rfl
    · exact hl d hd
    · rw [List.length_set]; exact hcl
  · have hx' : (xs.set i (c.set j u)).flatten.length = (xs.set i (c.set j u)).length * sz := by
      refine flatten_len fun d hd => ?_
      rcases List.mem_or_eq_of_mem_set hd with hd | rfl
      · exact hl d hd
      · rw [List.length_set]; exact hcl
    rw [List.length_set] at hx' ⊢
    refine ⟨hx', ?_⟩
    rcases h2 with ⟨h0, _⟩ | ⟨g', cap', cur, hv, hb, hg, hn, hm, hs, ht⟩
    · cases h0
    · simp only [Value.slice.injEq, Option.some.injEq, Addr.mk.injEq] at hv
      obtain ⟨⟨rfl, _, _⟩, rfl, rfl⟩ := hv
      refine .inr ⟨g, cap, _, rfl, hb, heap_setCell_at w g _ cur e (0, 0) u hg, hn, hm, by rw [Array.size_setIfInBounds]; exact hs, ?_⟩
      rw [Array.toList_setIfInBounds, List.take_set, ht, set_flatten hl i c hc j u hj]
end Wk

/- Small laws of my own, the fifth part: an append as a step of a region that draws; what lies behind the first k. -/
set_option linter.unusedVariables false
namespace Wk
open Go Go.RowKit Go.Sort
theorem step_append_any {P : Program} {ops : Array Oper} {o : Oper} {a : Act} {w : World} {K : Act → World → Prop} {Q : Exit → Act → World → Prop} {F : Prop} (hgd : o.guard = none) (s x : Operand) (t e : TypeId) (size bytes : Nat) (z : Value)
    (ho : o.op = .call { callee := .builtin .append, args := #[s, x], argTypes := #[t, t] }) (hE : EI P t e size bytes z)
    (B : Nat) (v : Value) (xs : List (List Value)) (hs : a.eval s = v) (hown : Own w B e size v xs)
    (vx : Value) (ys : List (List Value)) (hx : a.eval x = vx) (hys : Sl w size vx ys)
    (h1 : ∀ c ∈ ys, ∀ u ∈ c, u.oneCell' = true) (hbytes : (xs.length + ys.length) * bytes ≤ 140737488355328) (hb1 : 1 ≤ bytes) (hbase : B ≤ w.heap.size)
    (h : ∀ v' w', Own w' B e size v' (xs ++ ys) → Below B w w' → K (a.put o.dst v') w') : if Region.wanted o (yielded ops a.tmps) = true then Oper.wp P o a w K Q else F := by
  rw [if_pos (by simp [Region.wanted, hgd])]
  obtain ⟨v', w', hr, h2, h3⟩ := run_append_rows (P := P) w t o.type e size bytes z hE B v xs hown vx ys hys h1 hbytes hb1 hbase
  unfold Oper.wp execOp
  simp only [ho, resolve, invoke, builtin, Sem.run_bind, Sem.run_pure, Result.andThen_ok, List.map_toArray, List.map_cons, List.map_nil, hs, hx, hr]
  exact h v' w' h2 (Below.of_grown h3 hbase (fun k hk => (hown.lt k hk).1))
end Wk
