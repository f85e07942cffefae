
/- Slices whose elements are rows of cells: what is read, what is owned, append. -/
import Derived.Test.YticfcigkldkhmaaKit
import Derived.Laws.AppendOwn
set_option linter.unusedVariables false
namespace Wk
open Go Go.RowKit Go.Sort

/-- A slice that reads as a list of rows of 'sz' cells. -/
def Sl (w : World) (sz : Nat) (v : Value) (xs : List (List Value)) : Prop :=
  (∀ c ∈ xs, c.length = sz) ∧ ∃ a cap, v = .slice a xs.length cap ∧ xs.length ≤ cap ∧ cap ≤ maxLen ∧
    (xs ≠ [] → ∃ b off, a = some ⟨b, off, none⟩ ∧ b < w.heap.size ∧ ∀ i c, xs[i]? = some c → ∀ j u, c[j]? = some u → w.cell? ⟨b, off + i * sz + j, none⟩ = some u)
/-- A slice of the call's own (its block is B or behind it), with room to grow. -/
def Own (w : World) (B : Nat) (e : TypeId) (sz : Nat) (v : Value) (xs : List (List Value)) : Prop :=
  (∀ c ∈ xs, c.length = sz) ∧ w.ownsRow B e sz v xs.length xs.flatten
/-- What is asked of an element's type. -/
def EI (P : Program) (t e : TypeId) (size bytes : Nat) (z : Value) : Prop :=
  P.underlying t = some (.slice e) ∧ (P.info? e).map (fun i => (i.zero, i.size, i.bytes)) = some (some z, size, bytes) ∧ z.cells.size = size ∧ 0 < size

theorem addr_add_none (b off j : Nat) : (⟨b, off, none⟩ : Addr).add j = ⟨b, off + j, none⟩ := by unfold Addr.add; split <;> simp_all
theorem flatten_at {sz : Nat} : ∀ {xs : List (List Value)} (h : ∀ c ∈ xs, c.length = sz) (i : Nat) (c : List Value) (hc : xs[i]? = some c) (j : Nat) (u : Value) (hu : c[j]? = some u), xs.flatten[i * sz + j]? = some u
  | [], _, i, c, hc, _, _, _ => by simp at hc
  | x :: xs, h, 0, c, hc, j, u, hu => by
    simp at hc; subst hc
    have hj := (List.getElem?_eq_some_iff.1 hu).1
    rw [List.flatten_cons, Nat.zero_mul, Nat.zero_add, List.getElem?_append_left hj]; exact hu
  | x :: xs, h, i + 1, c, hc, j, u, hu => by
    have hx := h x (by simp)
    rw [List.flatten_cons, List.getElem?_append_right (by rw [hx, Nat.succ_mul]; omega), hx, show (i + 1) * sz + j - sz = i * sz + j from by rw [Nat.succ_mul]; omega]
    exact flatten_at (fun c hc => h c (by simp [hc])) i c (by simpa using hc) j u hu
theorem flatten_len {sz : Nat} : ∀ {xs : List (List Value)} (h : ∀ c ∈ xs, c.length = sz), xs.flatten.length = xs.length * sz
  | [], _ => by simp
  | x :: xs, h => by
    rw [List.flatten_cons, List.length_append, h x (by simp), flatten_len (fun c hc => h c (by simp [hc])), List.length_cons, Nat.succ_mul]; omega

theorem Own.nil (w : World) (B : Nat) (e : TypeId) (sz : Nat) : Own w B e sz (.slice none 0 0) [] := ⟨by simp, by simpa using World.ownsRow_nil w B e sz⟩
theorem Own.sl {w : World} {B : Nat} {e : TypeId} {sz : Nat} {v : Value} {xs : List (List Value)} (h : Own w B e sz v xs) : Sl w sz v xs := by
  obtain ⟨hl, hx, h2⟩ := h
  refine ⟨hl, ?_⟩
  rcases h2 with ⟨rfl, h0⟩ | ⟨g, cap, cur, rfl, hb, hg, hn, hm, hs, ht⟩
  · have : xs = [] := List.eq_nil_of_length_eq_zero h0
    subst this
    exact ⟨none, 0, rfl, Nat.le_refl _, by unfold maxLen; omega, fun h => absurd rfl h⟩
  · refine ⟨some ⟨g, 0, none⟩, cap, rfl, hn, hm, fun _ => ⟨g, 0, rfl, (Array.getElem?_eq_some_iff.1 hg).1, fun i c hc j u hu => ?_⟩⟩
    have hf := flatten_at hl i c hc j u hu
    have ho : w.ownsRow B e sz (.slice (some ⟨g, 0, none⟩) xs.length cap) xs.length xs.flatten := ⟨hx, .inr ⟨g, cap, cur, rfl, hb, hg, hn, hm, hs, ht⟩⟩
    have := ho.cells (g := g) rfl _ _ hf
    rw [addr_add_none] at this
    rw [Nat.zero_add] at this ⊢
    exact this
theorem Own.lt {w : World} {B : Nat} {e : TypeId} {sz : Nat} {v : Value} {xs : List (List Value)} (h : Own w B e sz v xs) : ∀ k, v.ownBlock = some k → B ≤ k ∧ k < w.heap.size := h.2.lt
theorem Own.alloc {w : World} {B : Nat} {e : TypeId} {sz : Nat} {v : Value} {xs : List (List Value)} (h : Own w B e sz v xs) (o : Obj) : Own (w.alloc o) B e sz v xs := ⟨h.1, h.2.alloc o⟩
theorem Own.below {w w' : World} {B : Nat} {e : TypeId} {sz : Nat} {v : Value} {xs : List (List Value)} (h : Own w B e sz v xs) (hb : Below w.heap.size w w') : Own w' B e sz v xs :=
  ⟨h.1, h.2.kept (row := none) ⟨hb.os, hb.tape, hb.output, hb.size, fun k hk _ => hb.block k hk⟩ (by cases hv : v.ownBlock <;> simp)⟩
theorem Own.dr {w : World} {B : Nat} {e : TypeId} {sz : Nat} {v : Value} {xs : List (List Value)} (h : Own w B e sz v xs) : Own w.drew B e sz v xs := h.below (Below.drew (Below.refl _ _))
theorem Sl.below {w w' : World} {sz : Nat} {v : Value} {xs : List (List Value)} (h : Sl w sz v xs) (hb : Below w.heap.size w w') : Sl w' sz v xs := by
  obtain ⟨hl, a, cap, rfl, h1, h2, h3⟩ := h
  refine ⟨hl, a, cap, rfl, h1, h2, fun hne => ?_⟩
  obtain ⟨b, off, rfl, hlt, hc⟩ := h3 hne
  exact ⟨b, off, rfl, Nat.lt_of_lt_of_le hlt hb.size, fun i c hi j u hu => (hb.cell (p := ⟨b, _, none⟩) hlt).trans (hc i c hi j u hu)⟩
/-- A slice that is there and was read stays so below a bound. -/
theorem Sl.below' {w w' : World} {B sz : Nat} {a : Option Addr} {n cap : Nat} {xs : List (List Value)} (h : Sl w sz (.slice a n cap) xs) (hb : Below B w w') (ha : ∀ x, a = some x → x.block < B) : Sl w' sz (.slice a n cap) xs := by
  obtain ⟨hl, a', cap', he, h1, h2, h3⟩ := h
  cases he
  refine ⟨hl, a, cap, rfl, h1, h2, fun hne => ?_⟩
  obtain ⟨b, off, rfl, hlt, hc⟩ := h3 hne
  exact ⟨b, off, rfl, Nat.lt_of_lt_of_le hlt hb.size, fun i c hi j u hu => (hb.cell (p := ⟨b, off + i * sz + j, none⟩) (show b < B from ha ⟨b, off, none⟩ rfl)).trans (hc i c hi j u hu)⟩

theorem Below.of_grown {B : Nat} {w w' : World} {v : Value} (hg : w.grownBy w' v.ownBlock) (hB : B ≤ w.heap.size) (hv : ∀ k, v.ownBlock = some k → B ≤ k) : Below B w w' :=
  (Below.refl B w).grown hg hB hv

theorem sl_new {W : World} {sz b : Nat} {c : List Value} {E : TypeId} (hb : b = W.heap.size) (hc : c.length = sz) : Sl (W.alloc (.cells c.toArray E)) sz (.slice (some ⟨b, 0, none⟩) 1 1) [c] := by
  subst hb
  refine ⟨by simpa using hc, some ⟨W.heap.size, 0, none⟩, 1, rfl, by simp, by unfold maxLen; omega, fun _ => ⟨W.heap.size, 0, rfl, by simp, fun i c' hi j u hu => ?_⟩⟩
  match i, hi with
  | 0, hi =>
    simp at hi; subst hi
    simp only [Nat.zero_mul, Nat.zero_add, World.cell?_alloc_new]
    simpa using hu
theorem IsRow.len_le {w : World} {a : Option Addr} {len cap : Nat} {zs : List Int} (h : IsRow .i64 w a len cap zs) : len ≤ 9223372036854775807 ∧ len ≤ zs.length := by
  rcases h with ⟨_, rfl, _, rfl⟩ | ⟨x, _, h1, h2, h3, _⟩
  · exact ⟨by omega, Nat.le_refl _⟩
  · unfold maxLen at h2; omega
theorem IsRow.opened {w : World} {a : Option Addr} {len cap : Nat} {zs : List Int} (h : IsRow .i64 w a len cap zs) (hp : 0 < len) : ∃ b off, a = some ⟨b, off, none⟩ ∧ b < w.heap.size ∧
    ∀ i, i < len → w.cell? ⟨b, off + i, none⟩ = some (.int .i64 (zs.getD i 0)) ∧ -9223372036854775808 ≤ zs.getD i 0 ∧ zs.getD i 0 ≤ 9223372036854775807 := by
  rcases h with ⟨_, rfl, _⟩ | ⟨x, rfl, h1, h2, h3, hc, hw⟩
  · omega
  · obtain ⟨b, off, spot⟩ := x
    have h0 := hc 0 (by omega)
    have hs : spot = none := by
      have := World.cell?_spot h0
      unfold Addr.add at this
      simpa using this
    subst hs
    refine ⟨b, off, rfl, ?_, fun i hi => ⟨?_, ?_⟩⟩
    · have := World.block_lt_of_cell? _ _ h0
      rw [addr_add_none] at this; exact this
    · have := hc i (by omega)
      rw [addr_add_none] at this; exact this
    · have hm : zs.getD i 0 ∈ zs := by
        rw [List.getD_eq_getElem?_getD, List.getElem?_eq_getElem (by omega)]
        exact List.getElem_mem _
      exact wf_i64 (hw _ hm)
theorem take_snoc_getD {α β : Type} (f : α → β) (zs : List α) (d : α) (k : Nat) (h : k < zs.length) : (zs.take (k + 1)).map f = (zs.take k).map f ++ [f (zs.getD k d)] := by
  rw [List.take_succ_eq_append_getElem h, List.map_append, List.getD_eq_getElem?_getD, List.getElem?_eq_getElem h]; rfl
theorem take_map_len {α β : Type} (f : α → β) (zs : List α) (k : Nat) (h : k ≤ zs.length) : ((zs.take k).map f).length = k := by simp; omega

section
variable {P : Program} {ops : Array Oper} {rest : List Oper} {o : Oper} {a : Act} {Q : Exit → Act → World → Prop} {w : World}
/-- append of rows that lie somewhere, to a slice of the call's own. -/
theorem wpList_append_rows (hgd : o.guard = none) (s x : Operand) (t e : TypeId) (size bytes : Nat) (z : Value)
    (ho : o.op = .call { callee := .builtin .append, args := #[s, x], argTypes := #[t, t] }) (hE : EI P t e size bytes z)
    (B : Nat) (v : Value) (xs : List (List Value)) (hs : a.eval s = v) (hown : Own w B e size v xs)
    (vx : Value) (ys : List (List Value)) (hx : a.eval x = vx) (hys : Sl w size vx ys)
    (h1 : ∀ c ∈ ys, ∀ u ∈ c, u.oneCell' = true) (hbytes : (xs.length + ys.length) * bytes ≤ 140737488355328) (hb1 : 1 ≤ bytes) (hbase : B ≤ w.heap.size)
    (hne : ys ≠ [])
    (h : ∀ v' w', Own w' B e size v' (xs ++ ys) → w.grownBy w' v.ownBlock → Below B w w' → wpList P ops Q rest (a.put o.dst v') w') : wpList P ops Q (o :: rest) a w := by
  obtain ⟨ht, hi, hzs, hsz⟩ := hE
  obtain ⟨i, hi0, hi1⟩ := Option.map_eq_some_iff.1 hi
  simp only [Prod.mk.injEq] at hi1
  obtain ⟨hz, hsize, hby⟩ := hi1
  obtain ⟨hl, a', cap, hv, hc1, hc2, hcells⟩ := hys
  obtain ⟨b, off, rfl, hlt, hcell⟩ := hcells hne
  have hlen : xs.length + ys.length ≤ maxLen := by
    have : (xs.length + ys.length) * 1 ≤ (xs.length + ys.length) * bytes := Nat.mul_le_mul_left _ hb1
    unfold maxLen; omega
  refine wpList_append_own w hgd s x t ho B e i z size bytes ht hi0 hz hsize hby hzs hsz v xs.length xs.flatten hs hown.2 ⟨b, off, none⟩ ys.length cap ys.flatten (hx.trans hv) (flatten_len hl) ?_ ?_ hlen hbytes hbase ?_
  · intro j u hu
    have hj := (List.getElem?_eq_some_iff.1 hu).1
    rw [flatten_len hl] at hj
    have hdm := Nat.div_add_mod j size
    have hq : j / size < ys.length := (Nat.div_lt_iff_lt_mul hsz).2 hj
    have hc := List.getElem?_eq_getElem hq
    have hcl : (ys[j / size]).length = size := hl _ (List.getElem_mem hq)
    have hm : j % size < (ys[j / size]).length := by rw [hcl]; exact Nat.mod_lt _ hsz
    have hu2 := flatten_at hl _ _ hc (j % size) _ (List.getElem?_eq_getElem hm)
    have e1 : j / size * size + j % size = j := by rw [Nat.mul_comm]; exact hdm
    rw [e1, hu] at hu2
    have := hcell _ _ hc (j % size) u (by rw [List.getElem?_eq_getElem hm]; exact hu2.symm)
    rw [Nat.add_assoc, e1] at this
    rw [addr_add_none]
    exact this
  · intro u hu
    obtain ⟨c, hc, hu⟩ := List.mem_flatten.1 hu
    exact h1 c hc u hu
  · intro v' w' hown' hgr _
    refine h v' w' ⟨fun c hc => ?_, ?_⟩ hgr (Below.of_grown hgr hbase (fun k hk => (hown.lt k hk).1))
    · rcases List.mem_append.1 hc with hc | hc
      · exact hown.1 c hc
      · exact hl c hc
    · simpa using hown'
end
end Wk
